/-
  No cell of these rows narrows 'for every input' (looked for: loops, veiled, ifaces, maps, wideKeys, modest, calm, conditions, laid).
  DERIVED. THE GIVEN ROWS OF THIS SEAT. 8 by the template 'for every input the law returns true; each argument reads behind the call as it read before'; 0 by the template 'total and deterministic' (their statements: YtlhncpbcbpdcfaaTotals.lean).
  GIVEN WITH THE SEED: the statements are not yours to turn. If you find one false, say at which input.
  Laid BY PROGRAM, IN A SANDBOX (cutbox-rows.mjs): the forced cells as the released guide's own fill.sh prints them over the translation 4e2e690b1c6cdee6… (all of the seat's roots in one cut). By AI agents, Wed Nov 11 2026. No macro, syntax, notation, axiom, sorry.
-/
import Derived.Test.YtlhncpbcbpdcfaaChecked
import GoSem.Claim
import GoSem.ClaimJoined
import GoSem.ClaimMapViews
import Derived.JoinedTies
import Derived.KernelRfl
namespace Go.Proofs.Ytlhncpbcbpdcfaa
/- THE CELL 'sum', in the pinned program and in every row, IS THE sha256 OF THE DUMP (.gsa) THAT YtlhncpbcbpdcfaaProg.lean LOADS. Nothing in Lean hashes anything: it is a label: what it is worth is what the hold of that sum in a sandbox is worth. -/
noncomputable def Try.pinned : Pinned := { name := "ytlhncpbcbpdcfaa", sum := "4e2e690b1c6cdee618cb4b92b426c19cb2036c97d0c97e584f4ef8935eb6e8fc", checked := Try.checked }
namespace Rows
def none {H : Type} : Left H := { results := [], args := [] }

/-- 'barographlaw.Names': WHATEVER THE INPUT: true; the input reads as it did. -/
def namesSpec : ChangeSpec := { name := "names", fn := fun _ => fun
  | [] => { results := [.lit (.bool true)], args := [] }
  | _ => none }
def namesRow : OpenClaim := { program := "ytlhncpbcbpdcfaa", sum := "4e2e690b1c6cdee618cb4b92b426c19cb2036c97d0c97e584f4ef8935eb6e8fc", func := "barograph/barographlaw.Names", spec := "names", plainKeys := false, apart := false }
def NamesSaid : Prop := namesRow.holds Try.pinned (OpenSpec.ofChange namesSpec)

/-- ITS FALSE NEIGHBOUR: 'it returns false'. Refute it at one input. -/
def namesWrong : ChangeSpec := { name := "names", fn := fun _ => fun
  | [] => { results := [.lit (.bool false)], args := [] }
  | _ => none }
def NamesWrongFalsely : Prop := namesRow.holds Try.pinned (OpenSpec.ofChange namesWrong)

/-- 'barographlaw.QuantJoins': WHATEVER THE INPUT: true; the input reads as it did. -/
def quantJoinsSpec : ChangeSpec := { name := "quantJoins", fn := fun _ => fun
  | [d1, d2] => { results := [.lit (.bool true)], args := [d1, d2] }
  | _ => none }
def quantJoinsRow : OpenClaim := { program := "ytlhncpbcbpdcfaa", sum := "4e2e690b1c6cdee618cb4b92b426c19cb2036c97d0c97e584f4ef8935eb6e8fc", func := "barograph/barographlaw.QuantJoins", spec := "quantJoins", unfollowed := true, recurses := true, plainKeys := false, apart := false }
def QuantJoinsSaid : Prop := quantJoinsRow.holds Try.pinned (OpenSpec.ofChange quantJoinsSpec)

/-- ITS FALSE NEIGHBOUR: 'it returns false'. Refute it at one input. -/
def quantJoinsWrong : ChangeSpec := { name := "quantJoins", fn := fun _ => fun
  | [d1, d2] => { results := [.lit (.bool false)], args := [d1, d2] }
  | _ => none }
def QuantJoinsWrongFalsely : Prop := quantJoinsRow.holds Try.pinned (OpenSpec.ofChange quantJoinsWrong)

/-- 'barographlaw.QuantGuesses': WHATEVER THE INPUT: true; the input reads as it did. -/
def quantGuessesSpec : ChangeSpec := { name := "quantGuesses", fn := fun _ => fun
  | [d1, d2, d3, d4] => { results := [.lit (.bool true)], args := [d1, d2, d3, d4] }
  | _ => none }
def quantGuessesRow : OpenClaim := { program := "ytlhncpbcbpdcfaa", sum := "4e2e690b1c6cdee618cb4b92b426c19cb2036c97d0c97e584f4ef8935eb6e8fc", func := "barograph/barographlaw.QuantGuesses", spec := "quantGuesses", unfollowed := true, recurses := true, plainKeys := false, apart := false }
def QuantGuessesSaid : Prop := quantGuessesRow.holds Try.pinned (OpenSpec.ofChange quantGuessesSpec)

/-- ITS FALSE NEIGHBOUR: 'it returns false'. Refute it at one input. -/
def quantGuessesWrong : ChangeSpec := { name := "quantGuesses", fn := fun _ => fun
  | [d1, d2, d3, d4] => { results := [.lit (.bool false)], args := [d1, d2, d3, d4] }
  | _ => none }
def QuantGuessesWrongFalsely : Prop := quantGuessesRow.holds Try.pinned (OpenSpec.ofChange quantGuessesWrong)

/-- 'barographlaw.QuantCounts': WHATEVER THE INPUT: true; the input reads as it did. -/
def quantCountsSpec : ChangeSpec := { name := "quantCounts", fn := fun _ => fun
  | [d1, d2] => { results := [.lit (.bool true)], args := [d1, d2] }
  | _ => none }
def quantCountsRow : OpenClaim := { program := "ytlhncpbcbpdcfaa", sum := "4e2e690b1c6cdee618cb4b92b426c19cb2036c97d0c97e584f4ef8935eb6e8fc", func := "barograph/barographlaw.QuantCounts", spec := "quantCounts", plainKeys := false, apart := false }
def QuantCountsSaid : Prop := quantCountsRow.holds Try.pinned (OpenSpec.ofChange quantCountsSpec)

/-- ITS FALSE NEIGHBOUR: 'it returns false'. Refute it at one input. -/
def quantCountsWrong : ChangeSpec := { name := "quantCounts", fn := fun _ => fun
  | [d1, d2] => { results := [.lit (.bool false)], args := [d1, d2] }
  | _ => none }
def QuantCountsWrongFalsely : Prop := quantCountsRow.holds Try.pinned (OpenSpec.ofChange quantCountsWrong)

/-- 'barographlaw.QuantRanks': WHATEVER THE INPUT: true; the input reads as it did. -/
def quantRanksSpec : ChangeSpec := { name := "quantRanks", fn := fun _ => fun
  | [d1, d2, d3] => { results := [.lit (.bool true)], args := [d1, d2, d3] }
  | _ => none }
def quantRanksRow : OpenClaim := { program := "ytlhncpbcbpdcfaa", sum := "4e2e690b1c6cdee618cb4b92b426c19cb2036c97d0c97e584f4ef8935eb6e8fc", func := "barograph/barographlaw.QuantRanks", spec := "quantRanks", unfollowed := true, recurses := true, plainKeys := false, apart := false }
def QuantRanksSaid : Prop := quantRanksRow.holds Try.pinned (OpenSpec.ofChange quantRanksSpec)

/-- ITS FALSE NEIGHBOUR: 'it returns false'. Refute it at one input. -/
def quantRanksWrong : ChangeSpec := { name := "quantRanks", fn := fun _ => fun
  | [d1, d2, d3] => { results := [.lit (.bool false)], args := [d1, d2, d3] }
  | _ => none }
def QuantRanksWrongFalsely : Prop := quantRanksRow.holds Try.pinned (OpenSpec.ofChange quantRanksWrong)

/-- 'barographlaw.TagsMays': WHATEVER THE INPUT: true; the input reads as it did. -/
def tagsMaysSpec : ChangeSpec := { name := "tagsMays", fn := fun _ => fun
  | [d] => { results := [.lit (.bool true)], args := [d] }
  | _ => none }
def tagsMaysRow : OpenClaim := { program := "ytlhncpbcbpdcfaa", sum := "4e2e690b1c6cdee618cb4b92b426c19cb2036c97d0c97e584f4ef8935eb6e8fc", func := "barograph/barographlaw.TagsMays", spec := "tagsMays", unfollowed := true, recurses := true, plainKeys := false, apart := false }
def TagsMaysSaid : Prop := tagsMaysRow.holds Try.pinned (OpenSpec.ofChange tagsMaysSpec)

/-- ITS FALSE NEIGHBOUR: 'it returns false'. Refute it at one input. -/
def tagsMaysWrong : ChangeSpec := { name := "tagsMays", fn := fun _ => fun
  | [d] => { results := [.lit (.bool false)], args := [d] }
  | _ => none }
def TagsMaysWrongFalsely : Prop := tagsMaysRow.holds Try.pinned (OpenSpec.ofChange tagsMaysWrong)

/-- 'barographlaw.TagsSelects': WHATEVER THE INPUT: true; the input reads as it did. -/
def tagsSelectsSpec : ChangeSpec := { name := "tagsSelects", fn := fun _ => fun
  | [d1, d2] => { results := [.lit (.bool true)], args := [d1, d2] }
  | _ => none }
def tagsSelectsRow : OpenClaim := { program := "ytlhncpbcbpdcfaa", sum := "4e2e690b1c6cdee618cb4b92b426c19cb2036c97d0c97e584f4ef8935eb6e8fc", func := "barograph/barographlaw.TagsSelects", spec := "tagsSelects", unfollowed := true, recurses := true, plainKeys := false, apart := false }
def TagsSelectsSaid : Prop := tagsSelectsRow.holds Try.pinned (OpenSpec.ofChange tagsSelectsSpec)

/-- ITS FALSE NEIGHBOUR: 'it returns false'. Refute it at one input. -/
def tagsSelectsWrong : ChangeSpec := { name := "tagsSelects", fn := fun _ => fun
  | [d1, d2] => { results := [.lit (.bool false)], args := [d1, d2] }
  | _ => none }
def TagsSelectsWrongFalsely : Prop := tagsSelectsRow.holds Try.pinned (OpenSpec.ofChange tagsSelectsWrong)

/-- 'barographlaw.TagsValues': WHATEVER THE INPUT: true; the input reads as it did. -/
def tagsValuesSpec : ChangeSpec := { name := "tagsValues", fn := fun _ => fun
  | [d1, d2] => { results := [.lit (.bool true)], args := [d1, d2] }
  | _ => none }
def tagsValuesRow : OpenClaim := { program := "ytlhncpbcbpdcfaa", sum := "4e2e690b1c6cdee618cb4b92b426c19cb2036c97d0c97e584f4ef8935eb6e8fc", func := "barograph/barographlaw.TagsValues", spec := "tagsValues", unfollowed := true, recurses := true, plainKeys := false, apart := false }
def TagsValuesSaid : Prop := tagsValuesRow.holds Try.pinned (OpenSpec.ofChange tagsValuesSpec)

/-- ITS FALSE NEIGHBOUR: 'it returns false'. Refute it at one input. -/
def tagsValuesWrong : ChangeSpec := { name := "tagsValues", fn := fun _ => fun
  | [d1, d2] => { results := [.lit (.bool false)], args := [d1, d2] }
  | _ => none }
def TagsValuesWrongFalsely : Prop := tagsValuesRow.holds Try.pinned (OpenSpec.ofChange tagsValuesWrong)

/- THE SECOND FORM. 'bulk': how many values and letters a reading holds, each counted each time it is reached (what is shared counts as often as it is met; a slice's spare places count too). A statement '..UptoSaid' is the law's where the arguments, and the package variables that the reading takes, are together of bulk at most 1048576: NARROWER than '..Said'. Prove '..Said' where nothing that the law and all that it calls make is longer than what came in: it says more and counts as full. Else prove '..UptoSaid'. A law counts once. -/
mutual
def uptoBulk {H : Type} : DataW H → Nat
  | .lit (.string bytes) => bytes.length + 1
  | .lit _ => 1
  | .nil => 1
  | .ptr d => uptoBulk d + 1
  | .slice elems spare => uptoBulkAll elems + uptoBulkAll spare + 1
  | .agg parts => uptoBulkAll parts + 1
  | .iface _ d => uptoBulk d + 1
  | .map entries => uptoBulkEntries entries + 1
  | .held _ => 1
def uptoBulkAll {H : Type} : List (DataW H) → Nat
  | [] => 0
  | d :: r => uptoBulk d + uptoBulkAll r
def uptoBulkEntries {H : Type} : List (Lit × DataW H) → Nat
  | [] => 0
  | x :: r => uptoBulkEntry x + uptoBulkEntries r
def uptoBulkEntry {H : Type} : Lit × DataW H → Nat
  | (.string bytes, d) => bytes.length + uptoBulk d + 1
  | (_, d) => uptoBulk d + 1
 end
def uptoSmall : (H : Type) → List (DataW H) → Bool := fun _ ds => decide (uptoBulkAll ds ≤ 1048576)
def OpenSpec.upto (s : _root_.Go.ChangeSpec) : _root_.Go.OpenSpec := { _root_.Go.OpenSpec.ofChange s with cond := some uptoSmall }

/-- 'barographlaw.Names', WHERE WHAT IT READS IS OF BULK AT MOST 1048576: true; the input reads as it did. -/
def namesUptoRow : OpenClaim := { program := "ytlhncpbcbpdcfaa", sum := "4e2e690b1c6cdee618cb4b92b426c19cb2036c97d0c97e584f4ef8935eb6e8fc", func := "barograph/barographlaw.Names", spec := "names", plainKeys := false, apart := false, narrowed := true }
def NamesUptoSaid : Prop := namesUptoRow.holds Try.pinned (OpenSpec.upto namesSpec)

/-- 'barographlaw.QuantJoins', WHERE WHAT IT READS IS OF BULK AT MOST 1048576: true; the input reads as it did. -/
def quantJoinsUptoRow : OpenClaim := { program := "ytlhncpbcbpdcfaa", sum := "4e2e690b1c6cdee618cb4b92b426c19cb2036c97d0c97e584f4ef8935eb6e8fc", func := "barograph/barographlaw.QuantJoins", spec := "quantJoins", unfollowed := true, recurses := true, plainKeys := false, apart := false, narrowed := true }
def QuantJoinsUptoSaid : Prop := quantJoinsUptoRow.holds Try.pinned (OpenSpec.upto quantJoinsSpec)

/-- 'barographlaw.QuantGuesses', WHERE WHAT IT READS IS OF BULK AT MOST 1048576: true; the input reads as it did. -/
def quantGuessesUptoRow : OpenClaim := { program := "ytlhncpbcbpdcfaa", sum := "4e2e690b1c6cdee618cb4b92b426c19cb2036c97d0c97e584f4ef8935eb6e8fc", func := "barograph/barographlaw.QuantGuesses", spec := "quantGuesses", unfollowed := true, recurses := true, plainKeys := false, apart := false, narrowed := true }
def QuantGuessesUptoSaid : Prop := quantGuessesUptoRow.holds Try.pinned (OpenSpec.upto quantGuessesSpec)

/-- 'barographlaw.QuantCounts', WHERE WHAT IT READS IS OF BULK AT MOST 1048576: true; the input reads as it did. -/
def quantCountsUptoRow : OpenClaim := { program := "ytlhncpbcbpdcfaa", sum := "4e2e690b1c6cdee618cb4b92b426c19cb2036c97d0c97e584f4ef8935eb6e8fc", func := "barograph/barographlaw.QuantCounts", spec := "quantCounts", plainKeys := false, apart := false, narrowed := true }
def QuantCountsUptoSaid : Prop := quantCountsUptoRow.holds Try.pinned (OpenSpec.upto quantCountsSpec)

/-- 'barographlaw.QuantRanks', WHERE WHAT IT READS IS OF BULK AT MOST 1048576: true; the input reads as it did. -/
def quantRanksUptoRow : OpenClaim := { program := "ytlhncpbcbpdcfaa", sum := "4e2e690b1c6cdee618cb4b92b426c19cb2036c97d0c97e584f4ef8935eb6e8fc", func := "barograph/barographlaw.QuantRanks", spec := "quantRanks", unfollowed := true, recurses := true, plainKeys := false, apart := false, narrowed := true }
def QuantRanksUptoSaid : Prop := quantRanksUptoRow.holds Try.pinned (OpenSpec.upto quantRanksSpec)

/-- 'barographlaw.TagsMays', WHERE WHAT IT READS IS OF BULK AT MOST 1048576: true; the input reads as it did. -/
def tagsMaysUptoRow : OpenClaim := { program := "ytlhncpbcbpdcfaa", sum := "4e2e690b1c6cdee618cb4b92b426c19cb2036c97d0c97e584f4ef8935eb6e8fc", func := "barograph/barographlaw.TagsMays", spec := "tagsMays", unfollowed := true, recurses := true, plainKeys := false, apart := false, narrowed := true }
def TagsMaysUptoSaid : Prop := tagsMaysUptoRow.holds Try.pinned (OpenSpec.upto tagsMaysSpec)

/-- 'barographlaw.TagsSelects', WHERE WHAT IT READS IS OF BULK AT MOST 1048576: true; the input reads as it did. -/
def tagsSelectsUptoRow : OpenClaim := { program := "ytlhncpbcbpdcfaa", sum := "4e2e690b1c6cdee618cb4b92b426c19cb2036c97d0c97e584f4ef8935eb6e8fc", func := "barograph/barographlaw.TagsSelects", spec := "tagsSelects", unfollowed := true, recurses := true, plainKeys := false, apart := false, narrowed := true }
def TagsSelectsUptoSaid : Prop := tagsSelectsUptoRow.holds Try.pinned (OpenSpec.upto tagsSelectsSpec)

/-- 'barographlaw.TagsValues', WHERE WHAT IT READS IS OF BULK AT MOST 1048576: true; the input reads as it did. -/
def tagsValuesUptoRow : OpenClaim := { program := "ytlhncpbcbpdcfaa", sum := "4e2e690b1c6cdee618cb4b92b426c19cb2036c97d0c97e584f4ef8935eb6e8fc", func := "barograph/barographlaw.TagsValues", spec := "tagsValues", unfollowed := true, recurses := true, plainKeys := false, apart := false, narrowed := true }
def TagsValuesUptoSaid : Prop := tagsValuesUptoRow.holds Try.pinned (OpenSpec.upto tagsValuesSpec)

end Rows
end Go.Proofs.Ytlhncpbcbpdcfaa
