/-
  No cell of these rows narrows 'for every input' (looked for: loops, veiled, ifaces, maps, wideKeys, modest, calm, conditions, laid).
  DERIVED. THE GIVEN ROWS OF THIS SEAT. 10 by the template 'for every input the law returns true; each argument reads behind the call as it read before'; 0 by the template 'total and deterministic' (their statements: YtnmbdggdilbdaaaTotals.lean).
  GIVEN WITH THE SEED: the statements are not yours to turn. If you find one false, say at which input.
  Laid BY PROGRAM, IN A SANDBOX (cutbox-rows.mjs): the forced cells as the released guide's own fill.sh prints them over the translation 336ecc222b8bd6f9… (all of the seat's roots in one cut). By AI agents, Wed Nov 11 2026. No macro, syntax, notation, axiom, sorry.
-/
import Derived.Test.YtnmbdggdilbdaaaChecked
import GoSem.Claim
import GoSem.ClaimJoined
import GoSem.ClaimMapViews
import Derived.JoinedTies
import Derived.KernelRfl
namespace Go.Proofs.Ytnmbdggdilbdaaa
/- THE CELL 'sum', in the pinned program and in every row, IS THE sha256 OF THE DUMP (.gsa) THAT YtnmbdggdilbdaaaProg.lean LOADS. Nothing in Lean hashes anything: it is a label: what it is worth is what the hold of that sum in a sandbox is worth. -/
noncomputable def Try.pinned : Pinned := { name := "ytnmbdggdilbdaaa", sum := "336ecc222b8bd6f933ebe310829cbe644b9fbd0bcf3612211671f366e978baca", checked := Try.checked }
namespace Rows
def none {H : Type} : Left H := { results := [], args := [] }

/-- 'barographlaw.OnceCodes': WHATEVER THE INPUT: true; the input reads as it did. -/
def onceCodesSpec : ChangeSpec := { name := "onceCodes", fn := fun _ => fun
  | [] => { results := [.lit (.bool true)], args := [] }
  | _ => none }
def onceCodesRow : OpenClaim := { program := "ytnmbdggdilbdaaa", sum := "336ecc222b8bd6f933ebe310829cbe644b9fbd0bcf3612211671f366e978baca", func := "barograph/barographlaw.OnceCodes", spec := "onceCodes", unfollowed := true, recurses := true, apart := false }
def OnceCodesSaid : Prop := onceCodesRow.holds Try.pinned (OpenSpec.ofChange onceCodesSpec)

/-- ITS FALSE NEIGHBOUR: 'it returns false'. Refute it at one input. -/
def onceCodesWrong : ChangeSpec := { name := "onceCodes", fn := fun _ => fun
  | [] => { results := [.lit (.bool false)], args := [] }
  | _ => none }
def OnceCodesWrongFalsely : Prop := onceCodesRow.holds Try.pinned (OpenSpec.ofChange onceCodesWrong)

/-- 'barographlaw.ConsCodes': WHATEVER THE INPUT: true; the input reads as it did. -/
def consCodesSpec : ChangeSpec := { name := "consCodes", fn := fun _ => fun
  | [] => { results := [.lit (.bool true)], args := [] }
  | _ => none }
def consCodesRow : OpenClaim := { program := "ytnmbdggdilbdaaa", sum := "336ecc222b8bd6f933ebe310829cbe644b9fbd0bcf3612211671f366e978baca", func := "barograph/barographlaw.ConsCodes", spec := "consCodes", unfollowed := true, recurses := true, apart := false }
def ConsCodesSaid : Prop := consCodesRow.holds Try.pinned (OpenSpec.ofChange consCodesSpec)

/-- ITS FALSE NEIGHBOUR: 'it returns false'. Refute it at one input. -/
def consCodesWrong : ChangeSpec := { name := "consCodes", fn := fun _ => fun
  | [] => { results := [.lit (.bool false)], args := [] }
  | _ => none }
def ConsCodesWrongFalsely : Prop := consCodesRow.holds Try.pinned (OpenSpec.ofChange consCodesWrong)

/-- 'barographlaw.CountCodes': WHATEVER THE INPUT: true; the input reads as it did. -/
def countCodesSpec : ChangeSpec := { name := "countCodes", fn := fun _ => fun
  | [] => { results := [.lit (.bool true)], args := [] }
  | _ => none }
def countCodesRow : OpenClaim := { program := "ytnmbdggdilbdaaa", sum := "336ecc222b8bd6f933ebe310829cbe644b9fbd0bcf3612211671f366e978baca", func := "barograph/barographlaw.CountCodes", spec := "countCodes", unfollowed := true, recurses := true, apart := false }
def CountCodesSaid : Prop := countCodesRow.holds Try.pinned (OpenSpec.ofChange countCodesSpec)

/-- ITS FALSE NEIGHBOUR: 'it returns false'. Refute it at one input. -/
def countCodesWrong : ChangeSpec := { name := "countCodes", fn := fun _ => fun
  | [] => { results := [.lit (.bool false)], args := [] }
  | _ => none }
def CountCodesWrongFalsely : Prop := countCodesRow.holds Try.pinned (OpenSpec.ofChange countCodesWrong)

/-- 'barographlaw.RwlCodes': WHATEVER THE INPUT: true; the input reads as it did. -/
def rwlCodesSpec : ChangeSpec := { name := "rwlCodes", fn := fun _ => fun
  | [] => { results := [.lit (.bool true)], args := [] }
  | _ => none }
def rwlCodesRow : OpenClaim := { program := "ytnmbdggdilbdaaa", sum := "336ecc222b8bd6f933ebe310829cbe644b9fbd0bcf3612211671f366e978baca", func := "barograph/barographlaw.RwlCodes", spec := "rwlCodes", unfollowed := true, recurses := true, apart := false }
def RwlCodesSaid : Prop := rwlCodesRow.holds Try.pinned (OpenSpec.ofChange rwlCodesSpec)

/-- ITS FALSE NEIGHBOUR: 'it returns false'. Refute it at one input. -/
def rwlCodesWrong : ChangeSpec := { name := "rwlCodes", fn := fun _ => fun
  | [] => { results := [.lit (.bool false)], args := [] }
  | _ => none }
def RwlCodesWrongFalsely : Prop := rwlCodesRow.holds Try.pinned (OpenSpec.ofChange rwlCodesWrong)

/-- 'barographlaw.BarrCodes': WHATEVER THE INPUT: true; the input reads as it did. -/
def barrCodesSpec : ChangeSpec := { name := "barrCodes", fn := fun _ => fun
  | [d] => { results := [.lit (.bool true)], args := [d] }
  | _ => none }
def barrCodesRow : OpenClaim := { program := "ytnmbdggdilbdaaa", sum := "336ecc222b8bd6f933ebe310829cbe644b9fbd0bcf3612211671f366e978baca", func := "barograph/barographlaw.BarrCodes", spec := "barrCodes", unfollowed := true, recurses := true, apart := false }
def BarrCodesSaid : Prop := barrCodesRow.holds Try.pinned (OpenSpec.ofChange barrCodesSpec)

/-- ITS FALSE NEIGHBOUR: 'it returns false'. Refute it at one input. -/
def barrCodesWrong : ChangeSpec := { name := "barrCodes", fn := fun _ => fun
  | [d] => { results := [.lit (.bool false)], args := [d] }
  | _ => none }
def BarrCodesWrongFalsely : Prop := barrCodesRow.holds Try.pinned (OpenSpec.ofChange barrCodesWrong)

/-- 'barographlaw.SemaCodes': WHATEVER THE INPUT: true; the input reads as it did. -/
def semaCodesSpec : ChangeSpec := { name := "semaCodes", fn := fun _ => fun
  | [d] => { results := [.lit (.bool true)], args := [d] }
  | _ => none }
def semaCodesRow : OpenClaim := { program := "ytnmbdggdilbdaaa", sum := "336ecc222b8bd6f933ebe310829cbe644b9fbd0bcf3612211671f366e978baca", func := "barograph/barographlaw.SemaCodes", spec := "semaCodes", unfollowed := true, recurses := true, apart := false }
def SemaCodesSaid : Prop := semaCodesRow.holds Try.pinned (OpenSpec.ofChange semaCodesSpec)

/-- ITS FALSE NEIGHBOUR: 'it returns false'. Refute it at one input. -/
def semaCodesWrong : ChangeSpec := { name := "semaCodes", fn := fun _ => fun
  | [d] => { results := [.lit (.bool false)], args := [d] }
  | _ => none }
def SemaCodesWrongFalsely : Prop := semaCodesRow.holds Try.pinned (OpenSpec.ofChange semaCodesWrong)

/-- 'barographlaw.RingCodes': WHATEVER THE INPUT: true; the input reads as it did. -/
def ringCodesSpec : ChangeSpec := { name := "ringCodes", fn := fun _ => fun
  | [d] => { results := [.lit (.bool true)], args := [d] }
  | _ => none }
def ringCodesRow : OpenClaim := { program := "ytnmbdggdilbdaaa", sum := "336ecc222b8bd6f933ebe310829cbe644b9fbd0bcf3612211671f366e978baca", func := "barograph/barographlaw.RingCodes", spec := "ringCodes", unfollowed := true, recurses := true, apart := false }
def RingCodesSaid : Prop := ringCodesRow.holds Try.pinned (OpenSpec.ofChange ringCodesSpec)

/-- ITS FALSE NEIGHBOUR: 'it returns false'. Refute it at one input. -/
def ringCodesWrong : ChangeSpec := { name := "ringCodes", fn := fun _ => fun
  | [d] => { results := [.lit (.bool false)], args := [d] }
  | _ => none }
def RingCodesWrongFalsely : Prop := ringCodesRow.holds Try.pinned (OpenSpec.ofChange ringCodesWrong)

/-- 'barographlaw.QueueCodes': WHATEVER THE INPUT: true; the input reads as it did. -/
def queueCodesSpec : ChangeSpec := { name := "queueCodes", fn := fun _ => fun
  | [d] => { results := [.lit (.bool true)], args := [d] }
  | _ => none }
def queueCodesRow : OpenClaim := { program := "ytnmbdggdilbdaaa", sum := "336ecc222b8bd6f933ebe310829cbe644b9fbd0bcf3612211671f366e978baca", func := "barograph/barographlaw.QueueCodes", spec := "queueCodes", unfollowed := true, recurses := true, apart := false }
def QueueCodesSaid : Prop := queueCodesRow.holds Try.pinned (OpenSpec.ofChange queueCodesSpec)

/-- ITS FALSE NEIGHBOUR: 'it returns false'. Refute it at one input. -/
def queueCodesWrong : ChangeSpec := { name := "queueCodes", fn := fun _ => fun
  | [d] => { results := [.lit (.bool false)], args := [d] }
  | _ => none }
def QueueCodesWrongFalsely : Prop := queueCodesRow.holds Try.pinned (OpenSpec.ofChange queueCodesWrong)

/-- 'barographlaw.StackCodes': WHATEVER THE INPUT: true; the input reads as it did. -/
def stackCodesSpec : ChangeSpec := { name := "stackCodes", fn := fun _ => fun
  | [d] => { results := [.lit (.bool true)], args := [d] }
  | _ => none }
def stackCodesRow : OpenClaim := { program := "ytnmbdggdilbdaaa", sum := "336ecc222b8bd6f933ebe310829cbe644b9fbd0bcf3612211671f366e978baca", func := "barograph/barographlaw.StackCodes", spec := "stackCodes", unfollowed := true, recurses := true, apart := false }
def StackCodesSaid : Prop := stackCodesRow.holds Try.pinned (OpenSpec.ofChange stackCodesSpec)

/-- ITS FALSE NEIGHBOUR: 'it returns false'. Refute it at one input. -/
def stackCodesWrong : ChangeSpec := { name := "stackCodes", fn := fun _ => fun
  | [d] => { results := [.lit (.bool false)], args := [d] }
  | _ => none }
def StackCodesWrongFalsely : Prop := stackCodesRow.holds Try.pinned (OpenSpec.ofChange stackCodesWrong)

/-- 'barographlaw.EpochCodes': WHATEVER THE INPUT: true; the input reads as it did. -/
def epochCodesSpec : ChangeSpec := { name := "epochCodes", fn := fun _ => fun
  | [d1, d2] => { results := [.lit (.bool true)], args := [d1, d2] }
  | _ => none }
def epochCodesRow : OpenClaim := { program := "ytnmbdggdilbdaaa", sum := "336ecc222b8bd6f933ebe310829cbe644b9fbd0bcf3612211671f366e978baca", func := "barograph/barographlaw.EpochCodes", spec := "epochCodes", unfollowed := true, recurses := true, apart := false }
def EpochCodesSaid : Prop := epochCodesRow.holds Try.pinned (OpenSpec.ofChange epochCodesSpec)

/-- ITS FALSE NEIGHBOUR: 'it returns false'. Refute it at one input. -/
def epochCodesWrong : ChangeSpec := { name := "epochCodes", fn := fun _ => fun
  | [d1, d2] => { results := [.lit (.bool false)], args := [d1, d2] }
  | _ => none }
def EpochCodesWrongFalsely : Prop := epochCodesRow.holds Try.pinned (OpenSpec.ofChange epochCodesWrong)

/- THE SECOND FORM. 'bulk': how many values and letters a reading holds, each counted each time it is reached (what is shared counts as often as it is met; a slice's spare places count too). A statement '..UptoSaid' is the law's where the arguments, and the package variables that the reading takes, are together of bulk at most 1048576: NARROWER than '..Said'. Prove '..Said' where nothing that the law and all that it calls make is longer than what came in: it says more and counts as full. Else prove '..UptoSaid'. A law counts once. -/
mutual
def uptoBulk {H : Type} : DataW H → Nat
  | .lit (.string bytes) => bytes.length + 1
  | .lit _ => 1
  | .nil => 1
  | .ptr d => uptoBulk d + 1
  | .slice elems spare => uptoBulkAll elems + uptoBulkAll spare + 1
  | .agg parts => uptoBulkAll parts + 1
  | .iface _ d => uptoBulk d + 1
  | .map entries => uptoBulkEntries entries + 1
  | .held _ => 1
def uptoBulkAll {H : Type} : List (DataW H) → Nat
  | [] => 0
  | d :: r => uptoBulk d + uptoBulkAll r
def uptoBulkEntries {H : Type} : List (Lit × DataW H) → Nat
  | [] => 0
  | x :: r => uptoBulkEntry x + uptoBulkEntries r
def uptoBulkEntry {H : Type} : Lit × DataW H → Nat
  | (.string bytes, d) => bytes.length + uptoBulk d + 1
  | (_, d) => uptoBulk d + 1
 end
def uptoSmall : (H : Type) → List (DataW H) → Bool := fun _ ds => decide (uptoBulkAll ds ≤ 1048576)
def OpenSpec.upto (s : _root_.Go.ChangeSpec) : _root_.Go.OpenSpec := { _root_.Go.OpenSpec.ofChange s with cond := some uptoSmall }

/-- 'barographlaw.OnceCodes', WHERE WHAT IT READS IS OF BULK AT MOST 1048576: true; the input reads as it did. -/
def onceCodesUptoRow : OpenClaim := { program := "ytnmbdggdilbdaaa", sum := "336ecc222b8bd6f933ebe310829cbe644b9fbd0bcf3612211671f366e978baca", func := "barograph/barographlaw.OnceCodes", spec := "onceCodes", unfollowed := true, recurses := true, apart := false, narrowed := true }
def OnceCodesUptoSaid : Prop := onceCodesUptoRow.holds Try.pinned (OpenSpec.upto onceCodesSpec)

/-- 'barographlaw.ConsCodes', WHERE WHAT IT READS IS OF BULK AT MOST 1048576: true; the input reads as it did. -/
def consCodesUptoRow : OpenClaim := { program := "ytnmbdggdilbdaaa", sum := "336ecc222b8bd6f933ebe310829cbe644b9fbd0bcf3612211671f366e978baca", func := "barograph/barographlaw.ConsCodes", spec := "consCodes", unfollowed := true, recurses := true, apart := false, narrowed := true }
def ConsCodesUptoSaid : Prop := consCodesUptoRow.holds Try.pinned (OpenSpec.upto consCodesSpec)

/-- 'barographlaw.CountCodes', WHERE WHAT IT READS IS OF BULK AT MOST 1048576: true; the input reads as it did. -/
def countCodesUptoRow : OpenClaim := { program := "ytnmbdggdilbdaaa", sum := "336ecc222b8bd6f933ebe310829cbe644b9fbd0bcf3612211671f366e978baca", func := "barograph/barographlaw.CountCodes", spec := "countCodes", unfollowed := true, recurses := true, apart := false, narrowed := true }
def CountCodesUptoSaid : Prop := countCodesUptoRow.holds Try.pinned (OpenSpec.upto countCodesSpec)

/-- 'barographlaw.RwlCodes', WHERE WHAT IT READS IS OF BULK AT MOST 1048576: true; the input reads as it did. -/
def rwlCodesUptoRow : OpenClaim := { program := "ytnmbdggdilbdaaa", sum := "336ecc222b8bd6f933ebe310829cbe644b9fbd0bcf3612211671f366e978baca", func := "barograph/barographlaw.RwlCodes", spec := "rwlCodes", unfollowed := true, recurses := true, apart := false, narrowed := true }
def RwlCodesUptoSaid : Prop := rwlCodesUptoRow.holds Try.pinned (OpenSpec.upto rwlCodesSpec)

/-- 'barographlaw.BarrCodes', WHERE WHAT IT READS IS OF BULK AT MOST 1048576: true; the input reads as it did. -/
def barrCodesUptoRow : OpenClaim := { program := "ytnmbdggdilbdaaa", sum := "336ecc222b8bd6f933ebe310829cbe644b9fbd0bcf3612211671f366e978baca", func := "barograph/barographlaw.BarrCodes", spec := "barrCodes", unfollowed := true, recurses := true, apart := false, narrowed := true }
def BarrCodesUptoSaid : Prop := barrCodesUptoRow.holds Try.pinned (OpenSpec.upto barrCodesSpec)

/-- 'barographlaw.SemaCodes', WHERE WHAT IT READS IS OF BULK AT MOST 1048576: true; the input reads as it did. -/
def semaCodesUptoRow : OpenClaim := { program := "ytnmbdggdilbdaaa", sum := "336ecc222b8bd6f933ebe310829cbe644b9fbd0bcf3612211671f366e978baca", func := "barograph/barographlaw.SemaCodes", spec := "semaCodes", unfollowed := true, recurses := true, apart := false, narrowed := true }
def SemaCodesUptoSaid : Prop := semaCodesUptoRow.holds Try.pinned (OpenSpec.upto semaCodesSpec)

/-- 'barographlaw.RingCodes', WHERE WHAT IT READS IS OF BULK AT MOST 1048576: true; the input reads as it did. -/
def ringCodesUptoRow : OpenClaim := { program := "ytnmbdggdilbdaaa", sum := "336ecc222b8bd6f933ebe310829cbe644b9fbd0bcf3612211671f366e978baca", func := "barograph/barographlaw.RingCodes", spec := "ringCodes", unfollowed := true, recurses := true, apart := false, narrowed := true }
def RingCodesUptoSaid : Prop := ringCodesUptoRow.holds Try.pinned (OpenSpec.upto ringCodesSpec)

/-- 'barographlaw.QueueCodes', WHERE WHAT IT READS IS OF BULK AT MOST 1048576: true; the input reads as it did. -/
def queueCodesUptoRow : OpenClaim := { program := "ytnmbdggdilbdaaa", sum := "336ecc222b8bd6f933ebe310829cbe644b9fbd0bcf3612211671f366e978baca", func := "barograph/barographlaw.QueueCodes", spec := "queueCodes", unfollowed := true, recurses := true, apart := false, narrowed := true }
def QueueCodesUptoSaid : Prop := queueCodesUptoRow.holds Try.pinned (OpenSpec.upto queueCodesSpec)

/-- 'barographlaw.StackCodes', WHERE WHAT IT READS IS OF BULK AT MOST 1048576: true; the input reads as it did. -/
def stackCodesUptoRow : OpenClaim := { program := "ytnmbdggdilbdaaa", sum := "336ecc222b8bd6f933ebe310829cbe644b9fbd0bcf3612211671f366e978baca", func := "barograph/barographlaw.StackCodes", spec := "stackCodes", unfollowed := true, recurses := true, apart := false, narrowed := true }
def StackCodesUptoSaid : Prop := stackCodesUptoRow.holds Try.pinned (OpenSpec.upto stackCodesSpec)

/-- 'barographlaw.EpochCodes', WHERE WHAT IT READS IS OF BULK AT MOST 1048576: true; the input reads as it did. -/
def epochCodesUptoRow : OpenClaim := { program := "ytnmbdggdilbdaaa", sum := "336ecc222b8bd6f933ebe310829cbe644b9fbd0bcf3612211671f366e978baca", func := "barograph/barographlaw.EpochCodes", spec := "epochCodes", unfollowed := true, recurses := true, apart := false, narrowed := true }
def EpochCodesUptoSaid : Prop := epochCodesUptoRow.holds Try.pinned (OpenSpec.upto epochCodesSpec)

end Rows
end Go.Proofs.Ytnmbdggdilbdaaa
