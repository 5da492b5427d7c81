/-
  No cell of these rows narrows 'for every input' (looked for: loops, veiled, ifaces, maps, wideKeys, modest, calm, conditions, laid).
  DERIVED. THE GIVEN ROWS OF THIS SEAT. 9 by the template 'for every input the law returns true; each argument reads behind the call as it read before'; 0 by the template 'total and deterministic' (their statements: YtempedbpieaggaaTotals.lean).
  GIVEN WITH THE SEED: the statements are not yours to turn. If you find one false, say at which input.
  Laid BY PROGRAM, IN A SANDBOX (cutbox-rows.mjs): the forced cells as the released guide's own fill.sh prints them over the translation 620ead36343279e4… (all of the seat's roots in one cut). By AI agents, Wed Nov 11 2026. No macro, syntax, notation, axiom, sorry.
-/
import Derived.Test.YtempedbpieaggaaChecked
import GoSem.Claim
import GoSem.ClaimJoined
import GoSem.ClaimMapViews
import Derived.JoinedTies
import Derived.KernelRfl
namespace Go.Proofs.Ytempedbpieaggaa
/- THE CELL 'sum', in the pinned program and in every row, IS THE sha256 OF THE DUMP (.gsa) THAT YtempedbpieaggaaProg.lean LOADS. Nothing in Lean hashes anything: it is a label: what it is worth is what the hold of that sum in a sandbox is worth. -/
noncomputable def Try.pinned : Pinned := { name := "ytempedbpieaggaa", sum := "620ead36343279e4efa252a706be587696e94a60d11bf104bfa7a5b71b5de9a3", checked := Try.checked }
namespace Rows
def none {H : Type} : Left H := { results := [], args := [] }

/-- 'barographlaw.ZigUnfolds': WHATEVER THE INPUT: true; the input reads as it did. -/
def zigUnfoldsSpec : ChangeSpec := { name := "zigUnfolds", fn := fun _ => fun
  | [d] => { results := [.lit (.bool true)], args := [d] }
  | _ => none }
def zigUnfoldsRow : OpenClaim := { program := "ytempedbpieaggaa", sum := "620ead36343279e4efa252a706be587696e94a60d11bf104bfa7a5b71b5de9a3", func := "barograph/barographlaw.ZigUnfolds", spec := "zigUnfolds", apart := false }
def ZigUnfoldsSaid : Prop := zigUnfoldsRow.holds Try.pinned (OpenSpec.ofChange zigUnfoldsSpec)

/-- ITS FALSE NEIGHBOUR: 'it returns false'. Refute it at one input. -/
def zigUnfoldsWrong : ChangeSpec := { name := "zigUnfolds", fn := fun _ => fun
  | [d] => { results := [.lit (.bool false)], args := [d] }
  | _ => none }
def ZigUnfoldsWrongFalsely : Prop := zigUnfoldsRow.holds Try.pinned (OpenSpec.ofChange zigUnfoldsWrong)

/-- 'barographlaw.ZigFolds': WHATEVER THE INPUT: true; the input reads as it did. -/
def zigFoldsSpec : ChangeSpec := { name := "zigFolds", fn := fun _ => fun
  | [d] => { results := [.lit (.bool true)], args := [d] }
  | _ => none }
def zigFoldsRow : OpenClaim := { program := "ytempedbpieaggaa", sum := "620ead36343279e4efa252a706be587696e94a60d11bf104bfa7a5b71b5de9a3", func := "barograph/barographlaw.ZigFolds", spec := "zigFolds", apart := false }
def ZigFoldsSaid : Prop := zigFoldsRow.holds Try.pinned (OpenSpec.ofChange zigFoldsSpec)

/-- ITS FALSE NEIGHBOUR: 'it returns false'. Refute it at one input. -/
def zigFoldsWrong : ChangeSpec := { name := "zigFolds", fn := fun _ => fun
  | [d] => { results := [.lit (.bool false)], args := [d] }
  | _ => none }
def ZigFoldsWrongFalsely : Prop := zigFoldsRow.holds Try.pinned (OpenSpec.ofChange zigFoldsWrong)

/-- 'barographlaw.BitsWrites': WHATEVER THE INPUT: true; the input reads as it did. -/
def bitsWritesSpec : ChangeSpec := { name := "bitsWrites", fn := fun _ => fun
  | [d] => { results := [.lit (.bool true)], args := [d] }
  | _ => none }
def bitsWritesRow : OpenClaim := { program := "ytempedbpieaggaa", sum := "620ead36343279e4efa252a706be587696e94a60d11bf104bfa7a5b71b5de9a3", func := "barograph/barographlaw.BitsWrites", spec := "bitsWrites", apart := false }
def BitsWritesSaid : Prop := bitsWritesRow.holds Try.pinned (OpenSpec.ofChange bitsWritesSpec)

/-- ITS FALSE NEIGHBOUR: 'it returns false'. Refute it at one input. -/
def bitsWritesWrong : ChangeSpec := { name := "bitsWrites", fn := fun _ => fun
  | [d] => { results := [.lit (.bool false)], args := [d] }
  | _ => none }
def BitsWritesWrongFalsely : Prop := bitsWritesRow.holds Try.pinned (OpenSpec.ofChange bitsWritesWrong)

/-- 'barographlaw.BitsReads': WHATEVER THE INPUT: true; the input reads as it did. -/
def bitsReadsSpec : ChangeSpec := { name := "bitsReads", fn := fun _ => fun
  | [d1, d2] => { results := [.lit (.bool true)], args := [d1, d2] }
  | _ => none }
def bitsReadsRow : OpenClaim := { program := "ytempedbpieaggaa", sum := "620ead36343279e4efa252a706be587696e94a60d11bf104bfa7a5b71b5de9a3", func := "barograph/barographlaw.BitsReads", spec := "bitsReads", apart := false }
def BitsReadsSaid : Prop := bitsReadsRow.holds Try.pinned (OpenSpec.ofChange bitsReadsSpec)

/-- ITS FALSE NEIGHBOUR: 'it returns false'. Refute it at one input. -/
def bitsReadsWrong : ChangeSpec := { name := "bitsReads", fn := fun _ => fun
  | [d1, d2] => { results := [.lit (.bool false)], args := [d1, d2] }
  | _ => none }
def BitsReadsWrongFalsely : Prop := bitsReadsRow.holds Try.pinned (OpenSpec.ofChange bitsReadsWrong)

/-- 'barographlaw.AdlerOfs': WHATEVER THE INPUT: true; the input reads as it did. -/
def adlerOfsSpec : ChangeSpec := { name := "adlerOfs", fn := fun _ => fun
  | [d] => { results := [.lit (.bool true)], args := [d] }
  | _ => none }
def adlerOfsRow : OpenClaim := { program := "ytempedbpieaggaa", sum := "620ead36343279e4efa252a706be587696e94a60d11bf104bfa7a5b71b5de9a3", func := "barograph/barographlaw.AdlerOfs", spec := "adlerOfs", apart := false }
def AdlerOfsSaid : Prop := adlerOfsRow.holds Try.pinned (OpenSpec.ofChange adlerOfsSpec)

/-- ITS FALSE NEIGHBOUR: 'it returns false'. Refute it at one input. -/
def adlerOfsWrong : ChangeSpec := { name := "adlerOfs", fn := fun _ => fun
  | [d] => { results := [.lit (.bool false)], args := [d] }
  | _ => none }
def AdlerOfsWrongFalsely : Prop := adlerOfsRow.holds Try.pinned (OpenSpec.ofChange adlerOfsWrong)

/-- 'barographlaw.AdlerMores': WHATEVER THE INPUT: true; the input reads as it did. -/
def adlerMoresSpec : ChangeSpec := { name := "adlerMores", fn := fun _ => fun
  | [d1, d2] => { results := [.lit (.bool true)], args := [d1, d2] }
  | _ => none }
def adlerMoresRow : OpenClaim := { program := "ytempedbpieaggaa", sum := "620ead36343279e4efa252a706be587696e94a60d11bf104bfa7a5b71b5de9a3", func := "barograph/barographlaw.AdlerMores", spec := "adlerMores", apart := false }
def AdlerMoresSaid : Prop := adlerMoresRow.holds Try.pinned (OpenSpec.ofChange adlerMoresSpec)

/-- ITS FALSE NEIGHBOUR: 'it returns false'. Refute it at one input. -/
def adlerMoresWrong : ChangeSpec := { name := "adlerMores", fn := fun _ => fun
  | [d1, d2] => { results := [.lit (.bool false)], args := [d1, d2] }
  | _ => none }
def AdlerMoresWrongFalsely : Prop := adlerMoresRow.holds Try.pinned (OpenSpec.ofChange adlerMoresWrong)

/-- 'barographlaw.AdlerSlides': WHATEVER THE INPUT: true; the input reads as it did. -/
def adlerSlidesSpec : ChangeSpec := { name := "adlerSlides", fn := fun _ => fun
  | [d1, d2, d3, d4] => { results := [.lit (.bool true)], args := [d1, d2, d3, d4] }
  | _ => none }
def adlerSlidesRow : OpenClaim := { program := "ytempedbpieaggaa", sum := "620ead36343279e4efa252a706be587696e94a60d11bf104bfa7a5b71b5de9a3", func := "barograph/barographlaw.AdlerSlides", spec := "adlerSlides", unfollowed := true, recurses := true, apart := false }
def AdlerSlidesSaid : Prop := adlerSlidesRow.holds Try.pinned (OpenSpec.ofChange adlerSlidesSpec)

/-- ITS FALSE NEIGHBOUR: 'it returns false'. Refute it at one input. -/
def adlerSlidesWrong : ChangeSpec := { name := "adlerSlides", fn := fun _ => fun
  | [d1, d2, d3, d4] => { results := [.lit (.bool false)], args := [d1, d2, d3, d4] }
  | _ => none }
def AdlerSlidesWrongFalsely : Prop := adlerSlidesRow.holds Try.pinned (OpenSpec.ofChange adlerSlidesWrong)

/-- 'barographlaw.FileRecords': WHATEVER THE INPUT: true; the input reads as it did. -/
def fileRecordsSpec : ChangeSpec := { name := "fileRecords", fn := fun _ => fun
  | [d] => { results := [.lit (.bool true)], args := [d] }
  | _ => none }
def fileRecordsRow : OpenClaim := { program := "ytempedbpieaggaa", sum := "620ead36343279e4efa252a706be587696e94a60d11bf104bfa7a5b71b5de9a3", func := "barograph/barographlaw.FileRecords", spec := "fileRecords", apart := false }
def FileRecordsSaid : Prop := fileRecordsRow.holds Try.pinned (OpenSpec.ofChange fileRecordsSpec)

/-- ITS FALSE NEIGHBOUR: 'it returns false'. Refute it at one input. -/
def fileRecordsWrong : ChangeSpec := { name := "fileRecords", fn := fun _ => fun
  | [d] => { results := [.lit (.bool false)], args := [d] }
  | _ => none }
def FileRecordsWrongFalsely : Prop := fileRecordsRow.holds Try.pinned (OpenSpec.ofChange fileRecordsWrong)

/-- 'barographlaw.FileOpens': WHATEVER THE INPUT: true; the input reads as it did. -/
def fileOpensSpec : ChangeSpec := { name := "fileOpens", fn := fun _ => fun
  | [d] => { results := [.lit (.bool true)], args := [d] }
  | _ => none }
def fileOpensRow : OpenClaim := { program := "ytempedbpieaggaa", sum := "620ead36343279e4efa252a706be587696e94a60d11bf104bfa7a5b71b5de9a3", func := "barograph/barographlaw.FileOpens", spec := "fileOpens", apart := false }
def FileOpensSaid : Prop := fileOpensRow.holds Try.pinned (OpenSpec.ofChange fileOpensSpec)

/-- ITS FALSE NEIGHBOUR: 'it returns false'. Refute it at one input. -/
def fileOpensWrong : ChangeSpec := { name := "fileOpens", fn := fun _ => fun
  | [d] => { results := [.lit (.bool false)], args := [d] }
  | _ => none }
def FileOpensWrongFalsely : Prop := fileOpensRow.holds Try.pinned (OpenSpec.ofChange fileOpensWrong)

/- THE SECOND FORM. 'bulk': how many values and letters a reading holds, each counted each time it is reached (what is shared counts as often as it is met; a slice's spare places count too). A statement '..UptoSaid' is the law's where the arguments, and the package variables that the reading takes, are together of bulk at most 1048576: NARROWER than '..Said'. Prove '..Said' where nothing that the law and all that it calls make is longer than what came in: it says more and counts as full. Else prove '..UptoSaid'. A law counts once. -/
mutual
def uptoBulk {H : Type} : DataW H → Nat
  | .lit (.string bytes) => bytes.length + 1
  | .lit _ => 1
  | .nil => 1
  | .ptr d => uptoBulk d + 1
  | .slice elems spare => uptoBulkAll elems + uptoBulkAll spare + 1
  | .agg parts => uptoBulkAll parts + 1
  | .iface _ d => uptoBulk d + 1
  | .map entries => uptoBulkEntries entries + 1
  | .held _ => 1
def uptoBulkAll {H : Type} : List (DataW H) → Nat
  | [] => 0
  | d :: r => uptoBulk d + uptoBulkAll r
def uptoBulkEntries {H : Type} : List (Lit × DataW H) → Nat
  | [] => 0
  | x :: r => uptoBulkEntry x + uptoBulkEntries r
def uptoBulkEntry {H : Type} : Lit × DataW H → Nat
  | (.string bytes, d) => bytes.length + uptoBulk d + 1
  | (_, d) => uptoBulk d + 1
 end
def uptoSmall : (H : Type) → List (DataW H) → Bool := fun _ ds => decide (uptoBulkAll ds ≤ 1048576)
def OpenSpec.upto (s : _root_.Go.ChangeSpec) : _root_.Go.OpenSpec := { _root_.Go.OpenSpec.ofChange s with cond := some uptoSmall }

/-- 'barographlaw.ZigUnfolds', WHERE WHAT IT READS IS OF BULK AT MOST 1048576: true; the input reads as it did. -/
def zigUnfoldsUptoRow : OpenClaim := { program := "ytempedbpieaggaa", sum := "620ead36343279e4efa252a706be587696e94a60d11bf104bfa7a5b71b5de9a3", func := "barograph/barographlaw.ZigUnfolds", spec := "zigUnfolds", apart := false, narrowed := true }
def ZigUnfoldsUptoSaid : Prop := zigUnfoldsUptoRow.holds Try.pinned (OpenSpec.upto zigUnfoldsSpec)

/-- 'barographlaw.ZigFolds', WHERE WHAT IT READS IS OF BULK AT MOST 1048576: true; the input reads as it did. -/
def zigFoldsUptoRow : OpenClaim := { program := "ytempedbpieaggaa", sum := "620ead36343279e4efa252a706be587696e94a60d11bf104bfa7a5b71b5de9a3", func := "barograph/barographlaw.ZigFolds", spec := "zigFolds", apart := false, narrowed := true }
def ZigFoldsUptoSaid : Prop := zigFoldsUptoRow.holds Try.pinned (OpenSpec.upto zigFoldsSpec)

/-- 'barographlaw.BitsWrites', WHERE WHAT IT READS IS OF BULK AT MOST 1048576: true; the input reads as it did. -/
def bitsWritesUptoRow : OpenClaim := { program := "ytempedbpieaggaa", sum := "620ead36343279e4efa252a706be587696e94a60d11bf104bfa7a5b71b5de9a3", func := "barograph/barographlaw.BitsWrites", spec := "bitsWrites", apart := false, narrowed := true }
def BitsWritesUptoSaid : Prop := bitsWritesUptoRow.holds Try.pinned (OpenSpec.upto bitsWritesSpec)

/-- 'barographlaw.BitsReads', WHERE WHAT IT READS IS OF BULK AT MOST 1048576: true; the input reads as it did. -/
def bitsReadsUptoRow : OpenClaim := { program := "ytempedbpieaggaa", sum := "620ead36343279e4efa252a706be587696e94a60d11bf104bfa7a5b71b5de9a3", func := "barograph/barographlaw.BitsReads", spec := "bitsReads", apart := false, narrowed := true }
def BitsReadsUptoSaid : Prop := bitsReadsUptoRow.holds Try.pinned (OpenSpec.upto bitsReadsSpec)

/-- 'barographlaw.AdlerOfs', WHERE WHAT IT READS IS OF BULK AT MOST 1048576: true; the input reads as it did. -/
def adlerOfsUptoRow : OpenClaim := { program := "ytempedbpieaggaa", sum := "620ead36343279e4efa252a706be587696e94a60d11bf104bfa7a5b71b5de9a3", func := "barograph/barographlaw.AdlerOfs", spec := "adlerOfs", apart := false, narrowed := true }
def AdlerOfsUptoSaid : Prop := adlerOfsUptoRow.holds Try.pinned (OpenSpec.upto adlerOfsSpec)

/-- 'barographlaw.AdlerMores', WHERE WHAT IT READS IS OF BULK AT MOST 1048576: true; the input reads as it did. -/
def adlerMoresUptoRow : OpenClaim := { program := "ytempedbpieaggaa", sum := "620ead36343279e4efa252a706be587696e94a60d11bf104bfa7a5b71b5de9a3", func := "barograph/barographlaw.AdlerMores", spec := "adlerMores", apart := false, narrowed := true }
def AdlerMoresUptoSaid : Prop := adlerMoresUptoRow.holds Try.pinned (OpenSpec.upto adlerMoresSpec)

/-- 'barographlaw.AdlerSlides', WHERE WHAT IT READS IS OF BULK AT MOST 1048576: true; the input reads as it did. -/
def adlerSlidesUptoRow : OpenClaim := { program := "ytempedbpieaggaa", sum := "620ead36343279e4efa252a706be587696e94a60d11bf104bfa7a5b71b5de9a3", func := "barograph/barographlaw.AdlerSlides", spec := "adlerSlides", unfollowed := true, recurses := true, apart := false, narrowed := true }
def AdlerSlidesUptoSaid : Prop := adlerSlidesUptoRow.holds Try.pinned (OpenSpec.upto adlerSlidesSpec)

/-- 'barographlaw.FileRecords', WHERE WHAT IT READS IS OF BULK AT MOST 1048576: true; the input reads as it did. -/
def fileRecordsUptoRow : OpenClaim := { program := "ytempedbpieaggaa", sum := "620ead36343279e4efa252a706be587696e94a60d11bf104bfa7a5b71b5de9a3", func := "barograph/barographlaw.FileRecords", spec := "fileRecords", apart := false, narrowed := true }
def FileRecordsUptoSaid : Prop := fileRecordsUptoRow.holds Try.pinned (OpenSpec.upto fileRecordsSpec)

/-- 'barographlaw.FileOpens', WHERE WHAT IT READS IS OF BULK AT MOST 1048576: true; the input reads as it did. -/
def fileOpensUptoRow : OpenClaim := { program := "ytempedbpieaggaa", sum := "620ead36343279e4efa252a706be587696e94a60d11bf104bfa7a5b71b5de9a3", func := "barograph/barographlaw.FileOpens", spec := "fileOpens", apart := false, narrowed := true }
def FileOpensUptoSaid : Prop := fileOpensUptoRow.holds Try.pinned (OpenSpec.upto fileOpensSpec)

end Rows
end Go.Proofs.Ytempedbpieaggaa
