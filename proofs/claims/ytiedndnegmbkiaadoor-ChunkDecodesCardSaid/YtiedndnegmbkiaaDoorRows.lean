/-
  NARROWER THAN 'FOR EVERY INPUT', by the rows' own cells (each row's printed sentence says how): ChunkEncodes: laid · ChunkDecodes: laid · RollOfs: laid · RollBuckets: laid · RateMeans: laid · RateRises: laid · RateAts: laid.
  DERIVED. THE GIVEN ROWS OF THIS SEAT. 7 by the template 'for every input the law returns true; each argument reads behind the call as it read before'; 0 by the template 'total and deterministic' (their statements: YtiedndnegmbkiaaDoorTotals.lean).
  GIVEN WITH THE SEED: the statements are not yours to turn. If you find one false, say at which input.
  Laid BY PROGRAM, IN A SANDBOX (cutbox-rows.mjs): the forced cells as the released guide's own fill.sh prints them over the translation b7a452f6b48b3e60… (all of the seat's roots in one cut). By AI agents, Wed Nov 11 2026. No macro, syntax, notation, axiom, sorry.
-/
import Derived.Test.YtiedndnegmbkiaaDoorChecked
import GoSem.Claim
import GoSem.ClaimJoined
import GoSem.ClaimMapViews
import Derived.JoinedTies
import Derived.KernelRfl
namespace Go.Proofs.YtiedndnegmbkiaaDoor
/- THE CELL 'sum', in the pinned program and in every row, IS THE sha256 OF THE DUMP (.gsa) THAT YtiedndnegmbkiaaDoorProg.lean LOADS. Nothing in Lean hashes anything: it is a label: what it is worth is what the hold of that sum in a sandbox is worth. -/
noncomputable def Tryd.pinned : Pinned := { name := "ytiedndnegmbkiaadoor", sum := "b7a452f6b48b3e601e6f3edba6bd4d84cd31788021470053db5f90a6a28bc881", checked := Tryd.checked }
namespace Rows
def none {H : Type} : Left H := { results := [], args := [] }

/- WHAT THE LISTED PACKAGE-LEVEL VARIABLES READ AS WHEN THE CALL BEGINS. Each datum BY PROGRAM (the guide's laid-datum.mjs) off the statement by which the dump's own 'gosem.cut.vars' lays the variable. In a bare row this is a premise. The card (YtiedndnegmbkiaaDoorCards.lean) ties it to the program's text. -/
def laid_barograph_zig_classes {H : Type} : DataW H := .agg [.agg [.lit (.int .i64 0), .lit (.int .i64 1), .lit (.int .i64 0)], .agg [.lit (.int .i64 2), .lit (.int .i64 2), .lit (.int .i64 6)], .agg [.lit (.int .i64 6), .lit (.int .i64 3), .lit (.int .i64 12)], .agg [.lit (.int .i64 14), .lit (.int .i64 4), .lit (.int .i64 24)], .agg [.lit (.int .i64 15), .lit (.int .i64 4), .lit (.int .i64 59)]]

/-- 'barographlaw.ChunkEncodes': WHATEVER THE INPUT: true; the input reads as it did. -/
def chunkEncodesSpec : ChangeSpec := { name := "chunkEncodes", fn := fun _ => fun
  | [d] => { results := [.lit (.bool true)], args := [d] }
  | _ => none }
def chunkEncodesRow : OpenClaim := { program := "ytiedndnegmbkiaadoor", sum := "b7a452f6b48b3e601e6f3edba6bd4d84cd31788021470053db5f90a6a28bc881", func := "barograph/barographlaw.ChunkEncodes", spec := "chunkEncodes", named := ["barograph/zig.classes"], apart := false, laid := [("barograph/zig.classes", laid_barograph_zig_classes)] }
def ChunkEncodesSaid : Prop := chunkEncodesRow.holds Tryd.pinned (OpenSpec.ofChange chunkEncodesSpec)

/-- ITS FALSE NEIGHBOUR: 'it returns false'. Refute it at one input. -/
def chunkEncodesWrong : ChangeSpec := { name := "chunkEncodes", fn := fun _ => fun
  | [d] => { results := [.lit (.bool false)], args := [d] }
  | _ => none }
def ChunkEncodesWrongFalsely : Prop := chunkEncodesRow.holds Tryd.pinned (OpenSpec.ofChange chunkEncodesWrong)

/-- 'barographlaw.ChunkDecodes': WHATEVER THE INPUT: true; the input reads as it did. -/
def chunkDecodesSpec : ChangeSpec := { name := "chunkDecodes", fn := fun _ => fun
  | [d] => { results := [.lit (.bool true)], args := [d] }
  | _ => none }
def chunkDecodesRow : OpenClaim := { program := "ytiedndnegmbkiaadoor", sum := "b7a452f6b48b3e601e6f3edba6bd4d84cd31788021470053db5f90a6a28bc881", func := "barograph/barographlaw.ChunkDecodes", spec := "chunkDecodes", named := ["barograph/zig.classes"], apart := false, laid := [("barograph/zig.classes", laid_barograph_zig_classes)] }
def ChunkDecodesSaid : Prop := chunkDecodesRow.holds Tryd.pinned (OpenSpec.ofChange chunkDecodesSpec)

/-- ITS FALSE NEIGHBOUR: 'it returns false'. Refute it at one input. -/
def chunkDecodesWrong : ChangeSpec := { name := "chunkDecodes", fn := fun _ => fun
  | [d] => { results := [.lit (.bool false)], args := [d] }
  | _ => none }
def ChunkDecodesWrongFalsely : Prop := chunkDecodesRow.holds Tryd.pinned (OpenSpec.ofChange chunkDecodesWrong)

/-- 'barographlaw.RollOfs': WHATEVER THE INPUT: true; the input reads as it did. -/
def rollOfsSpec : ChangeSpec := { name := "rollOfs", fn := fun _ => fun
  | [d] => { results := [.lit (.bool true)], args := [d] }
  | _ => none }
def rollOfsRow : OpenClaim := { program := "ytiedndnegmbkiaadoor", sum := "b7a452f6b48b3e601e6f3edba6bd4d84cd31788021470053db5f90a6a28bc881", func := "barograph/barographlaw.RollOfs", spec := "rollOfs", named := ["barograph/zig.classes"], apart := false, laid := [("barograph/zig.classes", laid_barograph_zig_classes)] }
def RollOfsSaid : Prop := rollOfsRow.holds Tryd.pinned (OpenSpec.ofChange rollOfsSpec)

/-- ITS FALSE NEIGHBOUR: 'it returns false'. Refute it at one input. -/
def rollOfsWrong : ChangeSpec := { name := "rollOfs", fn := fun _ => fun
  | [d] => { results := [.lit (.bool false)], args := [d] }
  | _ => none }
def RollOfsWrongFalsely : Prop := rollOfsRow.holds Tryd.pinned (OpenSpec.ofChange rollOfsWrong)

/-- 'barographlaw.RollBuckets': WHATEVER THE INPUT: true; the input reads as it did. -/
def rollBucketsSpec : ChangeSpec := { name := "rollBuckets", fn := fun _ => fun
  | [d1, d2] => { results := [.lit (.bool true)], args := [d1, d2] }
  | _ => none }
def rollBucketsRow : OpenClaim := { program := "ytiedndnegmbkiaadoor", sum := "b7a452f6b48b3e601e6f3edba6bd4d84cd31788021470053db5f90a6a28bc881", func := "barograph/barographlaw.RollBuckets", spec := "rollBuckets", unfollowed := true, recurses := true, named := ["barograph/zig.classes"], apart := false, laid := [("barograph/zig.classes", laid_barograph_zig_classes)] }
def RollBucketsSaid : Prop := rollBucketsRow.holds Tryd.pinned (OpenSpec.ofChange rollBucketsSpec)

/-- ITS FALSE NEIGHBOUR: 'it returns false'. Refute it at one input. -/
def rollBucketsWrong : ChangeSpec := { name := "rollBuckets", fn := fun _ => fun
  | [d1, d2] => { results := [.lit (.bool false)], args := [d1, d2] }
  | _ => none }
def RollBucketsWrongFalsely : Prop := rollBucketsRow.holds Tryd.pinned (OpenSpec.ofChange rollBucketsWrong)

/-- 'barographlaw.RateMeans': WHATEVER THE INPUT: true; the input reads as it did. -/
def rateMeansSpec : ChangeSpec := { name := "rateMeans", fn := fun _ => fun
  | [d] => { results := [.lit (.bool true)], args := [d] }
  | _ => none }
def rateMeansRow : OpenClaim := { program := "ytiedndnegmbkiaadoor", sum := "b7a452f6b48b3e601e6f3edba6bd4d84cd31788021470053db5f90a6a28bc881", func := "barograph/barographlaw.RateMeans", spec := "rateMeans", unfollowed := true, recurses := true, named := ["barograph/zig.classes"], apart := false, laid := [("barograph/zig.classes", laid_barograph_zig_classes)] }
def RateMeansSaid : Prop := rateMeansRow.holds Tryd.pinned (OpenSpec.ofChange rateMeansSpec)

/-- ITS FALSE NEIGHBOUR: 'it returns false'. Refute it at one input. -/
def rateMeansWrong : ChangeSpec := { name := "rateMeans", fn := fun _ => fun
  | [d] => { results := [.lit (.bool false)], args := [d] }
  | _ => none }
def RateMeansWrongFalsely : Prop := rateMeansRow.holds Tryd.pinned (OpenSpec.ofChange rateMeansWrong)

/-- 'barographlaw.RateRises': WHATEVER THE INPUT: true; the input reads as it did. -/
def rateRisesSpec : ChangeSpec := { name := "rateRises", fn := fun _ => fun
  | [d] => { results := [.lit (.bool true)], args := [d] }
  | _ => none }
def rateRisesRow : OpenClaim := { program := "ytiedndnegmbkiaadoor", sum := "b7a452f6b48b3e601e6f3edba6bd4d84cd31788021470053db5f90a6a28bc881", func := "barograph/barographlaw.RateRises", spec := "rateRises", unfollowed := true, recurses := true, named := ["barograph/zig.classes"], apart := false, laid := [("barograph/zig.classes", laid_barograph_zig_classes)] }
def RateRisesSaid : Prop := rateRisesRow.holds Tryd.pinned (OpenSpec.ofChange rateRisesSpec)

/-- ITS FALSE NEIGHBOUR: 'it returns false'. Refute it at one input. -/
def rateRisesWrong : ChangeSpec := { name := "rateRises", fn := fun _ => fun
  | [d] => { results := [.lit (.bool false)], args := [d] }
  | _ => none }
def RateRisesWrongFalsely : Prop := rateRisesRow.holds Tryd.pinned (OpenSpec.ofChange rateRisesWrong)

/-- 'barographlaw.RateAts': WHATEVER THE INPUT: true; the input reads as it did. -/
def rateAtsSpec : ChangeSpec := { name := "rateAts", fn := fun _ => fun
  | [d1, d2] => { results := [.lit (.bool true)], args := [d1, d2] }
  | _ => none }
def rateAtsRow : OpenClaim := { program := "ytiedndnegmbkiaadoor", sum := "b7a452f6b48b3e601e6f3edba6bd4d84cd31788021470053db5f90a6a28bc881", func := "barograph/barographlaw.RateAts", spec := "rateAts", unfollowed := true, recurses := true, named := ["barograph/zig.classes"], apart := false, laid := [("barograph/zig.classes", laid_barograph_zig_classes)] }
def RateAtsSaid : Prop := rateAtsRow.holds Tryd.pinned (OpenSpec.ofChange rateAtsSpec)

/-- ITS FALSE NEIGHBOUR: 'it returns false'. Refute it at one input. -/
def rateAtsWrong : ChangeSpec := { name := "rateAts", fn := fun _ => fun
  | [d1, d2] => { results := [.lit (.bool false)], args := [d1, d2] }
  | _ => none }
def RateAtsWrongFalsely : Prop := rateAtsRow.holds Tryd.pinned (OpenSpec.ofChange rateAtsWrong)

/- THE SECOND FORM. 'bulk': how many values and letters a reading holds, each counted each time it is reached (what is shared counts as often as it is met; a slice's spare places count too). A statement '..UptoSaid' is the law's where the arguments, and the package variables that the reading takes, are together of bulk at most 1048576: NARROWER than '..Said'. Prove '..Said' where nothing that the law and all that it calls make is longer than what came in: it says more and counts as full. Else prove '..UptoSaid'. A law counts once. -/
mutual
def uptoBulk {H : Type} : DataW H → Nat
  | .lit (.string bytes) => bytes.length + 1
  | .lit _ => 1
  | .nil => 1
  | .ptr d => uptoBulk d + 1
  | .slice elems spare => uptoBulkAll elems + uptoBulkAll spare + 1
  | .agg parts => uptoBulkAll parts + 1
  | .iface _ d => uptoBulk d + 1
  | .map entries => uptoBulkEntries entries + 1
  | .held _ => 1
def uptoBulkAll {H : Type} : List (DataW H) → Nat
  | [] => 0
  | d :: r => uptoBulk d + uptoBulkAll r
def uptoBulkEntries {H : Type} : List (Lit × DataW H) → Nat
  | [] => 0
  | x :: r => uptoBulkEntry x + uptoBulkEntries r
def uptoBulkEntry {H : Type} : Lit × DataW H → Nat
  | (.string bytes, d) => bytes.length + uptoBulk d + 1
  | (_, d) => uptoBulk d + 1
 end
def uptoSmall : (H : Type) → List (DataW H) → Bool := fun _ ds => decide (uptoBulkAll ds ≤ 1048576)
def OpenSpec.upto (s : _root_.Go.ChangeSpec) : _root_.Go.OpenSpec := { _root_.Go.OpenSpec.ofChange s with cond := some uptoSmall }

/-- 'barographlaw.ChunkEncodes', WHERE WHAT IT READS IS OF BULK AT MOST 1048576: true; the input reads as it did. -/
def chunkEncodesUptoRow : OpenClaim := { program := "ytiedndnegmbkiaadoor", sum := "b7a452f6b48b3e601e6f3edba6bd4d84cd31788021470053db5f90a6a28bc881", func := "barograph/barographlaw.ChunkEncodes", spec := "chunkEncodes", named := ["barograph/zig.classes"], apart := false, laid := [("barograph/zig.classes", laid_barograph_zig_classes)], narrowed := true }
def ChunkEncodesUptoSaid : Prop := chunkEncodesUptoRow.holds Tryd.pinned (OpenSpec.upto chunkEncodesSpec)

/-- 'barographlaw.ChunkDecodes', WHERE WHAT IT READS IS OF BULK AT MOST 1048576: true; the input reads as it did. -/
def chunkDecodesUptoRow : OpenClaim := { program := "ytiedndnegmbkiaadoor", sum := "b7a452f6b48b3e601e6f3edba6bd4d84cd31788021470053db5f90a6a28bc881", func := "barograph/barographlaw.ChunkDecodes", spec := "chunkDecodes", named := ["barograph/zig.classes"], apart := false, laid := [("barograph/zig.classes", laid_barograph_zig_classes)], narrowed := true }
def ChunkDecodesUptoSaid : Prop := chunkDecodesUptoRow.holds Tryd.pinned (OpenSpec.upto chunkDecodesSpec)

/-- 'barographlaw.RollOfs', WHERE WHAT IT READS IS OF BULK AT MOST 1048576: true; the input reads as it did. -/
def rollOfsUptoRow : OpenClaim := { program := "ytiedndnegmbkiaadoor", sum := "b7a452f6b48b3e601e6f3edba6bd4d84cd31788021470053db5f90a6a28bc881", func := "barograph/barographlaw.RollOfs", spec := "rollOfs", named := ["barograph/zig.classes"], apart := false, laid := [("barograph/zig.classes", laid_barograph_zig_classes)], narrowed := true }
def RollOfsUptoSaid : Prop := rollOfsUptoRow.holds Tryd.pinned (OpenSpec.upto rollOfsSpec)

/-- 'barographlaw.RollBuckets', WHERE WHAT IT READS IS OF BULK AT MOST 1048576: true; the input reads as it did. -/
def rollBucketsUptoRow : OpenClaim := { program := "ytiedndnegmbkiaadoor", sum := "b7a452f6b48b3e601e6f3edba6bd4d84cd31788021470053db5f90a6a28bc881", func := "barograph/barographlaw.RollBuckets", spec := "rollBuckets", unfollowed := true, recurses := true, named := ["barograph/zig.classes"], apart := false, laid := [("barograph/zig.classes", laid_barograph_zig_classes)], narrowed := true }
def RollBucketsUptoSaid : Prop := rollBucketsUptoRow.holds Tryd.pinned (OpenSpec.upto rollBucketsSpec)

/-- 'barographlaw.RateMeans', WHERE WHAT IT READS IS OF BULK AT MOST 1048576: true; the input reads as it did. -/
def rateMeansUptoRow : OpenClaim := { program := "ytiedndnegmbkiaadoor", sum := "b7a452f6b48b3e601e6f3edba6bd4d84cd31788021470053db5f90a6a28bc881", func := "barograph/barographlaw.RateMeans", spec := "rateMeans", unfollowed := true, recurses := true, named := ["barograph/zig.classes"], apart := false, laid := [("barograph/zig.classes", laid_barograph_zig_classes)], narrowed := true }
def RateMeansUptoSaid : Prop := rateMeansUptoRow.holds Tryd.pinned (OpenSpec.upto rateMeansSpec)

/-- 'barographlaw.RateRises', WHERE WHAT IT READS IS OF BULK AT MOST 1048576: true; the input reads as it did. -/
def rateRisesUptoRow : OpenClaim := { program := "ytiedndnegmbkiaadoor", sum := "b7a452f6b48b3e601e6f3edba6bd4d84cd31788021470053db5f90a6a28bc881", func := "barograph/barographlaw.RateRises", spec := "rateRises", unfollowed := true, recurses := true, named := ["barograph/zig.classes"], apart := false, laid := [("barograph/zig.classes", laid_barograph_zig_classes)], narrowed := true }
def RateRisesUptoSaid : Prop := rateRisesUptoRow.holds Tryd.pinned (OpenSpec.upto rateRisesSpec)

/-- 'barographlaw.RateAts', WHERE WHAT IT READS IS OF BULK AT MOST 1048576: true; the input reads as it did. -/
def rateAtsUptoRow : OpenClaim := { program := "ytiedndnegmbkiaadoor", sum := "b7a452f6b48b3e601e6f3edba6bd4d84cd31788021470053db5f90a6a28bc881", func := "barograph/barographlaw.RateAts", spec := "rateAts", unfollowed := true, recurses := true, named := ["barograph/zig.classes"], apart := false, laid := [("barograph/zig.classes", laid_barograph_zig_classes)], narrowed := true }
def RateAtsUptoSaid : Prop := rateAtsUptoRow.holds Tryd.pinned (OpenSpec.upto rateAtsSpec)

end Rows
end Go.Proofs.YtiedndnegmbkiaaDoor
