/-
  NARROWER THAN 'FOR EVERY INPUT', by the rows' own cells (each row's printed sentence says how): VmMays: laid · VmRuns: laid · RunMays: laid · RunPlays: laid.
  DERIVED. THE GIVEN ROWS OF THIS SEAT. 4 by the template 'for every input the law returns true; each argument reads behind the call as it read before'; 0 by the template 'total and deterministic' (their statements: YtdjphneoecebmaaDoorTotals.lean).
  GIVEN WITH THE SEED: the statements are not yours to turn. If you find one false, say at which input.
  Laid BY PROGRAM, IN A SANDBOX (cutbox-rows.mjs): the forced cells as the released guide's own fill.sh prints them over the translation d12df3a0fff4962a… (all of the seat's roots in one cut). By AI agents, Wed Nov 11 2026. No macro, syntax, notation, axiom, sorry.
-/
import Derived.Test.YtdjphneoecebmaaDoorChecked
import GoSem.Claim
import GoSem.ClaimJoined
import GoSem.ClaimMapViews
import Derived.JoinedTies
import Derived.KernelRfl
namespace Go.Proofs.YtdjphneoecebmaaDoor
/- THE CELL 'sum', in the pinned program and in every row, IS THE sha256 OF THE DUMP (.gsa) THAT YtdjphneoecebmaaDoorProg.lean LOADS. Nothing in Lean hashes anything: it is a label: what it is worth is what the hold of that sum in a sandbox is worth. -/
noncomputable def Tryd.pinned : Pinned := { name := "ytdjphneoecebmaadoor", sum := "d12df3a0fff4962a6ea634d589402263d85d66e6bca1e85a4259aae31f984478", checked := Tryd.checked }
namespace Rows
def none {H : Type} : Left H := { results := [], args := [] }

/- WHAT THE LISTED PACKAGE-LEVEL VARIABLES READ AS WHEN THE CALL BEGINS. Each datum BY PROGRAM (the guide's laid-datum.mjs) off the statement by which the dump's own 'gosem.cut.vars' lays the variable. In a bare row this is a premise. The card (YtdjphneoecebmaaDoorCards.lean) ties it to the program's text. -/
def laid_barograph_vm_shapes {H : Type} : DataW H := .agg [.lit (.string []), .lit (.string [114, 110, 45, 45]), .lit (.string [114, 114, 45, 45]), .lit (.string [114, 114, 114, 45]), .lit (.string [114, 114, 114, 45]), .lit (.string [114, 114, 114, 45]), .lit (.string [114, 114, 114, 45]), .lit (.string [114, 114, 114, 45]), .lit (.string [114, 114, 114, 45]), .lit (.string [114, 114, 114, 45]), .lit (.string [112, 45, 45, 45]), .lit (.string [114, 112, 45, 45]), .lit (.string [114, 112, 45, 45]), .lit (.string [114, 114, 110, 45]), .lit (.string [114, 114, 110, 45]), .lit (.string [114, 114, 110, 114]), .lit (.string [114, 45, 45, 45]), .lit (.string [45, 45, 45, 45])]

/-- 'barographlaw.VmMays': WHATEVER THE INPUT: true; the input reads as it did. -/
def vmMaysSpec : ChangeSpec := { name := "vmMays", fn := fun _ => fun
  | [d] => { results := [.lit (.bool true)], args := [d] }
  | _ => none }
def vmMaysRow : OpenClaim := { program := "ytdjphneoecebmaadoor", sum := "d12df3a0fff4962a6ea634d589402263d85d66e6bca1e85a4259aae31f984478", func := "barograph/barographlaw.VmMays", spec := "vmMays", unfollowed := true, recurses := true, named := ["barograph/vm.shapes"], apart := false, laid := [("barograph/vm.shapes", laid_barograph_vm_shapes)] }
def VmMaysSaid : Prop := vmMaysRow.holds Tryd.pinned (OpenSpec.ofChange vmMaysSpec)

/-- ITS FALSE NEIGHBOUR: 'it returns false'. Refute it at one input. -/
def vmMaysWrong : ChangeSpec := { name := "vmMays", fn := fun _ => fun
  | [d] => { results := [.lit (.bool false)], args := [d] }
  | _ => none }
def VmMaysWrongFalsely : Prop := vmMaysRow.holds Tryd.pinned (OpenSpec.ofChange vmMaysWrong)

/-- 'barographlaw.VmRuns': WHATEVER THE INPUT: true; the input reads as it did. -/
def vmRunsSpec : ChangeSpec := { name := "vmRuns", fn := fun _ => fun
  | [d1, d2, d3, d4] => { results := [.lit (.bool true)], args := [d1, d2, d3, d4] }
  | _ => none }
def vmRunsRow : OpenClaim := { program := "ytdjphneoecebmaadoor", sum := "d12df3a0fff4962a6ea634d589402263d85d66e6bca1e85a4259aae31f984478", func := "barograph/barographlaw.VmRuns", spec := "vmRuns", unfollowed := true, recurses := true, named := ["barograph/vm.shapes"], apart := false, laid := [("barograph/vm.shapes", laid_barograph_vm_shapes)] }
def VmRunsSaid : Prop := vmRunsRow.holds Tryd.pinned (OpenSpec.ofChange vmRunsSpec)

/-- ITS FALSE NEIGHBOUR: 'it returns false'. Refute it at one input. -/
def vmRunsWrong : ChangeSpec := { name := "vmRuns", fn := fun _ => fun
  | [d1, d2, d3, d4] => { results := [.lit (.bool false)], args := [d1, d2, d3, d4] }
  | _ => none }
def VmRunsWrongFalsely : Prop := vmRunsRow.holds Tryd.pinned (OpenSpec.ofChange vmRunsWrong)

/-- 'barographlaw.RunMays': WHATEVER THE INPUT: true; the input reads as it did. -/
def runMaysSpec : ChangeSpec := { name := "runMays", fn := fun _ => fun
  | [d] => { results := [.lit (.bool true)], args := [d] }
  | _ => none }
def runMaysRow : OpenClaim := { program := "ytdjphneoecebmaadoor", sum := "d12df3a0fff4962a6ea634d589402263d85d66e6bca1e85a4259aae31f984478", func := "barograph/barographlaw.RunMays", spec := "runMays", unfollowed := true, recurses := true, named := ["barograph/vm.shapes"], apart := false, laid := [("barograph/vm.shapes", laid_barograph_vm_shapes)] }
def RunMaysSaid : Prop := runMaysRow.holds Tryd.pinned (OpenSpec.ofChange runMaysSpec)

/-- ITS FALSE NEIGHBOUR: 'it returns false'. Refute it at one input. -/
def runMaysWrong : ChangeSpec := { name := "runMays", fn := fun _ => fun
  | [d] => { results := [.lit (.bool false)], args := [d] }
  | _ => none }
def RunMaysWrongFalsely : Prop := runMaysRow.holds Tryd.pinned (OpenSpec.ofChange runMaysWrong)

/-- 'barographlaw.RunPlays': WHATEVER THE INPUT: true; the input reads as it did. -/
def runPlaysSpec : ChangeSpec := { name := "runPlays", fn := fun _ => fun
  | [d1, d2] => { results := [.lit (.bool true)], args := [d1, d2] }
  | _ => none }
def runPlaysRow : OpenClaim := { program := "ytdjphneoecebmaadoor", sum := "d12df3a0fff4962a6ea634d589402263d85d66e6bca1e85a4259aae31f984478", func := "barograph/barographlaw.RunPlays", spec := "runPlays", unfollowed := true, recurses := true, named := ["barograph/vm.shapes"], apart := false, laid := [("barograph/vm.shapes", laid_barograph_vm_shapes)] }
def RunPlaysSaid : Prop := runPlaysRow.holds Tryd.pinned (OpenSpec.ofChange runPlaysSpec)

/-- ITS FALSE NEIGHBOUR: 'it returns false'. Refute it at one input. -/
def runPlaysWrong : ChangeSpec := { name := "runPlays", fn := fun _ => fun
  | [d1, d2] => { results := [.lit (.bool false)], args := [d1, d2] }
  | _ => none }
def RunPlaysWrongFalsely : Prop := runPlaysRow.holds Tryd.pinned (OpenSpec.ofChange runPlaysWrong)

/- THE SECOND FORM. 'bulk': how many values and letters a reading holds, each counted each time it is reached (what is shared counts as often as it is met; a slice's spare places count too). A statement '..UptoSaid' is the law's where the arguments, and the package variables that the reading takes, are together of bulk at most 1048576: NARROWER than '..Said'. Prove '..Said' where nothing that the law and all that it calls make is longer than what came in: it says more and counts as full. Else prove '..UptoSaid'. A law counts once. -/
mutual
def uptoBulk {H : Type} : DataW H → Nat
  | .lit (.string bytes) => bytes.length + 1
  | .lit _ => 1
  | .nil => 1
  | .ptr d => uptoBulk d + 1
  | .slice elems spare => uptoBulkAll elems + uptoBulkAll spare + 1
  | .agg parts => uptoBulkAll parts + 1
  | .iface _ d => uptoBulk d + 1
  | .map entries => uptoBulkEntries entries + 1
  | .held _ => 1
def uptoBulkAll {H : Type} : List (DataW H) → Nat
  | [] => 0
  | d :: r => uptoBulk d + uptoBulkAll r
def uptoBulkEntries {H : Type} : List (Lit × DataW H) → Nat
  | [] => 0
  | x :: r => uptoBulkEntry x + uptoBulkEntries r
def uptoBulkEntry {H : Type} : Lit × DataW H → Nat
  | (.string bytes, d) => bytes.length + uptoBulk d + 1
  | (_, d) => uptoBulk d + 1
 end
def uptoSmall : (H : Type) → List (DataW H) → Bool := fun _ ds => decide (uptoBulkAll ds ≤ 1048576)
def OpenSpec.upto (s : _root_.Go.ChangeSpec) : _root_.Go.OpenSpec := { _root_.Go.OpenSpec.ofChange s with cond := some uptoSmall }

/-- 'barographlaw.VmMays', WHERE WHAT IT READS IS OF BULK AT MOST 1048576: true; the input reads as it did. -/
def vmMaysUptoRow : OpenClaim := { program := "ytdjphneoecebmaadoor", sum := "d12df3a0fff4962a6ea634d589402263d85d66e6bca1e85a4259aae31f984478", func := "barograph/barographlaw.VmMays", spec := "vmMays", unfollowed := true, recurses := true, named := ["barograph/vm.shapes"], apart := false, laid := [("barograph/vm.shapes", laid_barograph_vm_shapes)], narrowed := true }
def VmMaysUptoSaid : Prop := vmMaysUptoRow.holds Tryd.pinned (OpenSpec.upto vmMaysSpec)

/-- 'barographlaw.VmRuns', WHERE WHAT IT READS IS OF BULK AT MOST 1048576: true; the input reads as it did. -/
def vmRunsUptoRow : OpenClaim := { program := "ytdjphneoecebmaadoor", sum := "d12df3a0fff4962a6ea634d589402263d85d66e6bca1e85a4259aae31f984478", func := "barograph/barographlaw.VmRuns", spec := "vmRuns", unfollowed := true, recurses := true, named := ["barograph/vm.shapes"], apart := false, laid := [("barograph/vm.shapes", laid_barograph_vm_shapes)], narrowed := true }
def VmRunsUptoSaid : Prop := vmRunsUptoRow.holds Tryd.pinned (OpenSpec.upto vmRunsSpec)

/-- 'barographlaw.RunMays', WHERE WHAT IT READS IS OF BULK AT MOST 1048576: true; the input reads as it did. -/
def runMaysUptoRow : OpenClaim := { program := "ytdjphneoecebmaadoor", sum := "d12df3a0fff4962a6ea634d589402263d85d66e6bca1e85a4259aae31f984478", func := "barograph/barographlaw.RunMays", spec := "runMays", unfollowed := true, recurses := true, named := ["barograph/vm.shapes"], apart := false, laid := [("barograph/vm.shapes", laid_barograph_vm_shapes)], narrowed := true }
def RunMaysUptoSaid : Prop := runMaysUptoRow.holds Tryd.pinned (OpenSpec.upto runMaysSpec)

/-- 'barographlaw.RunPlays', WHERE WHAT IT READS IS OF BULK AT MOST 1048576: true; the input reads as it did. -/
def runPlaysUptoRow : OpenClaim := { program := "ytdjphneoecebmaadoor", sum := "d12df3a0fff4962a6ea634d589402263d85d66e6bca1e85a4259aae31f984478", func := "barograph/barographlaw.RunPlays", spec := "runPlays", unfollowed := true, recurses := true, named := ["barograph/vm.shapes"], apart := false, laid := [("barograph/vm.shapes", laid_barograph_vm_shapes)], narrowed := true }
def RunPlaysUptoSaid : Prop := runPlaysUptoRow.holds Tryd.pinned (OpenSpec.upto runPlaysSpec)

end Rows
end Go.Proofs.YtdjphneoecebmaaDoor
