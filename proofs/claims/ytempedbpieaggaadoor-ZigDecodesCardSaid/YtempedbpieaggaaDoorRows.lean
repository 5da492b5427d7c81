/-
  NARROWER THAN 'FOR EVERY INPUT', by the rows' own cells (each row's printed sentence says how): ZigSizes: laid · ZigEncodes: laid · ZigDecodes: laid.
  DERIVED. THE GIVEN ROWS OF THIS SEAT. 3 by the template 'for every input the law returns true; each argument reads behind the call as it read before'; 0 by the template 'total and deterministic' (their statements: YtempedbpieaggaaDoorTotals.lean).
  GIVEN WITH THE SEED: the statements are not yours to turn. If you find one false, say at which input.
  Laid BY PROGRAM, IN A SANDBOX (cutbox-rows.mjs): the forced cells as the released guide's own fill.sh prints them over the translation 6aa0660de09cef07… (all of the seat's roots in one cut). By AI agents, Wed Nov 11 2026. No macro, syntax, notation, axiom, sorry.
-/
import Derived.Test.YtempedbpieaggaaDoorChecked
import GoSem.Claim
import GoSem.ClaimJoined
import GoSem.ClaimMapViews
import Derived.JoinedTies
import Derived.KernelRfl
namespace Go.Proofs.YtempedbpieaggaaDoor
/- THE CELL 'sum', in the pinned program and in every row, IS THE sha256 OF THE DUMP (.gsa) THAT YtempedbpieaggaaDoorProg.lean LOADS. Nothing in Lean hashes anything: it is a label: what it is worth is what the hold of that sum in a sandbox is worth. -/
noncomputable def Tryd.pinned : Pinned := { name := "ytempedbpieaggaadoor", sum := "6aa0660de09cef071bb0076eb9cd3f30fb3a06e2d5b2b0edfa83018bb0a49e3f", checked := Tryd.checked }
namespace Rows
def none {H : Type} : Left H := { results := [], args := [] }

/- WHAT THE LISTED PACKAGE-LEVEL VARIABLES READ AS WHEN THE CALL BEGINS. Each datum BY PROGRAM (the guide's laid-datum.mjs) off the statement by which the dump's own 'gosem.cut.vars' lays the variable. In a bare row this is a premise. The card (YtempedbpieaggaaDoorCards.lean) ties it to the program's text. -/
def laid_barograph_zig_classes {H : Type} : DataW H := .agg [.agg [.lit (.int .i64 0), .lit (.int .i64 1), .lit (.int .i64 0)], .agg [.lit (.int .i64 2), .lit (.int .i64 2), .lit (.int .i64 6)], .agg [.lit (.int .i64 6), .lit (.int .i64 3), .lit (.int .i64 12)], .agg [.lit (.int .i64 14), .lit (.int .i64 4), .lit (.int .i64 24)], .agg [.lit (.int .i64 15), .lit (.int .i64 4), .lit (.int .i64 59)]]

/-- 'barographlaw.ZigSizes': WHATEVER THE INPUT: true; the input reads as it did. -/
def zigSizesSpec : ChangeSpec := { name := "zigSizes", fn := fun _ => fun
  | [d] => { results := [.lit (.bool true)], args := [d] }
  | _ => none }
def zigSizesRow : OpenClaim := { program := "ytempedbpieaggaadoor", sum := "6aa0660de09cef071bb0076eb9cd3f30fb3a06e2d5b2b0edfa83018bb0a49e3f", func := "barograph/barographlaw.ZigSizes", spec := "zigSizes", named := ["barograph/zig.classes"], apart := false, laid := [("barograph/zig.classes", laid_barograph_zig_classes)] }
def ZigSizesSaid : Prop := zigSizesRow.holds Tryd.pinned (OpenSpec.ofChange zigSizesSpec)

/-- ITS FALSE NEIGHBOUR: 'it returns false'. Refute it at one input. -/
def zigSizesWrong : ChangeSpec := { name := "zigSizes", fn := fun _ => fun
  | [d] => { results := [.lit (.bool false)], args := [d] }
  | _ => none }
def ZigSizesWrongFalsely : Prop := zigSizesRow.holds Tryd.pinned (OpenSpec.ofChange zigSizesWrong)

/-- 'barographlaw.ZigEncodes': WHATEVER THE INPUT: true; the input reads as it did. -/
def zigEncodesSpec : ChangeSpec := { name := "zigEncodes", fn := fun _ => fun
  | [d] => { results := [.lit (.bool true)], args := [d] }
  | _ => none }
def zigEncodesRow : OpenClaim := { program := "ytempedbpieaggaadoor", sum := "6aa0660de09cef071bb0076eb9cd3f30fb3a06e2d5b2b0edfa83018bb0a49e3f", func := "barograph/barographlaw.ZigEncodes", spec := "zigEncodes", named := ["barograph/zig.classes"], apart := false, laid := [("barograph/zig.classes", laid_barograph_zig_classes)] }
def ZigEncodesSaid : Prop := zigEncodesRow.holds Tryd.pinned (OpenSpec.ofChange zigEncodesSpec)

/-- ITS FALSE NEIGHBOUR: 'it returns false'. Refute it at one input. -/
def zigEncodesWrong : ChangeSpec := { name := "zigEncodes", fn := fun _ => fun
  | [d] => { results := [.lit (.bool false)], args := [d] }
  | _ => none }
def ZigEncodesWrongFalsely : Prop := zigEncodesRow.holds Tryd.pinned (OpenSpec.ofChange zigEncodesWrong)

/-- 'barographlaw.ZigDecodes': WHATEVER THE INPUT: true; the input reads as it did. -/
def zigDecodesSpec : ChangeSpec := { name := "zigDecodes", fn := fun _ => fun
  | [d1, d2] => { results := [.lit (.bool true)], args := [d1, d2] }
  | _ => none }
def zigDecodesRow : OpenClaim := { program := "ytempedbpieaggaadoor", sum := "6aa0660de09cef071bb0076eb9cd3f30fb3a06e2d5b2b0edfa83018bb0a49e3f", func := "barograph/barographlaw.ZigDecodes", spec := "zigDecodes", named := ["barograph/zig.classes"], apart := false, laid := [("barograph/zig.classes", laid_barograph_zig_classes)] }
def ZigDecodesSaid : Prop := zigDecodesRow.holds Tryd.pinned (OpenSpec.ofChange zigDecodesSpec)

/-- ITS FALSE NEIGHBOUR: 'it returns false'. Refute it at one input. -/
def zigDecodesWrong : ChangeSpec := { name := "zigDecodes", fn := fun _ => fun
  | [d1, d2] => { results := [.lit (.bool false)], args := [d1, d2] }
  | _ => none }
def ZigDecodesWrongFalsely : Prop := zigDecodesRow.holds Tryd.pinned (OpenSpec.ofChange zigDecodesWrong)

/- THE SECOND FORM. 'bulk': how many values and letters a reading holds, each counted each time it is reached (what is shared counts as often as it is met; a slice's spare places count too). A statement '..UptoSaid' is the law's where the arguments, and the package variables that the reading takes, are together of bulk at most 1048576: NARROWER than '..Said'. Prove '..Said' where nothing that the law and all that it calls make is longer than what came in: it says more and counts as full. Else prove '..UptoSaid'. A law counts once. -/
mutual
def uptoBulk {H : Type} : DataW H → Nat
  | .lit (.string bytes) => bytes.length + 1
  | .lit _ => 1
  | .nil => 1
  | .ptr d => uptoBulk d + 1
  | .slice elems spare => uptoBulkAll elems + uptoBulkAll spare + 1
  | .agg parts => uptoBulkAll parts + 1
  | .iface _ d => uptoBulk d + 1
  | .map entries => uptoBulkEntries entries + 1
  | .held _ => 1
def uptoBulkAll {H : Type} : List (DataW H) → Nat
  | [] => 0
  | d :: r => uptoBulk d + uptoBulkAll r
def uptoBulkEntries {H : Type} : List (Lit × DataW H) → Nat
  | [] => 0
  | x :: r => uptoBulkEntry x + uptoBulkEntries r
def uptoBulkEntry {H : Type} : Lit × DataW H → Nat
  | (.string bytes, d) => bytes.length + uptoBulk d + 1
  | (_, d) => uptoBulk d + 1
 end
def uptoSmall : (H : Type) → List (DataW H) → Bool := fun _ ds => decide (uptoBulkAll ds ≤ 1048576)
def OpenSpec.upto (s : _root_.Go.ChangeSpec) : _root_.Go.OpenSpec := { _root_.Go.OpenSpec.ofChange s with cond := some uptoSmall }

/-- 'barographlaw.ZigSizes', WHERE WHAT IT READS IS OF BULK AT MOST 1048576: true; the input reads as it did. -/
def zigSizesUptoRow : OpenClaim := { program := "ytempedbpieaggaadoor", sum := "6aa0660de09cef071bb0076eb9cd3f30fb3a06e2d5b2b0edfa83018bb0a49e3f", func := "barograph/barographlaw.ZigSizes", spec := "zigSizes", named := ["barograph/zig.classes"], apart := false, laid := [("barograph/zig.classes", laid_barograph_zig_classes)], narrowed := true }
def ZigSizesUptoSaid : Prop := zigSizesUptoRow.holds Tryd.pinned (OpenSpec.upto zigSizesSpec)

/-- 'barographlaw.ZigEncodes', WHERE WHAT IT READS IS OF BULK AT MOST 1048576: true; the input reads as it did. -/
def zigEncodesUptoRow : OpenClaim := { program := "ytempedbpieaggaadoor", sum := "6aa0660de09cef071bb0076eb9cd3f30fb3a06e2d5b2b0edfa83018bb0a49e3f", func := "barograph/barographlaw.ZigEncodes", spec := "zigEncodes", named := ["barograph/zig.classes"], apart := false, laid := [("barograph/zig.classes", laid_barograph_zig_classes)], narrowed := true }
def ZigEncodesUptoSaid : Prop := zigEncodesUptoRow.holds Tryd.pinned (OpenSpec.upto zigEncodesSpec)

/-- 'barographlaw.ZigDecodes', WHERE WHAT IT READS IS OF BULK AT MOST 1048576: true; the input reads as it did. -/
def zigDecodesUptoRow : OpenClaim := { program := "ytempedbpieaggaadoor", sum := "6aa0660de09cef071bb0076eb9cd3f30fb3a06e2d5b2b0edfa83018bb0a49e3f", func := "barograph/barographlaw.ZigDecodes", spec := "zigDecodes", named := ["barograph/zig.classes"], apart := false, laid := [("barograph/zig.classes", laid_barograph_zig_classes)], narrowed := true }
def ZigDecodesUptoSaid : Prop := zigDecodesUptoRow.holds Tryd.pinned (OpenSpec.upto zigDecodesSpec)

end Rows
end Go.Proofs.YtempedbpieaggaaDoor
