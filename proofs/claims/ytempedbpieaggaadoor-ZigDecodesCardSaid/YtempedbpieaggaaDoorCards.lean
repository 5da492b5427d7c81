/-
  DERIVED. GIVEN WITH THE SEED: THE CARDS: each row of YtempedbpieaggaaDoorRows.lean that lists a variable, with what it lists TIED to the program's text (the seventh form; the later family's looks); each row that meets fmt, with fmt's text TOLD by the authors' own Lean function (tested against real Go, not proved from fmt's source: count such statements apart). THE CARD IS WHAT COUNTS. Prove the row's statement (the work); the ties are given (YtempedbpieaggaaDoorTie.lean); close each card by the builder's one call (the guide's Derived/Test/ToyasCard.lean, 'card_holds'). Laid BY PROGRAM, IN A SANDBOX (cutbox-door.mjs). By AI agents, Wed Nov 11 2026. No macro, syntax, notation, axiom, sorry.
-/
import Derived.Test.YtempedbpieaggaaDoorRows
import GoSem.ClaimSeven
namespace Go.Proofs.YtempedbpieaggaaDoor
namespace Rows

/-- THE TIED CARD OF 'barographlaw.ZigSizes'. -/
def zigSizesCard : Claim7 := { stood := { row := zigSizesRow, standIns := [], harness := (true, "ebca67995d790951973d658a8b1a86f7bac96322318cf8382a41b084307f7031"), looks := false }, kinds := [], alts := [], laidByText := true, laidKinds := [.data], laidTests := true, laidLooks := .later }
def ZigSizesCardSaid : Prop := Claim7.holds Tryd.pinned (.plain (OpenSpec.ofChange zigSizesSpec)) zigSizesCard

/-- THE TIED CARD OF 'barographlaw.ZigEncodes'. -/
def zigEncodesCard : Claim7 := { stood := { row := zigEncodesRow, standIns := [], harness := (true, "ebca67995d790951973d658a8b1a86f7bac96322318cf8382a41b084307f7031"), looks := false }, kinds := [], alts := [], laidByText := true, laidKinds := [.data], laidTests := true, laidLooks := .later }
def ZigEncodesCardSaid : Prop := Claim7.holds Tryd.pinned (.plain (OpenSpec.ofChange zigEncodesSpec)) zigEncodesCard

/-- THE TIED CARD OF 'barographlaw.ZigDecodes'. -/
def zigDecodesCard : Claim7 := { stood := { row := zigDecodesRow, standIns := [], harness := (true, "ebca67995d790951973d658a8b1a86f7bac96322318cf8382a41b084307f7031"), looks := false }, kinds := [], alts := [], laidByText := true, laidKinds := [.data], laidTests := true, laidLooks := .later }
def ZigDecodesCardSaid : Prop := Claim7.holds Tryd.pinned (.plain (OpenSpec.ofChange zigDecodesSpec)) zigDecodesCard

/-- THE SECOND FORM's CARD OF 'barographlaw.ZigSizes'. -/
def zigSizesUptoCard : Claim7 := { stood := { row := zigSizesUptoRow, standIns := [], harness := (true, "ebca67995d790951973d658a8b1a86f7bac96322318cf8382a41b084307f7031"), looks := false }, kinds := [], alts := [], laidByText := true, laidKinds := [.data], laidTests := true, laidLooks := .later }
def ZigSizesUptoCardSaid : Prop := Claim7.holds Tryd.pinned (.plain (OpenSpec.upto zigSizesSpec)) zigSizesUptoCard

/-- THE SECOND FORM's CARD OF 'barographlaw.ZigEncodes'. -/
def zigEncodesUptoCard : Claim7 := { stood := { row := zigEncodesUptoRow, standIns := [], harness := (true, "ebca67995d790951973d658a8b1a86f7bac96322318cf8382a41b084307f7031"), looks := false }, kinds := [], alts := [], laidByText := true, laidKinds := [.data], laidTests := true, laidLooks := .later }
def ZigEncodesUptoCardSaid : Prop := Claim7.holds Tryd.pinned (.plain (OpenSpec.upto zigEncodesSpec)) zigEncodesUptoCard

/-- THE SECOND FORM's CARD OF 'barographlaw.ZigDecodes'. -/
def zigDecodesUptoCard : Claim7 := { stood := { row := zigDecodesUptoRow, standIns := [], harness := (true, "ebca67995d790951973d658a8b1a86f7bac96322318cf8382a41b084307f7031"), looks := false }, kinds := [], alts := [], laidByText := true, laidKinds := [.data], laidTests := true, laidLooks := .later }
def ZigDecodesUptoCardSaid : Prop := Claim7.holds Tryd.pinned (.plain (OpenSpec.upto zigDecodesSpec)) zigDecodesUptoCard
end Rows
end Go.Proofs.YtempedbpieaggaaDoor
