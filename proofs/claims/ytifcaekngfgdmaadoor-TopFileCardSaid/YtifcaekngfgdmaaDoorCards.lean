/-
  DERIVED. GIVEN WITH THE SEED: THE CARDS: each row of YtifcaekngfgdmaaDoorRows.lean that lists a variable, with what it lists TIED to the program's text (the seventh form; the later family's looks); each row that meets fmt, with fmt's text TOLD by the authors' own Lean function (tested against real Go, not proved from fmt's source: count such statements apart). THE CARD IS WHAT COUNTS. Prove the row's statement (the work); the ties are given (YtifcaekngfgdmaaDoorTie.lean); close each card by the builder's one call (the guide's Derived/Test/ToyasCard.lean, 'card_holds'). Laid BY PROGRAM, IN A SANDBOX (cutbox-door.mjs). By AI agents, Wed Nov 11 2026. No macro, syntax, notation, axiom, sorry.
-/
import Derived.Test.YtifcaekngfgdmaaDoorRows
import GoSem.ClaimSeven
namespace Go.Proofs.YtifcaekngfgdmaaDoor
namespace Rows

/-- THE TIED CARD OF 'barographtop.TopFile'. -/
def topFileCard : Claim7 := { stood := { row := topFileRow, standIns := [], harness := (true, "015b663c93812ebfdcb9bddfef9e5d6f519f19fe1650b4a588d989391c8eb861"), looks := false }, kinds := [], alts := [], goes := true, laidByText := true, laidKinds := [.data], laidTests := true, laidLooks := .later }
def TopFileCardSaid : Prop := Claim7.holds Tryd.pinned (.plain (OpenSpec.ofChange topFileSpec)) topFileCard

/-- THE SECOND FORM's CARD OF 'barographtop.TopFile'. -/
def topFileUptoCard : Claim7 := { stood := { row := topFileUptoRow, standIns := [], harness := (true, "015b663c93812ebfdcb9bddfef9e5d6f519f19fe1650b4a588d989391c8eb861"), looks := false }, kinds := [], alts := [], goes := true, laidByText := true, laidKinds := [.data], laidTests := true, laidLooks := .later }
def TopFileUptoCardSaid : Prop := Claim7.holds Tryd.pinned (.plain (OpenSpec.upto topFileSpec)) topFileUptoCard
end Rows
end Go.Proofs.YtifcaekngfgdmaaDoor
