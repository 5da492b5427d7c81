/-
  DERIVED. GIVEN WITH THE SEED: THE CARDS: each row of YtghnikahahbleaaDoorRows.lean that lists a variable, with what it lists TIED to the program's text (the seventh form; the later family's looks); each row that meets fmt, with fmt's text TOLD by the authors' own Lean function (tested against real Go, not proved from fmt's source: count such statements apart). THE CARD IS WHAT COUNTS. Prove the row's statement (the work); the ties are given (YtghnikahahbleaaDoorTie.lean); close each card by the builder's one call (the guide's Derived/Test/ToyasCard.lean, 'card_holds'). Laid BY PROGRAM, IN A SANDBOX (cutbox-door.mjs). By AI agents, Wed Nov 11 2026. No macro, syntax, notation, axiom, sorry.
-/
import Derived.Test.YtghnikahahbleaaDoorRows
import GoSem.ClaimSeven
namespace Go.Proofs.YtghnikahahbleaaDoor
namespace Rows

/-- THE TIED CARD OF 'barographlaw.SnapCodes'. -/
def snapCodesCard : Claim7 := { stood := { row := snapCodesRow, standIns := [], harness := (true, "c3a147b7861d8f3ed3b9b9a71340ef261f738eed838beb9cdcb15135a33c3ac3"), looks := false }, kinds := [], alts := [], laidByText := true, laidKinds := [.data, .data, .data], laidTests := true, laidLooks := .later }
def SnapCodesCardSaid : Prop := Claim7.holds Tryd.pinned (.plain (OpenSpec.ofChange snapCodesSpec)) snapCodesCard

/-- THE TIED CARD OF 'barographlaw.LockCodes'. -/
def lockCodesCard : Claim7 := { stood := { row := lockCodesRow, standIns := [], harness := (true, "c3a147b7861d8f3ed3b9b9a71340ef261f738eed838beb9cdcb15135a33c3ac3"), looks := false }, kinds := [], alts := [], laidByText := true, laidKinds := [.data, .data, .data], laidTests := true, laidLooks := .later }
def LockCodesCardSaid : Prop := Claim7.holds Tryd.pinned (.plain (OpenSpec.ofChange lockCodesSpec)) lockCodesCard

/-- THE TIED CARD OF 'barographlaw.CellCodes'. -/
def cellCodesCard : Claim7 := { stood := { row := cellCodesRow, standIns := [], harness := (true, "c3a147b7861d8f3ed3b9b9a71340ef261f738eed838beb9cdcb15135a33c3ac3"), looks := false }, kinds := [], alts := [], laidByText := true, laidKinds := [.data, .data, .data], laidTests := true, laidLooks := .later }
def CellCodesCardSaid : Prop := Claim7.holds Tryd.pinned (.plain (OpenSpec.ofChange cellCodesSpec)) cellCodesCard

/-- THE SECOND FORM's CARD OF 'barographlaw.SnapCodes'. -/
def snapCodesUptoCard : Claim7 := { stood := { row := snapCodesUptoRow, standIns := [], harness := (true, "c3a147b7861d8f3ed3b9b9a71340ef261f738eed838beb9cdcb15135a33c3ac3"), looks := false }, kinds := [], alts := [], laidByText := true, laidKinds := [.data, .data, .data], laidTests := true, laidLooks := .later }
def SnapCodesUptoCardSaid : Prop := Claim7.holds Tryd.pinned (.plain (OpenSpec.upto snapCodesSpec)) snapCodesUptoCard

/-- THE SECOND FORM's CARD OF 'barographlaw.LockCodes'. -/
def lockCodesUptoCard : Claim7 := { stood := { row := lockCodesUptoRow, standIns := [], harness := (true, "c3a147b7861d8f3ed3b9b9a71340ef261f738eed838beb9cdcb15135a33c3ac3"), looks := false }, kinds := [], alts := [], laidByText := true, laidKinds := [.data, .data, .data], laidTests := true, laidLooks := .later }
def LockCodesUptoCardSaid : Prop := Claim7.holds Tryd.pinned (.plain (OpenSpec.upto lockCodesSpec)) lockCodesUptoCard

/-- THE SECOND FORM's CARD OF 'barographlaw.CellCodes'. -/
def cellCodesUptoCard : Claim7 := { stood := { row := cellCodesUptoRow, standIns := [], harness := (true, "c3a147b7861d8f3ed3b9b9a71340ef261f738eed838beb9cdcb15135a33c3ac3"), looks := false }, kinds := [], alts := [], laidByText := true, laidKinds := [.data, .data, .data], laidTests := true, laidLooks := .later }
def CellCodesUptoCardSaid : Prop := Claim7.holds Tryd.pinned (.plain (OpenSpec.upto cellCodesSpec)) cellCodesUptoCard
end Rows
end Go.Proofs.YtghnikahahbleaaDoor
