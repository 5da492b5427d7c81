/-
  DERIVED. GIVEN WITH THE SEED: THE CARDS: each row of YtpdojmebloekgaaDoorRows.lean that lists a variable, with what it lists TIED to the program's text (the seventh form; the later family's looks); each row that meets fmt, with fmt's text TOLD by the authors' own Lean function (tested against real Go, not proved from fmt's source: count such statements apart). THE CARD IS WHAT COUNTS. Prove the row's statement (the work); the ties are given (YtpdojmebloekgaaDoorTie.lean); close each card by the builder's one call (the guide's Derived/Test/ToyasCard.lean, 'card_holds'). Laid BY PROGRAM, IN A SANDBOX (cutbox-door.mjs). By AI agents, Wed Nov 11 2026. No macro, syntax, notation, axiom, sorry.
-/
import Derived.Test.YtpdojmebloekgaaDoorRows
import GoSem.ClaimSeven
namespace Go.Proofs.YtpdojmebloekgaaDoor
namespace Rows

/-- THE TIED CARD OF 'barographlaw.CrewEncodes'. -/
def crewEncodesCard : Claim7 := { stood := { row := crewEncodesRow, standIns := [], harness := (true, "b6434fcc9599614d931967ab872e78b894fbe225e2b52566bb6ab04b2263c2f3"), looks := false }, kinds := [], alts := [], goes := true, laidByText := true, laidKinds := [.data], laidTests := true, laidLooks := .later }
def CrewEncodesCardSaid : Prop := Claim7.holds Tryd.pinned (.plain (OpenSpec.ofChange crewEncodesSpec)) crewEncodesCard

/-- THE TIED CARD OF 'barographlaw.CrewRolls'. -/
def crewRollsCard : Claim7 := { stood := { row := crewRollsRow, standIns := [], harness := (true, "b6434fcc9599614d931967ab872e78b894fbe225e2b52566bb6ab04b2263c2f3"), looks := false }, kinds := [], alts := [], goes := true, laidByText := true, laidKinds := [.data], laidTests := true, laidLooks := .later }
def CrewRollsCardSaid : Prop := Claim7.holds Tryd.pinned (.plain (OpenSpec.ofChange crewRollsSpec)) crewRollsCard

/-- THE TIED CARD OF 'barographlaw.CrewTotals'. -/
def crewTotalsCard : Claim7 := { stood := { row := crewTotalsRow, standIns := [], harness := (true, "b6434fcc9599614d931967ab872e78b894fbe225e2b52566bb6ab04b2263c2f3"), looks := false }, kinds := [], alts := [], goes := true, laidByText := true, laidKinds := [.data], laidTests := true, laidLooks := .later }
def CrewTotalsCardSaid : Prop := Claim7.holds Tryd.pinned (.plain (OpenSpec.ofChange crewTotalsSpec)) crewTotalsCard

/-- THE SECOND FORM's CARD OF 'barographlaw.CrewEncodes'. -/
def crewEncodesUptoCard : Claim7 := { stood := { row := crewEncodesUptoRow, standIns := [], harness := (true, "b6434fcc9599614d931967ab872e78b894fbe225e2b52566bb6ab04b2263c2f3"), looks := false }, kinds := [], alts := [], goes := true, laidByText := true, laidKinds := [.data], laidTests := true, laidLooks := .later }
def CrewEncodesUptoCardSaid : Prop := Claim7.holds Tryd.pinned (.plain (OpenSpec.upto crewEncodesSpec)) crewEncodesUptoCard

/-- THE SECOND FORM's CARD OF 'barographlaw.CrewRolls'. -/
def crewRollsUptoCard : Claim7 := { stood := { row := crewRollsUptoRow, standIns := [], harness := (true, "b6434fcc9599614d931967ab872e78b894fbe225e2b52566bb6ab04b2263c2f3"), looks := false }, kinds := [], alts := [], goes := true, laidByText := true, laidKinds := [.data], laidTests := true, laidLooks := .later }
def CrewRollsUptoCardSaid : Prop := Claim7.holds Tryd.pinned (.plain (OpenSpec.upto crewRollsSpec)) crewRollsUptoCard

/-- THE SECOND FORM's CARD OF 'barographlaw.CrewTotals'. -/
def crewTotalsUptoCard : Claim7 := { stood := { row := crewTotalsUptoRow, standIns := [], harness := (true, "b6434fcc9599614d931967ab872e78b894fbe225e2b52566bb6ab04b2263c2f3"), looks := false }, kinds := [], alts := [], goes := true, laidByText := true, laidKinds := [.data], laidTests := true, laidLooks := .later }
def CrewTotalsUptoCardSaid : Prop := Claim7.holds Tryd.pinned (.plain (OpenSpec.upto crewTotalsSpec)) crewTotalsUptoCard
end Rows
end Go.Proofs.YtpdojmebloekgaaDoor
