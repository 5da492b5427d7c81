/-
  DERIVED. GIVEN WITH THE SEED: THE CARDS: each row of YtnnjobmiepnedaaDoorRows.lean that lists a variable, with what it lists TIED to the program's text (the seventh form; the later family's looks); each row that meets fmt, with fmt's text TOLD by the authors' own Lean function (tested against real Go, not proved from fmt's source: count such statements apart). THE CARD IS WHAT COUNTS. Prove the row's statement (the work); the ties are given (YtnnjobmiepnedaaDoorTie.lean); close each card by the builder's one call (the guide's Derived/Test/ToyasCard.lean, 'card_holds'). Laid BY PROGRAM, IN A SANDBOX (cutbox-door.mjs). By AI agents, Wed Nov 11 2026. No macro, syntax, notation, axiom, sorry.
-/
import Derived.Test.YtnnjobmiepnedaaDoorRows
import GoSem.ClaimSeven
namespace Go.Proofs.YtnnjobmiepnedaaDoor
namespace Rows

/-- THE TIED CARD OF 'barographtop.TopGuardRwl'. -/
def topGuardRwlCard : Claim7 := { stood := { row := topGuardRwlRow, standIns := [], harness := (true, "5ee04e276b12a94c0fbee2b97050177f9ff285836287dfa50646f09acc0b3c90"), looks := true }, kinds := [], alts := [], laidByText := true, laidKinds := [.data], laidTests := true, laidLooks := .later }
def TopGuardRwlCardSaid : Prop := Claim7.holds Tryd.pinned (.plain (OpenSpec.ofChange topGuardRwlSpec)) topGuardRwlCard

/-- THE TIED CARD OF 'barographtop.TopCount'. -/
def topCountCard : Claim7 := { stood := { row := topCountRow, standIns := [], harness := (true, "5ee04e276b12a94c0fbee2b97050177f9ff285836287dfa50646f09acc0b3c90"), looks := true }, kinds := [], alts := [], laidByText := true, laidKinds := [.data], laidTests := true, laidLooks := .later }
def TopCountCardSaid : Prop := Claim7.holds Tryd.pinned (.plain (OpenSpec.ofChange topCountSpec)) topCountCard

/-- THE TIED CARD OF 'barographtop.TopStack'. -/
def topStackCard : Claim7 := { stood := { row := topStackRow, standIns := [], harness := (true, "5ee04e276b12a94c0fbee2b97050177f9ff285836287dfa50646f09acc0b3c90"), looks := true }, kinds := [], alts := [], laidByText := true, laidKinds := [.data], laidTests := true, laidLooks := .later }
def TopStackCardSaid : Prop := Claim7.holds Tryd.pinned (.plain (OpenSpec.ofChange topStackSpec)) topStackCard

/-- THE TIED CARD OF 'barographtop.TopCell'. -/
def topCellCard : Claim7 := { stood := { row := topCellRow, standIns := [], harness := (true, "5ee04e276b12a94c0fbee2b97050177f9ff285836287dfa50646f09acc0b3c90"), looks := true }, kinds := [], alts := [], laidByText := true, laidKinds := [.data, .data, .data, .data], laidTests := true, laidLooks := .later }
def TopCellCardSaid : Prop := Claim7.holds Tryd.pinned (.plain (OpenSpec.ofChange topCellSpec)) topCellCard

/-- THE SECOND FORM's CARD OF 'barographtop.TopGuardRwl'. -/
def topGuardRwlUptoCard : Claim7 := { stood := { row := topGuardRwlUptoRow, standIns := [], harness := (true, "5ee04e276b12a94c0fbee2b97050177f9ff285836287dfa50646f09acc0b3c90"), looks := true }, kinds := [], alts := [], laidByText := true, laidKinds := [.data], laidTests := true, laidLooks := .later }
def TopGuardRwlUptoCardSaid : Prop := Claim7.holds Tryd.pinned (.plain (OpenSpec.upto topGuardRwlSpec)) topGuardRwlUptoCard

/-- THE SECOND FORM's CARD OF 'barographtop.TopCount'. -/
def topCountUptoCard : Claim7 := { stood := { row := topCountUptoRow, standIns := [], harness := (true, "5ee04e276b12a94c0fbee2b97050177f9ff285836287dfa50646f09acc0b3c90"), looks := true }, kinds := [], alts := [], laidByText := true, laidKinds := [.data], laidTests := true, laidLooks := .later }
def TopCountUptoCardSaid : Prop := Claim7.holds Tryd.pinned (.plain (OpenSpec.upto topCountSpec)) topCountUptoCard

/-- THE SECOND FORM's CARD OF 'barographtop.TopStack'. -/
def topStackUptoCard : Claim7 := { stood := { row := topStackUptoRow, standIns := [], harness := (true, "5ee04e276b12a94c0fbee2b97050177f9ff285836287dfa50646f09acc0b3c90"), looks := true }, kinds := [], alts := [], laidByText := true, laidKinds := [.data], laidTests := true, laidLooks := .later }
def TopStackUptoCardSaid : Prop := Claim7.holds Tryd.pinned (.plain (OpenSpec.upto topStackSpec)) topStackUptoCard

/-- THE SECOND FORM's CARD OF 'barographtop.TopCell'. -/
def topCellUptoCard : Claim7 := { stood := { row := topCellUptoRow, standIns := [], harness := (true, "5ee04e276b12a94c0fbee2b97050177f9ff285836287dfa50646f09acc0b3c90"), looks := true }, kinds := [], alts := [], laidByText := true, laidKinds := [.data, .data, .data, .data], laidTests := true, laidLooks := .later }
def TopCellUptoCardSaid : Prop := Claim7.holds Tryd.pinned (.plain (OpenSpec.upto topCellSpec)) topCellUptoCard
end Rows
end Go.Proofs.YtnnjobmiepnedaaDoor
