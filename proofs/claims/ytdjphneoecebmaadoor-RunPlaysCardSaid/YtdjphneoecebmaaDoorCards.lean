/-
  DERIVED. GIVEN WITH THE SEED: THE CARDS: each row of YtdjphneoecebmaaDoorRows.lean that lists a variable, with what it lists TIED to the program's text (the seventh form; the later family's looks); each row that meets fmt, with fmt's text TOLD by the authors' own Lean function (tested against real Go, not proved from fmt's source: count such statements apart). THE CARD IS WHAT COUNTS. Prove the row's statement (the work); the ties are given (YtdjphneoecebmaaDoorTie.lean); close each card by the builder's one call (the guide's Derived/Test/ToyasCard.lean, 'card_holds'). Laid BY PROGRAM, IN A SANDBOX (cutbox-door.mjs). By AI agents, Wed Nov 11 2026. No macro, syntax, notation, axiom, sorry.
-/
import Derived.Test.YtdjphneoecebmaaDoorRows
import GoSem.ClaimSeven
namespace Go.Proofs.YtdjphneoecebmaaDoor
namespace Rows

/-- THE TIED CARD OF 'barographlaw.VmMays'. -/
def vmMaysCard : Claim7 := { stood := { row := vmMaysRow, standIns := [], harness := (true, "56684afb5e268c49b6d43179ac8ee4510647e9e7733cb8c72fd4db64973e8dd6"), looks := false }, kinds := [], alts := [], laidByText := true, laidKinds := [.data], laidTests := true, laidLooks := .later }
def VmMaysCardSaid : Prop := Claim7.holds Tryd.pinned (.plain (OpenSpec.ofChange vmMaysSpec)) vmMaysCard

/-- THE TIED CARD OF 'barographlaw.VmRuns'. -/
def vmRunsCard : Claim7 := { stood := { row := vmRunsRow, standIns := [], harness := (true, "56684afb5e268c49b6d43179ac8ee4510647e9e7733cb8c72fd4db64973e8dd6"), looks := false }, kinds := [], alts := [], laidByText := true, laidKinds := [.data], laidTests := true, laidLooks := .later }
def VmRunsCardSaid : Prop := Claim7.holds Tryd.pinned (.plain (OpenSpec.ofChange vmRunsSpec)) vmRunsCard

/-- THE TIED CARD OF 'barographlaw.RunMays'. -/
def runMaysCard : Claim7 := { stood := { row := runMaysRow, standIns := [], harness := (true, "56684afb5e268c49b6d43179ac8ee4510647e9e7733cb8c72fd4db64973e8dd6"), looks := false }, kinds := [], alts := [], laidByText := true, laidKinds := [.data], laidTests := true, laidLooks := .later }
def RunMaysCardSaid : Prop := Claim7.holds Tryd.pinned (.plain (OpenSpec.ofChange runMaysSpec)) runMaysCard

/-- THE TIED CARD OF 'barographlaw.RunPlays'. -/
def runPlaysCard : Claim7 := { stood := { row := runPlaysRow, standIns := [], harness := (true, "56684afb5e268c49b6d43179ac8ee4510647e9e7733cb8c72fd4db64973e8dd6"), looks := false }, kinds := [], alts := [], laidByText := true, laidKinds := [.data], laidTests := true, laidLooks := .later }
def RunPlaysCardSaid : Prop := Claim7.holds Tryd.pinned (.plain (OpenSpec.ofChange runPlaysSpec)) runPlaysCard

/-- THE SECOND FORM's CARD OF 'barographlaw.VmMays'. -/
def vmMaysUptoCard : Claim7 := { stood := { row := vmMaysUptoRow, standIns := [], harness := (true, "56684afb5e268c49b6d43179ac8ee4510647e9e7733cb8c72fd4db64973e8dd6"), looks := false }, kinds := [], alts := [], laidByText := true, laidKinds := [.data], laidTests := true, laidLooks := .later }
def VmMaysUptoCardSaid : Prop := Claim7.holds Tryd.pinned (.plain (OpenSpec.upto vmMaysSpec)) vmMaysUptoCard

/-- THE SECOND FORM's CARD OF 'barographlaw.VmRuns'. -/
def vmRunsUptoCard : Claim7 := { stood := { row := vmRunsUptoRow, standIns := [], harness := (true, "56684afb5e268c49b6d43179ac8ee4510647e9e7733cb8c72fd4db64973e8dd6"), looks := false }, kinds := [], alts := [], laidByText := true, laidKinds := [.data], laidTests := true, laidLooks := .later }
def VmRunsUptoCardSaid : Prop := Claim7.holds Tryd.pinned (.plain (OpenSpec.upto vmRunsSpec)) vmRunsUptoCard

/-- THE SECOND FORM's CARD OF 'barographlaw.RunMays'. -/
def runMaysUptoCard : Claim7 := { stood := { row := runMaysUptoRow, standIns := [], harness := (true, "56684afb5e268c49b6d43179ac8ee4510647e9e7733cb8c72fd4db64973e8dd6"), looks := false }, kinds := [], alts := [], laidByText := true, laidKinds := [.data], laidTests := true, laidLooks := .later }
def RunMaysUptoCardSaid : Prop := Claim7.holds Tryd.pinned (.plain (OpenSpec.upto runMaysSpec)) runMaysUptoCard

/-- THE SECOND FORM's CARD OF 'barographlaw.RunPlays'. -/
def runPlaysUptoCard : Claim7 := { stood := { row := runPlaysUptoRow, standIns := [], harness := (true, "56684afb5e268c49b6d43179ac8ee4510647e9e7733cb8c72fd4db64973e8dd6"), looks := false }, kinds := [], alts := [], laidByText := true, laidKinds := [.data], laidTests := true, laidLooks := .later }
def RunPlaysUptoCardSaid : Prop := Claim7.holds Tryd.pinned (.plain (OpenSpec.upto runPlaysSpec)) runPlaysUptoCard
end Rows
end Go.Proofs.YtdjphneoecebmaaDoor
