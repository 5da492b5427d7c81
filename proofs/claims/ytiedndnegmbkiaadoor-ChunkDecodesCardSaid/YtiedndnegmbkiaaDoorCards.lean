/-
  DERIVED. GIVEN WITH THE SEED: THE CARDS: each row of YtiedndnegmbkiaaDoorRows.lean that lists a variable, with what it lists TIED to the program's text (the seventh form; the later family's looks); each row that meets fmt, with fmt's text TOLD by the authors' own Lean function (tested against real Go, not proved from fmt's source: count such statements apart). THE CARD IS WHAT COUNTS. Prove the row's statement (the work); the ties are given (YtiedndnegmbkiaaDoorTie.lean); close each card by the builder's one call (the guide's Derived/Test/ToyasCard.lean, 'card_holds'). Laid BY PROGRAM, IN A SANDBOX (cutbox-door.mjs). By AI agents, Wed Nov 11 2026. No macro, syntax, notation, axiom, sorry.
-/
import Derived.Test.YtiedndnegmbkiaaDoorRows
import GoSem.ClaimSeven
namespace Go.Proofs.YtiedndnegmbkiaaDoor
namespace Rows

/-- THE TIED CARD OF 'barographlaw.ChunkEncodes'. -/
def chunkEncodesCard : Claim7 := { stood := { row := chunkEncodesRow, standIns := [], harness := (true, "e35f04174962b20c8c64917754a6c9a36284671d5a7359536dfba05301de2fe6"), looks := false }, kinds := [], alts := [], laidByText := true, laidKinds := [.data], laidTests := true, laidLooks := .later }
def ChunkEncodesCardSaid : Prop := Claim7.holds Tryd.pinned (.plain (OpenSpec.ofChange chunkEncodesSpec)) chunkEncodesCard

/-- THE TIED CARD OF 'barographlaw.ChunkDecodes'. -/
def chunkDecodesCard : Claim7 := { stood := { row := chunkDecodesRow, standIns := [], harness := (true, "e35f04174962b20c8c64917754a6c9a36284671d5a7359536dfba05301de2fe6"), looks := false }, kinds := [], alts := [], laidByText := true, laidKinds := [.data], laidTests := true, laidLooks := .later }
def ChunkDecodesCardSaid : Prop := Claim7.holds Tryd.pinned (.plain (OpenSpec.ofChange chunkDecodesSpec)) chunkDecodesCard

/-- THE TIED CARD OF 'barographlaw.RollOfs'. -/
def rollOfsCard : Claim7 := { stood := { row := rollOfsRow, standIns := [], harness := (true, "e35f04174962b20c8c64917754a6c9a36284671d5a7359536dfba05301de2fe6"), looks := false }, kinds := [], alts := [], laidByText := true, laidKinds := [.data], laidTests := true, laidLooks := .later }
def RollOfsCardSaid : Prop := Claim7.holds Tryd.pinned (.plain (OpenSpec.ofChange rollOfsSpec)) rollOfsCard

/-- THE TIED CARD OF 'barographlaw.RollBuckets'. -/
def rollBucketsCard : Claim7 := { stood := { row := rollBucketsRow, standIns := [], harness := (true, "e35f04174962b20c8c64917754a6c9a36284671d5a7359536dfba05301de2fe6"), looks := false }, kinds := [], alts := [], laidByText := true, laidKinds := [.data], laidTests := true, laidLooks := .later }
def RollBucketsCardSaid : Prop := Claim7.holds Tryd.pinned (.plain (OpenSpec.ofChange rollBucketsSpec)) rollBucketsCard

/-- THE TIED CARD OF 'barographlaw.RateMeans'. -/
def rateMeansCard : Claim7 := { stood := { row := rateMeansRow, standIns := [], harness := (true, "e35f04174962b20c8c64917754a6c9a36284671d5a7359536dfba05301de2fe6"), looks := false }, kinds := [], alts := [], laidByText := true, laidKinds := [.data], laidTests := true, laidLooks := .later }
def RateMeansCardSaid : Prop := Claim7.holds Tryd.pinned (.plain (OpenSpec.ofChange rateMeansSpec)) rateMeansCard

/-- THE TIED CARD OF 'barographlaw.RateRises'. -/
def rateRisesCard : Claim7 := { stood := { row := rateRisesRow, standIns := [], harness := (true, "e35f04174962b20c8c64917754a6c9a36284671d5a7359536dfba05301de2fe6"), looks := false }, kinds := [], alts := [], laidByText := true, laidKinds := [.data], laidTests := true, laidLooks := .later }
def RateRisesCardSaid : Prop := Claim7.holds Tryd.pinned (.plain (OpenSpec.ofChange rateRisesSpec)) rateRisesCard

/-- THE TIED CARD OF 'barographlaw.RateAts'. -/
def rateAtsCard : Claim7 := { stood := { row := rateAtsRow, standIns := [], harness := (true, "e35f04174962b20c8c64917754a6c9a36284671d5a7359536dfba05301de2fe6"), looks := false }, kinds := [], alts := [], laidByText := true, laidKinds := [.data], laidTests := true, laidLooks := .later }
def RateAtsCardSaid : Prop := Claim7.holds Tryd.pinned (.plain (OpenSpec.ofChange rateAtsSpec)) rateAtsCard

/-- THE SECOND FORM's CARD OF 'barographlaw.ChunkEncodes'. -/
def chunkEncodesUptoCard : Claim7 := { stood := { row := chunkEncodesUptoRow, standIns := [], harness := (true, "e35f04174962b20c8c64917754a6c9a36284671d5a7359536dfba05301de2fe6"), looks := false }, kinds := [], alts := [], laidByText := true, laidKinds := [.data], laidTests := true, laidLooks := .later }
def ChunkEncodesUptoCardSaid : Prop := Claim7.holds Tryd.pinned (.plain (OpenSpec.upto chunkEncodesSpec)) chunkEncodesUptoCard

/-- THE SECOND FORM's CARD OF 'barographlaw.ChunkDecodes'. -/
def chunkDecodesUptoCard : Claim7 := { stood := { row := chunkDecodesUptoRow, standIns := [], harness := (true, "e35f04174962b20c8c64917754a6c9a36284671d5a7359536dfba05301de2fe6"), looks := false }, kinds := [], alts := [], laidByText := true, laidKinds := [.data], laidTests := true, laidLooks := .later }
def ChunkDecodesUptoCardSaid : Prop := Claim7.holds Tryd.pinned (.plain (OpenSpec.upto chunkDecodesSpec)) chunkDecodesUptoCard

/-- THE SECOND FORM's CARD OF 'barographlaw.RollOfs'. -/
def rollOfsUptoCard : Claim7 := { stood := { row := rollOfsUptoRow, standIns := [], harness := (true, "e35f04174962b20c8c64917754a6c9a36284671d5a7359536dfba05301de2fe6"), looks := false }, kinds := [], alts := [], laidByText := true, laidKinds := [.data], laidTests := true, laidLooks := .later }
def RollOfsUptoCardSaid : Prop := Claim7.holds Tryd.pinned (.plain (OpenSpec.upto rollOfsSpec)) rollOfsUptoCard

/-- THE SECOND FORM's CARD OF 'barographlaw.RollBuckets'. -/
def rollBucketsUptoCard : Claim7 := { stood := { row := rollBucketsUptoRow, standIns := [], harness := (true, "e35f04174962b20c8c64917754a6c9a36284671d5a7359536dfba05301de2fe6"), looks := false }, kinds := [], alts := [], laidByText := true, laidKinds := [.data], laidTests := true, laidLooks := .later }
def RollBucketsUptoCardSaid : Prop := Claim7.holds Tryd.pinned (.plain (OpenSpec.upto rollBucketsSpec)) rollBucketsUptoCard

/-- THE SECOND FORM's CARD OF 'barographlaw.RateMeans'. -/
def rateMeansUptoCard : Claim7 := { stood := { row := rateMeansUptoRow, standIns := [], harness := (true, "e35f04174962b20c8c64917754a6c9a36284671d5a7359536dfba05301de2fe6"), looks := false }, kinds := [], alts := [], laidByText := true, laidKinds := [.data], laidTests := true, laidLooks := .later }
def RateMeansUptoCardSaid : Prop := Claim7.holds Tryd.pinned (.plain (OpenSpec.upto rateMeansSpec)) rateMeansUptoCard

/-- THE SECOND FORM's CARD OF 'barographlaw.RateRises'. -/
def rateRisesUptoCard : Claim7 := { stood := { row := rateRisesUptoRow, standIns := [], harness := (true, "e35f04174962b20c8c64917754a6c9a36284671d5a7359536dfba05301de2fe6"), looks := false }, kinds := [], alts := [], laidByText := true, laidKinds := [.data], laidTests := true, laidLooks := .later }
def RateRisesUptoCardSaid : Prop := Claim7.holds Tryd.pinned (.plain (OpenSpec.upto rateRisesSpec)) rateRisesUptoCard

/-- THE SECOND FORM's CARD OF 'barographlaw.RateAts'. -/
def rateAtsUptoCard : Claim7 := { stood := { row := rateAtsUptoRow, standIns := [], harness := (true, "e35f04174962b20c8c64917754a6c9a36284671d5a7359536dfba05301de2fe6"), looks := false }, kinds := [], alts := [], laidByText := true, laidKinds := [.data], laidTests := true, laidLooks := .later }
def RateAtsUptoCardSaid : Prop := Claim7.holds Tryd.pinned (.plain (OpenSpec.upto rateAtsSpec)) rateAtsUptoCard
end Rows
end Go.Proofs.YtiedndnegmbkiaaDoor
