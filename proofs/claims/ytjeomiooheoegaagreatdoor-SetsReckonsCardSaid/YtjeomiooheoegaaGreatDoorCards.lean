/-
  DERIVED. GIVEN WITH THE SEED: THE CARDS: each row of YtjeomiooheoegaaGreatDoorRows.lean that lists a variable, with what it lists TIED to the program's text (the seventh form; the later family's looks); each row that meets fmt, with fmt's text TOLD by the authors' own Lean function (tested against real Go, not proved from fmt's source: count such statements apart). THE CARD IS WHAT COUNTS. Prove the row's statement (the work); the ties are given (YtjeomiooheoegaaGreatDoorTie.lean); close each card by the builder's one call (the guide's Derived/Test/ToyasCard.lean, 'card_holds'). Laid BY PROGRAM, IN A SANDBOX (cutbox-door.mjs). By AI agents, Wed Nov 11 2026. No macro, syntax, notation, axiom, sorry.
-/
import Derived.Test.YtjeomiooheoegaaGreatDoorRows
import GoSem.ClaimSeven
namespace Go.Proofs.YtjeomiooheoegaaGreatDoor
namespace Rows

/-- THE TIED CARD OF 'jigsawlaw19.BranchChooses'. -/
def branchChoosesCard : Claim7 := { stood := { row := branchChoosesRow, standIns := [], harness := (true, "8cc437911dea2593eb65f1843590d50f8a9608b7e9f158616c1b98dc446f5756"), looks := true }, kinds := [], alts := [], laidByText := true, laidKinds := [.data, .data, .data], laidTests := true, laidLooks := .later }
def BranchChoosesCardSaid : Prop := Claim7.holds Tryz.pinned (.plain (OpenSpec.ofChange branchChoosesSpec)) branchChoosesCard

/-- THE TIED CARD OF 'jigsawlaw19.BranchAll'. -/
def branchAllCard : Claim7 := { stood := { row := branchAllRow, standIns := [], harness := (true, "8cc437911dea2593eb65f1843590d50f8a9608b7e9f158616c1b98dc446f5756"), looks := true }, kinds := [], alts := [], laidByText := true, laidKinds := [.data, .data, .data], laidTests := true, laidLooks := .later }
def BranchAllCardSaid : Prop := Claim7.holds Tryz.pinned (.plain (OpenSpec.ofChange branchAllSpec)) branchAllCard

/-- THE TIED CARD OF 'jigsawlaw19.BranchGoes'. -/
def branchGoesCard : Claim7 := { stood := { row := branchGoesRow, standIns := [], harness := (true, "8cc437911dea2593eb65f1843590d50f8a9608b7e9f158616c1b98dc446f5756"), looks := true }, kinds := [], alts := [], laidByText := true, laidKinds := [.data, .data, .data], laidTests := true, laidLooks := .later }
def BranchGoesCardSaid : Prop := Claim7.holds Tryz.pinned (.plain (OpenSpec.ofChange branchGoesSpec)) branchGoesCard

/-- THE TIED CARD OF 'jigsawlaw19.BranchApplies'. -/
def branchAppliesCard : Claim7 := { stood := { row := branchAppliesRow, standIns := [], harness := (true, "8cc437911dea2593eb65f1843590d50f8a9608b7e9f158616c1b98dc446f5756"), looks := true }, kinds := [], alts := [], laidByText := true, laidKinds := [.data, .data, .data], laidTests := true, laidLooks := .later }
def BranchAppliesCardSaid : Prop := Claim7.holds Tryz.pinned (.plain (OpenSpec.ofChange branchAppliesSpec)) branchAppliesCard

/-- THE TIED CARD OF 'jigsawlaw19.BranchParts'. -/
def branchPartsCard : Claim7 := { stood := { row := branchPartsRow, standIns := [], harness := (true, "8cc437911dea2593eb65f1843590d50f8a9608b7e9f158616c1b98dc446f5756"), looks := true }, kinds := [], alts := [], laidByText := true, laidKinds := [.data, .data, .data], laidTests := true, laidLooks := .later }
def BranchPartsCardSaid : Prop := Claim7.holds Tryz.pinned (.plain (OpenSpec.ofChange branchPartsSpec)) branchPartsCard

/-- THE TIED CARD OF 'jigsawlaw04.SetsAll'. -/
def setsAllCard : Claim7 := { stood := { row := setsAllRow, standIns := [], harness := (true, "8cc437911dea2593eb65f1843590d50f8a9608b7e9f158616c1b98dc446f5756"), looks := true }, kinds := [], alts := [], laidByText := true, laidKinds := [.data, .data, .data, .data, .sentinel, .sentinel, .pinned], laidTests := true, laidLooks := .later }
def SetsAllCardSaid : Prop := Claim7.holds Tryz.pinned (.plain (OpenSpec.ofChange setsAllSpec)) setsAllCard

/-- THE TIED CARD OF 'jigsawlaw04.SetsReckons'. -/
def setsReckonsCard : Claim7 := { stood := { row := setsReckonsRow, standIns := [], harness := (true, "8cc437911dea2593eb65f1843590d50f8a9608b7e9f158616c1b98dc446f5756"), looks := true }, kinds := [], alts := [], laidByText := true, laidKinds := [.data, .data, .data, .data, .sentinel, .sentinel, .pinned], laidTests := true, laidLooks := .later }
def SetsReckonsCardSaid : Prop := Claim7.holds Tryz.pinned (.plain (OpenSpec.ofChange setsReckonsSpec)) setsReckonsCard

/-- THE TIED CARD OF 'jigsawlaw04.SetsAlgebra'. -/
def setsAlgebraCard : Claim7 := { stood := { row := setsAlgebraRow, standIns := [], harness := (true, "8cc437911dea2593eb65f1843590d50f8a9608b7e9f158616c1b98dc446f5756"), looks := true }, kinds := [], alts := [], laidByText := true, laidKinds := [.data, .data, .data, .data, .sentinel, .sentinel, .pinned], laidTests := true, laidLooks := .later }
def SetsAlgebraCardSaid : Prop := Claim7.holds Tryz.pinned (.plain (OpenSpec.ofChange setsAlgebraSpec)) setsAlgebraCard

/-- THE TIED CARD OF 'jigsawlaw04.SetsCards'. -/
def setsCardsCard : Claim7 := { stood := { row := setsCardsRow, standIns := [], harness := (true, "8cc437911dea2593eb65f1843590d50f8a9608b7e9f158616c1b98dc446f5756"), looks := true }, kinds := [], alts := [], laidByText := true, laidKinds := [.data, .data, .data, .data, .sentinel, .sentinel, .pinned], laidTests := true, laidLooks := .later }
def SetsCardsCardSaid : Prop := Claim7.holds Tryz.pinned (.plain (OpenSpec.ofChange setsCardsSpec)) setsCardsCard

/-- THE TIED CARD OF 'jigsawlaw04.SetsMakes'. -/
def setsMakesCard : Claim7 := { stood := { row := setsMakesRow, standIns := [], harness := (true, "8cc437911dea2593eb65f1843590d50f8a9608b7e9f158616c1b98dc446f5756"), looks := true }, kinds := [], alts := [], laidByText := true, laidKinds := [.data, .data, .data, .data, .sentinel, .sentinel, .pinned], laidTests := true, laidLooks := .later }
def SetsMakesCardSaid : Prop := Claim7.holds Tryz.pinned (.plain (OpenSpec.ofChange setsMakesSpec)) setsMakesCard

/-- THE TIED CARD OF 'jigsawlaw04.SetsParts'. -/
def setsPartsCard : Claim7 := { stood := { row := setsPartsRow, standIns := [], harness := (true, "8cc437911dea2593eb65f1843590d50f8a9608b7e9f158616c1b98dc446f5756"), looks := true }, kinds := [], alts := [], laidByText := true, laidKinds := [.data, .data, .data, .data, .sentinel, .sentinel, .pinned], laidTests := true, laidLooks := .later }
def SetsPartsCardSaid : Prop := Claim7.holds Tryz.pinned (.plain (OpenSpec.ofChange setsPartsSpec)) setsPartsCard

/-- THE TIED CARD OF 'jigsawlaw04.SetsCuts'. -/
def setsCutsCard : Claim7 := { stood := { row := setsCutsRow, standIns := [], harness := (true, "8cc437911dea2593eb65f1843590d50f8a9608b7e9f158616c1b98dc446f5756"), looks := true }, kinds := [], alts := [], laidByText := true, laidKinds := [.data, .data, .data, .data, .sentinel, .sentinel, .pinned], laidTests := true, laidLooks := .later }
def SetsCutsCardSaid : Prop := Claim7.holds Tryz.pinned (.plain (OpenSpec.ofChange setsCutsSpec)) setsCutsCard

/-- THE SECOND FORM's CARD OF 'jigsawlaw19.BranchChooses'. -/
def branchChoosesUptoCard : Claim7 := { stood := { row := branchChoosesUptoRow, standIns := [], harness := (true, "8cc437911dea2593eb65f1843590d50f8a9608b7e9f158616c1b98dc446f5756"), looks := true }, kinds := [], alts := [], laidByText := true, laidKinds := [.data, .data, .data], laidTests := true, laidLooks := .later }
def BranchChoosesUptoCardSaid : Prop := Claim7.holds Tryz.pinned (.plain (OpenSpec.upto branchChoosesSpec)) branchChoosesUptoCard

/-- THE SECOND FORM's CARD OF 'jigsawlaw19.BranchAll'. -/
def branchAllUptoCard : Claim7 := { stood := { row := branchAllUptoRow, standIns := [], harness := (true, "8cc437911dea2593eb65f1843590d50f8a9608b7e9f158616c1b98dc446f5756"), looks := true }, kinds := [], alts := [], laidByText := true, laidKinds := [.data, .data, .data], laidTests := true, laidLooks := .later }
def BranchAllUptoCardSaid : Prop := Claim7.holds Tryz.pinned (.plain (OpenSpec.upto branchAllSpec)) branchAllUptoCard

/-- THE SECOND FORM's CARD OF 'jigsawlaw19.BranchGoes'. -/
def branchGoesUptoCard : Claim7 := { stood := { row := branchGoesUptoRow, standIns := [], harness := (true, "8cc437911dea2593eb65f1843590d50f8a9608b7e9f158616c1b98dc446f5756"), looks := true }, kinds := [], alts := [], laidByText := true, laidKinds := [.data, .data, .data], laidTests := true, laidLooks := .later }
def BranchGoesUptoCardSaid : Prop := Claim7.holds Tryz.pinned (.plain (OpenSpec.upto branchGoesSpec)) branchGoesUptoCard

/-- THE SECOND FORM's CARD OF 'jigsawlaw19.BranchApplies'. -/
def branchAppliesUptoCard : Claim7 := { stood := { row := branchAppliesUptoRow, standIns := [], harness := (true, "8cc437911dea2593eb65f1843590d50f8a9608b7e9f158616c1b98dc446f5756"), looks := true }, kinds := [], alts := [], laidByText := true, laidKinds := [.data, .data, .data], laidTests := true, laidLooks := .later }
def BranchAppliesUptoCardSaid : Prop := Claim7.holds Tryz.pinned (.plain (OpenSpec.upto branchAppliesSpec)) branchAppliesUptoCard

/-- THE SECOND FORM's CARD OF 'jigsawlaw19.BranchParts'. -/
def branchPartsUptoCard : Claim7 := { stood := { row := branchPartsUptoRow, standIns := [], harness := (true, "8cc437911dea2593eb65f1843590d50f8a9608b7e9f158616c1b98dc446f5756"), looks := true }, kinds := [], alts := [], laidByText := true, laidKinds := [.data, .data, .data], laidTests := true, laidLooks := .later }
def BranchPartsUptoCardSaid : Prop := Claim7.holds Tryz.pinned (.plain (OpenSpec.upto branchPartsSpec)) branchPartsUptoCard

/-- THE SECOND FORM's CARD OF 'jigsawlaw04.SetsAll'. -/
def setsAllUptoCard : Claim7 := { stood := { row := setsAllUptoRow, standIns := [], harness := (true, "8cc437911dea2593eb65f1843590d50f8a9608b7e9f158616c1b98dc446f5756"), looks := true }, kinds := [], alts := [], laidByText := true, laidKinds := [.data, .data, .data, .data, .sentinel, .sentinel, .pinned], laidTests := true, laidLooks := .later }
def SetsAllUptoCardSaid : Prop := Claim7.holds Tryz.pinned (.plain (OpenSpec.upto setsAllSpec)) setsAllUptoCard

/-- THE SECOND FORM's CARD OF 'jigsawlaw04.SetsReckons'. -/
def setsReckonsUptoCard : Claim7 := { stood := { row := setsReckonsUptoRow, standIns := [], harness := (true, "8cc437911dea2593eb65f1843590d50f8a9608b7e9f158616c1b98dc446f5756"), looks := true }, kinds := [], alts := [], laidByText := true, laidKinds := [.data, .data, .data, .data, .sentinel, .sentinel, .pinned], laidTests := true, laidLooks := .later }
def SetsReckonsUptoCardSaid : Prop := Claim7.holds Tryz.pinned (.plain (OpenSpec.upto setsReckonsSpec)) setsReckonsUptoCard

/-- THE SECOND FORM's CARD OF 'jigsawlaw04.SetsAlgebra'. -/
def setsAlgebraUptoCard : Claim7 := { stood := { row := setsAlgebraUptoRow, standIns := [], harness := (true, "8cc437911dea2593eb65f1843590d50f8a9608b7e9f158616c1b98dc446f5756"), looks := true }, kinds := [], alts := [], laidByText := true, laidKinds := [.data, .data, .data, .data, .sentinel, .sentinel, .pinned], laidTests := true, laidLooks := .later }
def SetsAlgebraUptoCardSaid : Prop := Claim7.holds Tryz.pinned (.plain (OpenSpec.upto setsAlgebraSpec)) setsAlgebraUptoCard

/-- THE SECOND FORM's CARD OF 'jigsawlaw04.SetsCards'. -/
def setsCardsUptoCard : Claim7 := { stood := { row := setsCardsUptoRow, standIns := [], harness := (true, "8cc437911dea2593eb65f1843590d50f8a9608b7e9f158616c1b98dc446f5756"), looks := true }, kinds := [], alts := [], laidByText := true, laidKinds := [.data, .data, .data, .data, .sentinel, .sentinel, .pinned], laidTests := true, laidLooks := .later }
def SetsCardsUptoCardSaid : Prop := Claim7.holds Tryz.pinned (.plain (OpenSpec.upto setsCardsSpec)) setsCardsUptoCard

/-- THE SECOND FORM's CARD OF 'jigsawlaw04.SetsMakes'. -/
def setsMakesUptoCard : Claim7 := { stood := { row := setsMakesUptoRow, standIns := [], harness := (true, "8cc437911dea2593eb65f1843590d50f8a9608b7e9f158616c1b98dc446f5756"), looks := true }, kinds := [], alts := [], laidByText := true, laidKinds := [.data, .data, .data, .data, .sentinel, .sentinel, .pinned], laidTests := true, laidLooks := .later }
def SetsMakesUptoCardSaid : Prop := Claim7.holds Tryz.pinned (.plain (OpenSpec.upto setsMakesSpec)) setsMakesUptoCard

/-- THE SECOND FORM's CARD OF 'jigsawlaw04.SetsParts'. -/
def setsPartsUptoCard : Claim7 := { stood := { row := setsPartsUptoRow, standIns := [], harness := (true, "8cc437911dea2593eb65f1843590d50f8a9608b7e9f158616c1b98dc446f5756"), looks := true }, kinds := [], alts := [], laidByText := true, laidKinds := [.data, .data, .data, .data, .sentinel, .sentinel, .pinned], laidTests := true, laidLooks := .later }
def SetsPartsUptoCardSaid : Prop := Claim7.holds Tryz.pinned (.plain (OpenSpec.upto setsPartsSpec)) setsPartsUptoCard

/-- THE SECOND FORM's CARD OF 'jigsawlaw04.SetsCuts'. -/
def setsCutsUptoCard : Claim7 := { stood := { row := setsCutsUptoRow, standIns := [], harness := (true, "8cc437911dea2593eb65f1843590d50f8a9608b7e9f158616c1b98dc446f5756"), looks := true }, kinds := [], alts := [], laidByText := true, laidKinds := [.data, .data, .data, .data, .sentinel, .sentinel, .pinned], laidTests := true, laidLooks := .later }
def SetsCutsUptoCardSaid : Prop := Claim7.holds Tryz.pinned (.plain (OpenSpec.upto setsCutsSpec)) setsCutsUptoCard
end Rows
end Go.Proofs.YtjeomiooheoegaaGreatDoor
