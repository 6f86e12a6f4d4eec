/-
  DERIVED. GIVEN WITH THE SEED: THE CARDS: each row of YtnfdppkbbfdmnaaGreatDoorRows.lean that lists a variable, with what it lists TIED to the program's text (the seventh form; the later family's looks); each row that meets fmt, with fmt's text TOLD by the authors' own Lean function (tested against real Go, not proved from fmt's source: count such statements apart). THE CARD IS WHAT COUNTS. Prove the row's statement (the work); the ties are given (YtnfdppkbbfdmnaaGreatDoorTie.lean); close each card by the builder's one call (the guide's Derived/Test/ToyasCard.lean, 'card_holds'). Laid BY PROGRAM, IN A SANDBOX (cutbox-door.mjs). By AI agents, Wed Nov 11 2026. No macro, syntax, notation, axiom, sorry.
-/
import Derived.Test.YtnfdppkbbfdmnaaGreatDoorRows
import GoSem.ClaimSeven
namespace Go.Proofs.YtnfdppkbbfdmnaaGreatDoor
namespace Rows

/-- THE TIED CARD OF 'jigsawlaw02.DomMakes'. -/
def domMakesCard : Claim7 := { stood := { row := domMakesRow, standIns := [], harness := (true, "9c0642ff89a4c03e7fec9c4ff6c9b1bff3dfe0cdbda91a1b49d480c4e40a2de0"), looks := true }, kinds := [], alts := [], laidByText := true, laidKinds := [.data, .data, .data, .data, .sentinel, .sentinel, .pinned], laidTests := true, laidLooks := .later }
def DomMakesCardSaid : Prop := Claim7.holds Tryz.pinned (.plain (OpenSpec.ofChange domMakesSpec)) domMakesCard

/-- THE TIED CARD OF 'jigsawlaw02.DomTexts'. -/
def domTextsCard : Claim7 := { stood := { row := domTextsRow, standIns := [], harness := (true, "9c0642ff89a4c03e7fec9c4ff6c9b1bff3dfe0cdbda91a1b49d480c4e40a2de0"), looks := true }, kinds := [], alts := [], laidByText := true, laidKinds := [.data, .data, .data, .data, .sentinel, .sentinel, .pinned], laidTests := true, laidLooks := .later }
def DomTextsCardSaid : Prop := Claim7.holds Tryz.pinned (.plain (OpenSpec.ofChange domTextsSpec)) domTextsCard

/-- THE TIED CARD OF 'jigsawlaw02.DomAsks'. -/
def domAsksCard : Claim7 := { stood := { row := domAsksRow, standIns := [], harness := (true, "9c0642ff89a4c03e7fec9c4ff6c9b1bff3dfe0cdbda91a1b49d480c4e40a2de0"), looks := true }, kinds := [], alts := [], laidByText := true, laidKinds := [.data, .data, .data, .data, .sentinel, .sentinel, .pinned], laidTests := true, laidLooks := .later }
def DomAsksCardSaid : Prop := Claim7.holds Tryz.pinned (.plain (OpenSpec.ofChange domAsksSpec)) domAsksCard

/-- THE TIED CARD OF 'jigsawlaw02.DomSteps'. -/
def domStepsCard : Claim7 := { stood := { row := domStepsRow, standIns := [], harness := (true, "9c0642ff89a4c03e7fec9c4ff6c9b1bff3dfe0cdbda91a1b49d480c4e40a2de0"), looks := true }, kinds := [], alts := [], laidByText := true, laidKinds := [.data, .data, .data, .data, .sentinel, .sentinel, .pinned], laidTests := true, laidLooks := .later }
def DomStepsCardSaid : Prop := Claim7.holds Tryz.pinned (.plain (OpenSpec.ofChange domStepsSpec)) domStepsCard

/-- THE TIED CARD OF 'jigsawlaw02.DomJoins'. -/
def domJoinsCard : Claim7 := { stood := { row := domJoinsRow, standIns := [], harness := (true, "9c0642ff89a4c03e7fec9c4ff6c9b1bff3dfe0cdbda91a1b49d480c4e40a2de0"), looks := true }, kinds := [], alts := [], laidByText := true, laidKinds := [.data, .data, .data, .data, .sentinel, .sentinel, .pinned], laidTests := true, laidLooks := .later }
def DomJoinsCardSaid : Prop := Claim7.holds Tryz.pinned (.plain (OpenSpec.ofChange domJoinsSpec)) domJoinsCard

/-- THE SECOND FORM's CARD OF 'jigsawlaw02.DomMakes'. -/
def domMakesUptoCard : Claim7 := { stood := { row := domMakesUptoRow, standIns := [], harness := (true, "9c0642ff89a4c03e7fec9c4ff6c9b1bff3dfe0cdbda91a1b49d480c4e40a2de0"), looks := true }, kinds := [], alts := [], laidByText := true, laidKinds := [.data, .data, .data, .data, .sentinel, .sentinel, .pinned], laidTests := true, laidLooks := .later }
def DomMakesUptoCardSaid : Prop := Claim7.holds Tryz.pinned (.plain (OpenSpec.upto domMakesSpec)) domMakesUptoCard

/-- THE SECOND FORM's CARD OF 'jigsawlaw02.DomTexts'. -/
def domTextsUptoCard : Claim7 := { stood := { row := domTextsUptoRow, standIns := [], harness := (true, "9c0642ff89a4c03e7fec9c4ff6c9b1bff3dfe0cdbda91a1b49d480c4e40a2de0"), looks := true }, kinds := [], alts := [], laidByText := true, laidKinds := [.data, .data, .data, .data, .sentinel, .sentinel, .pinned], laidTests := true, laidLooks := .later }
def DomTextsUptoCardSaid : Prop := Claim7.holds Tryz.pinned (.plain (OpenSpec.upto domTextsSpec)) domTextsUptoCard

/-- THE SECOND FORM's CARD OF 'jigsawlaw02.DomAsks'. -/
def domAsksUptoCard : Claim7 := { stood := { row := domAsksUptoRow, standIns := [], harness := (true, "9c0642ff89a4c03e7fec9c4ff6c9b1bff3dfe0cdbda91a1b49d480c4e40a2de0"), looks := true }, kinds := [], alts := [], laidByText := true, laidKinds := [.data, .data, .data, .data, .sentinel, .sentinel, .pinned], laidTests := true, laidLooks := .later }
def DomAsksUptoCardSaid : Prop := Claim7.holds Tryz.pinned (.plain (OpenSpec.upto domAsksSpec)) domAsksUptoCard

/-- THE SECOND FORM's CARD OF 'jigsawlaw02.DomSteps'. -/
def domStepsUptoCard : Claim7 := { stood := { row := domStepsUptoRow, standIns := [], harness := (true, "9c0642ff89a4c03e7fec9c4ff6c9b1bff3dfe0cdbda91a1b49d480c4e40a2de0"), looks := true }, kinds := [], alts := [], laidByText := true, laidKinds := [.data, .data, .data, .data, .sentinel, .sentinel, .pinned], laidTests := true, laidLooks := .later }
def DomStepsUptoCardSaid : Prop := Claim7.holds Tryz.pinned (.plain (OpenSpec.upto domStepsSpec)) domStepsUptoCard

/-- THE SECOND FORM's CARD OF 'jigsawlaw02.DomJoins'. -/
def domJoinsUptoCard : Claim7 := { stood := { row := domJoinsUptoRow, standIns := [], harness := (true, "9c0642ff89a4c03e7fec9c4ff6c9b1bff3dfe0cdbda91a1b49d480c4e40a2de0"), looks := true }, kinds := [], alts := [], laidByText := true, laidKinds := [.data, .data, .data, .data, .sentinel, .sentinel, .pinned], laidTests := true, laidLooks := .later }
def DomJoinsUptoCardSaid : Prop := Claim7.holds Tryz.pinned (.plain (OpenSpec.upto domJoinsSpec)) domJoinsUptoCard
end Rows
end Go.Proofs.YtnfdppkbbfdmnaaGreatDoor
