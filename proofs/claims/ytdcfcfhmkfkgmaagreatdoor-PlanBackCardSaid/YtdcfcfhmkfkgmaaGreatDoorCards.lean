/-
  DERIVED. GIVEN WITH THE SEED: THE CARDS: each row of YtdcfcfhmkfkgmaaGreatDoorRows.lean that lists a variable, with what it lists TIED to the program's text (the seventh form; the later family's looks); each row that meets fmt, with fmt's text TOLD by the authors' own Lean function (tested against real Go, not proved from fmt's source: count such statements apart). THE CARD IS WHAT COUNTS. Prove the row's statement (the work); the ties are given (YtdcfcfhmkfkgmaaGreatDoorTie.lean); close each card by the builder's one call (the guide's Derived/Test/ToyasCard.lean, 'card_holds'). Laid BY PROGRAM, IN A SANDBOX (cutbox-door.mjs). By AI agents, Wed Nov 11 2026. No macro, syntax, notation, axiom, sorry.
-/
import Derived.Test.YtdcfcfhmkfkgmaaGreatDoorRows
import GoSem.ClaimSeven
namespace Go.Proofs.YtdcfcfhmkfkgmaaGreatDoor
namespace Rows

/-- THE TIED CARD OF 'copestonelaw06.PlanChecks'. -/
def planChecksCard : Claim7 := { stood := { row := planChecksRow, standIns := [], harness := (true, "d292efab8b7b03f55566f4e2ab7c4cab95bf939d47b844128457b17a23d347df"), looks := true }, kinds := [], alts := [], laidByText := true, laidKinds := [.data, .data, .data, .data, .sentinel, .sentinel, .widerDeep, .widerDeep, .pinned], laidTests := true, laidLooks := .later }
def PlanChecksCardSaid : Prop := Claim7.holds Tryz.pinned (.plain (OpenSpec.ofChange planChecksSpec)) planChecksCard

/-- THE TIED CARD OF 'copestonelaw06.PlanReads'. -/
def planReadsCard : Claim7 := { stood := { row := planReadsRow, standIns := [], harness := (true, "d292efab8b7b03f55566f4e2ab7c4cab95bf939d47b844128457b17a23d347df"), looks := true }, kinds := [], alts := [], laidByText := true, laidKinds := [.data, .data, .data, .data, .sentinel, .sentinel, .widerDeep, .widerDeep, .pinned], laidTests := true, laidLooks := .later }
def PlanReadsCardSaid : Prop := Claim7.holds Tryz.pinned (.plain (OpenSpec.ofChange planReadsSpec)) planReadsCard

/-- THE TIED CARD OF 'copestonelaw06.PlanBays'. -/
def planBaysCard : Claim7 := { stood := { row := planBaysRow, standIns := [], harness := (true, "d292efab8b7b03f55566f4e2ab7c4cab95bf939d47b844128457b17a23d347df"), looks := true }, kinds := [], alts := [], laidByText := true, laidKinds := [.data, .data, .data, .data, .sentinel, .sentinel, .widerDeep, .widerDeep, .pinned], laidTests := true, laidLooks := .later }
def PlanBaysCardSaid : Prop := Claim7.holds Tryz.pinned (.plain (OpenSpec.ofChange planBaysSpec)) planBaysCard

/-- THE TIED CARD OF 'copestonelaw06.PlanTakes'. -/
def planTakesCard : Claim7 := { stood := { row := planTakesRow, standIns := [], harness := (true, "d292efab8b7b03f55566f4e2ab7c4cab95bf939d47b844128457b17a23d347df"), looks := true }, kinds := [], alts := [], laidByText := true, laidKinds := [.data, .data, .data, .data, .sentinel, .sentinel, .widerDeep, .widerDeep, .pinned], laidTests := true, laidLooks := .later }
def PlanTakesCardSaid : Prop := Claim7.holds Tryz.pinned (.plain (OpenSpec.ofChange planTakesSpec)) planTakesCard

/-- THE TIED CARD OF 'copestonelaw06.PlanParts'. -/
def planPartsCard : Claim7 := { stood := { row := planPartsRow, standIns := [], harness := (true, "d292efab8b7b03f55566f4e2ab7c4cab95bf939d47b844128457b17a23d347df"), looks := true }, kinds := [], alts := [], laidByText := true, laidKinds := [.data, .data, .data, .data, .sentinel, .sentinel, .widerDeep, .widerDeep, .pinned], laidTests := true, laidLooks := .later }
def PlanPartsCardSaid : Prop := Claim7.holds Tryz.pinned (.plain (OpenSpec.ofChange planPartsSpec)) planPartsCard

/-- THE TIED CARD OF 'copestonelaw06.PlanCourses'. -/
def planCoursesCard : Claim7 := { stood := { row := planCoursesRow, standIns := [], harness := (true, "d292efab8b7b03f55566f4e2ab7c4cab95bf939d47b844128457b17a23d347df"), looks := true }, kinds := [], alts := [], laidByText := true, laidKinds := [.data, .data, .data, .data, .sentinel, .sentinel, .widerDeep, .widerDeep, .pinned], laidTests := true, laidLooks := .later }
def PlanCoursesCardSaid : Prop := Claim7.holds Tryz.pinned (.plain (OpenSpec.ofChange planCoursesSpec)) planCoursesCard

/-- THE TIED CARD OF 'copestonelaw06.PlanCopes'. -/
def planCopesCard : Claim7 := { stood := { row := planCopesRow, standIns := [], harness := (true, "d292efab8b7b03f55566f4e2ab7c4cab95bf939d47b844128457b17a23d347df"), looks := true }, kinds := [], alts := [], laidByText := true, laidKinds := [.data, .data, .data, .data, .sentinel, .sentinel, .widerDeep, .widerDeep, .pinned], laidTests := true, laidLooks := .later }
def PlanCopesCardSaid : Prop := Claim7.holds Tryz.pinned (.plain (OpenSpec.ofChange planCopesSpec)) planCopesCard

/-- THE TIED CARD OF 'copestonelaw06.PlanBack'. -/
def planBackCard : Claim7 := { stood := { row := planBackRow, standIns := [], harness := (true, "d292efab8b7b03f55566f4e2ab7c4cab95bf939d47b844128457b17a23d347df"), looks := true }, kinds := [], alts := [], laidByText := true, laidKinds := [.data, .data, .data, .data, .sentinel, .sentinel, .widerDeep, .widerDeep, .pinned], laidTests := true, laidLooks := .later }
def PlanBackCardSaid : Prop := Claim7.holds Tryz.pinned (.plain (OpenSpec.ofChange planBackSpec)) planBackCard

/-- THE TIED CARD OF 'copestonelaw06.PlanPrints'. -/
def planPrintsCard : Claim7 := { stood := { row := planPrintsRow, standIns := [], harness := (true, "d292efab8b7b03f55566f4e2ab7c4cab95bf939d47b844128457b17a23d347df"), looks := true }, kinds := [], alts := [], laidByText := true, laidKinds := [.data, .data, .data, .data, .sentinel, .sentinel, .widerDeep, .widerDeep, .pinned], laidTests := true, laidLooks := .later }
def PlanPrintsCardSaid : Prop := Claim7.holds Tryz.pinned (.plain (OpenSpec.ofChange planPrintsSpec)) planPrintsCard

/-- THE SECOND FORM's CARD OF 'copestonelaw06.PlanChecks'. -/
def planChecksUptoCard : Claim7 := { stood := { row := planChecksUptoRow, standIns := [], harness := (true, "d292efab8b7b03f55566f4e2ab7c4cab95bf939d47b844128457b17a23d347df"), looks := true }, kinds := [], alts := [], laidByText := true, laidKinds := [.data, .data, .data, .data, .sentinel, .sentinel, .widerDeep, .widerDeep, .pinned], laidTests := true, laidLooks := .later }
def PlanChecksUptoCardSaid : Prop := Claim7.holds Tryz.pinned (.plain (OpenSpec.upto planChecksSpec)) planChecksUptoCard

/-- THE SECOND FORM's CARD OF 'copestonelaw06.PlanReads'. -/
def planReadsUptoCard : Claim7 := { stood := { row := planReadsUptoRow, standIns := [], harness := (true, "d292efab8b7b03f55566f4e2ab7c4cab95bf939d47b844128457b17a23d347df"), looks := true }, kinds := [], alts := [], laidByText := true, laidKinds := [.data, .data, .data, .data, .sentinel, .sentinel, .widerDeep, .widerDeep, .pinned], laidTests := true, laidLooks := .later }
def PlanReadsUptoCardSaid : Prop := Claim7.holds Tryz.pinned (.plain (OpenSpec.upto planReadsSpec)) planReadsUptoCard

/-- THE SECOND FORM's CARD OF 'copestonelaw06.PlanBays'. -/
def planBaysUptoCard : Claim7 := { stood := { row := planBaysUptoRow, standIns := [], harness := (true, "d292efab8b7b03f55566f4e2ab7c4cab95bf939d47b844128457b17a23d347df"), looks := true }, kinds := [], alts := [], laidByText := true, laidKinds := [.data, .data, .data, .data, .sentinel, .sentinel, .widerDeep, .widerDeep, .pinned], laidTests := true, laidLooks := .later }
def PlanBaysUptoCardSaid : Prop := Claim7.holds Tryz.pinned (.plain (OpenSpec.upto planBaysSpec)) planBaysUptoCard

/-- THE SECOND FORM's CARD OF 'copestonelaw06.PlanTakes'. -/
def planTakesUptoCard : Claim7 := { stood := { row := planTakesUptoRow, standIns := [], harness := (true, "d292efab8b7b03f55566f4e2ab7c4cab95bf939d47b844128457b17a23d347df"), looks := true }, kinds := [], alts := [], laidByText := true, laidKinds := [.data, .data, .data, .data, .sentinel, .sentinel, .widerDeep, .widerDeep, .pinned], laidTests := true, laidLooks := .later }
def PlanTakesUptoCardSaid : Prop := Claim7.holds Tryz.pinned (.plain (OpenSpec.upto planTakesSpec)) planTakesUptoCard

/-- THE SECOND FORM's CARD OF 'copestonelaw06.PlanParts'. -/
def planPartsUptoCard : Claim7 := { stood := { row := planPartsUptoRow, standIns := [], harness := (true, "d292efab8b7b03f55566f4e2ab7c4cab95bf939d47b844128457b17a23d347df"), looks := true }, kinds := [], alts := [], laidByText := true, laidKinds := [.data, .data, .data, .data, .sentinel, .sentinel, .widerDeep, .widerDeep, .pinned], laidTests := true, laidLooks := .later }
def PlanPartsUptoCardSaid : Prop := Claim7.holds Tryz.pinned (.plain (OpenSpec.upto planPartsSpec)) planPartsUptoCard

/-- THE SECOND FORM's CARD OF 'copestonelaw06.PlanCourses'. -/
def planCoursesUptoCard : Claim7 := { stood := { row := planCoursesUptoRow, standIns := [], harness := (true, "d292efab8b7b03f55566f4e2ab7c4cab95bf939d47b844128457b17a23d347df"), looks := true }, kinds := [], alts := [], laidByText := true, laidKinds := [.data, .data, .data, .data, .sentinel, .sentinel, .widerDeep, .widerDeep, .pinned], laidTests := true, laidLooks := .later }
def PlanCoursesUptoCardSaid : Prop := Claim7.holds Tryz.pinned (.plain (OpenSpec.upto planCoursesSpec)) planCoursesUptoCard

/-- THE SECOND FORM's CARD OF 'copestonelaw06.PlanCopes'. -/
def planCopesUptoCard : Claim7 := { stood := { row := planCopesUptoRow, standIns := [], harness := (true, "d292efab8b7b03f55566f4e2ab7c4cab95bf939d47b844128457b17a23d347df"), looks := true }, kinds := [], alts := [], laidByText := true, laidKinds := [.data, .data, .data, .data, .sentinel, .sentinel, .widerDeep, .widerDeep, .pinned], laidTests := true, laidLooks := .later }
def PlanCopesUptoCardSaid : Prop := Claim7.holds Tryz.pinned (.plain (OpenSpec.upto planCopesSpec)) planCopesUptoCard

/-- THE SECOND FORM's CARD OF 'copestonelaw06.PlanBack'. -/
def planBackUptoCard : Claim7 := { stood := { row := planBackUptoRow, standIns := [], harness := (true, "d292efab8b7b03f55566f4e2ab7c4cab95bf939d47b844128457b17a23d347df"), looks := true }, kinds := [], alts := [], laidByText := true, laidKinds := [.data, .data, .data, .data, .sentinel, .sentinel, .widerDeep, .widerDeep, .pinned], laidTests := true, laidLooks := .later }
def PlanBackUptoCardSaid : Prop := Claim7.holds Tryz.pinned (.plain (OpenSpec.upto planBackSpec)) planBackUptoCard

/-- THE SECOND FORM's CARD OF 'copestonelaw06.PlanPrints'. -/
def planPrintsUptoCard : Claim7 := { stood := { row := planPrintsUptoRow, standIns := [], harness := (true, "d292efab8b7b03f55566f4e2ab7c4cab95bf939d47b844128457b17a23d347df"), looks := true }, kinds := [], alts := [], laidByText := true, laidKinds := [.data, .data, .data, .data, .sentinel, .sentinel, .widerDeep, .widerDeep, .pinned], laidTests := true, laidLooks := .later }
def PlanPrintsUptoCardSaid : Prop := Claim7.holds Tryz.pinned (.plain (OpenSpec.upto planPrintsSpec)) planPrintsUptoCard
end Rows
end Go.Proofs.YtdcfcfhmkfkgmaaGreatDoor
