/-
  DERIVED. GIVEN WITH THE SEED: THE CARDS: each row of YteepmmghanbllaaGreatDoorRows.lean that lists a variable, with what it lists TIED to the program's text (the seventh form; the later family's looks); each row that meets fmt, with fmt's text TOLD by the authors' own Lean function (tested against real Go, not proved from fmt's source: count such statements apart). THE CARD IS WHAT COUNTS. Prove the row's statement (the work); the ties are given (YteepmmghanbllaaGreatDoorTie.lean); close each card by the builder's one call (the guide's Derived/Test/ToyasCard.lean, 'card_holds'). Laid BY PROGRAM, IN A SANDBOX (cutbox-door.mjs). By AI agents, Wed Nov 11 2026. No macro, syntax, notation, axiom, sorry.
-/
import Derived.Test.YteepmmghanbllaaGreatDoorRows
import GoSem.ClaimSeven
namespace Go.Proofs.YteepmmghanbllaaGreatDoor
namespace Rows

/-- THE TIED CARD OF 'copestonelaw09.FieldReaches'. -/
def fieldReachesCard : Claim7 := { stood := { row := fieldReachesRow, standIns := [], harness := (true, "165a4330edc68444c0f5ca76f76230199d554ce0a9ea9f7a1383eee7b69690c3"), looks := true }, kinds := [], alts := [], laidByText := true, laidKinds := [.data, .data, .data, .data, .sentinel, .sentinel, .widerDeep, .widerDeep, .pinned], laidTests := true, laidLooks := .later }
def FieldReachesCardSaid : Prop := Claim7.holds Tryz.pinned (.plain (OpenSpec.ofChange fieldReachesSpec)) fieldReachesCard

/-- THE TIED CARD OF 'copestonelaw09.FieldGates'. -/
def fieldGatesCard : Claim7 := { stood := { row := fieldGatesRow, standIns := [], harness := (true, "165a4330edc68444c0f5ca76f76230199d554ce0a9ea9f7a1383eee7b69690c3"), looks := true }, kinds := [], alts := [], laidByText := true, laidKinds := [.data, .data, .data, .data, .sentinel, .sentinel, .widerDeep, .widerDeep, .pinned], laidTests := true, laidLooks := .later }
def FieldGatesCardSaid : Prop := Claim7.holds Tryz.pinned (.plain (OpenSpec.ofChange fieldGatesSpec)) fieldGatesCard

/-- THE TIED CARD OF 'copestonelaw09.FieldCrosses'. -/
def fieldCrossesCard : Claim7 := { stood := { row := fieldCrossesRow, standIns := [], harness := (true, "165a4330edc68444c0f5ca76f76230199d554ce0a9ea9f7a1383eee7b69690c3"), looks := true }, kinds := [], alts := [], laidByText := true, laidKinds := [.data, .data, .data, .data, .sentinel, .sentinel, .widerDeep, .widerDeep, .pinned], laidTests := true, laidLooks := .later }
def FieldCrossesCardSaid : Prop := Claim7.holds Tryz.pinned (.plain (OpenSpec.ofChange fieldCrossesSpec)) fieldCrossesCard

/-- THE TIED CARD OF 'copestonelaw09.FieldPens'. -/
def fieldPensCard : Claim7 := { stood := { row := fieldPensRow, standIns := [], harness := (true, "165a4330edc68444c0f5ca76f76230199d554ce0a9ea9f7a1383eee7b69690c3"), looks := true }, kinds := [], alts := [], laidByText := true, laidKinds := [.data, .data, .data, .data, .sentinel, .sentinel, .widerDeep, .widerDeep, .pinned], laidTests := true, laidLooks := .later }
def FieldPensCardSaid : Prop := Claim7.holds Tryz.pinned (.plain (OpenSpec.ofChange fieldPensSpec)) fieldPensCard

/-- THE TIED CARD OF 'copestonelaw09.FieldCloses'. -/
def fieldClosesCard : Claim7 := { stood := { row := fieldClosesRow, standIns := [], harness := (true, "165a4330edc68444c0f5ca76f76230199d554ce0a9ea9f7a1383eee7b69690c3"), looks := true }, kinds := [], alts := [], laidByText := true, laidKinds := [.data, .data, .data, .data, .sentinel, .sentinel, .widerDeep, .widerDeep, .pinned], laidTests := true, laidLooks := .later }
def FieldClosesCardSaid : Prop := Claim7.holds Tryz.pinned (.plain (OpenSpec.ofChange fieldClosesSpec)) fieldClosesCard

/-- THE TIED CARD OF 'copestonelaw09.FieldShuts'. -/
def fieldShutsCard : Claim7 := { stood := { row := fieldShutsRow, standIns := [], harness := (true, "165a4330edc68444c0f5ca76f76230199d554ce0a9ea9f7a1383eee7b69690c3"), looks := true }, kinds := [], alts := [], laidByText := true, laidKinds := [.data, .data, .data, .data, .sentinel, .sentinel, .widerDeep, .widerDeep, .pinned], laidTests := true, laidLooks := .later }
def FieldShutsCardSaid : Prop := Claim7.holds Tryz.pinned (.plain (OpenSpec.ofChange fieldShutsSpec)) fieldShutsCard

/-- THE TIED CARD OF 'copestonelaw09.FieldProves'. -/
def fieldProvesCard : Claim7 := { stood := { row := fieldProvesRow, standIns := [], harness := (true, "165a4330edc68444c0f5ca76f76230199d554ce0a9ea9f7a1383eee7b69690c3"), looks := true }, kinds := [], alts := [], laidByText := true, laidKinds := [.data, .data, .data, .data, .sentinel, .sentinel, .widerDeep, .widerDeep, .pinned], laidTests := true, laidLooks := .later }
def FieldProvesCardSaid : Prop := Claim7.holds Tryz.pinned (.plain (OpenSpec.ofChange fieldProvesSpec)) fieldProvesCard

/-- THE TIED CARD OF 'copestonelaw09.FieldStronger'. -/
def fieldStrongerCard : Claim7 := { stood := { row := fieldStrongerRow, standIns := [], harness := (true, "165a4330edc68444c0f5ca76f76230199d554ce0a9ea9f7a1383eee7b69690c3"), looks := true }, kinds := [], alts := [], laidByText := true, laidKinds := [.data, .data, .data, .data, .sentinel, .sentinel, .widerDeep, .widerDeep, .pinned], laidTests := true, laidLooks := .later }
def FieldStrongerCardSaid : Prop := Claim7.holds Tryz.pinned (.plain (OpenSpec.ofChange fieldStrongerSpec)) fieldStrongerCard

/-- THE TIED CARD OF 'copestonelaw09.FieldWalks'. -/
def fieldWalksCard : Claim7 := { stood := { row := fieldWalksRow, standIns := [], harness := (true, "165a4330edc68444c0f5ca76f76230199d554ce0a9ea9f7a1383eee7b69690c3"), looks := true }, kinds := [], alts := [], laidByText := true, laidKinds := [.data, .data, .data, .data, .sentinel, .sentinel, .widerDeep, .widerDeep, .pinned], laidTests := true, laidLooks := .later }
def FieldWalksCardSaid : Prop := Claim7.holds Tryz.pinned (.plain (OpenSpec.ofChange fieldWalksSpec)) fieldWalksCard

/-- THE TIED CARD OF 'copestonelaw09.FieldBest'. -/
def fieldBestCard : Claim7 := { stood := { row := fieldBestRow, standIns := [], harness := (true, "165a4330edc68444c0f5ca76f76230199d554ce0a9ea9f7a1383eee7b69690c3"), looks := true }, kinds := [], alts := [], laidByText := true, laidKinds := [.data, .data, .data, .data, .sentinel, .sentinel, .widerDeep, .widerDeep, .pinned], laidTests := true, laidLooks := .later }
def FieldBestCardSaid : Prop := Claim7.holds Tryz.pinned (.plain (OpenSpec.ofChange fieldBestSpec)) fieldBestCard

/-- THE SECOND FORM's CARD OF 'copestonelaw09.FieldReaches'. -/
def fieldReachesUptoCard : Claim7 := { stood := { row := fieldReachesUptoRow, standIns := [], harness := (true, "165a4330edc68444c0f5ca76f76230199d554ce0a9ea9f7a1383eee7b69690c3"), looks := true }, kinds := [], alts := [], laidByText := true, laidKinds := [.data, .data, .data, .data, .sentinel, .sentinel, .widerDeep, .widerDeep, .pinned], laidTests := true, laidLooks := .later }
def FieldReachesUptoCardSaid : Prop := Claim7.holds Tryz.pinned (.plain (OpenSpec.upto fieldReachesSpec)) fieldReachesUptoCard

/-- THE SECOND FORM's CARD OF 'copestonelaw09.FieldGates'. -/
def fieldGatesUptoCard : Claim7 := { stood := { row := fieldGatesUptoRow, standIns := [], harness := (true, "165a4330edc68444c0f5ca76f76230199d554ce0a9ea9f7a1383eee7b69690c3"), looks := true }, kinds := [], alts := [], laidByText := true, laidKinds := [.data, .data, .data, .data, .sentinel, .sentinel, .widerDeep, .widerDeep, .pinned], laidTests := true, laidLooks := .later }
def FieldGatesUptoCardSaid : Prop := Claim7.holds Tryz.pinned (.plain (OpenSpec.upto fieldGatesSpec)) fieldGatesUptoCard

/-- THE SECOND FORM's CARD OF 'copestonelaw09.FieldCrosses'. -/
def fieldCrossesUptoCard : Claim7 := { stood := { row := fieldCrossesUptoRow, standIns := [], harness := (true, "165a4330edc68444c0f5ca76f76230199d554ce0a9ea9f7a1383eee7b69690c3"), looks := true }, kinds := [], alts := [], laidByText := true, laidKinds := [.data, .data, .data, .data, .sentinel, .sentinel, .widerDeep, .widerDeep, .pinned], laidTests := true, laidLooks := .later }
def FieldCrossesUptoCardSaid : Prop := Claim7.holds Tryz.pinned (.plain (OpenSpec.upto fieldCrossesSpec)) fieldCrossesUptoCard

/-- THE SECOND FORM's CARD OF 'copestonelaw09.FieldPens'. -/
def fieldPensUptoCard : Claim7 := { stood := { row := fieldPensUptoRow, standIns := [], harness := (true, "165a4330edc68444c0f5ca76f76230199d554ce0a9ea9f7a1383eee7b69690c3"), looks := true }, kinds := [], alts := [], laidByText := true, laidKinds := [.data, .data, .data, .data, .sentinel, .sentinel, .widerDeep, .widerDeep, .pinned], laidTests := true, laidLooks := .later }
def FieldPensUptoCardSaid : Prop := Claim7.holds Tryz.pinned (.plain (OpenSpec.upto fieldPensSpec)) fieldPensUptoCard

/-- THE SECOND FORM's CARD OF 'copestonelaw09.FieldCloses'. -/
def fieldClosesUptoCard : Claim7 := { stood := { row := fieldClosesUptoRow, standIns := [], harness := (true, "165a4330edc68444c0f5ca76f76230199d554ce0a9ea9f7a1383eee7b69690c3"), looks := true }, kinds := [], alts := [], laidByText := true, laidKinds := [.data, .data, .data, .data, .sentinel, .sentinel, .widerDeep, .widerDeep, .pinned], laidTests := true, laidLooks := .later }
def FieldClosesUptoCardSaid : Prop := Claim7.holds Tryz.pinned (.plain (OpenSpec.upto fieldClosesSpec)) fieldClosesUptoCard

/-- THE SECOND FORM's CARD OF 'copestonelaw09.FieldShuts'. -/
def fieldShutsUptoCard : Claim7 := { stood := { row := fieldShutsUptoRow, standIns := [], harness := (true, "165a4330edc68444c0f5ca76f76230199d554ce0a9ea9f7a1383eee7b69690c3"), looks := true }, kinds := [], alts := [], laidByText := true, laidKinds := [.data, .data, .data, .data, .sentinel, .sentinel, .widerDeep, .widerDeep, .pinned], laidTests := true, laidLooks := .later }
def FieldShutsUptoCardSaid : Prop := Claim7.holds Tryz.pinned (.plain (OpenSpec.upto fieldShutsSpec)) fieldShutsUptoCard

/-- THE SECOND FORM's CARD OF 'copestonelaw09.FieldProves'. -/
def fieldProvesUptoCard : Claim7 := { stood := { row := fieldProvesUptoRow, standIns := [], harness := (true, "165a4330edc68444c0f5ca76f76230199d554ce0a9ea9f7a1383eee7b69690c3"), looks := true }, kinds := [], alts := [], laidByText := true, laidKinds := [.data, .data, .data, .data, .sentinel, .sentinel, .widerDeep, .widerDeep, .pinned], laidTests := true, laidLooks := .later }
def FieldProvesUptoCardSaid : Prop := Claim7.holds Tryz.pinned (.plain (OpenSpec.upto fieldProvesSpec)) fieldProvesUptoCard

/-- THE SECOND FORM's CARD OF 'copestonelaw09.FieldStronger'. -/
def fieldStrongerUptoCard : Claim7 := { stood := { row := fieldStrongerUptoRow, standIns := [], harness := (true, "165a4330edc68444c0f5ca76f76230199d554ce0a9ea9f7a1383eee7b69690c3"), looks := true }, kinds := [], alts := [], laidByText := true, laidKinds := [.data, .data, .data, .data, .sentinel, .sentinel, .widerDeep, .widerDeep, .pinned], laidTests := true, laidLooks := .later }
def FieldStrongerUptoCardSaid : Prop := Claim7.holds Tryz.pinned (.plain (OpenSpec.upto fieldStrongerSpec)) fieldStrongerUptoCard

/-- THE SECOND FORM's CARD OF 'copestonelaw09.FieldWalks'. -/
def fieldWalksUptoCard : Claim7 := { stood := { row := fieldWalksUptoRow, standIns := [], harness := (true, "165a4330edc68444c0f5ca76f76230199d554ce0a9ea9f7a1383eee7b69690c3"), looks := true }, kinds := [], alts := [], laidByText := true, laidKinds := [.data, .data, .data, .data, .sentinel, .sentinel, .widerDeep, .widerDeep, .pinned], laidTests := true, laidLooks := .later }
def FieldWalksUptoCardSaid : Prop := Claim7.holds Tryz.pinned (.plain (OpenSpec.upto fieldWalksSpec)) fieldWalksUptoCard

/-- THE SECOND FORM's CARD OF 'copestonelaw09.FieldBest'. -/
def fieldBestUptoCard : Claim7 := { stood := { row := fieldBestUptoRow, standIns := [], harness := (true, "165a4330edc68444c0f5ca76f76230199d554ce0a9ea9f7a1383eee7b69690c3"), looks := true }, kinds := [], alts := [], laidByText := true, laidKinds := [.data, .data, .data, .data, .sentinel, .sentinel, .widerDeep, .widerDeep, .pinned], laidTests := true, laidLooks := .later }
def FieldBestUptoCardSaid : Prop := Claim7.holds Tryz.pinned (.plain (OpenSpec.upto fieldBestSpec)) fieldBestUptoCard
end Rows
end Go.Proofs.YteepmmghanbllaaGreatDoor
