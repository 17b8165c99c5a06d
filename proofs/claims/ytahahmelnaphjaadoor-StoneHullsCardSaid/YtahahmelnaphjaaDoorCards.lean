/-
  DERIVED. GIVEN WITH THE SEED: THE CARDS: each row of YtahahmelnaphjaaDoorRows.lean that lists a variable, with what it lists TIED to the program's text (the seventh form; the later family's looks); each row that meets fmt, with fmt's text TOLD by the authors' own Lean function (tested against real Go, not proved from fmt's source: count such statements apart). THE CARD IS WHAT COUNTS. Prove the row's statement (the work); the ties are given (YtahahmelnaphjaaDoorTie.lean); close each card by the builder's one call (the guide's Derived/Test/ToyasCard.lean, 'card_holds'). Laid BY PROGRAM, IN A SANDBOX (cutbox-door.mjs). By AI agents, Wed Nov 11 2026. No macro, syntax, notation, axiom, sorry.
-/
import Derived.Test.YtahahmelnaphjaaDoorRows
import GoSem.ClaimSeven
namespace Go.Proofs.YtahahmelnaphjaaDoor
namespace Rows

/-- THE TIED CARD OF 'copestonelaw02.StoneChecks'. -/
def stoneChecksCard : Claim7 := { stood := { row := stoneChecksRow, standIns := [], harness := (true, "8e1b60563e50eb54d20515eb0691da71d47d458156fb6289e6c1c1a6afdea78e"), looks := false }, kinds := [], alts := [], laidByText := true, laidKinds := [.funcs], laidTests := true, laidLooks := .later }
def StoneChecksCardSaid : Prop := Claim7.holds Tryd.pinned (.plain (OpenSpec.ofChange stoneChecksSpec)) stoneChecksCard

/-- THE TIED CARD OF 'copestonelaw02.StoneTurns'. -/
def stoneTurnsCard : Claim7 := { stood := { row := stoneTurnsRow, standIns := [], harness := (true, "8e1b60563e50eb54d20515eb0691da71d47d458156fb6289e6c1c1a6afdea78e"), looks := false }, kinds := [], alts := [], laidByText := true, laidKinds := [.funcs], laidTests := true, laidLooks := .later }
def StoneTurnsCardSaid : Prop := Claim7.holds Tryd.pinned (.plain (OpenSpec.ofChange stoneTurnsSpec)) stoneTurnsCard

/-- THE TIED CARD OF 'copestonelaw02.StoneBorders'. -/
def stoneBordersCard : Claim7 := { stood := { row := stoneBordersRow, standIns := [], harness := (true, "8e1b60563e50eb54d20515eb0691da71d47d458156fb6289e6c1c1a6afdea78e"), looks := false }, kinds := [], alts := [], laidByText := true, laidKinds := [.funcs], laidTests := true, laidLooks := .later }
def StoneBordersCardSaid : Prop := Claim7.holds Tryd.pinned (.plain (OpenSpec.ofChange stoneBordersSpec)) stoneBordersCard

/-- THE TIED CARD OF 'copestonelaw02.StoneSplits'. -/
def stoneSplitsCard : Claim7 := { stood := { row := stoneSplitsRow, standIns := [], harness := (true, "8e1b60563e50eb54d20515eb0691da71d47d458156fb6289e6c1c1a6afdea78e"), looks := false }, kinds := [], alts := [], laidByText := true, laidKinds := [.funcs], laidTests := true, laidLooks := .later }
def StoneSplitsCardSaid : Prop := Claim7.holds Tryd.pinned (.plain (OpenSpec.ofChange stoneSplitsSpec)) stoneSplitsCard

/-- THE TIED CARD OF 'copestonelaw02.StoneWays'. -/
def stoneWaysCard : Claim7 := { stood := { row := stoneWaysRow, standIns := [], harness := (true, "8e1b60563e50eb54d20515eb0691da71d47d458156fb6289e6c1c1a6afdea78e"), looks := false }, kinds := [], alts := [], laidByText := true, laidKinds := [.funcs], laidTests := true, laidLooks := .later }
def StoneWaysCardSaid : Prop := Claim7.holds Tryd.pinned (.plain (OpenSpec.ofChange stoneWaysSpec)) stoneWaysCard

/-- THE TIED CARD OF 'copestonelaw02.StonePick'. -/
def stonePickCard : Claim7 := { stood := { row := stonePickRow, standIns := [], harness := (true, "8e1b60563e50eb54d20515eb0691da71d47d458156fb6289e6c1c1a6afdea78e"), looks := false }, kinds := [], alts := [], laidByText := true, laidKinds := [.funcs], laidTests := true, laidLooks := .later }
def StonePickCardSaid : Prop := Claim7.holds Tryd.pinned (.plain (OpenSpec.ofChange stonePickSpec)) stonePickCard

/-- THE TIED CARD OF 'copestonelaw02.StoneHalves'. -/
def stoneHalvesCard : Claim7 := { stood := { row := stoneHalvesRow, standIns := [], harness := (true, "8e1b60563e50eb54d20515eb0691da71d47d458156fb6289e6c1c1a6afdea78e"), looks := false }, kinds := [], alts := [], laidByText := true, laidKinds := [.funcs], laidTests := true, laidLooks := .later }
def StoneHalvesCardSaid : Prop := Claim7.holds Tryd.pinned (.plain (OpenSpec.ofChange stoneHalvesSpec)) stoneHalvesCard

/-- THE TIED CARD OF 'copestonelaw02.StoneOutcomes'. -/
def stoneOutcomesCard : Claim7 := { stood := { row := stoneOutcomesRow, standIns := [], harness := (true, "8e1b60563e50eb54d20515eb0691da71d47d458156fb6289e6c1c1a6afdea78e"), looks := false }, kinds := [], alts := [], laidByText := true, laidKinds := [.funcs], laidTests := true, laidLooks := .later }
def StoneOutcomesCardSaid : Prop := Claim7.holds Tryd.pinned (.plain (OpenSpec.ofChange stoneOutcomesSpec)) stoneOutcomesCard

/-- THE TIED CARD OF 'copestonelaw02.StoneGrain'. -/
def stoneGrainCard : Claim7 := { stood := { row := stoneGrainRow, standIns := [], harness := (true, "8e1b60563e50eb54d20515eb0691da71d47d458156fb6289e6c1c1a6afdea78e"), looks := false }, kinds := [], alts := [], laidByText := true, laidKinds := [.funcs], laidTests := true, laidLooks := .later }
def StoneGrainCardSaid : Prop := Claim7.holds Tryd.pinned (.plain (OpenSpec.ofChange stoneGrainSpec)) stoneGrainCard

/-- THE TIED CARD OF 'copestonelaw02.StoneChips'. -/
def stoneChipsCard : Claim7 := { stood := { row := stoneChipsRow, standIns := [], harness := (true, "8e1b60563e50eb54d20515eb0691da71d47d458156fb6289e6c1c1a6afdea78e"), looks := false }, kinds := [], alts := [], laidByText := true, laidKinds := [.funcs], laidTests := true, laidLooks := .later }
def StoneChipsCardSaid : Prop := Claim7.holds Tryd.pinned (.plain (OpenSpec.ofChange stoneChipsSpec)) stoneChipsCard

/-- THE TIED CARD OF 'copestonelaw02.StoneWeighs'. -/
def stoneWeighsCard : Claim7 := { stood := { row := stoneWeighsRow, standIns := [], harness := (true, "8e1b60563e50eb54d20515eb0691da71d47d458156fb6289e6c1c1a6afdea78e"), looks := false }, kinds := [], alts := [], laidByText := true, laidKinds := [.funcs], laidTests := true, laidLooks := .later }
def StoneWeighsCardSaid : Prop := Claim7.holds Tryd.pinned (.plain (OpenSpec.ofChange stoneWeighsSpec)) stoneWeighsCard

/-- THE TIED CARD OF 'copestonelaw02.StoneHulls'. -/
def stoneHullsCard : Claim7 := { stood := { row := stoneHullsRow, standIns := [], harness := (true, "8e1b60563e50eb54d20515eb0691da71d47d458156fb6289e6c1c1a6afdea78e"), looks := false }, kinds := [], alts := [], laidByText := true, laidKinds := [.funcs], laidTests := true, laidLooks := .later }
def StoneHullsCardSaid : Prop := Claim7.holds Tryd.pinned (.plain (OpenSpec.ofChange stoneHullsSpec)) stoneHullsCard

/-- THE SECOND FORM's CARD OF 'copestonelaw02.StoneChecks'. -/
def stoneChecksUptoCard : Claim7 := { stood := { row := stoneChecksUptoRow, standIns := [], harness := (true, "8e1b60563e50eb54d20515eb0691da71d47d458156fb6289e6c1c1a6afdea78e"), looks := false }, kinds := [], alts := [], laidByText := true, laidKinds := [.funcs], laidTests := true, laidLooks := .later }
def StoneChecksUptoCardSaid : Prop := Claim7.holds Tryd.pinned (.plain (OpenSpec.upto stoneChecksSpec)) stoneChecksUptoCard

/-- THE SECOND FORM's CARD OF 'copestonelaw02.StoneTurns'. -/
def stoneTurnsUptoCard : Claim7 := { stood := { row := stoneTurnsUptoRow, standIns := [], harness := (true, "8e1b60563e50eb54d20515eb0691da71d47d458156fb6289e6c1c1a6afdea78e"), looks := false }, kinds := [], alts := [], laidByText := true, laidKinds := [.funcs], laidTests := true, laidLooks := .later }
def StoneTurnsUptoCardSaid : Prop := Claim7.holds Tryd.pinned (.plain (OpenSpec.upto stoneTurnsSpec)) stoneTurnsUptoCard

/-- THE SECOND FORM's CARD OF 'copestonelaw02.StoneBorders'. -/
def stoneBordersUptoCard : Claim7 := { stood := { row := stoneBordersUptoRow, standIns := [], harness := (true, "8e1b60563e50eb54d20515eb0691da71d47d458156fb6289e6c1c1a6afdea78e"), looks := false }, kinds := [], alts := [], laidByText := true, laidKinds := [.funcs], laidTests := true, laidLooks := .later }
def StoneBordersUptoCardSaid : Prop := Claim7.holds Tryd.pinned (.plain (OpenSpec.upto stoneBordersSpec)) stoneBordersUptoCard

/-- THE SECOND FORM's CARD OF 'copestonelaw02.StoneSplits'. -/
def stoneSplitsUptoCard : Claim7 := { stood := { row := stoneSplitsUptoRow, standIns := [], harness := (true, "8e1b60563e50eb54d20515eb0691da71d47d458156fb6289e6c1c1a6afdea78e"), looks := false }, kinds := [], alts := [], laidByText := true, laidKinds := [.funcs], laidTests := true, laidLooks := .later }
def StoneSplitsUptoCardSaid : Prop := Claim7.holds Tryd.pinned (.plain (OpenSpec.upto stoneSplitsSpec)) stoneSplitsUptoCard

/-- THE SECOND FORM's CARD OF 'copestonelaw02.StoneWays'. -/
def stoneWaysUptoCard : Claim7 := { stood := { row := stoneWaysUptoRow, standIns := [], harness := (true, "8e1b60563e50eb54d20515eb0691da71d47d458156fb6289e6c1c1a6afdea78e"), looks := false }, kinds := [], alts := [], laidByText := true, laidKinds := [.funcs], laidTests := true, laidLooks := .later }
def StoneWaysUptoCardSaid : Prop := Claim7.holds Tryd.pinned (.plain (OpenSpec.upto stoneWaysSpec)) stoneWaysUptoCard

/-- THE SECOND FORM's CARD OF 'copestonelaw02.StonePick'. -/
def stonePickUptoCard : Claim7 := { stood := { row := stonePickUptoRow, standIns := [], harness := (true, "8e1b60563e50eb54d20515eb0691da71d47d458156fb6289e6c1c1a6afdea78e"), looks := false }, kinds := [], alts := [], laidByText := true, laidKinds := [.funcs], laidTests := true, laidLooks := .later }
def StonePickUptoCardSaid : Prop := Claim7.holds Tryd.pinned (.plain (OpenSpec.upto stonePickSpec)) stonePickUptoCard

/-- THE SECOND FORM's CARD OF 'copestonelaw02.StoneHalves'. -/
def stoneHalvesUptoCard : Claim7 := { stood := { row := stoneHalvesUptoRow, standIns := [], harness := (true, "8e1b60563e50eb54d20515eb0691da71d47d458156fb6289e6c1c1a6afdea78e"), looks := false }, kinds := [], alts := [], laidByText := true, laidKinds := [.funcs], laidTests := true, laidLooks := .later }
def StoneHalvesUptoCardSaid : Prop := Claim7.holds Tryd.pinned (.plain (OpenSpec.upto stoneHalvesSpec)) stoneHalvesUptoCard

/-- THE SECOND FORM's CARD OF 'copestonelaw02.StoneOutcomes'. -/
def stoneOutcomesUptoCard : Claim7 := { stood := { row := stoneOutcomesUptoRow, standIns := [], harness := (true, "8e1b60563e50eb54d20515eb0691da71d47d458156fb6289e6c1c1a6afdea78e"), looks := false }, kinds := [], alts := [], laidByText := true, laidKinds := [.funcs], laidTests := true, laidLooks := .later }
def StoneOutcomesUptoCardSaid : Prop := Claim7.holds Tryd.pinned (.plain (OpenSpec.upto stoneOutcomesSpec)) stoneOutcomesUptoCard

/-- THE SECOND FORM's CARD OF 'copestonelaw02.StoneGrain'. -/
def stoneGrainUptoCard : Claim7 := { stood := { row := stoneGrainUptoRow, standIns := [], harness := (true, "8e1b60563e50eb54d20515eb0691da71d47d458156fb6289e6c1c1a6afdea78e"), looks := false }, kinds := [], alts := [], laidByText := true, laidKinds := [.funcs], laidTests := true, laidLooks := .later }
def StoneGrainUptoCardSaid : Prop := Claim7.holds Tryd.pinned (.plain (OpenSpec.upto stoneGrainSpec)) stoneGrainUptoCard

/-- THE SECOND FORM's CARD OF 'copestonelaw02.StoneChips'. -/
def stoneChipsUptoCard : Claim7 := { stood := { row := stoneChipsUptoRow, standIns := [], harness := (true, "8e1b60563e50eb54d20515eb0691da71d47d458156fb6289e6c1c1a6afdea78e"), looks := false }, kinds := [], alts := [], laidByText := true, laidKinds := [.funcs], laidTests := true, laidLooks := .later }
def StoneChipsUptoCardSaid : Prop := Claim7.holds Tryd.pinned (.plain (OpenSpec.upto stoneChipsSpec)) stoneChipsUptoCard

/-- THE SECOND FORM's CARD OF 'copestonelaw02.StoneWeighs'. -/
def stoneWeighsUptoCard : Claim7 := { stood := { row := stoneWeighsUptoRow, standIns := [], harness := (true, "8e1b60563e50eb54d20515eb0691da71d47d458156fb6289e6c1c1a6afdea78e"), looks := false }, kinds := [], alts := [], laidByText := true, laidKinds := [.funcs], laidTests := true, laidLooks := .later }
def StoneWeighsUptoCardSaid : Prop := Claim7.holds Tryd.pinned (.plain (OpenSpec.upto stoneWeighsSpec)) stoneWeighsUptoCard

/-- THE SECOND FORM's CARD OF 'copestonelaw02.StoneHulls'. -/
def stoneHullsUptoCard : Claim7 := { stood := { row := stoneHullsUptoRow, standIns := [], harness := (true, "8e1b60563e50eb54d20515eb0691da71d47d458156fb6289e6c1c1a6afdea78e"), looks := false }, kinds := [], alts := [], laidByText := true, laidKinds := [.funcs], laidTests := true, laidLooks := .later }
def StoneHullsUptoCardSaid : Prop := Claim7.holds Tryd.pinned (.plain (OpenSpec.upto stoneHullsSpec)) stoneHullsUptoCard
end Rows
end Go.Proofs.YtahahmelnaphjaaDoor
