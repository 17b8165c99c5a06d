/-
  DERIVED. GIVEN WITH THE SEED: THE CARDS: each row of YtmpaebfjnjmmlaaGreatDoorRows.lean that lists a variable, with what it lists TIED to the program's text (the seventh form; the later family's looks); each row that meets fmt, with fmt's text TOLD by the authors' own Lean function (tested against real Go, not proved from fmt's source: count such statements apart). THE CARD IS WHAT COUNTS. Prove the row's statement (the work); the ties are given (YtmpaebfjnjmmlaaGreatDoorTie.lean); close each card by the builder's one call (the guide's Derived/Test/ToyasCard.lean, 'card_holds'). Laid BY PROGRAM, IN A SANDBOX (cutbox-door.mjs). By AI agents, Wed Nov 11 2026. No macro, syntax, notation, axiom, sorry.
-/
import Derived.Test.YtmpaebfjnjmmlaaGreatDoorRows
import GoSem.ClaimSeven
namespace Go.Proofs.YtmpaebfjnjmmlaaGreatDoor
namespace Rows

/-- THE TIED CARD OF 'copestonelaw02.StoneHeaps'. -/
def stoneHeapsCard : Claim7 := { stood := { row := stoneHeapsRow, standIns := [], harness := (true, "7a72ea7bc6ccba47eefaa7c691c6f9315c83f8fbadb287a6c4b8b13d64d73afd"), looks := true }, kinds := [], alts := [], laidByText := true, laidKinds := [.data, .data, .data, .funcs], laidTests := true, laidLooks := .later }
def StoneHeapsCardSaid : Prop := Claim7.holds Tryz.pinned (.plain (OpenSpec.ofChange stoneHeapsSpec)) stoneHeapsCard

/-- THE TIED CARD OF 'copestonelaw02.StoneReads'. -/
def stoneReadsCard : Claim7 := { stood := { row := stoneReadsRow, standIns := [], harness := (true, "7a72ea7bc6ccba47eefaa7c691c6f9315c83f8fbadb287a6c4b8b13d64d73afd"), looks := true }, kinds := [], alts := [], laidByText := true, laidKinds := [.data, .data, .data, .data, .sentinel, .sentinel, .funcs, .pinned], laidTests := true, laidLooks := .later }
def StoneReadsCardSaid : Prop := Claim7.holds Tryz.pinned (.plain (OpenSpec.ofChange stoneReadsSpec)) stoneReadsCard

/-- THE TIED CARD OF 'copestonelaw02.StoneBack'. -/
def stoneBackCard : Claim7 := { stood := { row := stoneBackRow, standIns := [], harness := (true, "7a72ea7bc6ccba47eefaa7c691c6f9315c83f8fbadb287a6c4b8b13d64d73afd"), looks := true }, kinds := [], alts := [], laidByText := true, laidKinds := [.data, .data, .data, .data, .sentinel, .sentinel, .funcs, .pinned], laidTests := true, laidLooks := .later }
def StoneBackCardSaid : Prop := Claim7.holds Tryz.pinned (.plain (OpenSpec.ofChange stoneBackSpec)) stoneBackCard

/-- THE SECOND FORM's CARD OF 'copestonelaw02.StoneHeaps'. -/
def stoneHeapsUptoCard : Claim7 := { stood := { row := stoneHeapsUptoRow, standIns := [], harness := (true, "7a72ea7bc6ccba47eefaa7c691c6f9315c83f8fbadb287a6c4b8b13d64d73afd"), looks := true }, kinds := [], alts := [], laidByText := true, laidKinds := [.data, .data, .data, .funcs], laidTests := true, laidLooks := .later }
def StoneHeapsUptoCardSaid : Prop := Claim7.holds Tryz.pinned (.plain (OpenSpec.upto stoneHeapsSpec)) stoneHeapsUptoCard

/-- THE SECOND FORM's CARD OF 'copestonelaw02.StoneReads'. -/
def stoneReadsUptoCard : Claim7 := { stood := { row := stoneReadsUptoRow, standIns := [], harness := (true, "7a72ea7bc6ccba47eefaa7c691c6f9315c83f8fbadb287a6c4b8b13d64d73afd"), looks := true }, kinds := [], alts := [], laidByText := true, laidKinds := [.data, .data, .data, .data, .sentinel, .sentinel, .funcs, .pinned], laidTests := true, laidLooks := .later }
def StoneReadsUptoCardSaid : Prop := Claim7.holds Tryz.pinned (.plain (OpenSpec.upto stoneReadsSpec)) stoneReadsUptoCard

/-- THE SECOND FORM's CARD OF 'copestonelaw02.StoneBack'. -/
def stoneBackUptoCard : Claim7 := { stood := { row := stoneBackUptoRow, standIns := [], harness := (true, "7a72ea7bc6ccba47eefaa7c691c6f9315c83f8fbadb287a6c4b8b13d64d73afd"), looks := true }, kinds := [], alts := [], laidByText := true, laidKinds := [.data, .data, .data, .data, .sentinel, .sentinel, .funcs, .pinned], laidTests := true, laidLooks := .later }
def StoneBackUptoCardSaid : Prop := Claim7.holds Tryz.pinned (.plain (OpenSpec.upto stoneBackSpec)) stoneBackUptoCard
end Rows
end Go.Proofs.YtmpaebfjnjmmlaaGreatDoor
