/- Closed facts of the program that the row of FieldShuts asks for. No statement of the seat is proved in this text. -/
import Derived.ChangeSame
import Derived.Deep.Slices
import Derived.Handed
import Derived.HandedShaped
import Derived.LaidHandle
import Derived.LaidLaws
import Derived.LaidMore
import Derived.Lay
import Derived.Lib.LaidU8
import Derived.OpenShut
import Derived.ProofKit
import Derived.Shelf.Vars
import Derived.SizedLaws
import Derived.Stop.Joined
import Derived.WideKeyArgs
import Derived.Test.YteepmmghanbllaaGreatDoorTie
import Derived.Test.YteepmmghanbllaaGreatDoorCards
import Derived.SevenTiedAt
namespace Go.Proofs.YteepmmghanbllaaGreatDoor
open Go
theorem laidOut:laidOutB Tryz.prog=true:=by kernel_rfl
theorem jf_maps:mapsRowed Tryz.prog=true:=by kernel_rfl
theorem jf_stops:(Tryz.prog.stops == [])=true:=by kernel_rfl
theorem jf_knobs:(Tryz.prog.stopKnobs == [])=true:=by kernel_rfl
theorem jf_keys:(Rows.fieldCrossesRow.plainKeys == Tryz.prog.plainKeys)=true:=by kernel_rfl
theorem jf_heard:Tryz.prog.stopsHeard=true:=by kernel_rfl
theorem jf_enter:Tryz.prog.mayEnter=true:=by kernel_rfl
theorem jf_final:(Rows.fieldCrossesRow.lifted == Tryz.prog.liftsFinal)=true:=by kernel_rfl
theorem jf_make:(Tryz.prog.make == some Rows.fieldCrossesRow.make)=true:=by kernel_rfl
theorem and_t {a b:Bool} (h1:a=true) (h2:b=true):(a&&b)=true:=by rw [h1,h2];rfl
theorem FieldShuts_j1 : (Rows.fieldShutsRow.inPlace == Tryz.prog.inPlace 8) = true := by kernel_rfl
theorem FieldShuts_j2 : (Rows.fieldShutsRow.unfollowed == Tryz.prog.unfollowed 8) = true := by kernel_rfl
theorem FieldShuts_j3 : (Rows.fieldShutsRow.recurses == Tryz.prog.recurses 8) = true := by kernel_rfl
theorem FieldShuts_j4 : (Rows.fieldShutsRow.named == Tryz.prog.varsNamed 8) = true := by kernel_rfl
theorem FieldShuts_facts : joinedFacts Tryz.pinned.checked.prog 8 Tryz.f8 Rows.fieldShutsSpec Rows.fieldShutsRow = true :=
  and_t (and_t (and_t (and_t (and_t (and_t (and_t (and_t (and_t (and_t (and_t (and_t (and_t (and_t (and_t (and_t (and_t (and_t (and_t (and_t (and_t (and_t (and_t (and_t (and_t (and_t (and_t (and_t (and_t (and_t (and_t (by kernel_rfl) laidOut) jf_maps) (by kernel_rfl)) (by kernel_rfl)) (by kernel_rfl)) jf_stops) (by kernel_rfl)) jf_knobs) FieldShuts_j1) FieldShuts_j2) FieldShuts_j3) FieldShuts_j4) (by kernel_rfl)) (by kernel_rfl)) (by kernel_rfl)) (by kernel_rfl)) (by kernel_rfl)) (by kernel_rfl)) (by kernel_rfl)) (by kernel_rfl)) (by kernel_rfl)) jf_keys) (by kernel_rfl)) jf_heard) jf_enter) jf_final) jf_make) (by kernel_rfl)) (by kernel_rfl)) (by kernel_rfl)) (by kernel_rfl)

end Go.Proofs.YteepmmghanbllaaGreatDoor
