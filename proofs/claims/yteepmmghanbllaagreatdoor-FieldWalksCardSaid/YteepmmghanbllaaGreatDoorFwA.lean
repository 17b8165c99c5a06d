/- Closed facts of the program that the row of FieldWalks asks for. No statement of the seat is proved in this text. -/
import Derived.ChangeSame
import Derived.Deep.Slices
import Derived.Handed
import Derived.HandedShaped
import Derived.LaidHandle
import Derived.LaidLaws
import Derived.LaidMore
import Derived.Lay
import Derived.Lib.LaidU8
import Derived.OpenShut
import Derived.ProofKit
import Derived.Shelf.Vars
import Derived.SizedLaws
import Derived.Stop.Joined
import Derived.WideKeyArgs
import Derived.Test.YteepmmghanbllaaGreatDoorTie
import Derived.Test.YteepmmghanbllaaGreatDoorCards
import Derived.SevenTiedAt
namespace Go.Proofs.YteepmmghanbllaaGreatDoor
open Go
theorem laidOut:laidOutB Tryz.prog=true:=by kernel_rfl
theorem jf_maps:mapsRowed Tryz.prog=true:=by kernel_rfl
theorem jf_stops:(Tryz.prog.stops == [])=true:=by kernel_rfl
theorem jf_knobs:(Tryz.prog.stopKnobs == [])=true:=by kernel_rfl
theorem jf_keys:(Rows.fieldCrossesRow.plainKeys == Tryz.prog.plainKeys)=true:=by kernel_rfl
theorem jf_heard:Tryz.prog.stopsHeard=true:=by kernel_rfl
theorem jf_enter:Tryz.prog.mayEnter=true:=by kernel_rfl
theorem jf_final:(Rows.fieldCrossesRow.lifted == Tryz.prog.liftsFinal)=true:=by kernel_rfl
theorem jf_make:(Tryz.prog.make == some Rows.fieldCrossesRow.make)=true:=by kernel_rfl
theorem and_t {a b:Bool} (h1:a=true) (h2:b=true):(a&&b)=true:=by rw [h1,h2];rfl
theorem FieldWalks_j1 : (Rows.fieldWalksRow.inPlace == Tryz.prog.inPlace 11) = true := by kernel_rfl
theorem FieldWalks_j2 : (Rows.fieldWalksRow.unfollowed == Tryz.prog.unfollowed 11) = true := by kernel_rfl
theorem FieldWalks_j3 : (Rows.fieldWalksRow.recurses == Tryz.prog.recurses 11) = true := by kernel_rfl
theorem FieldWalks_j4 : (Rows.fieldWalksRow.named == Tryz.prog.varsNamed 11) = true := by kernel_rfl
theorem FieldWalks_facts : joinedFacts Tryz.pinned.checked.prog 11 Tryz.f11 Rows.fieldWalksSpec Rows.fieldWalksRow = true :=
  and_t (and_t (and_t (and_t (and_t (and_t (and_t (and_t (and_t (and_t (and_t (and_t (and_t (and_t (and_t (and_t (and_t (and_t (and_t (and_t (and_t (and_t (and_t (and_t (and_t (and_t (and_t (and_t (and_t (and_t (and_t (by kernel_rfl) laidOut) jf_maps) (by kernel_rfl)) (by kernel_rfl)) (by kernel_rfl)) jf_stops) (by kernel_rfl)) jf_knobs) FieldWalks_j1) FieldWalks_j2) FieldWalks_j3) FieldWalks_j4) (by kernel_rfl)) (by kernel_rfl)) (by kernel_rfl)) (by kernel_rfl)) (by kernel_rfl)) (by kernel_rfl)) (by kernel_rfl)) (by kernel_rfl)) (by kernel_rfl)) jf_keys) (by kernel_rfl)) jf_heard) jf_enter) jf_final) jf_make) (by kernel_rfl)) (by kernel_rfl)) (by kernel_rfl)) (by kernel_rfl)

end Go.Proofs.YteepmmghanbllaaGreatDoor
