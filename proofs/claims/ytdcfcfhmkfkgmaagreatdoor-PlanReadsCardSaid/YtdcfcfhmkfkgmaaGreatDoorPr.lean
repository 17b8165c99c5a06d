/- The law PlanReads returns true for every input, and its arguments read as before. -/
import Derived.Test.YtdcfcfhmkfkgmaaGreatDoorTie
import Derived.Test.YtdcfcfhmkfkgmaaGreatDoorCards
import Derived.SevenTiedAt
import Derived.Test.YtdcfcfhmkfkgmaaGreatDoorPr7
namespace Go.Proofs.YtdcfcfhmkfkgmaaGreatDoor
open Go Go.K Go.Stn Go.Pln Go.ChangeShapes Go.WideShapes Go.ChangeAt Go.RowKit

theorem wok_of {H : Type} {ts : List TypeId} {ds : List (DataW H)} (h : (DataW.weightsEach Tryz.prog ts ds).all (· ≤ reachBytes) = true) (i : Nat) {t : TypeId} {d : DataW H} (ht : ts[i]? = some t) (hd : ds[i]? = some d) : WOk Tryz.prog t d :=
  wok_each (fun n hn => by simpa using List.all_eq_true.1 h n hn) i t d ht hd
set_option maxRecDepth 100000 in
theorem PlanReads_lifted (os : Os) (started : os.Started) (H : Type) (enc : TypeId × Value → H) :
    ReturnsInHanded {} Tryz.checked os 4 .any (fun w args => (Rows.planReadsSpec.pre enc Tryz.prog Tryz.f4 [] false w args ∧ laidMetH Tryz.prog laidR w) ∧ sizedMet enc Tryz.prog Tryz.f4 (OpenSpec.ofChange Rows.planReadsSpec) false w args)
      (Rows.planReadsSpec.post enc Tryz.prog Tryz.f4 false true false false) := by
  refine returnsInHanded_of_change_and_shaped (C := Tryz.checked) (X := fun w _ => laidMetH Tryz.prog laidR w) (fun _ _ _ hh h => h.of_heap hh) own started (by kernel_rfl) Tryz.func4
    (ChangeSpec.witness_shaped (enc := enc) (C := Tryz.checked) (os := os) (X := fun w _ => laidMetH Tryz.prog laidR w) false (worldR os) #[.string ⟨#[]⟩] 8 (worldR_os os) (World.shaped_of_RefB (by kernel_rfl) (by kernel_rfl)) (by kernel_rfl) (by kernel_rfl) (by kernel_rfl) (door_metR os _)) ?_
  intro W base args ds gs before hval0 hW _ hZ0 hL hsh
  have hval : ∀ (j : Nat) t v, Tryz.f4.params[j]? = some t → args[j]? = some v → Value.okWide Tryz.prog W .any base t v := hval0
  have hW' := hW
  obtain ⟨p, q, hA0, hV, rfl, hfz, hnd⟩ := hW
  have hA : DataW.TrodAll enc Tryz.prog W 0 (fun _ => true) true Tryz.f4.params.toList args.toList ds p := hA0
  rw [Tryz.params4] at hA hval
  obtain ⟨v0, d0, rfl, rfl, h0⟩ := trodAll_one hA
  obtain ⟨rfl, rfl⟩ := trodVars_none hV
  have hZ : (DataW.weightsEach Tryz.prog [9] [d0]).all (· ≤ reachBytes) = true := by
    rw [Tryz.params4] at hZ0
    exact hZ0
  obtain ⟨t0, ht0, rfl⟩ := open_text (hval 0 9 v0 rfl rfl) h0 (wok_of hZ 0 rfl rfl)
  refine (PlanReads_c t0 W (int_of_shape hsh) (copes_of_laid hL (by simp [laidR, Rows.planChecksRow])) (opens_of_laid hL (by simp [laidR, Rows.planChecksRow]))).mono fun e W' ⟨he, hx⟩ => ?_
  subst he
  exact ⟨_, rfl, law_post laidOut hW' rfl (by kernel_rfl) rfl rfl Tryz.underlying4 (by first | exact hx | (rw [hx]; exact Ext.refl _) | (subst hx; exact Ext.refl _))⟩

theorem PlanReads_row : Rows.PlanReadsSaid :=
  OpenClaim.holds_of_wide 4 Tryz.f4 rfl rfl rfl rfl rfl rfl rfl ⟨rfl, rfl, rfl, rfl, rfl⟩ rfl rfl rfl rfl rfl (by kernel_rfl) Tryz.func4 (by kernel_rfl)
    (of_decide_eq_true (by kernel_rfl)) (by unfold Func.isWrapper; first | (rw [if_pos (by decide +kernel)]; kernel_rfl) | (rw [if_neg (by decide +kernel)]; exact ⟨rfl, rfl⟩))
    (fun os started H enc _ => PlanReads_lifted os started H enc)

theorem PlanReads_holds : Rows.PlanReadsCardSaid :=
  Claim7.holds_tied_plain_at .later [] [.data, .data, .data, .data, .sentinel, .sentinel, .widerDeep, .widerDeep, .pinned] true (true, "d292efab8b7b03f55566f4e2ab7c4cab95bf939d47b844128457b17a23d347df") true
    PlanReads_row (fun _ h => by cases h) (by kernel_rfl) (fun _ h => by cases h) planReads_row_tie rfl ⟨rfl, rfl⟩ (by kernel_rfl) rfl
    (fun f fn hf hfn => by
      obtain rfl : f = 4 := Option.some.inj ((show Tryz.prog.funcNamed "copestone/copestonelaw06.PlanReads" = some 4 by kernel_rfl).symm.trans hf) |>.symm
      obtain rfl : fn = Tryz.f4 := (Option.some.inj (Tryz.func4.symm.trans hfn)).symm
      exact ⟨by kernel_rfl, fun j t ht => by
        rw [Tryz.params4] at ht
        rcases j with _ | j
        · exact (show t = 9 by simpa using ht.symm) ▸ (show Tryz.prog.wantsStandIn 9 = false by kernel_rfl)
        · simp at ht⟩)
    (by kernel_rfl)
end Go.Proofs.YtdcfcfhmkfkgmaaGreatDoor
