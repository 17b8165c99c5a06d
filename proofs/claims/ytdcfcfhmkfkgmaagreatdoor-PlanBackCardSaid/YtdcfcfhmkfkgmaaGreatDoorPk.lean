/- The law PlanBack returns true for every input, and its arguments read as before. -/
import Derived.Test.YtdcfcfhmkfkgmaaGreatDoorTie
import Derived.Test.YtdcfcfhmkfkgmaaGreatDoorCards
import Derived.SevenTiedAt
import Derived.Test.YtdcfcfhmkfkgmaaGreatDoorPk7
namespace Go.Proofs.YtdcfcfhmkfkgmaaGreatDoor
open Go Go.K Go.Stn Go.Pln Go.ChangeShapes Go.WideShapes Go.ChangeAt Go.RowKit

theorem wok_of {H : Type} {ts : List TypeId} {ds : List (DataW H)} (h : (DataW.weightsEach Tryz.prog ts ds).all (· ≤ reachBytes) = true) (i : Nat) {t : TypeId} {d : DataW H} (ht : ts[i]? = some t) (hd : ds[i]? = some d) : WOk Tryz.prog t d :=
  wok_each (fun n hn => by simpa using List.all_eq_true.1 h n hn) i t d ht hd
set_option maxRecDepth 100000 in
theorem PlanBack_lifted (os : Os) (started : os.Started) (H : Type) (enc : TypeId × Value → H) :
    ReturnsInHanded {} Tryz.checked os 10 .any (fun w args => (Rows.planBackSpec.pre enc Tryz.prog Tryz.f10 [] false w args ∧ laidMetH Tryz.prog laidR w) ∧ sizedMet enc Tryz.prog Tryz.f10 (OpenSpec.ofChange Rows.planBackSpec) false w args)
      (Rows.planBackSpec.post enc Tryz.prog Tryz.f10 false true false false) := by
  refine returnsInHanded_of_change_and_shaped (C := Tryz.checked) (X := fun w _ => laidMetH Tryz.prog laidR w) (fun _ _ _ hh h => h.of_heap hh) own started (by kernel_rfl) Tryz.func10
    (ChangeSpec.witness_shaped (enc := enc) (C := Tryz.checked) (os := os) (X := fun w _ => laidMetH Tryz.prog laidR w) false (worldR os) #[.agg #[.slice none 0 0, .slice none 0 0]] 8 (worldR_os os) (World.shaped_of_RefB (by kernel_rfl) (by kernel_rfl)) (by kernel_rfl) (by kernel_rfl) (by kernel_rfl) (door_metR os _)) ?_
  intro W base args ds gs before hval0 hW _ hZ0 hL hsh
  have hval : ∀ (j : Nat) t v, Tryz.f10.params[j]? = some t → args[j]? = some v → Value.okWide Tryz.prog W .any base t v := hval0
  have hW' := hW
  obtain ⟨p, q, hA0, hV, rfl, hfz, hnd⟩ := hW
  have hA : DataW.TrodAll enc Tryz.prog W 0 (fun _ => true) true Tryz.f10.params.toList args.toList ds p := hA0
  rw [Tryz.params10] at hA hval
  obtain ⟨v0, d0, rfl, rfl, h0⟩ := trodAll_one hA
  obtain ⟨rfl, rfl⟩ := trodVars_none hV
  have hZ : (DataW.weightsEach Tryz.prog [25] [d0]).all (· ≤ reachBytes) = true := by
    rw [Tryz.params10] at hZ0
    exact hZ0
  obtain ⟨a0, cap0, S, b0, bcap0, V, hp, rfl⟩ := open_plan (hval 0 25 v0 rfl rfl) h0 (wok_of hZ 0 rfl rfl)
  refine (PlanBack_c a0 cap0 S b0 bcap0 V W hp.hl hp.hs hp.hcS hp.hlw hp.hsw (fun z hz => (hp.hS z hz).hts) (fun z hz => (hp.hV z hz).ops) (fun z hz => (hp.hV z hz).cap) (fun z hz => (hp.hV z hz).knd) (fun z hz => (hp.hS z hz).fits) (fun z hz => (hp.hV z hz).fits) (fun z hz => (hp.hS z hz).cope) (int_of_shape hsh) (copes_of_laid hL (by simp [laidR, Rows.planChecksRow])) (opens_of_laid hL (by simp [laidR, Rows.planChecksRow])) (pow10_of_laid hL (by simp [laidR, Rows.planChecksRow]))).mono fun e W' ⟨he, hx⟩ => ?_
  subst he
  exact ⟨_, rfl, law_post laidOut hW' rfl (by kernel_rfl) rfl rfl Tryz.underlying4 (by first | exact hx | (rw [hx]; exact Ext.refl _) | (subst hx; exact Ext.refl _))⟩

theorem PlanBack_row : Rows.PlanBackSaid :=
  OpenClaim.holds_of_wide 10 Tryz.f10 rfl rfl rfl rfl rfl rfl rfl ⟨rfl, rfl, rfl, rfl, rfl⟩ rfl rfl rfl rfl rfl (by kernel_rfl) Tryz.func10 (by kernel_rfl)
    (of_decide_eq_true (by kernel_rfl)) (by unfold Func.isWrapper; first | (rw [if_pos (by decide +kernel)]; kernel_rfl) | (rw [if_neg (by decide +kernel)]; exact ⟨rfl, rfl⟩))
    (fun os started H enc _ => PlanBack_lifted os started H enc)

theorem PlanBack_holds : Rows.PlanBackCardSaid :=
  Claim7.holds_tied_plain_at .later [] [.data, .data, .data, .data, .sentinel, .sentinel, .widerDeep, .widerDeep, .pinned] true (true, "d292efab8b7b03f55566f4e2ab7c4cab95bf939d47b844128457b17a23d347df") true
    PlanBack_row (fun _ h => by cases h) (by kernel_rfl) (fun _ h => by cases h) planBack_row_tie rfl ⟨rfl, rfl⟩ (by kernel_rfl) rfl
    (fun f fn hf hfn => by
      obtain rfl : f = 10 := Option.some.inj ((show Tryz.prog.funcNamed "copestone/copestonelaw06.PlanBack" = some 10 by kernel_rfl).symm.trans hf) |>.symm
      obtain rfl : fn = Tryz.f10 := (Option.some.inj (Tryz.func10.symm.trans hfn)).symm
      exact ⟨by kernel_rfl, fun j t ht => by
        rw [Tryz.params10] at ht
        rcases j with _ | j
        · exact (show t = 25 by simpa using ht.symm) ▸ (show Tryz.prog.wantsStandIn 25 = false by kernel_rfl)
        · simp at ht⟩)
    (by kernel_rfl)
end Go.Proofs.YtdcfcfhmkfkgmaaGreatDoor
