/- The law PlanPrints returns true for every input, and its arguments read as before. -/
import Derived.Test.YtdcfcfhmkfkgmaaGreatDoorTie
import Derived.Test.YtdcfcfhmkfkgmaaGreatDoorCards
import Derived.SevenTiedAt
import Derived.Test.YtdcfcfhmkfkgmaaGreatDoorPp8
namespace Go.Proofs.YtdcfcfhmkfkgmaaGreatDoor
open Go Go.K Go.Stn Go.Pln Go.ChangeShapes Go.WideShapes Go.ChangeAt Go.RowKit

theorem wok_of {H : Type} {ts : List TypeId} {ds : List (DataW H)} (h : (DataW.weightsEach Tryz.prog ts ds).all (· ≤ reachBytes) = true) (i : Nat) {t : TypeId} {d : DataW H} (ht : ts[i]? = some t) (hd : ds[i]? = some d) : WOk Tryz.prog t d :=
  wok_each (fun n hn => by simpa using List.all_eq_true.1 h n hn) i t d ht hd
set_option maxRecDepth 100000 in
theorem PlanPrints_lifted (os : Os) (started : os.Started) (H : Type) (enc : TypeId × Value → H) :
    ReturnsInHanded {} Tryz.checked os 11 .any (fun w args => (Rows.planPrintsSpec.pre enc Tryz.prog Tryz.f11 [] false w args ∧ laidMetH Tryz.prog laidR w) ∧ sizedMet enc Tryz.prog Tryz.f11 (OpenSpec.ofChange Rows.planPrintsSpec) false w args)
      (Rows.planPrintsSpec.post enc Tryz.prog Tryz.f11 false true false false) := by
  refine returnsInHanded_of_change_and_shaped (C := Tryz.checked) (X := fun w _ => laidMetH Tryz.prog laidR w) (fun _ _ _ hh h => h.of_heap hh) own started (by kernel_rfl) Tryz.func11
    (ChangeSpec.witness_shaped (enc := enc) (C := Tryz.checked) (os := os) (X := fun w _ => laidMetH Tryz.prog laidR w) false (worldR os) #[.agg #[.slice none 0 0, .slice none 0 0], .string ⟨#[]⟩] 8 (worldR_os os) (World.shaped_of_RefB (by kernel_rfl) (by kernel_rfl)) (by kernel_rfl) (by kernel_rfl) (by kernel_rfl) (door_metR os _)) ?_
  intro W base args ds gs before hval0 hW _ hZ0 hL hsh
  have hval : ∀ (j : Nat) t v, Tryz.f11.params[j]? = some t → args[j]? = some v → Value.okWide Tryz.prog W .any base t v := hval0
  have hW' := hW
  obtain ⟨p, q, hA0, hV, rfl, hfz, hnd⟩ := hW
  have hA : DataW.TrodAll enc Tryz.prog W 0 (fun _ => true) true Tryz.f11.params.toList args.toList ds p := hA0
  rw [Tryz.params11] at hA hval
  obtain ⟨v0, v1, d0, d1, p0, p1, rfl, rfl, rfl, h0, h1⟩ := trodAll_two hA
  obtain ⟨rfl, rfl⟩ := trodVars_none hV
  have hZ : (DataW.weightsEach Tryz.prog [25, 9] [d0, d1]).all (· ≤ reachBytes) = true := by
    rw [Tryz.params11] at hZ0
    exact hZ0
  obtain ⟨a0, cap0, S, b0, bcap0, V, hp, rfl⟩ := open_plan (hval 0 25 v0 rfl rfl) h0 (wok_of hZ 0 rfl rfl)
  obtain ⟨t1, ht1, rfl⟩ := open_text (hval 1 9 v1 rfl rfl) h1 (wok_of hZ 1 rfl rfl)
  refine (PlanPrints_c a0 cap0 S b0 bcap0 V t1 W hp.hl hp.hs hp.hcS hp.hlw hp.hsw (fun z hz => (hp.hS z hz).hts) (fun z hz => (hp.hV z hz).ops) (fun z hz => (hp.hV z hz).cap) (fun z hz => (hp.hV z hz).knd) (fun z hz => (hp.hS z hz).fits) (fun z hz => (hp.hV z hz).fits) (fun z hz => (hp.hS z hz).cope) (int_of_shape hsh) (copes_of_laid hL (by simp [laidR, Rows.planChecksRow])) (opens_of_laid hL (by simp [laidR, Rows.planChecksRow])) (pow10_of_laid hL (by simp [laidR, Rows.planChecksRow]))).mono fun e W' ⟨he, hx⟩ => ?_
  subst he
  exact ⟨_, rfl, law_post laidOut hW' rfl (by kernel_rfl) rfl rfl Tryz.underlying4 (by first | exact hx | (rw [hx]; exact Ext.refl _) | (subst hx; exact Ext.refl _))⟩

theorem PlanPrints_row : Rows.PlanPrintsSaid :=
  OpenClaim.holds_of_wide 11 Tryz.f11 rfl rfl rfl rfl rfl rfl rfl ⟨rfl, rfl, rfl, rfl, rfl⟩ rfl rfl rfl rfl rfl (by kernel_rfl) Tryz.func11 (by kernel_rfl)
    (of_decide_eq_true (by kernel_rfl)) (by unfold Func.isWrapper; first | (rw [if_pos (by decide +kernel)]; kernel_rfl) | (rw [if_neg (by decide +kernel)]; exact ⟨rfl, rfl⟩))
    (fun os started H enc _ => PlanPrints_lifted os started H enc)

theorem PlanPrints_holds : Rows.PlanPrintsCardSaid :=
  Claim7.holds_tied_plain_at .later [] [.data, .data, .data, .data, .sentinel, .sentinel, .widerDeep, .widerDeep, .pinned] true (true, "d292efab8b7b03f55566f4e2ab7c4cab95bf939d47b844128457b17a23d347df") true
    PlanPrints_row (fun _ h => by cases h) (by kernel_rfl) (fun _ h => by cases h) planPrints_row_tie rfl ⟨rfl, rfl⟩ (by kernel_rfl) rfl
    (fun f fn hf hfn => by
      obtain rfl : f = 11 := Option.some.inj ((show Tryz.prog.funcNamed "copestone/copestonelaw06.PlanPrints" = some 11 by kernel_rfl).symm.trans hf) |>.symm
      obtain rfl : fn = Tryz.f11 := (Option.some.inj (Tryz.func11.symm.trans hfn)).symm
      exact ⟨by kernel_rfl, fun j t ht => by
        rw [Tryz.params11] at ht
        rcases j with _ | _ | j
        · exact (show t = 25 by simpa using ht.symm) ▸ (show Tryz.prog.wantsStandIn 25 = false by kernel_rfl)
        · exact (show t = 9 by simpa using ht.symm) ▸ (show Tryz.prog.wantsStandIn 9 = false by kernel_rfl)
        · simp at ht⟩)
    (by kernel_rfl)
end Go.Proofs.YtdcfcfhmkfkgmaaGreatDoor
