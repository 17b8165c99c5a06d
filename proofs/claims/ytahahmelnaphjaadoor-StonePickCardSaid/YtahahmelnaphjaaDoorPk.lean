/- The law StonePick returns true for every input, and its argument reads as before. -/
import Derived.Test.YtahahmelnaphjaaDoorTie
import Derived.Test.YtahahmelnaphjaaDoorCards
import Derived.SevenTiedAt
import Derived.Test.YtahahmelnaphjaaDoorPk4
namespace Go.Proofs.YtahahmelnaphjaaDoor
open Go Go.K Go.Stn Go.ChangeShapes Go.WideShapes Go.ChangeAt Go.RowKit

set_option maxRecDepth 100000 in
theorem StonePick_lifted (os : Os) (started : os.Started) (H : Type) (enc : TypeId × Value → H) :
    ReturnsInHanded {} Tryd.checked os 8 .any (fun w args => (Rows.stonePickSpec.pre enc Tryd.prog Tryd.f8 [] false w args ∧ laidMetH Tryd.prog laid1 w) ∧ sizedMet enc Tryd.prog Tryd.f8 (OpenSpec.ofChange Rows.stonePickSpec) false w args)
      (Rows.stonePickSpec.post enc Tryd.prog Tryd.f8 false true false false) := by
  refine returnsInHanded_of_change_and (C := Tryd.checked) (X := fun w _ => laidMetH Tryd.prog laid1 w) (fun _ _ _ hh h => h.of_heap hh) own started (by kernel_rfl) Tryd.func8
    (ChangeSpec.witness_shaped (enc := enc) (C := Tryd.checked) (os := os) (X := fun w _ => laidMetH Tryd.prog laid1 w) false (World.doorLaid Tryd.prog 400 os) #[zeroStone] 8 rfl (World.shaped_of_RefB (by kernel_rfl) (by kernel_rfl)) (by kernel_rfl) (by kernel_rfl) (by kernel_rfl) (door_met os _)) ?_
  intro W base args ds gs before hval0 hW _ hZ hL _
  have hval : ∀ (j : Nat) t v, Tryd.f8.params[j]? = some t → args[j]? = some v → Value.okWide Tryd.prog W .any base t v := hval0
  have hW' := hW
  obtain ⟨p, q, hA0, hV, rfl, hfz, hnd⟩ := hW
  have hA : DataW.TrodAll enc Tryd.prog W 0 (fun _ => true) true Tryd.f8.params.toList args.toList ds p := hA0
  rw [Tryd.params8] at hA hval
  obtain ⟨v0, d0, rfl, rfl, h0⟩ := trodAll_one hA
  obtain ⟨rfl, rfl⟩ := trodVars_none hV
  have hZ0 : (DataW.weightsEach Tryd.prog (26 :: []) (d0 :: [])).all (· ≤ reachBytes) = true := by
    rw [Tryd.params8] at hZ
    exact hZ
  obtain ⟨f0, f1, f2, f3, f4, fx, fz, T⟩ := stnT
  obtain ⟨s, a, cap, hs0, hs, hcap, rfl⟩ := open_stone T (hval 0 26 v0 rfl rfl) h0
  have hn : Fits s.name.size := stone_fits T h0 hZ0
  refine (StonePick_c a cap s W hs (of_laid hL) hn).mono fun e W' ⟨he, hx⟩ => ?_
  subst he
  exact ⟨_, rfl, law_post laidOut hW' rfl (by kernel_rfl) rfl rfl Tryd.underlying4 hx⟩

theorem StonePick_row : Rows.StonePickSaid :=
  OpenClaim.holds_of_wide 8 Tryd.f8 rfl rfl rfl rfl rfl rfl rfl ⟨rfl, rfl, rfl, rfl, rfl⟩ rfl rfl rfl rfl rfl (by kernel_rfl) Tryd.func8 (by kernel_rfl)
    (of_decide_eq_true (by kernel_rfl)) (by unfold Func.isWrapper; first | (rw [if_pos (by decide +kernel)]; kernel_rfl) | (rw [if_neg (by decide +kernel)]; exact ⟨rfl, rfl⟩))
    (fun os started H enc _ => StonePick_lifted os started H enc)

theorem StonePick_holds : Rows.StonePickCardSaid :=
  Claim7.holds_tied_plain_at .later [] [.funcs] true (true, "8e1b60563e50eb54d20515eb0691da71d47d458156fb6289e6c1c1a6afdea78e") false
    StonePick_row (fun _ h => by cases h) (by kernel_rfl) (fun _ h => by cases h) stonePick_row_tie rfl ⟨rfl, rfl⟩ (by kernel_rfl) rfl
    (fun f fn hf hfn => by
      obtain rfl : f = 8 := Option.some.inj ((show Tryd.prog.funcNamed "copestone/copestonelaw02.StonePick" = some 8 by kernel_rfl).symm.trans hf) |>.symm
      obtain rfl : fn = Tryd.f8 := (Option.some.inj (Tryd.func8.symm.trans hfn)).symm
      exact ⟨by kernel_rfl, fun j t ht => by
        rw [Tryd.params8] at ht
        have h3 : t = 26 := by
          rcases j with _ | j
          · simpa using ht.symm
          · simp at ht
        subst h3
        exact (show Tryd.prog.wantsStandIn 26 = false by kernel_rfl)⟩)
    (by kernel_rfl)
end Go.Proofs.YtahahmelnaphjaaDoor
