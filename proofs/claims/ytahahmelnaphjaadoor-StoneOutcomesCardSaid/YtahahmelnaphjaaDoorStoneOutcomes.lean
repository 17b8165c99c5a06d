/- The law StoneOutcomes returns true for every input, and its arguments read as before. -/
import Derived.Test.YtahahmelnaphjaaDoorR2
import Derived.Test.YtahahmelnaphjaaDoorW21
import Derived.Test.YtahahmelnaphjaaDoorTie
import Derived.Test.YtahahmelnaphjaaDoorCards
import Derived.SevenTiedAt
namespace Go.Proofs.YtahahmelnaphjaaDoor
open Go Go.K Go.Stn Go.ChangeShapes Go.WideShapes Go.ChangeAt Go.RowKit

set_option maxRecDepth 100000 in
theorem StoneOutcomes_lifted (os : Os) (started : os.Started) (H : Type) (enc : TypeId × Value → H) :
    ReturnsInHanded {} Tryd.checked os 10 .any (fun w args => (Rows.stoneOutcomesSpec.pre enc Tryd.prog Tryd.f10 [] false w args ∧ laidMetH Tryd.prog laid1 w) ∧ sizedMet enc Tryd.prog Tryd.f10 (OpenSpec.ofChange Rows.stoneOutcomesSpec) false w args)
      (Rows.stoneOutcomesSpec.post enc Tryd.prog Tryd.f10 false true false false) := by
  refine returnsInHanded_of_change_and (C := Tryd.checked) (X := fun w _ => laidMetH Tryd.prog laid1 w) (fun _ _ _ hh h => h.of_heap hh) own started (by kernel_rfl) Tryd.func10
    (ChangeSpec.witness_shaped (enc := enc) (C := Tryd.checked) (os := os) (X := fun w _ => laidMetH Tryd.prog laid1 w) false (World.doorLaid Tryd.prog 400 os) #[zeroStone, .agg #[.int .i64 0, .int .i64 0], .int .i64 0] 8 rfl (World.shaped_of_RefB (by kernel_rfl) (by kernel_rfl)) (by kernel_rfl) (by kernel_rfl) (by kernel_rfl) (door_met os _)) ?_
  intro W base args ds gs before hval0 hW _ hZ hL _
  have hval : ∀ (j : Nat) t v, Tryd.f10.params[j]? = some t → args[j]? = some v → Value.okWide Tryd.prog W .any base t v := hval0
  have hW' := hW
  obtain ⟨p, q, hA0, hV, rfl, hfz, hnd⟩ := hW
  have hA : DataW.TrodAll enc Tryd.prog W 0 (fun _ => true) true Tryd.f10.params.toList args.toList ds p := hA0
  rw [Tryd.params10] at hA hval
  obtain ⟨v0, v1, v2, d0, d1, d2, p0, p1, p2, rfl, rfl, rfl, h0, h1, h2⟩ := trodAll_three hA
  obtain ⟨rfl, rfl⟩ := trodVars_none hV
  have hZ0 : (DataW.weightsEach Tryd.prog (26 :: [24, 3]) (d0 :: [d1, d2])).all (· ≤ reachBytes) = true := by
    rw [Tryd.params10] at hZ
    exact hZ
  obtain ⟨f0, f1, f2, f3, f4, fx, fz, T⟩ := stnT
  obtain ⟨gx, gz, T24⟩ := ptT
  obtain ⟨s, a, cap, hs0, hs, hcap, rfl⟩ := open_stone T (hval 0 26 v0 rfl rfl) h0
  have hn : Fits s.name.size := stone_fits T h0 hZ0
  obtain ⟨q1, hq1, rfl⟩ := open_point T24 (hval 1 24 v1 rfl rfl) h1
  obtain ⟨n2, rfl, rfl, rfl, wn2⟩ := open_int Tryd.underlying3 (hval 2 3 v2 rfl rfl) h2
  refine (StoneOutcomes_c a cap s q1 n2 W hs (of_laid hL) hn).mono fun e W' ⟨he, hx⟩ => ?_
  subst he
  exact ⟨_, rfl, law_post laidOut hW' rfl (by kernel_rfl) rfl rfl Tryd.underlying4 hx⟩

theorem StoneOutcomes_row : Rows.StoneOutcomesSaid :=
  OpenClaim.holds_of_wide 10 Tryd.f10 rfl rfl rfl rfl rfl rfl rfl ⟨rfl, rfl, rfl, rfl, rfl⟩ rfl rfl rfl rfl rfl (by kernel_rfl) Tryd.func10 (by kernel_rfl)
    (of_decide_eq_true (by kernel_rfl)) (by unfold Func.isWrapper; first | (rw [if_pos (by decide +kernel)]; kernel_rfl) | (rw [if_neg (by decide +kernel)]; exact ⟨rfl, rfl⟩))
    (fun os started H enc _ => StoneOutcomes_lifted os started H enc)

theorem StoneOutcomes_holds : Rows.StoneOutcomesCardSaid :=
  Claim7.holds_tied_plain_at .later [] [.funcs] true (true, "8e1b60563e50eb54d20515eb0691da71d47d458156fb6289e6c1c1a6afdea78e") false
    StoneOutcomes_row (fun _ h => by cases h) (by kernel_rfl) (fun _ h => by cases h) stoneOutcomes_row_tie rfl ⟨rfl, rfl⟩ (by kernel_rfl) rfl
    (fun f fn hf hfn => by
      obtain rfl : f = 10 := Option.some.inj ((show Tryd.prog.funcNamed "copestone/copestonelaw02.StoneOutcomes" = some 10 by kernel_rfl).symm.trans hf) |>.symm
      obtain rfl : fn = Tryd.f10 := (Option.some.inj (Tryd.func10.symm.trans hfn)).symm
      exact ⟨by kernel_rfl, fun j t ht => by
        rw [Tryd.params10] at ht
        have h3 : t = 3 ∨ t = 24 ∨ t = 26 := by
          rcases j with _ | _ | _ | j
          · exact (.inr (.inr (by simpa using ht.symm)))
          · exact (.inr (.inl (by simpa using ht.symm)))
          · exact (.inl (by simpa using ht.symm))
          · simp at ht
        rcases h3 with rfl | rfl | rfl
        · exact (show Tryd.prog.wantsStandIn 3 = false by kernel_rfl)
        · exact (show Tryd.prog.wantsStandIn 24 = false by kernel_rfl)
        · exact (show Tryd.prog.wantsStandIn 26 = false by kernel_rfl)⟩)
    (by kernel_rfl)
end Go.Proofs.YtahahmelnaphjaaDoor
