/- The law StoneGrain returns true for every input, and its arguments read as before. -/
import Derived.Test.YtahahmelnaphjaaDoorTie
import Derived.Test.YtahahmelnaphjaaDoorCards
import Derived.SevenTiedAt
import Derived.Test.YtahahmelnaphjaaDoorGn4
namespace Go.Proofs.YtahahmelnaphjaaDoor
open Go Go.K Go.Stn Go.ChangeShapes Go.WideShapes Go.ChangeAt Go.RowKit

set_option maxRecDepth 100000 in
theorem StoneGrain_lifted (os : Os) (started : os.Started) (H : Type) (enc : TypeId × Value → H) :
    ReturnsInHanded {} Tryd.checked os 11 .any (fun w args => (Rows.stoneGrainSpec.pre enc Tryd.prog Tryd.f11 [] false w args ∧ laidMetH Tryd.prog laid1 w) ∧ sizedMet enc Tryd.prog Tryd.f11 (OpenSpec.ofChange Rows.stoneGrainSpec) false w args)
      (Rows.stoneGrainSpec.post enc Tryd.prog Tryd.f11 false true false false) := by
  refine returnsInHanded_of_change_and (C := Tryd.checked) (X := fun w _ => laidMetH Tryd.prog laid1 w) (fun _ _ _ hh h => h.of_heap hh) own started (by kernel_rfl) Tryd.func11
    (ChangeSpec.witness_shaped (enc := enc) (C := Tryd.checked) (os := os) (X := fun w _ => laidMetH Tryd.prog laid1 w) false (World.doorLaid Tryd.prog 400 os) #[zeroStone, .int .i64 0, .int .u8 0, .int .u8 0] 8 rfl (World.shaped_of_RefB (by kernel_rfl) (by kernel_rfl)) (by kernel_rfl) (by kernel_rfl) (by kernel_rfl) (door_met os _)) ?_
  intro W base args ds gs before hval0 hW _ hZ hL _
  have hval : ∀ (j : Nat) t v, Tryd.f11.params[j]? = some t → args[j]? = some v → Value.okWide Tryd.prog W .any base t v := hval0
  have hW' := hW
  obtain ⟨p, q, hA0, hV, rfl, hfz, hnd⟩ := hW
  have hA : DataW.TrodAll enc Tryd.prog W 0 (fun _ => true) true Tryd.f11.params.toList args.toList ds p := hA0
  rw [Tryd.params11] at hA hval
  obtain ⟨v0, vs0, d0, ds0, p0, q0, ea0, ed0, ep0, h0, hA⟩ := trodAll_cons hA
  obtain ⟨v1, vs1, d1, ds1, p1, q1, rfl, rfl, rfl, h1, hA⟩ := trodAll_cons hA
  obtain ⟨v2, vs2, d2, ds2, p2, q2, rfl, rfl, rfl, h2, hA⟩ := trodAll_cons hA
  obtain ⟨v3, vs3, d3, ds3, p3, q3, rfl, rfl, rfl, h3, hA⟩ := trodAll_cons hA
  obtain ⟨rfl, rfl, rfl⟩ := trodAll_nil hA
  obtain rfl : args = #[v0, v1, v2, v3] := by cases args; simp_all
  subst ed0 ep0
  obtain ⟨rfl, rfl⟩ := trodVars_none hV
  have hZ0 : (DataW.weightsEach Tryd.prog (26 :: [3, 5, 5]) (d0 :: [d1, d2, d3])).all (· ≤ reachBytes) = true := by
    rw [Tryd.params11] at hZ
    exact hZ
  obtain ⟨f0, f1, f2, f3, f4, fx, fz, T⟩ := stnT
  obtain ⟨s, a, cap, hs0, hs, hcap, rfl⟩ := open_stone T (hval 0 26 v0 rfl rfl) h0
  have hn : Fits s.name.size := stone_fits T h0 hZ0
  obtain ⟨n1, rfl, rfl, rfl, wn1⟩ := open_int Tryd.underlying3 (hval 1 3 v1 rfl rfl) h1
  obtain ⟨n2, rfl, rfl, rfl, wn2⟩ := open_int Tryd.underlying5 (hval 2 5 v2 rfl rfl) h2
  obtain ⟨n3, rfl, rfl, rfl, wn3⟩ := open_int Tryd.underlying5 (hval 3 5 v3 rfl rfl) h3
  refine (StoneGrain_c a cap s n1 n2 n3 W hs (of_laid hL) hn (bounds_u8 wn2).1 (bounds_u8 wn3).1).mono fun e W' ⟨he, hx⟩ => ?_
  subst he
  exact ⟨_, rfl, law_post laidOut hW' rfl (by kernel_rfl) rfl rfl Tryd.underlying4 hx⟩

theorem StoneGrain_row : Rows.StoneGrainSaid :=
  OpenClaim.holds_of_wide 11 Tryd.f11 rfl rfl rfl rfl rfl rfl rfl ⟨rfl, rfl, rfl, rfl, rfl⟩ rfl rfl rfl rfl rfl (by kernel_rfl) Tryd.func11 (by kernel_rfl)
    (of_decide_eq_true (by kernel_rfl)) (by unfold Func.isWrapper; first | (rw [if_pos (by decide +kernel)]; kernel_rfl) | (rw [if_neg (by decide +kernel)]; exact ⟨rfl, rfl⟩))
    (fun os started H enc _ => StoneGrain_lifted os started H enc)

theorem StoneGrain_holds : Rows.StoneGrainCardSaid :=
  Claim7.holds_tied_plain_at .later [] [.funcs] true (true, "8e1b60563e50eb54d20515eb0691da71d47d458156fb6289e6c1c1a6afdea78e") false
    StoneGrain_row (fun _ h => by cases h) (by kernel_rfl) (fun _ h => by cases h) stoneGrain_row_tie rfl ⟨rfl, rfl⟩ (by kernel_rfl) rfl
    (fun f fn hf hfn => by
      obtain rfl : f = 11 := Option.some.inj ((show Tryd.prog.funcNamed "copestone/copestonelaw02.StoneGrain" = some 11 by kernel_rfl).symm.trans hf) |>.symm
      obtain rfl : fn = Tryd.f11 := (Option.some.inj (Tryd.func11.symm.trans hfn)).symm
      exact ⟨by kernel_rfl, fun j t ht => by
        rw [Tryd.params11] at ht
        have h3 : t = 3 ∨ t = 5 ∨ t = 26 := by
          rcases j with _ | _ | _ | _ | j
          · exact (.inr (.inr (by simpa using ht.symm)))
          · exact (.inl (by simpa using ht.symm))
          · exact (.inr (.inl (by simpa using ht.symm)))
          · exact (.inr (.inl (by simpa using ht.symm)))
          · simp at ht
        rcases h3 with rfl | rfl | rfl
        · exact (show Tryd.prog.wantsStandIn 3 = false by kernel_rfl)
        · exact (show Tryd.prog.wantsStandIn 5 = false by kernel_rfl)
        · exact (show Tryd.prog.wantsStandIn 26 = false by kernel_rfl)⟩)
    (by kernel_rfl)
end Go.Proofs.YtahahmelnaphjaaDoor
