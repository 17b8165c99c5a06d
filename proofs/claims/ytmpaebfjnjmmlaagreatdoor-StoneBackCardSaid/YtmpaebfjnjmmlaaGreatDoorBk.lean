/- The law StoneBack returns true for every input, and its argument reads as before. -/
import Derived.Test.YtmpaebfjnjmmlaaGreatDoorTie
import Derived.Test.YtmpaebfjnjmmlaaGreatDoorCards
import Derived.SevenTiedAt
import Derived.Test.YtmpaebfjnjmmlaaGreatDoorBk5
namespace Go.Proofs.YtmpaebfjnjmmlaaGreatDoor
open Go Go.K Go.Stn Go.ChangeShapes Go.WideShapes Go.ChangeAt Go.RowKit
set_option maxRecDepth 100000 in
theorem StoneBack_lifted (os : Os) (started : os.Started) (H : Type) (enc : TypeId × Value → H) :
    ReturnsInHanded {} Tryz.checked os 5 .any (fun w args => (Rows.stoneBackSpec.pre enc Tryz.prog Tryz.f5 [] false w args ∧ laidMetH Tryz.prog laidR w) ∧ sizedMet enc Tryz.prog Tryz.f5 (OpenSpec.ofChange Rows.stoneBackSpec) false w args)
      (Rows.stoneBackSpec.post enc Tryz.prog Tryz.f5 false true false false) := by
  refine returnsInHanded_of_change_and_shaped (C := Tryz.checked) (X := fun w _ => laidMetH Tryz.prog laidR w) (fun _ _ _ hh h => h.of_heap hh) own started (by kernel_rfl) Tryz.func5
    (ChangeSpec.witness_shaped (enc := enc) (C := Tryz.checked) (os := os) (X := fun w _ => laidMetH Tryz.prog laidR w) false (worldR os) #[.slice none 0 0] 8 (worldR_os os) (World.shaped_of_RefB (by kernel_rfl) (by kernel_rfl)) (by kernel_rfl) (by kernel_rfl) (by kernel_rfl) (door_metR os _)) ?_
  intro W base args ds gs before hval0 hW _ hZ hL hsh
  have hval : ∀ (j : Nat) t v, Tryz.f5.params[j]? = some t → args[j]? = some v → Value.okWide Tryz.prog W .any base t v := hval0
  have hW' := hW
  obtain ⟨p, q, hA0, hV, rfl, hfz, hnd⟩ := hW
  have hA : DataW.TrodAll enc Tryz.prog W 0 (fun _ => true) true Tryz.f5.params.toList args.toList ds p := hA0
  rw [Tryz.params5] at hA hval
  obtain ⟨v0, d0, rfl, rfl, h0⟩ := trodAll_one hA
  obtain ⟨rfl, rfl⟩ := trodVars_none hV
  have hZ0 : (d0.weights Tryz.prog 22).all (· ≤ reachBytes) = true := by
    rw [Tryz.params5] at hZ
    have he : DataW.weightsEach Tryz.prog [22] [d0] = d0.weights Tryz.prog 22 := by simp [DataW.weightsEach]
    rw [← he]; exact hZ
  obtain ⟨f0, f1, f2, f3, f4, fx, fz, T⟩ := stnT
  obtain ⟨a0, n0, c0, rfl⟩ := okWide_slice Tryz.underlying22 (hval 0 22 v0 rfl rfl)
  obtain ⟨fuel, hf⟩ := h0
  obtain ⟨a, L, cap, hcs, hl, hcap, hsl, hin, hfits, hbig⟩ := open_stsB Tryz.underlying22 T (by kernel_rfl) hf hZ0
  obtain ⟨rfl, rfl, rfl⟩ : a0 = a ∧ n0 = L.length ∧ c0 = cap := by simpa [Value.cells] using hcs
  refine (StoneBack_c a0 c0 L W hl hsl hbig hfits (of_laid hL (by simp [laidR, Rows.stoneReadsRow])) (int_of_shape hsh) (err3_of_laid hL (by simp [laidR, Rows.stoneReadsRow])) (err4_of_laid hL (by simp [laidR, Rows.stoneReadsRow])) (pow10_of_laid hL (by simp [laidR, Rows.stoneReadsRow]))).mono fun e W' ⟨he, hx⟩ => ?_
  subst he
  exact ⟨_, rfl, law_post laidOut hW' rfl (by kernel_rfl) rfl rfl Tryz.underlying4 hx⟩

theorem StoneBack_row : Rows.StoneBackSaid :=
  OpenClaim.holds_of_wide 5 Tryz.f5 rfl rfl rfl rfl rfl rfl rfl ⟨rfl, rfl, rfl, rfl, rfl⟩ rfl rfl rfl rfl rfl (by kernel_rfl) Tryz.func5 (by kernel_rfl)
    (of_decide_eq_true (by kernel_rfl)) (by unfold Func.isWrapper; first | (rw [if_pos (by decide +kernel)]; kernel_rfl) | (rw [if_neg (by decide +kernel)]; exact ⟨rfl, rfl⟩))
    (fun os started H enc _ => StoneBack_lifted os started H enc)

theorem StoneBack_holds : Rows.StoneBackCardSaid :=
  Claim7.holds_tied_plain_at .later [] [.data, .data, .data, .data, .sentinel, .sentinel, .funcs, .pinned] true (true, "7a72ea7bc6ccba47eefaa7c691c6f9315c83f8fbadb287a6c4b8b13d64d73afd") true
    StoneBack_row (fun _ h => by cases h) (by kernel_rfl) (fun _ h => by cases h) stoneBack_row_tie rfl ⟨rfl, rfl⟩ (by kernel_rfl) rfl
    (fun f fn hf hfn => by
      obtain rfl : f = 5 := Option.some.inj ((show Tryz.prog.funcNamed "copestone/copestonelaw02.StoneBack" = some 5 by kernel_rfl).symm.trans hf) |>.symm
      obtain rfl : fn = Tryz.f5 := (Option.some.inj (Tryz.func5.symm.trans hfn)).symm
      exact ⟨by kernel_rfl, fun j t ht => by
        rw [Tryz.params5] at ht
        have h3 : t = 22 := by
          rcases j with _ | j
          · simpa using ht.symm
          · simp at ht
        subst h3
        exact (show Tryz.prog.wantsStandIn 22 = false by kernel_rfl)⟩)
    (by kernel_rfl)
end Go.Proofs.YtmpaebfjnjmmlaaGreatDoor
