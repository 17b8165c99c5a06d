/- The law FieldShuts returns true for every input, and its arguments read as before. -/
import Derived.Test.YteepmmghanbllaaGreatDoorTie
import Derived.Test.YteepmmghanbllaaGreatDoorCards
import Derived.SevenTiedAt
import Derived.Test.YteepmmghanbllaaGreatDoorFxA
import Derived.Test.YteepmmghanbllaaGreatDoorFx10
namespace Go.Proofs.YteepmmghanbllaaGreatDoor
open Go Go.K Go.Stn Go.Pln Go.Fld Go.ChangeShapes Go.WideShapes Go.ChangeAt Go.RowKit

theorem wok_of {H : Type} {ts : List TypeId} {ds : List (DataW H)} (h : (DataW.weightsEach Tryz.prog ts ds).all (· ≤ reachBytes) = true) (i : Nat) {t : TypeId} {d : DataW H} (ht : ts[i]? = some t) (hd : ds[i]? = some d) : WOk Tryz.prog t d :=
  wok_each (fun n hn => by simpa using List.all_eq_true.1 h n hn) i t d ht hd
set_option maxRecDepth 100000 in
theorem FieldShuts_lifted (os : Os) (started : os.Started) (H : Type) (enc : TypeId × Value → H) :
    ReturnsInHanded {} Tryz.checked os 8 .any (fun w args => (Rows.fieldShutsSpec.pre enc Tryz.prog Tryz.f8 [] false w args ∧ laidMetH Tryz.prog laidR w) ∧ sizedMet enc Tryz.prog Tryz.f8 (OpenSpec.ofChange Rows.fieldShutsSpec) false w args)
      (Rows.fieldShutsSpec.post enc Tryz.prog Tryz.f8 false true false false) := by
  refine returnsInHanded_of_change_and_shaped (C := Tryz.checked) (X := fun w _ => laidMetH Tryz.prog laidR w) (fun _ _ _ hh h => h.of_heap hh) own started (by kernel_rfl) Tryz.func8
    (ChangeSpec.witness_shaped (enc := enc) (C := Tryz.checked) (os := os) (X := fun w _ => laidMetH Tryz.prog laidR w) false (worldR os) #[.agg #[.slice none 0 0, .slice none 0 0, .slice none 0 0, .slice none 0 0, .int .i64 0, .int .i64 0, .int .i64 0, .int .i64 0, .int .i64 0], .int .i64 0, .int .i64 0, .slice none 0 0, .slice none 0 0] 8 (worldR_os os) (World.shaped_of_RefB (by kernel_rfl) (by kernel_rfl)) (by kernel_rfl) (by kernel_rfl) (by kernel_rfl) (door_metR os _)) ?_
  intro W base args ds gs before hval0 hW _ hZ0 hL hsh
  have hval : ∀ (j : Nat) t v, Tryz.f8.params[j]? = some t → args[j]? = some v → Value.okWide Tryz.prog W .any base t v := hval0
  have hW' := hW
  obtain ⟨p, q, hA0, hV, rfl, hfz, hnd⟩ := hW
  have hA : DataW.TrodAll enc Tryz.prog W 0 (fun _ => true) true Tryz.f8.params.toList args.toList ds p := hA0
  rw [Tryz.params8] at hA hval
  obtain ⟨v0, v1, v2, v3, v4, d0, d1, d2, d3, d4, p0, p1, p2, p3, p4, rfl, rfl, rfl, h0, h1, h2, h3, h4⟩ := trodAll_five hA
  obtain ⟨rfl, rfl⟩ := trodVars_none hV
  have hZ : (DataW.weightsEach Tryz.prog [33, 3, 3, 45, 75] [d0, d1, d2, d3, d4]).all (· ≤ reachBytes) = true := by
    rw [Tryz.params8] at hZ0
    exact hZ0
  obtain ⟨a0, cap0, S, b0, bcap0, V, ca0, ccap0, cs, ba0, bcp0, bs, x, hp, hm, rfl⟩ := open_scene (hval 0 33 v0 rfl rfl) h0 (wok_of hZ 0 rfl rfl)
  obtain ⟨z1, hz1, rfl⟩ := open_i64 (hval 1 3 v1 rfl rfl) h1
  obtain ⟨z2, hz2, rfl⟩ := open_i64 (hval 2 3 v2 rfl rfl) h2
  obtain ⟨pa3, pcap3, pen3, hpn3, rfl⟩ := open_ints (hval 3 45 v3 rfl rfl) h3 (wok_of hZ 3 rfl rfl)
  obtain ⟨ka4, kc4, WK4, hwk4, hws4, rfl⟩ := open_walks (hval 4 75 v4 rfl rfl) h4 (wok_of hZ 4 rfl rfl)
  refine (FieldShuts_c a0 cap0 S b0 bcap0 V ca0 ccap0 cs ba0 bcp0 bs x z1 z2 pa3 pcap3 pen3 ka4 kc4 WK4 W hp.hl hp.hs hp.hlw hp.hsw (fun z hz => (hp.hS z hz).hts) (fun z hz => (hp.hS z hz).num) (fun z hz => (hp.hV z hz).ops) (fun z hz => (hp.hV z hz).num) (fun z hz => (hp.hS z hz).fits) hm.hc hm.hcn hm.hbd hm.hbn hp.hcS (fun z hz => (hp.hV z hz).cap) (fun z hz => (hp.hV z hz).knd) (fun z hz => (hp.hV z hz).fits) (fun z hz => (hp.hS z hz).cope) hm.hcf hm.hcap (int_of_shape hsh) (copes_of_laid hL (by simp [laidR, Rows.fieldCrossesRow])) (opens_of_laid hL (by simp [laidR, Rows.fieldCrossesRow])) hpn3 hwk4 hws4).mono fun e W' ⟨he, hx⟩ => ?_
  subst he
  exact ⟨_, rfl, law_post laidOut hW' rfl (by kernel_rfl) rfl rfl Tryz.underlying4 (by first | exact hx | (rw [hx]; exact Ext.refl _) | (subst hx; exact Ext.refl _))⟩

theorem FieldShuts_row : Rows.FieldShutsSaid :=
  OpenClaim.holds_of_wide 8 Tryz.f8 rfl rfl rfl rfl rfl rfl rfl ⟨rfl, rfl, rfl, rfl, rfl⟩ rfl rfl rfl rfl rfl (by kernel_rfl) Tryz.func8 FieldShuts_facts
    (of_decide_eq_true (by kernel_rfl)) (by unfold Func.isWrapper; first | (rw [if_pos (by decide +kernel)]; kernel_rfl) | (rw [if_neg (by decide +kernel)]; exact ⟨rfl, rfl⟩))
    (fun os started H enc _ => FieldShuts_lifted os started H enc)

theorem FieldShuts_holds : Rows.FieldShutsCardSaid :=
  Claim7.holds_tied_plain_at .later [] [.data, .data, .data, .data, .sentinel, .sentinel, .widerDeep, .widerDeep, .pinned] true (true, "165a4330edc68444c0f5ca76f76230199d554ce0a9ea9f7a1383eee7b69690c3") true
    FieldShuts_row (fun _ h => by cases h) (by kernel_rfl) (fun _ h => by cases h) fieldShuts_row_tie rfl ⟨rfl, rfl⟩ (by kernel_rfl) rfl
    (fun f fn hf hfn => by
      obtain rfl : f = 8 := Option.some.inj ((show Tryz.prog.funcNamed "copestone/copestonelaw09.FieldShuts" = some 8 by kernel_rfl).symm.trans hf) |>.symm
      obtain rfl : fn = Tryz.f8 := (Option.some.inj (Tryz.func8.symm.trans hfn)).symm
      exact ⟨by kernel_rfl, fun j t ht => by
        rw [Tryz.params8] at ht
        rcases j with _ | _ | _ | _ | _ | j
        · exact (show t = 33 by simpa using ht.symm) ▸ (show Tryz.prog.wantsStandIn 33 = false by kernel_rfl)
        · exact (show t = 3 by simpa using ht.symm) ▸ (show Tryz.prog.wantsStandIn 3 = false by kernel_rfl)
        · exact (show t = 3 by simpa using ht.symm) ▸ (show Tryz.prog.wantsStandIn 3 = false by kernel_rfl)
        · exact (show t = 45 by simpa using ht.symm) ▸ (show Tryz.prog.wantsStandIn 45 = false by kernel_rfl)
        · exact (show t = 75 by simpa using ht.symm) ▸ (show Tryz.prog.wantsStandIn 75 = false by kernel_rfl)
        · simp at ht⟩)
    (by kernel_rfl)
end Go.Proofs.YteepmmghanbllaaGreatDoor
