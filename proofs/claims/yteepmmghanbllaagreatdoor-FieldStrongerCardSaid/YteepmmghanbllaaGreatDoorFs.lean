/- The law FieldStronger returns true for every input, and its arguments read as before. -/
import Derived.Test.YteepmmghanbllaaGreatDoorTie
import Derived.Test.YteepmmghanbllaaGreatDoorCards
import Derived.SevenTiedAt
import Derived.Test.YteepmmghanbllaaGreatDoorFs9
namespace Go.Proofs.YteepmmghanbllaaGreatDoor
open Go Go.K Go.Stn Go.Pln Go.Fld Go.ChangeShapes Go.WideShapes Go.ChangeAt Go.RowKit

theorem wok_of {H : Type} {ts : List TypeId} {ds : List (DataW H)} (h : (DataW.weightsEach Tryz.prog ts ds).all (· ≤ reachBytes) = true) (i : Nat) {t : TypeId} {d : DataW H} (ht : ts[i]? = some t) (hd : ds[i]? = some d) : WOk Tryz.prog t d :=
  wok_each (fun n hn => by simpa using List.all_eq_true.1 h n hn) i t d ht hd
set_option maxRecDepth 100000 in
theorem FieldStronger_lifted (os : Os) (started : os.Started) (H : Type) (enc : TypeId × Value → H) :
    ReturnsInHanded {} Tryz.checked os 10 .any (fun w args => (Rows.fieldStrongerSpec.pre enc Tryz.prog Tryz.f10 [] false w args ∧ laidMetH Tryz.prog laidR w) ∧ sizedMet enc Tryz.prog Tryz.f10 (OpenSpec.ofChange Rows.fieldStrongerSpec) false w args)
      (Rows.fieldStrongerSpec.post enc Tryz.prog Tryz.f10 false true false false) := by
  refine returnsInHanded_of_change_and_shaped (C := Tryz.checked) (X := fun w _ => laidMetH Tryz.prog laidR w) (fun _ _ _ hh h => h.of_heap hh) own started (by kernel_rfl) Tryz.func10
    (ChangeSpec.witness_shaped (enc := enc) (C := Tryz.checked) (os := os) (X := fun w _ => laidMetH Tryz.prog laidR w) false (worldR os) #[.agg #[.slice none 0 0, .slice none 0 0, .slice none 0 0, .slice none 0 0, .int .i64 0, .int .i64 0, .int .i64 0, .int .i64 0, .int .i64 0], .int .i64 0, .agg #[.int .u8 0, .int .u8 0, .int .u8 0, .int .u8 0, .int .u8 0]] 8 (worldR_os os) (World.shaped_of_RefB (by kernel_rfl) (by kernel_rfl)) (by kernel_rfl) (by kernel_rfl) (by kernel_rfl) (door_metR os _)) ?_
  intro W base args ds gs before hval0 hW _ hZ0 hL hsh
  have hval : ∀ (j : Nat) t v, Tryz.f10.params[j]? = some t → args[j]? = some v → Value.okWide Tryz.prog W .any base t v := hval0
  have hW' := hW
  obtain ⟨p, q, hA0, hV, rfl, hfz, hnd⟩ := hW
  have hA : DataW.TrodAll enc Tryz.prog W 0 (fun _ => true) true Tryz.f10.params.toList args.toList ds p := hA0
  rw [Tryz.params10] at hA hval
  obtain ⟨v0, v1, v2, d0, d1, d2, p0, p1, p2, rfl, rfl, rfl, h0, h1, h2⟩ := trodAll_three hA
  obtain ⟨rfl, rfl⟩ := trodVars_none hV
  have hZ : (DataW.weightsEach Tryz.prog [33, 3, 87] [d0, d1, d2]).all (· ≤ reachBytes) = true := by
    rw [Tryz.params10] at hZ0
    exact hZ0
  obtain ⟨a0, cap0, S, b0, bcap0, V, ca0, ccap0, cs, ba0, bcp0, bs, x, hp, hm, rfl⟩ := open_scene (hval 0 33 v0 rfl rfl) h0 (wok_of hZ 0 rfl rfl)
  obtain ⟨z1, hz1, rfl⟩ := open_i64 (hval 1 3 v1 rfl rfl) h1
  obtain ⟨m0, m1, m2, m3, m4, q0, q1, q2, q3, q4, rfl⟩ := open_m5 (hval 2 87 v2 rfl rfl) h2
  refine (FieldStronger_c a0 cap0 S b0 bcap0 V ca0 ccap0 cs ba0 bcp0 bs x z1 m0 m1 m2 m3 m4 W hp.hl hp.hs hp.hlw hp.hsw (fun z hz => (hp.hS z hz).hts) (fun z hz => (hp.hS z hz).num) (fun z hz => (hp.hV z hz).ops) (fun z hz => (hp.hV z hz).num) (fun z hz => (hp.hS z hz).fits) hm.hc hm.hcn hm.hbd hm.hbn hp.hcS (fun z hz => (hp.hV z hz).cap) (fun z hz => (hp.hV z hz).knd) (fun z hz => (hp.hV z hz).fits) (fun z hz => (hp.hS z hz).cope) hm.hcf hm.hcap (int_of_shape hsh) (copes_of_laid hL (by simp [laidR, Rows.fieldCrossesRow])) (opens_of_laid hL (by simp [laidR, Rows.fieldCrossesRow])) q0 q1 q2 q3 q4).mono fun e W' ⟨he, hx⟩ => ?_
  subst he
  exact ⟨_, rfl, law_post laidOut hW' rfl (by kernel_rfl) rfl rfl Tryz.underlying4 (by first | exact hx | (rw [hx]; exact Ext.refl _) | (subst hx; exact Ext.refl _))⟩

theorem FieldStronger_j1 : (Rows.fieldStrongerRow.inPlace == Tryz.prog.inPlace 10) = true := by kernel_rfl
theorem FieldStronger_j2 : (Rows.fieldStrongerRow.unfollowed == Tryz.prog.unfollowed 10) = true := by kernel_rfl
theorem FieldStronger_j3 : (Rows.fieldStrongerRow.recurses == Tryz.prog.recurses 10) = true := by kernel_rfl
theorem FieldStronger_j4 : (Rows.fieldStrongerRow.named == Tryz.prog.varsNamed 10) = true := by kernel_rfl
theorem FieldStronger_facts : joinedFacts Tryz.pinned.checked.prog 10 Tryz.f10 Rows.fieldStrongerSpec Rows.fieldStrongerRow = true :=
  and_t (and_t (and_t (and_t (and_t (and_t (and_t (and_t (and_t (and_t (and_t (and_t (and_t (and_t (and_t (and_t (and_t (and_t (and_t (and_t (and_t (and_t (and_t (and_t (and_t (and_t (and_t (and_t (and_t (and_t (and_t (by kernel_rfl) laidOut) jf_maps) (by kernel_rfl)) (by kernel_rfl)) (by kernel_rfl)) jf_stops) (by kernel_rfl)) jf_knobs) FieldStronger_j1) FieldStronger_j2) FieldStronger_j3) FieldStronger_j4) (by kernel_rfl)) (by kernel_rfl)) (by kernel_rfl)) (by kernel_rfl)) (by kernel_rfl)) (by kernel_rfl)) (by kernel_rfl)) (by kernel_rfl)) (by kernel_rfl)) jf_keys) (by kernel_rfl)) jf_heard) jf_enter) jf_final) jf_make) (by kernel_rfl)) (by kernel_rfl)) (by kernel_rfl)) (by kernel_rfl)

theorem FieldStronger_row : Rows.FieldStrongerSaid :=
  OpenClaim.holds_of_wide 10 Tryz.f10 rfl rfl rfl rfl rfl rfl rfl ⟨rfl, rfl, rfl, rfl, rfl⟩ rfl rfl rfl rfl rfl (by kernel_rfl) Tryz.func10 FieldStronger_facts
    (of_decide_eq_true (by kernel_rfl)) (by unfold Func.isWrapper; first | (rw [if_pos (by decide +kernel)]; kernel_rfl) | (rw [if_neg (by decide +kernel)]; exact ⟨rfl, rfl⟩))
    (fun os started H enc _ => FieldStronger_lifted os started H enc)

theorem FieldStronger_holds : Rows.FieldStrongerCardSaid :=
  Claim7.holds_tied_plain_at .later [] [.data, .data, .data, .data, .sentinel, .sentinel, .widerDeep, .widerDeep, .pinned] true (true, "165a4330edc68444c0f5ca76f76230199d554ce0a9ea9f7a1383eee7b69690c3") true
    FieldStronger_row (fun _ h => by cases h) (by kernel_rfl) (fun _ h => by cases h) fieldStronger_row_tie rfl ⟨rfl, rfl⟩ (by kernel_rfl) rfl
    (fun f fn hf hfn => by
      obtain rfl : f = 10 := Option.some.inj ((show Tryz.prog.funcNamed "copestone/copestonelaw09.FieldStronger" = some 10 by kernel_rfl).symm.trans hf) |>.symm
      obtain rfl : fn = Tryz.f10 := (Option.some.inj (Tryz.func10.symm.trans hfn)).symm
      exact ⟨by kernel_rfl, fun j t ht => by
        rw [Tryz.params10] at ht
        rcases j with _ | _ | _ | j
        · exact (show t = 33 by simpa using ht.symm) ▸ (show Tryz.prog.wantsStandIn 33 = false by kernel_rfl)
        · exact (show t = 3 by simpa using ht.symm) ▸ (show Tryz.prog.wantsStandIn 3 = false by kernel_rfl)
        · exact (show t = 87 by simpa using ht.symm) ▸ (show Tryz.prog.wantsStandIn 87 = false by kernel_rfl)
        · simp at ht⟩)
    (by kernel_rfl)
end Go.Proofs.YteepmmghanbllaaGreatDoor
