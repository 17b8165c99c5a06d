/- Walks: the laws StoneTurns and StoneBorders. No statement of the seat is proved in this text. -/
import Derived.Test.YtahahmelnaphjaaDoorW14
import Derived.Test.YtahahmelnaphjaaDoorL2
import Derived.Test.YtahahmelnaphjaaDoorL3
namespace Go.Proofs.YtahahmelnaphjaaDoor
open Go.K Go.Stn Go.RowKit
theorem en20 : En Tryd.prog 20 := en_of Tryd.func20 (by kernel_rfl) (by kernel_rfl)
theorem en21 : En Tryd.prog 21 := en_of Tryd.func21 (by kernel_rfl) (by kernel_rfl)
theorem en22 : En Tryd.prog 22 := en_of Tryd.func22 (by kernel_rfl) (by kernel_rfl)
theorem en25 : En Tryd.prog 25 := en_of Tryd.func25 (by kernel_rfl) (by kernel_rfl)

set_option maxRecDepth 100000 in
set_option maxHeartbeats 1000000 in
theorem StoneTurns_c (a : Option Addr) (cap : Nat) (s : Stn) (way : Int) (w : World) (hl : Has w (Pts a s.shape)) (hways : Has w (Elems (some ⟨0, 0, none⟩) 1 encVal [.func (.func 173) #[] #[], .func (.func 174) #[] #[], .func (.func 175) #[] #[], .func (.func 176) #[] #[]])) (hn : Fits s.name.size) :
    Calls Tryd.prog 4 #[.agg #[.string s.name, .slice a s.shape.length cap, .int .i64 s.depth, .int .i64 s.density, .int .i64 s.grain.x, .int .i64 s.grain.z], .int .i64 way] w (Pure (.bool true) w) := by
  refine calls_of_gk (vs := [_, _]) Tryd.func4 rfl rfl (Nat.le_of_ble_eq_true rfl) ?_
  refine gk_seq ?_
  refine gk_region ?_
  refine gk_yx rfl rfl (yx_box (vs := [_, _, _, _, _, _]) rfl rfl) fun b2 => ?_
  refine gk_y rfl rfl (y_assign rfl) ?_
  refine gk_nil (gk_sub (T' := [(1,_), (2,_), (4,_)]) ⟨rfl, rfl, rfl, trivial⟩ ?_)
  refine gk_seq ?_
  refine gk_seq ?_
  refine gk_region ?_
  refine gk_y rfl rfl (y_fieldAddr fo26_1 rfl) ?_
  refine gk_y rfl rfl (y_loadB1 0 tf22 rfl rfl rfl) ?_
  refine gk_y rfl rfl (y_lenS (Tryd.underlying22) rfl) ?_
  refine gk_y rfl rfl (y_gtr rfl rfl) ?_
  refine gk_nil (gk_sub (T' := [(1,_), (2,_), (4,_), (12,_)]) ⟨rfl, rfl, rfl, rfl, trivial⟩ ?_)
  refine gk_cond rfl (fun hc12 => ?_) (fun hc12 => ?_)
  · skip
    refine gk_seq ?_
    refine gk_region ?_
    refine gk_y rfl rfl (y_call en15 rfl (fun w hw => wakes_c w (Rd.has (Has.rd hways) hw))) ?_
    refine gk_y rfl rfl (y_assign rfl) ?_
    refine gk_nil (gk_sub (T' := [(1,_), (2,_), (4,_)]) ⟨rfl, rfl, rfl, trivial⟩ ?_)
    refine gk_ret ?_
    refine gk_pure (rv_one rfl (r1_tmp rfl)) ?_
    rfl
  · have hs : Small s.shape.length := by simp only [decide_eq_false_iff_not] at hc12; omega
    refine gk_skip ?_
    refine gk_seq ?_
    refine gk_region ?_
    refine gk_y rfl rfl (y_loadBA 0 tf26 rfl rfl (vs := [_, _, _, _, _, _]) rfl rfl) ?_
    refine gk_yx rfl rfl (yx_call en18 rfl (fun w hw => stone_c _ _ s w (Rd.has (Has.rd hl) hw) (by assumption))) fun p15 => ?_
    refine gk_yx rfl rfl (yx_alloc tf34 (zs := [_, _, _, _, _, _]) rfl) fun b5 => ?_
    refine gk_storeV 0 tf34 rfl rfl (vs := [_, _, _, _, _, _]) rfl rfl rfl rfl rfl ?_
    refine gk_nil (gk_sub (T' := [(1,_), (2,_), (4,_), (5,_)]) ⟨rfl, rfl, rfl, rfl, trivial⟩ ?_)
    refine gk_seq ?_
    refine gk_region ?_
    refine gk_y rfl rfl (y_loadBA 0 tf34 rfl rfl (vs := [_, _, _, _, _, _]) rfl rfl) ?_
    refine gk_y rfl rfl (y_move rfl) ?_
    refine gk_yx rfl rfl (yx_call en19 rfl (fun w hw => Turned_c _ _ s way w (has_row encPt_ok (hw.has (p := 1) rfl)) (by assumption) (Rd.has (Has.rd hways) hw))) fun p19 => ?_
    refine gk_y rfl rfl (y_move rfl) ?_
    refine gk_y rfl rfl (y_extract rfl rfl) ?_
    refine gk_y rfl rfl (y_extract rfl rfl) ?_
    refine gk_yx rfl rfl (yx_alloc tf34 (zs := [_, _, _, _, _, _]) rfl) fun b6 => ?_
    refine gk_storeV 0 tf34 rfl rfl (vs := [_, _, _, _, _, _]) rfl rfl rfl rfl rfl ?_
    refine gk_y rfl rfl (y_assign rfl) ?_
    refine gk_nil (gk_sub (T' := [(1,_), (2,_), (4,_), (5,_), (6,_), (7,_)]) ⟨rfl, rfl, rfl, rfl, rfl, rfl, trivial⟩ ?_)
    refine gk_seq ?_
    refine gk_region ?_
    refine gk_y rfl rfl (y_assign rfl) ?_
    refine gk_nil (gk_sub (T' := [(1,_), (2,_), (4,_), (5,_), (6,_), (7,_), (8,_)]) ⟨rfl, rfl, rfl, rfl, rfl, rfl, rfl, trivial⟩ ?_)
    refine gk_seq ?_
    refine gk_seq ?_
    refine gk_region ?_
    refine gk_y rfl rfl (y_loadBA 4 tf26 rfl rfl (vs := [_, _, _, _, _, _]) rfl rfl) ?_
    refine gk_y rfl rfl (y_call en16 rfl (fun w hw => rvalid_c _ _ s w (Rd.has (Has.rd hl) hw) (by assumption) (by assumption))) ?_
    refine gk_y rfl rfl (y_not rfl) ?_
    refine gk_nil (gk_sub (T' := [(1,_), (2,_), (4,_), (5,_), (6,_), (7,_), (8,_), (24,_)]) ⟨rfl, rfl, rfl, rfl, rfl, rfl, rfl, rfl, trivial⟩ ?_)
    refine gk_cond rfl (fun hc24 => ?_) (fun hc24 => ?_)
    · have hck : checkI s = 2 := by rw [check_valid, if_neg (by rw [show rvalidB s = false from by simpa using hc24]; exact Bool.false_ne_true)]
      have hE : turnedE s way = 2 := by rw [turnedE, if_pos (by rw [hck]; decide), hck]
      have hT := turned_bad hE (by decide)
      refine gk_region ?_
      refine gk_y rfl rfl (y_assign rfl) ?_
      refine gk_nil (gk_sub (T' := [(1,_), (2,_), (4,_), (5,_), (6,_), (7,_), (8,_)]) ⟨rfl, rfl, rfl, rfl, rfl, rfl, rfl, trivial⟩ ?_)
      refine gk_seq ?_
      refine gk_seq ?_
      refine gk_region ?_
      refine gk_y rfl rfl (y_move rfl) ?_
      refine gk_y rfl rfl (y_neq rfl rfl) ?_
      refine gk_nil (gk_sub (T' := [(1,_), (2,_), (4,_), (5,_), (6,_), (7,_), (8,_), (32,_)]) ⟨rfl, rfl, rfl, rfl, rfl, rfl, rfl, rfl, trivial⟩ ?_)
      refine gk_condT rfl ?_
      refine gk_seq ?_
      refine gk_any 11 (fun _ => mixed) (by kernel_rfl) ?_
      refine ph_y (y_move rfl) ?_
      refine ph_y (y_move rfl) ?_
      refine ph_y (y_eql rfl rfl) ?_
      refine ph_y (y_move rfl) ?_
      refine ph_gT rfl rfl (fun hgd => by (try rw [hgd]); exact (y_loadBA 0 tf34 rfl rfl (vs := [_, _, _, _, _, _]) rfl rfl)) ?_
      refine ph_gT rfl rfl (fun hgd => by (try rw [hgd]); exact (y_call (v := .bool (noneSB (turnedS s way))) en20 rfl (fun w hw => none_c _ _ (turnedS s way) w))) ?_
      refine ph_y (y_pickAnd rfl rfl rfl) ?_
      refine ph_y (y_move rfl) ?_
      refine ph_gT rfl rfl (fun hgd => by (try rw [hgd]); exact (y_call (v := .bool true) en15 rfl (fun w hw => wakes_c w (Rd.has (Has.rd hways) hw)))) ?_
      refine ph_y (y_pickAnd rfl rfl rfl) ?_
      refine ph_y (y_assign rfl) ?_
      refine gk_nil (gk_sub (T' := [(1,_), (2,_), (4,_), (5,_), (6,_), (7,_)]) ⟨rfl, rfl, rfl, rfl, rfl, rfl, trivial⟩ ?_)
      refine gk_ret ?_
      refine gk_pure (rv_one rfl (r1_tmp rfl)) ?_
      exact congrArg Value.bool (by rw [hE, hT]; decide +kernel)
    · have hck : checkI s = 0 := by rw [check_valid, if_pos (by simpa using hc24)]
      have hlen := check_len hck
      refine gk_seq ?_
      refine gk_any 6 (fun _ => mixed) (by kernel_rfl) ?_
      refine ph_y (y_move rfl) ?_
      refine ph_y (y_lss rfl rfl) ?_
      refine ph_y (y_move rfl) ?_
      refine ph_gF rfl rfl (fun hgd => by (try rw [hgd]); exact (y_move rfl)) ?_
      refine ph_gF rfl rfl (fun hgd => by (try rw [hgd]); exact (y_gtr rfl rfl)) ?_
      refine ph_y (y_pickOr rfl rfl rfl) ?_
      refine gk_nil (gk_sub (T' := [(1,_), (2,_), (4,_), (5,_), (6,_), (7,_), (8,_), (30,_)]) ⟨rfl, rfl, rfl, rfl, rfl, rfl, rfl, rfl, trivial⟩ ?_)
      refine gk_cond rfl (fun hc30 => ?_) (fun hc30 => ?_)
      · have hw7 : (decide (0 ≤ way) && decide (way ≤ 7)) = false := by simp at hc30 ⊢; omega
        have hE : turnedE s way = 3 := by rw [turnedE, if_neg (fun h => h hck), if_pos hw7]
        have hT := turned_bad hE (by decide)
        refine gk_region ?_
        refine gk_y rfl rfl (y_assign rfl) ?_
        refine gk_nil (gk_sub (T' := [(1,_), (2,_), (4,_), (5,_), (6,_), (7,_), (8,_)]) ⟨rfl, rfl, rfl, rfl, rfl, rfl, rfl, trivial⟩ ?_)
        refine gk_seq ?_
        refine gk_seq ?_
        refine gk_region ?_
        refine gk_y rfl rfl (y_move rfl) ?_
        refine gk_y rfl rfl (y_neq rfl rfl) ?_
        refine gk_nil (gk_sub (T' := [(1,_), (2,_), (4,_), (5,_), (6,_), (7,_), (8,_), (32,_)]) ⟨rfl, rfl, rfl, rfl, rfl, rfl, rfl, rfl, trivial⟩ ?_)
        refine gk_condT rfl ?_
        refine gk_seq ?_
        refine gk_any 11 (fun _ => mixed) (by kernel_rfl) ?_
        refine ph_y (y_move rfl) ?_
        refine ph_y (y_move rfl) ?_
        refine ph_y (y_eql rfl rfl) ?_
        refine ph_y (y_move rfl) ?_
        refine ph_gT rfl rfl (fun hgd => by (try rw [hgd]); exact (y_loadBA 0 tf34 rfl rfl (vs := [_, _, _, _, _, _]) rfl rfl)) ?_
        refine ph_gT rfl rfl (fun hgd => by (try rw [hgd]); exact (y_call (v := .bool (noneSB (turnedS s way))) en20 rfl (fun w hw => none_c _ _ (turnedS s way) w))) ?_
        refine ph_y (y_pickAnd rfl rfl rfl) ?_
        refine ph_y (y_move rfl) ?_
        refine ph_gT rfl rfl (fun hgd => by (try rw [hgd]); exact (y_call (v := .bool true) en15 rfl (fun w hw => wakes_c w (Rd.has (Has.rd hways) hw)))) ?_
        refine ph_y (y_pickAnd rfl rfl rfl) ?_
        refine ph_y (y_assign rfl) ?_
        refine gk_nil (gk_sub (T' := [(1,_), (2,_), (4,_), (5,_), (6,_), (7,_)]) ⟨rfl, rfl, rfl, rfl, rfl, rfl, trivial⟩ ?_)
        refine gk_ret ?_
        refine gk_pure (rv_one rfl (r1_tmp rfl)) ?_
        exact congrArg Value.bool (by rw [hE, hT]; decide +kernel)
      · have hway : 0 ≤ way ∧ way ≤ 7 := by simp at hc30; omega
        have h0 := hway.1
        have h7 := hway.2
        have hE : turnedE s way = 0 := by rw [turnedE, if_neg (fun h => h hck), if_neg (by rw [decide_eq_true h0, decide_eq_true h7]; decide)]
        have hR := rturned_eq hck h0 h7
        have hsm : Small (turnedS s way).shape.length := by rw [turned_good hE]; show (settledW (turnedL s way)).length ≤ _; rw [settled_len (by rw [turnedL_len]; omega), turnedL_len]; omega
        refine gk_skip ?_
        refine gk_seq ?_
        refine gk_seq ?_
        refine gk_region ?_
        refine gk_y rfl rfl (y_move rfl) ?_
        refine gk_y rfl rfl (y_neq rfl rfl) ?_
        refine gk_nil (gk_sub (T' := [(1,_), (2,_), (4,_), (5,_), (6,_), (7,_), (8,_), (32,_)]) ⟨rfl, rfl, rfl, rfl, rfl, rfl, rfl, rfl, trivial⟩ ?_)
        refine gk_condF rfl ?_
        refine gk_skip ?_
        refine gk_seq ?_
        refine gk_any 18 (fun _ => mixed) (by kernel_rfl) ?_
        refine ph_y (y_move rfl) ?_
        refine ph_y (y_castT (y_eql rfl rfl) (by exact decide_eq_true hE)) ?_
        refine ph_y (y_move rfl) ?_
        refine ph_gk rfl rfl (y_loadBA 0 tf34 rfl rfl (vs := [_, _, _, _, _, _]) rfl rfl) ?_
        refine ph_gk rfl rfl (y_loadBA 4 tf26 rfl rfl (vs := [_, _, _, _, _, _]) rfl rfl) ?_
        refine ph_gk rfl rfl (y_move rfl) ?_
        refine ph_gkx rfl rfl (yx_call en22 rfl (fun w hw => rturned_c _ _ s way w (Rd.has (Has.rd hl) hw) (by assumption) (by assumption) (by assumption) (by omega))) ?_
        refine ph_gk rfl rfl (fun p49 => y_castT (b := (sameSB (turnedS s way) (rturnedS s way))) (y_call en21 rfl (fun w hw => same_c _ _ (turnedS s way) _ _ (rturnedS s way) w (has_row encPt_ok (hw.has (p := 2) rfl)) (has_row encPt_ok (hw.has (p := 0) rfl)) (by first | assumption | omega))) (by exact same_of hR)) ?_
        refine ph_y (y_pick rfl rfl rfl) ?_
        refine ph_y (y_move rfl) ?_
        refine ph_gk rfl rfl (y_loadBA 2 tf34 rfl rfl (vs := [_, _, _, _, _, _]) rfl rfl) ?_
        refine ph_gk rfl rfl (y_loadBA 4 tf26 rfl rfl (vs := [_, _, _, _, _, _]) rfl rfl) ?_
        refine ph_gk rfl rfl (y_castT (b := (sameSB s s)) (y_call en21 rfl (fun w hw => same_c _ _ s _ _ s w (has_row encPt_ok (hw.has (p := 3) rfl)) (Rd.has (Has.rd hl) hw) (by first | assumption | omega))) (by exact same_refl s)) ?_
        refine ph_y (y_pick rfl rfl rfl) ?_
        refine ph_y (y_move rfl) ?_
        refine ph_gk rfl rfl (y_call en15 rfl (fun w hw => wakes_c w (Rd.has (Has.rd hways) hw))) ?_
        refine ph_y (y_pick rfl rfl rfl) ?_
        refine ph_y (fun p49 => y_assign rfl) ?_
        intro p49
        refine gk_nil (gk_sub (T' := [(4,_)]) ⟨rfl, trivial⟩ ?_)
        refine gk_ret ?_
        refine gk_pure (rv_one rfl (r1_tmp rfl)) ?_
        rfl

set_option maxRecDepth 100000 in
set_option maxHeartbeats 1000000 in
theorem StoneBorders_c (a : Option Addr) (cap : Nat) (s : Stn) (w : World) (hl : Has w (Pts a s.shape)) (hways : Has w (Elems (some ⟨0, 0, none⟩) 1 encVal [.func (.func 173) #[] #[], .func (.func 174) #[] #[], .func (.func 175) #[] #[], .func (.func 176) #[] #[]])) (hn : Fits s.name.size) :
    Calls Tryd.prog 5 #[.agg #[.string s.name, .slice a s.shape.length cap, .int .i64 s.depth, .int .i64 s.density, .int .i64 s.grain.x, .int .i64 s.grain.z]] w (Pure (.bool true) w) := by
  refine calls_of_gk (vs := [_]) Tryd.func5 rfl rfl (Nat.le_of_ble_eq_true rfl) ?_
  refine gk_seq ?_
  refine gk_region ?_
  refine gk_yx rfl rfl (yx_box (vs := [_, _, _, _, _, _]) rfl rfl) fun b1 => ?_
  refine gk_y rfl rfl (y_assign rfl) ?_
  refine gk_nil (gk_sub (T' := [(1,_), (2,_)]) ⟨rfl, rfl, trivial⟩ ?_)
  refine gk_seq ?_
  refine gk_seq ?_
  refine gk_region ?_
  refine gk_y rfl rfl (y_fieldAddr fo26_1 rfl) ?_
  refine gk_y rfl rfl (y_loadB1 0 tf22 rfl rfl rfl) ?_
  refine gk_y rfl rfl (y_lenS (Tryd.underlying22) rfl) ?_
  refine gk_y rfl rfl (y_gtr rfl rfl) ?_
  refine gk_nil (gk_sub (T' := [(1,_), (2,_), (8,_)]) ⟨rfl, rfl, rfl, trivial⟩ ?_)
  refine gk_cond rfl (fun hc8 => ?_) (fun hc8 => ?_)
  · skip
    refine gk_seq ?_
    refine gk_region ?_
    refine gk_y rfl rfl (y_call en15 rfl (fun w hw => wakes_c w (Rd.has (Has.rd hways) hw))) ?_
    refine gk_y rfl rfl (y_assign rfl) ?_
    refine gk_nil (gk_sub (T' := [(1,_), (2,_)]) ⟨rfl, rfl, trivial⟩ ?_)
    refine gk_ret ?_
    refine gk_pure (rv_one rfl (r1_tmp rfl)) ?_
    rfl
  · have hs : Small s.shape.length := by simp only [decide_eq_false_iff_not] at hc8; omega
    refine gk_skip ?_
    refine gk_seq ?_
    refine gk_region ?_
    refine gk_y rfl rfl (y_loadBA 0 tf26 rfl rfl (vs := [_, _, _, _, _, _]) rfl rfl) ?_
    refine gk_yx rfl rfl (yx_call en18 rfl (fun w hw => stone_c _ _ s w (Rd.has (Has.rd hl) hw) (by assumption))) fun p12 => ?_
    refine gk_yx rfl rfl (yx_call en23 rfl (fun w hw => Border_c _ _ s w (has_row encPt_ok (hw.has (p := 0) rfl)) (by assumption))) fun p13 => ?_
    refine gk_y rfl rfl (y_move rfl) ?_
    refine gk_y rfl rfl (y_extract rfl rfl) ?_
    refine gk_y rfl rfl (y_extract rfl rfl) ?_
    refine gk_y rfl rfl (y_assign rfl) ?_
    refine gk_y rfl rfl (y_assign rfl) ?_
    refine gk_nil (gk_sub (T' := [(1,_), (2,_), (3,_), (4,_)]) ⟨rfl, rfl, rfl, rfl, trivial⟩ ?_)
    refine gk_seq ?_
    refine gk_seq ?_
    refine gk_region ?_
    refine gk_y rfl rfl (y_loadBA 2 tf26 rfl rfl (vs := [_, _, _, _, _, _]) rfl rfl) ?_
    refine gk_y rfl rfl (y_call en16 rfl (fun w hw => rvalid_c _ _ s w (Rd.has (Has.rd hl) hw) (by assumption) (by assumption))) ?_
    refine gk_y rfl rfl (y_not rfl) ?_
    refine gk_nil (gk_sub (T' := [(1,_), (2,_), (3,_), (4,_), (18,_)]) ⟨rfl, rfl, rfl, rfl, rfl, trivial⟩ ?_)
    refine gk_cond rfl (fun hc18 => ?_) (fun hc18 => ?_)
    · have hck : checkI s = 2 := by rw [check_valid, if_neg (by rw [show rvalidB s = false from by simpa using hc18]; exact Bool.false_ne_true)]
      have hA : askL s (borderL s.shape) = [] := by rw [askL, if_neg (by rw [hck]; decide)]
      refine gk_seq ?_
      refine gk_any 11 (fun _ => mixed) (by kernel_rfl) ?_
      refine ph_y (y_move rfl) ?_
      refine ph_y (y_eql rfl rfl) ?_
      refine ph_y (y_move rfl) ?_
      refine ph_gT rfl rfl (fun hgd => by (try rw [hgd]); exact (y_move rfl)) ?_
      refine ph_gT rfl rfl (fun hgd => by (try rw [hgd]); exact (y_lenS (Tryd.underlying31) rfl)) ?_
      refine ph_gT rfl rfl (fun hgd => by (try rw [hgd]); exact (y_eql rfl rfl)) ?_
      refine ph_y (y_pickAnd rfl rfl rfl) ?_
      refine ph_y (y_move rfl) ?_
      refine ph_gT rfl rfl (fun hgd => by (try rw [hgd]); exact (y_call (v := .bool true) en15 rfl (fun w hw => wakes_c w (Rd.has (Has.rd hways) hw)))) ?_
      refine ph_y (y_pickAnd rfl rfl rfl) ?_
      refine ph_y (y_assign rfl) ?_
      refine gk_nil (gk_sub (T' := [(1,_), (2,_), (3,_), (4,_)]) ⟨rfl, rfl, rfl, rfl, trivial⟩ ?_)
      refine gk_ret ?_
      refine gk_pure (rv_one rfl (r1_tmp rfl)) ?_
      exact congrArg Value.bool (by rw [hck, hA]; rfl)
    · have hck : checkI s = 0 := by rw [check_valid, if_pos (by simpa using hc18)]
      have hA : askL s (borderL s.shape) = borderL s.shape := by rw [askL, if_pos hck]
      have hlen := check_len hck
      have hnear := check_near hck
      have hB := rborder_eq hnear
      have hsm : Small (askL s (borderL s.shape)).length := by rw [hA]; have := border_len hnear; omega
      refine gk_skip ?_
      refine gk_seq ?_
      refine gk_region ?_
      refine gk_y rfl rfl (y_move rfl) ?_
      refine gk_y rfl rfl (y_castT (y_eql rfl rfl) (by exact decide_eq_true hck)) ?_
      refine gk_y rfl rfl (y_move rfl) ?_
      refine gk_guard rfl rfl rfl rfl (fun _ => ?_) (fun h => absurd h (by decide))
      refine gk_y rfl rfl (y_move rfl) ?_
      refine gk_guard rfl rfl rfl rfl (fun _ => ?_) (fun h => absurd h (by decide))
      refine gk_y rfl rfl (y_fieldAddr fo26_1 rfl) ?_
      refine gk_guard rfl rfl rfl rfl (fun _ => ?_) (fun h => absurd h (by decide))
      refine gk_y rfl rfl (y_loadB1 2 tf22 rfl rfl rfl) ?_
      refine gk_guard rfl rfl rfl rfl (fun _ => ?_) (fun h => absurd h (by decide))
      refine gk_yx rfl rfl (yx_call en25 rfl (fun w hw => rborder_c _ _ s.shape w (Rd.has (Has.rd hl) hw) (by assumption) (by assumption) (by omega))) fun p35 => ?_
      refine gk_guard rfl rfl rfl rfl (fun _ => ?_) (fun h => absurd h (by decide))
      refine gk_y rfl rfl (y_castT (b := (decide ((askL s (borderL s.shape)) = (rborderL s.shape)))) (y_call en24 rfl (fun w hw => samepoints_c _ _ (askL s (borderL s.shape)) _ _ (rborderL s.shape) w (has_row encPt_ok (hw.has (p := 1) rfl)) (has_row encPt_ok (hw.has (p := 0) rfl)) (by assumption))) (by exact decide_eq_true (hA.trans hB.symm))) ?_
      refine gk_y rfl rfl (y_pick rfl rfl rfl) ?_
      refine gk_y rfl rfl (y_move rfl) ?_
      refine gk_guard rfl rfl rfl rfl (fun _ => ?_) (fun h => absurd h (by decide))
      refine gk_y rfl rfl (y_call en15 rfl (fun w hw => wakes_c w (Rd.has (Has.rd hways) hw))) ?_
      refine gk_y rfl rfl (y_pick rfl rfl rfl) ?_
      refine gk_y rfl rfl (y_assign rfl) ?_
      refine gk_nil (gk_sub (T' := [(2,_)]) ⟨rfl, trivial⟩ ?_)
      refine gk_ret ?_
      refine gk_pure (rv_one rfl (r1_tmp rfl)) ?_
      rfl

end Go.Proofs.YtahahmelnaphjaaDoor
