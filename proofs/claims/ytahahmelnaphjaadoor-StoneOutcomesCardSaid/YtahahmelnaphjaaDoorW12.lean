/- Walks: the law StoneChecks. No statement of the seat is proved in this text. -/
import Derived.Test.YtahahmelnaphjaaDoorW11
namespace Go.Proofs.YtahahmelnaphjaaDoor
open Go.K Go.Stn Go.RowKit
theorem tf26 : TF Tryd.prog 26 true 6 (.agg #[.string ⟨#[]⟩, .slice none 0 0, .int IntKind.i64 0, .int IntKind.i64 0, .int IntKind.i64 0, .int IntKind.i64 0]) := ⟨by kernel_rfl, by kernel_rfl⟩
theorem en15 : En Tryd.prog 15 := en_of Tryd.func15 (by kernel_rfl) (by kernel_rfl)
theorem en16 : En Tryd.prog 16 := en_of Tryd.func16 (by kernel_rfl) (by kernel_rfl)
theorem en18 : En Tryd.prog 18 := en_of Tryd.func18 (by kernel_rfl) (by kernel_rfl)

set_option maxRecDepth 100000 in
set_option maxHeartbeats 1000000 in
theorem StoneChecks_c (a : Option Addr) (cap : Nat) (s : Stn) (w : World) (hl : Has w (Pts a s.shape)) (hways : Has w (Elems (some ⟨0, 0, none⟩) 1 encVal [.func (.func 173) #[] #[], .func (.func 174) #[] #[], .func (.func 175) #[] #[], .func (.func 176) #[] #[]])) :
    Calls Tryd.prog 3 #[.agg #[.string s.name, .slice a s.shape.length cap, .int .i64 s.depth, .int .i64 s.density, .int .i64 s.grain.x, .int .i64 s.grain.z]] w (Pure (.bool true) w) := by
  refine calls_of_gk (vs := [_]) Tryd.func3 rfl rfl (Nat.le_of_ble_eq_true rfl) ?_
  refine gk_seq ?_
  refine gk_region ?_
  refine gk_yx rfl rfl (yx_box (vs := [_, _, _, _, _, _]) rfl rfl) fun b1 => ?_
  refine gk_y rfl rfl (y_assign rfl) ?_
  refine gk_nil (gk_sub (T' := [(1,_), (2,_)]) ⟨rfl, rfl, trivial⟩ ?_)
  refine gk_seq ?_
  refine gk_seq ?_
  refine gk_any 10 (fun _ => mixed) (by kernel_rfl) ?_
  refine ph_y (y_fieldAddr fo26_1 rfl) ?_
  refine ph_y (y_loadB1 0 tf22 rfl rfl rfl) ?_
  refine ph_y (y_lenS (Tryd.underlying22) rfl) ?_
  refine ph_y (y_gtr rfl rfl) ?_
  refine ph_y (y_move rfl) ?_
  refine ph_gF rfl rfl (fun hgd => by (try rw [hgd]); exact (y_fieldAddr fo26_0 rfl)) ?_
  refine ph_gF rfl rfl (fun hgd => by (try rw [hgd]); exact (y_loadB1 0 tf9 rfl rfl rfl)) ?_
  refine ph_gF rfl rfl (fun hgd => by (try rw [hgd]); exact (y_lenStr (Tryd.underlying9) rfl)) ?_
  refine ph_gF rfl rfl (fun hgd => by (try rw [hgd]); exact (y_gtr rfl rfl)) ?_
  refine ph_y (y_pickOr rfl rfl rfl) ?_
  refine gk_nil (gk_sub (T' := [(1,_), (2,_), (13,_)]) ⟨rfl, rfl, rfl, trivial⟩ ?_)
  refine gk_cond rfl (fun hc13 => ?_) (fun hc13 => ?_)
  · skip
    refine gk_seq ?_
    refine gk_region ?_
    refine gk_y rfl rfl (y_call en15 rfl (fun w hw => wakes_c w (Rd.has (Has.rd hways) hw))) ?_
    refine gk_y rfl rfl (y_assign rfl) ?_
    refine gk_nil (gk_sub (T' := [(1,_), (2,_)]) ⟨rfl, rfl, trivial⟩ ?_)
    refine gk_ret ?_
    refine gk_pure (rv_one rfl (r1_tmp rfl)) ?_
    rfl
  · have hbb : s.shape.length ≤ 20 ∧ s.name.size ≤ 40 := by simp at hc13; omega
    have hs : Small s.shape.length := by unfold Small; omega
    have hn : Fits s.name.size := by unfold Fits; omega
    refine gk_skip ?_
    refine gk_seq ?_
    refine gk_region ?_
    refine gk_y rfl rfl (y_assign rfl) ?_
    refine gk_nil (gk_sub (T' := [(1,_), (2,_), (3,_)]) ⟨rfl, rfl, rfl, trivial⟩ ?_)
    refine gk_seq ?_
    refine gk_seq ?_
    refine gk_region ?_
    refine gk_y rfl rfl (y_loadBA 0 tf26 rfl rfl (vs := [_, _, _, _, _, _]) rfl rfl) ?_
    refine gk_y rfl rfl (y_call en16 rfl (fun w hw => rvalid_c _ _ s w (Rd.has (Has.rd hl) hw) (by assumption) (by assumption))) ?_
    refine gk_nil (gk_sub (T' := [(1,_), (2,_), (3,_), (16,_)]) ⟨rfl, rfl, rfl, rfl, trivial⟩ ?_)
    refine gk_cond rfl (fun hc16 => ?_) (fun hc16 => ?_)
    · have hck : checkI s = 0 := by rw [check_valid, if_pos hc16]
      refine gk_region ?_
      refine gk_y rfl rfl (y_assign rfl) ?_
      refine gk_nil (gk_sub (T' := [(1,_), (2,_), (3,_)]) ⟨rfl, rfl, rfl, trivial⟩ ?_)
      refine gk_seq ?_
      refine gk_any 9 (fun _ => mixed) (by kernel_rfl) ?_
      refine ph_y (y_loadBA 0 tf26 rfl rfl (vs := [_, _, _, _, _, _]) rfl rfl) ?_
      refine ph_yx (yx_call en18 rfl (fun w hw => stone_c _ _ s w (Rd.has (Has.rd hl) hw) (by assumption))) ?_
      refine ph_y (fun p18 => y_call en17 rfl (fun w hw => check_c _ _ s w (has_row encPt_ok (hw.has (p := 0) rfl)) (by assumption))) ?_
      refine ph_y (y_move rfl) ?_
      refine ph_y (y_eql rfl rfl) ?_
      refine ph_y (y_move rfl) ?_
      refine ph_gT rfl rfl (fun hgd => by (try rw [hgd]); exact (y_call (v := .bool true) en15 rfl (fun w hw => wakes_c w (Rd.has (Has.rd hways) hw)))) ?_
      refine ph_y (y_pickAnd rfl rfl rfl) ?_
      refine ph_y (fun p18 => y_assign rfl) ?_
      intro p18
      refine gk_nil (gk_sub (T' := [(2,_)]) ⟨rfl, trivial⟩ ?_)
      refine gk_ret ?_
      refine gk_pure (rv_one rfl (r1_tmp rfl)) ?_
      rw [hck]; rfl
    · have hck : checkI s = 2 := by rw [check_valid, if_neg (by rw [hc16]; exact Bool.false_ne_true)]
      refine gk_skip ?_
      refine gk_seq ?_
      refine gk_any 9 (fun _ => mixed) (by kernel_rfl) ?_
      refine ph_y (y_loadBA 0 tf26 rfl rfl (vs := [_, _, _, _, _, _]) rfl rfl) ?_
      refine ph_yx (yx_call en18 rfl (fun w hw => stone_c _ _ s w (Rd.has (Has.rd hl) hw) (by assumption))) ?_
      refine ph_y (fun p18 => y_call en17 rfl (fun w hw => check_c _ _ s w (has_row encPt_ok (hw.has (p := 0) rfl)) (by assumption))) ?_
      refine ph_y (y_move rfl) ?_
      refine ph_y (y_eql rfl rfl) ?_
      refine ph_y (y_move rfl) ?_
      refine ph_gT rfl rfl (fun hgd => by (try rw [hgd]); exact (y_call (v := .bool true) en15 rfl (fun w hw => wakes_c w (Rd.has (Has.rd hways) hw)))) ?_
      refine ph_y (y_pickAnd rfl rfl rfl) ?_
      refine ph_y (fun p18 => y_assign rfl) ?_
      intro p18
      refine gk_nil (gk_sub (T' := [(2,_)]) ⟨rfl, trivial⟩ ?_)
      refine gk_ret ?_
      refine gk_pure (rv_one rfl (r1_tmp rfl)) ?_
      rw [hck]; rfl

end Go.Proofs.YtahahmelnaphjaaDoor
