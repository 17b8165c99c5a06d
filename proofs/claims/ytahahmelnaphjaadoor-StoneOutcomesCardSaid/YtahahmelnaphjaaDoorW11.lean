/- Walks: what the chapter shows. No statement of the seat is proved in this text. -/
import Derived.Test.YtahahmelnaphjaaDoorW10
import Derived.Test.YtahahmelnaphjaaDoorD5
namespace Go.Proofs.YtahahmelnaphjaaDoor
open Go.K Go.Stn Go.RowKit
theorem en19 : En Tryd.prog 19 := en_of Tryd.func19 (by kernel_rfl) (by kernel_rfl)
theorem en23 : En Tryd.prog 23 := en_of Tryd.func23 (by kernel_rfl) (by kernel_rfl)
theorem en26 : En Tryd.prog 26 := en_of Tryd.func26 (by kernel_rfl) (by kernel_rfl)
theorem en28 : En Tryd.prog 28 := en_of Tryd.func28 (by kernel_rfl) (by kernel_rfl)
theorem en35 : En Tryd.prog 35 := en_of Tryd.func35 (by kernel_rfl) (by kernel_rfl)
theorem en52 : En Tryd.prog 52 := en_of Tryd.func52 (by kernel_rfl) (by kernel_rfl)

set_option maxRecDepth 100000 in
set_option maxHeartbeats 1000000 in
theorem wakes_c  (w : World) (hways : Has w (Elems (some ⟨0, 0, none⟩) 1 encVal [.func (.func 173) #[] #[], .func (.func 174) #[] #[], .func (.func 175) #[] #[], .func (.func 176) #[] #[]])) :
    Calls Tryd.prog 15 #[] w (Pure (.bool true) w) := by
  have hs : Small brickS.shape.length := by decide
  have hA4 : (1 : Int) < ((splitA brickS (⟨50, 0⟩ : Pt) (⟨50, 80⟩ : Pt)).shape.length : Int) := by rw [brick_splitA]; decide
  have hO1 : (0 : Int) < ((outL brickS (⟨0, 40⟩ : Pt) 0).length : Int) := by rw [brick_out]; decide
  have hin : struckE brickS (⟨0, 40⟩ : Pt) 0 = 0 → 0 ≤ findI (eqB (⟨0, 40⟩ : Pt)) (borderL brickS.shape) := fun _ => brick_in
  refine calls_of_gk (vs := []) Tryd.func15 rfl rfl (Nat.le_of_ble_eq_true rfl) ?_
  refine gk_seq ?_
  refine gk_region ?_
  refine gk_y rfl rfl (y_assign rfl) ?_
  refine gk_nil (gk_sub (T' := [(0,_)]) ⟨rfl, trivial⟩ ?_)
  refine gk_seq ?_
  refine gk_region ?_
  refine gk_yx rfl rfl (yx_call en52 rfl (fun w hw => brick_c w)) fun p13 => ?_
  refine gk_yx rfl rfl (yx_alloc tf34 (zs := [_, _, _, _, _, _]) rfl) fun b1 => ?_
  refine gk_storeV 0 tf34 rfl rfl (vs := [_, _, _, _, _, _]) rfl rfl rfl rfl rfl ?_
  refine gk_nil (gk_sub (T' := [(0,_), (1,_)]) ⟨rfl, rfl, trivial⟩ ?_)
  refine gk_seq ?_
  refine gk_region ?_
  refine gk_y rfl rfl (y_loadBA 0 tf34 rfl rfl (vs := [_, _, _, _, _, _]) rfl rfl) ?_
  refine gk_y rfl rfl (y_call en28 rfl (fun w hw => weight_c _ _ brickS w (has_row encPt_ok (hw.has (p := 1) rfl)) (by assumption))) ?_
  refine gk_y rfl rfl (y_move rfl) ?_
  refine gk_y rfl rfl (y_extract rfl rfl) ?_
  refine gk_y rfl rfl (y_extract rfl rfl) ?_
  refine gk_y rfl rfl (y_assign rfl) ?_
  refine gk_y rfl rfl (y_assign rfl) ?_
  refine gk_nil (gk_sub (T' := [(0,_), (1,_), (2,_), (3,_)]) ⟨rfl, rfl, rfl, rfl, trivial⟩ ?_)
  refine gk_seq ?_
  refine gk_region ?_
  refine gk_y rfl rfl (y_loadBA 0 tf34 rfl rfl (vs := [_, _, _, _, _, _]) rfl rfl) ?_
  refine gk_y rfl rfl (y_buildL rfl (bd32_0i _)) ?_
  refine gk_y rfl rfl (y_buildL rfl (bd32_0i_1i _ _)) ?_
  refine gk_yx rfl rfl (yx_call en26 rfl (fun w hw => Split_c _ _ brickS (⟨50, 0⟩ : Pt) (⟨50, 80⟩ : Pt) w (has_row encPt_ok (hw.has (p := 1) rfl)) (by assumption))) fun p23 => gk_split ?_
  refine gk_y rfl rfl (y_move rfl) ?_
  refine gk_y rfl rfl (y_extract rfl rfl) ?_
  refine gk_y rfl rfl (y_extract rfl rfl) ?_
  refine gk_y rfl rfl (y_extract rfl rfl) ?_
  refine gk_yx rfl rfl (yx_alloc tf34 (zs := [_, _, _, _, _, _]) rfl) fun b4 => ?_
  refine gk_yx rfl rfl (yx_alloc tf34 (zs := [_, _, _, _, _, _]) rfl) fun b5 => ?_
  refine gk_storeV 1 tf34 rfl rfl (vs := [_, _, _, _, _, _]) rfl rfl rfl rfl rfl ?_
  refine gk_storeV 0 tf34 rfl rfl (vs := [_, _, _, _, _, _]) rfl rfl rfl rfl rfl ?_
  refine gk_y rfl rfl (y_assign rfl) ?_
  refine gk_nil (gk_sub (T' := [(0,_), (1,_), (2,_), (3,_), (4,_), (5,_), (6,_)]) ⟨rfl, rfl, rfl, rfl, rfl, rfl, rfl, trivial⟩ ?_)
  refine gk_seq ?_
  refine gk_region ?_
  refine gk_y rfl rfl (y_loadBA 4 tf34 rfl rfl (vs := [_, _, _, _, _, _]) rfl rfl) ?_
  refine gk_y rfl rfl (y_buildL rfl (bd32_1i _)) ?_
  refine gk_yx rfl rfl (yx_call en35 rfl (fun w hw => Outcomes_c _ _ brickS (⟨0, 40⟩ : Pt) 0 w (has_row encPt_ok (hw.has (p := 5) rfl)) (by assumption) (by assumption))) fun p30 => ?_
  refine gk_y rfl rfl (y_move rfl) ?_
  refine gk_y rfl rfl (y_extract rfl rfl) ?_
  refine gk_y rfl rfl (y_extract rfl rfl) ?_
  refine gk_y rfl rfl (y_assign rfl) ?_
  refine gk_y rfl rfl (y_assign rfl) ?_
  refine gk_nil (gk_sub (T' := [(0,_), (1,_), (2,_), (3,_), (4,_), (5,_), (6,_), (7,_), (8,_)]) ⟨rfl, rfl, rfl, rfl, rfl, rfl, rfl, rfl, rfl, trivial⟩ ?_)
  refine gk_seq ?_
  refine gk_region ?_
  refine gk_y rfl rfl (y_loadBA 5 tf34 rfl rfl (vs := [_, _, _, _, _, _]) rfl rfl) ?_
  refine gk_yx rfl rfl (yx_call en19 rfl (fun w hw => Turned_c _ _ brickS 1 w (has_row encPt_ok (hw.has (p := 6) rfl)) (by assumption) (Rd.has (Has.rd hways) hw))) fun p35 => ?_
  refine gk_y rfl rfl (y_move rfl) ?_
  refine gk_y rfl rfl (y_extract rfl rfl) ?_
  refine gk_y rfl rfl (y_extract rfl rfl) ?_
  refine gk_yx rfl rfl (yx_alloc tf34 (zs := [_, _, _, _, _, _]) rfl) fun b9 => ?_
  refine gk_storeV 0 tf34 rfl rfl (vs := [_, _, _, _, _, _]) rfl rfl rfl rfl rfl ?_
  refine gk_y rfl rfl (y_assign rfl) ?_
  refine gk_nil (gk_sub (T' := [(0,_), (1,_), (2,_), (3,_), (4,_), (5,_), (6,_), (7,_), (8,_), (9,_), (10,_)]) ⟨rfl, rfl, rfl, rfl, rfl, rfl, rfl, rfl, rfl, rfl, rfl, trivial⟩ ?_)
  refine gk_seq ?_
  refine gk_region ?_
  refine gk_y rfl rfl (y_loadBA 7 tf34 rfl rfl (vs := [_, _, _, _, _, _]) rfl rfl) ?_
  refine gk_yx rfl rfl (yx_call en23 rfl (fun w hw => Border_c _ _ brickS w (has_row encPt_ok (hw.has (p := 8) rfl)) (by assumption))) fun p40 => ?_
  refine gk_y rfl rfl (y_move rfl) ?_
  refine gk_y rfl rfl (y_extract rfl rfl) ?_
  refine gk_y rfl rfl (y_extract rfl rfl) ?_
  refine gk_y rfl rfl (y_assign rfl) ?_
  refine gk_y rfl rfl (y_assign rfl) ?_
  refine gk_nil (gk_sub (T' := [(0,_), (2,_), (3,_), (4,_), (5,_), (6,_), (7,_), (8,_), (9,_), (10,_), (11,_), (12,_)]) ⟨rfl, rfl, rfl, rfl, rfl, rfl, rfl, rfl, rfl, rfl, rfl, rfl, trivial⟩ ?_)
  refine gk_seq ?_
  refine gk_region ?_
  refine gk_y rfl rfl (y_move rfl) ?_
  refine gk_y rfl rfl (y_castT (y_eql rfl rfl) (by rw [brick_ok]; rfl)) ?_
  refine gk_y rfl rfl (y_move rfl) ?_
  refine gk_guard rfl rfl rfl rfl (fun _ => ?_) (fun h => absurd h (by decide))
  refine gk_y rfl rfl (y_move rfl) ?_
  refine gk_guard rfl rfl rfl rfl (fun _ => ?_) (fun h => absurd h (by decide))
  refine gk_y rfl rfl (y_castT (y_eql rfl rfl) (by rw [askI, if_pos brick_ok, brick_weight]; rfl)) ?_
  refine gk_y rfl rfl (y_pick rfl rfl rfl) ?_
  refine gk_y rfl rfl (y_move rfl) ?_
  refine gk_guard rfl rfl rfl rfl (fun _ => ?_) (fun h => absurd h (by decide))
  refine gk_y rfl rfl (y_move rfl) ?_
  refine gk_guard rfl rfl rfl rfl (fun _ => ?_) (fun h => absurd h (by decide))
  refine gk_y rfl rfl (y_castT (y_eql rfl rfl) (by rw [brick_splitE]; rfl)) ?_
  refine gk_y rfl rfl (y_pick rfl rfl rfl) ?_
  refine gk_y rfl rfl (y_move rfl) ?_
  refine gk_guard rfl rfl rfl rfl (fun _ => ?_) (fun h => absurd h (by decide))
  refine gk_y rfl rfl (y_fieldAddr fo34_0 rfl) ?_
  refine gk_guard rfl rfl rfl rfl (fun _ => ?_) (fun h => absurd h (by decide))
  refine gk_y rfl rfl (y_loadB1 5 tf9 rfl rfl rfl) ?_
  refine gk_guard rfl rfl rfl rfl (fun _ => ?_) (fun h => absurd h (by decide))
  refine gk_y rfl rfl (y_castT (y_strEq rfl rfl) (by rw [brick_splitA]; decide +kernel)) ?_
  refine gk_y rfl rfl (y_pick rfl rfl rfl) ?_
  refine gk_y rfl rfl (y_move rfl) ?_
  refine gk_guard rfl rfl rfl rfl (fun _ => ?_) (fun h => absurd h (by decide))
  refine gk_y rfl rfl (y_fieldAddr fo34_1 rfl) ?_
  refine gk_guard rfl rfl rfl rfl (fun _ => ?_) (fun h => absurd h (by decide))
  refine gk_y rfl rfl (y_loadB1 5 tf31 rfl rfl rfl) ?_
  refine gk_guard rfl rfl rfl rfl (fun _ => ?_) (fun h => absurd h (by decide))
  refine gk_y rfl rfl (y_lenS (Tryd.underlying31) rfl) ?_
  refine gk_guard rfl rfl rfl rfl (fun _ => ?_) (fun h => absurd h (by decide))
  refine gk_y rfl rfl (y_castT (y_eql rfl rfl) (by rw [brick_splitA]; rfl)) ?_
  refine gk_y rfl rfl (y_pick rfl rfl rfl) ?_
  refine gk_y rfl rfl (y_move rfl) ?_
  refine gk_guard rfl rfl rfl rfl (fun _ => ?_) (fun h => absurd h (by decide))
  refine gk_y rfl rfl (y_fieldAddr fo34_1 rfl) ?_
  refine gk_guard rfl rfl rfl rfl (fun _ => ?_) (fun h => absurd h (by decide))
  refine gk_y rfl rfl (y_loadB1 5 tf31 rfl rfl rfl) ?_
  refine gk_guard rfl rfl rfl rfl (fun _ => ?_) (fun h => absurd h (by decide))
  refine gk_y rfl rfl (y_indexE se31 rfl rfl (fun _ hw => (has_row encPt_ok (hw.has (p := 6) rfl))) (by omega) (by omega)) ?_
  refine gk_guard rfl rfl rfl rfl (fun _ => ?_) (fun h => absurd h (by decide))
  refine gk_y rfl rfl (y_fieldE fo32_0 rfl (fun w hw => elems_addr (i := 1) (has_row encPt_ok (hw.has (p := 6) rfl)) (by omega) (by omega))) ?_
  refine gk_guard rfl rfl rfl rfl (fun _ => ?_) (fun h => absurd h (by decide))
  refine gk_y rfl rfl (y_loadEF tf3 rfl (fun _ hw => (has_row encPt_ok (hw.has (p := 6) rfl))) (by omega) (by omega) rfl) ?_
  refine gk_guard rfl rfl rfl rfl (fun _ => ?_) (fun h => absurd h (by decide))
  refine gk_y rfl rfl (y_castT (y_eql rfl rfl) (by rw [brick_splitA]; rfl)) ?_
  refine gk_y rfl rfl (y_pick rfl rfl rfl) ?_
  refine gk_y rfl rfl (y_move rfl) ?_
  refine gk_guard rfl rfl rfl rfl (fun _ => ?_) (fun h => absurd h (by decide))
  refine gk_y rfl rfl (y_fieldAddr fo34_0 rfl) ?_
  refine gk_guard rfl rfl rfl rfl (fun _ => ?_) (fun h => absurd h (by decide))
  refine gk_y rfl rfl (y_loadB1 4 tf9 rfl rfl rfl) ?_
  refine gk_guard rfl rfl rfl rfl (fun _ => ?_) (fun h => absurd h (by decide))
  refine gk_y rfl rfl (y_castT (y_strEq rfl rfl) (by rw [brick_splitB]; decide +kernel)) ?_
  refine gk_y rfl rfl (y_pick rfl rfl rfl) ?_
  refine gk_y rfl rfl (y_move rfl) ?_
  refine gk_guard rfl rfl rfl rfl (fun _ => ?_) (fun h => absurd h (by decide))
  refine gk_y rfl rfl (y_move rfl) ?_
  refine gk_guard rfl rfl rfl rfl (fun _ => ?_) (fun h => absurd h (by decide))
  refine gk_y rfl rfl (y_castT (y_eql rfl rfl) (by rw [brick_struck]; rfl)) ?_
  refine gk_y rfl rfl (y_pick rfl rfl rfl) ?_
  refine gk_y rfl rfl (y_move rfl) ?_
  refine gk_guard rfl rfl rfl rfl (fun _ => ?_) (fun h => absurd h (by decide))
  refine gk_y rfl rfl (y_move rfl) ?_
  refine gk_guard rfl rfl rfl rfl (fun _ => ?_) (fun h => absurd h (by decide))
  refine gk_y rfl rfl (y_lenS (Tryd.underlying31) rfl) ?_
  refine gk_guard rfl rfl rfl rfl (fun _ => ?_) (fun h => absurd h (by decide))
  refine gk_y rfl rfl (y_castT (y_eql rfl rfl) (by rw [brick_out]; rfl)) ?_
  refine gk_y rfl rfl (y_pick rfl rfl rfl) ?_
  refine gk_y rfl rfl (y_move rfl) ?_
  refine gk_guard rfl rfl rfl rfl (fun _ => ?_) (fun h => absurd h (by decide))
  refine gk_y rfl rfl (y_move rfl) ?_
  refine gk_guard rfl rfl rfl rfl (fun _ => ?_) (fun h => absurd h (by decide))
  refine gk_y rfl rfl (y_indexE se31 rfl rfl (fun _ hw => (has_row encPt_ok (hw.has (p := 3) rfl))) (by omega) (by omega)) ?_
  refine gk_guard rfl rfl rfl rfl (fun _ => ?_) (fun h => absurd h (by decide))
  refine gk_y rfl rfl (y_loadE (vs := [_, _]) tf32 rfl (fun _ hw => (has_row encPt_ok (hw.has (p := 3) rfl))) (by omega) (by omega) rfl) ?_
  refine gk_guard rfl rfl rfl rfl (fun _ => ?_) (fun h => absurd h (by decide))
  refine gk_y rfl rfl (y_buildL rfl (bd32_0i_1i _ _)) ?_
  refine gk_guard rfl rfl rfl rfl (fun _ => ?_) (fun h => absurd h (by decide))
  refine gk_y rfl rfl (y_castT (y_eql32 rfl rfl) (by rw [brick_out]; rfl)) ?_
  refine gk_y rfl rfl (y_pick rfl rfl rfl) ?_
  refine gk_y rfl rfl (y_move rfl) ?_
  refine gk_guard rfl rfl rfl rfl (fun _ => ?_) (fun h => absurd h (by decide))
  refine gk_y rfl rfl (y_move rfl) ?_
  refine gk_guard rfl rfl rfl rfl (fun _ => ?_) (fun h => absurd h (by decide))
  refine gk_y rfl rfl (y_castT (y_eql rfl rfl) (by rw [brick_turnE]; rfl)) ?_
  refine gk_y rfl rfl (y_pick rfl rfl rfl) ?_
  refine gk_y rfl rfl (y_move rfl) ?_
  refine gk_guard rfl rfl rfl rfl (fun _ => ?_) (fun h => absurd h (by decide))
  refine gk_y rfl rfl (y_fieldAddr fo34_4 rfl) ?_
  refine gk_guard rfl rfl rfl rfl (fun _ => ?_) (fun h => absurd h (by decide))
  refine gk_y rfl rfl (y_loadBA 1 tf32 rfl rfl (vs := [_, _]) rfl rfl) ?_
  refine gk_guard rfl rfl rfl rfl (fun _ => ?_) (fun h => absurd h (by decide))
  refine gk_y rfl rfl (y_buildL rfl (bd32_1i _)) ?_
  refine gk_guard rfl rfl rfl rfl (fun _ => ?_) (fun h => absurd h (by decide))
  refine gk_y rfl rfl (y_castT (y_eql32 rfl rfl) (by rw [brick_turn]; rfl)) ?_
  refine gk_y rfl rfl (y_pick rfl rfl rfl) ?_
  refine gk_y rfl rfl (y_move rfl) ?_
  refine gk_guard rfl rfl rfl rfl (fun _ => ?_) (fun h => absurd h (by decide))
  refine gk_y rfl rfl (y_move rfl) ?_
  refine gk_guard rfl rfl rfl rfl (fun _ => ?_) (fun h => absurd h (by decide))
  refine gk_y rfl rfl (y_castT (y_eql rfl rfl) (by rw [brick_ok]; rfl)) ?_
  refine gk_y rfl rfl (y_pick rfl rfl rfl) ?_
  refine gk_y rfl rfl (y_move rfl) ?_
  refine gk_guard rfl rfl rfl rfl (fun _ => ?_) (fun h => absurd h (by decide))
  refine gk_y rfl rfl (y_move rfl) ?_
  refine gk_guard rfl rfl rfl rfl (fun _ => ?_) (fun h => absurd h (by decide))
  refine gk_y rfl rfl (y_lenS (Tryd.underlying31) rfl) ?_
  refine gk_guard rfl rfl rfl rfl (fun _ => ?_) (fun h => absurd h (by decide))
  refine gk_y rfl rfl (y_castT (y_eql rfl rfl) (by rw [brick_border]; rfl)) ?_
  refine gk_y rfl rfl (y_pick rfl rfl rfl) ?_
  refine gk_y rfl rfl (y_assign rfl) ?_
  refine gk_nil (gk_sub (T' := [(0,_)]) ⟨rfl, trivial⟩ ?_)
  refine gk_ret ?_
  refine gk_pure (rv_one rfl (r1_tmp rfl)) ?_
  rfl

end Go.Proofs.YtahahmelnaphjaaDoor
