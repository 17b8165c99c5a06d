/- Walks: stones laid in other ways. No statement of the seat is proved in this text. -/
import Derived.Test.YtahahmelnaphjaaDoorW9
import Derived.Test.YtahahmelnaphjaaDoorK16
namespace Go.Proofs.YtahahmelnaphjaaDoor
open Go.K Go.Stn Go.RowKit
theorem tf90 : TF Tryd.prog 90 false 1 (.nilFunc) := ⟨by kernel_rfl, by kernel_rfl⟩
theorem en58 : En Tryd.prog 58 := en_of Tryd.func58 (by kernel_rfl) (by kernel_rfl)
theorem en59 : En Tryd.prog 59 := en_of Tryd.func59 (by kernel_rfl) (by kernel_rfl)
theorem en173 : En Tryd.prog 173 := en_of Tryd.func173 (by kernel_rfl) (by kernel_rfl)
theorem en174 : En Tryd.prog 174 := en_of Tryd.func174 (by kernel_rfl) (by kernel_rfl)
theorem en175 : En Tryd.prog 175 := en_of Tryd.func175 (by kernel_rfl) (by kernel_rfl)
theorem en176 : En Tryd.prog 176 := en_of Tryd.func176 (by kernel_rfl) (by kernel_rfl)

set_option maxRecDepth 100000 in
set_option maxHeartbeats 1000000 in
theorem ways1_c (p : Pt) (w : World)  :
    Calls Tryd.prog 173 #[.agg #[.int .i64 p.x, .int .i64 p.z]] w (Pure (ptV p) w) := by
  refine calls_of_gk (vs := [_]) Tryd.func173 rfl rfl (Nat.le_of_ble_eq_true rfl) ?_
  refine gk_seq ?_
  refine gk_region ?_
  refine gk_yx rfl rfl (yx_box (vs := [_, _]) rfl rfl) fun b1 => ?_
  refine gk_yx rfl rfl (yx_alloc tf32 (zs := [_, _]) rfl) fun b2 => ?_
  refine gk_nil (gk_sub (T' := [(1,_), (2,_)]) ⟨rfl, rfl, trivial⟩ ?_)
  refine gk_seq ?_
  refine gk_region ?_
  refine gk_y rfl rfl (y_loadBA 1 tf32 rfl rfl (vs := [_, _]) rfl rfl) ?_
  refine gk_storeV 0 tf32 rfl rfl (vs := [_, _]) rfl rfl rfl rfl rfl ?_
  refine gk_nil (gk_sub (T' := [(2,_)]) ⟨rfl, trivial⟩ ?_)
  refine gk_ret ?_
  refine gk_pure (rv_one rfl (r1_cellA (i := 0) (vs := [_, _]) tf32 rfl rfl rfl rfl)) ?_
  rfl

set_option maxRecDepth 100000 in
set_option maxHeartbeats 1000000 in
theorem ways2_c (p : Pt) (w : World)  :
    Calls Tryd.prog 174 #[.agg #[.int .i64 p.x, .int .i64 p.z]] w (Pure (ptV ⟨W (-p.z), p.x⟩) w) := by
  refine calls_of_gk (vs := [_]) Tryd.func174 rfl rfl (Nat.le_of_ble_eq_true rfl) ?_
  refine gk_seq ?_
  refine gk_region ?_
  refine gk_yx rfl rfl (yx_box (vs := [_, _]) rfl rfl) fun b1 => ?_
  refine gk_yx rfl rfl (yx_alloc tf32 (zs := [_, _]) rfl) fun b2 => ?_
  refine gk_nil (gk_sub (T' := [(1,_), (2,_)]) ⟨rfl, rfl, trivial⟩ ?_)
  refine gk_seq ?_
  refine gk_region ?_
  refine gk_y rfl rfl (y_fieldAddr fo32_1 rfl) ?_
  refine gk_y rfl rfl (y_loadB1 1 tf3 rfl rfl rfl) ?_
  refine gk_y rfl rfl (y_neg rfl) ?_
  refine gk_y rfl rfl (y_fieldAddr fo32_0 rfl) ?_
  refine gk_y rfl rfl (y_loadB1 1 tf3 rfl rfl rfl) ?_
  refine gk_y rfl rfl (y_buildL rfl (bd32_0i_1i _ _)) ?_
  refine gk_storeV 0 tf32 rfl rfl (vs := [_, _]) rfl rfl rfl rfl rfl ?_
  refine gk_nil (gk_sub (T' := [(2,_)]) ⟨rfl, trivial⟩ ?_)
  refine gk_ret ?_
  refine gk_pure (rv_one rfl (r1_cellA (i := 0) (vs := [_, _]) tf32 rfl rfl rfl rfl)) ?_
  rfl

set_option maxRecDepth 100000 in
set_option maxHeartbeats 1000000 in
theorem ways3_c (p : Pt) (w : World)  :
    Calls Tryd.prog 175 #[.agg #[.int .i64 p.x, .int .i64 p.z]] w (Pure (ptV ⟨W (-p.x), W (-p.z)⟩) w) := by
  refine calls_of_gk (vs := [_]) Tryd.func175 rfl rfl (Nat.le_of_ble_eq_true rfl) ?_
  refine gk_seq ?_
  refine gk_region ?_
  refine gk_yx rfl rfl (yx_box (vs := [_, _]) rfl rfl) fun b1 => ?_
  refine gk_yx rfl rfl (yx_alloc tf32 (zs := [_, _]) rfl) fun b2 => ?_
  refine gk_nil (gk_sub (T' := [(1,_), (2,_)]) ⟨rfl, rfl, trivial⟩ ?_)
  refine gk_seq ?_
  refine gk_region ?_
  refine gk_y rfl rfl (y_fieldAddr fo32_0 rfl) ?_
  refine gk_y rfl rfl (y_loadB1 1 tf3 rfl rfl rfl) ?_
  refine gk_y rfl rfl (y_neg rfl) ?_
  refine gk_y rfl rfl (y_fieldAddr fo32_1 rfl) ?_
  refine gk_y rfl rfl (y_loadB1 1 tf3 rfl rfl rfl) ?_
  refine gk_y rfl rfl (y_neg rfl) ?_
  refine gk_y rfl rfl (y_buildL rfl (bd32_0i_1i _ _)) ?_
  refine gk_storeV 0 tf32 rfl rfl (vs := [_, _]) rfl rfl rfl rfl rfl ?_
  refine gk_nil (gk_sub (T' := [(2,_)]) ⟨rfl, trivial⟩ ?_)
  refine gk_ret ?_
  refine gk_pure (rv_one rfl (r1_cellA (i := 0) (vs := [_, _]) tf32 rfl rfl rfl rfl)) ?_
  rfl

set_option maxRecDepth 100000 in
set_option maxHeartbeats 1000000 in
theorem ways4_c (p : Pt) (w : World)  :
    Calls Tryd.prog 176 #[.agg #[.int .i64 p.x, .int .i64 p.z]] w (Pure (ptV ⟨p.z, W (-p.x)⟩) w) := by
  refine calls_of_gk (vs := [_]) Tryd.func176 rfl rfl (Nat.le_of_ble_eq_true rfl) ?_
  refine gk_seq ?_
  refine gk_region ?_
  refine gk_yx rfl rfl (yx_box (vs := [_, _]) rfl rfl) fun b1 => ?_
  refine gk_yx rfl rfl (yx_alloc tf32 (zs := [_, _]) rfl) fun b2 => ?_
  refine gk_nil (gk_sub (T' := [(1,_), (2,_)]) ⟨rfl, rfl, trivial⟩ ?_)
  refine gk_seq ?_
  refine gk_region ?_
  refine gk_y rfl rfl (y_fieldAddr fo32_1 rfl) ?_
  refine gk_y rfl rfl (y_loadB1 1 tf3 rfl rfl rfl) ?_
  refine gk_y rfl rfl (y_fieldAddr fo32_0 rfl) ?_
  refine gk_y rfl rfl (y_loadB1 1 tf3 rfl rfl rfl) ?_
  refine gk_y rfl rfl (y_neg rfl) ?_
  refine gk_y rfl rfl (y_buildL rfl (bd32_0i_1i _ _)) ?_
  refine gk_storeV 0 tf32 rfl rfl (vs := [_, _]) rfl rfl rfl rfl rfl ?_
  refine gk_nil (gk_sub (T' := [(2,_)]) ⟨rfl, trivial⟩ ?_)
  refine gk_ret ?_
  refine gk_pure (rv_one rfl (r1_cellA (i := 0) (vs := [_, _]) tf32 rfl rfl rfl rfl)) ?_
  rfl

theorem ae91 : AE Tryd.prog 91 90 4 1 := ⟨Tryd.underlying91, by kernel_rfl⟩

set_option maxRecDepth 100000 in
set_option maxHeartbeats 1000000 in
theorem turned1_0 (p : Pt) (way : Int) (b : Nat) (w : World) (hb : Has w (Box b [.int .i64 way] 3)) (hways : Has w (Elems (some ⟨0, 0, none⟩) 1 encVal [.func (.func 173) #[] #[], .func (.func 174) #[] #[], .func (.func 175) #[] #[], .func (.func 176) #[] #[]])) (hk : way.tmod 4 = 0) :
    Calls Tryd.prog 58 #[.agg #[.int .i64 p.x, .int .i64 p.z], .pointer (some ⟨b, 0, none⟩)] w (Pure (ptV (moveW way p)) w) := by
  refine calls_of_gk (vs := [_, _]) Tryd.func58 rfl rfl (Nat.le_of_ble_eq_true rfl) ?_
  refine gk_seq ?_
  refine gk_region ?_
  refine gk_yx rfl rfl (yx_box (vs := [_, _]) rfl rfl) fun b2 => ?_
  refine gk_yx rfl rfl (yx_alloc tf32 (zs := [_, _]) rfl) fun b3 => ?_
  refine gk_nil (gk_sub (T' := [(1,_), (2,_), (3,_)]) ⟨rfl, rfl, rfl, trivial⟩ ?_)
  refine gk_seq ?_
  refine gk_seq ?_
  refine gk_region ?_
  refine gk_y rfl rfl (y_load1 tf3 rfl (fun _ hw => has_box_cell (Rd.has (Has.rd hb) hw) rfl)) ?_
  refine gk_y rfl rfl (y_gtr rfl rfl) ?_
  refine gk_nil (gk_sub (T' := [(1,_), (2,_), (3,_), (5,_)]) ⟨rfl, rfl, rfl, rfl, trivial⟩ ?_)
  refine gk_cond rfl (fun hc5 => ?_) (fun hc5 => ?_)
  · have hc5 := of_decide_eq_true hc5
    refine gk_region ?_
    refine gk_y rfl rfl (y_fieldAddr fo32_0 rfl) ?_
    refine gk_y rfl rfl (y_loadB1 1 tf3 rfl rfl rfl) ?_
    refine gk_y rfl rfl (y_neg rfl) ?_
    refine gk_y rfl rfl (y_fieldAddr fo32_0 rfl) ?_
    refine gk_storeV 1 tf3 rfl rfl (vs := [_]) rfl rfl rfl rfl rfl ?_
    refine gk_nil (gk_sub (T' := [(1,_), (2,_), (3,_)]) ⟨rfl, rfl, rfl, trivial⟩ ?_)
    refine gk_seq ?_
    refine gk_any 6 (fun _ => mixed) (by kernel_rfl) ?_
    refine ph_y (y_load1 tf3 rfl (fun _ hw => has_box_cell (Rd.has (Has.rd hb) hw) rfl)) ?_
    refine ph_y (y_rem rfl rfl (by decide)) ?_
    refine ph_y (y_indexA 0 ae91 rfl rfl hk (by decide)) ?_
    refine ph_y (y_load1 tf90 rfl (fun _ hw => elems_cell (i := 0) (Rd.has (Has.rd hways) hw) rfl)) ?_
    refine ph_y (y_loadBA 1 tf32 rfl rfl (vs := [_, _]) rfl rfl) ?_
    refine ph_y (y_callV (fs := []) (cap := []) en173 rfl rfl (fun w hw => ways1_c (⟨(IntKind.i64.wrap (-p.x)), p.z⟩ : Pt) w)) ?_
    refine gk_sub (T' := [(3,_), (15,_)]) ⟨rfl, rfl, trivial⟩ ?_
    refine gk_storeV 0 tf32 rfl rfl (vs := [_, _]) rfl rfl rfl rfl rfl ?_
    refine gk_nil (gk_sub (T' := [(3,_)]) ⟨rfl, trivial⟩ ?_)
    refine gk_ret ?_
    refine gk_pure (rv_one rfl (r1_cellA (i := 0) (vs := [_, _]) tf32 rfl rfl rfl rfl)) ?_
    simp only [moveW, flipW, quartW, hk, if_pos hc5]; rfl
  · have hc5 := of_decide_eq_false hc5
    refine gk_skip ?_
    refine gk_seq ?_
    refine gk_any 6 (fun _ => mixed) (by kernel_rfl) ?_
    refine ph_y (y_load1 tf3 rfl (fun _ hw => has_box_cell (Rd.has (Has.rd hb) hw) rfl)) ?_
    refine ph_y (y_rem rfl rfl (by decide)) ?_
    refine ph_y (y_indexA 0 ae91 rfl rfl hk (by decide)) ?_
    refine ph_y (y_load1 tf90 rfl (fun _ hw => elems_cell (i := 0) (Rd.has (Has.rd hways) hw) rfl)) ?_
    refine ph_y (y_loadBA 1 tf32 rfl rfl (vs := [_, _]) rfl rfl) ?_
    refine ph_y (y_callV (fs := []) (cap := []) en173 rfl rfl (fun w hw => ways1_c p w)) ?_
    refine gk_sub (T' := [(3,_), (15,_)]) ⟨rfl, rfl, trivial⟩ ?_
    refine gk_storeV 0 tf32 rfl rfl (vs := [_, _]) rfl rfl rfl rfl rfl ?_
    refine gk_nil (gk_sub (T' := [(3,_)]) ⟨rfl, trivial⟩ ?_)
    refine gk_ret ?_
    refine gk_pure (rv_one rfl (r1_cellA (i := 0) (vs := [_, _]) tf32 rfl rfl rfl rfl)) ?_
    simp only [moveW, flipW, quartW, hk, if_neg hc5]; rfl

set_option maxRecDepth 100000 in
set_option maxHeartbeats 1000000 in
theorem turned1_1 (p : Pt) (way : Int) (b : Nat) (w : World) (hb : Has w (Box b [.int .i64 way] 3)) (hways : Has w (Elems (some ⟨0, 0, none⟩) 1 encVal [.func (.func 173) #[] #[], .func (.func 174) #[] #[], .func (.func 175) #[] #[], .func (.func 176) #[] #[]])) (hk : way.tmod 4 = 1) :
    Calls Tryd.prog 58 #[.agg #[.int .i64 p.x, .int .i64 p.z], .pointer (some ⟨b, 0, none⟩)] w (Pure (ptV (moveW way p)) w) := by
  refine calls_of_gk (vs := [_, _]) Tryd.func58 rfl rfl (Nat.le_of_ble_eq_true rfl) ?_
  refine gk_seq ?_
  refine gk_region ?_
  refine gk_yx rfl rfl (yx_box (vs := [_, _]) rfl rfl) fun b2 => ?_
  refine gk_yx rfl rfl (yx_alloc tf32 (zs := [_, _]) rfl) fun b3 => ?_
  refine gk_nil (gk_sub (T' := [(1,_), (2,_), (3,_)]) ⟨rfl, rfl, rfl, trivial⟩ ?_)
  refine gk_seq ?_
  refine gk_seq ?_
  refine gk_region ?_
  refine gk_y rfl rfl (y_load1 tf3 rfl (fun _ hw => has_box_cell (Rd.has (Has.rd hb) hw) rfl)) ?_
  refine gk_y rfl rfl (y_gtr rfl rfl) ?_
  refine gk_nil (gk_sub (T' := [(1,_), (2,_), (3,_), (5,_)]) ⟨rfl, rfl, rfl, rfl, trivial⟩ ?_)
  refine gk_cond rfl (fun hc5 => ?_) (fun hc5 => ?_)
  · have hc5 := of_decide_eq_true hc5
    refine gk_region ?_
    refine gk_y rfl rfl (y_fieldAddr fo32_0 rfl) ?_
    refine gk_y rfl rfl (y_loadB1 1 tf3 rfl rfl rfl) ?_
    refine gk_y rfl rfl (y_neg rfl) ?_
    refine gk_y rfl rfl (y_fieldAddr fo32_0 rfl) ?_
    refine gk_storeV 1 tf3 rfl rfl (vs := [_]) rfl rfl rfl rfl rfl ?_
    refine gk_nil (gk_sub (T' := [(1,_), (2,_), (3,_)]) ⟨rfl, rfl, rfl, trivial⟩ ?_)
    refine gk_seq ?_
    refine gk_any 6 (fun _ => mixed) (by kernel_rfl) ?_
    refine ph_y (y_load1 tf3 rfl (fun _ hw => has_box_cell (Rd.has (Has.rd hb) hw) rfl)) ?_
    refine ph_y (y_rem rfl rfl (by decide)) ?_
    refine ph_y (y_indexA 1 ae91 rfl rfl hk (by decide)) ?_
    refine ph_y (y_load1 tf90 rfl (fun _ hw => elems_cell (i := 1) (Rd.has (Has.rd hways) hw) rfl)) ?_
    refine ph_y (y_loadBA 1 tf32 rfl rfl (vs := [_, _]) rfl rfl) ?_
    refine ph_y (y_callV (fs := []) (cap := []) en174 rfl rfl (fun w hw => ways2_c (⟨(IntKind.i64.wrap (-p.x)), p.z⟩ : Pt) w)) ?_
    refine gk_sub (T' := [(3,_), (15,_)]) ⟨rfl, rfl, trivial⟩ ?_
    refine gk_storeV 0 tf32 rfl rfl (vs := [_, _]) rfl rfl rfl rfl rfl ?_
    refine gk_nil (gk_sub (T' := [(3,_)]) ⟨rfl, trivial⟩ ?_)
    refine gk_ret ?_
    refine gk_pure (rv_one rfl (r1_cellA (i := 0) (vs := [_, _]) tf32 rfl rfl rfl rfl)) ?_
    simp only [moveW, flipW, quartW, hk, if_pos hc5]; rfl
  · have hc5 := of_decide_eq_false hc5
    refine gk_skip ?_
    refine gk_seq ?_
    refine gk_any 6 (fun _ => mixed) (by kernel_rfl) ?_
    refine ph_y (y_load1 tf3 rfl (fun _ hw => has_box_cell (Rd.has (Has.rd hb) hw) rfl)) ?_
    refine ph_y (y_rem rfl rfl (by decide)) ?_
    refine ph_y (y_indexA 1 ae91 rfl rfl hk (by decide)) ?_
    refine ph_y (y_load1 tf90 rfl (fun _ hw => elems_cell (i := 1) (Rd.has (Has.rd hways) hw) rfl)) ?_
    refine ph_y (y_loadBA 1 tf32 rfl rfl (vs := [_, _]) rfl rfl) ?_
    refine ph_y (y_callV (fs := []) (cap := []) en174 rfl rfl (fun w hw => ways2_c p w)) ?_
    refine gk_sub (T' := [(3,_), (15,_)]) ⟨rfl, rfl, trivial⟩ ?_
    refine gk_storeV 0 tf32 rfl rfl (vs := [_, _]) rfl rfl rfl rfl rfl ?_
    refine gk_nil (gk_sub (T' := [(3,_)]) ⟨rfl, trivial⟩ ?_)
    refine gk_ret ?_
    refine gk_pure (rv_one rfl (r1_cellA (i := 0) (vs := [_, _]) tf32 rfl rfl rfl rfl)) ?_
    simp only [moveW, flipW, quartW, hk, if_neg hc5]; rfl

set_option maxRecDepth 100000 in
set_option maxHeartbeats 1000000 in
theorem turned1_2 (p : Pt) (way : Int) (b : Nat) (w : World) (hb : Has w (Box b [.int .i64 way] 3)) (hways : Has w (Elems (some ⟨0, 0, none⟩) 1 encVal [.func (.func 173) #[] #[], .func (.func 174) #[] #[], .func (.func 175) #[] #[], .func (.func 176) #[] #[]])) (hk : way.tmod 4 = 2) :
    Calls Tryd.prog 58 #[.agg #[.int .i64 p.x, .int .i64 p.z], .pointer (some ⟨b, 0, none⟩)] w (Pure (ptV (moveW way p)) w) := by
  refine calls_of_gk (vs := [_, _]) Tryd.func58 rfl rfl (Nat.le_of_ble_eq_true rfl) ?_
  refine gk_seq ?_
  refine gk_region ?_
  refine gk_yx rfl rfl (yx_box (vs := [_, _]) rfl rfl) fun b2 => ?_
  refine gk_yx rfl rfl (yx_alloc tf32 (zs := [_, _]) rfl) fun b3 => ?_
  refine gk_nil (gk_sub (T' := [(1,_), (2,_), (3,_)]) ⟨rfl, rfl, rfl, trivial⟩ ?_)
  refine gk_seq ?_
  refine gk_seq ?_
  refine gk_region ?_
  refine gk_y rfl rfl (y_load1 tf3 rfl (fun _ hw => has_box_cell (Rd.has (Has.rd hb) hw) rfl)) ?_
  refine gk_y rfl rfl (y_gtr rfl rfl) ?_
  refine gk_nil (gk_sub (T' := [(1,_), (2,_), (3,_), (5,_)]) ⟨rfl, rfl, rfl, rfl, trivial⟩ ?_)
  refine gk_cond rfl (fun hc5 => ?_) (fun hc5 => ?_)
  · have hc5 := of_decide_eq_true hc5
    refine gk_region ?_
    refine gk_y rfl rfl (y_fieldAddr fo32_0 rfl) ?_
    refine gk_y rfl rfl (y_loadB1 1 tf3 rfl rfl rfl) ?_
    refine gk_y rfl rfl (y_neg rfl) ?_
    refine gk_y rfl rfl (y_fieldAddr fo32_0 rfl) ?_
    refine gk_storeV 1 tf3 rfl rfl (vs := [_]) rfl rfl rfl rfl rfl ?_
    refine gk_nil (gk_sub (T' := [(1,_), (2,_), (3,_)]) ⟨rfl, rfl, rfl, trivial⟩ ?_)
    refine gk_seq ?_
    refine gk_any 6 (fun _ => mixed) (by kernel_rfl) ?_
    refine ph_y (y_load1 tf3 rfl (fun _ hw => has_box_cell (Rd.has (Has.rd hb) hw) rfl)) ?_
    refine ph_y (y_rem rfl rfl (by decide)) ?_
    refine ph_y (y_indexA 2 ae91 rfl rfl hk (by decide)) ?_
    refine ph_y (y_load1 tf90 rfl (fun _ hw => elems_cell (i := 2) (Rd.has (Has.rd hways) hw) rfl)) ?_
    refine ph_y (y_loadBA 1 tf32 rfl rfl (vs := [_, _]) rfl rfl) ?_
    refine ph_y (y_callV (fs := []) (cap := []) en175 rfl rfl (fun w hw => ways3_c (⟨(IntKind.i64.wrap (-p.x)), p.z⟩ : Pt) w)) ?_
    refine gk_sub (T' := [(3,_), (15,_)]) ⟨rfl, rfl, trivial⟩ ?_
    refine gk_storeV 0 tf32 rfl rfl (vs := [_, _]) rfl rfl rfl rfl rfl ?_
    refine gk_nil (gk_sub (T' := [(3,_)]) ⟨rfl, trivial⟩ ?_)
    refine gk_ret ?_
    refine gk_pure (rv_one rfl (r1_cellA (i := 0) (vs := [_, _]) tf32 rfl rfl rfl rfl)) ?_
    simp only [moveW, flipW, quartW, hk, if_pos hc5]; rfl
  · have hc5 := of_decide_eq_false hc5
    refine gk_skip ?_
    refine gk_seq ?_
    refine gk_any 6 (fun _ => mixed) (by kernel_rfl) ?_
    refine ph_y (y_load1 tf3 rfl (fun _ hw => has_box_cell (Rd.has (Has.rd hb) hw) rfl)) ?_
    refine ph_y (y_rem rfl rfl (by decide)) ?_
    refine ph_y (y_indexA 2 ae91 rfl rfl hk (by decide)) ?_
    refine ph_y (y_load1 tf90 rfl (fun _ hw => elems_cell (i := 2) (Rd.has (Has.rd hways) hw) rfl)) ?_
    refine ph_y (y_loadBA 1 tf32 rfl rfl (vs := [_, _]) rfl rfl) ?_
    refine ph_y (y_callV (fs := []) (cap := []) en175 rfl rfl (fun w hw => ways3_c p w)) ?_
    refine gk_sub (T' := [(3,_), (15,_)]) ⟨rfl, rfl, trivial⟩ ?_
    refine gk_storeV 0 tf32 rfl rfl (vs := [_, _]) rfl rfl rfl rfl rfl ?_
    refine gk_nil (gk_sub (T' := [(3,_)]) ⟨rfl, trivial⟩ ?_)
    refine gk_ret ?_
    refine gk_pure (rv_one rfl (r1_cellA (i := 0) (vs := [_, _]) tf32 rfl rfl rfl rfl)) ?_
    simp only [moveW, flipW, quartW, hk, if_neg hc5]; rfl

set_option maxRecDepth 100000 in
set_option maxHeartbeats 1000000 in
theorem turned1_3 (p : Pt) (way : Int) (b : Nat) (w : World) (hb : Has w (Box b [.int .i64 way] 3)) (hways : Has w (Elems (some ⟨0, 0, none⟩) 1 encVal [.func (.func 173) #[] #[], .func (.func 174) #[] #[], .func (.func 175) #[] #[], .func (.func 176) #[] #[]])) (hk : way.tmod 4 = 3) :
    Calls Tryd.prog 58 #[.agg #[.int .i64 p.x, .int .i64 p.z], .pointer (some ⟨b, 0, none⟩)] w (Pure (ptV (moveW way p)) w) := by
  refine calls_of_gk (vs := [_, _]) Tryd.func58 rfl rfl (Nat.le_of_ble_eq_true rfl) ?_
  refine gk_seq ?_
  refine gk_region ?_
  refine gk_yx rfl rfl (yx_box (vs := [_, _]) rfl rfl) fun b2 => ?_
  refine gk_yx rfl rfl (yx_alloc tf32 (zs := [_, _]) rfl) fun b3 => ?_
  refine gk_nil (gk_sub (T' := [(1,_), (2,_), (3,_)]) ⟨rfl, rfl, rfl, trivial⟩ ?_)
  refine gk_seq ?_
  refine gk_seq ?_
  refine gk_region ?_
  refine gk_y rfl rfl (y_load1 tf3 rfl (fun _ hw => has_box_cell (Rd.has (Has.rd hb) hw) rfl)) ?_
  refine gk_y rfl rfl (y_gtr rfl rfl) ?_
  refine gk_nil (gk_sub (T' := [(1,_), (2,_), (3,_), (5,_)]) ⟨rfl, rfl, rfl, rfl, trivial⟩ ?_)
  refine gk_cond rfl (fun hc5 => ?_) (fun hc5 => ?_)
  · have hc5 := of_decide_eq_true hc5
    refine gk_region ?_
    refine gk_y rfl rfl (y_fieldAddr fo32_0 rfl) ?_
    refine gk_y rfl rfl (y_loadB1 1 tf3 rfl rfl rfl) ?_
    refine gk_y rfl rfl (y_neg rfl) ?_
    refine gk_y rfl rfl (y_fieldAddr fo32_0 rfl) ?_
    refine gk_storeV 1 tf3 rfl rfl (vs := [_]) rfl rfl rfl rfl rfl ?_
    refine gk_nil (gk_sub (T' := [(1,_), (2,_), (3,_)]) ⟨rfl, rfl, rfl, trivial⟩ ?_)
    refine gk_seq ?_
    refine gk_any 6 (fun _ => mixed) (by kernel_rfl) ?_
    refine ph_y (y_load1 tf3 rfl (fun _ hw => has_box_cell (Rd.has (Has.rd hb) hw) rfl)) ?_
    refine ph_y (y_rem rfl rfl (by decide)) ?_
    refine ph_y (y_indexA 3 ae91 rfl rfl hk (by decide)) ?_
    refine ph_y (y_load1 tf90 rfl (fun _ hw => elems_cell (i := 3) (Rd.has (Has.rd hways) hw) rfl)) ?_
    refine ph_y (y_loadBA 1 tf32 rfl rfl (vs := [_, _]) rfl rfl) ?_
    refine ph_y (y_callV (fs := []) (cap := []) en176 rfl rfl (fun w hw => ways4_c (⟨(IntKind.i64.wrap (-p.x)), p.z⟩ : Pt) w)) ?_
    refine gk_sub (T' := [(3,_), (15,_)]) ⟨rfl, rfl, trivial⟩ ?_
    refine gk_storeV 0 tf32 rfl rfl (vs := [_, _]) rfl rfl rfl rfl rfl ?_
    refine gk_nil (gk_sub (T' := [(3,_)]) ⟨rfl, trivial⟩ ?_)
    refine gk_ret ?_
    refine gk_pure (rv_one rfl (r1_cellA (i := 0) (vs := [_, _]) tf32 rfl rfl rfl rfl)) ?_
    simp only [moveW, flipW, quartW, hk, if_pos hc5]; rfl
  · have hc5 := of_decide_eq_false hc5
    refine gk_skip ?_
    refine gk_seq ?_
    refine gk_any 6 (fun _ => mixed) (by kernel_rfl) ?_
    refine ph_y (y_load1 tf3 rfl (fun _ hw => has_box_cell (Rd.has (Has.rd hb) hw) rfl)) ?_
    refine ph_y (y_rem rfl rfl (by decide)) ?_
    refine ph_y (y_indexA 3 ae91 rfl rfl hk (by decide)) ?_
    refine ph_y (y_load1 tf90 rfl (fun _ hw => elems_cell (i := 3) (Rd.has (Has.rd hways) hw) rfl)) ?_
    refine ph_y (y_loadBA 1 tf32 rfl rfl (vs := [_, _]) rfl rfl) ?_
    refine ph_y (y_callV (fs := []) (cap := []) en176 rfl rfl (fun w hw => ways4_c p w)) ?_
    refine gk_sub (T' := [(3,_), (15,_)]) ⟨rfl, rfl, trivial⟩ ?_
    refine gk_storeV 0 tf32 rfl rfl (vs := [_, _]) rfl rfl rfl rfl rfl ?_
    refine gk_nil (gk_sub (T' := [(3,_)]) ⟨rfl, trivial⟩ ?_)
    refine gk_ret ?_
    refine gk_pure (rv_one rfl (r1_cellA (i := 0) (vs := [_, _]) tf32 rfl rfl rfl rfl)) ?_
    simp only [moveW, flipW, quartW, hk, if_neg hc5]; rfl

theorem turned1_c (p : Pt) (way : Int) (b : Nat) (w : World) (hb : Has w (Box b [.int .i64 way] 3)) (hways : Has w (Elems (some ⟨0, 0, none⟩) 1 encVal [.func (.func 173) #[] #[], .func (.func 174) #[] #[], .func (.func 175) #[] #[], .func (.func 176) #[] #[]])) (h0 : 0 ≤ way) : Calls Tryd.prog 58 #[ptV p, .pointer (some ⟨b, 0, none⟩)] w (Pure (ptV (moveW way p)) w) := by
  have h1 : way.tmod 4 < 4 := Int.tmod_lt_of_pos _ (by decide)
  have h2 : 0 ≤ way.tmod 4 := Int.tmod_nonneg _ h0
  rcases (show way.tmod 4 = 0 ∨ way.tmod 4 = 1 ∨ way.tmod 4 = 2 ∨ way.tmod 4 = 3 by omega) with h | h | h | h
  · exact turned1_0 p way b w hb hways h
  · exact turned1_1 p way b w hb hways h
  · exact turned1_2 p way b w hb hways h
  · exact turned1_3 p way b w hb hways h

def RevI (l m : List Pt) (i : Int) : Prop := ∀ k : Nat, k < l.length → m.getD k default = if (k : Int) < i ∨ (l.length : Int) - 1 - i < (k : Int) then l.getD (l.length - 1 - k) default else l.getD k default
theorem rev_step {l m : List Pt} {i j : Int} (h0 : 0 ≤ i) (hj : j = (l.length : Int) - 1 - i) (hij : i < j) (hl : m.length = l.length) (h : RevI l m i) : RevI l ((m.set i.toNat (m.getD j.toNat default)).set j.toNat (m.getD i.toNat default)) (i + 1) := fun k hk => by
  have hm : ∀ (a : List Pt) (n : Nat) (x : Pt) (k : Nat), (a.set n x).getD k default = if k = n ∧ n < a.length then x else a.getD k default := fun a n x k => by
    simp only [List.getD_eq_getElem?_getD, List.getElem?_set]
    by_cases h1 : n = k
    · subst h1
      by_cases h2 : n < a.length
      · simp [h2]
      · simp [h2]
    · rw [if_neg h1, if_neg (fun h => h1 h.1.symm)]
  rw [hm, hm, List.length_set]
  have hi := h i.toNat (by omega)
  have hjj := h j.toNat (by omega)
  rw [if_neg (by omega)] at hi hjj
  by_cases hkj : k = j.toNat
  · rw [if_pos ⟨hkj, by omega⟩, if_pos (by omega), hi]
    congr 1
    omega
  · rw [if_neg (fun h => hkj h.1)]
    by_cases hki : k = i.toNat
    · rw [if_pos ⟨hki, by omega⟩, if_pos (by omega), hjj]
      congr 1
      omega
    · rw [if_neg (fun h => hki h.1), h k hk]
      by_cases hc : (k : Int) < i ∨ (l.length : Int) - 1 - i < (k : Int)
      · rw [if_pos hc, if_pos (by omega)]
      · rw [if_neg hc, if_neg (by omega)]
theorem rev_end {l m : List Pt} {i j : Int} (_h0 : 0 ≤ i) (hj : j = (l.length : Int) - 1 - i) (hij : ¬ i < j) (hl : m.length = l.length) (h : RevI l m i) : m = l.reverse := by
  apply List.ext_getElem
  · rw [List.length_reverse, hl]
  · intro k h1 h2
    have := h k (by omega)
    rw [List.getElem_reverse]
    have e1 : m.getD k default = m[k] := by simp [h1]
    rw [← e1, this]
    have hk : l.length - 1 - k < l.length := by omega
    split
    · simp [hk]
    · rename_i hc
      have : k = l.length - 1 - k := by omega
      have h4 : l.getD (l.length - 1 - k) default = l[l.length - 1 - k] := by simp [hk]
      rw [← h4]
      exact congrArg (fun n => l.getD n default) this

set_option maxRecDepth 100000 in
set_option maxHeartbeats 1000000 in
theorem reverse_c (a : Option Addr) (cap : Nat) (l : List Pt) (w : World) (B : Nat → Prop) (hB : ∀ k, B k → k < w.heap.size) (hA : (Row a 2 cap 32 encPt l).A B w) (hs : Small l.length) :
    Calls Tryd.prog 59 #[.slice a l.length cap] w (Turns (fun _ : Unit => .tuple #[]) (fun _ => Row a 2 cap 32 encPt l.reverse) (fun _ => True) B w) := by
  refine calls_of_gkB hB hA (vs := [_]) Tryd.func59 rfl rfl (Nat.le_of_ble_eq_true rfl) ?_
  refine gk_seq ?_
  refine gk_region ?_
  refine gk_y rfl rfl (y_move rfl) ?_
  refine gk_y rfl rfl (y_lenS (Tryd.underlying31) rfl) ?_
  refine gk_y rfl rfl (y_subI rfl rfl (by omega) (by omega)) ?_
  refine gk_y rfl rfl (y_assign rfl) ?_
  refine gk_y rfl rfl (y_assign rfl) ?_
  refine gk_nil (gk_sub (T' := [(0,_), (2,_), (3,_)]) ⟨rfl, rfl, rfl, trivial⟩ ?_)
  refine gk_block ?_
  refine gk_loop (X := Int × Int × List Pt) (fun ⟨i, j, m⟩ => [(0, .slice a l.length cap), (2, .int .i64 i), (3, .int .i64 j)]) (fun ⟨i, j, m⟩ => [Row a 2 cap 32 encPt m]) (fun ⟨i, j, m⟩ => (0 ≤ i ∧ j = (l.length : Int) - 1 - i ∧ (i ≤ j + 1 ∨ i = 0) ∧ m.length = l.length ∧ RevI l m i)) (fun ⟨i, j, m⟩ => (j - i + 1).toNat) (0, (l.length : Int) - 1, l) ⟨rfl, rfl, rfl, trivial⟩ rfl ?_ ?_
  · exact ⟨by omega, by omega, .inr rfl, rfl, fun k hk => by rw [if_neg (by omega)]⟩
  · rintro ⟨i, j, m⟩ hI
    obtain ⟨g0, g1, g5, g3, g2⟩ := hI
    refine gk_seq ?_
    refine gk_seq ?_
    refine gk_region ?_
    refine gk_y rfl rfl (y_move rfl) ?_
    refine gk_y rfl rfl (y_move rfl) ?_
    refine gk_y rfl rfl (y_lss rfl rfl) ?_
    refine gk_nil (gk_sub (T' := [(0,_), (2,_), (3,_), (9,_)]) ⟨rfl, rfl, rfl, rfl, trivial⟩ ?_)
    refine gk_cond rfl (fun hc9 => ?_) (fun hc9 => ?_)
    · have hc9 := of_decide_eq_true hc9
      refine gk_skip ?_
      refine gk_seq ?_
      refine gk_block ?_
      refine gk_anyS (R' := Row a 2 cap 32 encPt ((m).set (i).toNat ⟨((m.getD (j).toNat default).x), ((m.getD (j).toNat default).z)⟩)) 13 [2, 3] 0 (fun _ => mixed) rfl rfl (by kernel_rfl) rfl ?_
      refine phs_y (y_move rfl) ?_
      refine phs_y (y_move rfl) ?_
      refine phs_y (y_move rfl) ?_
      refine phs_y (y_move rfl) ?_
      refine phs_y (y_move rfl) ?_
      refine phs_y (y_move rfl) ?_
      refine phs_y (y_indexN se31 rfl rfl (fun _ hw => (has_row encPt_ok (hw.has (p := 0) rfl))) (by first | exact g3 | (rw [List.length_set]; exact g3)) (by omega) (by first | omega | (rw [List.length_set]; omega))) ?_
      refine phs_y (y_loadE (vs := [_, _]) tf32 rfl (fun _ hw => (has_row encPt_ok (hw.has (p := 0) rfl))) (by omega) (by omega) rfl) ?_
      refine phs_y (y_move rfl) ?_
      refine phs_y (y_move rfl) ?_
      refine phs_y (y_indexN se31 rfl rfl (fun _ hw => (has_row encPt_ok (hw.has (p := 0) rfl))) (by first | exact g3 | (rw [List.length_set]; exact g3)) (by omega) (by first | omega | (rw [List.length_set]; omega))) ?_
      refine phs_y (y_loadE (vs := [_, _]) tf32 rfl (fun _ hw => (has_row encPt_ok (hw.has (p := 0) rfl))) (by omega) (by omega) rfl) ?_
      refine phs_y (y_indexN se31 rfl rfl (fun _ hw => (has_row encPt_ok (hw.has (p := 0) rfl))) (by first | exact g3 | (rw [List.length_set]; exact g3)) (by omega) (by first | omega | (rw [List.length_set]; omega))) ?_
      refine ⟨so_elem encPt_ok tf32 rfl rfl rfl (by rfl) (by omega) (by first | omega | (rw [List.length_set]; omega)), ?_⟩
      refine gk_sub (T' := [(0,_), (2,_), (3,_), (16,_), (17,_), (25,_)]) ⟨rfl, rfl, rfl, rfl, rfl, rfl, trivial⟩ ?_
      refine gk_y rfl rfl (y_indexN se31 rfl rfl (fun _ hw => (has_row encPt_ok (hw.has (p := 0) rfl))) (by first | exact g3 | (rw [List.length_set]; exact g3)) (by omega) (by first | omega | (rw [List.length_set]; omega))) ?_
      refine gk_storeE (x' := ⟨((m.getD (i).toNat default).x), ((m.getD (i).toNat default).z)⟩) 0 encPt_ok tf32 rfl rfl (vs := [_, _]) rfl rfl rfl (by omega) (by first | omega | (rw [List.length_set]; omega)) ?_
      refine gk_nil (gk_sub (T' := [(0,_), (2,_), (3,_)]) ⟨rfl, rfl, rfl, trivial⟩ ?_)
      refine gk_region ?_
      refine gk_y rfl rfl (y_move rfl) ?_
      refine gk_y rfl rfl (y_addI rfl rfl (by omega) (by omega)) ?_
      refine gk_y rfl rfl (y_move rfl) ?_
      refine gk_y rfl rfl (y_subI rfl rfl (by omega) (by omega)) ?_
      refine gk_y rfl rfl (y_assign rfl) ?_
      refine gk_y rfl rfl (y_assign rfl) ?_
      refine gk_nil (gk_sub (T' := [(0,_), (2,_), (3,_)]) ⟨rfl, rfl, rfl, trivial⟩ ?_)
      exact gk_next (i + 1, j - 1, _) ⟨rfl, rfl, rfl, trivial⟩ rfl ⟨by omega, by omega, by omega, by rw [List.length_set, List.length_set]; exact g3, rev_step g0 g1 hc9 g3 g2⟩ (by simp only []; omega)
    · have hc9 := of_decide_eq_false hc9
      obtain rfl : m = l.reverse := rev_end g0 g1 hc9 g3 g2
      refine gk_exit rfl ?_
      refine gk_turns () 0 (rv_none rfl) rfl rfl trivial

set_option maxRecDepth 100000 in
set_option maxHeartbeats 1000000 in
theorem Turned_c (a : Option Addr) (cap : Nat) (s : Stn) (way : Int) (w : World) (hl : Has w (Pts a s.shape)) (hs : Small s.shape.length) (hways : Has w (Elems (some ⟨0, 0, none⟩) 1 encVal [.func (.func 173) #[] #[], .func (.func 174) #[] #[], .func (.func 175) #[] #[], .func (.func 176) #[] #[]])) :
    Calls Tryd.prog 19 #[.agg #[.string s.name, .slice a s.shape.length cap, .int .i64 s.depth, .int .i64 s.density, .int .i64 s.grain.x, .int .i64 s.grain.z], .int .i64 way] w (Gives (fun z : Option Addr × Nat => .tuple #[stnV (turnedS s way) z.1 z.2, .int .i64 (turnedE s way)]) (fun z => Row z.1 2 z.2 32 encPt (turnedS s way).shape) w) := by
  refine calls_of_gk (vs := [_, _]) Tryd.func19 rfl rfl (Nat.le_of_ble_eq_true rfl) ?_
  refine gk_seq ?_
  refine gk_region ?_
  refine gk_yx rfl rfl (yx_box (vs := [_, _, _, _, _, _]) rfl rfl) fun b2 => ?_
  refine gk_yx rfl rfl (yx_box (vs := [_]) rfl rfl) fun b3 => ?_
  refine gk_yx rfl rfl (yx_alloc tf34 (zs := [_, _, _, _, _, _]) rfl) fun b4 => ?_
  refine gk_y rfl rfl (y_assign rfl) ?_
  refine gk_nil (gk_sub (T' := [(2,_), (3,_), (4,_), (5,_)]) ⟨rfl, rfl, rfl, rfl, trivial⟩ ?_)
  refine gk_seq ?_
  refine gk_seq ?_
  refine gk_region ?_
  refine gk_y rfl rfl (y_loadBA 2 tf34 rfl rfl (vs := [_, _, _, _, _, _]) rfl rfl) ?_
  refine gk_y rfl rfl (y_call en17 rfl (fun w hw => check_c _ _ s w (Rd.has (Has.rd hl) hw) (by assumption))) ?_
  refine gk_y rfl rfl (y_assign rfl) ?_
  refine gk_nil (gk_sub (T' := [(2,_), (3,_), (4,_), (5,_), (6,_)]) ⟨rfl, rfl, rfl, rfl, rfl, trivial⟩ ?_)
  refine gk_seq ?_
  refine gk_region ?_
  refine gk_y rfl rfl (y_move rfl) ?_
  refine gk_y rfl rfl (y_neq rfl rfl) ?_
  refine gk_nil (gk_sub (T' := [(2,_), (3,_), (4,_), (5,_), (6,_), (14,_)]) ⟨rfl, rfl, rfl, rfl, rfl, rfl, trivial⟩ ?_)
  refine gk_cond rfl (fun hc14 => ?_) (fun hc14 => ?_)
  · have hk : ¬ checkI s = 0 := by simpa using hc14
    have hE : turnedE s way = checkI s := by rw [turnedE, if_pos hk]
    have hT := turned_bad hE hk
    refine gk_newNil 32 encPt 2 ?_
    refine gk_seq ?_
    refine gk_region ?_
    refine gk_y rfl rfl (y_buildL (parts := []) rfl bd34_) ?_
    refine gk_y rfl rfl (y_move rfl) ?_
    refine gk_storeV 1 tf34 rfl rfl (vs := [_, _, _, _, _, _]) rfl rfl rfl rfl rfl ?_
    refine gk_y rfl rfl (y_assign rfl) ?_
    refine gk_nil (gk_sub (T' := [(2,_), (3,_), (4,_), (5,_)]) ⟨rfl, rfl, rfl, rfl, trivial⟩ ?_)
    refine gk_ret ?_
    refine gk_gives (none, 0) 0 (rv_two rfl (r1_cellA (i := 1) (vs := [_, _, _, _, _, _]) tf34 rfl rfl rfl rfl) (r1_tmp rfl)) ?_ (by rw [hT]; rfl)
    rw [hT, hE]; try rfl
  · have hk : checkI s = 0 := by simpa using hc14
    have hlen := check_len hk
    refine gk_skip ?_
    refine gk_seq ?_
    refine gk_seq ?_
    refine gk_region ?_
    refine gk_y rfl rfl (y_loadB1 1 tf3 rfl rfl rfl) ?_
    refine gk_y rfl rfl (y_call en55 rfl (fun w hw => within_c _ _ _ w)) ?_
    refine gk_y rfl rfl (y_not rfl) ?_
    refine gk_nil (gk_sub (T' := [(2,_), (3,_), (4,_), (5,_), (19,_)]) ⟨rfl, rfl, rfl, rfl, rfl, trivial⟩ ?_)
    refine gk_cond rfl (fun hc19 => ?_) (fun hc19 => ?_)
    · have hE : turnedE s way = 3 := by rw [turnedE, if_neg (fun h => h hk), if_pos (by simpa only [Bool.not_eq_true'] using hc19)]
      have hT := turned_bad hE (by decide)
      refine gk_newNil 32 encPt 2 ?_
      refine gk_seq ?_
      refine gk_region ?_
      refine gk_y rfl rfl (y_buildL (parts := []) rfl bd34_) ?_
      refine gk_storeV 1 tf34 rfl rfl (vs := [_, _, _, _, _, _]) rfl rfl rfl rfl rfl ?_
      refine gk_y rfl rfl (y_assign rfl) ?_
      refine gk_nil (gk_sub (T' := [(2,_), (3,_), (4,_), (5,_)]) ⟨rfl, rfl, rfl, rfl, trivial⟩ ?_)
      refine gk_ret ?_
      refine gk_gives (none, 0) 0 (rv_two rfl (r1_cellA (i := 1) (vs := [_, _, _, _, _, _]) tf34 rfl rfl rfl rfl) (r1_tmp rfl)) ?_ (by rw [hT]; rfl)
      rw [hT, hE]; try rfl
    · have hw7 : (decide (0 ≤ way) && decide (way ≤ 7)) = true := by simpa only [Bool.not_eq_false'] using hc19
      have hE : turnedE s way = 0 := by rw [turnedE, if_neg (fun h => h hk), if_neg (by rw [hw7]; exact fun h => Bool.false_ne_true h.symm)]
      have hT := turned_good hE
      have h0 : 0 ≤ way := by simp at hw7; omega
      refine gk_skip ?_
      refine gk_seq ?_
      refine gk_region ?_
      refine gk_y rfl rfl (y_makeFunc («as» := []) (bs := [_]) rfl rfl) ?_
      refine gk_y rfl rfl (y_assign rfl) ?_
      refine gk_nil (gk_sub (T' := [(2,_), (3,_), (4,_), (5,_), (7,_)]) ⟨rfl, rfl, rfl, rfl, rfl, trivial⟩ ?_)
      refine gk_seq ?_
      refine gk_region ?_
      refine gk_y rfl rfl (y_loadBA 2 tf34 rfl rfl (vs := [_, _, _, _, _, _]) rfl rfl) ?_
      refine gk_yx rfl rfl (yx_alloc tf34 (zs := [_, _, _, _, _, _]) rfl) fun b8 => ?_
      refine gk_storeV 0 tf34 rfl rfl (vs := [_, _, _, _, _, _]) rfl rfl rfl rfl rfl ?_
      refine gk_nil (gk_sub (T' := [(2,_), (3,_), (4,_), (5,_), (7,_), (8,_)]) ⟨rfl, rfl, rfl, rfl, rfl, rfl, trivial⟩ ?_)
      refine gk_seq ?_
      refine gk_region ?_
      refine gk_y rfl rfl (y_fieldAddr fo34_1 rfl) ?_
      refine gk_storeV 0 tf31 rfl rfl (vs := [_]) rfl rfl rfl rfl rfl ?_
      refine gk_nil (gk_sub (T' := [(2,_), (3,_), (4,_), (5,_), (7,_), (8,_)]) ⟨rfl, rfl, rfl, rfl, rfl, rfl, trivial⟩ ?_)
      refine gk_seq ?_
      refine gk_seq ?_
      refine gk_region ?_
      refine gk_y rfl rfl (y_fieldAddr fo34_1 rfl) ?_
      refine gk_y rfl rfl (y_loadB1 3 tf31 rfl rfl rfl) ?_
      refine gk_y rfl rfl (y_lenS (Tryd.underlying31) rfl) ?_
      refine gk_y rfl rfl (y_move rfl) ?_
      refine gk_nil (gk_sub (T' := [(2,_), (3,_), (4,_), (5,_), (7,_), (8,_), (25,_), (26,_), (27,_)]) ⟨rfl, rfl, rfl, rfl, rfl, rfl, rfl, rfl, rfl, trivial⟩ ?_)
      refine gk_block ?_
      refine gk_newNil 32 encPt 2 ?_
      refine gk_loop (X := Int × Option Addr × Nat × List Pt) (fun ⟨i, b, bc, m⟩ => [(2, .pointer (some ⟨b2, 0, none⟩)), (3, .pointer (some ⟨b3, 0, none⟩)), (4, .pointer (some ⟨b4, 0, none⟩)), (5, .int .i64 0), (7, .func (.func 58) #[] #[.pointer (some ⟨b3, 0, none⟩)]), (8, .pointer (some ⟨b8, 0, none⟩)), (25, .slice a s.shape.length cap), (26, .int .i64 (s.shape.length : Int)), (27, .int .i64 i)]) (fun ⟨i, b, bc, m⟩ => [Row b 2 bc 32 encPt m, Box b8 [.string s.name, .slice b m.length bc, .int .i64 s.depth, .int .i64 s.density, .int .i64 s.grain.x, .int .i64 s.grain.z] 34, Box b4 [.string ⟨#[]⟩, .slice none 0 0, .int .i64 0, .int .i64 0, .int .i64 0, .int .i64 0] 34, Box b3 [.int .i64 way] 3, Box b2 [.string s.name, .slice a s.shape.length cap, .int .i64 s.depth, .int .i64 s.density, .int .i64 s.grain.x, .int .i64 s.grain.z] 34]) (fun ⟨i, b, bc, m⟩ => (0 ≤ i ∧ i ≤ s.shape.length ∧ m = (s.shape.take i.toNat).map (moveW way) ∧ m.length ≤ s.shape.length)) (fun ⟨i, b, bc, m⟩ => (s.shape.length - i).toNat) (0, none, 0, []) ⟨rfl, rfl, rfl, rfl, rfl, rfl, rfl, rfl, rfl, trivial⟩ rfl ?_ ?_
      · exact ⟨by omega, by omega, rfl, by simp⟩
      · rintro ⟨i, b, bc, m⟩ hI
        obtain ⟨g0, g1, g2, g3⟩ := hI
        refine gk_seq ?_
        refine gk_region ?_
        refine gk_y rfl rfl (y_lss rfl rfl) ?_
        refine gk_nil (gk_sub (T' := [(2,_), (3,_), (4,_), (5,_), (7,_), (8,_), (25,_), (26,_), (27,_), (28,_)]) ⟨rfl, rfl, rfl, rfl, rfl, rfl, rfl, rfl, rfl, rfl, trivial⟩ ?_)
        refine gk_seq ?_
        refine gk_cond rfl (fun hc28 => ?_) (fun hc28 => ?_)
        · simp only [decide_eq_true_eq] at hc28
          refine gk_skip ?_
          refine gk_seq ?_
          refine gk_block ?_
          refine gk_seq ?_
          refine gk_region ?_
          refine gk_y rfl rfl (y_indexE se31 rfl rfl (fun _ hw => (Rd.has (Has.rd hl) hw)) (by omega) (by omega)) ?_
          refine gk_y rfl rfl (y_loadE (vs := [_, _]) tf32 rfl (fun _ hw => (Rd.has (Has.rd hl) hw)) (by omega) (by omega) rfl) ?_
          refine gk_yx rfl rfl (yx_alloc tf32 (zs := [_, _]) rfl) fun b10 => ?_
          refine gk_storeV 0 tf32 rfl rfl (vs := [_, _]) rfl rfl rfl rfl rfl ?_
          refine gk_nil (gk_sub (T' := [(2,_), (3,_), (4,_), (5,_), (7,_), (8,_), (10,_), (25,_), (26,_), (27,_)]) ⟨rfl, rfl, rfl, rfl, rfl, rfl, rfl, rfl, rfl, rfl, trivial⟩ ?_)
          refine gk_any 6 (fun _ => mixed) (by kernel_rfl) ?_
          refine ph_y (y_fieldAddr fo34_1 rfl) ?_
          refine ph_y (y_loadB1 2 tf31 rfl rfl rfl) ?_
          refine ph_y (y_move rfl) ?_
          refine ph_y (y_loadBA 0 tf32 rfl rfl (vs := [_, _]) rfl rfl) ?_
          refine ph_y (y_callV (fs := []) (cap := [_]) en58 rfl rfl (fun w hw => turned1_c (s.shape.getD (i).toNat default) way _ w (hw.has (p := 4) rfl) (Rd.has (Has.rd hways) hw) h0)) ?_
          refine ph_yx (yx_buildSlice rfl (bs31_1 _ _) encPt_ok rfl) ?_
          intro b36
          refine gk_sub (T' := [(2,_), (3,_), (4,_), (5,_), (7,_), (8,_), (25,_), (26,_), (27,_), (32,_), (36,_)]) ⟨rfl, rfl, rfl, rfl, rfl, rfl, rfl, rfl, rfl, rfl, rfl, trivial⟩ ?_
          refine gk_append (m := [⟨((moveW way (s.shape.getD (i).toNat default)).x), ((moveW way (s.shape.getD (i).toNat default)).z)⟩]) 2 af31 encPt_ok rfl rfl rfl rfl (fun _ hw => (has_row encPt_ok (hw.has (p := 0) rfl))) (by first | omega | (simp only [List.length_cons, List.length_nil]; omega)) (by first | (unfold maxLen; omega) | (simp only [List.length_cons, List.length_nil, maxLen]; omega)) fun a37 c37 => ?_
          refine gk_y rfl rfl (y_fieldAddr fo34_1 rfl) ?_
          refine gk_storeV 3 tf31 rfl rfl (vs := [_]) rfl rfl rfl rfl rfl ?_
          refine gk_nil (gk_sub (T' := [(2,_), (3,_), (4,_), (5,_), (7,_), (8,_), (25,_), (26,_), (27,_)]) ⟨rfl, rfl, rfl, rfl, rfl, rfl, rfl, rfl, rfl, trivial⟩ ?_)
          refine gk_region ?_
          refine gk_y rfl rfl (y_addI rfl rfl (by omega) (by omega)) ?_
          refine gk_y rfl rfl (y_move rfl) ?_
          refine gk_nil (gk_sub (T' := [(2,_), (3,_), (4,_), (5,_), (7,_), (8,_), (25,_), (26,_), (27,_)]) ⟨rfl, rfl, rfl, rfl, rfl, rfl, rfl, rfl, rfl, trivial⟩ ?_)
          refine gk_dropAt 0 rfl ?_
          refine gk_dropAt 0 rfl ?_
          exact gk_next (i + 1, a37, c37, _) ⟨rfl, rfl, rfl, rfl, rfl, rfl, rfl, rfl, rfl, trivial⟩ rfl ⟨by omega, by omega, by rw [map_take_succ g0 (by omega), ← g2], by rw [List.length_append, g2, List.length_map, List.length_take]; simp; omega⟩ (by simp only []; omega)
        · simp only [decide_eq_false_iff_not] at hc28
          refine gk_exit rfl ?_
          refine gk_seq ?_
          refine gk_seq ?_
          refine gk_region ?_
          refine gk_y rfl rfl (y_loadB1 3 tf3 rfl rfl rfl) ?_
          refine gk_y rfl rfl (y_gtr rfl rfl) ?_
          refine gk_nil (gk_sub (T' := [(2,_), (4,_), (5,_), (7,_), (8,_), (41,_)]) ⟨rfl, rfl, rfl, rfl, rfl, rfl, trivial⟩ ?_)
          have hm : m = s.shape.map (moveW way) := by rw [g2, take_all (by omega)]
          have hml : m.length = s.shape.length := by rw [hm, List.length_map]
          have hsm : Small m.length := by unfold Small; omega
          refine gk_cond rfl (fun hc41 => ?_) (fun hc41 => ?_)
          · have hc41 := of_decide_eq_true hc41
            have hL : turnedL s way = m.reverse := by rw [turnedL, if_pos hc41, hm]
            rw [hL] at hT
            refine gk_region ?_
            refine gk_y rfl rfl (y_fieldAddr fo34_1 rfl) ?_
            refine gk_y rfl rfl (y_loadB1 1 tf31 rfl rfl rfl) ?_
            refine gk_callU 0 en59 rfl rfl rfl (fun w B hF => reverse_c _ _ m w B (fun k hk => (hF.own k hk).2) hF.A (by assumption)) fun u44 hq44 => ?_
            refine gk_nil (gk_sub (T' := [(2,_), (4,_), (5,_), (7,_), (8,_)]) ⟨rfl, rfl, rfl, rfl, rfl, trivial⟩ ?_)
            refine gk_conv (R' := Box b8 [.string s.name, .slice b (m.reverse).length bc, .int .i64 s.depth, .int .i64 s.density, .int .i64 s.grain.x, .int .i64 s.grain.z] 34) 1 rfl (fun B w hA => by rw [show m.reverse.length = m.length from List.length_reverse ..]; exact hA) ?_
            refine gk_seq ?_
            refine gk_any 8 (fun _ => mixed) (by kernel_rfl) ?_
            refine ph_y (y_fieldAddr fo34_1 rfl) ?_
            refine ph_y (y_loadB1 1 tf31 rfl rfl rfl) ?_
            refine ph_yx (yx_call en60 rfl (fun w hw => settled_c _ _ (m.reverse) w (has_row encPt_ok (hw.has (p := 0) rfl)) (by first | assumption | (rw [List.length_reverse]; assumption)) (by first | omega | (rw [List.length_reverse]; omega)) (row_cap (hw.has (p := 0) rfl)))) ?_
            refine ph_y (y_move rfl) ?_
            refine ph_y (y_fieldAddr fo34_4 rfl) ?_
            refine ph_y (y_loadBA 4 tf32 rfl rfl (vs := [_, _]) rfl rfl) ?_
            refine ph_y (fun p47 => y_callV (fs := []) (cap := [_]) en58 rfl rfl (fun w hw => turned1_c s.grain way _ w (hw.has (p := 4) rfl) (Rd.has (Has.rd hways) hw) h0)) ?_
            refine ph_y (fun p47 => y_fieldAddr fo34_1 rfl) ?_
            intro p47
            refine gk_sub (T' := [(4,_), (5,_), (8,_), (47,_), (51,_), (52,_)]) ⟨rfl, rfl, rfl, rfl, rfl, rfl, trivial⟩ ?_
            refine gk_storeV 2 tf31 rfl rfl (vs := [_]) rfl rfl rfl rfl rfl ?_
            refine gk_y rfl rfl (y_fieldAddr fo34_4 rfl) ?_
            refine gk_storeV 2 tf32 rfl rfl (vs := [_, _]) rfl rfl rfl rfl rfl ?_
            refine gk_nil (gk_sub (T' := [(4,_), (5,_), (8,_)]) ⟨rfl, rfl, rfl, trivial⟩ ?_)
            refine gk_seq ?_
            refine gk_region ?_
            refine gk_y rfl rfl (y_loadBA 2 tf34 rfl rfl (vs := [_, _, _, _, _, _]) rfl rfl) ?_
            refine gk_storeV 3 tf34 rfl rfl (vs := [_, _, _, _, _, _]) rfl rfl rfl rfl rfl ?_
            refine gk_y rfl rfl (y_assign rfl) ?_
            refine gk_nil (gk_sub (T' := [(4,_), (5,_)]) ⟨rfl, rfl, trivial⟩ ?_)
            refine gk_ret ?_
            refine gk_gives p47 0 (rv_two rfl (r1_cellA (i := 3) (vs := [_, _, _, _, _, _]) tf34 rfl rfl rfl rfl) (r1_tmp rfl)) ?_ (by rw [hT]; rfl)
            rw [hT, hE]; try rfl
          · have hc41 := of_decide_eq_false hc41
            have hL : turnedL s way = m := by rw [turnedL, if_neg hc41, hm]
            rw [hL] at hT
            refine gk_skip ?_
            refine gk_seq ?_
            refine gk_any 8 (fun _ => mixed) (by kernel_rfl) ?_
            refine ph_y (y_fieldAddr fo34_1 rfl) ?_
            refine ph_y (y_loadB1 1 tf31 rfl rfl rfl) ?_
            refine ph_yx (yx_call en60 rfl (fun w hw => settled_c _ _ m w (has_row encPt_ok (hw.has (p := 0) rfl)) (by first | assumption | (rw [List.length_reverse]; assumption)) (by first | omega | (rw [List.length_reverse]; omega)) (row_cap (hw.has (p := 0) rfl)))) ?_
            refine ph_y (y_move rfl) ?_
            refine ph_y (y_fieldAddr fo34_4 rfl) ?_
            refine ph_y (y_loadBA 4 tf32 rfl rfl (vs := [_, _]) rfl rfl) ?_
            refine ph_y (fun p47 => y_callV (fs := []) (cap := [_]) en58 rfl rfl (fun w hw => turned1_c s.grain way _ w (hw.has (p := 4) rfl) (Rd.has (Has.rd hways) hw) h0)) ?_
            refine ph_y (fun p47 => y_fieldAddr fo34_1 rfl) ?_
            intro p47
            refine gk_sub (T' := [(4,_), (5,_), (8,_), (47,_), (51,_), (52,_)]) ⟨rfl, rfl, rfl, rfl, rfl, rfl, trivial⟩ ?_
            refine gk_storeV 2 tf31 rfl rfl (vs := [_]) rfl rfl rfl rfl rfl ?_
            refine gk_y rfl rfl (y_fieldAddr fo34_4 rfl) ?_
            refine gk_storeV 2 tf32 rfl rfl (vs := [_, _]) rfl rfl rfl rfl rfl ?_
            refine gk_nil (gk_sub (T' := [(4,_), (5,_), (8,_)]) ⟨rfl, rfl, rfl, trivial⟩ ?_)
            refine gk_seq ?_
            refine gk_region ?_
            refine gk_y rfl rfl (y_loadBA 2 tf34 rfl rfl (vs := [_, _, _, _, _, _]) rfl rfl) ?_
            refine gk_storeV 3 tf34 rfl rfl (vs := [_, _, _, _, _, _]) rfl rfl rfl rfl rfl ?_
            refine gk_y rfl rfl (y_assign rfl) ?_
            refine gk_nil (gk_sub (T' := [(4,_), (5,_)]) ⟨rfl, rfl, trivial⟩ ?_)
            refine gk_ret ?_
            refine gk_gives p47 0 (rv_two rfl (r1_cellA (i := 3) (vs := [_, _, _, _, _, _]) tf34 rfl rfl rfl rfl) (r1_tmp rfl)) ?_ (by rw [hT]; rfl)
            rw [hT, hE]; try rfl

end Go.Proofs.YtahahmelnaphjaaDoor
