/- What the proof of the root text leans on, part 4: the layer, plain facts and walks. No statement of the seat is proved in this text. -/
import Derived.Lib.ItoaLen
import Derived.Lib.Strings
import Derived.Shelf.SlSortCmp.NoneTotal
import Derived.Shelf.Small.Strs
import Derived.Shelf.Strconv.AtoiAll
import Derived.Shelf.Strconv.Itoa3
import Derived.Shelf.Strings.BuilderF
import Derived.Shelf.Strings.Cut
import Derived.Shelf.Strings.Split
import Derived.Sort.Walk0
import Derived.Test.YtmpaebfjnjmmlaaGreatDoorProg
import Derived.WideShapes
import Derived.Test.YtmpaebfjnjmmlaaGreatDoorBk3
namespace Go.Proofs.YtmpaebfjnjmmlaaGreatDoor
open Go.K Go.Stn Go.RowKit
theorem tf108 : TF Tryz.prog 108 false 1 (.nilFunc) := ⟨by kernel_rfl, by kernel_rfl⟩
theorem en56 : En Tryz.prog 56 := en_of Tryz.func56 (by kernel_rfl) (by kernel_rfl)
theorem en57 : En Tryz.prog 57 := en_of Tryz.func57 (by kernel_rfl) (by kernel_rfl)
theorem en194 : En Tryz.prog 194 := en_of Tryz.func194 (by kernel_rfl) (by kernel_rfl)
theorem en195 : En Tryz.prog 195 := en_of Tryz.func195 (by kernel_rfl) (by kernel_rfl)
theorem en196 : En Tryz.prog 196 := en_of Tryz.func196 (by kernel_rfl) (by kernel_rfl)
theorem en197 : En Tryz.prog 197 := en_of Tryz.func197 (by kernel_rfl) (by kernel_rfl)
set_option maxRecDepth 100000 in
set_option maxHeartbeats 1000000 in
theorem ways1_c (p : Pt) (w : World)  :
    Calls Tryz.prog 194 #[.agg #[.int .i64 p.x, .int .i64 p.z]] w (Pure (ptV p) w) := by
  refine calls_of_gk (vs := [_]) Tryz.func194 rfl rfl (Nat.le_of_ble_eq_true rfl) ?_
  refine gk_seq ?_
  refine gk_region ?_
  refine gk_yx rfl rfl (yx_box (vs := [_, _]) rfl rfl) fun b1 => ?_
  refine gk_yx rfl rfl (yx_alloc tf50 (zs := [_, _]) rfl) fun b2 => ?_
  refine gk_nil (gk_sub (T' := [(1,_), (2,_)]) ⟨rfl, rfl, trivial⟩ ?_)
  refine gk_seq ?_
  refine gk_region ?_
  refine gk_y rfl rfl (y_loadBA 1 tf50 rfl rfl (vs := [_, _]) rfl rfl) ?_
  refine gk_storeV 0 tf50 rfl rfl (vs := [_, _]) rfl rfl rfl rfl rfl ?_
  refine gk_nil (gk_sub (T' := [(2,_)]) ⟨rfl, trivial⟩ ?_)
  refine gk_ret ?_
  refine gk_pure (rv_one rfl (r1_cellA (i := 0) (vs := [_, _]) tf50 rfl rfl rfl rfl)) ?_
  rfl
set_option maxRecDepth 100000 in
set_option maxHeartbeats 1000000 in
theorem ways2_c (p : Pt) (w : World)  :
    Calls Tryz.prog 195 #[.agg #[.int .i64 p.x, .int .i64 p.z]] w (Pure (ptV ⟨W (-p.z), p.x⟩) w) := by
  refine calls_of_gk (vs := [_]) Tryz.func195 rfl rfl (Nat.le_of_ble_eq_true rfl) ?_
  refine gk_seq ?_
  refine gk_region ?_
  refine gk_yx rfl rfl (yx_box (vs := [_, _]) rfl rfl) fun b1 => ?_
  refine gk_yx rfl rfl (yx_alloc tf50 (zs := [_, _]) rfl) fun b2 => ?_
  refine gk_nil (gk_sub (T' := [(1,_), (2,_)]) ⟨rfl, rfl, trivial⟩ ?_)
  refine gk_seq ?_
  refine gk_region ?_
  refine gk_y rfl rfl (y_fieldAddr fo50_1 rfl) ?_
  refine gk_y rfl rfl (y_loadB1 1 tf3 rfl rfl rfl) ?_
  refine gk_y rfl rfl (y_neg rfl) ?_
  refine gk_y rfl rfl (y_fieldAddr fo50_0 rfl) ?_
  refine gk_y rfl rfl (y_loadB1 1 tf3 rfl rfl rfl) ?_
  refine gk_y rfl rfl (y_buildL rfl (bd50_0i_1i _ _)) ?_
  refine gk_storeV 0 tf50 rfl rfl (vs := [_, _]) rfl rfl rfl rfl rfl ?_
  refine gk_nil (gk_sub (T' := [(2,_)]) ⟨rfl, trivial⟩ ?_)
  refine gk_ret ?_
  refine gk_pure (rv_one rfl (r1_cellA (i := 0) (vs := [_, _]) tf50 rfl rfl rfl rfl)) ?_
  rfl
set_option maxRecDepth 100000 in
set_option maxHeartbeats 1000000 in
theorem ways3_c (p : Pt) (w : World)  :
    Calls Tryz.prog 196 #[.agg #[.int .i64 p.x, .int .i64 p.z]] w (Pure (ptV ⟨W (-p.x), W (-p.z)⟩) w) := by
  refine calls_of_gk (vs := [_]) Tryz.func196 rfl rfl (Nat.le_of_ble_eq_true rfl) ?_
  refine gk_seq ?_
  refine gk_region ?_
  refine gk_yx rfl rfl (yx_box (vs := [_, _]) rfl rfl) fun b1 => ?_
  refine gk_yx rfl rfl (yx_alloc tf50 (zs := [_, _]) rfl) fun b2 => ?_
  refine gk_nil (gk_sub (T' := [(1,_), (2,_)]) ⟨rfl, rfl, trivial⟩ ?_)
  refine gk_seq ?_
  refine gk_region ?_
  refine gk_y rfl rfl (y_fieldAddr fo50_0 rfl) ?_
  refine gk_y rfl rfl (y_loadB1 1 tf3 rfl rfl rfl) ?_
  refine gk_y rfl rfl (y_neg rfl) ?_
  refine gk_y rfl rfl (y_fieldAddr fo50_1 rfl) ?_
  refine gk_y rfl rfl (y_loadB1 1 tf3 rfl rfl rfl) ?_
  refine gk_y rfl rfl (y_neg rfl) ?_
  refine gk_y rfl rfl (y_buildL rfl (bd50_0i_1i _ _)) ?_
  refine gk_storeV 0 tf50 rfl rfl (vs := [_, _]) rfl rfl rfl rfl rfl ?_
  refine gk_nil (gk_sub (T' := [(2,_)]) ⟨rfl, trivial⟩ ?_)
  refine gk_ret ?_
  refine gk_pure (rv_one rfl (r1_cellA (i := 0) (vs := [_, _]) tf50 rfl rfl rfl rfl)) ?_
  rfl
set_option maxRecDepth 100000 in
set_option maxHeartbeats 1000000 in
theorem ways4_c (p : Pt) (w : World)  :
    Calls Tryz.prog 197 #[.agg #[.int .i64 p.x, .int .i64 p.z]] w (Pure (ptV ⟨p.z, W (-p.x)⟩) w) := by
  refine calls_of_gk (vs := [_]) Tryz.func197 rfl rfl (Nat.le_of_ble_eq_true rfl) ?_
  refine gk_seq ?_
  refine gk_region ?_
  refine gk_yx rfl rfl (yx_box (vs := [_, _]) rfl rfl) fun b1 => ?_
  refine gk_yx rfl rfl (yx_alloc tf50 (zs := [_, _]) rfl) fun b2 => ?_
  refine gk_nil (gk_sub (T' := [(1,_), (2,_)]) ⟨rfl, rfl, trivial⟩ ?_)
  refine gk_seq ?_
  refine gk_region ?_
  refine gk_y rfl rfl (y_fieldAddr fo50_1 rfl) ?_
  refine gk_y rfl rfl (y_loadB1 1 tf3 rfl rfl rfl) ?_
  refine gk_y rfl rfl (y_fieldAddr fo50_0 rfl) ?_
  refine gk_y rfl rfl (y_loadB1 1 tf3 rfl rfl rfl) ?_
  refine gk_y rfl rfl (y_neg rfl) ?_
  refine gk_y rfl rfl (y_buildL rfl (bd50_0i_1i _ _)) ?_
  refine gk_storeV 0 tf50 rfl rfl (vs := [_, _]) rfl rfl rfl rfl rfl ?_
  refine gk_nil (gk_sub (T' := [(2,_)]) ⟨rfl, trivial⟩ ?_)
  refine gk_ret ?_
  refine gk_pure (rv_one rfl (r1_cellA (i := 0) (vs := [_, _]) tf50 rfl rfl rfl rfl)) ?_
  rfl
theorem ae109 : AE Tryz.prog 109 108 4 1 := ⟨Tryz.underlying109, by kernel_rfl⟩
set_option maxRecDepth 100000 in
set_option maxHeartbeats 1000000 in
theorem turned1_0 (p : Pt) (way : Int) (b : Nat) (w : World) (hb : Has w (Box b [.int .i64 way] 3)) (hways : Has w (Elems (some ⟨0, 0, none⟩) 1 encVal [.func (.func 194) #[] #[], .func (.func 195) #[] #[], .func (.func 196) #[] #[], .func (.func 197) #[] #[]])) (hk : way.tmod 4 = 0) :
    Calls Tryz.prog 56 #[.agg #[.int .i64 p.x, .int .i64 p.z], .pointer (some ⟨b, 0, none⟩)] w (Pure (ptV (moveW way p)) w) := by
  refine calls_of_gk (vs := [_, _]) Tryz.func56 rfl rfl (Nat.le_of_ble_eq_true rfl) ?_
  refine gk_seq ?_
  refine gk_region ?_
  refine gk_yx rfl rfl (yx_box (vs := [_, _]) rfl rfl) fun b2 => ?_
  refine gk_yx rfl rfl (yx_alloc tf50 (zs := [_, _]) rfl) fun b3 => ?_
  refine gk_nil (gk_sub (T' := [(1,_), (2,_), (3,_)]) ⟨rfl, rfl, rfl, trivial⟩ ?_)
  refine gk_seq ?_
  refine gk_seq ?_
  refine gk_region ?_
  refine gk_y rfl rfl (y_load1 tf3 rfl (fun _ hw => has_box_cell (Rd.has (Has.rd hb) hw) rfl)) ?_
  refine gk_y rfl rfl (y_gtr rfl rfl) ?_
  refine gk_nil (gk_sub (T' := [(1,_), (2,_), (3,_), (5,_)]) ⟨rfl, rfl, rfl, rfl, trivial⟩ ?_)
  refine gk_cond rfl (fun hc5 => ?_) (fun hc5 => ?_)
  · have hc5 := of_decide_eq_true hc5
    refine gk_region ?_
    refine gk_y rfl rfl (y_fieldAddr fo50_0 rfl) ?_
    refine gk_y rfl rfl (y_loadB1 1 tf3 rfl rfl rfl) ?_
    refine gk_y rfl rfl (y_neg rfl) ?_
    refine gk_y rfl rfl (y_fieldAddr fo50_0 rfl) ?_
    refine gk_storeV 1 tf3 rfl rfl (vs := [_]) rfl rfl rfl rfl rfl ?_
    refine gk_nil (gk_sub (T' := [(1,_), (2,_), (3,_)]) ⟨rfl, rfl, rfl, trivial⟩ ?_)
    refine gk_seq ?_
    refine gk_any 6 (fun _ => mixed) (by kernel_rfl) ?_
    refine ph_y (y_load1 tf3 rfl (fun _ hw => has_box_cell (Rd.has (Has.rd hb) hw) rfl)) ?_
    refine ph_y (y_rem rfl rfl (by decide)) ?_
    refine ph_y (y_indexA 0 ae109 rfl rfl hk (by decide)) ?_
    refine ph_y (y_load1 tf108 rfl (fun _ hw => elems_cell (i := 0) (Rd.has (Has.rd hways) hw) rfl)) ?_
    refine ph_y (y_loadBA 1 tf50 rfl rfl (vs := [_, _]) rfl rfl) ?_
    refine ph_y (y_callV (fs := []) (cap := []) en194 rfl rfl (fun w hw => ways1_c (⟨(IntKind.i64.wrap (-p.x)), p.z⟩ : Pt) w)) ?_
    refine gk_sub (T' := [(3,_), (15,_)]) ⟨rfl, rfl, trivial⟩ ?_
    refine gk_storeV 0 tf50 rfl rfl (vs := [_, _]) rfl rfl rfl rfl rfl ?_
    refine gk_nil (gk_sub (T' := [(3,_)]) ⟨rfl, trivial⟩ ?_)
    refine gk_ret ?_
    refine gk_pure (rv_one rfl (r1_cellA (i := 0) (vs := [_, _]) tf50 rfl rfl rfl rfl)) ?_
    simp only [moveW, flipW, quartW, hk, if_pos hc5]; rfl
  · have hc5 := of_decide_eq_false hc5
    refine gk_skip ?_
    refine gk_seq ?_
    refine gk_any 6 (fun _ => mixed) (by kernel_rfl) ?_
    refine ph_y (y_load1 tf3 rfl (fun _ hw => has_box_cell (Rd.has (Has.rd hb) hw) rfl)) ?_
    refine ph_y (y_rem rfl rfl (by decide)) ?_
    refine ph_y (y_indexA 0 ae109 rfl rfl hk (by decide)) ?_
    refine ph_y (y_load1 tf108 rfl (fun _ hw => elems_cell (i := 0) (Rd.has (Has.rd hways) hw) rfl)) ?_
    refine ph_y (y_loadBA 1 tf50 rfl rfl (vs := [_, _]) rfl rfl) ?_
    refine ph_y (y_callV (fs := []) (cap := []) en194 rfl rfl (fun w hw => ways1_c p w)) ?_
    refine gk_sub (T' := [(3,_), (15,_)]) ⟨rfl, rfl, trivial⟩ ?_
    refine gk_storeV 0 tf50 rfl rfl (vs := [_, _]) rfl rfl rfl rfl rfl ?_
    refine gk_nil (gk_sub (T' := [(3,_)]) ⟨rfl, trivial⟩ ?_)
    refine gk_ret ?_
    refine gk_pure (rv_one rfl (r1_cellA (i := 0) (vs := [_, _]) tf50 rfl rfl rfl rfl)) ?_
    simp only [moveW, flipW, quartW, hk, if_neg hc5]; rfl
set_option maxRecDepth 100000 in
set_option maxHeartbeats 1000000 in
theorem turned1_1 (p : Pt) (way : Int) (b : Nat) (w : World) (hb : Has w (Box b [.int .i64 way] 3)) (hways : Has w (Elems (some ⟨0, 0, none⟩) 1 encVal [.func (.func 194) #[] #[], .func (.func 195) #[] #[], .func (.func 196) #[] #[], .func (.func 197) #[] #[]])) (hk : way.tmod 4 = 1) :
    Calls Tryz.prog 56 #[.agg #[.int .i64 p.x, .int .i64 p.z], .pointer (some ⟨b, 0, none⟩)] w (Pure (ptV (moveW way p)) w) := by
  refine calls_of_gk (vs := [_, _]) Tryz.func56 rfl rfl (Nat.le_of_ble_eq_true rfl) ?_
  refine gk_seq ?_
  refine gk_region ?_
  refine gk_yx rfl rfl (yx_box (vs := [_, _]) rfl rfl) fun b2 => ?_
  refine gk_yx rfl rfl (yx_alloc tf50 (zs := [_, _]) rfl) fun b3 => ?_
  refine gk_nil (gk_sub (T' := [(1,_), (2,_), (3,_)]) ⟨rfl, rfl, rfl, trivial⟩ ?_)
  refine gk_seq ?_
  refine gk_seq ?_
  refine gk_region ?_
  refine gk_y rfl rfl (y_load1 tf3 rfl (fun _ hw => has_box_cell (Rd.has (Has.rd hb) hw) rfl)) ?_
  refine gk_y rfl rfl (y_gtr rfl rfl) ?_
  refine gk_nil (gk_sub (T' := [(1,_), (2,_), (3,_), (5,_)]) ⟨rfl, rfl, rfl, rfl, trivial⟩ ?_)
  refine gk_cond rfl (fun hc5 => ?_) (fun hc5 => ?_)
  · have hc5 := of_decide_eq_true hc5
    refine gk_region ?_
    refine gk_y rfl rfl (y_fieldAddr fo50_0 rfl) ?_
    refine gk_y rfl rfl (y_loadB1 1 tf3 rfl rfl rfl) ?_
    refine gk_y rfl rfl (y_neg rfl) ?_
    refine gk_y rfl rfl (y_fieldAddr fo50_0 rfl) ?_
    refine gk_storeV 1 tf3 rfl rfl (vs := [_]) rfl rfl rfl rfl rfl ?_
    refine gk_nil (gk_sub (T' := [(1,_), (2,_), (3,_)]) ⟨rfl, rfl, rfl, trivial⟩ ?_)
    refine gk_seq ?_
    refine gk_any 6 (fun _ => mixed) (by kernel_rfl) ?_
    refine ph_y (y_load1 tf3 rfl (fun _ hw => has_box_cell (Rd.has (Has.rd hb) hw) rfl)) ?_
    refine ph_y (y_rem rfl rfl (by decide)) ?_
    refine ph_y (y_indexA 1 ae109 rfl rfl hk (by decide)) ?_
    refine ph_y (y_load1 tf108 rfl (fun _ hw => elems_cell (i := 1) (Rd.has (Has.rd hways) hw) rfl)) ?_
    refine ph_y (y_loadBA 1 tf50 rfl rfl (vs := [_, _]) rfl rfl) ?_
    refine ph_y (y_callV (fs := []) (cap := []) en195 rfl rfl (fun w hw => ways2_c (⟨(IntKind.i64.wrap (-p.x)), p.z⟩ : Pt) w)) ?_
    refine gk_sub (T' := [(3,_), (15,_)]) ⟨rfl, rfl, trivial⟩ ?_
    refine gk_storeV 0 tf50 rfl rfl (vs := [_, _]) rfl rfl rfl rfl rfl ?_
    refine gk_nil (gk_sub (T' := [(3,_)]) ⟨rfl, trivial⟩ ?_)
    refine gk_ret ?_
    refine gk_pure (rv_one rfl (r1_cellA (i := 0) (vs := [_, _]) tf50 rfl rfl rfl rfl)) ?_
    simp only [moveW, flipW, quartW, hk, if_pos hc5]; rfl
  · have hc5 := of_decide_eq_false hc5
    refine gk_skip ?_
    refine gk_seq ?_
    refine gk_any 6 (fun _ => mixed) (by kernel_rfl) ?_
    refine ph_y (y_load1 tf3 rfl (fun _ hw => has_box_cell (Rd.has (Has.rd hb) hw) rfl)) ?_
    refine ph_y (y_rem rfl rfl (by decide)) ?_
    refine ph_y (y_indexA 1 ae109 rfl rfl hk (by decide)) ?_
    refine ph_y (y_load1 tf108 rfl (fun _ hw => elems_cell (i := 1) (Rd.has (Has.rd hways) hw) rfl)) ?_
    refine ph_y (y_loadBA 1 tf50 rfl rfl (vs := [_, _]) rfl rfl) ?_
    refine ph_y (y_callV (fs := []) (cap := []) en195 rfl rfl (fun w hw => ways2_c p w)) ?_
    refine gk_sub (T' := [(3,_), (15,_)]) ⟨rfl, rfl, trivial⟩ ?_
    refine gk_storeV 0 tf50 rfl rfl (vs := [_, _]) rfl rfl rfl rfl rfl ?_
    refine gk_nil (gk_sub (T' := [(3,_)]) ⟨rfl, trivial⟩ ?_)
    refine gk_ret ?_
    refine gk_pure (rv_one rfl (r1_cellA (i := 0) (vs := [_, _]) tf50 rfl rfl rfl rfl)) ?_
    simp only [moveW, flipW, quartW, hk, if_neg hc5]; rfl
set_option maxRecDepth 100000 in
set_option maxHeartbeats 1000000 in
theorem turned1_2 (p : Pt) (way : Int) (b : Nat) (w : World) (hb : Has w (Box b [.int .i64 way] 3)) (hways : Has w (Elems (some ⟨0, 0, none⟩) 1 encVal [.func (.func 194) #[] #[], .func (.func 195) #[] #[], .func (.func 196) #[] #[], .func (.func 197) #[] #[]])) (hk : way.tmod 4 = 2) :
    Calls Tryz.prog 56 #[.agg #[.int .i64 p.x, .int .i64 p.z], .pointer (some ⟨b, 0, none⟩)] w (Pure (ptV (moveW way p)) w) := by
  refine calls_of_gk (vs := [_, _]) Tryz.func56 rfl rfl (Nat.le_of_ble_eq_true rfl) ?_
  refine gk_seq ?_
  refine gk_region ?_
  refine gk_yx rfl rfl (yx_box (vs := [_, _]) rfl rfl) fun b2 => ?_
  refine gk_yx rfl rfl (yx_alloc tf50 (zs := [_, _]) rfl) fun b3 => ?_
  refine gk_nil (gk_sub (T' := [(1,_), (2,_), (3,_)]) ⟨rfl, rfl, rfl, trivial⟩ ?_)
  refine gk_seq ?_
  refine gk_seq ?_
  refine gk_region ?_
  refine gk_y rfl rfl (y_load1 tf3 rfl (fun _ hw => has_box_cell (Rd.has (Has.rd hb) hw) rfl)) ?_
  refine gk_y rfl rfl (y_gtr rfl rfl) ?_
  refine gk_nil (gk_sub (T' := [(1,_), (2,_), (3,_), (5,_)]) ⟨rfl, rfl, rfl, rfl, trivial⟩ ?_)
  refine gk_cond rfl (fun hc5 => ?_) (fun hc5 => ?_)
  · have hc5 := of_decide_eq_true hc5
    refine gk_region ?_
    refine gk_y rfl rfl (y_fieldAddr fo50_0 rfl) ?_
    refine gk_y rfl rfl (y_loadB1 1 tf3 rfl rfl rfl) ?_
    refine gk_y rfl rfl (y_neg rfl) ?_
    refine gk_y rfl rfl (y_fieldAddr fo50_0 rfl) ?_
    refine gk_storeV 1 tf3 rfl rfl (vs := [_]) rfl rfl rfl rfl rfl ?_
    refine gk_nil (gk_sub (T' := [(1,_), (2,_), (3,_)]) ⟨rfl, rfl, rfl, trivial⟩ ?_)
    refine gk_seq ?_
    refine gk_any 6 (fun _ => mixed) (by kernel_rfl) ?_
    refine ph_y (y_load1 tf3 rfl (fun _ hw => has_box_cell (Rd.has (Has.rd hb) hw) rfl)) ?_
    refine ph_y (y_rem rfl rfl (by decide)) ?_
    refine ph_y (y_indexA 2 ae109 rfl rfl hk (by decide)) ?_
    refine ph_y (y_load1 tf108 rfl (fun _ hw => elems_cell (i := 2) (Rd.has (Has.rd hways) hw) rfl)) ?_
    refine ph_y (y_loadBA 1 tf50 rfl rfl (vs := [_, _]) rfl rfl) ?_
    refine ph_y (y_callV (fs := []) (cap := []) en196 rfl rfl (fun w hw => ways3_c (⟨(IntKind.i64.wrap (-p.x)), p.z⟩ : Pt) w)) ?_
    refine gk_sub (T' := [(3,_), (15,_)]) ⟨rfl, rfl, trivial⟩ ?_
    refine gk_storeV 0 tf50 rfl rfl (vs := [_, _]) rfl rfl rfl rfl rfl ?_
    refine gk_nil (gk_sub (T' := [(3,_)]) ⟨rfl, trivial⟩ ?_)
    refine gk_ret ?_
    refine gk_pure (rv_one rfl (r1_cellA (i := 0) (vs := [_, _]) tf50 rfl rfl rfl rfl)) ?_
    simp only [moveW, flipW, quartW, hk, if_pos hc5]; rfl
  · have hc5 := of_decide_eq_false hc5
    refine gk_skip ?_
    refine gk_seq ?_
    refine gk_any 6 (fun _ => mixed) (by kernel_rfl) ?_
    refine ph_y (y_load1 tf3 rfl (fun _ hw => has_box_cell (Rd.has (Has.rd hb) hw) rfl)) ?_
    refine ph_y (y_rem rfl rfl (by decide)) ?_
    refine ph_y (y_indexA 2 ae109 rfl rfl hk (by decide)) ?_
    refine ph_y (y_load1 tf108 rfl (fun _ hw => elems_cell (i := 2) (Rd.has (Has.rd hways) hw) rfl)) ?_
    refine ph_y (y_loadBA 1 tf50 rfl rfl (vs := [_, _]) rfl rfl) ?_
    refine ph_y (y_callV (fs := []) (cap := []) en196 rfl rfl (fun w hw => ways3_c p w)) ?_
    refine gk_sub (T' := [(3,_), (15,_)]) ⟨rfl, rfl, trivial⟩ ?_
    refine gk_storeV 0 tf50 rfl rfl (vs := [_, _]) rfl rfl rfl rfl rfl ?_
    refine gk_nil (gk_sub (T' := [(3,_)]) ⟨rfl, trivial⟩ ?_)
    refine gk_ret ?_
    refine gk_pure (rv_one rfl (r1_cellA (i := 0) (vs := [_, _]) tf50 rfl rfl rfl rfl)) ?_
    simp only [moveW, flipW, quartW, hk, if_neg hc5]; rfl
set_option maxRecDepth 100000 in
set_option maxHeartbeats 1000000 in
theorem turned1_3 (p : Pt) (way : Int) (b : Nat) (w : World) (hb : Has w (Box b [.int .i64 way] 3)) (hways : Has w (Elems (some ⟨0, 0, none⟩) 1 encVal [.func (.func 194) #[] #[], .func (.func 195) #[] #[], .func (.func 196) #[] #[], .func (.func 197) #[] #[]])) (hk : way.tmod 4 = 3) :
    Calls Tryz.prog 56 #[.agg #[.int .i64 p.x, .int .i64 p.z], .pointer (some ⟨b, 0, none⟩)] w (Pure (ptV (moveW way p)) w) := by
  refine calls_of_gk (vs := [_, _]) Tryz.func56 rfl rfl (Nat.le_of_ble_eq_true rfl) ?_
  refine gk_seq ?_
  refine gk_region ?_
  refine gk_yx rfl rfl (yx_box (vs := [_, _]) rfl rfl) fun b2 => ?_
  refine gk_yx rfl rfl (yx_alloc tf50 (zs := [_, _]) rfl) fun b3 => ?_
  refine gk_nil (gk_sub (T' := [(1,_), (2,_), (3,_)]) ⟨rfl, rfl, rfl, trivial⟩ ?_)
  refine gk_seq ?_
  refine gk_seq ?_
  refine gk_region ?_
  refine gk_y rfl rfl (y_load1 tf3 rfl (fun _ hw => has_box_cell (Rd.has (Has.rd hb) hw) rfl)) ?_
  refine gk_y rfl rfl (y_gtr rfl rfl) ?_
  refine gk_nil (gk_sub (T' := [(1,_), (2,_), (3,_), (5,_)]) ⟨rfl, rfl, rfl, rfl, trivial⟩ ?_)
  refine gk_cond rfl (fun hc5 => ?_) (fun hc5 => ?_)
  · have hc5 := of_decide_eq_true hc5
    refine gk_region ?_
    refine gk_y rfl rfl (y_fieldAddr fo50_0 rfl) ?_
    refine gk_y rfl rfl (y_loadB1 1 tf3 rfl rfl rfl) ?_
    refine gk_y rfl rfl (y_neg rfl) ?_
    refine gk_y rfl rfl (y_fieldAddr fo50_0 rfl) ?_
    refine gk_storeV 1 tf3 rfl rfl (vs := [_]) rfl rfl rfl rfl rfl ?_
    refine gk_nil (gk_sub (T' := [(1,_), (2,_), (3,_)]) ⟨rfl, rfl, rfl, trivial⟩ ?_)
    refine gk_seq ?_
    refine gk_any 6 (fun _ => mixed) (by kernel_rfl) ?_
    refine ph_y (y_load1 tf3 rfl (fun _ hw => has_box_cell (Rd.has (Has.rd hb) hw) rfl)) ?_
    refine ph_y (y_rem rfl rfl (by decide)) ?_
    refine ph_y (y_indexA 3 ae109 rfl rfl hk (by decide)) ?_
    refine ph_y (y_load1 tf108 rfl (fun _ hw => elems_cell (i := 3) (Rd.has (Has.rd hways) hw) rfl)) ?_
    refine ph_y (y_loadBA 1 tf50 rfl rfl (vs := [_, _]) rfl rfl) ?_
    refine ph_y (y_callV (fs := []) (cap := []) en197 rfl rfl (fun w hw => ways4_c (⟨(IntKind.i64.wrap (-p.x)), p.z⟩ : Pt) w)) ?_
    refine gk_sub (T' := [(3,_), (15,_)]) ⟨rfl, rfl, trivial⟩ ?_
    refine gk_storeV 0 tf50 rfl rfl (vs := [_, _]) rfl rfl rfl rfl rfl ?_
    refine gk_nil (gk_sub (T' := [(3,_)]) ⟨rfl, trivial⟩ ?_)
    refine gk_ret ?_
    refine gk_pure (rv_one rfl (r1_cellA (i := 0) (vs := [_, _]) tf50 rfl rfl rfl rfl)) ?_
    simp only [moveW, flipW, quartW, hk, if_pos hc5]; rfl
  · have hc5 := of_decide_eq_false hc5
    refine gk_skip ?_
    refine gk_seq ?_
    refine gk_any 6 (fun _ => mixed) (by kernel_rfl) ?_
    refine ph_y (y_load1 tf3 rfl (fun _ hw => has_box_cell (Rd.has (Has.rd hb) hw) rfl)) ?_
    refine ph_y (y_rem rfl rfl (by decide)) ?_
    refine ph_y (y_indexA 3 ae109 rfl rfl hk (by decide)) ?_
    refine ph_y (y_load1 tf108 rfl (fun _ hw => elems_cell (i := 3) (Rd.has (Has.rd hways) hw) rfl)) ?_
    refine ph_y (y_loadBA 1 tf50 rfl rfl (vs := [_, _]) rfl rfl) ?_
    refine ph_y (y_callV (fs := []) (cap := []) en197 rfl rfl (fun w hw => ways4_c p w)) ?_
    refine gk_sub (T' := [(3,_), (15,_)]) ⟨rfl, rfl, trivial⟩ ?_
    refine gk_storeV 0 tf50 rfl rfl (vs := [_, _]) rfl rfl rfl rfl rfl ?_
    refine gk_nil (gk_sub (T' := [(3,_)]) ⟨rfl, trivial⟩ ?_)
    refine gk_ret ?_
    refine gk_pure (rv_one rfl (r1_cellA (i := 0) (vs := [_, _]) tf50 rfl rfl rfl rfl)) ?_
    simp only [moveW, flipW, quartW, hk, if_neg hc5]; rfl
theorem turned1_c (p : Pt) (way : Int) (b : Nat) (w : World) (hb : Has w (Box b [.int .i64 way] 3)) (hways : Has w (Elems (some ⟨0, 0, none⟩) 1 encVal [.func (.func 194) #[] #[], .func (.func 195) #[] #[], .func (.func 196) #[] #[], .func (.func 197) #[] #[]])) (h0 : 0 ≤ way) : Calls Tryz.prog 56 #[ptV p, .pointer (some ⟨b, 0, none⟩)] w (Pure (ptV (moveW way p)) w) := by
  have h1 : way.tmod 4 < 4 := Int.tmod_lt_of_pos _ (by decide)
  have h2 : 0 ≤ way.tmod 4 := Int.tmod_nonneg _ h0
  rcases (show way.tmod 4 = 0 ∨ way.tmod 4 = 1 ∨ way.tmod 4 = 2 ∨ way.tmod 4 = 3 by omega) with h | h | h | h
  · exact turned1_0 p way b w hb hways h
  · exact turned1_1 p way b w hb hways h
  · exact turned1_2 p way b w hb hways h
  · exact turned1_3 p way b w hb hways h
def RevI (l m : List Pt) (i : Int) : Prop := ∀ k : Nat, k < l.length → m.getD k default = if (k : Int) < i ∨ (l.length : Int) - 1 - i < (k : Int) then l.getD (l.length - 1 - k) default else l.getD k default
theorem rev_step {l m : List Pt} {i j : Int} (h0 : 0 ≤ i) (hj : j = (l.length : Int) - 1 - i) (hij : i < j) (hl : m.length = l.length) (h : RevI l m i) : RevI l ((m.set i.toNat (m.getD j.toNat default)).set j.toNat (m.getD i.toNat default)) (i + 1) := fun k hk => by
  have hm : ∀ (a : List Pt) (n : Nat) (x : Pt) (k : Nat), (a.set n x).getD k default = if k = n ∧ n < a.length then x else a.getD k default := fun a n x k => by
    simp only [List.getD_eq_getElem?_getD, List.getElem?_set]
    by_cases h1 : n = k
    · subst h1
      by_cases h2 : n < a.length
      · simp [h2]
      · simp [h2]
    · rw [if_neg h1, if_neg (fun h => h1 h.1.symm)]
  rw [hm, hm, List.length_set]
  have hi := h i.toNat (by omega)
  have hjj := h j.toNat (by omega)
  rw [if_neg (by omega)] at hi hjj
  by_cases hkj : k = j.toNat
  · rw [if_pos ⟨hkj, by omega⟩, if_pos (by omega), hi]
    congr 1
    omega
  · rw [if_neg (fun h => hkj h.1)]
    by_cases hki : k = i.toNat
    · rw [if_pos ⟨hki, by omega⟩, if_pos (by omega), hjj]
      congr 1
      omega
    · rw [if_neg (fun h => hki h.1), h k hk]
      by_cases hc : (k : Int) < i ∨ (l.length : Int) - 1 - i < (k : Int)
      · rw [if_pos hc, if_pos (by omega)]
      · rw [if_neg hc, if_neg (by omega)]
theorem rev_end {l m : List Pt} {i j : Int} (_h0 : 0 ≤ i) (hj : j = (l.length : Int) - 1 - i) (hij : ¬ i < j) (hl : m.length = l.length) (h : RevI l m i) : m = l.reverse := by
  apply List.ext_getElem
  · rw [List.length_reverse, hl]
  · intro k h1 h2
    have := h k (by omega)
    rw [List.getElem_reverse]
    have e1 : m.getD k default = m[k] := by simp [h1]
    rw [← e1, this]
    have hk : l.length - 1 - k < l.length := by omega
    split
    · simp [hk]
    · rename_i hc
      have : k = l.length - 1 - k := by omega
      have h4 : l.getD (l.length - 1 - k) default = l[l.length - 1 - k] := by simp [hk]
      rw [← h4]
      exact congrArg (fun n => l.getD n default) this
set_option maxRecDepth 100000 in
set_option maxHeartbeats 1000000 in
theorem reverse_c (a : Option Addr) (cap : Nat) (l : List Pt) (w : World) (B : Nat → Prop) (hB : ∀ k, B k → k < w.heap.size) (hA : (Row a 2 cap 50 encPt l).A B w) (hs : Small l.length) :
    Calls Tryz.prog 57 #[.slice a l.length cap] w (Turns (fun _ : Unit => .tuple #[]) (fun _ => Row a 2 cap 50 encPt l.reverse) (fun _ => True) B w) := by
  refine calls_of_gkB hB hA (vs := [_]) Tryz.func57 rfl rfl (Nat.le_of_ble_eq_true rfl) ?_
  refine gk_seq ?_
  refine gk_region ?_
  refine gk_y rfl rfl (y_move rfl) ?_
  refine gk_y rfl rfl (y_lenS (Tryz.underlying49) rfl) ?_
  refine gk_y rfl rfl (y_subI rfl rfl (by omega) (by omega)) ?_
  refine gk_y rfl rfl (y_assign rfl) ?_
  refine gk_y rfl rfl (y_assign rfl) ?_
  refine gk_nil (gk_sub (T' := [(0,_), (2,_), (3,_)]) ⟨rfl, rfl, rfl, trivial⟩ ?_)
  refine gk_block ?_
  refine gk_loop (X := Int × Int × List Pt) (fun ⟨i, j, m⟩ => [(0, .slice a l.length cap), (2, .int .i64 i), (3, .int .i64 j)]) (fun ⟨i, j, m⟩ => [Row a 2 cap 50 encPt m]) (fun ⟨i, j, m⟩ => (0 ≤ i ∧ j = (l.length : Int) - 1 - i ∧ (i ≤ j + 1 ∨ i = 0) ∧ m.length = l.length ∧ RevI l m i)) (fun ⟨i, j, m⟩ => (j - i + 1).toNat) (0, (l.length : Int) - 1, l) ⟨rfl, rfl, rfl, trivial⟩ rfl ?_ ?_
  · exact ⟨by omega, by omega, .inr rfl, rfl, fun k hk => by rw [if_neg (by omega)]⟩
  · rintro ⟨i, j, m⟩ hI
    obtain ⟨g0, g1, g5, g3, g2⟩ := hI
    refine gk_seq ?_
    refine gk_seq ?_
    refine gk_region ?_
    refine gk_y rfl rfl (y_move rfl) ?_
    refine gk_y rfl rfl (y_move rfl) ?_
    refine gk_y rfl rfl (y_lss rfl rfl) ?_
    refine gk_nil (gk_sub (T' := [(0,_), (2,_), (3,_), (9,_)]) ⟨rfl, rfl, rfl, rfl, trivial⟩ ?_)
    refine gk_cond rfl (fun hc9 => ?_) (fun hc9 => ?_)
    · have hc9 := of_decide_eq_true hc9
      refine gk_skip ?_
      refine gk_seq ?_
      refine gk_block ?_
      refine gk_anyS (R' := Row a 2 cap 50 encPt ((m).set (i).toNat ⟨((m.getD (j).toNat default).x), ((m.getD (j).toNat default).z)⟩)) 13 [2, 3] 0 (fun _ => mixed) rfl rfl (by kernel_rfl) rfl ?_
      refine phs_y (y_move rfl) ?_
      refine phs_y (y_move rfl) ?_
      refine phs_y (y_move rfl) ?_
      refine phs_y (y_move rfl) ?_
      refine phs_y (y_move rfl) ?_
      refine phs_y (y_move rfl) ?_
      refine phs_y (y_indexN se49 rfl rfl (fun _ hw => (has_row encPt_ok (hw.has (p := 0) rfl))) (by first | exact g3 | (rw [List.length_set]; exact g3)) (by omega) (by first | omega | (rw [List.length_set]; omega))) ?_
      refine phs_y (y_loadE (vs := [_, _]) tf50 rfl (fun _ hw => (has_row encPt_ok (hw.has (p := 0) rfl))) (by omega) (by omega) rfl) ?_
      refine phs_y (y_move rfl) ?_
      refine phs_y (y_move rfl) ?_
      refine phs_y (y_indexN se49 rfl rfl (fun _ hw => (has_row encPt_ok (hw.has (p := 0) rfl))) (by first | exact g3 | (rw [List.length_set]; exact g3)) (by omega) (by first | omega | (rw [List.length_set]; omega))) ?_
      refine phs_y (y_loadE (vs := [_, _]) tf50 rfl (fun _ hw => (has_row encPt_ok (hw.has (p := 0) rfl))) (by omega) (by omega) rfl) ?_
      refine phs_y (y_indexN se49 rfl rfl (fun _ hw => (has_row encPt_ok (hw.has (p := 0) rfl))) (by first | exact g3 | (rw [List.length_set]; exact g3)) (by omega) (by first | omega | (rw [List.length_set]; omega))) ?_
      refine ⟨so_elem encPt_ok tf50 rfl rfl rfl (by rfl) (by omega) (by first | omega | (rw [List.length_set]; omega)), ?_⟩
      refine gk_sub (T' := [(0,_), (2,_), (3,_), (16,_), (17,_), (25,_)]) ⟨rfl, rfl, rfl, rfl, rfl, rfl, trivial⟩ ?_
      refine gk_y rfl rfl (y_indexN se49 rfl rfl (fun _ hw => (has_row encPt_ok (hw.has (p := 0) rfl))) (by first | exact g3 | (rw [List.length_set]; exact g3)) (by omega) (by first | omega | (rw [List.length_set]; omega))) ?_
      refine gk_storeE (x' := ⟨((m.getD (i).toNat default).x), ((m.getD (i).toNat default).z)⟩) 0 encPt_ok tf50 rfl rfl (vs := [_, _]) rfl rfl rfl (by omega) (by first | omega | (rw [List.length_set]; omega)) ?_
      refine gk_nil (gk_sub (T' := [(0,_), (2,_), (3,_)]) ⟨rfl, rfl, rfl, trivial⟩ ?_)
      refine gk_region ?_
      refine gk_y rfl rfl (y_move rfl) ?_
      refine gk_y rfl rfl (y_addI rfl rfl (by omega) (by omega)) ?_
      refine gk_y rfl rfl (y_move rfl) ?_
      refine gk_y rfl rfl (y_subI rfl rfl (by omega) (by omega)) ?_
      refine gk_y rfl rfl (y_assign rfl) ?_
      refine gk_y rfl rfl (y_assign rfl) ?_
      refine gk_nil (gk_sub (T' := [(0,_), (2,_), (3,_)]) ⟨rfl, rfl, rfl, trivial⟩ ?_)
      exact gk_next (i + 1, j - 1, _) ⟨rfl, rfl, rfl, trivial⟩ rfl ⟨by omega, by omega, by omega, by rw [List.length_set, List.length_set]; exact g3, rev_step g0 g1 hc9 g3 g2⟩ (by simp only []; omega)
    · have hc9 := of_decide_eq_false hc9
      obtain rfl : m = l.reverse := rev_end g0 g1 hc9 g3 g2
      refine gk_exit rfl ?_
      refine gk_turns () 0 (rv_none rfl) rfl rfl trivial
set_option maxRecDepth 100000 in
set_option maxHeartbeats 1000000 in
theorem Turned_c (a : Option Addr) (cap : Nat) (s : Stn) (way : Int) (w : World) (hl : Has w (Pts a s.shape)) (hs : Small s.shape.length) (hways : Has w (Elems (some ⟨0, 0, none⟩) 1 encVal [.func (.func 194) #[] #[], .func (.func 195) #[] #[], .func (.func 196) #[] #[], .func (.func 197) #[] #[]])) :
    Calls Tryz.prog 23 #[.agg #[.string s.name, .slice a s.shape.length cap, .int .i64 s.depth, .int .i64 s.density, .int .i64 s.grain.x, .int .i64 s.grain.z], .int .i64 way] w (Gives (fun z : Option Addr × Nat => .tuple #[stnV (turnedS s way) z.1 z.2, .int .i64 (turnedE s way)]) (fun z => Row z.1 2 z.2 50 encPt (turnedS s way).shape) w) := by
  refine calls_of_gk (vs := [_, _]) Tryz.func23 rfl rfl (Nat.le_of_ble_eq_true rfl) ?_
  refine gk_seq ?_
  refine gk_region ?_
  refine gk_yx rfl rfl (yx_box (vs := [_, _, _, _, _, _]) rfl rfl) fun b2 => ?_
  refine gk_yx rfl rfl (yx_box (vs := [_]) rfl rfl) fun b3 => ?_
  refine gk_yx rfl rfl (yx_alloc tf52 (zs := [_, _, _, _, _, _]) rfl) fun b4 => ?_
  refine gk_y rfl rfl (y_assign rfl) ?_
  refine gk_nil (gk_sub (T' := [(2,_), (3,_), (4,_), (5,_)]) ⟨rfl, rfl, rfl, rfl, trivial⟩ ?_)
  refine gk_seq ?_
  refine gk_seq ?_
  refine gk_region ?_
  refine gk_y rfl rfl (y_loadBA 2 tf52 rfl rfl (vs := [_, _, _, _, _, _]) rfl rfl) ?_
  refine gk_y rfl rfl (y_call en38 rfl (fun w hw => check_c _ _ s w (Rd.has (Has.rd hl) hw) (by assumption))) ?_
  refine gk_y rfl rfl (y_assign rfl) ?_
  refine gk_nil (gk_sub (T' := [(2,_), (3,_), (4,_), (5,_), (6,_)]) ⟨rfl, rfl, rfl, rfl, rfl, trivial⟩ ?_)
  refine gk_seq ?_
  refine gk_region ?_
  refine gk_y rfl rfl (y_move rfl) ?_
  refine gk_y rfl rfl (y_neq rfl rfl) ?_
  refine gk_nil (gk_sub (T' := [(2,_), (3,_), (4,_), (5,_), (6,_), (14,_)]) ⟨rfl, rfl, rfl, rfl, rfl, rfl, trivial⟩ ?_)
  refine gk_cond rfl (fun hc14 => ?_) (fun hc14 => ?_)
  · have hk : ¬ checkI s = 0 := by simpa using hc14
    have hE : turnedE s way = checkI s := by rw [turnedE, if_pos hk]
    have hT := turned_bad hE hk
    refine gk_newNil 50 encPt 2 ?_
    refine gk_seq ?_
    refine gk_region ?_
    refine gk_y rfl rfl (y_buildL (parts := []) rfl bd52_) ?_
    refine gk_y rfl rfl (y_move rfl) ?_
    refine gk_storeV 1 tf52 rfl rfl (vs := [_, _, _, _, _, _]) rfl rfl rfl rfl rfl ?_
    refine gk_y rfl rfl (y_assign rfl) ?_
    refine gk_nil (gk_sub (T' := [(2,_), (3,_), (4,_), (5,_)]) ⟨rfl, rfl, rfl, rfl, trivial⟩ ?_)
    refine gk_ret ?_
    refine gk_gives (none, 0) 0 (rv_two rfl (r1_cellA (i := 1) (vs := [_, _, _, _, _, _]) tf52 rfl rfl rfl rfl) (r1_tmp rfl)) ?_ (by rw [hT]; rfl)
    rw [hT, hE]; try rfl
  · have hk : checkI s = 0 := by simpa using hc14
    have hlen := check_len hk
    refine gk_skip ?_
    refine gk_seq ?_
    refine gk_seq ?_
    refine gk_region ?_
    refine gk_y rfl rfl (y_loadB1 1 tf3 rfl rfl rfl) ?_
    refine gk_y rfl rfl (y_call en55 rfl (fun w hw => within_c _ _ _ w)) ?_
    refine gk_y rfl rfl (y_not rfl) ?_
    refine gk_nil (gk_sub (T' := [(2,_), (3,_), (4,_), (5,_), (19,_)]) ⟨rfl, rfl, rfl, rfl, rfl, trivial⟩ ?_)
    refine gk_cond rfl (fun hc19 => ?_) (fun hc19 => ?_)
    · have hE : turnedE s way = 3 := by rw [turnedE, if_neg (fun h => h hk), if_pos (by simpa only [Bool.not_eq_true'] using hc19)]
      have hT := turned_bad hE (by decide)
      refine gk_newNil 50 encPt 2 ?_
      refine gk_seq ?_
      refine gk_region ?_
      refine gk_y rfl rfl (y_buildL (parts := []) rfl bd52_) ?_
      refine gk_storeV 1 tf52 rfl rfl (vs := [_, _, _, _, _, _]) rfl rfl rfl rfl rfl ?_
      refine gk_y rfl rfl (y_assign rfl) ?_
      refine gk_nil (gk_sub (T' := [(2,_), (3,_), (4,_), (5,_)]) ⟨rfl, rfl, rfl, rfl, trivial⟩ ?_)
      refine gk_ret ?_
      refine gk_gives (none, 0) 0 (rv_two rfl (r1_cellA (i := 1) (vs := [_, _, _, _, _, _]) tf52 rfl rfl rfl rfl) (r1_tmp rfl)) ?_ (by rw [hT]; rfl)
      rw [hT, hE]; try rfl
    · have hw7 : (decide (0 ≤ way) && decide (way ≤ 7)) = true := by simpa only [Bool.not_eq_false'] using hc19
      have hE : turnedE s way = 0 := by rw [turnedE, if_neg (fun h => h hk), if_neg (by rw [hw7]; exact fun h => Bool.false_ne_true h.symm)]
      have hT := turned_good hE
      have h0 : 0 ≤ way := by simp at hw7; omega
      refine gk_skip ?_
      refine gk_seq ?_
      refine gk_region ?_
      refine gk_y rfl rfl (y_makeFunc («as» := []) (bs := [_]) rfl rfl) ?_
      refine gk_y rfl rfl (y_assign rfl) ?_
      refine gk_nil (gk_sub (T' := [(2,_), (3,_), (4,_), (5,_), (7,_)]) ⟨rfl, rfl, rfl, rfl, rfl, trivial⟩ ?_)
      refine gk_seq ?_
      refine gk_region ?_
      refine gk_y rfl rfl (y_loadBA 2 tf52 rfl rfl (vs := [_, _, _, _, _, _]) rfl rfl) ?_
      refine gk_yx rfl rfl (yx_alloc tf52 (zs := [_, _, _, _, _, _]) rfl) fun b8 => ?_
      refine gk_storeV 0 tf52 rfl rfl (vs := [_, _, _, _, _, _]) rfl rfl rfl rfl rfl ?_
      refine gk_nil (gk_sub (T' := [(2,_), (3,_), (4,_), (5,_), (7,_), (8,_)]) ⟨rfl, rfl, rfl, rfl, rfl, rfl, trivial⟩ ?_)
      refine gk_seq ?_
      refine gk_region ?_
      refine gk_y rfl rfl (y_fieldAddr fo52_1 rfl) ?_
      refine gk_storeV 0 tf49 rfl rfl (vs := [_]) rfl rfl rfl rfl rfl ?_
      refine gk_nil (gk_sub (T' := [(2,_), (3,_), (4,_), (5,_), (7,_), (8,_)]) ⟨rfl, rfl, rfl, rfl, rfl, rfl, trivial⟩ ?_)
      refine gk_seq ?_
      refine gk_seq ?_
      refine gk_region ?_
      refine gk_y rfl rfl (y_fieldAddr fo52_1 rfl) ?_
      refine gk_y rfl rfl (y_loadB1 3 tf49 rfl rfl rfl) ?_
      refine gk_y rfl rfl (y_lenS (Tryz.underlying49) rfl) ?_
      refine gk_y rfl rfl (y_move rfl) ?_
      refine gk_nil (gk_sub (T' := [(2,_), (3,_), (4,_), (5,_), (7,_), (8,_), (25,_), (26,_), (27,_)]) ⟨rfl, rfl, rfl, rfl, rfl, rfl, rfl, rfl, rfl, trivial⟩ ?_)
      refine gk_block ?_
      refine gk_newNil 50 encPt 2 ?_
      refine gk_loop (X := Int × Option Addr × Nat × List Pt) (fun ⟨i, b, bc, m⟩ => [(2, .pointer (some ⟨b2, 0, none⟩)), (3, .pointer (some ⟨b3, 0, none⟩)), (4, .pointer (some ⟨b4, 0, none⟩)), (5, .int .i64 0), (7, .func (.func 56) #[] #[.pointer (some ⟨b3, 0, none⟩)]), (8, .pointer (some ⟨b8, 0, none⟩)), (25, .slice a s.shape.length cap), (26, .int .i64 (s.shape.length : Int)), (27, .int .i64 i)]) (fun ⟨i, b, bc, m⟩ => [Row b 2 bc 50 encPt m, Box b8 [.string s.name, .slice b m.length bc, .int .i64 s.depth, .int .i64 s.density, .int .i64 s.grain.x, .int .i64 s.grain.z] 52, Box b4 [.string ⟨#[]⟩, .slice none 0 0, .int .i64 0, .int .i64 0, .int .i64 0, .int .i64 0] 52, Box b3 [.int .i64 way] 3, Box b2 [.string s.name, .slice a s.shape.length cap, .int .i64 s.depth, .int .i64 s.density, .int .i64 s.grain.x, .int .i64 s.grain.z] 52]) (fun ⟨i, b, bc, m⟩ => (0 ≤ i ∧ i ≤ s.shape.length ∧ m = (s.shape.take i.toNat).map (moveW way) ∧ m.length ≤ s.shape.length)) (fun ⟨i, b, bc, m⟩ => (s.shape.length - i).toNat) (0, none, 0, []) ⟨rfl, rfl, rfl, rfl, rfl, rfl, rfl, rfl, rfl, trivial⟩ rfl ?_ ?_
      · exact ⟨by omega, by omega, rfl, by simp⟩
      · rintro ⟨i, b, bc, m⟩ hI
        obtain ⟨g0, g1, g2, g3⟩ := hI
        refine gk_seq ?_
        refine gk_region ?_
        refine gk_y rfl rfl (y_lss rfl rfl) ?_
        refine gk_nil (gk_sub (T' := [(2,_), (3,_), (4,_), (5,_), (7,_), (8,_), (25,_), (26,_), (27,_), (28,_)]) ⟨rfl, rfl, rfl, rfl, rfl, rfl, rfl, rfl, rfl, rfl, trivial⟩ ?_)
        refine gk_seq ?_
        refine gk_cond rfl (fun hc28 => ?_) (fun hc28 => ?_)
        · simp only [decide_eq_true_eq] at hc28
          refine gk_skip ?_
          refine gk_seq ?_
          refine gk_block ?_
          refine gk_seq ?_
          refine gk_region ?_
          refine gk_y rfl rfl (y_indexE se49 rfl rfl (fun _ hw => (Rd.has (Has.rd hl) hw)) (by omega) (by omega)) ?_
          refine gk_y rfl rfl (y_loadE (vs := [_, _]) tf50 rfl (fun _ hw => (Rd.has (Has.rd hl) hw)) (by omega) (by omega) rfl) ?_
          refine gk_yx rfl rfl (yx_alloc tf50 (zs := [_, _]) rfl) fun b10 => ?_
          refine gk_storeV 0 tf50 rfl rfl (vs := [_, _]) rfl rfl rfl rfl rfl ?_
          refine gk_nil (gk_sub (T' := [(2,_), (3,_), (4,_), (5,_), (7,_), (8,_), (10,_), (25,_), (26,_), (27,_)]) ⟨rfl, rfl, rfl, rfl, rfl, rfl, rfl, rfl, rfl, rfl, trivial⟩ ?_)
          refine gk_any 6 (fun _ => mixed) (by kernel_rfl) ?_
          refine ph_y (y_fieldAddr fo52_1 rfl) ?_
          refine ph_y (y_loadB1 2 tf49 rfl rfl rfl) ?_
          refine ph_y (y_move rfl) ?_
          refine ph_y (y_loadBA 0 tf50 rfl rfl (vs := [_, _]) rfl rfl) ?_
          refine ph_y (y_callV (fs := []) (cap := [_]) en56 rfl rfl (fun w hw => turned1_c (s.shape.getD (i).toNat default) way _ w (hw.has (p := 4) rfl) (Rd.has (Has.rd hways) hw) h0)) ?_
          refine ph_yx (yx_buildSlice rfl (bs49_1 _ _) encPt_ok rfl) ?_
          intro b36
          refine gk_sub (T' := [(2,_), (3,_), (4,_), (5,_), (7,_), (8,_), (25,_), (26,_), (27,_), (32,_), (36,_)]) ⟨rfl, rfl, rfl, rfl, rfl, rfl, rfl, rfl, rfl, rfl, rfl, trivial⟩ ?_
          refine gk_append (m := [⟨((moveW way (s.shape.getD (i).toNat default)).x), ((moveW way (s.shape.getD (i).toNat default)).z)⟩]) 2 af49 encPt_ok rfl rfl rfl rfl (fun _ hw => (has_row encPt_ok (hw.has (p := 0) rfl))) (by first | omega | (simp only [List.length_cons, List.length_nil]; omega)) (by first | (unfold maxLen; omega) | (simp only [List.length_cons, List.length_nil, maxLen]; omega)) fun a37 c37 => ?_
          refine gk_y rfl rfl (y_fieldAddr fo52_1 rfl) ?_
          refine gk_storeV 3 tf49 rfl rfl (vs := [_]) rfl rfl rfl rfl rfl ?_
          refine gk_nil (gk_sub (T' := [(2,_), (3,_), (4,_), (5,_), (7,_), (8,_), (25,_), (26,_), (27,_)]) ⟨rfl, rfl, rfl, rfl, rfl, rfl, rfl, rfl, rfl, trivial⟩ ?_)
          refine gk_region ?_
          refine gk_y rfl rfl (y_addI rfl rfl (by omega) (by omega)) ?_
          refine gk_y rfl rfl (y_move rfl) ?_
          refine gk_nil (gk_sub (T' := [(2,_), (3,_), (4,_), (5,_), (7,_), (8,_), (25,_), (26,_), (27,_)]) ⟨rfl, rfl, rfl, rfl, rfl, rfl, rfl, rfl, rfl, trivial⟩ ?_)
          refine gk_dropAt 0 rfl ?_
          refine gk_dropAt 0 rfl ?_
          exact gk_next (i + 1, a37, c37, _) ⟨rfl, rfl, rfl, rfl, rfl, rfl, rfl, rfl, rfl, trivial⟩ rfl ⟨by omega, by omega, by rw [map_take_succ g0 (by omega), ← g2], by rw [List.length_append, g2, List.length_map, List.length_take]; simp; omega⟩ (by simp only []; omega)
        · simp only [decide_eq_false_iff_not] at hc28
          refine gk_exit rfl ?_
          refine gk_seq ?_
          refine gk_seq ?_
          refine gk_region ?_
          refine gk_y rfl rfl (y_loadB1 3 tf3 rfl rfl rfl) ?_
          refine gk_y rfl rfl (y_gtr rfl rfl) ?_
          refine gk_nil (gk_sub (T' := [(2,_), (4,_), (5,_), (7,_), (8,_), (41,_)]) ⟨rfl, rfl, rfl, rfl, rfl, rfl, trivial⟩ ?_)
          have hm : m = s.shape.map (moveW way) := by rw [g2, take_all (by omega)]
          have hml : m.length = s.shape.length := by rw [hm, List.length_map]
          have hsm : Small m.length := by unfold Small; omega
          refine gk_cond rfl (fun hc41 => ?_) (fun hc41 => ?_)
          · have hc41 := of_decide_eq_true hc41
            have hL : turnedL s way = m.reverse := by rw [turnedL, if_pos hc41, hm]
            rw [hL] at hT
            refine gk_region ?_
            refine gk_y rfl rfl (y_fieldAddr fo52_1 rfl) ?_
            refine gk_y rfl rfl (y_loadB1 1 tf49 rfl rfl rfl) ?_
            refine gk_callU 0 en57 rfl rfl rfl (fun w B hF => reverse_c _ _ m w B (fun k hk => (hF.own k hk).2) hF.A (by assumption)) fun u44 hq44 => ?_
            refine gk_nil (gk_sub (T' := [(2,_), (4,_), (5,_), (7,_), (8,_)]) ⟨rfl, rfl, rfl, rfl, rfl, trivial⟩ ?_)
            refine gk_conv (R' := Box b8 [.string s.name, .slice b (m.reverse).length bc, .int .i64 s.depth, .int .i64 s.density, .int .i64 s.grain.x, .int .i64 s.grain.z] 52) 1 rfl (fun B w hA => by rw [show m.reverse.length = m.length from List.length_reverse ..]; exact hA) ?_
            refine gk_seq ?_
            refine gk_any 8 (fun _ => mixed) (by kernel_rfl) ?_
            refine ph_y (y_fieldAddr fo52_1 rfl) ?_
            refine ph_y (y_loadB1 1 tf49 rfl rfl rfl) ?_
            refine ph_yx (yx_call en58 rfl (fun w hw => settled_c _ _ (m.reverse) w (has_row encPt_ok (hw.has (p := 0) rfl)) (by first | assumption | (rw [List.length_reverse]; assumption)) (by first | omega | (rw [List.length_reverse]; omega)) (row_cap (hw.has (p := 0) rfl)))) ?_
            refine ph_y (y_move rfl) ?_
            refine ph_y (y_fieldAddr fo52_4 rfl) ?_
            refine ph_y (y_loadBA 4 tf50 rfl rfl (vs := [_, _]) rfl rfl) ?_
            refine ph_y (fun p47 => y_callV (fs := []) (cap := [_]) en56 rfl rfl (fun w hw => turned1_c s.grain way _ w (hw.has (p := 4) rfl) (Rd.has (Has.rd hways) hw) h0)) ?_
            refine ph_y (fun p47 => y_fieldAddr fo52_1 rfl) ?_
            intro p47
            refine gk_sub (T' := [(4,_), (5,_), (8,_), (47,_), (51,_), (52,_)]) ⟨rfl, rfl, rfl, rfl, rfl, rfl, trivial⟩ ?_
            refine gk_storeV 2 tf49 rfl rfl (vs := [_]) rfl rfl rfl rfl rfl ?_
            refine gk_y rfl rfl (y_fieldAddr fo52_4 rfl) ?_
            refine gk_storeV 2 tf50 rfl rfl (vs := [_, _]) rfl rfl rfl rfl rfl ?_
            refine gk_nil (gk_sub (T' := [(4,_), (5,_), (8,_)]) ⟨rfl, rfl, rfl, trivial⟩ ?_)
            refine gk_seq ?_
            refine gk_region ?_
            refine gk_y rfl rfl (y_loadBA 2 tf52 rfl rfl (vs := [_, _, _, _, _, _]) rfl rfl) ?_
            refine gk_storeV 3 tf52 rfl rfl (vs := [_, _, _, _, _, _]) rfl rfl rfl rfl rfl ?_
            refine gk_y rfl rfl (y_assign rfl) ?_
            refine gk_nil (gk_sub (T' := [(4,_), (5,_)]) ⟨rfl, rfl, trivial⟩ ?_)
            refine gk_ret ?_
            refine gk_gives p47 0 (rv_two rfl (r1_cellA (i := 3) (vs := [_, _, _, _, _, _]) tf52 rfl rfl rfl rfl) (r1_tmp rfl)) ?_ (by rw [hT]; rfl)
            rw [hT, hE]; try rfl
          · have hc41 := of_decide_eq_false hc41
            have hL : turnedL s way = m := by rw [turnedL, if_neg hc41, hm]
            rw [hL] at hT
            refine gk_skip ?_
            refine gk_seq ?_
            refine gk_any 8 (fun _ => mixed) (by kernel_rfl) ?_
            refine ph_y (y_fieldAddr fo52_1 rfl) ?_
            refine ph_y (y_loadB1 1 tf49 rfl rfl rfl) ?_
            refine ph_yx (yx_call en58 rfl (fun w hw => settled_c _ _ m w (has_row encPt_ok (hw.has (p := 0) rfl)) (by first | assumption | (rw [List.length_reverse]; assumption)) (by first | omega | (rw [List.length_reverse]; omega)) (row_cap (hw.has (p := 0) rfl)))) ?_
            refine ph_y (y_move rfl) ?_
            refine ph_y (y_fieldAddr fo52_4 rfl) ?_
            refine ph_y (y_loadBA 4 tf50 rfl rfl (vs := [_, _]) rfl rfl) ?_
            refine ph_y (fun p47 => y_callV (fs := []) (cap := [_]) en56 rfl rfl (fun w hw => turned1_c s.grain way _ w (hw.has (p := 4) rfl) (Rd.has (Has.rd hways) hw) h0)) ?_
            refine ph_y (fun p47 => y_fieldAddr fo52_1 rfl) ?_
            intro p47
            refine gk_sub (T' := [(4,_), (5,_), (8,_), (47,_), (51,_), (52,_)]) ⟨rfl, rfl, rfl, rfl, rfl, rfl, trivial⟩ ?_
            refine gk_storeV 2 tf49 rfl rfl (vs := [_]) rfl rfl rfl rfl rfl ?_
            refine gk_y rfl rfl (y_fieldAddr fo52_4 rfl) ?_
            refine gk_storeV 2 tf50 rfl rfl (vs := [_, _]) rfl rfl rfl rfl rfl ?_
            refine gk_nil (gk_sub (T' := [(4,_), (5,_), (8,_)]) ⟨rfl, rfl, rfl, trivial⟩ ?_)
            refine gk_seq ?_
            refine gk_region ?_
            refine gk_y rfl rfl (y_loadBA 2 tf52 rfl rfl (vs := [_, _, _, _, _, _]) rfl rfl) ?_
            refine gk_storeV 3 tf52 rfl rfl (vs := [_, _, _, _, _, _]) rfl rfl rfl rfl rfl ?_
            refine gk_y rfl rfl (y_assign rfl) ?_
            refine gk_nil (gk_sub (T' := [(4,_), (5,_)]) ⟨rfl, rfl, trivial⟩ ?_)
            refine gk_ret ?_
            refine gk_gives p47 0 (rv_two rfl (r1_cellA (i := 3) (vs := [_, _, _, _, _, _]) tf52 rfl rfl rfl rfl) (r1_tmp rfl)) ?_ (by rw [hT]; rfl)
            rw [hT, hE]; try rfl
end Go.Proofs.YtmpaebfjnjmmlaaGreatDoor

namespace Go.Proofs.YtmpaebfjnjmmlaaGreatDoor
open Go.K Go.Stn Go.RowKit
theorem en19 : En Tryz.prog 19 := en_of Tryz.func19 (by kernel_rfl) (by kernel_rfl)
theorem en20 : En Tryz.prog 20 := en_of Tryz.func20 (by kernel_rfl) (by kernel_rfl)
theorem en21 : En Tryz.prog 21 := en_of Tryz.func21 (by kernel_rfl) (by kernel_rfl)
theorem en22 : En Tryz.prog 22 := en_of Tryz.func22 (by kernel_rfl) (by kernel_rfl)
theorem en23 : En Tryz.prog 23 := en_of Tryz.func23 (by kernel_rfl) (by kernel_rfl)
theorem en24 : En Tryz.prog 24 := en_of Tryz.func24 (by kernel_rfl) (by kernel_rfl)
set_option maxRecDepth 100000 in
set_option maxHeartbeats 1000000 in
theorem wakes_c  (w : World) (hways : Has w (Elems (some ⟨0, 0, none⟩) 1 encVal [.func (.func 194) #[] #[], .func (.func 195) #[] #[], .func (.func 196) #[] #[], .func (.func 197) #[] #[]])) :
    Calls Tryz.prog 6 #[] w (Pure (.bool true) w) := by
  have hs : Small brickS.shape.length := by decide
  have hA4 : (1 : Int) < ((splitA brickS (⟨50, 0⟩ : Pt) (⟨50, 80⟩ : Pt)).shape.length : Int) := by rw [brick_splitA]; decide
  have hO1 : (0 : Int) < ((outL brickS (⟨0, 40⟩ : Pt) 0).length : Int) := by rw [brick_out]; decide
  have hin : struckE brickS (⟨0, 40⟩ : Pt) 0 = 0 → 0 ≤ findI (eqB (⟨0, 40⟩ : Pt)) (borderL brickS.shape) := fun _ => brick_in
  refine calls_of_gk (vs := []) Tryz.func6 rfl rfl (Nat.le_of_ble_eq_true rfl) ?_
  refine gk_seq ?_
  refine gk_region ?_
  refine gk_y rfl rfl (y_assign rfl) ?_
  refine gk_nil (gk_sub (T' := [(0,_)]) ⟨rfl, trivial⟩ ?_)
  refine gk_seq ?_
  refine gk_region ?_
  refine gk_yx rfl rfl (yx_call en19 rfl (fun w hw => brick_c w)) fun p13 => ?_
  refine gk_yx rfl rfl (yx_alloc tf52 (zs := [_, _, _, _, _, _]) rfl) fun b1 => ?_
  refine gk_storeV 0 tf52 rfl rfl (vs := [_, _, _, _, _, _]) rfl rfl rfl rfl rfl ?_
  refine gk_nil (gk_sub (T' := [(0,_), (1,_)]) ⟨rfl, rfl, trivial⟩ ?_)
  refine gk_seq ?_
  refine gk_region ?_
  refine gk_y rfl rfl (y_loadBA 0 tf52 rfl rfl (vs := [_, _, _, _, _, _]) rfl rfl) ?_
  refine gk_y rfl rfl (y_call en20 rfl (fun w hw => weight_c _ _ brickS w (has_row encPt_ok (hw.has (p := 1) rfl)) (by assumption))) ?_
  refine gk_y rfl rfl (y_move rfl) ?_
  refine gk_y rfl rfl (y_extract rfl rfl) ?_
  refine gk_y rfl rfl (y_extract rfl rfl) ?_
  refine gk_y rfl rfl (y_assign rfl) ?_
  refine gk_y rfl rfl (y_assign rfl) ?_
  refine gk_nil (gk_sub (T' := [(0,_), (1,_), (2,_), (3,_)]) ⟨rfl, rfl, rfl, rfl, trivial⟩ ?_)
  refine gk_seq ?_
  refine gk_region ?_
  refine gk_y rfl rfl (y_loadBA 0 tf52 rfl rfl (vs := [_, _, _, _, _, _]) rfl rfl) ?_
  refine gk_y rfl rfl (y_buildL rfl (bd50_0i _)) ?_
  refine gk_y rfl rfl (y_buildL rfl (bd50_0i_1i _ _)) ?_
  refine gk_yx rfl rfl (yx_call en21 rfl (fun w hw => Split_c _ _ brickS (⟨50, 0⟩ : Pt) (⟨50, 80⟩ : Pt) w (has_row encPt_ok (hw.has (p := 1) rfl)) (by assumption))) fun p23 => gk_split ?_
  refine gk_y rfl rfl (y_move rfl) ?_
  refine gk_y rfl rfl (y_extract rfl rfl) ?_
  refine gk_y rfl rfl (y_extract rfl rfl) ?_
  refine gk_y rfl rfl (y_extract rfl rfl) ?_
  refine gk_yx rfl rfl (yx_alloc tf52 (zs := [_, _, _, _, _, _]) rfl) fun b4 => ?_
  refine gk_yx rfl rfl (yx_alloc tf52 (zs := [_, _, _, _, _, _]) rfl) fun b5 => ?_
  refine gk_storeV 1 tf52 rfl rfl (vs := [_, _, _, _, _, _]) rfl rfl rfl rfl rfl ?_
  refine gk_storeV 0 tf52 rfl rfl (vs := [_, _, _, _, _, _]) rfl rfl rfl rfl rfl ?_
  refine gk_y rfl rfl (y_assign rfl) ?_
  refine gk_nil (gk_sub (T' := [(0,_), (1,_), (2,_), (3,_), (4,_), (5,_), (6,_)]) ⟨rfl, rfl, rfl, rfl, rfl, rfl, rfl, trivial⟩ ?_)
  refine gk_seq ?_
  refine gk_region ?_
  refine gk_y rfl rfl (y_loadBA 4 tf52 rfl rfl (vs := [_, _, _, _, _, _]) rfl rfl) ?_
  refine gk_y rfl rfl (y_buildL rfl (bd50_1i _)) ?_
  refine gk_yx rfl rfl (yx_call en22 rfl (fun w hw => Outcomes_c _ _ brickS (⟨0, 40⟩ : Pt) 0 w (has_row encPt_ok (hw.has (p := 5) rfl)) (by assumption) (by assumption))) fun p30 => ?_
  refine gk_y rfl rfl (y_move rfl) ?_
  refine gk_y rfl rfl (y_extract rfl rfl) ?_
  refine gk_y rfl rfl (y_extract rfl rfl) ?_
  refine gk_y rfl rfl (y_assign rfl) ?_
  refine gk_y rfl rfl (y_assign rfl) ?_
  refine gk_nil (gk_sub (T' := [(0,_), (1,_), (2,_), (3,_), (4,_), (5,_), (6,_), (7,_), (8,_)]) ⟨rfl, rfl, rfl, rfl, rfl, rfl, rfl, rfl, rfl, trivial⟩ ?_)
  refine gk_seq ?_
  refine gk_region ?_
  refine gk_y rfl rfl (y_loadBA 5 tf52 rfl rfl (vs := [_, _, _, _, _, _]) rfl rfl) ?_
  refine gk_yx rfl rfl (yx_call en23 rfl (fun w hw => Turned_c _ _ brickS 1 w (has_row encPt_ok (hw.has (p := 6) rfl)) (by assumption) (Rd.has (Has.rd hways) hw))) fun p35 => ?_
  refine gk_y rfl rfl (y_move rfl) ?_
  refine gk_y rfl rfl (y_extract rfl rfl) ?_
  refine gk_y rfl rfl (y_extract rfl rfl) ?_
  refine gk_yx rfl rfl (yx_alloc tf52 (zs := [_, _, _, _, _, _]) rfl) fun b9 => ?_
  refine gk_storeV 0 tf52 rfl rfl (vs := [_, _, _, _, _, _]) rfl rfl rfl rfl rfl ?_
  refine gk_y rfl rfl (y_assign rfl) ?_
  refine gk_nil (gk_sub (T' := [(0,_), (1,_), (2,_), (3,_), (4,_), (5,_), (6,_), (7,_), (8,_), (9,_), (10,_)]) ⟨rfl, rfl, rfl, rfl, rfl, rfl, rfl, rfl, rfl, rfl, rfl, trivial⟩ ?_)
  refine gk_seq ?_
  refine gk_region ?_
  refine gk_y rfl rfl (y_loadBA 7 tf52 rfl rfl (vs := [_, _, _, _, _, _]) rfl rfl) ?_
  refine gk_yx rfl rfl (yx_call en24 rfl (fun w hw => Border_c _ _ brickS w (has_row encPt_ok (hw.has (p := 8) rfl)) (by assumption))) fun p40 => ?_
  refine gk_y rfl rfl (y_move rfl) ?_
  refine gk_y rfl rfl (y_extract rfl rfl) ?_
  refine gk_y rfl rfl (y_extract rfl rfl) ?_
  refine gk_y rfl rfl (y_assign rfl) ?_
  refine gk_y rfl rfl (y_assign rfl) ?_
  refine gk_nil (gk_sub (T' := [(0,_), (2,_), (3,_), (4,_), (5,_), (6,_), (7,_), (8,_), (9,_), (10,_), (11,_), (12,_)]) ⟨rfl, rfl, rfl, rfl, rfl, rfl, rfl, rfl, rfl, rfl, rfl, rfl, trivial⟩ ?_)
  refine gk_seq ?_
  refine gk_region ?_
  refine gk_y rfl rfl (y_move rfl) ?_
  refine gk_y rfl rfl (y_castT (y_eql rfl rfl) (by rw [brick_ok]; rfl)) ?_
  refine gk_y rfl rfl (y_move rfl) ?_
  refine gk_guard rfl rfl rfl rfl (fun _ => ?_) (fun h => absurd h (by decide))
  refine gk_y rfl rfl (y_move rfl) ?_
  refine gk_guard rfl rfl rfl rfl (fun _ => ?_) (fun h => absurd h (by decide))
  refine gk_y rfl rfl (y_castT (y_eql rfl rfl) (by rw [askI, if_pos brick_ok, brick_weight]; rfl)) ?_
  refine gk_y rfl rfl (y_pick rfl rfl rfl) ?_
  refine gk_y rfl rfl (y_move rfl) ?_
  refine gk_guard rfl rfl rfl rfl (fun _ => ?_) (fun h => absurd h (by decide))
  refine gk_y rfl rfl (y_move rfl) ?_
  refine gk_guard rfl rfl rfl rfl (fun _ => ?_) (fun h => absurd h (by decide))
  refine gk_y rfl rfl (y_castT (y_eql rfl rfl) (by rw [brick_splitE]; rfl)) ?_
  refine gk_y rfl rfl (y_pick rfl rfl rfl) ?_
  refine gk_y rfl rfl (y_move rfl) ?_
  refine gk_guard rfl rfl rfl rfl (fun _ => ?_) (fun h => absurd h (by decide))
  refine gk_y rfl rfl (y_fieldAddr fo52_0 rfl) ?_
  refine gk_guard rfl rfl rfl rfl (fun _ => ?_) (fun h => absurd h (by decide))
  refine gk_y rfl rfl (y_loadB1 5 tf9 rfl rfl rfl) ?_
  refine gk_guard rfl rfl rfl rfl (fun _ => ?_) (fun h => absurd h (by decide))
  refine gk_y rfl rfl (y_castT (y_strEq rfl rfl) (by rw [brick_splitA]; decide +kernel)) ?_
  refine gk_y rfl rfl (y_pick rfl rfl rfl) ?_
  refine gk_y rfl rfl (y_move rfl) ?_
  refine gk_guard rfl rfl rfl rfl (fun _ => ?_) (fun h => absurd h (by decide))
  refine gk_y rfl rfl (y_fieldAddr fo52_1 rfl) ?_
  refine gk_guard rfl rfl rfl rfl (fun _ => ?_) (fun h => absurd h (by decide))
  refine gk_y rfl rfl (y_loadB1 5 tf49 rfl rfl rfl) ?_
  refine gk_guard rfl rfl rfl rfl (fun _ => ?_) (fun h => absurd h (by decide))
  refine gk_y rfl rfl (y_lenS (Tryz.underlying49) rfl) ?_
  refine gk_guard rfl rfl rfl rfl (fun _ => ?_) (fun h => absurd h (by decide))
  refine gk_y rfl rfl (y_castT (y_eql rfl rfl) (by rw [brick_splitA]; rfl)) ?_
  refine gk_y rfl rfl (y_pick rfl rfl rfl) ?_
  refine gk_y rfl rfl (y_move rfl) ?_
  refine gk_guard rfl rfl rfl rfl (fun _ => ?_) (fun h => absurd h (by decide))
  refine gk_y rfl rfl (y_fieldAddr fo52_1 rfl) ?_
  refine gk_guard rfl rfl rfl rfl (fun _ => ?_) (fun h => absurd h (by decide))
  refine gk_y rfl rfl (y_loadB1 5 tf49 rfl rfl rfl) ?_
  refine gk_guard rfl rfl rfl rfl (fun _ => ?_) (fun h => absurd h (by decide))
  refine gk_y rfl rfl (y_indexE se49 rfl rfl (fun _ hw => (has_row encPt_ok (hw.has (p := 6) rfl))) (by omega) (by omega)) ?_
  refine gk_guard rfl rfl rfl rfl (fun _ => ?_) (fun h => absurd h (by decide))
  refine gk_y rfl rfl (y_fieldE fo50_0 rfl (fun w hw => elems_addr (i := 1) (has_row encPt_ok (hw.has (p := 6) rfl)) (by omega) (by omega))) ?_
  refine gk_guard rfl rfl rfl rfl (fun _ => ?_) (fun h => absurd h (by decide))
  refine gk_y rfl rfl (y_loadEF tf3 rfl (fun _ hw => (has_row encPt_ok (hw.has (p := 6) rfl))) (by omega) (by omega) rfl) ?_
  refine gk_guard rfl rfl rfl rfl (fun _ => ?_) (fun h => absurd h (by decide))
  refine gk_y rfl rfl (y_castT (y_eql rfl rfl) (by rw [brick_splitA]; rfl)) ?_
  refine gk_y rfl rfl (y_pick rfl rfl rfl) ?_
  refine gk_y rfl rfl (y_move rfl) ?_
  refine gk_guard rfl rfl rfl rfl (fun _ => ?_) (fun h => absurd h (by decide))
  refine gk_y rfl rfl (y_fieldAddr fo52_0 rfl) ?_
  refine gk_guard rfl rfl rfl rfl (fun _ => ?_) (fun h => absurd h (by decide))
  refine gk_y rfl rfl (y_loadB1 4 tf9 rfl rfl rfl) ?_
  refine gk_guard rfl rfl rfl rfl (fun _ => ?_) (fun h => absurd h (by decide))
  refine gk_y rfl rfl (y_castT (y_strEq rfl rfl) (by rw [brick_splitB]; decide +kernel)) ?_
  refine gk_y rfl rfl (y_pick rfl rfl rfl) ?_
  refine gk_y rfl rfl (y_move rfl) ?_
  refine gk_guard rfl rfl rfl rfl (fun _ => ?_) (fun h => absurd h (by decide))
  refine gk_y rfl rfl (y_move rfl) ?_
  refine gk_guard rfl rfl rfl rfl (fun _ => ?_) (fun h => absurd h (by decide))
  refine gk_y rfl rfl (y_castT (y_eql rfl rfl) (by rw [brick_struck]; rfl)) ?_
  refine gk_y rfl rfl (y_pick rfl rfl rfl) ?_
  refine gk_y rfl rfl (y_move rfl) ?_
  refine gk_guard rfl rfl rfl rfl (fun _ => ?_) (fun h => absurd h (by decide))
  refine gk_y rfl rfl (y_move rfl) ?_
  refine gk_guard rfl rfl rfl rfl (fun _ => ?_) (fun h => absurd h (by decide))
  refine gk_y rfl rfl (y_lenS (Tryz.underlying49) rfl) ?_
  refine gk_guard rfl rfl rfl rfl (fun _ => ?_) (fun h => absurd h (by decide))
  refine gk_y rfl rfl (y_castT (y_eql rfl rfl) (by rw [brick_out]; rfl)) ?_
  refine gk_y rfl rfl (y_pick rfl rfl rfl) ?_
  refine gk_y rfl rfl (y_move rfl) ?_
  refine gk_guard rfl rfl rfl rfl (fun _ => ?_) (fun h => absurd h (by decide))
  refine gk_y rfl rfl (y_move rfl) ?_
  refine gk_guard rfl rfl rfl rfl (fun _ => ?_) (fun h => absurd h (by decide))
  refine gk_y rfl rfl (y_indexE se49 rfl rfl (fun _ hw => (has_row encPt_ok (hw.has (p := 3) rfl))) (by omega) (by omega)) ?_
  refine gk_guard rfl rfl rfl rfl (fun _ => ?_) (fun h => absurd h (by decide))
  refine gk_y rfl rfl (y_loadE (vs := [_, _]) tf50 rfl (fun _ hw => (has_row encPt_ok (hw.has (p := 3) rfl))) (by omega) (by omega) rfl) ?_
  refine gk_guard rfl rfl rfl rfl (fun _ => ?_) (fun h => absurd h (by decide))
  refine gk_y rfl rfl (y_buildL rfl (bd50_0i_1i _ _)) ?_
  refine gk_guard rfl rfl rfl rfl (fun _ => ?_) (fun h => absurd h (by decide))
  refine gk_y rfl rfl (y_castT (y_eql50 rfl rfl) (by rw [brick_out]; rfl)) ?_
  refine gk_y rfl rfl (y_pick rfl rfl rfl) ?_
  refine gk_y rfl rfl (y_move rfl) ?_
  refine gk_guard rfl rfl rfl rfl (fun _ => ?_) (fun h => absurd h (by decide))
  refine gk_y rfl rfl (y_move rfl) ?_
  refine gk_guard rfl rfl rfl rfl (fun _ => ?_) (fun h => absurd h (by decide))
  refine gk_y rfl rfl (y_castT (y_eql rfl rfl) (by rw [brick_turnE]; rfl)) ?_
  refine gk_y rfl rfl (y_pick rfl rfl rfl) ?_
  refine gk_y rfl rfl (y_move rfl) ?_
  refine gk_guard rfl rfl rfl rfl (fun _ => ?_) (fun h => absurd h (by decide))
  refine gk_y rfl rfl (y_fieldAddr fo52_4 rfl) ?_
  refine gk_guard rfl rfl rfl rfl (fun _ => ?_) (fun h => absurd h (by decide))
  refine gk_y rfl rfl (y_loadBA 1 tf50 rfl rfl (vs := [_, _]) rfl rfl) ?_
  refine gk_guard rfl rfl rfl rfl (fun _ => ?_) (fun h => absurd h (by decide))
  refine gk_y rfl rfl (y_buildL rfl (bd50_1i _)) ?_
  refine gk_guard rfl rfl rfl rfl (fun _ => ?_) (fun h => absurd h (by decide))
  refine gk_y rfl rfl (y_castT (y_eql50 rfl rfl) (by rw [brick_turn]; rfl)) ?_
  refine gk_y rfl rfl (y_pick rfl rfl rfl) ?_
  refine gk_y rfl rfl (y_move rfl) ?_
  refine gk_guard rfl rfl rfl rfl (fun _ => ?_) (fun h => absurd h (by decide))
  refine gk_y rfl rfl (y_move rfl) ?_
  refine gk_guard rfl rfl rfl rfl (fun _ => ?_) (fun h => absurd h (by decide))
  refine gk_y rfl rfl (y_castT (y_eql rfl rfl) (by rw [brick_ok]; rfl)) ?_
  refine gk_y rfl rfl (y_pick rfl rfl rfl) ?_
  refine gk_y rfl rfl (y_move rfl) ?_
  refine gk_guard rfl rfl rfl rfl (fun _ => ?_) (fun h => absurd h (by decide))
  refine gk_y rfl rfl (y_move rfl) ?_
  refine gk_guard rfl rfl rfl rfl (fun _ => ?_) (fun h => absurd h (by decide))
  refine gk_y rfl rfl (y_lenS (Tryz.underlying49) rfl) ?_
  refine gk_guard rfl rfl rfl rfl (fun _ => ?_) (fun h => absurd h (by decide))
  refine gk_y rfl rfl (y_castT (y_eql rfl rfl) (by rw [brick_border]; rfl)) ?_
  refine gk_y rfl rfl (y_pick rfl rfl rfl) ?_
  refine gk_y rfl rfl (y_assign rfl) ?_
  refine gk_nil (gk_sub (T' := [(0,_)]) ⟨rfl, trivial⟩ ?_)
  refine gk_ret ?_
  refine gk_pure (rv_one rfl (r1_tmp rfl)) ?_
  rfl
end Go.Proofs.YtmpaebfjnjmmlaaGreatDoor

namespace Go.Proofs.YtmpaebfjnjmmlaaGreatDoor
open Go.K Go.Stn Go.RowKit
theorem en77 : En Tryz.prog 77 := en_of Tryz.func77 (by kernel_rfl) (by kernel_rfl)
set_option maxRecDepth 100000 in
set_option maxHeartbeats 1000000 in
theorem samepoints_c (a1 : Option Addr) (c1 : Nat) (l : List Pt) (a2 : Option Addr) (c2 : Nat) (m : List Pt) (w : World) (hl : Has w (Pts a1 l)) (hm : Has w (Pts a2 m)) (hs : Small l.length) :
    Calls Tryz.prog 77 #[.slice a1 l.length c1, .slice a2 m.length c2] w (Pure (.bool (decide (l = m))) w) := by
  refine calls_of_gk (vs := [_, _]) Tryz.func77 rfl rfl (Nat.le_of_ble_eq_true rfl) ?_
  refine gk_seq ?_
  refine gk_region ?_
  refine gk_y rfl rfl (y_assign rfl) ?_
  refine gk_nil (gk_sub (T' := [(0,_), (1,_), (4,_)]) ⟨rfl, rfl, rfl, trivial⟩ ?_)
  refine gk_seq ?_
  refine gk_seq ?_
  refine gk_region ?_
  refine gk_y rfl rfl (y_move rfl) ?_
  refine gk_y rfl rfl (y_lenS (Tryz.underlying49) rfl) ?_
  refine gk_y rfl rfl (y_move rfl) ?_
  refine gk_y rfl rfl (y_lenS (Tryz.underlying24) rfl) ?_
  refine gk_y rfl rfl (y_neq rfl rfl) ?_
  refine gk_nil (gk_sub (T' := [(0,_), (1,_), (4,_), (10,_)]) ⟨rfl, rfl, rfl, rfl, trivial⟩ ?_)
  refine gk_cond rfl (fun hc10 => ?_) (fun hc10 => ?_)
  · have hne : l.length ≠ m.length := by simp only [Bool.not_eq_true', decide_eq_false_iff_not] at hc10; omega
    refine gk_seq ?_
    refine gk_region ?_
    refine gk_y rfl rfl (y_assign rfl) ?_
    refine gk_nil (gk_sub (T' := [(0,_), (1,_), (4,_)]) ⟨rfl, rfl, rfl, trivial⟩ ?_)
    refine gk_ret ?_
    refine gk_pure (rv_one rfl (r1_tmp rfl)) ?_
    rw [decide_eq_false (fun h => hne (by rw [h]))]
  · have hlm : l.length = m.length := by simp only [Bool.not_eq_false', decide_eq_true_eq] at hc10; omega
    refine gk_skip ?_
    refine gk_seq ?_
    refine gk_seq ?_
    refine gk_region ?_
    refine gk_y rfl rfl (y_assign rfl) ?_
    refine gk_nil (gk_sub (T' := [(0,_), (1,_), (4,_), (5,_)]) ⟨rfl, rfl, rfl, rfl, trivial⟩ ?_)
    refine gk_block ?_
    refine gk_loop (X := Int) (fun (i : Int) => [(0, .slice a1 l.length c1), (1, .slice a2 m.length c2), (4, .bool false), (5, .int .i64 i)]) (fun (i : Int) => []) (fun (i : Int) => (0 ≤ i ∧ i ≤ l.length ∧ ∀ j : Nat, (j : Int) < i → l.getD j default = m.getD j default)) (fun (i : Int) => (l.length - i).toNat) 0 ⟨rfl, rfl, rfl, rfl, trivial⟩ rfl ?_ ?_
    · exact ⟨by omega, by omega, fun j hj => by omega⟩
    · rintro i hI
      obtain ⟨g0, g1, g2⟩ := hI
      refine gk_seq ?_
      refine gk_seq ?_
      refine gk_region ?_
      refine gk_y rfl rfl (y_move rfl) ?_
      refine gk_y rfl rfl (y_move rfl) ?_
      refine gk_y rfl rfl (y_lenS (Tryz.underlying49) rfl) ?_
      refine gk_y rfl rfl (y_lss rfl rfl) ?_
      refine gk_nil (gk_sub (T' := [(0,_), (1,_), (4,_), (5,_), (14,_)]) ⟨rfl, rfl, rfl, rfl, rfl, trivial⟩ ?_)
      refine gk_cond rfl (fun hc14 => ?_) (fun hc14 => ?_)
      · simp only [decide_eq_true_eq] at hc14
        refine gk_skip ?_
        refine gk_seq ?_
        refine gk_block ?_
        refine gk_seq ?_
        refine gk_any 24 (fun _ => mixed) (by kernel_rfl) ?_
        refine ph_y (y_move rfl) ?_
        refine ph_y (y_move rfl) ?_
        refine ph_y (y_indexE se49 rfl rfl (fun _ hw => (Rd.has (Has.rd hl) hw)) (by omega) (by omega)) ?_
        refine ph_y (y_fieldE fo50_0 rfl (fun w hw => elems_addr (i := i) (Rd.has (Has.rd hl) hw) (by omega) (by omega))) ?_
        refine ph_y (y_loadEF tf3 rfl (fun _ hw => (Rd.has (Has.rd hl) hw)) (by omega) (by omega) rfl) ?_
        refine ph_y (y_move rfl) ?_
        refine ph_y (y_move rfl) ?_
        refine ph_y (y_indexE se24 rfl rfl (fun _ hw => (Rd.has (Has.rd hm) hw)) (by omega) (by omega)) ?_
        refine ph_y (y_fieldE fo26_0 rfl (fun w hw => elems_addr (i := i) (Rd.has (Has.rd hm) hw) (by omega) (by omega))) ?_
        refine ph_y (y_loadEF tf3 rfl (fun _ hw => (Rd.has (Has.rd hm) hw)) (by omega) (by omega) rfl) ?_
        refine ph_y (y_neq rfl rfl) ?_
        refine ph_y (y_move rfl) ?_
        refine ph_gF rfl rfl (fun hgd => by (try rw [hgd]); exact (y_move rfl)) ?_
        refine ph_gF rfl rfl (fun hgd => by (try rw [hgd]); exact (y_move rfl)) ?_
        refine ph_gF rfl rfl (fun hgd => by (try rw [hgd]); exact (y_indexE se49 rfl rfl (fun _ hw => (Rd.has (Has.rd hl) hw)) (by omega) (by omega))) ?_
        refine ph_gF rfl rfl (fun hgd => by (try rw [hgd]); exact (y_fieldE fo50_1 rfl (fun w hw => elems_addr (i := i) (Rd.has (Has.rd hl) hw) (by omega) (by omega)))) ?_
        refine ph_gF rfl rfl (fun hgd => by (try rw [hgd]); exact (y_loadEF tf3 rfl (fun _ hw => (Rd.has (Has.rd hl) hw)) (by omega) (by omega) rfl)) ?_
        refine ph_gF rfl rfl (fun hgd => by (try rw [hgd]); exact (y_move rfl)) ?_
        refine ph_gF rfl rfl (fun hgd => by (try rw [hgd]); exact (y_move rfl)) ?_
        refine ph_gF rfl rfl (fun hgd => by (try rw [hgd]); exact (y_indexE se24 rfl rfl (fun _ hw => (Rd.has (Has.rd hm) hw)) (by omega) (by omega))) ?_
        refine ph_gF rfl rfl (fun hgd => by (try rw [hgd]); exact (y_fieldE fo26_1 rfl (fun w hw => elems_addr (i := i) (Rd.has (Has.rd hm) hw) (by omega) (by omega)))) ?_
        refine ph_gF rfl rfl (fun hgd => by (try rw [hgd]); exact (y_loadEF tf3 rfl (fun _ hw => (Rd.has (Has.rd hm) hw)) (by omega) (by omega) rfl)) ?_
        refine ph_gF rfl rfl (fun hgd => by (try rw [hgd]); exact (y_neq rfl rfl)) ?_
        refine ph_y (y_pickOr rfl rfl rfl) ?_
        refine gk_nil (gk_sub (T' := [(0,_), (1,_), (4,_), (5,_), (40,_)]) ⟨rfl, rfl, rfl, rfl, rfl, trivial⟩ ?_)
        refine gk_cond rfl (fun hc40 => ?_) (fun hc40 => ?_)
        · skip
          refine gk_seq ?_
          refine gk_region ?_
          refine gk_y rfl rfl (y_assign rfl) ?_
          refine gk_nil (gk_sub (T' := [(0,_), (1,_), (4,_), (5,_)]) ⟨rfl, rfl, rfl, rfl, trivial⟩ ?_)
          refine gk_ret ?_
          refine gk_pure (rv_one rfl (r1_tmp rfl)) ?_
          rw [decide_eq_false (fun h => same_no hc40 (by rw [h]))]
        · skip
          refine gk_skip ?_
          refine gk_region ?_
          refine gk_y rfl rfl (y_move rfl) ?_
          refine gk_y rfl rfl (y_addI rfl rfl (by omega) (by omega)) ?_
          refine gk_y rfl rfl (y_assign rfl) ?_
          refine gk_nil (gk_sub (T' := [(0,_), (1,_), (4,_), (5,_)]) ⟨rfl, rfl, rfl, rfl, trivial⟩ ?_)
          exact gk_next _ ⟨rfl, rfl, rfl, rfl, trivial⟩ rfl ⟨by omega, by omega, fun j hj => if h : (j : Int) < i then g2 j h else (by rw [show j = i.toNat from by omega]; exact same_at hc40)⟩ (by omega)
      · simp only [decide_eq_false_iff_not] at hc14
        refine gk_exit rfl ?_
        refine gk_seq ?_
        refine gk_region ?_
        refine gk_y rfl rfl (y_assign rfl) ?_
        refine gk_nil (gk_sub (T' := [(4,_)]) ⟨rfl, trivial⟩ ?_)
        refine gk_ret ?_
        refine gk_pure (rv_one rfl (r1_tmp rfl)) ?_
        rw [decide_eq_true (same_all hlm (by omega) g2)]
set_option maxRecDepth 100000 in
set_option maxHeartbeats 1000000 in
theorem same_c (a1 : Option Addr) (c1 : Nat) (a : Stn) (a2 : Option Addr) (c2 : Nat) (b : Stn) (w : World) (hl : Has w (Pts a1 a.shape)) (hm : Has w (Pts a2 b.shape)) (hs : Small a.shape.length) :
    Calls Tryz.prog 40 #[.agg #[.string a.name, .slice a1 a.shape.length c1, .int .i64 a.depth, .int .i64 a.density, .int .i64 a.grain.x, .int .i64 a.grain.z], .agg #[.string b.name, .slice a2 b.shape.length c2, .int .i64 b.depth, .int .i64 b.density, .int .i64 b.grain.x, .int .i64 b.grain.z]] w (Pure (.bool (sameSB a b)) w) := by
  refine calls_of_gk (vs := [_, _]) Tryz.func40 rfl rfl (Nat.le_of_ble_eq_true rfl) ?_
  refine gk_seq ?_
  refine gk_region ?_
  refine gk_yx rfl rfl (yx_box (vs := [_, _, _, _, _, _]) rfl rfl) fun b2 => ?_
  refine gk_yx rfl rfl (yx_box (vs := [_, _, _, _, _, _]) rfl rfl) fun b3 => ?_
  refine gk_y rfl rfl (y_assign rfl) ?_
  refine gk_nil (gk_sub (T' := [(2,_), (3,_), (4,_)]) ⟨rfl, rfl, rfl, trivial⟩ ?_)
  refine gk_seq ?_
  refine gk_any 45 (fun _ => mixed) (by kernel_rfl) ?_
  refine ph_y (y_fieldAddr fo52_0 rfl) ?_
  refine ph_y (y_loadB1 1 tf9 rfl rfl rfl) ?_
  refine ph_y (y_fieldAddr fo28_0 rfl) ?_
  refine ph_y (y_loadB1 0 tf9 rfl rfl rfl) ?_
  refine ph_y (y_strEq rfl rfl) ?_
  refine ph_y (y_move rfl) ?_
  refine ph_gT rfl rfl (fun hgd => by (try rw [hgd]); exact (y_fieldAddr fo52_2 rfl)) ?_
  refine ph_gT rfl rfl (fun hgd => by (try rw [hgd]); exact (y_loadB1 1 tf3 rfl rfl rfl)) ?_
  refine ph_gT rfl rfl (fun hgd => by (try rw [hgd]); exact (y_fieldAddr fo28_2 rfl)) ?_
  refine ph_gT rfl rfl (fun hgd => by (try rw [hgd]); exact (y_loadB1 0 tf3 rfl rfl rfl)) ?_
  refine ph_gT rfl rfl (fun hgd => by (try rw [hgd]); exact (y_eql rfl rfl)) ?_
  refine ph_y (y_pickAnd rfl rfl rfl) ?_
  refine ph_y (y_move rfl) ?_
  refine ph_gT rfl rfl (fun hgd => by (try rw [hgd]); exact (y_fieldAddr fo52_3 rfl)) ?_
  refine ph_gT rfl rfl (fun hgd => by (try rw [hgd]); exact (y_loadB1 1 tf3 rfl rfl rfl)) ?_
  refine ph_gT rfl rfl (fun hgd => by (try rw [hgd]); exact (y_fieldAddr fo28_3 rfl)) ?_
  refine ph_gT rfl rfl (fun hgd => by (try rw [hgd]); exact (y_loadB1 0 tf3 rfl rfl rfl)) ?_
  refine ph_gT rfl rfl (fun hgd => by (try rw [hgd]); exact (y_eql rfl rfl)) ?_
  refine ph_y (y_pickAnd rfl rfl rfl) ?_
  refine ph_y (y_move rfl) ?_
  refine ph_gT rfl rfl (fun hgd => by (try rw [hgd]); exact (y_fieldAddr fo52_4 rfl)) ?_
  refine ph_gT rfl rfl (fun hgd => by (try rw [hgd]); exact (y_fieldAddr fo50_0 rfl)) ?_
  refine ph_gT rfl rfl (fun hgd => by (try rw [hgd]); exact (y_loadB1 1 tf3 rfl rfl rfl)) ?_
  refine ph_gT rfl rfl (fun hgd => by (try rw [hgd]); exact (y_fieldAddr fo28_4 rfl)) ?_
  refine ph_gT rfl rfl (fun hgd => by (try rw [hgd]); exact (y_fieldAddr fo26_0 rfl)) ?_
  refine ph_gT rfl rfl (fun hgd => by (try rw [hgd]); exact (y_loadB1 0 tf3 rfl rfl rfl)) ?_
  refine ph_gT rfl rfl (fun hgd => by (try rw [hgd]); exact (y_eql rfl rfl)) ?_
  refine ph_y (y_pickAnd rfl rfl rfl) ?_
  refine ph_y (y_move rfl) ?_
  refine ph_gT rfl rfl (fun hgd => by (try rw [hgd]); exact (y_fieldAddr fo52_4 rfl)) ?_
  refine ph_gT rfl rfl (fun hgd => by (try rw [hgd]); exact (y_fieldAddr fo50_1 rfl)) ?_
  refine ph_gT rfl rfl (fun hgd => by (try rw [hgd]); exact (y_loadB1 1 tf3 rfl rfl rfl)) ?_
  refine ph_gT rfl rfl (fun hgd => by (try rw [hgd]); exact (y_fieldAddr fo28_4 rfl)) ?_
  refine ph_gT rfl rfl (fun hgd => by (try rw [hgd]); exact (y_fieldAddr fo26_1 rfl)) ?_
  refine ph_gT rfl rfl (fun hgd => by (try rw [hgd]); exact (y_loadB1 0 tf3 rfl rfl rfl)) ?_
  refine ph_gT rfl rfl (fun hgd => by (try rw [hgd]); exact (y_eql rfl rfl)) ?_
  refine ph_y (y_pickAnd rfl rfl rfl) ?_
  refine ph_y (y_move rfl) ?_
  refine ph_gT rfl rfl (fun hgd => by (try rw [hgd]); exact (y_fieldAddr fo52_1 rfl)) ?_
  refine ph_gT rfl rfl (fun hgd => by (try rw [hgd]); exact (y_loadB1 1 tf49 rfl rfl rfl)) ?_
  refine ph_gT rfl rfl (fun hgd => by (try rw [hgd]); exact (y_fieldAddr fo28_1 rfl)) ?_
  refine ph_gT rfl rfl (fun hgd => by (try rw [hgd]); exact (y_loadB1 0 tf24 rfl rfl rfl)) ?_
  refine ph_gT rfl rfl (fun hgd => by (try rw [hgd]); exact (y_call (v := .bool (decide (a.shape = b.shape))) en77 rfl (fun w hw => samepoints_c _ _ a.shape _ _ b.shape w (Rd.has (Has.rd hl) hw) (Rd.has (Has.rd hm) hw) (by assumption)))) ?_
  refine ph_y (y_pickAnd rfl rfl rfl) ?_
  refine ph_y (y_assign rfl) ?_
  refine gk_nil (gk_sub (T' := [(4,_)]) ⟨rfl, trivial⟩ ?_)
  refine gk_ret ?_
  refine gk_pure (rv_one rfl (r1_tmp rfl)) ?_
  rfl
end Go.Proofs.YtmpaebfjnjmmlaaGreatDoor

namespace Go.Stn
open Go Go.K Go.RowKit
theorem check_in {s : Stn} (h : checkI s = 0) : (∀ p ∈ s.shape, inR 2000 p) ∧ inR 2000 s.grain := by
  refine ⟨fun p hp => ?_, ?_⟩
  · have := near_in (check_near h p hp)
    unfold inR; omega
  · have := check_good h
    unfold badB grainedB at this
    simp only [Bool.or_eq_false_iff, Bool.not_eq_false', Bool.and_eq_true, decide_eq_true_eq] at this
    unfold inR; omega
end Go.Stn

namespace Go.Proofs.YtmpaebfjnjmmlaaGreatDoor
open Go.K Go.Stn Go.RowKit
theorem tf28 : TF Tryz.prog 28 true 6 (.agg #[.string ⟨#[]⟩, .slice none 0 0, .int IntKind.i64 0, .int IntKind.i64 0, .int IntKind.i64 0, .int IntKind.i64 0]) := ⟨by kernel_rfl, by kernel_rfl⟩
theorem se22 : SE Tryz.prog 22 28 6 := ⟨Tryz.underlying22, by kernel_rfl⟩
theorem se29 : SE Tryz.prog 29 52 6 := ⟨Tryz.underlying29, by kernel_rfl⟩
theorem mb83 : MB Tryz.prog 83 9 4 (.bool false) := ⟨Tryz.underlying83, Tryz.underlying9, ⟨by kernel_rfl, by kernel_rfl⟩⟩
theorem en12 : En Tryz.prog 12 := en_of Tryz.func12 (by kernel_rfl) (by kernel_rfl)
theorem en40 : En Tryz.prog 40 := en_of Tryz.func40 (by kernel_rfl) (by kernel_rfl)
theorem getD_memS {α : Type} [Inhabited α] {l : List α} {i : Nat} (h : i < l.length) : l.getD i default ∈ l := by simp [h]
theorem below_nat {f : Nat → Bool} {i : Int} (h0 : 0 ≤ i) (h : ∀ j : Nat, (j : Int) < i → f j = false) (hi : f i.toNat = false) : ∀ j : Nat, (j : Int) < i + 1 → f j = false := fun j hj => by
  rcases Int.lt_or_eq_of_le (show (j : Int) ≤ i by omega) with g | g
  · exact h j g
  · rw [show j = i.toNat from by omega]; exact hi
set_option maxRecDepth 100000 in
set_option maxHeartbeats 1000000 in
theorem checkheap_c (a : Option Addr) (cap : Nat) (L : List SC) (w : World) (hl : Has w (Elems a 6 encSC L)) (hsh : ∀ z ∈ L, Has w (Pts z.a z.s.shape)) (hs : Small L.length) (hss : ∀ z ∈ L, Small z.s.shape.length) :
    Calls Tryz.prog 12 #[.slice a L.length cap] w (Pure (.int .i64 (heapI L)) w) := by
  refine calls_of_gk (vs := [_]) Tryz.func12 rfl rfl (Nat.le_of_ble_eq_true rfl) ?_
  refine gk_seq ?_
  refine gk_region ?_
  refine gk_y rfl rfl (y_assign rfl) ?_
  refine gk_nil (gk_sub (T' := [(0,_), (2,_)]) ⟨rfl, rfl, trivial⟩ ?_)
  refine gk_seq ?_
  refine gk_region ?_
  refine gk_yx rfl rfl (yx_makeMap) fun b6 => ?_
  refine gk_y rfl rfl (y_assign rfl) ?_
  refine gk_nil (gk_sub (T' := [(0,_), (2,_), (3,_)]) ⟨rfl, rfl, rfl, trivial⟩ ?_)
  refine gk_seq ?_
  refine gk_seq ?_
  refine gk_region ?_
  refine gk_y rfl rfl (y_move rfl) ?_
  refine gk_y rfl rfl (y_lenS (Tryz.underlying29) rfl) ?_
  refine gk_y rfl rfl (y_move rfl) ?_
  refine gk_nil (gk_sub (T' := [(0,_), (2,_), (3,_), (7,_), (8,_), (9,_)]) ⟨rfl, rfl, rfl, rfl, rfl, rfl, trivial⟩ ?_)
  refine gk_block ?_
  refine gk_loop (X := Int) (fun (i : Int) => [(0, .slice a L.length cap), (2, .int .i64 0), (3, .map (some b6)), (7, .slice a L.length cap), (8, .int .i64 (L.length : Int)), (9, .int .i64 i)]) (fun (i : Int) => [SetR b6 (namesL (L.take i.toNat))]) (fun (i : Int) => (0 ≤ i ∧ i ≤ L.length ∧ ∀ j : Nat, (j : Int) < i → badAt L j = false)) (fun (i : Int) => (L.length - i).toNat) 0 ⟨rfl, rfl, rfl, rfl, rfl, rfl, trivial⟩ rfl ?_ ?_
  · exact ⟨by omega, by omega, fun j hj => by omega⟩
  · rintro i hI
    obtain ⟨g0, g1, g2⟩ := hI
    refine gk_seq ?_
    refine gk_region ?_
    refine gk_y rfl rfl (y_lss rfl rfl) ?_
    refine gk_nil (gk_sub (T' := [(0,_), (2,_), (3,_), (7,_), (8,_), (9,_), (10,_)]) ⟨rfl, rfl, rfl, rfl, rfl, rfl, rfl, trivial⟩ ?_)
    refine gk_seq ?_
    refine gk_cond rfl (fun hc10 => ?_) (fun hc10 => ?_)
    · have hc10 := of_decide_eq_true hc10
      refine gk_skip ?_
      refine gk_seq ?_
      refine gk_block ?_
      refine gk_seq ?_
      refine gk_region ?_
      refine gk_y rfl rfl (y_indexE se29 rfl rfl (fun _ hw => (Rd.has (Has.rd hl) hw)) (by omega) (by omega)) ?_
      refine gk_y rfl rfl (y_loadE (vs := [_, _, _, _, _, _]) tf52 rfl (fun _ hw => (Rd.has (Has.rd hl) hw)) (by omega) (by omega) rfl) ?_
      refine gk_yx rfl rfl (yx_alloc tf52 (zs := [_, _, _, _, _, _]) rfl) fun b5 => ?_
      refine gk_storeV 0 tf52 rfl rfl (vs := [_, _, _, _, _, _]) rfl rfl rfl rfl rfl ?_
      refine gk_nil (gk_sub (T' := [(0,_), (2,_), (3,_), (5,_), (7,_), (8,_), (9,_)]) ⟨rfl, rfl, rfl, rfl, rfl, rfl, rfl, trivial⟩ ?_)
      refine gk_seq ?_
      refine gk_seq ?_
      refine gk_any 14 (fun _ => mixed) (by kernel_rfl) ?_
      refine ph_y (y_loadBA 0 tf52 rfl rfl (vs := [_, _, _, _, _, _]) rfl rfl) ?_
      refine ph_y (y_call en38 rfl (fun w hw => check_c _ _ ((L.getD (i).toNat default).s) w (Rd.has (Has.rd (hsh _ (getD_memS (by omega)))) hw) (hss _ (getD_memS (by omega))))) ?_
      refine ph_y (y_neq rfl rfl) ?_
      refine ph_y (y_move rfl) ?_
      refine ph_gF rfl rfl (fun hgd => by (try rw [hgd]); exact (y_move rfl)) ?_
      refine ph_gF rfl rfl (fun hgd => by (try rw [hgd]); exact (y_fieldAddr fo52_0 rfl)) ?_
      refine ph_gF rfl rfl (fun hgd => by (try rw [hgd]); exact (y_loadB1 0 tf9 rfl rfl rfl)) ?_
      refine ph_gF rfl rfl (fun hgd => by (try rw [hgd]); exact (y_lookupSet mb83 rfl rfl (fun _ hw => hw.has (p := 1) rfl))) ?_
      refine ph_y (y_pickOr rfl rfl rfl) ?_
      refine ph_y (y_move rfl) ?_
      refine ph_gF rfl rfl (fun hgd => by (try rw [hgd]); exact (y_move rfl)) ?_
      refine ph_gF rfl rfl (fun hgd => by (try rw [hgd]); exact (y_lenS (Tryz.underlying29) rfl)) ?_
      refine ph_gF rfl rfl (fun hgd => by (try rw [hgd]); exact (y_gtr rfl rfl)) ?_
      refine ph_y (y_pickOr rfl rfl rfl) ?_
      refine gk_nil (gk_sub (T' := [(0,_), (2,_), (3,_), (5,_), (7,_), (8,_), (9,_), (26,_)]) ⟨rfl, rfl, rfl, rfl, rfl, rfl, rfl, rfl, trivial⟩ ?_)
      refine gk_cond rfl (fun hc26 => ?_) (fun hc26 => ?_)
      · have hb : badAt L i.toNat = true := hc26
        refine gk_seq ?_
        refine gk_region ?_
        refine gk_y rfl rfl (y_assign rfl) ?_
        refine gk_nil (gk_sub (T' := [(0,_), (2,_), (3,_), (5,_), (7,_), (8,_), (9,_)]) ⟨rfl, rfl, rfl, rfl, rfl, rfl, rfl, trivial⟩ ?_)
        refine gk_ret ?_
        refine gk_pure (rv_one rfl (r1_tmp rfl)) ?_
        rw [heap_bad g0 hc10 hb]
      · have hb : badAt L i.toNat = false := hc26
        refine gk_skip ?_
        refine gk_region ?_
        refine gk_y rfl rfl (y_move rfl) ?_
        refine gk_y rfl rfl (y_fieldAddr fo52_0 rfl) ?_
        refine gk_y rfl rfl (y_loadB1 0 tf9 rfl rfl rfl) ?_
        refine gk_mapSet 1 mb83 rfl rfl rfl rfl (by have := hb; simp only [badAt, Bool.or_eq_false_iff] at this; exact this.1.2) ?_
        refine gk_nil (gk_sub (T' := [(0,_), (2,_), (3,_), (7,_), (8,_), (9,_)]) ⟨rfl, rfl, rfl, rfl, rfl, rfl, trivial⟩ ?_)
        refine gk_region ?_
        refine gk_y rfl rfl (y_addI rfl rfl (by omega) (by omega)) ?_
        refine gk_y rfl rfl (y_move rfl) ?_
        refine gk_nil (gk_sub (T' := [(0,_), (2,_), (3,_), (7,_), (8,_), (9,_)]) ⟨rfl, rfl, rfl, rfl, rfl, rfl, trivial⟩ ?_)
        refine gk_conv (R' := SetR b6 (namesL (L.take (i + 1).toNat))) 1 rfl (fun B w hA => by rw [names_succ g0 hc10]; exact hA) ?_
        refine gk_dropAt 0 rfl ?_
        exact gk_next (i + 1) ⟨rfl, rfl, rfl, rfl, rfl, rfl, trivial⟩ rfl ⟨by omega, by omega, below_nat g0 g2 hb⟩ (by omega)
    · have hc10 := of_decide_eq_false hc10
      refine gk_exit rfl ?_
      refine gk_seq ?_
      refine gk_region ?_
      refine gk_y rfl rfl (y_assign rfl) ?_
      refine gk_nil (gk_sub (T' := [(2,_)]) ⟨rfl, trivial⟩ ?_)
      refine gk_ret ?_
      refine gk_pure (rv_one rfl (r1_tmp rfl)) ?_
      rw [heap_good hc10 g2]
set_option maxRecDepth 100000 in
set_option maxHeartbeats 1000000 in
theorem sameall_c (a : Option Addr) (cap : Nat) (L : List SC) (b : Option Addr) (bcap : Nat) (M : List SC) (w : World) (hl : Has w (Elems a 6 encSC L)) (hsh : ∀ z ∈ L, Has w (Pts z.a z.s.shape)) (hs : Small L.length) (hss : ∀ z ∈ L, Small z.s.shape.length) (hm : Has w (Elems b 6 encSC M)) (hmh : ∀ z ∈ M, Has w (Pts z.a z.s.shape)) (hms : ∀ z ∈ M, Small z.s.shape.length) :
    Calls Tryz.prog 15 #[.slice a L.length cap, .slice b M.length bcap] w (Pure (.bool (sameAllB L M)) w) := by
  refine calls_of_gk (vs := [_, _]) Tryz.func15 rfl rfl (Nat.le_of_ble_eq_true rfl) ?_
  refine gk_seq ?_
  refine gk_region ?_
  refine gk_y rfl rfl (y_assign rfl) ?_
  refine gk_nil (gk_sub (T' := [(0,_), (1,_), (4,_)]) ⟨rfl, rfl, rfl, trivial⟩ ?_)
  refine gk_seq ?_
  refine gk_seq ?_
  refine gk_region ?_
  refine gk_y rfl rfl (y_move rfl) ?_
  refine gk_y rfl rfl (y_lenS (Tryz.underlying29) rfl) ?_
  refine gk_y rfl rfl (y_move rfl) ?_
  refine gk_y rfl rfl (y_lenS (Tryz.underlying22) rfl) ?_
  refine gk_y rfl rfl (y_neq rfl rfl) ?_
  refine gk_nil (gk_sub (T' := [(0,_), (1,_), (4,_), (10,_)]) ⟨rfl, rfl, rfl, rfl, trivial⟩ ?_)
  refine gk_cond rfl (fun hc10 => ?_) (fun hc10 => ?_)
  · have h10 : ¬ (L.length : Int) = M.length := by simpa using hc10
    have hl10 : ¬ L.length = M.length := by omega
    refine gk_seq ?_
    refine gk_region ?_
    refine gk_y rfl rfl (y_assign rfl) ?_
    refine gk_nil (gk_sub (T' := [(0,_), (1,_), (4,_)]) ⟨rfl, rfl, rfl, trivial⟩ ?_)
    refine gk_ret ?_
    refine gk_pure (rv_one rfl (r1_tmp rfl)) ?_
    rw [sameAll_len hl10]
  · have h10 : (L.length : Int) = M.length := by simpa using hc10
    have hl10 : L.length = M.length := by omega
    refine gk_skip ?_
    refine gk_seq ?_
    refine gk_seq ?_
    refine gk_region ?_
    refine gk_y rfl rfl (y_assign rfl) ?_
    refine gk_nil (gk_sub (T' := [(0,_), (1,_), (4,_), (5,_)]) ⟨rfl, rfl, rfl, rfl, trivial⟩ ?_)
    refine gk_block ?_
    refine gk_loop (X := Int) (fun (i : Int) => [(0, .slice a L.length cap), (1, .slice b M.length bcap), (4, .bool false), (5, .int .i64 i)]) (fun (i : Int) => []) (fun (i : Int) => (0 ≤ i ∧ i ≤ L.length ∧ ∀ j : Nat, (j : Int) < i → (!sameSB (L.getD j default).s (M.getD j default).s) = false)) (fun (i : Int) => (L.length - i).toNat) 0 ⟨rfl, rfl, rfl, rfl, trivial⟩ rfl ?_ ?_
    · exact ⟨by omega, by omega, fun j hj => by omega⟩
    · rintro i hI
      obtain ⟨g0, g1, g2⟩ := hI
      refine gk_seq ?_
      refine gk_seq ?_
      refine gk_region ?_
      refine gk_y rfl rfl (y_move rfl) ?_
      refine gk_y rfl rfl (y_move rfl) ?_
      refine gk_y rfl rfl (y_lenS (Tryz.underlying29) rfl) ?_
      refine gk_y rfl rfl (y_lss rfl rfl) ?_
      refine gk_nil (gk_sub (T' := [(0,_), (1,_), (4,_), (5,_), (14,_)]) ⟨rfl, rfl, rfl, rfl, rfl, trivial⟩ ?_)
      refine gk_cond rfl (fun hc14 => ?_) (fun hc14 => ?_)
      · have hc14 := of_decide_eq_true hc14
        refine gk_skip ?_
        refine gk_seq ?_
        refine gk_block ?_
        refine gk_seq ?_
        refine gk_any 10 (fun _ => mixed) (by kernel_rfl) ?_
        refine ph_y (y_move rfl) ?_
        refine ph_y (y_move rfl) ?_
        refine ph_y (y_indexE se29 rfl rfl (fun _ hw => (Rd.has (Has.rd hl) hw)) (by omega) (by omega)) ?_
        refine ph_y (y_loadE (vs := [_, _, _, _, _, _]) tf52 rfl (fun _ hw => (Rd.has (Has.rd hl) hw)) (by omega) (by omega) rfl) ?_
        refine ph_y (y_move rfl) ?_
        refine ph_y (y_move rfl) ?_
        refine ph_y (y_indexE se22 rfl rfl (fun _ hw => (Rd.has (Has.rd hm) hw)) (by omega) (by omega)) ?_
        refine ph_y (y_loadE (vs := [_, _, _, _, _, _]) tf28 rfl (fun _ hw => (Rd.has (Has.rd hm) hw)) (by omega) (by omega) rfl) ?_
        refine ph_y (y_call en40 rfl (fun w hw => same_c _ _ ((L.getD (i).toNat default).s) _ _ ((M.getD (i).toNat default).s) w (Rd.has (Has.rd (hsh _ (getD_memS (by omega)))) hw) (Rd.has (Has.rd (hmh _ (getD_memS (by omega)))) hw) (hss _ (getD_memS (by omega))))) ?_
        refine ph_y (y_not rfl) ?_
        refine gk_nil (gk_sub (T' := [(0,_), (1,_), (4,_), (5,_), (26,_)]) ⟨rfl, rfl, rfl, rfl, rfl, trivial⟩ ?_)
        refine gk_cond rfl (fun hc26 => ?_) (fun hc26 => ?_)
        · skip
          refine gk_seq ?_
          refine gk_region ?_
          refine gk_y rfl rfl (y_assign rfl) ?_
          refine gk_nil (gk_sub (T' := [(0,_), (1,_), (4,_), (5,_)]) ⟨rfl, rfl, rfl, rfl, trivial⟩ ?_)
          refine gk_ret ?_
          refine gk_pure (rv_one rfl (r1_tmp rfl)) ?_
          rw [sameAll_no g0 hc14 (by simpa using hc26)]
        · skip
          refine gk_skip ?_
          refine gk_region ?_
          refine gk_y rfl rfl (y_move rfl) ?_
          refine gk_y rfl rfl (y_addI rfl rfl (by omega) (by omega)) ?_
          refine gk_y rfl rfl (y_assign rfl) ?_
          refine gk_nil (gk_sub (T' := [(0,_), (1,_), (4,_), (5,_)]) ⟨rfl, rfl, rfl, rfl, trivial⟩ ?_)
          exact gk_next (i + 1) ⟨rfl, rfl, rfl, rfl, trivial⟩ rfl ⟨by omega, by omega, below_nat (f := fun j => !sameSB (L.getD j default).s (M.getD j default).s) g0 g2 hc26⟩ (by omega)
      · have hc14 := of_decide_eq_false hc14
        refine gk_exit rfl ?_
        refine gk_seq ?_
        refine gk_region ?_
        refine gk_y rfl rfl (y_assign rfl) ?_
        refine gk_nil (gk_sub (T' := [(4,_)]) ⟨rfl, trivial⟩ ?_)
        refine gk_ret ?_
        refine gk_pure (rv_one rfl (r1_tmp rfl)) ?_
        rw [sameAll_yes hl10 hc14 g2]
end Go.Proofs.YtmpaebfjnjmmlaaGreatDoor

namespace Go.Stn
open Go Go.K Go.RowKit
abbrev nameAt (L : List SC) (i : Nat) : ByteArray := (L.getD i default).s.name
def rbadAt (L : List SC) (i : Nat) : Bool := !rvalidB (L.getD i default).s || (List.range i).any fun k => (nameAt L i).toList == (nameAt L k).toList
def rheapB (L : List SC) : Bool := !((List.range L.length).any (rbadAt L)) && decide ((L.length : Int) ≤ 200)
theorem rheap_no {L : List SC} {i : Int} (h0 : 0 ≤ i) (h1 : i < (L.length : Int)) (h : rbadAt L i.toNat = true) : rheapB L = false := by
  unfold rheapB
  rw [List.any_eq_true.2 ⟨i.toNat, List.mem_range.2 (by omega), h⟩]; rfl
theorem rheap_yes {L : List SC} {i : Int} (h0 : ¬ i < (L.length : Int)) (h : ∀ j : Nat, (j : Int) < i → rbadAt L j = false) : rheapB L = decide ((L.length : Int) ≤ 200) := by
  unfold rheapB
  have : (List.range L.length).any (rbadAt L) = false := by
    rw [Bool.eq_false_iff]
    intro ht
    obtain ⟨j, hj, hb⟩ := List.any_eq_true.1 ht
    rw [List.mem_range] at hj
    rw [h j (by omega)] at hb
    cases hb
  rw [this]; rfl
theorem rbad_valid {L : List SC} {i : Nat} (h : rvalidB (L.getD i default).s = false) : rbadAt L i = true := by
  unfold rbadAt
  rw [h]; rfl
theorem rbad_name {L : List SC} {i k : Int} (h0 : 0 ≤ k) (h1 : k < i) (h : ((nameAt L i.toNat).toList == (nameAt L k.toNat).toList) = true) : rbadAt L i.toNat = true := by
  unfold rbadAt
  rw [List.any_eq_true.2 ⟨k.toNat, List.mem_range.2 (by omega), h⟩, Bool.or_true]
theorem rbad_none {L : List SC} {i k : Int} (h0 : 0 ≤ i) (hk : ¬ k < i) (hv : rvalidB (L.getD i.toNat default).s = true) (h : ∀ j : Nat, (j : Int) < k → ((nameAt L i.toNat).toList == (nameAt L j).toList) = false) : rbadAt L i.toNat = false := by
  unfold rbadAt
  rw [hv, Bool.not_true, Bool.false_or, Bool.eq_false_iff]
  intro ht
  obtain ⟨j, hj, hb⟩ := List.any_eq_true.1 ht
  rw [List.mem_range] at hj
  rw [h j (by omega)] at hb
  cases hb
end Go.Stn

namespace Go.Stn
open Go Go.K Go.RowKit
def ronB (a b p : Pt) : Bool := (decide (sideW a b p = 0) && (decide (min a.x b.x ≤ p.x) && decide (p.x ≤ max a.x b.x))) && (decide (min a.z b.z ≤ p.z) && decide (p.z ≤ max a.z b.z))
def rbordN (l : List Pt) (p : Pt) (n : Nat) : Bool := !allI n fun i => !ronB (ptAt l i) (nextL l i) p
def rbordB (l : List Pt) (p : Pt) : Bool := !farB p && rbordN l p l.length
def rboth (l : List Pt) (p q : Pt) (i : Int) : Bool := ronB (ptAt l i) (nextL l i) p && ronB (ptAt l i) (nextL l i) q
def rapartB (l : List Pt) (p q : Pt) : Bool := allI l.length fun i => !rboth l p q i
theorem rbord_yes {l : List Pt} {p : Pt} {i : Int} (hf : farB p = false) (h0 : 0 ≤ i) (h1 : i < (l.length : Int)) (h : ronB (ptAt l i) (nextL l i) p = true) : rbordB l p = true := by
  rw [rbordB, hf, rbordN, allI_false (i := i.toNat) (by omega) (by rw [show ((i.toNat : Nat) : Int) = i from by omega, h]; rfl)]; rfl
/-- is the corner the first one to the left? -/
def leftC (l : List Pt) (p q : Pt) (i : Int) : Bool := decide (0 < sideW p q (ptAt l i)) && decide (sideW p q (ptAt l ((i + (l.length : Int) - 1).tmod (l.length : Int))) ≤ 0)
def fromN (l : List Pt) (p q : Pt) : Nat → Int
  | 0 => 0
  | n + 1 => if leftC l p q (n : Int) = true then (n : Int) else fromN l p q n
def leftP (l : List Pt) (f : Int) (i : Int) : Pt := ptAt l ((f + i).tmod (l.length : Int))
def leftO (l : List Pt) (p q : Pt) (f : Int) (n : Nat) : List Pt := p :: q :: ((List.range n).map fun (j : Nat) => leftP l f (j : Int)).filter fun c => decide (0 < sideW p q c)
def leftL (l : List Pt) (p q : Pt) : List Pt := leftO l p q (fromN l p q l.length) l.length
end Go.Stn

namespace Go.Proofs.YtmpaebfjnjmmlaaGreatDoor
open Go.K Go.Stn Go.RowKit
theorem en37 : En Tryz.prog 37 := en_of Tryz.func37 (by kernel_rfl) (by kernel_rfl)
end Go.Proofs.YtmpaebfjnjmmlaaGreatDoor

namespace Go.Proofs.YtmpaebfjnjmmlaaGreatDoor
open Go.K Go.Stn Go.RowKit
theorem af29 : AF Tryz.prog 29 52 6 72 [.string ⟨#[]⟩, .slice none 0 0, .int IntKind.i64 0, .int IntKind.i64 0, .int IntKind.i64 0, .int IntKind.i64 0] := ⟨Tryz.underlying29, by kernel_rfl, rfl⟩
end Go.Proofs.YtmpaebfjnjmmlaaGreatDoor

namespace Go.Stn
open Go Go.K Go.RowKit
theorem all_snoc {R : Res} {w : World} : ∀ (X : List Res) (B C D : Nat → Prop), (∀ k, C k → B k) → (∀ k, D k → B k ∧ ¬ C k) → All X C w → R.A D w → All (X ++ [R]) B w
  | [], _, _, D, _, hD, _, hR => ⟨D, fun _ => False, fun k hk => (hD k hk).1, fun _ hk => hk.elim, hR, trivial⟩
  | _ :: r, _, _, D, hC, hD, ⟨C0, E0, h1, h2, hA, hr⟩, hR =>
    ⟨C0, fun k => E0 k ∨ D k, fun k hk => hC k (h1 k hk), fun k hk => hk.elim (fun h => ⟨hC k (h2 k h).1, (h2 k h).2⟩) (fun h => ⟨(hD k h).1, fun h0 => (hD k h).2 (h1 k h0)⟩), hA,
      all_snoc r _ E0 D (fun _ h => .inl h) (fun k h => ⟨.inr h, fun h0 => (hD k h).2 (h2 k h0).1⟩) hr hR⟩
theorem all_has {R : Res} {w : World} : ∀ (X : List Res) (B : Nat → Prop), (∀ k, B k → k < w.heap.size) → All X B w → R ∈ X → Has w R
  | _ :: r, _, hB, ⟨C0, E0, h1, h2, hA, hr⟩, hm => by
    rcases List.mem_cons.1 hm with rfl | hm
    · exact ⟨C0, fun k hk => hB k (h1 k hk), hA⟩
    · exact all_has r E0 (fun k hk => hB k (h2 k hk).1) hr hm
abbrev rowOf (e : TypeId) (z : SC) : Res := Row z.a 2 z.cap e encPt z.s.shape
/-- the corners of all -/
def Shps (e : TypeId) (L : List SC) : Res := SepR (L.map (rowOf e))
theorem shps_nil {e : TypeId} {B : Nat → Prop} {w : World} : (Shps e []).A B w := trivial
theorem shps_snoc {e : TypeId} {L : List SC} {z : SC} {B : Nat → Prop} {w : World} (h : (SepR [Shps e L, rowOf e z]).A B w) : (Shps e (L ++ [z])).A B w := by
  obtain ⟨C, E, h1, h2, hA, D, _, h3, _, hR, _⟩ := h
  show All ((L ++ [z]).map (rowOf e)) B w
  rw [List.map_append]
  exact all_snoc _ B C D h1 (fun k hk => h2 k (h3 k hk)) hA hR
theorem shps_has {e : TypeId} {L : List SC} {z : SC} {w : World} (h : Has w (Shps e L)) (hz : z ∈ L) : Has w (Pts z.a z.s.shape) := by
  obtain ⟨B, hB, hA⟩ := h
  obtain ⟨C, hC, hR⟩ := all_has (R := rowOf e z) _ B hB hA (List.mem_map.2 ⟨z, hz, rfl⟩)
  exact ⟨C, hC, Row.elems encPt_ok hR⟩
end Go.Stn

namespace Go.Proofs.YtmpaebfjnjmmlaaGreatDoor
open Go.K Go.Stn Go.RowKit
theorem en25 : En Tryz.prog 25 := en_of Tryz.func25 (by kernel_rfl) (by kernel_rfl)
theorem bs29_1 (x0 : SC) (w : World) : (Instr.buildSlice 29 1 #[(0, .agg #[.string x0.s.name, .slice x0.a x0.s.shape.length x0.cap, .int .i64 x0.s.depth, .int .i64 x0.s.density, .int .i64 x0.s.grain.x, .int .i64 x0.s.grain.z])]).run Tryz.prog w = .ok (.slice (some ⟨w.heap.size, 0, none⟩) 1 1) (w.alloc (.cells (([x0] : List (SC)).flatMap encSC).toArray 52)) := by kernel_rfl
section
variable {c : Cx} {ds : List Deferred} {T : List (Nat × Value)} {H : List Res} {K : Act → World → Prop}
theorem gk_newShps (e : TypeId) (h : GK c ds K T (Shps e [] :: H)) : GK c ds K T H := fun a w ha hw =>
  h a w ha ⟨hw.base, fun _ => False, fun _ hk => hk.elim, shps_nil, Holds.anti H (fun _ hk => hk.elim id False.elim) hw.holds⟩
end
theorem plain_succ {L M : List SC} {i : Int} (h0 : 0 ≤ i) (h1 : i < (L.length : Int)) (h : plainL M = plainL (L.take i.toNat)) (a : Option Addr) (c : Nat) : plainL (M ++ [(⟨(L.getD i.toNat default).s, a, c⟩ : SC)]) = plainL (L.take (i + 1).toNat) := by
  rw [take_succ h0 h1]
  show List.map _ _ = List.map _ _
  rw [List.map_append, List.map_append]
  show plainL M ++ _ = plainL (L.take i.toNat) ++ _
  rw [h]; rfl
theorem plain_len {L M : List SC} {i : Int} (h0 : 0 ≤ i) (h1 : i ≤ (L.length : Int)) (h : plainL M = plainL (L.take i.toNat)) : (M.length : Int) = i := by
  have := congrArg List.length h
  simp only [List.length_map, List.length_take] at this
  omega
set_option maxRecDepth 100000 in
set_option maxHeartbeats 1000000 in
theorem stones_c (a : Option Addr) (cap : Nat) (L : List SC) (w : World) (hl : Has w (Elems a 6 encSC L)) (hsh : ∀ z ∈ L, Has w (Pts z.a z.s.shape)) (hs : Small L.length) (hss : ∀ z ∈ L, Small z.s.shape.length) :
    Calls Tryz.prog 7 #[.slice a L.length cap] w (Gives (fun z : {z : Option Addr × Nat × List SC // plainL z.2.2 = plainL L} => .slice z.1.1 z.1.2.2.length z.1.2.1) (fun z => SepR [Row z.1.1 6 z.1.2.1 52 encSC z.1.2.2, Shps 50 z.1.2.2]) w) := by
  refine calls_of_gk (vs := [_]) Tryz.func7 rfl rfl (Nat.le_of_ble_eq_true rfl) ?_
  refine gk_seq ?_
  refine gk_region ?_
  refine gk_y rfl rfl (y_assign rfl) ?_
  refine gk_nil (gk_sub (T' := [(0,_), (2,_)]) ⟨rfl, rfl, trivial⟩ ?_)
  refine gk_seq ?_
  refine gk_region ?_
  refine gk_y rfl rfl (y_assign rfl) ?_
  refine gk_nil (gk_sub (T' := [(0,_), (2,_), (3,_)]) ⟨rfl, rfl, rfl, trivial⟩ ?_)
  refine gk_seq ?_
  refine gk_seq ?_
  refine gk_region ?_
  refine gk_y rfl rfl (y_assign rfl) ?_
  refine gk_nil (gk_sub (T' := [(0,_), (2,_), (3,_), (4,_)]) ⟨rfl, rfl, rfl, rfl, trivial⟩ ?_)
  refine gk_block ?_
  refine gk_newNil 52 encSC 6 ?_
  refine gk_newShps 50 ?_
  refine gk_loop (X := Int × Option Addr × Nat × List SC) (fun ⟨i, b, bc, M⟩ => [(0, .slice a L.length cap), (2, .slice none 0 0), (3, .slice b M.length bc), (4, .int .i64 i)]) (fun ⟨i, b, bc, M⟩ => [Shps 50 M, Row b 6 bc 52 encSC M]) (fun ⟨i, b, bc, M⟩ => (0 ≤ i ∧ i ≤ L.length ∧ plainL M = plainL (L.take i.toNat))) (fun ⟨i, b, bc, M⟩ => (L.length - i).toNat) (0, none, 0, []) ⟨rfl, rfl, rfl, rfl, trivial⟩ rfl ?_ ?_
  · exact ⟨by omega, by omega, rfl⟩
  · rintro ⟨i, b, bc, M⟩ hI
    obtain ⟨g0, g1, g2⟩ := hI
    have g3 := plain_len g0 g1 g2
    refine gk_seq ?_
    refine gk_seq ?_
    refine gk_region ?_
    refine gk_y rfl rfl (y_move rfl) ?_
    refine gk_y rfl rfl (y_move rfl) ?_
    refine gk_y rfl rfl (y_lenS (Tryz.underlying22) rfl) ?_
    refine gk_y rfl rfl (y_lss rfl rfl) ?_
    refine gk_nil (gk_sub (T' := [(0,_), (2,_), (3,_), (4,_), (8,_)]) ⟨rfl, rfl, rfl, rfl, rfl, trivial⟩ ?_)
    refine gk_cond rfl (fun hc8 => ?_) (fun hc8 => ?_)
    · have hc8 := of_decide_eq_true hc8
      refine gk_skip ?_
      refine gk_seq ?_
      refine gk_block ?_
      refine gk_region ?_
      refine gk_y rfl rfl (y_move rfl) ?_
      refine gk_y rfl rfl (y_move rfl) ?_
      refine gk_y rfl rfl (y_move rfl) ?_
      refine gk_y rfl rfl (y_indexE se22 rfl rfl (fun _ hw => (Rd.has (Has.rd hl) hw)) (by omega) (by omega)) ?_
      refine gk_y rfl rfl (y_loadE (vs := [_, _, _, _, _, _]) tf28 rfl (fun _ hw => (Rd.has (Has.rd hl) hw)) (by omega) (by omega) rfl) ?_
      refine gk_yx rfl rfl (yx_call en25 rfl (fun w hw => stone_c _ _ ((L.getD (i).toNat default).s) w (Rd.has (Has.rd (hsh _ (getD_memS (by omega)))) hw) (hss _ (getD_memS (by omega))))) fun p16 => ?_
      refine gk_yx rfl rfl (yx_buildSlice rfl (bs29_1 (⟨(L.getD (i).toNat default).s, p16.1, p16.2⟩ : SC)) encSC_ok rfl) fun b17 => ?_
      refine gk_append (m := [(⟨(L.getD (i).toNat default).s, p16.1, p16.2⟩ : SC)]) 3 af29 encSC_ok rfl rfl rfl rfl (fun _ hw => (has_row encSC_ok (hw.has (p := 0) rfl))) (by first | omega | (simp only [List.length_cons, List.length_nil]; omega)) (by first | (unfold maxLen; omega) | (simp only [List.length_cons, List.length_nil, maxLen]; omega)) fun a18 c18 => ?_
      refine gk_y rfl rfl (y_assign rfl) ?_
      refine gk_nil (gk_sub (T' := [(0,_), (2,_), (3,_), (4,_)]) ⟨rfl, rfl, rfl, rfl, trivial⟩ ?_)
      refine gk_dropAt 0 rfl ?_
      refine gk_front 1 rfl ?_
      refine gk_pack 2 ?_
      refine gk_conv (R' := Shps 50 (M ++ [(⟨(L.getD i.toNat default).s, p16.1, p16.2⟩ : SC)])) 0 rfl (fun B w hA => shps_snoc (z := (⟨(L.getD i.toNat default).s, p16.1, p16.2⟩ : SC)) hA) ?_
      refine gk_front 1 rfl ?_
      refine gk_front 1 rfl ?_
      refine gk_region ?_
      refine gk_y rfl rfl (y_move rfl) ?_
      refine gk_y rfl rfl (y_addI rfl rfl (by omega) (by omega)) ?_
      refine gk_y rfl rfl (y_assign rfl) ?_
      refine gk_nil (gk_sub (T' := [(0,_), (2,_), (3,_), (4,_)]) ⟨rfl, rfl, rfl, rfl, trivial⟩ ?_)
      exact gk_next (i + 1, a18, c18, M ++ [(⟨(L.getD i.toNat default).s, p16.1, p16.2⟩ : SC)]) ⟨rfl, rfl, rfl, rfl, trivial⟩ rfl ⟨by omega, by omega, plain_succ g0 hc8 g2 _ _⟩ (by simp only []; omega)
    · have hc8 := of_decide_eq_false hc8
      obtain rfl : i = (L.length : Int) := by omega
      refine gk_exit rfl ?_
      refine gk_seq ?_
      refine gk_region ?_
      refine gk_y rfl rfl (y_move rfl) ?_
      refine gk_y rfl rfl (y_assign rfl) ?_
      refine gk_nil (gk_sub (T' := [(2,_)]) ⟨rfl, trivial⟩ ?_)
      refine gk_front 1 rfl ?_
      refine gk_pack 2 ?_
      refine gk_ret ?_
      refine gk_gives ⟨(b, bc, M), by rw [g2, Int.toNat_natCast, List.take_length]⟩ 0 (rv_one rfl (r1_tmp rfl)) ?_ rfl
      rfl
end Go.Proofs.YtmpaebfjnjmmlaaGreatDoor

namespace Go.Stn
open Go Go.K Go.RowKit
/-- x = a + t / D (b - a), with 0 <= t < D -/
structure OnH (x a b : Pt) (D t : Int) : Prop where
  pos : 0 < D
  t0 : 0 ≤ t
  t1 : t < D
  ex : D * (x.x - a.x) = t * (b.x - a.x)
  ez : D * (x.z - a.z) = t * (b.z - a.z)
theorem OnH.lin {x a b : Pt} {D t : Int} (h : OnH x a b D t) (u v : Pt) : D * sideZ u v x = (D - t) * sideZ u v a + t * sideZ u v b := by
  have e1 := h.ex
  have e2 := h.ez
  unfold sideZ
  have f1 : D * (x.x - u.x) = t * (b.x - a.x) + D * (a.x - u.x) := by rw [← e1]; grind
  have f2 : D * (x.z - u.z) = t * (b.z - a.z) + D * (a.z - u.z) := by rw [← e2]; grind
  calc D * ((v.x - u.x) * (x.z - u.z) - (v.z - u.z) * (x.x - u.x)) = (v.x - u.x) * (D * (x.z - u.z)) - (v.z - u.z) * (D * (x.x - u.x)) := by grind
    _ = _ := by rw [f1, f2]; grind
theorem OnH.start {x a b : Pt} {D : Int} (h : OnH x a b D 0) : x = a := by
  have e1 := h.ex
  have e2 := h.ez
  have hp := h.pos
  rw [Int.zero_mul, Int.mul_eq_zero] at e1 e2
  cases x; cases a
  simp only [Pt.mk.injEq]
  dsimp only at *
  omega
theorem OnH.at {a b : Pt} (D : Int) (h : 0 < D) : OnH a a b D 0 := ⟨h, Int.le_refl _, h, by simp, by simp⟩
theorem side_same1 (u v : Pt) : sideZ u u v = 0 := by unfold sideZ; grind
theorem side_same2 (u v : Pt) : sideZ u v v = 0 := by unfold sideZ; grind
theorem side_same3 (u v : Pt) : sideZ u v u = 0 := by unfold sideZ; grind
theorem side_swap (u v w : Pt) : sideZ u v w = -sideZ u w v := by unfold sideZ; grind
theorem side_cyc2 (u v w : Pt) : sideZ u v w = sideZ w u v := by unfold sideZ; grind
theorem plucker (o e u v w : Pt) : sideZ o e v * sideZ o u w = sideZ o e u * sideZ o v w + sideZ o e w * sideZ o u v := by unfold sideZ; grind
theorem cor_mod (l : List Pt) (i : Nat) : cor l (i % l.length) = cor l i := by unfold cor; rw [Nat.mod_mod]
theorem cor_congr {l : List Pt} {i j : Nat} (h : i % l.length = j % l.length) : cor l i = cor l j := by unfold cor; rw [h]
theorem cor_add_mod (l : List Pt) (i k : Nat) : cor l (i % l.length + k) = cor l (i + k) := by unfold cor; rw [Nat.mod_add_mod]
theorem Cvx.edge {l : List Pt} (h : Cvx l) (i k : Nat) (h2 : 2 ≤ k) (hk : k < l.length) : 0 < sideZ (cor l i) (cor l (i + 1)) (cor l (i + k)) := by
  have := h (i % l.length) k (Nat.mod_lt _ (by omega)) h2 hk
  rwa [cor_mod, cor_add_mod, cor_add_mod] at this
/-- any three corners, in order, turn to the left -/
theorem Cvx.tri {l : List Pt} (h : Cvx l) (a i : Nat) (hi : 0 < i) : ∀ j, i < j → j < l.length → 0 < sideZ (cor l a) (cor l (a + i)) (cor l (a + j)) := by
  intro j
  induction j with
  | zero => intro hj; omega
  | succ j ih =>
    intro hj hn
    have hnext : ∀ i, 0 < i → i + 1 < l.length → 0 < sideZ (cor l a) (cor l (a + i)) (cor l (a + (i + 1))) := fun i h0 h1 => by
      have := h.edge (a + i) (l.length - i) (by omega) (by omega)
      rw [show a + i + (l.length - i) = a + l.length from by omega, cor_add, Nat.add_assoc] at this
      rw [side_cyc]
      exact this
    by_cases hij : i = j
    · subst hij; exact hnext i hi hn
    · have h1 := ih (by omega) (by omega)
      have h2 := hnext j (by omega) hn
      have e0 : 0 ≤ sideZ (cor l a) (cor l (a + 1)) (cor l (a + i)) := by
        by_cases h1 : i = 1
        · subst h1; rw [side_same2]; omega
        · exact Int.le_of_lt (h.edge a i (by omega) (by omega))
      have e1 := h.edge a j (by omega) (by omega)
      have e2 := h.edge a (j + 1) (by omega) (by omega)
      have hp := plucker (cor l a) (cor l (a + 1)) (cor l (a + i)) (cor l (a + j)) (cor l (a + (j + 1)))
      have p1 : 0 ≤ sideZ (cor l a) (cor l (a + 1)) (cor l (a + i)) * sideZ (cor l a) (cor l (a + j)) (cor l (a + (j + 1))) := Int.mul_nonneg e0 (Int.le_of_lt h2)
      have p2 : 0 < sideZ (cor l a) (cor l (a + 1)) (cor l (a + (j + 1))) * sideZ (cor l a) (cor l (a + i)) (cor l (a + j)) := Int.mul_pos e2 h1
      have p3 : 0 < sideZ (cor l a) (cor l (a + 1)) (cor l (a + j)) * sideZ (cor l a) (cor l (a + i)) (cor l (a + (j + 1))) := by omega
      exact Int.pos_of_mul_pos_right p3 e1
theorem Cvx.tri3 {l : List Pt} (h : Cvx l) {i j k : Nat} (hij : i < j) (hjk : j < k) (hk : k < i + l.length) : 0 < sideZ (cor l i) (cor l j) (cor l k) := by
  have := h.tri i (j - i) (by omega) (k - i) (by omega) (by omega)
  rwa [show i + (j - i) = j from by omega, show i + (k - i) = k from by omega] at this
theorem Cvx.tri0 {l : List Pt} (h : Cvx l) {i j k : Nat} (hij : i ≤ j) (hjk : j ≤ k) (hk : k ≤ i + l.length) : 0 ≤ sideZ (cor l i) (cor l j) (cor l k) := by
  by_cases h1 : i = j
  · subst h1; rw [side_same1]; omega
  · by_cases h2 : j = k
    · subst h2; rw [side_same2]; omega
    · by_cases h3 : k = i + l.length
      · subst h3; rw [cor_add, side_same3]; omega
      · exact Int.le_of_lt (h.tri3 (by omega) (by omega) (by omega))
theorem nn2 {a b c d : Int} (h1 : 0 ≤ a) (h2 : 0 ≤ b) (h3 : 0 ≤ c) (h4 : 0 ≤ d) : 0 ≤ a * b + c * d := Int.add_nonneg (Int.mul_nonneg h1 h2) (Int.mul_nonneg h3 h4)
theorem np2 {a b c d : Int} (h1 : 0 ≤ a) (h2 : b ≤ 0) (h3 : 0 ≤ c) (h4 : d ≤ 0) : a * b + c * d ≤ 0 := by
  have := Int.mul_nonpos_of_nonneg_of_nonpos h1 h2
  have := Int.mul_nonpos_of_nonneg_of_nonpos h3 h4
  omega
theorem pos2l {a b c d : Int} (h1 : 0 < a) (h2 : 0 < b) (h3 : 0 ≤ c) (h4 : 0 ≤ d) : 0 < a * b + c * d := by
  have := Int.mul_pos h1 h2
  have := Int.mul_nonneg h3 h4
  omega
theorem pos2r {a b c d : Int} (h1 : 0 ≤ a) (h2 : 0 ≤ b) (h3 : 0 < c) (h4 : 0 < d) : 0 < a * b + c * d := by
  have := Int.mul_nonneg h1 h2
  have := Int.mul_pos h3 h4
  omega
theorem nonpos_of {a b : Int} (h1 : 0 < a) (h2 : a * b ≤ 0) : b ≤ 0 := Classical.byContradiction fun h => by
  have := Int.mul_pos h1 (show 0 < b by omega)
  omega
theorem nonneg_of {a b : Int} (h1 : 0 < a) (h2 : 0 ≤ a * b) : 0 ≤ b := Classical.byContradiction fun h => by
  have := Int.mul_pos h1 (show 0 < -b by omega)
  rw [Int.mul_neg] at this
  omega
theorem pos_of {a b : Int} (h1 : 0 < a) (h2 : 0 < a * b) : 0 < b := Int.pos_of_mul_pos_right h2 h1
section
variable {l : List Pt} {p q : Pt} {a m : Nat} {D s E t : Int}
/-- the way from p to a corner -/
theorem side_pc (hp : OnH p (cor l a) (cor l (a + 1)) D s) (x y : Pt) : D * sideZ p x y = (D - s) * sideZ (cor l a) x y + s * sideZ (cor l (a + 1)) x y := by
  have := hp.lin x y
  rw [side_cyc2 x y p, side_cyc2 x y (cor l a), side_cyc2 x y (cor l (a + 1))] at this
  exact this
theorem side_qc {b : Nat} (hq : OnH q (cor l b) (cor l (b + 1)) E t) (x y : Pt) : E * sideZ x q y = (E - t) * sideZ x (cor l b) y + t * sideZ x (cor l (b + 1)) y := by
  have := hq.lin y x
  rw [side_cyc y x q, side_cyc y x (cor l b), side_cyc y x (cor l (b + 1))] at this
  exact this
theorem arc_pos (h : Cvx l) (hp : OnH p (cor l a) (cor l (a + 1)) D s) (hq : OnH q (cor l (a + m)) (cor l (a + m + 1)) E t) (hm : 1 ≤ m) {k : Nat} (h1 : m < k) (h2 : k < l.length) : 0 < sideZ p q (cor l (a + k)) := by
  refine pos_of hp.pos ?_
  rw [side_pc hp]
  have f1 : 0 < sideZ (cor l a) q (cor l (a + k)) := by
    refine pos_of hq.pos ?_
    rw [side_qc hq]
    exact pos2l (by have := hq.t1; omega) (h.tri3 (by omega) (by omega) (by omega)) hq.t0 (h.tri0 (by omega) (by omega) (by omega))
  have f2 : 0 ≤ sideZ (cor l (a + 1)) q (cor l (a + k)) := by
    refine nonneg_of hq.pos ?_
    rw [side_qc hq]
    exact nn2 (by have := hq.t1; omega) (h.tri0 (by omega) (by omega) (by omega)) hq.t0 (h.tri0 (by omega) (by omega) (by omega))
  exact pos2l (by have := hp.t1; omega) f1 hp.t0 f2
theorem arc_end (h : Cvx l) (hp : OnH p (cor l a) (cor l (a + 1)) D s) (hq : OnH q (cor l (a + m)) (cor l (a + m + 1)) E t) (hm : 1 ≤ m) (hn : m < l.length) (h3 : 3 ≤ l.length) (hs : 0 < s) (ht : m = 1 → 0 < t) : 0 < sideZ p q (cor l (a + l.length)) := by
  refine pos_of hp.pos ?_
  rw [side_pc hp]
  have f1 : 0 ≤ sideZ (cor l a) q (cor l (a + l.length)) := by rw [cor_add, side_same3]; omega
  have f2 : 0 < sideZ (cor l (a + 1)) q (cor l (a + l.length)) := by
    refine pos_of hq.pos ?_
    rw [side_qc hq]
    by_cases h1 : m = 1
    · exact pos2r (by have := hq.t1; omega) (h.tri0 (by omega) (by omega) (by omega)) (ht h1) (h.tri3 (by omega) (by omega) (by omega))
    · exact pos2l (by have := hq.t1; omega) (h.tri3 (by omega) (by omega) (by omega)) hq.t0 (h.tri0 (by omega) (by omega) (by omega))
  exact pos2r (by have := hp.t1; omega) f1 hs f2
theorem arc_neg (h : Cvx l) (hp : OnH p (cor l a) (cor l (a + 1)) D s) (hq : OnH q (cor l (a + m)) (cor l (a + m + 1)) E t) (hn : m < l.length) {k : Nat} (h1 : 1 ≤ k) (h2 : k ≤ m) : sideZ p q (cor l (a + k)) ≤ 0 := by
  refine nonpos_of hp.pos ?_
  rw [side_pc hp]
  have hs : ∀ i j : Nat, i ≤ a + k → a + k ≤ j → j ≤ i + l.length → sideZ (cor l i) (cor l j) (cor l (a + k)) ≤ 0 := fun i j c1 c2 c3 => by
    rw [side_swap]
    have := h.tri0 (i := i) (j := a + k) (k := j) c1 c2 c3
    omega
  have f : ∀ i : Nat, i = a ∨ i = a + 1 → sideZ (cor l i) q (cor l (a + k)) ≤ 0 := fun i hi => by
    refine nonpos_of hq.pos ?_
    rw [side_qc hq]
    exact np2 (by have := hq.t1; omega) (hs _ _ (by omega) (by omega) (by omega)) hq.t0 (hs _ _ (by omega) (by omega) (by omega))
  exact np2 (by have := hp.t1; omega) (f a (.inl rfl)) hp.t0 (f (a + 1) (.inr rfl))
/-- the one edge whose line a border point lies on -/
theorem edge_zero (h : Cvx l) (h3 : 3 ≤ l.length) {i : Nat} {k : Nat} (hk : k < l.length) (hq : OnH q (cor l (i + k)) (cor l (i + k + 1)) E t) (h0 : sideZ (cor l i) (cor l (i + 1)) q = 0) : k = 0 ∨ (k = 1 ∧ t = 0) := by
  have hl := hq.lin (cor l i) (cor l (i + 1))
  rw [h0, Int.mul_zero] at hl
  have a1 := hq.t0
  have a2 := hq.t1
  by_cases c0 : k = 0
  · exact .inl c0
  · by_cases c1 : k = 1
    · subst c1
      refine .inr ⟨rfl, ?_⟩
      rw [side_same2, Int.mul_zero, Int.zero_add] at hl
      have := h.tri3 (i := i) (j := i + 1) (k := i + 1 + 1) (by omega) (by omega) (by omega)
      rcases Int.mul_eq_zero.1 hl.symm with h5 | h5
      · exact h5
      · omega
    · exfalso
      have := h.tri3 (i := i) (j := i + 1) (k := i + k) (by omega) (by omega) (by omega)
      have g2 := h.tri0 (i := i) (j := i + 1) (k := i + k + 1) (by omega) (by omega) (by omega)
      have := pos2l (a := E - t) (c := t) (by omega) this a1 g2
      omega
end
end Go.Stn

namespace Go.Stn
open Go Go.K Go.RowKit
theorem edgesL_get {l : List Pt} {i : Nat} (h : i < l.length) : (edgesL l)[i]? = some (cor l i, cor l (i + 1)) := by
  unfold edgesL
  rw [List.getElem?_map, List.getElem?_range h]
  simp only [Option.map_some]
  rw [ptAt_cor h, atL_cor (i := (i : Int) + 1) (n := i + 1 + l.length) (by omega), cor_add]
theorem sq_nn (a : Int) : 0 ≤ a * a := by
  rcases Int.le_total 0 a with h | h
  · exact Int.mul_nonneg h h
  · have := Int.mul_nonneg (show 0 ≤ -a by omega) (show 0 ≤ -a by omega)
    rw [Int.neg_mul_neg] at this
    exact this
theorem sq_lt {a b : Int} (h : a * a < b * b) (hb : 0 ≤ b) : a < b := Classical.byContradiction fun hn => by
  have : b * b ≤ a * a := Int.mul_le_mul (by omega) (by omega) hb (by omega)
  omega
theorem mul_zero_of {a b : Int} (h : 0 < a) (hz : a * b = 0) : b = 0 := by
  rcases Int.mul_eq_zero.1 hz with h1 | h1
  · omega
  · exact h1
theorem le_of_mul {a b c : Int} (h : 0 < a) (hz : a * b ≤ a * c) : b ≤ c := Int.le_of_mul_le_mul_left hz h
/-- from a to b, as a pair -/
theorem onH_id (a b x : Pt) : dotZ (subZ b a) (subZ b a) * (x.x - a.x) = dotZ (subZ x a) (subZ b a) * (b.x - a.x) - (b.z - a.z) * sideZ a b x ∧
    dotZ (subZ b a) (subZ b a) * (x.z - a.z) = dotZ (subZ x a) (subZ b a) * (b.z - a.z) + (b.x - a.x) * sideZ a b x := by
  unfold dotZ subZ sideZ
  dsimp only
  constructor <;> grind
theorem lagrange (a b x : Pt) : dotZ (subZ x a) (subZ b a) * dotZ (subZ x a) (subZ b a) = dotZ (subZ x a) (subZ x a) * dotZ (subZ b a) (subZ b a) - sideZ a b x * sideZ a b x := by
  unfold dotZ subZ sideZ
  dsimp only
  grind
theorem dot_pos {a b : Pt} (h : a ≠ b) : 0 < dotZ (subZ b a) (subZ b a) := by
  unfold dotZ subZ
  dsimp only
  have h1 := sq_nn (b.x - a.x)
  have h2 := sq_nn (b.z - a.z)
  rcases Int.lt_or_eq_of_le (Int.add_nonneg h1 h2) with h3 | h3
  · exact h3
  · exfalso
    have e1 : (b.x - a.x) * (b.x - a.x) = 0 := by omega
    have e2 : (b.z - a.z) * (b.z - a.z) = 0 := by omega
    have e1 : b.x - a.x = 0 := by rcases Int.mul_eq_zero.1 e1 with h | h <;> exact h
    have e2 : b.z - a.z = 0 := by rcases Int.mul_eq_zero.1 e2 with h | h <;> exact h
    apply h
    cases a; cases b
    simp only [Pt.mk.injEq]
    dsimp only at *
    omega
def OnS (x a b : Pt) : Prop := ∃ D t, OnH x a b D t
theorem onS_of {a b x : Pt} (h0 : sideZ a b x = 0) (h1 : 0 ≤ dotZ (subZ x a) (subZ b a)) (h2 : dotZ (subZ x a) (subZ b a) < dotZ (subZ b a) (subZ b a)) : OnS x a b := by
  obtain ⟨e1, e2⟩ := onH_id a b x
  rw [h0] at e1 e2
  exact ⟨_, _, by omega, h1, h2, by rw [e1]; omega, by rw [e2]; omega⟩
theorem onS_dot {a b x : Pt} {D t : Int} (h : OnH x a b D t) : D * dotZ (subZ x a) (subZ b a) = t * dotZ (subZ b a) (subZ b a) ∧ D * (D * dotZ (subZ x a) (subZ x a)) = t * t * dotZ (subZ b a) (subZ b a) := by
  have e1 := h.ex
  have e2 := h.ez
  unfold dotZ subZ
  dsimp only
  generalize x.x - a.x = u at *
  generalize x.z - a.z = v at *
  generalize b.x - a.x = d at *
  generalize b.z - a.z = f at *
  constructor
  · calc D * (u * d + v * f) = (D * u) * d + (D * v) * f := by grind
      _ = _ := by rw [e1, e2]; grind
  · calc D * (D * (u * u + v * v)) = (D * u) * (D * u) + (D * v) * (D * v) := by grind
      _ = _ := by rw [e1, e2]; grind
theorem onS_side {a b x : Pt} {D t : Int} (h : OnH x a b D t) : sideZ a b x = 0 := by
  have := h.lin a b
  rw [side_same3, side_same2, Int.mul_zero, Int.mul_zero, Int.add_zero] at this
  exact mul_zero_of h.pos this
theorem onE_iff {a b x : Pt} (ha : farB a = false) (hb : farB b = false) (hx : farB x = false) (hab : a ≠ b) : onE x (a, b) = true ↔ OnS x a b := by
  have i1 : inR 2000 a := by have := far_in ha; unfold inR; omega
  have i2 : inR 2000 b := by have := far_in hb; unfold inR; omega
  have i3 : inR 2000 x := by have := far_in hx; unfold inR; omega
  have hd := dot_pos hab
  unfold onE
  dsimp only
  rw [subW_eq (by omega) i2 i1, subW_eq (by omega) i3 i1]
  have j1 := subZ_in i2 i1
  have j2 := subZ_in i3 i1
  rw [crossW_eq (by omega) (by omega) j1 j2, dotW_eq (by omega) (by omega) j2 j1, dotW_eq (by omega) (by omega) j2 j2, dotW_eq (by omega) (by omega) j1 j1]
  have hc : crossZ (subZ b a) (subZ x a) = sideZ a b x := by
    unfold crossZ subZ sideZ
    dsimp only
  rw [hc]
  simp only [Bool.and_eq_true, decide_eq_true_eq]
  constructor
  · rintro ⟨⟨h0, h1⟩, h2⟩
    refine onS_of h0 h1 (sq_lt ?_ (by omega))
    have hl := lagrange a b x
    rw [h0] at hl
    have := Int.mul_lt_mul_of_pos_right h2 hd
    omega
  · rintro ⟨D, t, h⟩
    obtain ⟨e1, e2⟩ := onS_dot h
    refine ⟨⟨onS_side h, ?_⟩, ?_⟩
    · refine nonneg_of h.pos ?_
      rw [e1]
      exact Int.mul_nonneg h.t0 (by omega)
    · have hp := h.pos
      refine Classical.byContradiction fun hn => ?_
      have a1 : D * D * dotZ (subZ b a) (subZ b a) ≤ D * (D * dotZ (subZ x a) (subZ x a)) := by
        rw [Int.mul_assoc]
        exact Int.mul_le_mul_of_nonneg_left (Int.mul_le_mul_of_nonneg_left (by omega) (by omega)) (by omega)
      rw [e2] at a1
      have a2 : t * t < D * D := by
        have := Int.mul_le_mul (show t ≤ D - 1 by have := h.t1; omega) (show t ≤ D - 1 by have := h.t1; omega) h.t0 (by omega)
        have h3 : (D - 1) * (D - 1) = D * D - D - D + 1 := by grind
        omega
      have := Int.mul_lt_mul_of_pos_right a2 hd
      omega
theorem between1 {u d : Int} (h1 : min 0 d ≤ u) (h2 : u ≤ max 0 d) : 0 ≤ u * d ∧ u * d ≤ d * d := by
  rcases Int.le_total 0 d with h | h
  · exact ⟨Int.mul_nonneg (by omega) h, Int.mul_le_mul_of_nonneg_right (by omega) h⟩
  · have a := Int.mul_nonneg (show 0 ≤ -u by omega) (show 0 ≤ -d by omega)
    have b := Int.mul_le_mul_of_nonneg_right (show -u ≤ -d by omega) (show 0 ≤ -d by omega)
    rw [Int.neg_mul_neg] at a b
    rw [Int.neg_mul_neg] at b
    exact ⟨a, b⟩
theorem between2 {D t u d : Int} (hD : 0 < D) (h0 : 0 ≤ t) (h1 : t ≤ D) (h : D * u = t * d) : min 0 d ≤ u ∧ u ≤ max 0 d := by
  rcases Int.le_total 0 d with hd | hd
  · have a : 0 ≤ u := nonneg_of hD (by rw [h]; exact Int.mul_nonneg h0 hd)
    have b : u ≤ d := le_of_mul hD (by rw [h]; exact Int.mul_le_mul_of_nonneg_right h1 hd)
    omega
  · have a : u ≤ 0 := nonpos_of hD (by rw [h]; exact Int.mul_nonpos_of_nonneg_of_nonpos h0 hd)
    have b : d ≤ u := le_of_mul hD (by rw [h]; exact Int.mul_le_mul_of_nonpos_right h1 hd)
    omega
theorem ron_iff {a b x : Pt} (ha : farB a = false) (hb : farB b = false) (hx : farB x = false) (hab : a ≠ b) : ronB a b x = true ↔ OnS x a b ∨ x = b := by
  have i1 : inR 2000 a := by have := far_in ha; unfold inR; omega
  have i2 : inR 2000 b := by have := far_in hb; unfold inR; omega
  have i3 : inR 2000 x := by have := far_in hx; unfold inR; omega
  have hd := dot_pos hab
  unfold ronB
  rw [sideW_eq (by omega) i1 i2 i3]
  simp only [Bool.and_eq_true, decide_eq_true_eq]
  constructor
  · rintro ⟨⟨h0, h1, h2⟩, h3, h4⟩
    obtain ⟨c1, c2⟩ := between1 (u := x.x - a.x) (d := b.x - a.x) (by omega) (by omega)
    obtain ⟨c3, c4⟩ := between1 (u := x.z - a.z) (d := b.z - a.z) (by omega) (by omega)
    have d1 : 0 ≤ dotZ (subZ x a) (subZ b a) := by
      unfold dotZ subZ; dsimp only; omega
    have d2 : dotZ (subZ x a) (subZ b a) ≤ dotZ (subZ b a) (subZ b a) := by
      unfold dotZ subZ; dsimp only; omega
    rcases Int.lt_or_eq_of_le d2 with d3 | d3
    · exact .inl (onS_of h0 d1 d3)
    · refine .inr ?_
      obtain ⟨e1, e2⟩ := onH_id a b x
      rw [h0, d3, Int.mul_zero] at e1 e2
      have f1 := Int.eq_of_mul_eq_mul_left (by omega) (show dotZ (subZ b a) (subZ b a) * (x.x - a.x) = dotZ (subZ b a) (subZ b a) * (b.x - a.x) by omega)
      have f2 := Int.eq_of_mul_eq_mul_left (by omega) (show dotZ (subZ b a) (subZ b a) * (x.z - a.z) = dotZ (subZ b a) (subZ b a) * (b.z - a.z) by omega)
      cases x; cases b
      simp only [Pt.mk.injEq]
      dsimp only at *
      omega
  · rintro (⟨D, t, h⟩ | rfl)
    · obtain ⟨c1, c2⟩ := between2 h.pos h.t0 (by have := h.t1; omega) h.ex
      obtain ⟨c3, c4⟩ := between2 h.pos h.t0 (by have := h.t1; omega) h.ez
      exact ⟨⟨onS_side h, by omega, by omega⟩, by omega, by omega⟩
    · rw [side_same2]
      omega
/-- all that a border needs of a shape -/
structure Good (l : List Pt) : Prop where
  near : Near l
  cvx : Cvx l
  len : 3 ≤ l.length
section
variable {l : List Pt} (g : Good l)
include g
theorem Good.far (i : Nat) : farB (cor l i) = false := g.near _ (cor_mem (by have := g.len; omega) i)
theorem Good.ne (i : Nat) : cor l i ≠ cor l (i + 1) := fun h => by
  have := g.cvx.edge i 2 (by omega) (by have := g.len; omega)
  rw [h, side_same1] at this
  omega
/-- a point on edge number i -/
abbrev BP (l : List Pt) (x : Pt) (i : Nat) : Prop := OnS x (cor l i) (cor l (i + 1))
omit g in
theorem BP.congr {x : Pt} {i j : Nat} (h : BP l x i) (hij : i % l.length = j % l.length) : BP l x j := by
  have e1 : cor l i = cor l j := cor_congr hij
  have e2 : cor l (i + 1) = cor l (j + 1) := cor_congr (by rw [← Nat.mod_add_mod, hij, Nat.mod_add_mod])
  unfold BP at *
  rw [← e1, ← e2]
  exact h
theorem Good.zero {x : Pt} {i k : Nat} (hk : k < l.length) (h : BP l x (i + k)) (h0 : sideZ (cor l i) (cor l (i + 1)) x = 0) : k = 0 ∨ (k = 1 ∧ x = cor l (i + 1)) := by
  obtain ⟨D, t, h⟩ := h
  rcases edge_zero g.cvx g.len hk h h0 with h1 | ⟨h1, h2⟩
  · exact .inl h1
  · subst h1; subst h2; exact .inr ⟨rfl, h.start⟩
omit g in
theorem off_mod {n i j : Nat} (hi : i < n) (_ : j < n) : j % n = (i + (if i ≤ j then j - i else j + n - i)) % n := by
  split
  · rw [show i + (j - i) = j from by omega]
  · rw [show i + (j + n - i) = j + n from by omega, Nat.add_mod_right]
theorem Good.uniq {x : Pt} {i j : Nat} (hi : i < l.length) (hj : j < l.length) (h1 : BP l x i) (h2 : BP l x j) : i = j := by
  have s1 : sideZ (cor l i) (cor l (i + 1)) x = 0 := by obtain ⟨D, t, h⟩ := h1; exact onS_side h
  have s2 : sideZ (cor l j) (cor l (j + 1)) x = 0 := by obtain ⟨D, t, h⟩ := h2; exact onS_side h
  have a := g.zero (by split <;> omega) (h2.congr (off_mod hi hj)) s1
  have b := g.zero (by split <;> omega) (h1.congr (off_mod hj hi)) s2
  have := g.len
  rcases a with a | ⟨a, _⟩ <;> rcases b with b | ⟨b, _⟩ <;> (split at a <;> split at b <;> omega)
theorem Good.edge {x : Pt} (h : 0 ≤ edgeI l x) : ∃ i : Nat, edgeI l x = (i : Int) ∧ i < l.length ∧ BP l x i ∧ farB x = false := by
  have hf : farB x = false := by
    cases hf : farB x with
    | false => rfl
    | true => rw [edgeI, if_pos hf] at h; omega
  have hl := (edge_lt (l := l) (x := x)).1
  rw [edgeI, if_neg (by rw [hf]; exact Bool.false_ne_true)] at h hl ⊢
  unfold findI at h hl ⊢
  split at h
  · rename_i ha
    rw [if_pos ha] at hl
    rw [if_pos ha]
    refine ⟨_, rfl, by omega, ?_, hf⟩
    have hlt : (edgesL l).findIdx (onE x) < (edgesL l).length := List.findIdx_lt_length_of_exists (by simpa using ha)
    have hp : onE x (edgesL l)[(edgesL l).findIdx (onE x)] = true := List.findIdx_getElem
    have hg := edgesL_get (l := l) (i := (edgesL l).findIdx (onE x)) (by omega)
    have he : (edgesL l)[(edgesL l).findIdx (onE x)] = (cor l ((edgesL l).findIdx (onE x)), cor l ((edgesL l).findIdx (onE x) + 1)) := (List.getElem?_eq_some_iff.1 hg).2
    rw [he] at hp
    exact (onE_iff (g.far _) (g.far _) hf (g.ne _)).1 hp
  · omega
theorem Good.edge_at {x : Pt} {i : Nat} (hf : farB x = false) (hi : i < l.length) (h : BP l x i) : edgeI l x = (i : Int) := by
  rw [edgeI, if_neg (by rw [hf]; exact Bool.false_ne_true)]
  refine findI_at (edgesL_get hi) (fun j y hj hy => ?_) ((onE_iff (g.far _) (g.far _) hf (g.ne _)).2 h)
  rw [edgesL_get (by omega)] at hy
  cases hy
  cases ho : onE x (cor l j, cor l (j + 1)) with
  | false => rfl
  | true =>
    have := g.uniq hi (by omega) h ((onE_iff (g.far _) (g.far _) hf (g.ne _)).1 ho)
    omega
omit g in
theorem corners {i : Nat} (hi : i < l.length) : ptAt l (i : Int) = cor l i ∧ nextL l (i : Int) = cor l (i + 1) := ⟨ptAt_cor hi, nextL_cor i⟩
theorem Good.border {x : Pt} : rbordB l x = decide (0 ≤ edgeI l x) := by
  rw [Bool.eq_iff_iff, decide_eq_true_eq]
  constructor
  · intro h
    unfold rbordB rbordN at h
    rw [Bool.and_eq_true, Bool.not_eq_true', Bool.not_eq_true'] at h
    obtain ⟨hf, ha⟩ := h
    have hex : ∃ i, i < l.length ∧ ronB (ptAt l (i : Nat)) (nextL l (i : Nat)) x = true := Classical.byContradiction fun hn => by
      rw [allI_true (fun i hi => ?_)] at ha
      · cases ha
      · cases hr : ronB (ptAt l (i : Nat)) (nextL l (i : Nat)) x with
        | false => rfl
        | true => exact absurd ⟨i, hi, hr⟩ hn
    obtain ⟨i, hi, hr⟩ := hex
    rw [(corners hi).1, (corners hi).2, ron_iff (g.far _) (g.far _) hf (g.ne _)] at hr
    rcases hr with hr | hr
    · rw [g.edge_at hf hi hr]; omega
    · have hlt : (i + 1) % l.length < l.length := Nat.mod_lt _ (by omega)
      have : BP l x (i + 1) := ⟨1, 0, by rw [hr]; exact OnH.at 1 (by omega)⟩
      rw [g.edge_at hf hlt (this.congr (Nat.mod_mod _ _).symm)]; omega
  · intro h
    obtain ⟨i, _, hi, hb, hf⟩ := g.edge h
    refine rbord_yes (i := (i : Int)) hf (by omega) (by omega) ?_
    rw [(corners hi).1, (corners hi).2, ron_iff (g.far _) (g.far _) hf (g.ne _)]
    exact .inl hb
/-- a border point lies on an edge's line only on that edge -/
theorem Good.line {x : Pt} {a i : Nat} (hf : farB x = false) (ha : a < l.length) (hb : BP l x a) (hi : i < l.length) : sideZ (cor l i) (cor l (i + 1)) x = 0 ↔ ronB (cor l i) (cor l (i + 1)) x = true := by
  rw [ron_iff (g.far _) (g.far _) hf (g.ne _)]
  constructor
  · intro h0
    rcases g.zero (by split <;> omega) (hb.congr (off_mod hi ha)) h0 with h1 | ⟨_, h2⟩
    · have : a = i := by split at h1 <;> omega
      subst this; exact .inl hb
    · exact .inr h2
  · rintro (⟨D, t, h⟩ | rfl)
    · exact onS_side h
    · rw [side_same2]
theorem Good.apart {p q : Pt} (hp : 0 ≤ edgeI l p) (hq : 0 ≤ edgeI l q) : apartB l p q = rapartB l p q := by
  obtain ⟨a, _, ha, hbp, hfp⟩ := g.edge hp
  obtain ⟨b, _, hb, hbq, hfq⟩ := g.edge hq
  have i1 : inR 2000 p := by have := far_in hfp; unfold inR; omega
  have i2 : inR 2000 q := by have := far_in hfq; unfold inR; omega
  have ic : ∀ i, inR 2000 (cor l i) := fun i => by have := far_in (g.far i); unfold inR; omega
  have key : ∀ i, i < l.length → both0 p q (cor l i, cor l (i + 1)) = rboth l p q (i : Nat) := fun i hi => by
    unfold both0 rboth
    rw [(corners hi).1, (corners hi).2, Bool.eq_iff_iff]
    simp only [Bool.and_eq_true, decide_eq_true_eq]
    rw [turnW_eq (by omega) (ic _) (ic _) i1, turnW_eq (by omega) (ic _) (ic _) i2, g.line hfp ha hbp hi, g.line hfq hb hbq hi]
  unfold apartB rapartB
  rw [Bool.eq_iff_iff, Bool.not_eq_true', allI_iff, List.any_eq_false]
  constructor
  · intro h i hi
    have := h _ (List.mem_of_getElem? (edgesL_get hi))
    rw [key i hi] at this
    simpa using this
  · intro h e he
    obtain ⟨j, hj, rfl⟩ := List.getElem_of_mem he
    rw [edges_len'] at hj
    have hg := (List.getElem?_eq_some_iff.1 (edgesL_get hj)).2
    rw [hg, key j hj]
    simpa using h j hj
end
end Go.Stn

namespace Go.Stn
open Go Go.K Go.RowKit
section
variable {l : List Pt} (g : Good l)
include g
structure Cut (l : List Pt) (p q : Pt) (a m : Nat) (D s E t : Int) : Prop where
  fp : farB p = false
  fq : farB q = false
  ha : a < l.length
  hp : OnH p (cor l a) (cor l (a + 1)) D s
  hq : OnH q (cor l (a + m)) (cor l (a + m + 1)) E t
  m1 : 1 ≤ m
  mn : m < l.length
  hs : m + 1 = l.length → 0 < s
  ht : m = 1 → 0 < t
  ep : edgeI l p = (a : Int)
  eq : edgeI l q = (((a + m) % l.length : Nat) : Int)
theorem Good.cut {p q : Pt} (hp : 0 ≤ edgeI l p) (hq : 0 ≤ edgeI l q) (hap : apartB l p q = true) : ∃ a m D s E t, Cut l p q a m D s E t := by
  have hr := hap
  rw [g.apart hp hq] at hr
  obtain ⟨a, ea, ha, hbp, hfp⟩ := g.edge hp
  obtain ⟨b, eb, hb, hbq, hfq⟩ := g.edge hq
  have hbq' := hbq.congr (off_mod ha hb)
  have hm : (if a ≤ b then b - a else b + l.length - a) < l.length := by split <;> omega
  have hmod := off_mod ha hb
  generalize hmm : (if a ≤ b then b - a else b + l.length - a) = m at *
  have no : ∀ i, i < l.length → ¬ (ronB (cor l i) (cor l (i + 1)) p = true ∧ ronB (cor l i) (cor l (i + 1)) q = true) := fun i hi hh => by
    unfold rapartB at hr
    have := allI_iff.1 hr i hi
    unfold rboth at this
    rw [(corners hi).1, (corners hi).2, hh.1, hh.2] at this
    cases this
  have r1 : ronB (cor l a) (cor l (a + 1)) p = true := (ron_iff (g.far _) (g.far _) hfp (g.ne _)).2 (.inl hbp)
  have r2 : ronB (cor l b) (cor l (b + 1)) q = true := (ron_iff (g.far _) (g.far _) hfq (g.ne _)).2 (.inl hbq)
  obtain ⟨D, s, kp⟩ := hbp
  obtain ⟨E, t, kq⟩ := hbq'
  have hm0 : m ≠ 0 := fun h0 => by
    have : a = b := by split at hmm <;> omega
    subst this
    exact no a ha ⟨r1, r2⟩
  refine ⟨a, m, D, s, E, t, hfp, hfq, ha, kp, kq, by omega, hm, fun hlast => ?_, fun h1 => ?_, ea, ?_⟩
  · have h0 := kp.t0
    rcases Int.lt_or_eq_of_le h0 with h | h
    · exact h
    · exfalso
      subst h
      have hpa := kp.start
      have hba : cor l (b + 1) = cor l a := by
        apply cor_congr
        rw [← Nat.mod_add_mod, hmod, Nat.mod_add_mod, show a + m + 1 = a + l.length from by omega, Nat.add_mod_right]
      exact no b hb ⟨(ron_iff (g.far _) (g.far _) hfp (g.ne _)).2 (.inr (by rw [hba]; exact hpa)), r2⟩
  · have h0 := kq.t0
    rcases Int.lt_or_eq_of_le h0 with h | h
    · exact h
    · exfalso
      subst h; subst h1
      exact no a ha ⟨r1, (ron_iff (g.far _) (g.far _) hfq (g.ne _)).2 (.inr kq.start)⟩
  · rw [eb, ← hmod, Nat.mod_eq_of_lt hb]
variable {p q : Pt} {a m : Nat} {D s E t : Int} (c : Cut l p q a m D s E t)
include c
theorem Good.left (k : Nat) (h1 : m < k) (h2 : k < l.length ∨ (k = l.length ∧ 0 < s)) : 0 < sideZ p q (cor l (a + k)) := by
  rcases h2 with h2 | ⟨rfl, h2⟩
  · exact arc_pos g.cvx c.hp c.hq c.m1 h1 h2
  · exact arc_end g.cvx c.hp c.hq c.m1 c.mn g.len h2 c.ht
theorem Good.notleft (k : Nat) (h1 : 1 ≤ k) (h2 : k ≤ m) : sideZ p q (cor l (a + k)) ≤ 0 := arc_neg g.cvx c.hp c.hq c.mn h1 h2
omit g in
theorem Cut.first (h : s = 0) : cor l (a + l.length) = p := by
  have := c.hp
  rw [h] at this
  rw [cor_add]
  exact this.start.symm
theorem Good.side (i : Nat) : sideW p q (cor l i) = sideZ p q (cor l i) := by
  have i1 : inR 2000 p := by have := far_in c.fp; unfold inR; omega
  have i2 : inR 2000 q := by have := far_in c.fq; unfold inR; omega
  have ic : inR 2000 (cor l i) := by have := far_in (g.far i); unfold inR; omega
  exact sideW_eq (by omega) i1 i2 ic
/-- the corners to the left, in order -/
def arcL (l : List Pt) (p q : Pt) (a m : Nat) : List Pt := ((List.range (l.length - m)).map fun j => cor l (a + m + 1 + j)).filter fun c => decide (0 < sideW p q c)
/-- the program's part -/
theorem Good.rn : ∀ (k j : Nat), j + k + m = l.length → rightN l p k (((a + m) % l.length : Nat) + 1 + (j : Int)) = (((List.range k).map fun i => cor l (a + m + 1 + j + i)).filter fun c => decide (0 < sideW p q c)) ++ [p]
  | 0, j, _ => rfl
  | k + 1, j, hk => by
    have hat : atL l (((a + m) % l.length : Nat) + 1 + (j : Int)) = cor l (a + m + 1 + j) := by
      rw [atL_cor (n := (a + m) % l.length + (1 + j) + l.length) (by omega), cor_add, cor_add_mod]
      congr 1
      omega
    have hcor : cor l (a + m + 1 + j) = cor l (a + (m + 1 + j)) := by congr 1; omega
    have hrec := Good.rn k (j + 1) (by omega)
    rw [show (((a + m) % l.length : Nat) : Int) + 1 + ((j + 1 : Nat) : Int) = (((a + m) % l.length : Nat) : Int) + 1 + (j : Int) + 1 from by omega] at hrec
    have hmap : (List.range (k + 1)).map (fun i => cor l (a + m + 1 + j + i)) = cor l (a + m + 1 + j) :: (List.range k).map (fun i => cor l (a + m + 1 + (j + 1) + i)) := by
      rw [List.range_succ_eq_map, List.map_cons, List.map_map]
      congr 1
      apply List.map_congr_left
      intro i _
      show cor l (a + m + 1 + j + (i + 1)) = _
      congr 1
      omega
    unfold rightN
    rw [hat, hmap]
    by_cases hlast : m + 1 + j = l.length ∧ s = 0
    · have hk0 : k = 0 := by omega
      subst hk0
      have he : cor l (a + m + 1 + j) = p := by rw [hcor, hlast.1]; exact c.first hlast.2
      rw [he, if_pos (eqB_iff.2 rfl)]
      have hz : ¬ 0 < sideW p q p := by
        have := g.side c (a + l.length)
        rw [c.first hlast.2, side_same3] at this
        omega
      simp [hz]
    · have hpos : 0 < sideW p q (cor l (a + m + 1 + j)) := by
        rw [g.side c, hcor]
        refine g.left c _ (by omega) ?_
        by_cases h : m + 1 + j = l.length
        · refine .inr ⟨h, ?_⟩
          have := c.hp.t0
          have : s ≠ 0 := fun h0 => hlast ⟨h, h0⟩
          omega
        · exact .inl (by omega)
      have hne : ¬ eqB (cor l (a + m + 1 + j)) p = true := fun he => by
        have := eqB_iff.1 he
        rw [g.side c, this, side_same3] at hpos
        omega
      rw [if_neg hne, hrec]
      simp [hpos]
omit g in
theorem Cut.rt : rightT l q p = l.length - m := by
  have := c.ha
  have := c.mn
  have := c.m1
  have hlt := Nat.mod_lt (a + m) (show l.length > 0 by omega)
  unfold rightT
  rw [c.ep, c.eq]
  rcases Nat.lt_or_ge (a + m) l.length with h | h
  · rw [Nat.mod_eq_of_lt h, if_neg (by omega)]; omega
  · rw [Nat.mod_eq_sub_mod h, Nat.mod_eq_of_lt (by omega), if_pos (by omega)]; omega
theorem Good.rl : rightL l q p = q :: (arcL l p q a m ++ [p]) := by
  unfold rightL arcL
  rw [c.rt, c.eq]
  have := g.rn c (l.length - m) 0 (by have := c.mn; omega)
  rw [show (((a + m) % l.length : Nat) : Int) + 1 + ((0 : Nat) : Int) = (((a + m) % l.length : Nat) : Int) + 1 from by omega] at this
  rw [this]
omit g in
theorem Cut.mod (i : Nat) : i % l.length = (a + (m + 1 + (i + (l.length - (a + m + 1) % l.length)) % l.length)) % l.length := by
  have hn : 0 < l.length := by have := c.mn; omega
  have := Nat.mod_lt (a + m + 1) hn
  rw [show a + (m + 1 + (i + (l.length - (a + m + 1) % l.length)) % l.length) = (a + m + 1) + (i + (l.length - (a + m + 1) % l.length)) % l.length from by omega, Nat.add_mod_mod, ← Nat.mod_add_mod,
    show (a + m + 1) % l.length + (i + (l.length - (a + m + 1) % l.length)) = i + l.length from by omega, Nat.add_mod_right]
theorem Good.fr : fromN l p q l.length = (((a + m + 1) % l.length : Nat) : Int) := by
  have hn : 0 < l.length := by have := c.mn; omega
  have m1 := c.m1
  have mn := c.mn
  have hlt := Nat.mod_lt (a + m + 1) hn
  have test : ∀ i : Nat, i < l.length → (leftC l p q (i : Int) = true ↔ i = (a + m + 1) % l.length) := fun i hi => by
    have e1 : ptAt l (i : Int) = cor l i := ptAt_cor hi
    have e2 : ((i : Int) + (l.length : Int) - 1).tmod (l.length : Int) = (((i + l.length - 1) % l.length : Nat) : Int) := by
      rw [show (i : Int) + (l.length : Int) - 1 = ((i + l.length - 1 : Nat) : Int) from by omega]; rfl
    have e3 : ptAt l (((i + l.length - 1) % l.length : Nat) : Int) = cor l (i + l.length - 1) := by
      rw [ptAt_cor (Nat.mod_lt _ hn), cor_mod]
    unfold leftC
    rw [e1, e2, e3, g.side c, g.side c, Bool.and_eq_true, decide_eq_true_eq, decide_eq_true_eq]
    have hmod := c.mod i
    have hr := Nat.mod_lt (i + (l.length - (a + m + 1) % l.length)) hn
    have hzero : (i + (l.length - (a + m + 1) % l.length)) % l.length = 0 ↔ i = (a + m + 1) % l.length := by
      rcases Nat.lt_or_ge i ((a + m + 1) % l.length) with h | h
      · rw [Nat.mod_eq_of_lt (by omega)]; omega
      · rw [Nat.mod_eq_sub_mod (by omega), Nat.mod_eq_of_lt (by omega)]; omega
    rw [← hzero]
    generalize (i + (l.length - (a + m + 1) % l.length)) % l.length = r at *
    have c1 : cor l i = cor l (a + (m + 1 + r)) := cor_congr hmod
    have c2 : cor l (i + l.length - 1) = cor l (a + (m + r)) := by
      apply cor_congr
      have e : (i + l.length - 1 + 1) % l.length = (a + (m + r) + 1) % l.length := by
        rw [show i + l.length - 1 + 1 = i + l.length from by omega, Nat.add_mod_right, hmod]; congr 1; omega
      have e' := congrArg (fun x => (x + (l.length - 1)) % l.length) e
      simp only [Nat.mod_add_mod] at e'
      rw [show i + l.length - 1 + 1 + (l.length - 1) = i + l.length - 1 + l.length from by omega, Nat.add_mod_right, show a + (m + r) + 1 + (l.length - 1) = a + (m + r) + l.length from by omega, Nat.add_mod_right] at e'
      exact e'
    rw [c1, c2]
    constructor
    · rintro ⟨h1, h2⟩
      refine Classical.byContradiction fun hr0 => ?_
      -- beyond the first one, both are to the left, or the corner is not
      by_cases hb : m + 1 + r ≤ l.length
      · have := g.left c (m + r) (by omega) (.inl (by omega))
        omega
      · have := g.notleft c (m + 1 + r - l.length) (by omega) (by omega)
        rw [show a + (m + 1 + r) = a + (m + 1 + r - l.length) + l.length from by omega, cor_add] at h1
        omega
    · intro h0
      subst h0
      refine ⟨g.left c _ (by omega) ?_, g.notleft c _ (by omega) (by omega)⟩
      by_cases h : m + 1 = l.length
      · exact .inr ⟨h, c.hs h⟩
      · exact .inl (by omega)
  have key : ∀ n, n ≤ l.length → (a + m + 1) % l.length < n → fromN l p q n = (((a + m + 1) % l.length : Nat) : Int) := by
    intro n
    induction n with
    | zero => intro _ h; omega
    | succ n ih =>
      intro h1 h2
      unfold fromN
      by_cases h : n = (a + m + 1) % l.length
      · rw [if_pos ((test n (by omega)).2 h), h]
      · rw [if_neg (fun hc => h ((test n (by omega)).1 hc))]
        exact ih (by omega) (by omega)
  exact key _ (Nat.le_refl _) hlt
theorem Good.ll : leftL l p q = p :: q :: arcL l p q a m := by
  have m1 := c.m1
  have mn := c.mn
  unfold leftL leftO arcL
  rw [g.fr c]
  congr 2
  have hpt : ∀ j : Nat, leftP l (((a + m + 1) % l.length : Nat) : Int) (j : Int) = cor l (a + m + 1 + j) := fun j => by
    unfold leftP
    rw [show ((((a + m + 1) % l.length : Nat) : Int) + (j : Int)).tmod (l.length : Int) = ((((a + m + 1) % l.length + j) % l.length : Nat) : Int) from rfl, ptAt_cor (Nat.mod_lt _ (by omega)), cor_mod, cor_add_mod]
  rw [List.map_congr_left (g := fun j => cor l (a + m + 1 + j)) (fun j _ => hpt j)]
  have hsplit : List.range l.length = List.range (l.length - m) ++ (List.range m).map (fun j => l.length - m + j) := by
    rw [← List.range_add]; congr 1; omega
  rw [hsplit, List.map_append, List.filter_append, List.map_map]
  have hnil : (((List.range m).map ((fun j => cor l (a + m + 1 + j)) ∘ fun j => l.length - m + j)).filter fun c => decide (0 < sideW p q c)) = [] := by
    rw [List.filter_eq_nil_iff]
    intro x hx
    obtain ⟨j, hj, rfl⟩ := List.mem_map.1 hx
    rw [List.mem_range] at hj
    have := g.notleft c (j + 1) (by omega) (by omega)
    show ¬ decide (0 < sideW p q (cor l (a + m + 1 + (l.length - m + j)))) = true
    rw [g.side c, show a + m + 1 + (l.length - m + j) = a + (j + 1) + l.length from by omega, cor_add, decide_eq_true_eq]
    omega
  rw [hnil, List.append_nil]
theorem Good.nodup : (p :: q :: arcL l p q a m).Nodup := by
  have mn := c.mn
  have hside : ∀ x ∈ arcL l p q a m, 0 < sideZ p q x := fun x hx => by
    obtain ⟨h1, h2⟩ := List.mem_filter.1 hx
    obtain ⟨j, _, rfl⟩ := List.mem_map.1 h1
    rw [decide_eq_true_eq, g.side c] at h2
    exact h2
  have hpq : p ≠ q := fun h => by
    have := g.left c (m + 1) (by omega) (by
      by_cases h : m + 1 = l.length
      · exact .inr ⟨h, c.hs h⟩
      · exact .inl (by omega))
    rw [h, side_same1] at this
    omega
  have cne : ∀ i j, i < j → j < i + l.length → cor l i ≠ cor l j := fun i j h1 h2 he => by
    have n3 := g.len
    by_cases h : j = i + 1
    · subst h; exact g.ne i he
    · have := g.cvx.tri3 (i := i) (j := i + 1) (k := j) (by omega) (by omega) h2
      rw [he, side_same3] at this
      omega
  rw [List.nodup_cons, List.nodup_cons]
  refine ⟨fun h => ?_, fun h => ?_, ?_⟩
  · rcases List.mem_cons.1 h with h | h
    · exact hpq h
    · have := hside _ h
      rw [side_same3] at this
      omega
  · have := hside _ h
    rw [side_same2] at this
    omega
  · unfold arcL
    refine List.Pairwise.filter _ ?_
    rw [List.pairwise_map]
    refine List.Pairwise.imp_of_mem ?_ (List.pairwise_lt_range)
    intro i j hi hj hij
    rw [List.mem_range] at hi hj
    exact cne _ _ (by omega) (by omega)
end
/-- **the document's part is the program's, but for where it begins** -/
theorem Good.parts {l : List Pt} (g : Good l) {p q : Pt} (hp : 0 ≤ edgeI l p) (hq : 0 ≤ edgeI l q) (hap : apartB l p q = true) :
    ∃ X, leftL l p q = p :: q :: X ∧ rightL l q p = (q :: X) ++ [p] ∧ (p :: q :: X).Nodup := by
  obtain ⟨a, m, D, s, E, t, c⟩ := g.cut hp hq hap
  exact ⟨_, g.ll c, g.rl c, g.nodup c⟩
end Go.Stn

namespace Go.Stn
open Go Go.K Go.RowKit Go.Proofs
theorem bab_refl (s : ByteArray) : (s == s) = true := by
  cases s with | mk d => exact (beq_self_eq_true d)
theorem bab_eq {a b : ByteArray} (h : (a == b) = true) : a = b := by
  cases a with
  | mk d => cases b with
    | mk e =>
      have : (d == e) = true := h
      exact congrArg _ (eq_of_beq this)
abbrev Apart (L : List SC) : Prop := L.Pairwise fun x y => ¬ x.s.name = y.s.name
theorem heap_names {L : List SC} (h : heapI L = 0) : Apart L := by
  unfold heapI at h
  have h2 : ¬ (List.range L.length).any (badAt L) = true := fun e => by rw [if_pos e] at h; cases h
  have h3 : ∀ j, j < L.length → badAt L j = false := fun j hj => by
    rw [Bool.eq_false_iff]
    exact fun e => h2 (List.any_eq_true.2 ⟨j, List.mem_range.2 hj, e⟩)
  rw [Apart, List.pairwise_iff_getElem]
  intro i j hi hj hij he
  have hb := h3 j hj
  unfold badAt at hb
  rw [Bool.or_eq_false_iff, Bool.or_eq_false_iff] at hb
  have h4 := hb.1.2
  unfold inSet at h4
  rw [Bool.eq_false_iff] at h4
  apply h4
  have hg : (L.getD j default) = L[j] := by simp [hj]
  rw [hg]
  have hm : L[i].s.name ∈ namesL (L.take j) := List.mem_map.2 ⟨L[i], List.mem_take_iff_getElem.2 ⟨i, by omega, rfl⟩, rfl⟩
  exact List.any_eq_true.2 ⟨_, hm, by rw [he]; exact bab_refl _⟩
end Go.Stn

namespace Go.Proofs
open Go.Shelf
def Tryz.lays169_ren : Go.Shelf.Ren := ⟨fun | 169 => 28 | n => n, fun | 70 => 63 | 9 => 9 | 0 => 0 | 72 => 66 | 37 => 64 | 127 => 115 | 3 => 3 | 5 => 5 | n => n, fun | n => n⟩
theorem Tryz.lays169 : Go.Proofs.Lays.n169 Tryz.prog Tryz.lays169_ren := {
  mixed := by kernel_rfl
  f169 := Tryz.func28.trans (congrArg some (by kernel_rfl))
  t0 := Tryz.underlying0
  a0 := Tryz.isAgg0
  z0 := Tryz.sizeOf0
  v0 := Tryz.zeroValue0
  t3 := Tryz.underlying3
  a3 := Tryz.isAgg3
  z3 := Tryz.sizeOf3
  v3 := Tryz.zeroValue3
  t9 := Tryz.underlying9
  a9 := Tryz.isAgg9
  z9 := Tryz.sizeOf9
  v9 := Tryz.zeroValue9
  t37 := Tryz.underlying64
  a37 := Tryz.isAgg64
  z37 := Tryz.sizeOf64
  v37 := Tryz.zeroValue64
  t70 := Tryz.underlying63
  a70 := Tryz.isAgg63
  z70 := Tryz.sizeOf63
  v70 := Tryz.zeroValue63
  t72 := Tryz.underlying66
  a72 := Tryz.isAgg66
  z72 := Tryz.sizeOf66
  v72 := Tryz.zeroValue66
  t127 := Tryz.underlying115
  a127 := Tryz.isAgg115
  z127 := Tryz.sizeOf115
  v127 := Tryz.zeroValue115 }
theorem Tryz.Builder_Extra_169 : Builder.Extra Tryz.prog Tryz.lays169_ren := {
  sizeBuilder := by kernel_rfl
  liesBuilder := by kernel_rfl
  t5 := Tryz.underlying5
  a5 := Tryz.isAgg5
  z5 := Tryz.sizeOf5
  v5 := Tryz.zeroValue5
  infoByte := by kernel_rfl
  cellsByte := by kernel_rfl
  sizeByte := by kernel_rfl
  neB5 := by decide }
def Tryz.laysM171_ren : Go.Shelf.Ren := ⟨fun | 171 => 27 | 243 => 64 | 246 => 99 | 283 => 127 | 284 => 128 | 285 => 129 | 286 => 130 | 129 => 109 | 317 => 149 | 318 => 150 | 319 => 151 | 320 => 152 | 337 => 165 | 338 => 166 | n => n, fun | 3 => 3 | 9 => 9 | 2 => 2 | 4 => 4 | 171 => 165 | 0 => 0 | 53 => 154 | 37 => 64 | 5 => 5 | 173 => 167 | 212 => 184 | 51 => 152 | 20 => 20 | 213 => 185 | 46 => 119 | 232 => 207 | 233 => 208 | n => n, fun | 17 => 2 | 18 => 5 | 19 => 6 | n => n⟩
theorem Tryz.laysM171 : Go.Proofs.LaysM.n171 Tryz.prog Tryz.laysM171_ren := {
  mixed := by kernel_rfl
  f129 := Tryz.func109.trans (congrArg some (by kernel_rfl))
  f171 := Tryz.func27.trans (congrArg some (by kernel_rfl))
  f243 := Tryz.func64.trans (congrArg some (by kernel_rfl))
  f246 := Tryz.func99.trans (congrArg some (by kernel_rfl))
  f283 := Tryz.func127.trans (congrArg some (by kernel_rfl))
  f284 := Tryz.func128.trans (congrArg some (by kernel_rfl))
  f285 := Tryz.func129.trans (congrArg some (by kernel_rfl))
  f286 := Tryz.func130.trans (congrArg some (by kernel_rfl))
  f317 := Tryz.func149.trans (congrArg some (by kernel_rfl))
  f318 := Tryz.func150.trans (congrArg some (by kernel_rfl))
  f319 := Tryz.func151.trans (congrArg some (by kernel_rfl))
  f320 := Tryz.func152.trans (congrArg some (by kernel_rfl))
  f337 := Tryz.func165.trans (congrArg some (by kernel_rfl))
  f338 := Tryz.func166.trans (congrArg some (by kernel_rfl))
  t0 := Tryz.underlying0
  a0 := Tryz.isAgg0
  z0 := Tryz.sizeOf0
  v0 := Tryz.zeroValue0
  t2 := Tryz.underlying2
  a2 := Tryz.isAgg2
  z2 := Tryz.sizeOf2
  v2 := Tryz.zeroValue2
  t3 := Tryz.underlying3
  a3 := Tryz.isAgg3
  z3 := Tryz.sizeOf3
  v3 := Tryz.zeroValue3
  t4 := Tryz.underlying4
  a4 := Tryz.isAgg4
  z4 := Tryz.sizeOf4
  v4 := Tryz.zeroValue4
  t5 := Tryz.underlying5
  a5 := Tryz.isAgg5
  z5 := Tryz.sizeOf5
  v5 := Tryz.zeroValue5
  t9 := Tryz.underlying9
  a9 := Tryz.isAgg9
  z9 := Tryz.sizeOf9
  v9 := Tryz.zeroValue9
  t20 := Tryz.underlying20
  a20 := Tryz.isAgg20
  z20 := Tryz.sizeOf20
  v20 := Tryz.zeroValue20
  t37 := Tryz.underlying64
  a37 := Tryz.isAgg64
  z37 := Tryz.sizeOf64
  v37 := Tryz.zeroValue64
  t46 := Tryz.underlying119
  a46 := Tryz.isAgg119
  z46 := Tryz.sizeOf119
  v46 := Tryz.zeroValue119
  t51 := Tryz.underlying152
  a51 := Tryz.isAgg152
  z51 := Tryz.sizeOf152
  v51 := Tryz.zeroValue152
  t53 := Tryz.underlying154
  a53 := Tryz.isAgg154
  z53 := Tryz.sizeOf154
  v53 := Tryz.zeroValue154
  t171 := Tryz.underlying165
  a171 := Tryz.isAgg165
  z171 := Tryz.sizeOf165
  v171 := Tryz.zeroValue165
  t173 := Tryz.underlying167
  a173 := Tryz.isAgg167
  z173 := Tryz.sizeOf167
  v173 := Tryz.zeroValue167
  t212 := Tryz.underlying184
  a212 := Tryz.isAgg184
  z212 := Tryz.sizeOf184
  v212 := Tryz.zeroValue184
  t213 := Tryz.underlying185
  a213 := Tryz.isAgg185
  z213 := Tryz.sizeOf185
  t232 := Tryz.underlying207
  a232 := Tryz.isAgg207
  z232 := Tryz.sizeOf207
  v232 := Tryz.zeroValue207
  t233 := Tryz.underlying208
  a233 := Tryz.isAgg208
  z233 := Tryz.sizeOf208
  v233 := Tryz.zeroValue208
  g17 := by kernel_rfl
  g18 := by kernel_rfl
  g19 := by kernel_rfl
  i0 := by kernel_rfl
  i2 := by kernel_rfl
  i3 := by kernel_rfl
  i4 := by kernel_rfl
  i5 := by kernel_rfl
  i9 := by kernel_rfl
  i20 := by kernel_rfl
  i37 := by kernel_rfl
  i46 := by kernel_rfl
  i51 := by kernel_rfl
  i53 := by kernel_rfl
  i171 := by kernel_rfl
  i173 := by kernel_rfl
  i212 := by kernel_rfl
  i232 := by kernel_rfl
  i233 := by kernel_rfl
  m17 := by kernel_rfl
  m18 := by kernel_rfl
  m19 := by kernel_rfl }
def Tryz.lays166_ren : Go.Shelf.Ren := ⟨fun | 166 => 26 | 240 => 63 | 276 => 98 | n => n, fun | 37 => 64 | 70 => 63 | 72 => 66 | 75 => 68 | 80 => 73 | 164 => 141 | n => n, fun | n => n⟩
theorem Tryz.lays166 : Go.Proofs.Lays.n166 Tryz.prog Tryz.lays166_ren := {
  mixed := by kernel_rfl
  f166 := Tryz.func26.trans (congrArg some (by kernel_rfl))
  f240 := Tryz.func63.trans (congrArg some (by kernel_rfl))
  f276 := Tryz.func98.trans (congrArg some (by kernel_rfl))
  t0 := Tryz.underlying0
  a0 := Tryz.isAgg0
  z0 := Tryz.sizeOf0
  v0 := Tryz.zeroValue0
  t3 := Tryz.underlying3
  a3 := Tryz.isAgg3
  z3 := Tryz.sizeOf3
  v3 := Tryz.zeroValue3
  t4 := Tryz.underlying4
  a4 := Tryz.isAgg4
  z4 := Tryz.sizeOf4
  v4 := Tryz.zeroValue4
  t9 := Tryz.underlying9
  a9 := Tryz.isAgg9
  z9 := Tryz.sizeOf9
  v9 := Tryz.zeroValue9
  t20 := Tryz.underlying20
  a20 := Tryz.isAgg20
  z20 := Tryz.sizeOf20
  v20 := Tryz.zeroValue20
  t37 := Tryz.underlying64
  a37 := Tryz.isAgg64
  z37 := Tryz.sizeOf64
  v37 := Tryz.zeroValue64
  t70 := Tryz.underlying63
  a70 := Tryz.isAgg63
  z70 := Tryz.sizeOf63
  v70 := Tryz.zeroValue63
  t72 := Tryz.underlying66
  a72 := Tryz.isAgg66
  z72 := Tryz.sizeOf66
  v72 := Tryz.zeroValue66
  t75 := Tryz.underlying68
  a75 := Tryz.isAgg68
  z75 := Tryz.sizeOf68
  v75 := Tryz.zeroValue68
  t164 := Tryz.underlying141
  a164 := Tryz.isAgg141
  z164 := Tryz.sizeOf141
  v164 := Tryz.zeroValue141 }
theorem Tryz.Builder_Extra_166 : Builder.Extra Tryz.prog Tryz.lays166_ren := {
  sizeBuilder := by kernel_rfl
  liesBuilder := by kernel_rfl
  t5 := Tryz.underlying5
  a5 := Tryz.isAgg5
  z5 := Tryz.sizeOf5
  v5 := Tryz.zeroValue5
  infoByte := by kernel_rfl
  cellsByte := by kernel_rfl
  sizeByte := by kernel_rfl
  neB5 := by decide }
end Go.Proofs

namespace Go.Proofs.YtmpaebfjnjmmlaaGreatDoor
open Go.K Go.Stn Go.RowKit
theorem g_pow10 : Tryz.prog.globalNamed "internal/strconv.uint64pow10" = some 2 := by kernel_rfl
theorem itoa_c (n : Int) (w : World) (hp : Has w (VarR 2 pow10V)) (h0 : -9223372036854775808 ≤ n) (h1 : n ≤ 9223372036854775807) : Calls Tryz.prog 27 #[.int .i64 n] w (Pure (.string (itoaB n)) w) := itoa_pure Tryz.laysM171 g_pow10 n w h0 h1 hp
theorem writeString_c (b : Nat) (l : List UInt8) (s : ByteArray) (w : World) (B : Nat → Prop) (hB : ∀ k, B k → k < w.heap.size) (hA : (Bld b 66 5 l).A B w) (hlen : l.length + s.size ≤ 140737488355328) :
    Calls Tryz.prog 26 #[.pointer (some ⟨b, 0, none⟩), .string s] w (Turns (fun _ : Unit => .tuple #[.int .i64 s.size, .nilIface]) (fun _ => Bld b 66 5 (l ++ s.data.toList)) (fun _ => True) B w) := writeString_turns Tryz.lays166 Tryz.Builder_Extra_166 s hB hA hlen
theorem bstring_c (b : Nat) (l : List UInt8) (w : World) (B : Nat → Prop) (hB : ∀ k, B k → k < w.heap.size) (hA : (Bld b 66 5 l).A B w) (h63 : l.length ≤ 9223372036854775807) :
    Calls Tryz.prog 28 #[.pointer (some ⟨b, 0, none⟩)] w (Turns (fun _ : Unit => .string ⟨l.toArray⟩) (fun _ => Emp) (fun _ => True) B w) := by
  cases l with
  | nil => exact builderString_empty Tryz.lays169 Tryz.Builder_Extra_169 hB hA
  | cons x r => exact builderString_turns Tryz.lays169 Tryz.Builder_Extra_169 hB hA (by simp) h63
end Go.Proofs.YtmpaebfjnjmmlaaGreatDoor

namespace Go.Proofs.YtmpaebfjnjmmlaaGreatDoor
open Go.K Go.Stn Go.RowKit
theorem plain_lenL {L M : List SC} (h : plainL M = plainL L) : M.length = L.length := by
  have := congrArg List.length h
  simpa using this
theorem plain_small {L M : List SC} (h : plainL M = plainL L) (hss : ∀ z ∈ L, Small z.s.shape.length) : ∀ z ∈ M, Small z.s.shape.length := fun z hz => by
  have : z.s ∈ plainL L := by rw [← h]; exact List.mem_map.2 ⟨z, hz, rfl⟩
  obtain ⟨y, hy, e⟩ := List.mem_map.1 this
  rw [← e]; exact hss y hy
end Go.Proofs.YtmpaebfjnjmmlaaGreatDoor

namespace Go.Stn
open Go Go.K Go.RowKit Go.Proofs
abbrev bs (l : List UInt8) : ByteArray := ⟨l.toArray⟩
theorem bs_size (l : List UInt8) : (bs l).size = l.length := by show l.toArray.size = _; simp
theorem data_app (a b : ByteArray) : (a ++ b).data.toList = a.data.toList ++ b.data.toList := by simp
theorem data_itoa (n : Int) : (itoaB n).data.toList = Lib.itoa n := by unfold itoaB; simp
theorem itoaB_size (n : Int) : (itoaB n).size = (Lib.itoa n).length := bs_size _
theorem itoaB_le {n : Int} (h0 : -9223372036854775808 ≤ n) (h1 : n ≤ 9223372036854775807) : (itoaB n).size ≤ 21 := by rw [itoaB_size]; exact Lib.itoa_length_le n h0 h1
/-- a number, behind a blank -/
abbrev wordL (n : Int) : List UInt8 := 32 :: Lib.itoa n
def numsL (s : Stn) : List Int := [s.depth, s.density, s.grain.x, s.grain.z] ++ s.shape.flatMap fun p => [p.x, p.z]
def numsN (s : Stn) (k : Nat) : List Int := [s.depth, s.density, s.grain.x, s.grain.z] ++ (s.shape.take k).flatMap fun p => [p.x, p.z]
def wordsL (l : List Int) : List UInt8 := l.flatMap wordL
def lineL (s : Stn) : List UInt8 := s.name.data.toList ++ wordsL (numsL s) ++ [10]
def printL (L : List SC) : List UInt8 := L.flatMap fun z => lineL z.s
theorem numsN_all {s : Stn} {k : Int} (h0 : 0 ≤ k) (h : ¬ k < (s.shape.length : Int)) : numsN s k.toNat = numsL s := by
  unfold numsN numsL
  rw [List.take_of_length_le (by omega)]
theorem numsN_succ {s : Stn} {k : Int} (h0 : 0 ≤ k) (h1 : k < (s.shape.length : Int)) : numsN s (k + 1).toNat = numsN s k.toNat ++ [(s.shape.getD k.toNat default).x, (s.shape.getD k.toNat default).z] := by
  unfold numsN
  rw [take_succ h0 h1, List.flatMap_append, ← List.append_assoc]
  simp [List.flatMap_cons]
theorem flat2_len (l : List Pt) : (l.flatMap fun p => [p.x, p.z]).length = 2 * l.length := by
  induction l with
  | nil => rfl
  | cons a r ih => simp only [List.flatMap_cons, List.length_append, List.length_cons, List.length_nil, ih]; omega
theorem numsN_len (s : Stn) (k : Nat) : (numsN s k).length ≤ 4 + 2 * s.shape.length := by
  unfold numsN
  rw [List.length_append, flat2_len, List.length_take]
  simp only [List.length_cons, List.length_nil]
  omega
theorem numsL_len (s : Stn) : (numsL s).length = 4 + 2 * s.shape.length := by
  unfold numsL
  rw [List.length_append, flat2_len]
  simp only [List.length_cons, List.length_nil]
theorem wordsL_succ {l : List Int} {j : Int} (h0 : 0 ≤ j) (h1 : j < (l.length : Int)) : wordsL (l.take (j + 1).toNat) = wordsL (l.take j.toNat) ++ wordL (l.getD j.toNat default) := by
  unfold wordsL
  rw [take_succ h0 h1, List.flatMap_append]; simp
theorem printL_succ {L : List SC} {i : Int} (h0 : 0 ≤ i) (h1 : i < (L.length : Int)) : printL (L.take (i + 1).toNat) = printL (L.take i.toNat) ++ lineL (L.getD i.toNat default).s := by
  unfold printL
  rw [take_succ h0 h1, List.flatMap_append]; simp
theorem printL_all {L : List SC} {i : Int} (h0 : 0 ≤ i) (h : ¬ i < (L.length : Int)) : printL (L.take i.toNat) = printL L := by rw [List.take_of_length_le (by omega)]
/-- the numbers of a good stone -/
theorem check_nums {s : Stn} (h : checkI s = 0) : ∀ n ∈ numsL s, -10000 ≤ n ∧ n ≤ 10000 := by
  obtain ⟨h1, h2⟩ := check_in h
  have h3 := check_good h
  unfold badB at h3
  simp only [Bool.or_eq_false_iff, Bool.not_eq_false', Bool.and_eq_true, decide_eq_true_eq] at h3
  unfold inR at h1 h2
  intro n hn
  unfold numsL at hn
  rcases List.mem_append.1 hn with hn | hn
  · simp only [List.mem_cons, List.not_mem_nil, or_false] at hn
    rcases hn with rfl | rfl | rfl | rfl <;> omega
  · obtain ⟨p, hp, hn⟩ := List.mem_flatMap.1 hn
    have := h1 p hp
    simp only [List.mem_cons, List.not_mem_nil, or_false] at hn
    rcases hn with rfl | rfl <;> omega
theorem wordL_le {n : Int} (h : -10000 ≤ n ∧ n ≤ 10000) : (wordL n).length ≤ 22 := by
  have := Lib.itoa_length_le n (by omega) (by omega)
  simp only [List.length_cons]; omega
theorem wordsL_le : ∀ {l : List Int}, (∀ n ∈ l, -10000 ≤ n ∧ n ≤ 10000) → (wordsL l).length ≤ 22 * l.length
  | [], _ => by simp [wordsL]
  | n :: r, h => by
    have h1 := wordL_le (h n (by simp))
    have h2 := wordsL_le (l := r) fun m hm => h m (by simp [hm])
    have e : wordsL (n :: r) = wordL n ++ wordsL r := by unfold wordsL; simp [List.flatMap_cons]
    rw [e, List.length_append]; simp only [List.length_cons] at h1 ⊢; omega
theorem words_part {s : Stn} (h : checkI s = 0) (j : Nat) : (wordsL ((numsL s).take j)).length ≤ 700 := by
  have h1 := wordsL_le (l := (numsL s).take j) fun n hn => check_nums h n (List.mem_of_mem_take hn)
  have h2 := numsL_len s
  have h3 := check_len h
  have h4 : ((numsL s).take j).length ≤ (numsL s).length := by rw [List.length_take]; omega
  omega
theorem line_le {s : Stn} (h : checkI s = 0) : (lineL s).length ≤ 800 := by
  have h1 := words_part h (numsL s).length
  rw [List.take_length] at h1
  have h2 := check_named h
  have h3 : s.name.data.toList.length = s.name.size := by rw [Array.length_toList]; rfl
  unfold lineL
  simp only [List.length_append, List.length_cons, List.length_nil]
  omega
theorem print_le : ∀ {L : List SC}, (∀ z ∈ L, checkI z.s = 0) → (printL L).length ≤ 800 * L.length
  | [], _ => by simp [printL]
  | z :: r, h => by
    have h1 := line_le (h z (by simp))
    have h2 := print_le (L := r) fun m hm => h m (by simp [hm])
    have e : printL (z :: r) = lineL z.s ++ printL r := by unfold printL; simp [List.flatMap_cons]
    rw [e, List.length_append]; simp only [List.length_cons] at h1 ⊢; omega
theorem print_part {L : List SC} (h : ∀ z ∈ L, checkI z.s = 0) (hl : L.length ≤ 200) (n : Nat) : (printL (L.take n)).length ≤ 160000 := by
  have h1 := print_le (L := L.take n) fun z hz => h z (List.mem_of_mem_take hz)
  have h2 : (L.take n).length ≤ L.length := by rw [List.length_take]; omega
  omega
/-- each stone of a heap is good -/
theorem heap_checks {L : List SC} (h : heapI L = 0) : (∀ z ∈ L, checkI z.s = 0) ∧ L.length ≤ 200 := by
  unfold heapI at h
  have h2 : ¬ (List.range L.length).any (badAt L) = true := fun e => by rw [if_pos e] at h; cases h
  have h3 : ∀ j, j < L.length → badAt L j = false := fun j hj => by
    rw [Bool.eq_false_iff]
    exact fun e => h2 (List.any_eq_true.2 ⟨j, List.mem_range.2 hj, e⟩)
  refine ⟨fun z hz => ?_, ?_⟩
  · obtain ⟨j, hj, rfl⟩ := List.getElem_of_mem hz
    have hb := h3 j hj
    unfold badAt at hb
    rw [Bool.or_eq_false_iff, Bool.or_eq_false_iff, Bool.not_eq_false', decide_eq_true_eq] at hb
    rw [show L.getD j default = L[j] from by simp [hj]] at hb
    exact hb.1.1
  · rcases Nat.eq_zero_or_pos L.length with h0 | h0
    · omega
    · have hb := h3 0 h0
      unfold badAt at hb
      rw [Bool.or_eq_false_iff, decide_eq_false_iff_not] at hb
      omega
end Go.Stn

namespace Go.Proofs.YtmpaebfjnjmmlaaGreatDoor
open Go.K Go.Stn Go.RowKit
theorem tf66 : TF Tryz.prog 66 true 2 (.agg #[.pointer none, .slice none 0 0]) := ⟨by kernel_rfl, by kernel_rfl⟩
theorem af71 : AF Tryz.prog 71 3 1 8 [.int IntKind.i64 0] := ⟨Tryz.underlying71, by kernel_rfl, rfl⟩
theorem en26 : En Tryz.prog 26 := en_of Tryz.func26 (by kernel_rfl) (by kernel_rfl)
theorem en27 : En Tryz.prog 27 := en_of Tryz.func27 (by kernel_rfl) (by kernel_rfl)
theorem en28 : En Tryz.prog 28 := en_of Tryz.func28 (by kernel_rfl) (by kernel_rfl)
theorem bs71_4 (x0_0 : Int) (x1_0 : Int) (x2_0 : Int) (x3_0 : Int) (w : World) : (Instr.buildSlice 71 4 #[(0, .int .i64 x0_0), (1, .int .i64 x1_0), (2, .int .i64 x2_0), (3, .int .i64 x3_0)]).run Tryz.prog w = .ok (.slice (some ⟨w.heap.size, 0, none⟩) 4 4) (w.alloc (.cells (([x0_0, x1_0, x2_0, x3_0] : List (Int)).flatMap Go.Stn.encI).toArray 3)) := by kernel_rfl
theorem getD_memI {l : List Int} {i : Nat} (h : i < l.length) : l.getD i default ∈ l := by simp [h]
set_option maxRecDepth 100000 in
set_option maxHeartbeats 1000000 in
theorem print_c (a : Option Addr) (cap : Nat) (L : List SC) (w : World) (hl : Has w (Elems a 6 encSC L)) (hsh : ∀ z ∈ L, Has w (Pts z.a z.s.shape)) (hs : Small L.length) (hss : ∀ z ∈ L, Small z.s.shape.length) (hp10 : Has w (VarR 2 pow10V)) :
    Calls Tryz.prog 8 #[.slice a L.length cap] w (Pure (.tuple #[.string (if heapI L = 0 then bs (printL L) else ⟨#[]⟩), .int .i64 (heapI L)]) w) := by
  refine calls_of_gk (vs := [_]) Tryz.func8 rfl rfl (Nat.le_of_ble_eq_true rfl) ?_
  refine gk_seq ?_
  refine gk_region ?_
  refine gk_y rfl rfl (y_assign rfl) ?_
  refine gk_y rfl rfl (y_assign rfl) ?_
  refine gk_nil (gk_sub (T' := [(0,_), (2,_), (3,_)]) ⟨rfl, rfl, rfl, trivial⟩ ?_)
  refine gk_seq ?_
  refine gk_seq ?_
  refine gk_region ?_
  refine gk_y rfl rfl (y_move rfl) ?_
  refine gk_y rfl rfl (y_call en12 rfl (fun w hw => checkheap_c _ _ L w (Rd.has (Has.rd hl) hw) (fun z hz => Rd.has (Has.rd (hsh z hz)) hw) (by assumption) (by assumption))) ?_
  refine gk_y rfl rfl (y_assign rfl) ?_
  refine gk_nil (gk_sub (T' := [(0,_), (2,_), (3,_), (4,_)]) ⟨rfl, rfl, rfl, rfl, trivial⟩ ?_)
  refine gk_seq ?_
  refine gk_region ?_
  refine gk_y rfl rfl (y_move rfl) ?_
  refine gk_y rfl rfl (y_neq rfl rfl) ?_
  refine gk_nil (gk_sub (T' := [(0,_), (2,_), (3,_), (4,_), (16,_)]) ⟨rfl, rfl, rfl, rfl, rfl, trivial⟩ ?_)
  refine gk_cond rfl (fun hc16 => ?_) (fun hc16 => ?_)
  · have hE : ¬ heapI L = 0 := by simpa using hc16
    refine gk_seq ?_
    refine gk_region ?_
    refine gk_y rfl rfl (y_move rfl) ?_
    refine gk_y rfl rfl (y_assign rfl) ?_
    refine gk_y rfl rfl (y_assign rfl) ?_
    refine gk_nil (gk_sub (T' := [(0,_), (2,_), (3,_)]) ⟨rfl, rfl, rfl, trivial⟩ ?_)
    refine gk_ret ?_
    refine gk_pure (rv_two rfl (r1_tmp rfl) (r1_tmp rfl)) ?_
    rw [if_neg hE]
  · have hE : heapI L = 0 := by simpa using hc16
    have hgood := heap_checks hE
    refine gk_skip ?_
    refine gk_seq ?_
    refine gk_region ?_
    refine gk_yx rfl rfl (yx_alloc tf66 (zs := [_, _]) rfl) fun b5 => ?_
    refine gk_nil (gk_sub (T' := [(0,_), (2,_), (3,_), (5,_)]) ⟨rfl, rfl, rfl, rfl, trivial⟩ ?_)
    refine gk_conv (R' := Bld b5 66 5 (printL (L.take (0 : Int).toNat))) 0 rfl (fun B w hA => bld_new hA) ?_
    refine gk_seq ?_
    refine gk_seq ?_
    refine gk_region ?_
    refine gk_y rfl rfl (y_move rfl) ?_
    refine gk_y rfl rfl (y_lenS (Tryz.underlying29) rfl) ?_
    refine gk_y rfl rfl (y_move rfl) ?_
    refine gk_nil (gk_sub (T' := [(2,_), (3,_), (5,_), (18,_), (19,_), (20,_)]) ⟨rfl, rfl, rfl, rfl, rfl, rfl, trivial⟩ ?_)
    refine gk_block ?_
    refine gk_loop (X := Int) (fun (i : Int) => [(2, .string ⟨#[]⟩), (3, .int .i64 0), (5, .pointer (some ⟨b5, 0, none⟩)), (18, .slice a L.length cap), (19, .int .i64 (L.length : Int)), (20, .int .i64 i)]) (fun (i : Int) => [Bld b5 66 5 (printL (L.take i.toNat))]) (fun (i : Int) => (0 ≤ i ∧ i ≤ L.length)) (fun (i : Int) => (L.length - i).toNat) 0 ⟨rfl, rfl, rfl, rfl, rfl, rfl, trivial⟩ rfl ?_ ?_
    · exact ⟨by omega, by omega⟩
    · rintro i hI
      obtain ⟨g0, g1⟩ := hI
      have hP := print_part hgood.1 hgood.2 i.toNat
      refine gk_seq ?_
      refine gk_region ?_
      refine gk_y rfl rfl (y_lss rfl rfl) ?_
      refine gk_nil (gk_sub (T' := [(2,_), (3,_), (5,_), (18,_), (19,_), (20,_), (21,_)]) ⟨rfl, rfl, rfl, rfl, rfl, rfl, rfl, trivial⟩ ?_)
      refine gk_seq ?_
      refine gk_cond rfl (fun hc21 => ?_) (fun hc21 => ?_)
      · have hc21 := of_decide_eq_true hc21
        have hck := hgood.1 _ (getD_memS (l := L) (i := i.toNat) (by omega))
        have hnm := check_named hck
        have hnsz : ((L.getD (i).toNat default).s.name.data.size) = (L.getD (i).toNat default).s.name.size := rfl
        have hln := check_len hck
        refine gk_skip ?_
        refine gk_seq ?_
        refine gk_block ?_
        refine gk_seq ?_
        refine gk_region ?_
        refine gk_y rfl rfl (y_indexE se29 rfl rfl (fun _ hw => (Rd.has (Has.rd hl) hw)) (by omega) (by omega)) ?_
        refine gk_y rfl rfl (y_loadE (vs := [_, _, _, _, _, _]) tf52 rfl (fun _ hw => (Rd.has (Has.rd hl) hw)) (by omega) (by omega) rfl) ?_
        refine gk_yx rfl rfl (yx_alloc tf52 (zs := [_, _, _, _, _, _]) rfl) fun b7 => ?_
        refine gk_storeV 0 tf52 rfl rfl (vs := [_, _, _, _, _, _]) rfl rfl rfl rfl rfl ?_
        refine gk_nil (gk_sub (T' := [(2,_), (3,_), (5,_), (7,_), (18,_), (19,_), (20,_)]) ⟨rfl, rfl, rfl, rfl, rfl, rfl, rfl, trivial⟩ ?_)
        refine gk_seq ?_
        refine gk_region ?_
        refine gk_y rfl rfl (y_fieldAddr fo52_0 rfl) ?_
        refine gk_y rfl rfl (y_loadB1 0 tf9 rfl rfl rfl) ?_
        refine gk_callU 1 en26 rfl rfl rfl (fun w B hF => writeString_c _ _ _ w B (fun k hk => (hF.own k hk).2) hF.A (by omega)) fun u26 hq26 => ?_
        refine gk_nil (gk_sub (T' := [(2,_), (3,_), (5,_), (7,_), (18,_), (19,_), (20,_)]) ⟨rfl, rfl, rfl, rfl, rfl, rfl, rfl, trivial⟩ ?_)
        refine gk_seq ?_
        refine gk_region ?_
        refine gk_y rfl rfl (y_fieldAddr fo52_2 rfl) ?_
        refine gk_y rfl rfl (y_loadB1 0 tf3 rfl rfl rfl) ?_
        refine gk_y rfl rfl (y_fieldAddr fo52_3 rfl) ?_
        refine gk_y rfl rfl (y_loadB1 0 tf3 rfl rfl rfl) ?_
        refine gk_y rfl rfl (y_fieldAddr fo52_4 rfl) ?_
        refine gk_y rfl rfl (y_fieldAddr fo50_0 rfl) ?_
        refine gk_y rfl rfl (y_loadB1 0 tf3 rfl rfl rfl) ?_
        refine gk_y rfl rfl (y_fieldAddr fo52_4 rfl) ?_
        refine gk_y rfl rfl (y_fieldAddr fo50_1 rfl) ?_
        refine gk_y rfl rfl (y_loadB1 0 tf3 rfl rfl rfl) ?_
        refine gk_yx rfl rfl (yx_buildSlice rfl (bs71_4 _ _ _ _) Go.Stn.encI_ok rfl) fun b37 => ?_
        refine gk_y rfl rfl (y_assign rfl) ?_
        refine gk_nil (gk_sub (T' := [(2,_), (3,_), (5,_), (7,_), (8,_), (18,_), (19,_), (20,_)]) ⟨rfl, rfl, rfl, rfl, rfl, rfl, rfl, rfl, trivial⟩ ?_)
        refine gk_seq ?_
        refine gk_seq ?_
        refine gk_region ?_
        refine gk_y rfl rfl (y_fieldAddr fo52_1 rfl) ?_
        refine gk_y rfl rfl (y_loadB1 1 tf49 rfl rfl rfl) ?_
        refine gk_y rfl rfl (y_lenS (Tryz.underlying49) rfl) ?_
        refine gk_y rfl rfl (y_move rfl) ?_
        refine gk_nil (gk_sub (T' := [(2,_), (3,_), (5,_), (8,_), (18,_), (19,_), (20,_), (39,_), (40,_), (41,_)]) ⟨rfl, rfl, rfl, rfl, rfl, rfl, rfl, rfl, rfl, rfl, trivial⟩ ?_)
        refine gk_block ?_
        refine gk_loop (X := Int × Option Addr × Nat) (fun ⟨k, b, bc⟩ => [(2, .string ⟨#[]⟩), (3, .int .i64 0), (5, .pointer (some ⟨b5, 0, none⟩)), (8, .slice b (numsN (L.getD (i).toNat default).s k.toNat).length bc), (18, .slice a L.length cap), (19, .int .i64 (L.length : Int)), (20, .int .i64 i), (39, .slice (L.getD (i).toNat default).a (L.getD (i).toNat default).s.shape.length (L.getD (i).toNat default).cap), (40, .int .i64 ((L.getD (i).toNat default).s.shape.length : Int)), (41, .int .i64 k)]) (fun ⟨k, b, bc⟩ => [Row b 1 bc 3 Go.Stn.encI (numsN (L.getD (i).toNat default).s k.toNat), Box b7 [.string (L.getD (i).toNat default).s.name, .slice (L.getD (i).toNat default).a (L.getD (i).toNat default).s.shape.length (L.getD (i).toNat default).cap, .int .i64 ((L.getD (i).toNat default).s.depth), .int .i64 ((L.getD (i).toNat default).s.density), .int .i64 ((L.getD (i).toNat default).s.grain.x), .int .i64 ((L.getD (i).toNat default).s.grain.z)] 52, Bld b5 66 5 ((printL (L.take i.toNat)) ++ ((L.getD (i).toNat default).s.name).data.toList)]) (fun ⟨k, b, bc⟩ => (0 ≤ k ∧ k ≤ (L.getD (i).toNat default).s.shape.length)) (fun ⟨k, b, bc⟩ => ((L.getD (i).toNat default).s.shape.length - k).toNat) (0, some ⟨b37, 0, none⟩, 4) ⟨rfl, rfl, rfl, rfl, rfl, rfl, rfl, rfl, rfl, rfl, trivial⟩ rfl ?_ ?_
        · exact ⟨by omega, by omega⟩
        · rintro ⟨k, b, bc⟩ hI
          obtain ⟨k0, k1⟩ := hI
          have hnl := numsN_len (L.getD (i).toNat default).s k.toNat
          refine gk_seq ?_
          refine gk_region ?_
          refine gk_y rfl rfl (y_lss rfl rfl) ?_
          refine gk_nil (gk_sub (T' := [(2,_), (3,_), (5,_), (8,_), (18,_), (19,_), (20,_), (39,_), (40,_), (41,_), (42,_)]) ⟨rfl, rfl, rfl, rfl, rfl, rfl, rfl, rfl, rfl, rfl, rfl, trivial⟩ ?_)
          refine gk_seq ?_
          refine gk_cond rfl (fun hc42 => ?_) (fun hc42 => ?_)
          · have hc42 := of_decide_eq_true hc42
            refine gk_skip ?_
            refine gk_seq ?_
            refine gk_block ?_
            refine gk_seq ?_
            refine gk_region ?_
            refine gk_y rfl rfl (y_indexE se49 rfl rfl (fun _ hw => (Rd.has (Has.rd (hsh _ (getD_memS (by omega)))) hw)) (by omega) (by omega)) ?_
            refine gk_y rfl rfl (y_loadE (vs := [_, _]) tf50 rfl (fun _ hw => (Rd.has (Has.rd (hsh _ (getD_memS (by omega)))) hw)) (by omega) (by omega) rfl) ?_
            refine gk_yx rfl rfl (yx_alloc tf50 (zs := [_, _]) rfl) fun b10 => ?_
            refine gk_storeV 0 tf50 rfl rfl (vs := [_, _]) rfl rfl rfl rfl rfl ?_
            refine gk_nil (gk_sub (T' := [(2,_), (3,_), (5,_), (8,_), (10,_), (18,_), (19,_), (20,_), (39,_), (40,_), (41,_)]) ⟨rfl, rfl, rfl, rfl, rfl, rfl, rfl, rfl, rfl, rfl, rfl, trivial⟩ ?_)
            refine gk_region ?_
            refine gk_y rfl rfl (y_move rfl) ?_
            refine gk_y rfl rfl (y_fieldAddr fo50_0 rfl) ?_
            refine gk_y rfl rfl (y_loadB1 0 tf3 rfl rfl rfl) ?_
            refine gk_y rfl rfl (y_fieldAddr fo50_1 rfl) ?_
            refine gk_y rfl rfl (y_loadB1 0 tf3 rfl rfl rfl) ?_
            refine gk_yx rfl rfl (yx_buildSlice rfl (bs71_2 _ _) Go.Stn.encI_ok rfl) fun b50 => ?_
            refine gk_append (m := [(((L.getD (i).toNat default).s.shape.getD (k).toNat default).x), (((L.getD (i).toNat default).s.shape.getD (k).toNat default).z)]) 2 af71 Go.Stn.encI_ok rfl rfl rfl rfl (fun _ hw => (has_row Go.Stn.encI_ok (hw.has (p := 0) rfl))) (by first | omega | (simp only [List.length_cons, List.length_nil]; omega)) (by first | (unfold maxLen; omega) | (simp only [List.length_cons, List.length_nil, maxLen]; omega)) fun a51 c51 => ?_
            refine gk_y rfl rfl (y_assign rfl) ?_
            refine gk_nil (gk_sub (T' := [(2,_), (3,_), (5,_), (8,_), (18,_), (19,_), (20,_), (39,_), (40,_), (41,_)]) ⟨rfl, rfl, rfl, rfl, rfl, rfl, rfl, rfl, rfl, rfl, trivial⟩ ?_)
            refine gk_conv (R' := Row a51 1 c51 3 Go.Stn.encI (numsN (L.getD (i).toNat default).s (k + 1).toNat)) 2 rfl (fun B w hA => by rw [numsN_succ k0 hc42]; exact hA) ?_
            refine gk_sub (T' := [(2,_), (3,_), (5,_), (8, .slice a51 (numsN (L.getD (i).toNat default).s (k + 1).toNat).length c51), (18,_), (19,_), (20,_), (39,_), (40,_), (41,_)]) ⟨rfl, rfl, rfl, (by rw [numsN_succ k0 hc42]; rfl), rfl, rfl, rfl, rfl, rfl, rfl, trivial⟩ ?_
            refine gk_region ?_
            refine gk_y rfl rfl (y_addI rfl rfl (by omega) (by omega)) ?_
            refine gk_y rfl rfl (y_move rfl) ?_
            refine gk_nil (gk_sub (T' := [(2,_), (3,_), (5,_), (8,_), (18,_), (19,_), (20,_), (39,_), (40,_), (41,_)]) ⟨rfl, rfl, rfl, rfl, rfl, rfl, rfl, rfl, rfl, rfl, trivial⟩ ?_)
            refine gk_dropAt 0 rfl ?_
            refine gk_dropAt 0 rfl ?_
            exact gk_next (k + 1, a51, c51) ⟨rfl, rfl, rfl, rfl, rfl, rfl, rfl, rfl, rfl, rfl, trivial⟩ rfl ⟨by omega, by omega⟩ (by simp only []; omega)
          · have hc42 := of_decide_eq_false hc42
            have hka : numsN (L.getD (i).toNat default).s k.toNat = numsL (L.getD (i).toNat default).s := numsN_all k0 hc42
            refine gk_conv (R' := Row b 1 bc 3 Go.Stn.encI (numsL (L.getD (i).toNat default).s)) 0 rfl (fun B w hA => by rw [← hka]; exact hA) ?_
            refine gk_sub (T' := [(2,_), (3,_), (5,_), (8, .slice b (numsL (L.getD (i).toNat default).s).length bc), (18,_), (19,_), (20,_), (39,_), (40,_), (41,_), (42,_)]) ⟨rfl, rfl, rfl, (by rw [← hka]; rfl), rfl, rfl, rfl, rfl, rfl, rfl, rfl, trivial⟩ ?_
            refine gk_exit rfl ?_
            refine gk_seq ?_
            refine gk_seq ?_
            refine gk_region ?_
            refine gk_y rfl rfl (y_move rfl) ?_
            refine gk_y rfl rfl (y_lenS (Tryz.underlying71) rfl) ?_
            refine gk_y rfl rfl (y_move rfl) ?_
            refine gk_nil (gk_sub (T' := [(2,_), (3,_), (5,_), (18,_), (19,_), (20,_), (53,_), (54,_), (55,_)]) ⟨rfl, rfl, rfl, rfl, rfl, rfl, rfl, rfl, rfl, trivial⟩ ?_)
            refine gk_conv (R' := Bld b5 66 5 ((printL (L.take i.toNat)) ++ (L.getD (i).toNat default).s.name.data.toList ++ wordsL ((numsL (L.getD (i).toNat default).s).take (0 : Int).toNat))) 2 rfl (fun B w hA => by rw [show ((printL (L.take i.toNat)) ++ (L.getD (i).toNat default).s.name.data.toList ++ wordsL ((numsL (L.getD (i).toNat default).s).take (0 : Int).toNat)) = ((printL (L.take i.toNat)) ++ ((L.getD (i).toNat default).s.name).data.toList) from by exact List.append_nil _]; exact hA) ?_
            refine gk_block ?_
            refine gk_loop (X := Int) (fun (j : Int) => [(2, .string ⟨#[]⟩), (3, .int .i64 0), (5, .pointer (some ⟨b5, 0, none⟩)), (18, .slice a L.length cap), (19, .int .i64 (L.length : Int)), (20, .int .i64 i), (53, .slice b (numsL (L.getD (i).toNat default).s).length bc), (54, .int .i64 ((numsL (L.getD (i).toNat default).s).length : Int)), (55, .int .i64 j)]) (fun (j : Int) => [Row b 1 bc 3 Go.Stn.encI (numsL (L.getD (i).toNat default).s), Box b7 [.string (L.getD (i).toNat default).s.name, .slice (L.getD (i).toNat default).a (L.getD (i).toNat default).s.shape.length (L.getD (i).toNat default).cap, .int .i64 ((L.getD (i).toNat default).s.depth), .int .i64 ((L.getD (i).toNat default).s.density), .int .i64 ((L.getD (i).toNat default).s.grain.x), .int .i64 ((L.getD (i).toNat default).s.grain.z)] 52, Bld b5 66 5 ((printL (L.take i.toNat)) ++ (L.getD (i).toNat default).s.name.data.toList ++ wordsL ((numsL (L.getD (i).toNat default).s).take j.toNat))]) (fun (j : Int) => (0 ≤ j ∧ j ≤ (numsL (L.getD (i).toNat default).s).length)) (fun (j : Int) => ((numsL (L.getD (i).toNat default).s).length - j).toNat) 0 ⟨rfl, rfl, rfl, rfl, rfl, rfl, rfl, rfl, rfl, trivial⟩ rfl ?_ ?_
            · exact ⟨by omega, by omega⟩
            · rintro j hI
              obtain ⟨j0, j1⟩ := hI
              have hwp := words_part hck j.toNat
              have hnlen := numsL_len (L.getD (i).toNat default).s
              refine gk_seq ?_
              refine gk_region ?_
              refine gk_y rfl rfl (y_lss rfl rfl) ?_
              refine gk_nil (gk_sub (T' := [(2,_), (3,_), (5,_), (18,_), (19,_), (20,_), (53,_), (54,_), (55,_), (56,_)]) ⟨rfl, rfl, rfl, rfl, rfl, rfl, rfl, rfl, rfl, rfl, trivial⟩ ?_)
              refine gk_seq ?_
              refine gk_cond rfl (fun hc56 => ?_) (fun hc56 => ?_)
              · have hc56 := of_decide_eq_true hc56
                have hnr := check_nums hck _ (getD_memI (l := (numsL (L.getD (i).toNat default).s)) (i := j.toNat) (by omega))
                have hil := itoaB_le (n := (numsL (L.getD (i).toNat default).s).getD j.toNat default) (by omega) (by omega)
                refine gk_skip ?_
                refine gk_seq ?_
                refine gk_block ?_
                refine gk_seq ?_
                refine gk_region ?_
                refine gk_y rfl rfl (y_indexE se71 rfl rfl (fun _ hw => (has_row Go.Stn.encI_ok (hw.has (p := 0) rfl))) (by omega) (by omega)) ?_
                refine gk_y rfl rfl (y_loadE1 tf3 rfl (fun _ hw => (has_row Go.Stn.encI_ok (hw.has (p := 0) rfl))) (by omega) (by omega) rfl) ?_
                refine gk_y rfl rfl (y_assign rfl) ?_
                refine gk_nil (gk_sub (T' := [(2,_), (3,_), (5,_), (12,_), (18,_), (19,_), (20,_), (53,_), (54,_), (55,_)]) ⟨rfl, rfl, rfl, rfl, rfl, rfl, rfl, rfl, rfl, rfl, trivial⟩ ?_)
                refine gk_region ?_
                refine gk_y rfl rfl (y_move rfl) ?_
                refine gk_y rfl rfl (y_call en27 rfl (fun w hw => itoa_c ((numsL (L.getD (i).toNat default).s).getD (j).toNat default) w (Rd.has (Has.rd hp10) hw) (by omega) (by omega))) ?_
                refine gk_y rfl rfl (y_strAdd rfl rfl (by have e32 : (⟨#[32]⟩ : ByteArray).size = 1 := rfl; omega)) ?_
                refine gk_callU 2 en26 rfl rfl rfl (fun w B hF => writeString_c _ _ _ w B (fun k hk => (hF.own k hk).2) hF.A (by have e32 : (⟨#[32]⟩ : ByteArray).size = 1 := rfl; simp only [List.length_append, Array.length_toList, hnsz, ByteArray.size_append, e32]; omega)) fun u62 hq62 => ?_
                refine gk_nil (gk_sub (T' := [(2,_), (3,_), (5,_), (18,_), (19,_), (20,_), (53,_), (54,_), (55,_)]) ⟨rfl, rfl, rfl, rfl, rfl, rfl, rfl, rfl, rfl, trivial⟩ ?_)
                refine gk_conv (R' := Bld b5 66 5 ((printL (L.take i.toNat)) ++ (L.getD (i).toNat default).s.name.data.toList ++ wordsL ((numsL (L.getD (i).toNat default).s).take (j + 1).toNat))) 2 rfl (fun B w hA => by rw [show ((printL (L.take i.toNat)) ++ (L.getD (i).toNat default).s.name.data.toList ++ wordsL ((numsL (L.getD (i).toNat default).s).take (j + 1).toNat)) = (((printL (L.take i.toNat)) ++ (L.getD (i).toNat default).s.name.data.toList ++ wordsL ((numsL (L.getD (i).toNat default).s).take j.toNat)) ++ ((⟨#[32]⟩) ++ (itoaB ((numsL (L.getD (i).toNat default).s).getD (j).toNat default))).data.toList) from by rw [wordsL_succ j0 hc56, data_app, data_itoa, List.append_assoc, List.append_assoc, List.append_assoc]; rfl]; exact hA) ?_
                refine gk_region ?_
                refine gk_y rfl rfl (y_addI rfl rfl (by omega) (by omega)) ?_
                refine gk_y rfl rfl (y_move rfl) ?_
                refine gk_nil (gk_sub (T' := [(2,_), (3,_), (5,_), (18,_), (19,_), (20,_), (53,_), (54,_), (55,_)]) ⟨rfl, rfl, rfl, rfl, rfl, rfl, rfl, rfl, rfl, trivial⟩ ?_)
                exact gk_next (j + 1) ⟨rfl, rfl, rfl, rfl, rfl, rfl, rfl, rfl, rfl, trivial⟩ rfl ⟨by omega, by omega⟩ (by omega)
              · have hc56 := of_decide_eq_false hc56
                have hwp := words_part hck ((numsL (L.getD (i).toNat default).s)).length
                rw [List.take_length] at hwp
                refine gk_conv (R' := Bld b5 66 5 ((printL (L.take i.toNat)) ++ (L.getD (i).toNat default).s.name.data.toList ++ wordsL (numsL (L.getD (i).toNat default).s))) 2 rfl (fun B w hA => by rw [show ((printL (L.take i.toNat)) ++ (L.getD (i).toNat default).s.name.data.toList ++ wordsL (numsL (L.getD (i).toNat default).s)) = ((printL (L.take i.toNat)) ++ (L.getD (i).toNat default).s.name.data.toList ++ wordsL ((numsL (L.getD (i).toNat default).s).take j.toNat)) from by rw [List.take_of_length_le (l := (numsL (L.getD (i).toNat default).s)) (by omega)]]; exact hA) ?_
                refine gk_exit rfl ?_
                refine gk_region ?_
                refine gk_callU 2 en26 rfl rfl rfl (fun w B hF => writeString_c _ _ _ w B (fun k hk => (hF.own k hk).2) hF.A (by have e10 : (⟨#[10]⟩ : ByteArray).size = 1 := rfl; simp only [List.length_append, Array.length_toList, hnsz, e10]; omega)) fun u64 hq64 => ?_
                refine gk_nil (gk_sub (T' := [(2,_), (3,_), (5,_), (18,_), (19,_), (20,_)]) ⟨rfl, rfl, rfl, rfl, rfl, rfl, trivial⟩ ?_)
                refine gk_conv (R' := Bld b5 66 5 (printL (L.take (i + 1).toNat))) 2 rfl (fun B w hA => by rw [show (printL (L.take (i + 1).toNat)) = (((printL (L.take i.toNat)) ++ (L.getD (i).toNat default).s.name.data.toList ++ wordsL (numsL (L.getD (i).toNat default).s)) ++ (⟨#[10]⟩ : ByteArray).data.toList) from by rw [printL_succ g0 hc21, lineL]; simp only [List.append_assoc]]; exact hA) ?_
                refine gk_region ?_
                refine gk_y rfl rfl (y_addI rfl rfl (by omega) (by omega)) ?_
                refine gk_y rfl rfl (y_move rfl) ?_
                refine gk_nil (gk_sub (T' := [(2,_), (3,_), (5,_), (18,_), (19,_), (20,_)]) ⟨rfl, rfl, rfl, rfl, rfl, rfl, trivial⟩ ?_)
                refine gk_dropAt 0 rfl ?_
                refine gk_dropAt 0 rfl ?_
                exact gk_next (i + 1) ⟨rfl, rfl, rfl, rfl, rfl, rfl, trivial⟩ rfl ⟨by omega, by omega⟩ (by omega)
      · have hc21 := of_decide_eq_false hc21
        refine gk_exit rfl ?_
        refine gk_seq ?_
        refine gk_region ?_
        refine gk_callU 0 en28 rfl rfl rfl (fun w B hF => bstring_c _ _ w B (fun k hk => (hF.own k hk).2) hF.A (by omega)) fun u66 hq66 => ?_
        refine gk_y rfl rfl (y_assign rfl) ?_
        refine gk_y rfl rfl (y_assign rfl) ?_
        refine gk_nil (gk_sub (T' := [(2,_), (3,_)]) ⟨rfl, rfl, trivial⟩ ?_)
        refine gk_ret ?_
        refine gk_pure (rv_two rfl (r1_tmp rfl) (r1_tmp rfl)) ?_
        rw [if_pos hE, hE, printL_all g0 hc21]
end Go.Proofs.YtmpaebfjnjmmlaaGreatDoor

namespace Go.Stn
open Go Go.K Go.RowKit Go.Proofs
theorem plain_get {L M : List SC} (h : plainL M = plainL L) (i : Nat) : (M.getD i default).s = (L.getD i default).s := by
  have h1 := congrArg (fun l : List Stn => l[i]?) h
  simp only [plainL, List.getElem?_map] at h1
  rw [List.getD_eq_getElem?_getD, List.getD_eq_getElem?_getD]
  cases hM : M[i]? with
  | none =>
    cases hL : L[i]? with
    | none => rfl
    | some y => rw [hM, hL] at h1; simp at h1
  | some x =>
    cases hL : L[i]? with
    | none => rw [hM, hL] at h1; simp at h1
    | some y => rw [hM, hL] at h1; simpa using h1
theorem plain_length {L M : List SC} (h : plainL M = plainL L) : M.length = L.length := by simpa using congrArg List.length h
theorem plain_take {L M : List SC} (h : plainL M = plainL L) (n : Nat) : plainL (M.take n) = plainL (L.take n) := by
  unfold plainL at *
  rw [List.map_take, List.map_take, h]
theorem names_plain {L M : List SC} (h : plainL M = plainL L) : namesL M = namesL L := by
  have : ∀ N : List SC, namesL N = (plainL N).map (·.name) := fun N => by simp [namesL, plainL]
  rw [this, this, h]
theorem heapI_plain {L M : List SC} (h : plainL M = plainL L) : heapI M = heapI L := by
  unfold heapI
  have e : badAt M = badAt L := by
    funext i
    unfold badAt
    rw [plain_get h, names_plain (plain_take h i), plain_length h]
  rw [e, plain_length h]
theorem printL_plain {L M : List SC} (h : plainL M = plainL L) : printL M = printL L := by
  have : ∀ N : List SC, printL N = (plainL N).flatMap lineL := fun N => by simp [printL, plainL, List.flatMap_map]
  rw [this, this, h]
theorem sameAll_plain {A B : List SC} (h : plainL A = plainL B) : sameAllB A B = true := by
  unfold sameAllB
  rw [decide_eq_true (plain_length h), Bool.true_and, List.all_eq_true]
  intro i _
  rw [plain_get h]
  exact same_refl _
/-- **a heap is the document's** -/
theorem heap_eq (L : List SC) : heapI L = if rheapB L = true then 0 else 2 := by
  have hb : ∀ i, i < L.length → badAt L i = (rbadAt L i || decide (200 < (L.length : Int))) := fun i hi => by
    unfold badAt rbadAt
    have e1 : (!decide (checkI (L.getD i default).s = 0)) = !rvalidB (L.getD i default).s := by
      rw [check_valid]
      cases rvalidB (L.getD i default).s <;> rfl
    have e2 : inSet (namesL (L.take i)) (L.getD i default).s.name = (List.range i).any fun k => (nameAt L i).toList == (nameAt L k).toList := by
      rw [Bool.eq_iff_iff]
      unfold inSet
      rw [List.any_eq_true, List.any_eq_true]
      constructor
      · rintro ⟨x, hx, he⟩
        obtain ⟨z, hz, rfl⟩ := List.mem_map.1 hx
        obtain ⟨k, hk, rfl⟩ := List.mem_take_iff_getElem.1 hz
        refine ⟨k, List.mem_range.2 (by omega), ?_⟩
        unfold nameAt
        rw [bab_eq he, show L.getD k default = L[k] from by simp [show k < L.length from by omega]]
        simp
      · rintro ⟨k, hk, he⟩
        rw [List.mem_range] at hk
        refine ⟨(L.getD k default).s.name, List.mem_map.2 ⟨L.getD k default, List.mem_take_iff_getElem.2 ⟨k, by omega, by simp [show k < L.length from by omega]⟩, rfl⟩, ?_⟩
        unfold nameAt at he
        have he := eq_of_beq he
        rw [Lib.toList_data, Lib.toList_data] at he
        rw [Go.WideShapes.bytes_inj he]
        exact bab_refl _
    rw [e1, e2]
  unfold heapI rheapB
  have e3 : (List.range L.length).any (badAt L) = (List.range L.length).any (fun i => rbadAt L i || decide (200 < (L.length : Int))) := by
    rw [Bool.eq_iff_iff, List.any_eq_true, List.any_eq_true]
    constructor
    · rintro ⟨i, hi, h⟩; exact ⟨i, hi, by rw [← hb i (List.mem_range.1 hi)]; exact h⟩
    · rintro ⟨i, hi, h⟩; exact ⟨i, hi, by rw [hb i (List.mem_range.1 hi)]; exact h⟩
  rw [e3]
  by_cases hl : 200 < (L.length : Int)
  · have : (List.range L.length).any (fun i => rbadAt L i || decide (200 < (L.length : Int))) = true := List.any_eq_true.2 ⟨0, List.mem_range.2 (by omega), by rw [decide_eq_true hl, Bool.or_true]⟩
    rw [this, if_pos rfl, decide_eq_false (by omega), Bool.and_false, if_neg Bool.false_ne_true]
  · have e4 : (fun i => rbadAt L i || decide (200 < (L.length : Int))) = rbadAt L := by funext i; rw [decide_eq_false hl, Bool.or_false]
    rw [e4, decide_eq_true (show (L.length : Int) ≤ 200 by omega), Bool.and_true]
    cases (List.range L.length).any (rbadAt L) <;> rfl
end Go.Stn

namespace Go.Proofs.YtmpaebfjnjmmlaaGreatDoor
open Go.K Go.Stn Go.RowKit
theorem en6 : En Tryz.prog 6 := en_of Tryz.func6 (by kernel_rfl) (by kernel_rfl)
theorem en7 : En Tryz.prog 7 := en_of Tryz.func7 (by kernel_rfl) (by kernel_rfl)
theorem en8 : En Tryz.prog 8 := en_of Tryz.func8 (by kernel_rfl) (by kernel_rfl)
theorem en11 : En Tryz.prog 11 := en_of Tryz.func11 (by kernel_rfl) (by kernel_rfl)
theorem en15 : En Tryz.prog 15 := en_of Tryz.func15 (by kernel_rfl) (by kernel_rfl)
end Go.Proofs.YtmpaebfjnjmmlaaGreatDoor

namespace Go.Stn
open Go Go.K Go.RowKit Go.Proofs Go.Txt
/-- the points that the numbers from the fifth on give -/
def ptsN (n : List Int) (k : Nat) : List Pt := (List.range k).map fun i => ⟨n.getD (4 + 2 * i) default, n.getD (5 + 2 * i) default⟩
theorem ptsN_len (n : List Int) (k : Nat) : (ptsN n k).length = k := by simp [ptsN]
theorem ptsN_succ {n : List Int} {k : Int} (h : 0 ≤ k) : ptsN n (k + 1).toNat = ptsN n k.toNat ++ [⟨n.getD (4 + 2 * k).toNat default, n.getD (4 + 2 * k + 1).toNat default⟩] := by
  unfold ptsN
  rw [show (k + 1).toNat = k.toNat + 1 from by omega, List.range_succ, List.map_append]
  simp only [List.map_cons, List.map_nil]
  rw [show 4 + 2 * k.toNat = (4 + 2 * k).toNat from by omega, show 5 + 2 * k.toNat = (4 + 2 * k + 1).toNat from by omega]
/-- the numbers of words -/
def numI (s : ByteArray) : Int := atoiV s
def numB (s : ByteArray) : Bool := (numL s.data.toList).isSome
theorem numB_eq (s : ByteArray) : numB s = (atoiB s && decide ((s.size : Int) ≤ 6) && ((itoaB (atoiV s)).toList == s.toList)) := by
  unfold numB numL atoiB atoiV
  have hsz : s.data.toList.length = s.size := by rw [Array.length_toList]; rfl
  rw [hsz, Lib.toList_data, Lib.toList_data, data_itoa]
  by_cases h6 : s.size ≤ 6
  · rw [if_pos h6, decide_eq_true (show (s.size : Int) ≤ 6 by omega)]
    cases h : Lib.atoiAll s.data.toList with
    | ok v =>
      simp only [Bool.true_and]
      by_cases he : Lib.itoa v = s.data.toList
      · rw [if_pos he, he]; simp
      · rw [if_neg he]
        simp [he]
    | _ => simp
  · rw [if_neg h6, decide_eq_false (show ¬ (s.size : Int) ≤ 6 by omega)]
    simp
theorem num_some {s : ByteArray} {v : Int} (h : numL s.data.toList = some v) : numI s = v ∧ numB s = true := by
  refine ⟨?_, by unfold numB; rw [h]; rfl⟩
  have h2 := (numL_iff _ _).1 h
  unfold numI atoiV
  rw [h2.2, atoi_itoa (by rw [← h2.2]; exact h2.1)]
def wordBad (ws : List ByteArray) : Bool := (decide ((ws.length : Int) < 11) || decide (((ws.length : Int)).tmod 2 = 0)) || ((ws.getD (0 : Int).toNat default).toList == (⟨#[]⟩ : ByteArray).toList)
/-- a stone of words -/
def readW (ws : List ByteArray) : Stn := ⟨ws.getD 0 default, ptsN ((ws.drop 1).map numI) (((ws.length : Int) - 5) / 2).toNat, ((ws.drop 1).map numI).getD 0 default, ((ws.drop 1).map numI).getD 1 default, ⟨((ws.drop 1).map numI).getD 2 default, ((ws.drop 1).map numI).getD 3 default⟩⟩
def readOk (ws : List ByteArray) : Bool := !wordBad ws && (ws.drop 1).all numB
def readS (ws : List ByteArray) : Stn := if readOk ws = true then readW ws else zeroS
def parseR : List (List UInt8) → Int → List Stn → List Stn × Int × Int
  | [], _, acc => (acc, 0, 0)
  | row :: r, n, acc => if row = [] then parseR r (n + 1) acc else
    if acc.length = 200 then ([], n, 5) else
    if readOk (splitL (mkB row) 32) = false then ([], n, 4) else
    if ¬ checkI (readS (splitL (mkB row) 32)) = 0 then ([], n, 2) else
    if (acc.any fun s => s.name.toList == (readS (splitL (mkB row) 32)).name.toList) = true then ([], n, 7) else parseR r (n + 1) (acc ++ [readS (splitL (mkB row) 32)])
theorem words_eq {a b : List ByteArray} (h : a.map (·.data.toList) = b.map (·.data.toList)) : a = b := by
  induction a generalizing b with
  | nil => cases b with
    | nil => rfl
    | cons y ys => simp at h
  | cons x xs ih => cases b with
    | nil => simp at h
    | cons y ys =>
      simp only [List.map_cons, List.cons.injEq] at h
      rw [Go.WideShapes.bytes_inj h.1, ih h.2]
theorem mkB_data (s : ByteArray) : mkB s.data.toList = s := Go.WideShapes.bytes_inj (by simp)
end Go.Stn

namespace Go.Stn
open Go Go.K Go.RowKit Go.Proofs Go.Txt
theorem byteI_list (s : ByteArray) (i : Int) : byteI s i = ((s.data.toList[i.toNat]?.getD 0).toNat : Int) := by
  unfold byteI
  by_cases h : i.toNat < s.size
  · rw [getElem?_pos s i.toNat h]
    have h2 : i.toNat < s.data.toList.length := by simpa using h
    rw [List.getElem?_eq_getElem h2]; rfl
  · rw [getElem?_neg s i.toNat h, List.getElem?_eq_none (by simpa using Nat.le_of_not_lt h)]
theorem size_data (s : ByteArray) : s.size = s.data.toList.length := by rw [Array.length_toList]; rfl
theorem str_pos {d : ByteArray} (h : ¬ (d.toList == (⟨#[]⟩ : ByteArray).toList) = true) : 0 < (d.size : Int) := by
  rw [Lib.toList_data, Lib.toList_data] at h
  rw [size_data]
  cases e : d.data.toList with
  | nil => rw [e] at h; simp at h
  | cons c r => simp
theorem atoiV_bd (s : ByteArray) : -9223372036854775808 ≤ atoiV s ∧ atoiV s ≤ 9223372036854775807 := by
  unfold atoiV
  cases h : Lib.atoiAll s.data.toList with
  | range => simp only [Lib.atoiSat]; split <;> simp
  | ok v =>
    simp only []
    unfold Lib.atoiAll at h
    cases hl : s.data.toList with
    | nil => rw [hl] at h; simp at h
    | cons c r =>
      rw [hl] at h
      simp only [] at h
      split at h
      · cases h
      · cases h
      · split at h
        · cases h
        · split at h
          · cases h
          · rename_i g1 g2
            simp only [Lib.NumEnd.ok.injEq] at h
            split at h
            · rename_i g3; simp only [g3, true_and] at g2; omega
            · rename_i g3; simp only [g3, not_false_eq_true, true_and] at g1; omega
  | _ => simp
end Go.Stn

namespace Go.Proofs
open Go.Shelf
def Tryz.lays145_ren : Go.Shelf.Ren := ⟨fun | 145 => 41 | 220 => 78 | 219 => 120 | 217 => 139 | 225 => 140 | 224 => 141 | 267 => 142 | 266 => 155 | 314 => 156 | n => n, fun | 9 => 9 | 4 => 4 | 59 => 87 | 3 => 3 | 5 => 5 | 46 => 119 | 146 => 190 | 51 => 152 | n => n, fun | 1 => 1 | n => n⟩
theorem Tryz.lays145 : Go.Proofs.Lays.n145 Tryz.prog Tryz.lays145_ren := {
  mixed := by kernel_rfl
  f145 := Tryz.func41.trans (congrArg some (by kernel_rfl))
  f217 := Tryz.func139.trans (congrArg some (by kernel_rfl))
  f219 := Tryz.func120.trans (congrArg some (by kernel_rfl))
  f220 := Tryz.func78.trans (congrArg some (by kernel_rfl))
  f224 := Tryz.func141.trans (congrArg some (by kernel_rfl))
  f225 := Tryz.func140.trans (congrArg some (by kernel_rfl))
  f266 := Tryz.func155.trans (congrArg some (by kernel_rfl))
  f267 := Tryz.func142.trans (congrArg some (by kernel_rfl))
  f314 := Tryz.func156.trans (congrArg some (by kernel_rfl))
  t3 := Tryz.underlying3
  a3 := Tryz.isAgg3
  z3 := Tryz.sizeOf3
  v3 := Tryz.zeroValue3
  t4 := Tryz.underlying4
  a4 := Tryz.isAgg4
  z4 := Tryz.sizeOf4
  v4 := Tryz.zeroValue4
  t5 := Tryz.underlying5
  a5 := Tryz.isAgg5
  z5 := Tryz.sizeOf5
  v5 := Tryz.zeroValue5
  t9 := Tryz.underlying9
  a9 := Tryz.isAgg9
  z9 := Tryz.sizeOf9
  v9 := Tryz.zeroValue9
  t46 := Tryz.underlying119
  a46 := Tryz.isAgg119
  z46 := Tryz.sizeOf119
  v46 := Tryz.zeroValue119
  t51 := Tryz.underlying152
  a51 := Tryz.isAgg152
  z51 := Tryz.sizeOf152
  v51 := Tryz.zeroValue152
  t59 := Tryz.underlying87
  a59 := Tryz.isAgg87
  z59 := Tryz.sizeOf87
  v59 := Tryz.zeroValue87
  t146 := Tryz.underlying190
  a146 := Tryz.isAgg190
  z146 := Tryz.sizeOf190
  v146 := Tryz.zeroValue190
  g1 := by kernel_rfl }
def Tryz.lays146_ren : Go.Shelf.Ren := ⟨fun | 146 => 79 | 221 => 121 | 268 => 143 | 138 => 144 | 143 => 145 | 195 => 157 | 197 => 158 | 218 => 159 | 219 => 120 | 260 => 167 | 217 => 139 | 225 => 140 | 224 => 141 | 267 => 142 | 266 => 155 | 314 => 156 | n => n, fun | 9 => 9 | 31 => 93 | 3 => 3 | 4 => 4 | 0 => 0 | 105 => 193 | 21 => 21 | 5 => 5 | 46 => 119 | 119 => 209 | 139 => 212 | 138 => 211 | 146 => 190 | 51 => 152 | n => n, fun | 1 => 1 | 3 => 7 | 4 => 8 | n => n⟩
theorem Tryz.lays146 : Go.Proofs.Lays.n146 Tryz.prog Tryz.lays146_ren := {
  mixed := by kernel_rfl
  f138 := Tryz.func144.trans (congrArg some (by kernel_rfl))
  f143 := Tryz.func145.trans (congrArg some (by kernel_rfl))
  f146 := Tryz.func79.trans (congrArg some (by kernel_rfl))
  f195 := Tryz.func157.trans (congrArg some (by kernel_rfl))
  f197 := Tryz.func158.trans (congrArg some (by kernel_rfl))
  f217 := Tryz.func139.trans (congrArg some (by kernel_rfl))
  f218 := Tryz.func159.trans (congrArg some (by kernel_rfl))
  f219 := Tryz.func120.trans (congrArg some (by kernel_rfl))
  f221 := Tryz.func121.trans (congrArg some (by kernel_rfl))
  f224 := Tryz.func141.trans (congrArg some (by kernel_rfl))
  f225 := Tryz.func140.trans (congrArg some (by kernel_rfl))
  f260 := Tryz.func167.trans (congrArg some (by kernel_rfl))
  f266 := Tryz.func155.trans (congrArg some (by kernel_rfl))
  f267 := Tryz.func142.trans (congrArg some (by kernel_rfl))
  f268 := Tryz.func143.trans (congrArg some (by kernel_rfl))
  f314 := Tryz.func156.trans (congrArg some (by kernel_rfl))
  t0 := Tryz.underlying0
  a0 := Tryz.isAgg0
  z0 := Tryz.sizeOf0
  v0 := Tryz.zeroValue0
  t3 := Tryz.underlying3
  a3 := Tryz.isAgg3
  z3 := Tryz.sizeOf3
  v3 := Tryz.zeroValue3
  t4 := Tryz.underlying4
  a4 := Tryz.isAgg4
  z4 := Tryz.sizeOf4
  v4 := Tryz.zeroValue4
  t5 := Tryz.underlying5
  a5 := Tryz.isAgg5
  z5 := Tryz.sizeOf5
  v5 := Tryz.zeroValue5
  t9 := Tryz.underlying9
  a9 := Tryz.isAgg9
  z9 := Tryz.sizeOf9
  v9 := Tryz.zeroValue9
  t21 := Tryz.underlying21
  a21 := Tryz.isAgg21
  z21 := Tryz.sizeOf21
  v21 := Tryz.zeroValue21
  t31 := Tryz.underlying93
  a31 := Tryz.isAgg93
  z31 := Tryz.sizeOf93
  v31 := Tryz.zeroValue93
  t46 := Tryz.underlying119
  a46 := Tryz.isAgg119
  z46 := Tryz.sizeOf119
  v46 := Tryz.zeroValue119
  t51 := Tryz.underlying152
  a51 := Tryz.isAgg152
  z51 := Tryz.sizeOf152
  v51 := Tryz.zeroValue152
  t105 := Tryz.underlying193
  a105 := Tryz.isAgg193
  z105 := Tryz.sizeOf193
  v105 := Tryz.zeroValue193
  t119 := Tryz.underlying209
  a119 := Tryz.isAgg209
  z119 := Tryz.sizeOf209
  t138 := Tryz.underlying211
  a138 := Tryz.isAgg211
  z138 := Tryz.sizeOf211
  v138 := Tryz.zeroValue211
  t139 := Tryz.underlying212
  a139 := Tryz.isAgg212
  z139 := Tryz.sizeOf212
  v139 := Tryz.zeroValue212
  t146 := Tryz.underlying190
  a146 := Tryz.isAgg190
  z146 := Tryz.sizeOf190
  v146 := Tryz.zeroValue190
  g1 := by kernel_rfl
  g3 := by kernel_rfl
  g4 := by kernel_rfl }
def Tryz.laysC172_ren : Go.Shelf.Ren := ⟨fun | 172 => 122 | 244 => 146 | 245 => 147 | 247 => 160 | 279 => 161 | 280 => 162 | 281 => 163 | 282 => 164 | 287 => 168 | 316 => 169 | 171 => 27 | 205 => 170 | 321 => 171 | 322 => 172 | 243 => 64 | 246 => 99 | 283 => 127 | 284 => 128 | 285 => 129 | 286 => 130 | 129 => 109 | 317 => 149 | 318 => 150 | 319 => 151 | 320 => 152 | 337 => 165 | 338 => 166 | n => n, fun | 9 => 9 | 3 => 3 | 75 => 68 | 76 => 69 | 4 => 4 | 5 => 5 | 167 => 195 | 37 => 64 | 0 => 0 | 85 => 196 | 2 => 2 | 168 => 198 | 53 => 154 | 175 => 201 | 46 => 119 | 210 => 205 | 127 => 115 | 145 => 216 | 143 => 214 | 21 => 21 | 171 => 165 | 173 => 167 | 212 => 184 | 51 => 152 | 20 => 20 | 213 => 185 | 232 => 207 | 233 => 208 | 80 => 73 | n => n, fun | 15 => 3 | 16 => 4 | 17 => 2 | 18 => 5 | 19 => 6 | n => n⟩
theorem Tryz.laysC172 : Go.Proofs.LaysC.n172 Tryz.prog Tryz.laysC172_ren := {
  mixed := by kernel_rfl
  f129 := Tryz.func109.trans (congrArg some (by kernel_rfl))
  f171 := Tryz.func27.trans (congrArg some (by kernel_rfl))
  f172 := Tryz.func122.trans (congrArg some (by kernel_rfl))
  f205 := Tryz.func170.trans (congrArg some (by kernel_rfl))
  f243 := Tryz.func64.trans (congrArg some (by kernel_rfl))
  f244 := Tryz.func146.trans (congrArg some (by kernel_rfl))
  f245 := Tryz.func147.trans (congrArg some (by kernel_rfl))
  f246 := Tryz.func99.trans (congrArg some (by kernel_rfl))
  f247 := Tryz.func160.trans (congrArg some (by kernel_rfl))
  f279 := Tryz.func161.trans (congrArg some (by kernel_rfl))
  f280 := Tryz.func162.trans (congrArg some (by kernel_rfl))
  f281 := Tryz.func163.trans (congrArg some (by kernel_rfl))
  f282 := Tryz.func164.trans (congrArg some (by kernel_rfl))
  f283 := Tryz.func127.trans (congrArg some (by kernel_rfl))
  f284 := Tryz.func128.trans (congrArg some (by kernel_rfl))
  f285 := Tryz.func129.trans (congrArg some (by kernel_rfl))
  f286 := Tryz.func130.trans (congrArg some (by kernel_rfl))
  f287 := Tryz.func168.trans (congrArg some (by kernel_rfl))
  f316 := Tryz.func169.trans (congrArg some (by kernel_rfl))
  f317 := Tryz.func149.trans (congrArg some (by kernel_rfl))
  f318 := Tryz.func150.trans (congrArg some (by kernel_rfl))
  f319 := Tryz.func151.trans (congrArg some (by kernel_rfl))
  f320 := Tryz.func152.trans (congrArg some (by kernel_rfl))
  f321 := Tryz.func171.trans (congrArg some (by kernel_rfl))
  f322 := Tryz.func172.trans (congrArg some (by kernel_rfl))
  f337 := Tryz.func165.trans (congrArg some (by kernel_rfl))
  f338 := Tryz.func166.trans (congrArg some (by kernel_rfl))
  t0 := Tryz.underlying0
  a0 := Tryz.isAgg0
  z0 := Tryz.sizeOf0
  v0 := Tryz.zeroValue0
  t2 := Tryz.underlying2
  a2 := Tryz.isAgg2
  z2 := Tryz.sizeOf2
  v2 := Tryz.zeroValue2
  t3 := Tryz.underlying3
  a3 := Tryz.isAgg3
  z3 := Tryz.sizeOf3
  v3 := Tryz.zeroValue3
  t4 := Tryz.underlying4
  a4 := Tryz.isAgg4
  z4 := Tryz.sizeOf4
  v4 := Tryz.zeroValue4
  t5 := Tryz.underlying5
  a5 := Tryz.isAgg5
  z5 := Tryz.sizeOf5
  v5 := Tryz.zeroValue5
  t9 := Tryz.underlying9
  a9 := Tryz.isAgg9
  z9 := Tryz.sizeOf9
  v9 := Tryz.zeroValue9
  t20 := Tryz.underlying20
  a20 := Tryz.isAgg20
  z20 := Tryz.sizeOf20
  v20 := Tryz.zeroValue20
  t21 := Tryz.underlying21
  a21 := Tryz.isAgg21
  z21 := Tryz.sizeOf21
  v21 := Tryz.zeroValue21
  t37 := Tryz.underlying64
  a37 := Tryz.isAgg64
  z37 := Tryz.sizeOf64
  v37 := Tryz.zeroValue64
  t46 := Tryz.underlying119
  a46 := Tryz.isAgg119
  z46 := Tryz.sizeOf119
  v46 := Tryz.zeroValue119
  t51 := Tryz.underlying152
  a51 := Tryz.isAgg152
  z51 := Tryz.sizeOf152
  v51 := Tryz.zeroValue152
  t53 := Tryz.underlying154
  a53 := Tryz.isAgg154
  z53 := Tryz.sizeOf154
  v53 := Tryz.zeroValue154
  t75 := Tryz.underlying68
  a75 := Tryz.isAgg68
  z75 := Tryz.sizeOf68
  v75 := Tryz.zeroValue68
  t76 := Tryz.underlying69
  a76 := Tryz.isAgg69
  z76 := Tryz.sizeOf69
  v76 := Tryz.zeroValue69
  t85 := Tryz.underlying196
  a85 := Tryz.isAgg196
  z85 := Tryz.sizeOf196
  v85 := Tryz.zeroValue196
  t127 := Tryz.underlying115
  a127 := Tryz.isAgg115
  z127 := Tryz.sizeOf115
  v127 := Tryz.zeroValue115
  t143 := Tryz.underlying214
  a143 := Tryz.isAgg214
  z143 := Tryz.sizeOf214
  v143 := Tryz.zeroValue214
  t145 := Tryz.underlying216
  a145 := Tryz.isAgg216
  z145 := Tryz.sizeOf216
  v145 := Tryz.zeroValue216
  t167 := Tryz.underlying195
  a167 := Tryz.isAgg195
  z167 := Tryz.sizeOf195
  v167 := Tryz.zeroValue195
  t168 := Tryz.underlying198
  a168 := Tryz.isAgg198
  z168 := Tryz.sizeOf198
  v168 := Tryz.zeroValue198
  t171 := Tryz.underlying165
  a171 := Tryz.isAgg165
  z171 := Tryz.sizeOf165
  v171 := Tryz.zeroValue165
  t173 := Tryz.underlying167
  a173 := Tryz.isAgg167
  z173 := Tryz.sizeOf167
  v173 := Tryz.zeroValue167
  t175 := Tryz.underlying201
  a175 := Tryz.isAgg201
  z175 := Tryz.sizeOf201
  v175 := Tryz.zeroValue201
  t210 := Tryz.underlying205
  a210 := Tryz.isAgg205
  z210 := Tryz.sizeOf205
  v210 := Tryz.zeroValue205
  t212 := Tryz.underlying184
  a212 := Tryz.isAgg184
  z212 := Tryz.sizeOf184
  v212 := Tryz.zeroValue184
  t213 := Tryz.underlying185
  a213 := Tryz.isAgg185
  z213 := Tryz.sizeOf185
  t232 := Tryz.underlying207
  a232 := Tryz.isAgg207
  z232 := Tryz.sizeOf207
  v232 := Tryz.zeroValue207
  t233 := Tryz.underlying208
  a233 := Tryz.isAgg208
  z233 := Tryz.sizeOf208
  v233 := Tryz.zeroValue208
  g15 := by kernel_rfl
  g16 := by kernel_rfl
  g17 := by kernel_rfl
  g18 := by kernel_rfl
  g19 := by kernel_rfl
  t80 := Tryz.underlying73
  a80 := Tryz.isAgg73
  z80 := Tryz.sizeOf73
  v80 := Tryz.zeroValue73
  i0 := by kernel_rfl
  i2 := by kernel_rfl
  i3 := by kernel_rfl
  i4 := by kernel_rfl
  i5 := by kernel_rfl
  i9 := by kernel_rfl
  i20 := by kernel_rfl
  i21 := by kernel_rfl
  i37 := by kernel_rfl
  i46 := by kernel_rfl
  i51 := by kernel_rfl
  i53 := by kernel_rfl
  i75 := by kernel_rfl
  i76 := by kernel_rfl
  i80 := by kernel_rfl
  i85 := by kernel_rfl
  i127 := by kernel_rfl
  i143 := by kernel_rfl
  i145 := by kernel_rfl
  i167 := by kernel_rfl
  i168 := by kernel_rfl
  i171 := by kernel_rfl
  i173 := by kernel_rfl
  i175 := by kernel_rfl
  i210 := by kernel_rfl
  i212 := by kernel_rfl
  i232 := by kernel_rfl
  i233 := by kernel_rfl
  m15 := by kernel_rfl
  m16 := by kernel_rfl
  m17 := by kernel_rfl
  m18 := by kernel_rfl
  m19 := by kernel_rfl
  c0 := by kernel_rfl
  c2 := by kernel_rfl
  c3 := by kernel_rfl
  c4 := by kernel_rfl
  c5 := by kernel_rfl
  c9 := by kernel_rfl
  c20 := by kernel_rfl
  c21 := by kernel_rfl
  c37 := by kernel_rfl
  c46 := by kernel_rfl
  c51 := by kernel_rfl
  c53 := by kernel_rfl
  c75 := by kernel_rfl
  c76 := by kernel_rfl
  c80 := by kernel_rfl
  c85 := by kernel_rfl
  c127 := by kernel_rfl
  c143 := by kernel_rfl
  c145 := by kernel_rfl
  c167 := by kernel_rfl
  c168 := by kernel_rfl
  c171 := by kernel_rfl
  c173 := by kernel_rfl
  c175 := by kernel_rfl
  c210 := by kernel_rfl
  c212 := by kernel_rfl
  c213 := by kernel_rfl
  c232 := by kernel_rfl
  c233 := by kernel_rfl }
end Go.Proofs

namespace Go.Proofs.YtmpaebfjnjmmlaaGreatDoor
open Go.K Go.Stn Go.RowKit
theorem en122 : En Tryz.prog 122 := en_of Tryz.func122 (by kernel_rfl) (by kernel_rfl)
theorem cut_c (s sep : ByteArray) (w : World) (hs : s.size < 4294967281) (hm : Has w (IntV 1)) : Calls Tryz.prog 41 #[.string s, .string sep] w (Pure (cutV s sep) w) := cut_pure Tryz.lays145 s sep w hs hm
theorem split_c (s : ByteArray) (c : UInt8) (w : World) (hs : s.size < 4294967281) (hm : Has w (IntV 1)) : Calls Tryz.prog 79 #[.string s, .string ⟨#[c]⟩] w (Gives (fun b : Nat => .slice (some ⟨b, 0, none⟩) (splitL s c).length (splitL s c).length) (fun b => Row (some ⟨b, 0, none⟩) 1 (splitL s c).length 9 encS (splitL s c)) w) := split_gives Tryz.lays146 (by kernel_rfl) s c w hs hm
theorem atoi_c (s : ByteArray) (w : World) (hs : s.size ≤ 281474976710656) (h3 : Has w (ErrV 3)) (h4 : Has w (ErrV 4)) : Calls Tryz.prog 122 #[.string s] w (Gives (fun v : {v : Value // (v = .nilIface ∨ ∃ u z, v = .iface u z) ∧ isNilI v = atoiB s} => .tuple #[.int .i64 (atoiV s), v.1]) (fun _ => Emp) w) := atoi_gives Tryz.laysC172 s w hs h3 h4
set_option maxRecDepth 100000 in
set_option maxHeartbeats 1000000 in
theorem number_c (s : ByteArray) (w : World) (hsz : s.size ≤ 281474976710656) (he3 : Has w (ErrV 3)) (he4 : Has w (ErrV 4)) (hp10 : Has w (VarR 2 pow10V)) :
    Calls Tryz.prog 80 #[.string s] w (Pure (.tuple #[.int .i64 (numI s), .bool (numB s)]) w) := by
  refine calls_of_gk (vs := [_]) Tryz.func80 rfl rfl (Nat.le_of_ble_eq_true rfl) ?_
  refine gk_seq ?_
  refine gk_region ?_
  refine gk_y rfl rfl (y_assign rfl) ?_
  refine gk_y rfl rfl (y_assign rfl) ?_
  refine gk_nil (gk_sub (T' := [(0,_), (2,_), (3,_)]) ⟨rfl, rfl, rfl, trivial⟩ ?_)
  refine gk_seq ?_
  refine gk_region ?_
  refine gk_y rfl rfl (y_move rfl) ?_
  refine gk_yx rfl rfl (yx_call en122 rfl (fun w hw => atoi_c _ w (by omega) (Rd.has (Has.rd he3) hw) (Rd.has (Has.rd he4) hw))) fun p8 => ?_
  refine gk_y rfl rfl (y_move rfl) ?_
  refine gk_y rfl rfl (y_extract rfl rfl) ?_
  refine gk_y rfl rfl (y_extract rfl rfl) ?_
  refine gk_y rfl rfl (y_assign rfl) ?_
  refine gk_y rfl rfl (y_assign rfl) ?_
  refine gk_nil (gk_sub (T' := [(0,_), (2,_), (3,_), (4,_), (5,_)]) ⟨rfl, rfl, rfl, rfl, rfl, trivial⟩ ?_)
  refine gk_seq ?_
  refine gk_any 16 (fun _ => mixed) (by kernel_rfl) ?_
  refine ph_y (y_move rfl) ?_
  refine ph_y (y_move rfl) ?_
  refine ph_y (y_ifaceNil (by kernel_rfl) rfl p8.2.1) ?_
  refine ph_y (y_move rfl) ?_
  refine ph_gT rfl rfl (fun hgd => by (try rw [hgd]); exact (y_move rfl)) ?_
  refine ph_gT rfl rfl (fun hgd => by (try rw [hgd]); exact (y_lenStr (Tryz.underlying9) rfl)) ?_
  refine ph_gT rfl rfl (fun hgd => by (try rw [hgd]); exact (y_leq rfl rfl)) ?_
  refine ph_y (y_pickAnd rfl rfl rfl) ?_
  refine ph_y (y_move rfl) ?_
  refine ph_gT rfl rfl (fun hgd => by (try rw [hgd]); exact (y_move rfl)) ?_
  refine ph_gT rfl rfl (fun hgd => by (try rw [hgd]); exact (y_call (v := .string (itoaB (atoiV s))) en27 rfl (fun w hw => itoa_c (atoiV s) w (Rd.has (Has.rd hp10) hw) (atoiV_bd s).1 (atoiV_bd s).2))) ?_
  refine ph_gT rfl rfl (fun hgd => by (try rw [hgd]); exact (y_move rfl)) ?_
  refine ph_gT rfl rfl (fun hgd => by (try rw [hgd]); exact (y_strEq rfl rfl)) ?_
  refine ph_y (y_pickAnd rfl rfl rfl) ?_
  refine ph_y (y_assign rfl) ?_
  refine ph_y (y_assign rfl) ?_
  refine gk_nil (gk_sub (T' := [(2,_), (3,_)]) ⟨rfl, rfl, trivial⟩ ?_)
  refine gk_ret ?_
  refine gk_pure (rv_two rfl (r1_tmp rfl) (r1_tmp rfl)) ?_
  rw [numB_eq, p8.2.2]; rfl
end Go.Proofs.YtmpaebfjnjmmlaaGreatDoor

namespace Go.Stn
open Go Go.K Go.RowKit Go.Proofs Go.Txt
theorem cutL_len {c : UInt8} : ∀ {l : List UInt8} {p : List UInt8}, p ∈ cutL c l → p.length ≤ l.length
  | [], p, h => by simp [cutL] at h; subst h; simp
  | x :: r, p, h => by
    rw [cutL] at h
    split at h
    · rcases List.mem_cons.1 h with rfl | h
      · simp
      · have := cutL_len h; simp; omega
    · split at h
      · simp at h; subst h; simp
      · rename_i q t e
        rcases List.mem_cons.1 h with rfl | h
        · have := cutL_len (c := c) (l := r) (p := q) (by rw [e]; simp); simp; omega
        · have := cutL_len (c := c) (l := r) (p := p) (by rw [e]; simp [h]); simp; omega
theorem cutL_num (c : UInt8) : ∀ l : List UInt8, (cutL c l).length ≤ l.length + 1
  | [] => by simp [cutL]
  | x :: r => by
    have := cutL_num c r
    rw [cutL]
    split
    · simp; omega
    · split
      · simp
      · rename_i e; rw [e] at this; simp at this ⊢; omega
theorem split_num (s : ByteArray) (c : UInt8) : 1 ≤ (splitL s c).length ∧ (splitL s c).length ≤ s.size + 1 := by
  have h1 := cutL_num c s.data.toList
  have h2 := cutL_pos c s.data.toList
  rw [← splitL_data, List.length_map] at h1 h2
  rw [size_data]
  exact ⟨h2, h1⟩
theorem word_size {s : ByteArray} {c : UInt8} {x : ByteArray} (h : x ∈ splitL s c) : x.size ≤ s.size := by
  have : x.data.toList ∈ cutL c s.data.toList := by rw [← splitL_data]; exact List.mem_map.2 ⟨x, h, rfl⟩
  have := cutL_len this
  rw [size_data, size_data s]; exact this
theorem drop_size {s : ByteArray} {c : UInt8} {j : Nat} (h : j < ((splitL s c).drop 1).length) : (((splitL s c).drop 1).getD j default).size ≤ s.size :=
  word_size (c := c) (List.mem_of_mem_drop (i := 1) (by rw [List.getD_eq_getElem?_getD, List.getElem?_eq_getElem h]; exact List.getElem_mem h))
theorem words_pos {ws : List ByteArray} (h : (!(decide ((ws.length : Int) < 11) || decide (((ws.length : Int)).tmod 2 = 0))) = true) : 0 < ws.length := by
  simp only [Bool.not_or, Bool.and_eq_true, Bool.not_eq_true', decide_eq_false_iff_not] at h
  omega
theorem words_ok {ws : List ByteArray} (h : wordBad ws = false) : 11 ≤ ws.length ∧ ws.length % 2 = 1 := by
  unfold wordBad at h
  simp only [Bool.or_eq_false_iff, decide_eq_false_iff_not] at h
  have h2 := h.1.2
  rw [Int.tmod_eq_emod_of_nonneg (Int.natCast_nonneg _)] at h2
  omega
theorem read_bad {ws : List ByteArray} (h : wordBad ws = true) : readS ws = zeroS ∧ readOk ws = false := by
  have : readOk ws = false := by unfold readOk; rw [h]; rfl
  exact ⟨by unfold readS; rw [this]; rfl, this⟩
theorem read_no {ws : List ByteArray} {j : Nat} (hj : j < (ws.drop 1).length) (h : numB ((ws.drop 1).getD j default) = false) : readS ws = zeroS ∧ readOk ws = false := by
  have : readOk ws = false := by
    unfold readOk
    rw [Bool.and_eq_false_iff]; right
    rw [List.all_eq_false]
    exact ⟨(ws.drop 1).getD j default, by
      rw [List.getD_eq_getElem?_getD, List.getElem?_eq_getElem hj]; exact List.getElem_mem hj, by rw [h]; simp⟩
  exact ⟨by unfold readS; rw [this]; rfl, this⟩
theorem read_yes {ws : List ByteArray} (h : wordBad ws = false) (hn : ∀ j : Nat, (j : Int) < ((ws.drop 1).length : Int) → (!numB ((ws.drop 1).getD j default)) = false) : readS ws = readW ws ∧ readOk ws = true := by
  have : readOk ws = true := by
    unfold readOk
    rw [h, Bool.not_false, Bool.true_and, List.all_eq_true]
    intro x hx
    obtain ⟨k, hk, rfl⟩ := List.getElem_of_mem hx
    have := hn k (by omega)
    rw [List.getD_eq_getElem?_getD, List.getElem?_eq_getElem hk] at this
    simpa using this
  exact ⟨by unfold readS; rw [if_pos this], this⟩
theorem readS_len (ws : List ByteArray) : (readS ws).shape.length ≤ ws.length := by
  unfold readS
  split
  · show (ptsN _ _).length ≤ _
    rw [ptsN_len]; omega
  · simp [zeroS]
theorem ptsN_step {n : List Int} {k : Int} {Q : List Pt} (h4 : 4 ≤ k) (he : k % 2 = 0) (h : Q = ptsN n ((k - 4) / 2).toNat) : Q ++ [(⟨n.getD k.toNat default, n.getD (k + 1).toNat default⟩ : Pt)] = ptsN n ((k + 2 - 4) / 2).toNat := by
  rw [h, show (k + 2 - 4) / 2 = (k - 4) / 2 + 1 from by omega, ptsN_succ (by omega), show 4 + 2 * ((k - 4) / 2) = k from by omega]
theorem nums_step {D : List ByteArray} {N : List Int} {j : Int} (h0 : 0 ≤ j) (h1 : j < (D.length : Int)) (h : N = (D.take j.toNat).map numI) : N ++ [numI (D.getD j.toNat default)] = (D.take (j + 1).toNat).map numI := by
  rw [h, take_succ h0 h1, List.map_append]; rfl
end Go.Stn

namespace Go.Proofs.YtmpaebfjnjmmlaaGreatDoor
open Go.K Go.Stn Go.RowKit
theorem se93 : SE Tryz.prog 93 9 1 := ⟨Tryz.underlying93, by kernel_rfl⟩
theorem en79 : En Tryz.prog 79 := en_of Tryz.func79 (by kernel_rfl) (by kernel_rfl)
theorem en80 : En Tryz.prog 80 := en_of Tryz.func80 (by kernel_rfl) (by kernel_rfl)
theorem bd52_0s_2i_3i_4ii (x0 : ByteArray) (x1 : Int) (x2 : Int) (x3 : Int) (x4 : Int) (w : World) : (Instr.build 52 #[(0, .string x0), (2, .int .i64 x1), (3, .int .i64 x2), (4, .agg #[.int .i64 x3, .int .i64 x4])]).run Tryz.prog w = .ok (.agg #[.string x0, .slice none 0 0, .int .i64 x1, .int .i64 x2, .int .i64 x3, .int .i64 x4]) w := by kernel_rfl
theorem bs71_1 (x0_0 : Int) (w : World) : (Instr.buildSlice 71 1 #[(0, .int .i64 x0_0)]).run Tryz.prog w = .ok (.slice (some ⟨w.heap.size, 0, none⟩) 1 1) (w.alloc (.cells (([x0_0] : List (Int)).flatMap Go.Stn.encI).toArray 3)) := by kernel_rfl
set_option maxRecDepth 100000 in
set_option maxHeartbeats 1000000 in
theorem read_c (s : ByteArray) (w : World) (hsz : s.size ≤ 1000000) (hiv : Has w (IntV 1)) (he3 : Has w (ErrV 3)) (he4 : Has w (ErrV 4)) (hp10 : Has w (VarR 2 pow10V)) :
    Calls Tryz.prog 42 #[.string s] w (Gives (fun z : Option Addr × Nat => .tuple #[stnV (readS (splitL s 32)) z.1 z.2, .bool (readOk (splitL s 32))]) (fun z => Row z.1 2 z.2 50 encPt (readS (splitL s 32)).shape) w) := by
  have hn1 := (split_num s 32).1
  have hn2 := (split_num s 32).2
  refine calls_of_gk (vs := [_]) Tryz.func42 rfl rfl (Nat.le_of_ble_eq_true rfl) ?_
  refine gk_seq ?_
  refine gk_region ?_
  refine gk_yx rfl rfl (yx_alloc tf52 (zs := [_, _, _, _, _, _]) rfl) fun b2 => ?_
  refine gk_y rfl rfl (y_assign rfl) ?_
  refine gk_nil (gk_sub (T' := [(0,_), (2,_), (3,_)]) ⟨rfl, rfl, rfl, trivial⟩ ?_)
  refine gk_seq ?_
  refine gk_region ?_
  refine gk_y rfl rfl (y_move rfl) ?_
  refine gk_yx rfl rfl (yx_call en79 rfl (fun w hw => split_c _ _ w (by omega) (Rd.has (Has.rd hiv) hw))) fun p13 => ?_
  refine gk_y rfl rfl (y_assign rfl) ?_
  refine gk_nil (gk_sub (T' := [(2,_), (3,_), (4,_)]) ⟨rfl, rfl, rfl, trivial⟩ ?_)
  refine gk_seq ?_
  refine gk_seq ?_
  refine gk_any 15 (fun _ => mixed) (by kernel_rfl) ?_
  refine ph_y (y_move rfl) ?_
  refine ph_y (y_lenS (Tryz.underlying93) rfl) ?_
  refine ph_y (y_lss rfl rfl) ?_
  refine ph_y (y_move rfl) ?_
  refine ph_gF rfl rfl (fun hgd => by (try rw [hgd]); (try have hgd2 := words_pos hgd); exact (y_move rfl)) ?_
  refine ph_gF rfl rfl (fun hgd => by (try rw [hgd]); (try have hgd2 := words_pos hgd); exact (y_lenS (Tryz.underlying93) rfl)) ?_
  refine ph_gF rfl rfl (fun hgd => by (try rw [hgd]); (try have hgd2 := words_pos hgd); exact (y_rem rfl rfl (by omega))) ?_
  refine ph_gF rfl rfl (fun hgd => by (try rw [hgd]); (try have hgd2 := words_pos hgd); exact (y_eql rfl rfl)) ?_
  refine ph_y (y_pickOr rfl rfl rfl) ?_
  refine ph_y (y_move rfl) ?_
  refine ph_gF rfl rfl (fun hgd => by (try rw [hgd]); (try have hgd2 := words_pos hgd); exact (y_move rfl)) ?_
  refine ph_gF rfl rfl (fun hgd => by (try rw [hgd]); (try have hgd2 := words_pos hgd); exact (y_indexE se93 rfl rfl (fun _ hw => (has_row encS_ok (hw.has (p := 0) rfl))) (by omega) (by omega))) ?_
  refine ph_gF rfl rfl (fun hgd => by (try rw [hgd]); (try have hgd2 := words_pos hgd); exact (y_loadE1 tf9 rfl (fun _ hw => (has_row encS_ok (hw.has (p := 0) rfl))) (by omega) (by omega) rfl)) ?_
  refine ph_gF rfl rfl (fun hgd => by (try rw [hgd]); (try have hgd2 := words_pos hgd); exact (y_strEq rfl rfl)) ?_
  refine ph_y (y_pickOr rfl rfl rfl) ?_
  refine gk_nil (gk_sub (T' := [(2,_), (3,_), (4,_), (28,_)]) ⟨rfl, rfl, rfl, rfl, trivial⟩ ?_)
  refine gk_cond rfl (fun hc28 => ?_) (fun hc28 => ?_)
  · have hW : wordBad (splitL s 32) = true := hc28
    refine gk_newNil 50 encPt 2 ?_
    refine gk_seq ?_
    refine gk_region ?_
    refine gk_y rfl rfl (y_buildL (parts := []) rfl bd52_) ?_
    refine gk_storeV 2 tf52 rfl rfl (vs := [_, _, _, _, _, _]) rfl rfl rfl rfl rfl ?_
    refine gk_y rfl rfl (y_assign rfl) ?_
    refine gk_nil (gk_sub (T' := [(2,_), (3,_), (4,_)]) ⟨rfl, rfl, rfl, trivial⟩ ?_)
    refine gk_ret ?_
    refine gk_gives (none, 0) 0 (rv_two rfl (r1_cellA (i := 2) (vs := [_, _, _, _, _, _]) tf52 rfl rfl rfl rfl) (r1_tmp rfl)) ?_ (by rw [(read_bad hW).1]; rfl)
    rw [(read_bad hW).1, (read_bad hW).2]; rfl
  · have hW : wordBad (splitL s 32) = false := hc28
    obtain ⟨hW1, hW2⟩ := words_ok hW
    have hDl : ((splitL s 32).drop 1).length = (splitL s 32).length - 1 := List.length_drop
    refine gk_skip ?_
    refine gk_seq ?_
    refine gk_region ?_
    refine gk_y rfl rfl (y_assign rfl) ?_
    refine gk_nil (gk_sub (T' := [(2,_), (3,_), (4,_), (5,_)]) ⟨rfl, rfl, rfl, rfl, trivial⟩ ?_)
    refine gk_seq ?_
    refine gk_seq ?_
    refine gk_region ?_
    refine gk_y rfl rfl (y_move rfl) ?_
    refine gk_y rfl rfl (y_sliceLoL se93 rfl rfl (by omega) (by omega)) ?_
    refine gk_y rfl rfl (y_lenS (Tryz.underlying93) rfl) ?_
    refine gk_y rfl rfl (y_move rfl) ?_
    refine gk_nil (gk_sub (T' := [(2,_), (3,_), (4,_), (5,_), (31,_), (32,_), (33,_)]) ⟨rfl, rfl, rfl, rfl, rfl, rfl, rfl, trivial⟩ ?_)
    refine gk_block ?_
    refine gk_newNil 3 Go.Stn.encI 1 ?_
    refine gk_loop (X := Int × Option Addr × Nat × List Int) (fun ⟨j, b, bc, N⟩ => [(2, .pointer (some ⟨b2, 0, none⟩)), (3, .bool false), (4, .slice (some ⟨p13, 0, none⟩) (splitL s 32).length (splitL s 32).length), (5, .slice b N.length bc), (31, .slice (subA (some ⟨p13, 0, none⟩) 1 1 ((splitL s 32).length)) ((splitL s 32).drop 1).length (((splitL s 32).length) - 1)), (32, .int .i64 (((splitL s 32).drop 1).length : Int)), (33, .int .i64 j)]) (fun ⟨j, b, bc, N⟩ => [Row b 1 bc 3 Go.Stn.encI N, Row (some ⟨p13, 0, none⟩) 1 (splitL s 32).length 9 encS (splitL s 32), Box b2 [.string ⟨#[]⟩, .slice none 0 0, .int .i64 0, .int .i64 0, .int .i64 0, .int .i64 0] 52]) (fun ⟨j, b, bc, N⟩ => (0 ≤ j ∧ j ≤ ((splitL s 32).drop 1).length ∧ N = (((splitL s 32).drop 1).take j.toNat).map numI ∧ ∀ k : Nat, (k : Int) < j → (!numB (((splitL s 32).drop 1).getD k default)) = false)) (fun ⟨j, b, bc, N⟩ => (((splitL s 32).drop 1).length - j).toNat) (0, none, 0, []) ⟨rfl, rfl, rfl, rfl, rfl, rfl, rfl, trivial⟩ rfl ?_ ?_
    · exact ⟨by omega, by omega, rfl, fun k hk => by omega⟩
    · rintro ⟨j, b, bc, N⟩ hI
      obtain ⟨j0, j1, hN, j2⟩ := hI
      have hNlen : (N.length : Int) = j := by rw [hN, List.length_map, List.length_take]; omega
      have hws : j < ((splitL s 32).drop 1).length → (((splitL s 32).drop 1).getD j.toNat default).size ≤ s.size := fun h => drop_size (by omega)
      refine gk_seq ?_
      refine gk_region ?_
      refine gk_y rfl rfl (y_lss rfl rfl) ?_
      refine gk_nil (gk_sub (T' := [(2,_), (3,_), (4,_), (5,_), (31,_), (32,_), (33,_), (34,_)]) ⟨rfl, rfl, rfl, rfl, rfl, rfl, rfl, rfl, trivial⟩ ?_)
      refine gk_seq ?_
      refine gk_cond rfl (fun hc34 => ?_) (fun hc34 => ?_)
      · have hc34 := of_decide_eq_true hc34
        refine gk_skip ?_
        refine gk_seq ?_
        refine gk_block ?_
        refine gk_seq ?_
        refine gk_region ?_
        refine gk_y rfl rfl (y_indexE se93 rfl rfl (fun _ hw => (elems_drop (has_row encS_ok (hw.has (p := 1) rfl)) (Nat.le_refl _) (by omega))) (by omega) (by omega)) ?_
        refine gk_y rfl rfl (y_loadE1 tf9 rfl (fun _ hw => (elems_drop (has_row encS_ok (hw.has (p := 1) rfl)) (Nat.le_refl _) (by omega))) (by omega) (by omega) rfl) ?_
        refine gk_y rfl rfl (y_assign rfl) ?_
        refine gk_nil (gk_sub (T' := [(2,_), (3,_), (4,_), (5,_), (7,_), (31,_), (32,_), (33,_)]) ⟨rfl, rfl, rfl, rfl, rfl, rfl, rfl, rfl, trivial⟩ ?_)
        refine gk_seq ?_
        refine gk_region ?_
        refine gk_y rfl rfl (y_move rfl) ?_
        refine gk_y rfl rfl (y_call en80 rfl (fun w hw => number_c _ w (by omega) (Rd.has (Has.rd he3) hw) (Rd.has (Has.rd he4) hw) (Rd.has (Has.rd hp10) hw))) ?_
        refine gk_y rfl rfl (y_move rfl) ?_
        refine gk_y rfl rfl (y_extract rfl rfl) ?_
        refine gk_y rfl rfl (y_extract rfl rfl) ?_
        refine gk_y rfl rfl (y_assign rfl) ?_
        refine gk_y rfl rfl (y_assign rfl) ?_
        refine gk_nil (gk_sub (T' := [(2,_), (3,_), (4,_), (5,_), (8,_), (9,_), (31,_), (32,_), (33,_)]) ⟨rfl, rfl, rfl, rfl, rfl, rfl, rfl, rfl, rfl, trivial⟩ ?_)
        refine gk_seq ?_
        refine gk_seq ?_
        refine gk_region ?_
        refine gk_y rfl rfl (y_move rfl) ?_
        refine gk_y rfl rfl (y_not rfl) ?_
        refine gk_nil (gk_sub (T' := [(2,_), (3,_), (4,_), (5,_), (8,_), (31,_), (32,_), (33,_), (43,_)]) ⟨rfl, rfl, rfl, rfl, rfl, rfl, rfl, rfl, rfl, trivial⟩ ?_)
        refine gk_cond rfl (fun hc43 => ?_) (fun hc43 => ?_)
        · have hb : numB (((splitL s 32).drop 1).getD j.toNat default) = false := by simpa using hc43
          refine gk_newNil 50 encPt 2 ?_
          refine gk_seq ?_
          refine gk_region ?_
          refine gk_y rfl rfl (y_buildL (parts := []) rfl bd52_) ?_
          refine gk_storeV 3 tf52 rfl rfl (vs := [_, _, _, _, _, _]) rfl rfl rfl rfl rfl ?_
          refine gk_y rfl rfl (y_assign rfl) ?_
          refine gk_nil (gk_sub (T' := [(2,_), (3,_), (4,_), (5,_), (8,_), (31,_), (32,_), (33,_)]) ⟨rfl, rfl, rfl, rfl, rfl, rfl, rfl, rfl, trivial⟩ ?_)
          refine gk_ret ?_
          refine gk_gives (none, 0) 0 (rv_two rfl (r1_cellA (i := 3) (vs := [_, _, _, _, _, _]) tf52 rfl rfl rfl rfl) (r1_tmp rfl)) ?_ (by rw [(read_no (by omega) hb).1]; rfl)
          rw [(read_no (by omega) hb).1, (read_no (by omega) hb).2]; rfl
        · have hb : (!numB (((splitL s 32).drop 1).getD j.toNat default)) = false := hc43
          refine gk_skip ?_
          refine gk_region ?_
          refine gk_y rfl rfl (y_move rfl) ?_
          refine gk_y rfl rfl (y_move rfl) ?_
          refine gk_yx rfl rfl (yx_buildSlice rfl (bs71_1 _) Go.Stn.encI_ok rfl) fun b47 => ?_
          refine gk_append (m := [(numI (((splitL s 32).drop 1).getD (j).toNat default))]) 1 af71 Go.Stn.encI_ok rfl rfl rfl rfl (fun _ hw => (has_row Go.Stn.encI_ok (hw.has (p := 0) rfl))) (by first | omega | (simp only [List.length_cons, List.length_nil]; omega)) (by first | (unfold maxLen; omega) | (simp only [List.length_cons, List.length_nil, maxLen]; omega)) fun a48 c48 => ?_
          refine gk_y rfl rfl (y_assign rfl) ?_
          refine gk_nil (gk_sub (T' := [(2,_), (3,_), (4,_), (5,_), (31,_), (32,_), (33,_)]) ⟨rfl, rfl, rfl, rfl, rfl, rfl, rfl, trivial⟩ ?_)
          refine gk_region ?_
          refine gk_y rfl rfl (y_addI rfl rfl (by omega) (by omega)) ?_
          refine gk_y rfl rfl (y_move rfl) ?_
          refine gk_nil (gk_sub (T' := [(2,_), (3,_), (4,_), (5,_), (31,_), (32,_), (33,_)]) ⟨rfl, rfl, rfl, rfl, rfl, rfl, rfl, trivial⟩ ?_)
          refine gk_dropAt 0 rfl ?_
          exact gk_next (j + 1, a48, c48, N ++ [numI (((splitL s 32).drop 1).getD j.toNat default)]) ⟨rfl, rfl, rfl, rfl, rfl, rfl, rfl, trivial⟩ rfl ⟨by omega, by omega, nums_step j0 hc34 hN, below_nat (f := fun k => !numB (((splitL s 32).drop 1).getD k default)) j0 j2 hb⟩ (by simp only []; omega)
      · have hc34 := of_decide_eq_false hc34
        have hN1 : N = ((splitL s 32).drop 1).map numI := by rw [hN, List.take_of_length_le (by omega)]
        have hNl : N.length = (splitL s 32).length - 1 := by rw [hN1]; simp
        have hall : ∀ k : Nat, (k : Int) < (((splitL s 32).drop 1).length : Int) → (!numB (((splitL s 32).drop 1).getD k default)) = false := fun k hk => j2 k (by omega)
        refine gk_exit rfl ?_
        refine gk_seq ?_
        refine gk_any 18 (fun _ => mixed) (by kernel_rfl) ?_
        refine ph_y (y_move rfl) ?_
        refine ph_y (y_indexE se93 rfl rfl (fun _ hw => (has_row encS_ok (hw.has (p := 1) rfl))) (by omega) (by omega)) ?_
        refine ph_y (y_loadE1 tf9 rfl (fun _ hw => (has_row encS_ok (hw.has (p := 1) rfl))) (by omega) (by omega) rfl) ?_
        refine ph_y (y_move rfl) ?_
        refine ph_y (y_indexE se71 rfl rfl (fun _ hw => (has_row Go.Stn.encI_ok (hw.has (p := 0) rfl))) (by omega) (by omega)) ?_
        refine ph_y (y_loadE1 tf3 rfl (fun _ hw => (has_row Go.Stn.encI_ok (hw.has (p := 0) rfl))) (by omega) (by omega) rfl) ?_
        refine ph_y (y_move rfl) ?_
        refine ph_y (y_indexE se71 rfl rfl (fun _ hw => (has_row Go.Stn.encI_ok (hw.has (p := 0) rfl))) (by omega) (by omega)) ?_
        refine ph_y (y_loadE1 tf3 rfl (fun _ hw => (has_row Go.Stn.encI_ok (hw.has (p := 0) rfl))) (by omega) (by omega) rfl) ?_
        refine ph_y (y_move rfl) ?_
        refine ph_y (y_indexE se71 rfl rfl (fun _ hw => (has_row Go.Stn.encI_ok (hw.has (p := 0) rfl))) (by omega) (by omega)) ?_
        refine ph_y (y_loadE1 tf3 rfl (fun _ hw => (has_row Go.Stn.encI_ok (hw.has (p := 0) rfl))) (by omega) (by omega) rfl) ?_
        refine ph_y (y_move rfl) ?_
        refine ph_y (y_indexE se71 rfl rfl (fun _ hw => (has_row Go.Stn.encI_ok (hw.has (p := 0) rfl))) (by omega) (by omega)) ?_
        refine ph_y (y_loadE1 tf3 rfl (fun _ hw => (has_row Go.Stn.encI_ok (hw.has (p := 0) rfl))) (by omega) (by omega) rfl) ?_
        refine ph_y (y_buildL rfl (bd50_0i_1i _ _)) ?_
        refine ph_y (y_buildL rfl (bd52_0s_2i_3i_4ii _ _ _ _ _)) ?_
        refine ph_yx (yx_alloc tf52 (zs := [_, _, _, _, _, _]) rfl) ?_
        intro b10
        refine gk_sub (T' := [(2,_), (3,_), (5,_), (10,_), (66,_)]) ⟨rfl, rfl, rfl, rfl, rfl, trivial⟩ ?_
        refine gk_storeV 0 tf52 rfl rfl (vs := [_, _, _, _, _, _]) rfl rfl rfl rfl rfl ?_
        refine gk_nil (gk_sub (T' := [(2,_), (3,_), (5,_), (10,_)]) ⟨rfl, rfl, rfl, rfl, trivial⟩ ?_)
        refine gk_seq ?_
        refine gk_seq ?_
        refine gk_region ?_
        refine gk_y rfl rfl (y_assign rfl) ?_
        refine gk_nil (gk_sub (T' := [(2,_), (3,_), (5,_), (10,_), (11,_)]) ⟨rfl, rfl, rfl, rfl, rfl, trivial⟩ ?_)
        refine gk_block ?_
        refine gk_newNil 50 encPt 2 ?_
        refine gk_loop (X := Int × Option Addr × Nat × List Pt) (fun ⟨k, q, qc, Q⟩ => [(2, .pointer (some ⟨b2, 0, none⟩)), (3, .bool false), (5, .slice b N.length bc), (10, .pointer (some ⟨b10, 0, none⟩)), (11, .int .i64 k)]) (fun ⟨k, q, qc, Q⟩ => [Row q 2 qc 50 encPt Q, Box b10 [.string ((splitL s 32).getD (0 : Int).toNat default), .slice q Q.length qc, .int .i64 (N.getD (0 : Int).toNat default), .int .i64 (N.getD (1 : Int).toNat default), .int .i64 (N.getD (2 : Int).toNat default), .int .i64 (N.getD (3 : Int).toNat default)] 52, Row b 1 bc 3 Go.Stn.encI N, Row (some ⟨p13, 0, none⟩) 1 (splitL s 32).length 9 encS (splitL s 32), Box b2 [.string ⟨#[]⟩, .slice none 0 0, .int .i64 0, .int .i64 0, .int .i64 0, .int .i64 0] 52]) (fun ⟨k, q, qc, Q⟩ => (4 ≤ k ∧ k ≤ N.length ∧ k % 2 = 0 ∧ Q = ptsN N ((k - 4) / 2).toNat)) (fun ⟨k, q, qc, Q⟩ => (N.length - k).toNat) (4, none, 0, []) ⟨rfl, rfl, rfl, rfl, rfl, trivial⟩ rfl ?_ ?_
        · exact ⟨by omega, by omega, by omega, rfl⟩
        · rintro ⟨k, q, qc, Q⟩ hI
          obtain ⟨k0, k1, k2, hQ⟩ := hI
          have hQl : (Q.length : Int) = (k - 4) / 2 := by rw [hQ, ptsN_len]; omega
          refine gk_seq ?_
          refine gk_seq ?_
          refine gk_region ?_
          refine gk_y rfl rfl (y_move rfl) ?_
          refine gk_y rfl rfl (y_move rfl) ?_
          refine gk_y rfl rfl (y_lenS (Tryz.underlying71) rfl) ?_
          refine gk_y rfl rfl (y_lss rfl rfl) ?_
          refine gk_nil (gk_sub (T' := [(2,_), (3,_), (5,_), (10,_), (11,_), (70,_)]) ⟨rfl, rfl, rfl, rfl, rfl, rfl, trivial⟩ ?_)
          refine gk_cond rfl (fun hc70 => ?_) (fun hc70 => ?_)
          · have hc70 := of_decide_eq_true hc70
            refine gk_skip ?_
            refine gk_seq ?_
            refine gk_block ?_
            refine gk_any 13 (fun _ => mixed) (by kernel_rfl) ?_
            refine ph_y (y_fieldAddr fo52_1 rfl) ?_
            refine ph_y (y_loadB1 1 tf49 rfl rfl rfl) ?_
            refine ph_y (y_move rfl) ?_
            refine ph_y (y_move rfl) ?_
            refine ph_y (y_indexE se71 rfl rfl (fun _ hw => (has_row Go.Stn.encI_ok (hw.has (p := 2) rfl))) (by omega) (by omega)) ?_
            refine ph_y (y_loadE1 tf3 rfl (fun _ hw => (has_row Go.Stn.encI_ok (hw.has (p := 2) rfl))) (by omega) (by omega) rfl) ?_
            refine ph_y (y_move rfl) ?_
            refine ph_y (y_move rfl) ?_
            refine ph_y (y_addI rfl rfl (by omega) (by omega)) ?_
            refine ph_y (y_indexE se71 rfl rfl (fun _ hw => (has_row Go.Stn.encI_ok (hw.has (p := 2) rfl))) (by omega) (by omega)) ?_
            refine ph_y (y_loadE1 tf3 rfl (fun _ hw => (has_row Go.Stn.encI_ok (hw.has (p := 2) rfl))) (by omega) (by omega) rfl) ?_
            refine ph_y (y_buildL rfl (bd50_0i_1i _ _)) ?_
            refine ph_yx (yx_buildSlice rfl (bs49_1 _ _) encPt_ok rfl) ?_
            intro b85
            refine gk_sub (T' := [(2,_), (3,_), (5,_), (10,_), (11,_), (74,_), (85,_)]) ⟨rfl, rfl, rfl, rfl, rfl, rfl, rfl, trivial⟩ ?_
            refine gk_append (m := [⟨(N.getD (k).toNat default), (N.getD ((k + 1)).toNat default)⟩]) 1 af49 encPt_ok rfl rfl rfl rfl (fun _ hw => (has_row encPt_ok (hw.has (p := 0) rfl))) (by first | omega | (simp only [List.length_cons, List.length_nil]; omega)) (by first | (unfold maxLen; omega) | (simp only [List.length_cons, List.length_nil, maxLen]; omega)) fun a86 c86 => ?_
            refine gk_y rfl rfl (y_fieldAddr fo52_1 rfl) ?_
            refine gk_storeV 2 tf49 rfl rfl (vs := [_]) rfl rfl rfl rfl rfl ?_
            refine gk_nil (gk_sub (T' := [(2,_), (3,_), (5,_), (10,_), (11,_)]) ⟨rfl, rfl, rfl, rfl, rfl, trivial⟩ ?_)
            refine gk_region ?_
            refine gk_y rfl rfl (y_move rfl) ?_
            refine gk_y rfl rfl (y_addI rfl rfl (by omega) (by omega)) ?_
            refine gk_y rfl rfl (y_assign rfl) ?_
            refine gk_nil (gk_sub (T' := [(2,_), (3,_), (5,_), (10,_), (11,_)]) ⟨rfl, rfl, rfl, rfl, rfl, trivial⟩ ?_)
            refine gk_dropAt 0 rfl ?_
            exact gk_next (k + 2, a86, c86, Q ++ [(⟨N.getD k.toNat default, N.getD (k + 1).toNat default⟩ : Pt)]) ⟨rfl, rfl, rfl, rfl, rfl, trivial⟩ rfl ⟨by omega, by omega, by omega, ptsN_step k0 k2 hQ⟩ (by simp only []; omega)
          · have hc70 := of_decide_eq_false hc70
            have hQ1 : Q = ptsN N ((((splitL s 32).length : Int) - 5) / 2).toNat := by rw [hQ, show (k - 4) / 2 = (((splitL s 32).length : Int) - 5) / 2 from by omega]
            refine gk_exit rfl ?_
            refine gk_seq ?_
            refine gk_region ?_
            refine gk_y rfl rfl (y_loadBA 1 tf52 rfl rfl (vs := [_, _, _, _, _, _]) rfl rfl) ?_
            refine gk_storeV 4 tf52 rfl rfl (vs := [_, _, _, _, _, _]) rfl rfl rfl rfl rfl ?_
            refine gk_y rfl rfl (y_assign rfl) ?_
            refine gk_nil (gk_sub (T' := [(2,_), (3,_)]) ⟨rfl, rfl, trivial⟩ ?_)
            refine gk_ret ?_
            refine gk_gives (q, qc) 0 (rv_two rfl (r1_cellA (i := 4) (vs := [_, _, _, _, _, _]) tf52 rfl rfl rfl rfl) (r1_tmp rfl)) ?_ (by rw [(read_yes hW hall).1]; show some (Row q 2 qc 50 encPt Q) = some (Row q 2 qc 50 encPt (ptsN (((splitL s 32).drop 1).map numI) _)); rw [hQ1, hN1])
            rw [(read_yes hW hall).1, (read_yes hW hall).2]; subst hQ1; subst hN1; rfl
end Go.Proofs.YtmpaebfjnjmmlaaGreatDoor

namespace Go.Stn
open Go Go.K Go.RowKit Go.Proofs Go.Txt
def rowL (t : ByteArray) : ByteArray := mkB (Lib.cut t.data.toList [10]).1
def restL (t : ByteArray) : ByteArray := mkB (Lib.cut t.data.toList [10]).2.1
theorem parseR_one (row : List UInt8) (n : Int) (acc : List Stn) : parseR [row] n acc = parseR [row, []] n acc := by
  simp [parseR]
theorem parse_row (t : ByteArray) (n : Int) (acc : List Stn) : parseR (cutL 10 t.data.toList) n acc = parseR ((rowL t).data.toList :: cutL 10 (restL t).data.toList) n acc := by
  unfold rowL restL
  rcases cut_spec t.data.toList 10 with ⟨p, r, e1, e2, e3⟩ | ⟨e2, e3⟩
  · rw [e3]
    show _ = parseR (p :: cutL 10 r) n acc
    rw [e1, cutL_hit e2]
  · rw [e3]
    show _ = parseR (t.data.toList :: cutL 10 []) n acc
    rw [cutL_end e2]
    exact parseR_one _ _ _
theorem row_size (t : ByteArray) : (rowL t).size ≤ t.size := by
  unfold rowL
  rw [size_data, size_data t]
  rcases cut_spec t.data.toList 10 with ⟨p, r, e1, e2, e3⟩ | ⟨e2, e3⟩
  · rw [e3]; show p.length ≤ _; rw [e1]; simp
  · rw [e3]; exact Nat.le_refl _
theorem rest_size {t : ByteArray} (h : (!(t.toList == (⟨#[]⟩ : ByteArray).toList)) = true) : (restL t).size + 1 ≤ t.size := by
  have h0 : 0 < (t.size : Int) := str_pos (by rw [Bool.not_eq_true'] at h; rw [h]; simp)
  unfold restL
  rcases cut_spec t.data.toList 10 with ⟨p, r, e1, e2, e3⟩ | ⟨e2, e3⟩
  · rw [e3, size_data, size_data t]; show r.length + 1 ≤ _; rw [e1]; simp
  · rw [e3]; show 0 + 1 ≤ _; omega
theorem text_end {t : ByteArray} (h : (!(t.toList == (⟨#[]⟩ : ByteArray).toList)) = false) (n : Int) (acc : List Stn) : parseR (cutL 10 t.data.toList) n acc = (acc, 0, 0) := by
  rw [Lib.toList_data, Lib.toList_data] at h
  have : t.data.toList = [] := by simpa using h
  rw [this]; rfl
def parseP (s : ByteArray) : List Stn × Int × Int := if 40000 < (s.size : Int) then ([], 0, 5) else parseR (cutL 10 s.data.toList) 1 []
section
variable {row : ByteArray} {rest : List (List UInt8)} {n : Int} {acc : List Stn}
theorem p_nil (h : (row.toList == (⟨#[]⟩ : ByteArray).toList) = true) : parseR (row.data.toList :: rest) n acc = parseR rest (n + 1) acc := by
  rw [Lib.toList_data, Lib.toList_data] at h
  have : row.data.toList = [] := by simpa using h
  rw [parseR, if_pos this]
theorem row_ne (h : (row.toList == (⟨#[]⟩ : ByteArray).toList) = false) : ¬ row.data.toList = [] := fun e => by
  rw [Lib.toList_data, Lib.toList_data, e] at h
  simp at h
theorem p_full (h : (row.toList == (⟨#[]⟩ : ByteArray).toList) = false) (hl : acc.length = 200) : parseR (row.data.toList :: rest) n acc = ([], n, 5) := by
  rw [parseR, if_neg (row_ne h), if_pos hl]
theorem p_bad (h : (row.toList == (⟨#[]⟩ : ByteArray).toList) = false) (hl : ¬ acc.length = 200) (hr : readOk (splitL row 32) = false) : parseR (row.data.toList :: rest) n acc = ([], n, 4) := by
  rw [parseR, if_neg (row_ne h), if_neg hl, mkB_data, if_pos hr]
theorem p_check (h : (row.toList == (⟨#[]⟩ : ByteArray).toList) = false) (hl : ¬ acc.length = 200) (hr : readOk (splitL row 32) = true) (hc : ¬ checkI (readS (splitL row 32)) = 0) : parseR (row.data.toList :: rest) n acc = ([], n, 2) := by
  rw [parseR, if_neg (row_ne h), if_neg hl, mkB_data, if_neg (by rw [hr]; simp), if_pos hc]
theorem p_twice (h : (row.toList == (⟨#[]⟩ : ByteArray).toList) = false) (hl : ¬ acc.length = 200) (hr : readOk (splitL row 32) = true) (hc : checkI (readS (splitL row 32)) = 0) (ha : (acc.any fun s => s.name.toList == (readS (splitL row 32)).name.toList) = true) : parseR (row.data.toList :: rest) n acc = ([], n, 7) := by
  rw [parseR, if_neg (row_ne h), if_neg hl, mkB_data, if_neg (by rw [hr]; simp), if_neg (by rw [hc]; simp), if_pos ha]
theorem p_ok (h : (row.toList == (⟨#[]⟩ : ByteArray).toList) = false) (hl : ¬ acc.length = 200) (hr : readOk (splitL row 32) = true) (hc : checkI (readS (splitL row 32)) = 0) (ha : (acc.any fun s => s.name.toList == (readS (splitL row 32)).name.toList) = false) : parseR (row.data.toList :: rest) n acc = parseR rest (n + 1) (acc ++ [readS (splitL row 32)]) := by
  rw [parseR, if_neg (row_ne h), if_neg hl, mkB_data, if_neg (by rw [hr]; simp), if_neg (by rw [hc]; simp), if_neg (by rw [ha]; simp)]
end
theorem any_plain (L : List SC) (x : ByteArray) : ((plainL L).any fun s => s.name.toList == x.toList) = L.any fun z => z.s.name.toList == x.toList := by
  rw [List.any_map]; rfl
theorem plain_one (L : List SC) (s : Stn) (a : Option Addr) (c : Nat) : plainL (L ++ [(⟨s, a, c⟩ : SC)]) = plainL L ++ [s] := by simp
end Go.Stn

namespace Go.Proofs.YtmpaebfjnjmmlaaGreatDoor
open Go.K Go.Stn Go.RowKit
theorem en81 : En Tryz.prog 81 := en_of Tryz.func81 (by kernel_rfl) (by kernel_rfl)
theorem en44s : En Tryz.prog 44 := en_of Tryz.func44 (by kernel_rfl) (by kernel_rfl)
set_option maxRecDepth 100000 in
set_option maxHeartbeats 1000000 in
theorem indexfuncS_c (a : Option Addr) (cap : Nat) (L : List SC) (f : SC → Bool) (gg : FuncId) (gcap : List Value) (w : World) (hl : Has w (Elems a 6 encSC L)) (hs : Small L.length) (M : World → Prop) (hM : ∀ w', Ext w w' → M w') (hen : En Tryz.prog gg) (hg : ∀ (z : SC) w', M w' → Calls Tryz.prog gg ([Value.agg #[.string z.s.name, .slice z.a z.s.shape.length z.cap, .int .i64 z.s.depth, .int .i64 z.s.density, .int .i64 z.s.grain.x, .int .i64 z.s.grain.z]] ++ gcap).toArray w' (Pure (.bool (f z)) w')) :
    Calls Tryz.prog 81 #[.slice a L.length cap, .func (.func gg) #[] gcap.toArray] w (Pure (.int .i64 (findI f L)) w) := by
  refine calls_of_gk (vs := [_, _]) Tryz.func81 rfl rfl (Nat.le_of_ble_eq_true rfl) ?_
  refine gk_seq ?_
  refine gk_region ?_
  refine gk_y rfl rfl (y_assign rfl) ?_
  refine gk_nil (gk_sub (T' := [(0,_), (1,_), (4,_)]) ⟨rfl, rfl, rfl, trivial⟩ ?_)
  refine gk_seq ?_
  refine gk_seq ?_
  refine gk_region ?_
  refine gk_y rfl rfl (y_move rfl) ?_
  refine gk_y rfl rfl (y_lenS (Tryz.underlying29) rfl) ?_
  refine gk_y rfl rfl (y_move rfl) ?_
  refine gk_nil (gk_sub (T' := [(0,_), (1,_), (4,_), (7,_), (8,_)]) ⟨rfl, rfl, rfl, rfl, rfl, trivial⟩ ?_)
  refine gk_block ?_
  refine gk_loop (X := Int) (fun (i : Int) => [(0, .slice a L.length cap), (1, .func (.func gg) #[] gcap.toArray), (4, .int .i64 0), (7, .int .i64 (L.length : Int)), (8, .int .i64 i)]) (fun (i : Int) => []) (fun (i : Int) => (0 ≤ i ∧ i ≤ L.length ∧ ∀ j : Nat, (j : Int) < i → f (L.getD j default) = false)) (fun (i : Int) => (L.length - i).toNat) 0 ⟨rfl, rfl, rfl, rfl, rfl, trivial⟩ rfl ?_ ?_
  · exact ⟨by omega, by omega, fun j hj => by omega⟩
  · rintro i hI
    obtain ⟨g0, g1, g2⟩ := hI
    refine gk_seq ?_
    refine gk_region ?_
    refine gk_y rfl rfl (y_lss rfl rfl) ?_
    refine gk_nil (gk_sub (T' := [(0,_), (1,_), (4,_), (7,_), (8,_), (9,_)]) ⟨rfl, rfl, rfl, rfl, rfl, rfl, trivial⟩ ?_)
    refine gk_seq ?_
    refine gk_cond rfl (fun hc9 => ?_) (fun hc9 => ?_)
    · simp only [decide_eq_true_eq] at hc9
      refine gk_skip ?_
      refine gk_seq ?_
      refine gk_block ?_
      refine gk_seq ?_
      refine gk_region ?_
      refine gk_y rfl rfl (y_move rfl) ?_
      refine gk_y rfl rfl (y_assign rfl) ?_
      refine gk_nil (gk_sub (T' := [(0,_), (1,_), (4,_), (5,_), (7,_), (8,_)]) ⟨rfl, rfl, rfl, rfl, rfl, rfl, trivial⟩ ?_)
      refine gk_seq ?_
      refine gk_region ?_
      refine gk_y rfl rfl (y_move rfl) ?_
      refine gk_y rfl rfl (y_move rfl) ?_
      refine gk_y rfl rfl (y_move rfl) ?_
      refine gk_y rfl rfl (y_indexE se29 rfl rfl (fun _ hw => (Rd.has (Has.rd hl) hw)) (by omega) (by omega)) ?_
      refine gk_y rfl rfl (y_loadE (vs := [_, _, _, _, _, _]) tf52 rfl (fun _ hw => (Rd.has (Has.rd hl) hw)) (by omega) (by omega) rfl) ?_
      refine gk_y rfl rfl (y_callV (fs := []) (cap := gcap) hen rfl rfl (fun w hw => hg (L.getD (i).toNat default) w (hM _ hw.base.ext0))) ?_
      refine gk_nil (gk_sub (T' := [(0,_), (1,_), (4,_), (5,_), (7,_), (8,_), (16,_)]) ⟨rfl, rfl, rfl, rfl, rfl, rfl, rfl, trivial⟩ ?_)
      refine gk_cond rfl (fun hc16 => ?_) (fun hc16 => ?_)
      · skip
        refine gk_seq ?_
        refine gk_region ?_
        refine gk_y rfl rfl (y_move rfl) ?_
        refine gk_y rfl rfl (y_assign rfl) ?_
        refine gk_nil (gk_sub (T' := [(0,_), (1,_), (4,_), (7,_), (8,_)]) ⟨rfl, rfl, rfl, rfl, rfl, trivial⟩ ?_)
        refine gk_ret ?_
        refine gk_pure (rv_one rfl (r1_tmp rfl)) ?_
        exact congrArg _ (findI_hit g0 (by omega) g2 hc16).symm
      · skip
        refine gk_skip ?_
        refine gk_region ?_
        refine gk_y rfl rfl (y_addI rfl rfl (by omega) (by omega)) ?_
        refine gk_y rfl rfl (y_move rfl) ?_
        refine gk_nil (gk_sub (T' := [(0,_), (1,_), (4,_), (7,_), (8,_)]) ⟨rfl, rfl, rfl, rfl, rfl, trivial⟩ ?_)
        exact gk_next _ ⟨rfl, rfl, rfl, rfl, rfl, trivial⟩ rfl ⟨by omega, by omega, fun j hj => if h : (j : Int) < i then g2 j h else (by rw [show j = i.toNat from by omega]; exact hc16)⟩ (by omega)
    · simp only [decide_eq_false_iff_not] at hc9
      refine gk_exit rfl ?_
      refine gk_seq ?_
      refine gk_region ?_
      refine gk_y rfl rfl (y_assign rfl) ?_
      refine gk_nil (gk_sub (T' := [(4,_)]) ⟨rfl, trivial⟩ ?_)
      refine gk_ret ?_
      refine gk_pure (rv_one rfl (r1_tmp rfl)) ?_
      exact congrArg _ (findI_none (fun j hj => g2 j (by omega))).symm
set_option maxRecDepth 100000 in
set_option maxHeartbeats 1000000 in
theorem containsfuncS_c (a : Option Addr) (cap : Nat) (L : List SC) (f : SC → Bool) (gg : FuncId) (gcap : List Value) (w : World) (hl : Has w (Elems a 6 encSC L)) (hs : Small L.length) (M : World → Prop) (hM : ∀ w', Ext w w' → M w') (hen : En Tryz.prog gg) (hg : ∀ (z : SC) w', M w' → Calls Tryz.prog gg ([Value.agg #[.string z.s.name, .slice z.a z.s.shape.length z.cap, .int .i64 z.s.depth, .int .i64 z.s.density, .int .i64 z.s.grain.x, .int .i64 z.s.grain.z]] ++ gcap).toArray w' (Pure (.bool (f z)) w')) :
    Calls Tryz.prog 43 #[.slice a L.length cap, .func (.func gg) #[] gcap.toArray] w (Pure (.bool (L.any f)) w) := by
  refine calls_of_gk (vs := [_, _]) Tryz.func43 rfl rfl (Nat.le_of_ble_eq_true rfl) ?_
  refine gk_seq ?_
  refine gk_region ?_
  refine gk_y rfl rfl (y_assign rfl) ?_
  refine gk_nil (gk_sub (T' := [(0,_), (1,_), (4,_)]) ⟨rfl, rfl, rfl, trivial⟩ ?_)
  refine gk_seq ?_
  refine gk_region ?_
  refine gk_y rfl rfl (y_move rfl) ?_
  refine gk_y rfl rfl (y_move rfl) ?_
  refine gk_y rfl rfl (y_call en81 rfl (fun w hw => indexfuncS_c _ _ L f _ _ w (Rd.has (Has.rd hl) hw) (by assumption) M (fun w' h => hM w' (hw.base.ext0.trans h)) hen hg)) ?_
  refine gk_y rfl rfl (y_geq rfl rfl) ?_
  refine gk_y rfl rfl (y_assign rfl) ?_
  refine gk_nil (gk_sub (T' := [(4,_)]) ⟨rfl, trivial⟩ ?_)
  refine gk_ret ?_
  refine gk_pure (rv_one rfl (r1_tmp rfl)) ?_
  rw [findI_any]
set_option maxRecDepth 100000 in
set_option maxHeartbeats 1000000 in
theorem parse1_c (z y : SC) (b : Nat) (w : World) (hb : Has w (Box b [.string y.s.name, .slice y.a y.s.shape.length y.cap, .int .i64 y.s.depth, .int .i64 y.s.density, .int .i64 y.s.grain.x, .int .i64 y.s.grain.z] 52)) :
    Calls Tryz.prog 44 #[.agg #[.string z.s.name, .slice z.a z.s.shape.length z.cap, .int .i64 z.s.depth, .int .i64 z.s.density, .int .i64 z.s.grain.x, .int .i64 z.s.grain.z], .pointer (some ⟨b, 0, none⟩)] w (Pure (.bool (z.s.name.toList == y.s.name.toList)) w) := by
  refine calls_of_gk (vs := [_, _]) Tryz.func44 rfl rfl (Nat.le_of_ble_eq_true rfl) ?_
  refine gk_seq ?_
  refine gk_region ?_
  refine gk_yx rfl rfl (yx_box (vs := [_, _, _, _, _, _]) rfl rfl) fun b2 => ?_
  refine gk_y rfl rfl (y_assign rfl) ?_
  refine gk_nil (gk_sub (T' := [(1,_), (2,_), (3,_)]) ⟨rfl, rfl, rfl, trivial⟩ ?_)
  refine gk_seq ?_
  refine gk_region ?_
  refine gk_y rfl rfl (y_fieldAddr fo52_0 rfl) ?_
  refine gk_y rfl rfl (y_loadB1 0 tf9 rfl rfl rfl) ?_
  refine gk_y rfl rfl (y_fieldAddr fo52_0 rfl) ?_
  refine gk_y rfl rfl (y_load1 tf9 rfl (fun _ hw => has_box_cell (Rd.has (Has.rd hb) hw) rfl)) ?_
  refine gk_y rfl rfl (y_strEq rfl rfl) ?_
  refine gk_y rfl rfl (y_assign rfl) ?_
  refine gk_nil (gk_sub (T' := [(3,_)]) ⟨rfl, trivial⟩ ?_)
  refine gk_ret ?_
  refine gk_pure (rv_one rfl (r1_tmp rfl)) ?_
  rfl
end Go.Proofs.YtmpaebfjnjmmlaaGreatDoor
