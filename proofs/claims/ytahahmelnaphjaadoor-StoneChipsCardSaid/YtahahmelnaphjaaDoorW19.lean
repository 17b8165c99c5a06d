/- Walks: chips in the program; the law StoneChips. No statement of the seat is proved in this text. -/
import Derived.Test.YtahahmelnaphjaaDoorW18
namespace Go.Proofs.YtahahmelnaphjaaDoor
open Go.K Go.Stn Go.RowKit
theorem en40 : En Tryd.prog 40 := en_of Tryd.func40 (by kernel_rfl) (by kernel_rfl)
theorem en41 : En Tryd.prog 41 := en_of Tryd.func41 (by kernel_rfl) (by kernel_rfl)
theorem en87 : En Tryd.prog 87 := en_of Tryd.func87 (by kernel_rfl) (by kernel_rfl)

set_option maxRecDepth 100000 in
set_option maxHeartbeats 1000000 in
theorem away_c (c t : Pt) (n : Int) (b : Nat) (w : World) (hb : Has w (Box b [.int .i64 c.x, .int .i64 c.z] 32)) (hc : farB c = false) (ht : farB t = false) (hne : c ≠ t) :
    Calls Tryd.prog 87 #[.agg #[.int .i64 t.x, .int .i64 t.z], .int .i64 n, .pointer (some ⟨b, 0, none⟩)] w (Pure (.tuple #[ptV (bpW c t n), .bool (decide (1 ≤ n) && decide (n ≤ stepsI c t))]) w) := by
  have hsp := steps_pos hne
  refine calls_of_gk (vs := [_, _, _]) Tryd.func87 rfl rfl (Nat.le_of_ble_eq_true rfl) ?_
  refine gk_seq ?_
  refine gk_region ?_
  refine gk_yx rfl rfl (yx_box (vs := [_, _]) rfl rfl) fun b3 => ?_
  refine gk_yx rfl rfl (yx_alloc tf32 (zs := [_, _]) rfl) fun b5 => ?_
  refine gk_y rfl rfl (y_assign rfl) ?_
  refine gk_nil (gk_sub (T' := [(1,_), (2,_), (3,_), (5,_), (6,_)]) ⟨rfl, rfl, rfl, rfl, rfl, trivial⟩ ?_)
  refine gk_seq ?_
  refine gk_region ?_
  refine gk_y rfl rfl (y_loadA tf32 rfl rfl (fun _ hw => has_box_cells (o := 0) (k := 2) (Rd.has (Has.rd hb) hw) (vs := [_, _]) rfl)) ?_
  refine gk_y rfl rfl (y_loadBA 1 tf32 rfl rfl (vs := [_, _]) rfl rfl) ?_
  refine gk_y rfl rfl (y_call en88 rfl (fun w hw => steps_c c t w hc ht)) ?_
  refine gk_y rfl rfl (y_assign rfl) ?_
  refine gk_nil (gk_sub (T' := [(1,_), (2,_), (3,_), (5,_), (6,_), (7,_)]) ⟨rfl, rfl, rfl, rfl, rfl, rfl, trivial⟩ ?_)
  refine gk_seq ?_
  refine gk_region ?_
  refine gk_y rfl rfl (y_loadBA 1 tf32 rfl rfl (vs := [_, _]) rfl rfl) ?_
  refine gk_y rfl rfl (y_loadA tf32 rfl rfl (fun _ hw => has_box_cells (o := 0) (k := 2) (Rd.has (Has.rd hb) hw) (vs := [_, _]) rfl)) ?_
  refine gk_y rfl rfl (y_call en89 rfl (fun w hw => sub_c ⟨_, _⟩ ⟨_, _⟩ w)) ?_
  refine gk_yx rfl rfl (yx_alloc tf32 (zs := [_, _]) rfl) fun b8 => ?_
  refine gk_storeV 0 tf32 rfl rfl (vs := [_, _]) rfl rfl rfl rfl rfl ?_
  refine gk_nil (gk_sub (T' := [(1,_), (2,_), (5,_), (6,_), (7,_), (8,_)]) ⟨rfl, rfl, rfl, rfl, rfl, rfl, trivial⟩ ?_)
  refine gk_seq ?_
  refine gk_any 22 (fun _ => mixed) (by kernel_rfl) ?_
  refine ph_y (y_fieldAddr fo32_0 rfl) ?_
  refine ph_y (y_load1 tf3 rfl (fun _ hw => has_box_cell (Rd.has (Has.rd hb) hw) rfl)) ?_
  refine ph_y (y_fieldAddr fo32_0 rfl) ?_
  refine ph_y (y_loadB1 0 tf3 rfl rfl rfl) ?_
  refine ph_y (y_move rfl) ?_
  refine ph_y (y_quo rfl rfl (by omega)) ?_
  refine ph_y (y_move rfl) ?_
  refine ph_y (y_mul rfl rfl) ?_
  refine ph_y (y_add rfl rfl) ?_
  refine ph_y (y_fieldAddr fo32_1 rfl) ?_
  refine ph_y (y_load1 tf3 rfl (fun _ hw => has_box_cell (Rd.has (Has.rd hb) hw) rfl)) ?_
  refine ph_y (y_fieldAddr fo32_1 rfl) ?_
  refine ph_y (y_loadB1 0 tf3 rfl rfl rfl) ?_
  refine ph_y (y_move rfl) ?_
  refine ph_y (y_quo rfl rfl (by omega)) ?_
  refine ph_y (y_move rfl) ?_
  refine ph_y (y_mul rfl rfl) ?_
  refine ph_y (y_add rfl rfl) ?_
  refine ph_y (y_buildL rfl (bd32_0i_1i _ _)) ?_
  refine ph_y (y_move rfl) ?_
  refine ph_y (y_move rfl) ?_
  refine ph_y (y_call en55 rfl (fun w hw => within_c _ _ _ w)) ?_
  refine gk_sub (T' := [(5,_), (6,_), (33,_), (36,_)]) ⟨rfl, rfl, rfl, rfl, trivial⟩ ?_
  refine gk_storeV 1 tf32 rfl rfl (vs := [_, _]) rfl rfl rfl rfl rfl ?_
  refine gk_y rfl rfl (y_assign rfl) ?_
  refine gk_nil (gk_sub (T' := [(5,_), (6,_)]) ⟨rfl, rfl, trivial⟩ ?_)
  refine gk_ret ?_
  refine gk_pure (rv_two rfl (r1_cellA (i := 1) (vs := [_, _]) tf32 rfl rfl rfl rfl) (r1_tmp rfl)) ?_
  rfl

set_option maxRecDepth 100000 in
set_option maxHeartbeats 1000000 in
theorem Chip_c (a : Option Addr) (cap : Nat) (s : Stn) (c b o : Int) (w : World) (hl : Has w (Pts a s.shape)) (hs : Small s.shape.length) :
    Calls Tryd.prog 40 #[.agg #[.string s.name, .slice a s.shape.length cap, .int .i64 s.depth, .int .i64 s.density, .int .i64 s.grain.x, .int .i64 s.grain.z], .int .i64 c, .int .i64 b, .int .i64 o] w (Gives (fun z : (Option Addr × Nat) × (Option Addr × Nat) => .tuple #[stnV (chipA s c b o) z.1.1 z.1.2, stnV (chipB s c b o) z.2.1 z.2.2, .int .i64 (chipE s c b o)]) (fun z => SepR [Row z.1.1 2 z.1.2 32 encPt (chipA s c b o).shape, Row z.2.1 2 z.2.2 32 encPt (chipB s c b o).shape]) w) := by
  refine calls_of_gk (vs := [_, _, _, _]) Tryd.func40 rfl rfl (Nat.le_of_ble_eq_true rfl) ?_
  refine gk_seq ?_
  refine gk_region ?_
  refine gk_yx rfl rfl (yx_box (vs := [_, _, _, _, _, _]) rfl rfl) fun b4 => ?_
  refine gk_yx rfl rfl (yx_alloc tf34 (zs := [_, _, _, _, _, _]) rfl) fun b8 => ?_
  refine gk_yx rfl rfl (yx_alloc tf34 (zs := [_, _, _, _, _, _]) rfl) fun b9 => ?_
  refine gk_y rfl rfl (y_assign rfl) ?_
  refine gk_nil (gk_sub (T' := [(1,_), (2,_), (3,_), (4,_), (8,_), (9,_), (10,_)]) ⟨rfl, rfl, rfl, rfl, rfl, rfl, rfl, trivial⟩ ?_)
  refine gk_seq ?_
  refine gk_seq ?_
  refine gk_region ?_
  refine gk_y rfl rfl (y_loadBA 2 tf34 rfl rfl (vs := [_, _, _, _, _, _]) rfl rfl) ?_
  refine gk_y rfl rfl (y_call en17 rfl (fun w hw => check_c _ _ s w (Rd.has (Has.rd hl) hw) (by assumption))) ?_
  refine gk_y rfl rfl (y_assign rfl) ?_
  refine gk_nil (gk_sub (T' := [(1,_), (2,_), (3,_), (4,_), (8,_), (9,_), (10,_), (11,_)]) ⟨rfl, rfl, rfl, rfl, rfl, rfl, rfl, rfl, trivial⟩ ?_)
  refine gk_seq ?_
  refine gk_region ?_
  refine gk_y rfl rfl (y_move rfl) ?_
  refine gk_y rfl rfl (y_neq rfl rfl) ?_
  refine gk_nil (gk_sub (T' := [(1,_), (2,_), (3,_), (4,_), (8,_), (9,_), (10,_), (11,_), (21,_)]) ⟨rfl, rfl, rfl, rfl, rfl, rfl, rfl, rfl, rfl, trivial⟩ ?_)
  refine gk_cond rfl (fun hc21 => ?_) (fun hc21 => ?_)
  · have hk : ¬ checkI s = 0 := by simpa using hc21
    obtain ⟨hE, hA, hB⟩ := chip_bad (c := c) (b := b) (o := o) hk
    refine gk_newNil 32 encPt 2 ?_
    refine gk_newNil 32 encPt 2 ?_
    refine gk_front 1 rfl ?_
    refine gk_front 1 rfl ?_
    refine gk_pack 2 ?_
    refine gk_seq ?_
    refine gk_region ?_
    refine gk_y rfl rfl (y_buildL (parts := []) rfl bd34_) ?_
    refine gk_y rfl rfl (y_buildL (parts := []) rfl bd34_) ?_
    refine gk_y rfl rfl (y_move rfl) ?_
    refine gk_storeV 2 tf34 rfl rfl (vs := [_, _, _, _, _, _]) rfl rfl rfl rfl rfl ?_
    refine gk_storeV 1 tf34 rfl rfl (vs := [_, _, _, _, _, _]) rfl rfl rfl rfl rfl ?_
    refine gk_y rfl rfl (y_assign rfl) ?_
    refine gk_nil (gk_sub (T' := [(1,_), (2,_), (3,_), (4,_), (8,_), (9,_), (10,_)]) ⟨rfl, rfl, rfl, rfl, rfl, rfl, rfl, trivial⟩ ?_)
    refine gk_ret ?_
    refine gk_gives ((none, 0), (none, 0)) 0 (rv_three rfl (r1_cellA (i := 2) (vs := [_, _, _, _, _, _]) tf34 rfl rfl rfl rfl) (r1_cellA (i := 1) (vs := [_, _, _, _, _, _]) tf34 rfl rfl rfl rfl) (r1_tmp rfl)) ?_ (by rw [hA, hB]; rfl)
    rw [hA, hB, hE]; try rfl
  · have hk : checkI s = 0 := by simpa using hc21
    have hgd := good_of hk
    have hlen := check_len hk
    refine gk_skip ?_
    refine gk_seq ?_
    refine gk_seq ?_
    refine gk_region ?_
    refine gk_y rfl rfl (y_move rfl) ?_
    refine gk_y rfl rfl (y_fieldAddr fo34_1 rfl) ?_
    refine gk_y rfl rfl (y_loadB1 2 tf31 rfl rfl rfl) ?_
    refine gk_y rfl rfl (y_lenS (Tryd.underlying31) rfl) ?_
    refine gk_y rfl rfl (y_subI rfl rfl (by omega) (by omega)) ?_
    refine gk_y rfl rfl (y_call en55 rfl (fun w hw => within_c _ _ _ w)) ?_
    refine gk_y rfl rfl (y_not rfl) ?_
    refine gk_nil (gk_sub (T' := [(1,_), (2,_), (3,_), (4,_), (8,_), (9,_), (10,_), (31,_)]) ⟨rfl, rfl, rfl, rfl, rfl, rfl, rfl, rfl, trivial⟩ ?_)
    refine gk_cond rfl (fun hc31 => ?_) (fun hc31 => ?_)
    · have hz : cokB s.shape c b o = false := by unfold cokB; rw [show (decide (0 ≤ c) && decide (c ≤ (s.shape.length : Int) - 1)) = false from by simp at hc31 ⊢; omega]; rfl
      obtain ⟨hE, hA, hB⟩ := chip_out hk hz
      refine gk_newNil 32 encPt 2 ?_
      refine gk_newNil 32 encPt 2 ?_
      refine gk_front 1 rfl ?_
      refine gk_front 1 rfl ?_
      refine gk_pack 2 ?_
      refine gk_seq ?_
      refine gk_region ?_
      refine gk_y rfl rfl (y_buildL (parts := []) rfl bd34_) ?_
      refine gk_y rfl rfl (y_buildL (parts := []) rfl bd34_) ?_
      refine gk_storeV 2 tf34 rfl rfl (vs := [_, _, _, _, _, _]) rfl rfl rfl rfl rfl ?_
      refine gk_storeV 1 tf34 rfl rfl (vs := [_, _, _, _, _, _]) rfl rfl rfl rfl rfl ?_
      refine gk_y rfl rfl (y_assign rfl) ?_
      refine gk_nil (gk_sub (T' := [(1,_), (2,_), (3,_), (4,_), (8,_), (9,_), (10,_)]) ⟨rfl, rfl, rfl, rfl, rfl, rfl, rfl, trivial⟩ ?_)
      refine gk_ret ?_
      refine gk_gives ((none, 0), (none, 0)) 0 (rv_three rfl (r1_cellA (i := 2) (vs := [_, _, _, _, _, _]) tf34 rfl rfl rfl rfl) (r1_cellA (i := 1) (vs := [_, _, _, _, _, _]) tf34 rfl rfl rfl rfl) (r1_tmp rfl)) ?_ (by rw [hA, hB]; rfl)
      rw [hA, hB, hE]; try rfl
    · have hcc : (decide (0 ≤ c) && decide (c ≤ (s.shape.length : Int) - 1)) = true := by simpa using hc31
      have hc01 : 0 ≤ c ∧ c < (s.shape.length : Int) := by simp at hcc; omega
      obtain ⟨hf0, ⟨hf1, hn1, ha1⟩, hf2, hn2, ha2⟩ := hgd.nb hc01.1 hc01.2
      have hg1 : farB (atL s.shape (c - 1)) = false := by rw [ha1]; exact hf1
      have hg2 : farB (atL s.shape (c + 1)) = false := by rw [ha2]; exact hf2
      have hm1 : ptAt s.shape c ≠ atL s.shape (c - 1) := by rw [ha1]; exact hn1
      have hm2 : ptAt s.shape c ≠ atL s.shape (c + 1) := by rw [ha2]; exact hn2
      refine gk_skip ?_
      refine gk_seq ?_
      refine gk_region ?_
      refine gk_y rfl rfl (y_fieldAddr fo34_1 rfl) ?_
      refine gk_y rfl rfl (y_loadB1 2 tf31 rfl rfl rfl) ?_
      refine gk_y rfl rfl (y_move rfl) ?_
      refine gk_y rfl rfl (y_indexE se31 rfl rfl (fun _ hw => (Rd.has (Has.rd hl) hw)) (by omega) (by omega)) ?_
      refine gk_y rfl rfl (y_loadE (vs := [_, _]) tf32 rfl (fun _ hw => (Rd.has (Has.rd hl) hw)) (by omega) (by omega) rfl) ?_
      refine gk_yx rfl rfl (yx_alloc tf32 (zs := [_, _]) rfl) fun b12 => ?_
      refine gk_storeV 0 tf32 rfl rfl (vs := [_, _]) rfl rfl rfl rfl rfl ?_
      refine gk_nil (gk_sub (T' := [(1,_), (2,_), (3,_), (4,_), (8,_), (9,_), (10,_), (12,_)]) ⟨rfl, rfl, rfl, rfl, rfl, rfl, rfl, rfl, trivial⟩ ?_)
      refine gk_seq ?_
      refine gk_region ?_
      refine gk_y rfl rfl (y_makeFunc («as» := []) (bs := [_]) rfl rfl) ?_
      refine gk_y rfl rfl (y_assign rfl) ?_
      refine gk_nil (gk_sub (T' := [(1,_), (2,_), (3,_), (4,_), (8,_), (9,_), (10,_), (13,_)]) ⟨rfl, rfl, rfl, rfl, rfl, rfl, rfl, rfl, trivial⟩ ?_)
      refine gk_seq ?_
      refine gk_region ?_
      refine gk_y rfl rfl (y_move rfl) ?_
      refine gk_y rfl rfl (y_fieldAddr fo34_1 rfl) ?_
      refine gk_y rfl rfl (y_loadB1 3 tf31 rfl rfl rfl) ?_
      refine gk_y rfl rfl (y_move rfl) ?_
      refine gk_y rfl rfl (y_subI rfl rfl (by omega) (by omega)) ?_
      refine gk_y rfl rfl (y_call en90 rfl (fun w hw => at_c _ _ s.shape (c - 1) w (Rd.has (Has.rd hl) hw) (by assumption) (by omega) (by omega) (by omega))) ?_
      refine gk_y rfl rfl (y_move rfl) ?_
      refine gk_y rfl rfl (y_callV (fs := []) (cap := [_]) en87 rfl rfl (fun w hw => away_c (ptAt s.shape c) (atL s.shape (c - 1)) b _ w (hw.has (p := 0) rfl) hf0 (by first | exact hg1 | exact hg2) (by first | exact hm1 | exact hm2))) ?_
      refine gk_y rfl rfl (y_move rfl) ?_
      refine gk_y rfl rfl (y_extract rfl rfl) ?_
      refine gk_y rfl rfl (y_extract rfl rfl) ?_
      refine gk_yx rfl rfl (yx_alloc tf32 (zs := [_, _]) rfl) fun b14 => ?_
      refine gk_storeV 0 tf32 rfl rfl (vs := [_, _]) rfl rfl rfl rfl rfl ?_
      refine gk_y rfl rfl (y_assign rfl) ?_
      refine gk_nil (gk_sub (T' := [(1,_), (3,_), (4,_), (8,_), (9,_), (10,_), (13,_), (14,_), (15,_)]) ⟨rfl, rfl, rfl, rfl, rfl, rfl, rfl, rfl, rfl, trivial⟩ ?_)
      refine gk_seq ?_
      refine gk_region ?_
      refine gk_y rfl rfl (y_move rfl) ?_
      refine gk_y rfl rfl (y_fieldAddr fo34_1 rfl) ?_
      refine gk_y rfl rfl (y_loadB1 4 tf31 rfl rfl rfl) ?_
      refine gk_y rfl rfl (y_move rfl) ?_
      refine gk_y rfl rfl (y_addI rfl rfl (by omega) (by omega)) ?_
      refine gk_y rfl rfl (y_call en90 rfl (fun w hw => at_c _ _ s.shape (c + 1) w (Rd.has (Has.rd hl) hw) (by assumption) (by omega) (by omega) (by omega))) ?_
      refine gk_y rfl rfl (y_move rfl) ?_
      refine gk_y rfl rfl (y_callV (fs := []) (cap := [_]) en87 rfl rfl (fun w hw => away_c (ptAt s.shape c) (atL s.shape (c + 1)) o _ w (hw.has (p := 1) rfl) hf0 (by first | exact hg1 | exact hg2) (by first | exact hm1 | exact hm2))) ?_
      refine gk_y rfl rfl (y_move rfl) ?_
      refine gk_y rfl rfl (y_extract rfl rfl) ?_
      refine gk_y rfl rfl (y_extract rfl rfl) ?_
      refine gk_yx rfl rfl (yx_alloc tf32 (zs := [_, _]) rfl) fun b16 => ?_
      refine gk_storeV 0 tf32 rfl rfl (vs := [_, _]) rfl rfl rfl rfl rfl ?_
      refine gk_y rfl rfl (y_assign rfl) ?_
      refine gk_nil (gk_sub (T' := [(4,_), (8,_), (9,_), (10,_), (14,_), (15,_), (16,_), (17,_)]) ⟨rfl, rfl, rfl, rfl, rfl, rfl, rfl, rfl, trivial⟩ ?_)
      refine gk_seq ?_
      refine gk_seq ?_
      refine gk_any 6 (fun _ => mixed) (by kernel_rfl) ?_
      refine ph_y (y_move rfl) ?_
      refine ph_y (y_not rfl) ?_
      refine ph_y (y_move rfl) ?_
      refine ph_gF rfl rfl (fun hgd => by (try rw [hgd]); exact (y_move rfl)) ?_
      refine ph_gF rfl rfl (fun hgd => by (try rw [hgd]); exact (y_not rfl)) ?_
      refine ph_y (y_pickOr rfl rfl rfl) ?_
      refine gk_nil (gk_sub (T' := [(4,_), (8,_), (9,_), (10,_), (14,_), (16,_), (67,_)]) ⟨rfl, rfl, rfl, rfl, rfl, rfl, rfl, trivial⟩ ?_)
      refine gk_cond rfl (fun hc67 => ?_) (fun hc67 => ?_)
      · have hz : cokB s.shape c b o = false := by unfold cokB; rw [hcc]; rw [Bool.eq_false_iff]; intro h; simp at h; simp at hc67; omega
        obtain ⟨hE, hA, hB⟩ := chip_out hk hz
        refine gk_newNil 32 encPt 2 ?_
        refine gk_newNil 32 encPt 2 ?_
        refine gk_front 1 rfl ?_
        refine gk_front 1 rfl ?_
        refine gk_pack 2 ?_
        refine gk_seq ?_
        refine gk_region ?_
        refine gk_y rfl rfl (y_buildL (parts := []) rfl bd34_) ?_
        refine gk_y rfl rfl (y_buildL (parts := []) rfl bd34_) ?_
        refine gk_storeV 5 tf34 rfl rfl (vs := [_, _, _, _, _, _]) rfl rfl rfl rfl rfl ?_
        refine gk_storeV 4 tf34 rfl rfl (vs := [_, _, _, _, _, _]) rfl rfl rfl rfl rfl ?_
        refine gk_y rfl rfl (y_assign rfl) ?_
        refine gk_nil (gk_sub (T' := [(4,_), (8,_), (9,_), (10,_), (14,_), (16,_)]) ⟨rfl, rfl, rfl, rfl, rfl, rfl, trivial⟩ ?_)
        refine gk_ret ?_
        refine gk_gives ((none, 0), (none, 0)) 0 (rv_three rfl (r1_cellA (i := 5) (vs := [_, _, _, _, _, _]) tf34 rfl rfl rfl rfl) (r1_cellA (i := 4) (vs := [_, _, _, _, _, _]) tf34 rfl rfl rfl rfl) (r1_tmp rfl)) ?_ (by rw [hA, hB]; rfl)
        rw [hA, hB, hE]; try rfl
      · have hz : cokB s.shape c b o = true := by unfold cokB; rw [hcc]; simp at hc67 ⊢; omega
        obtain ⟨hE, hA, hB⟩ := chip_ok hk hz
        refine gk_skip ?_
        refine gk_seq ?_
        refine gk_region ?_
        refine gk_y rfl rfl (y_loadBA 5 tf34 rfl rfl (vs := [_, _, _, _, _, _]) rfl rfl) ?_
        refine gk_y rfl rfl (y_loadBA 1 tf32 rfl rfl (vs := [_, _]) rfl rfl) ?_
        refine gk_y rfl rfl (y_loadBA 0 tf32 rfl rfl (vs := [_, _]) rfl rfl) ?_
        refine gk_yx rfl rfl (yx_call en26 rfl (fun w hw => Split_c _ _ s (bpW (ptAt s.shape c) (atL s.shape (c - 1)) b) (bpW (ptAt s.shape c) (atL s.shape (c + 1)) o) w (Rd.has (Has.rd hl) hw) (by assumption))) fun p73 => gk_split ?_
        refine gk_y rfl rfl (y_extract rfl rfl) ?_
        refine gk_y rfl rfl (y_extract rfl rfl) ?_
        refine gk_y rfl rfl (y_extract rfl rfl) ?_
        refine gk_storeV 6 tf34 rfl rfl (vs := [_, _, _, _, _, _]) rfl rfl rfl rfl rfl ?_
        refine gk_storeV 5 tf34 rfl rfl (vs := [_, _, _, _, _, _]) rfl rfl rfl rfl rfl ?_
        refine gk_y rfl rfl (y_assign rfl) ?_
        refine gk_nil (gk_sub (T' := [(8,_), (9,_), (10,_)]) ⟨rfl, rfl, rfl, trivial⟩ ?_)
        refine gk_front 1 rfl ?_
        refine gk_front 1 rfl ?_
        refine gk_pack 2 ?_
        refine gk_ret ?_
        refine gk_gives p73 0 (rv_three rfl (r1_cellA (i := 5) (vs := [_, _, _, _, _, _]) tf34 rfl rfl rfl rfl) (r1_cellA (i := 4) (vs := [_, _, _, _, _, _]) tf34 rfl rfl rfl rfl) (r1_tmp rfl)) ?_ (by rw [hA, hB]; rfl)
        rw [hA, hB, hE]; try rfl

theorem cutright2_c (a : Option Addr) (cap : Nat) (s : Stn) (p q : Pt) (a1 : Option Addr) (c1 : Nat) (A : Stn) (a2 : Option Addr) (c2 : Nat) (B : Stn) (e : Int) (w : World) (hl : Has w (Pts a s.shape)) (hs : Small s.shape.length) (hl1 : Has w (Pts a1 A.shape)) (hl2 : Has w (Pts a2 B.shape)) (hn : Fits s.name.size)
    (hA : A = splitA s p q) (hB : B = splitB s p q) (hE : e = splitE s p q) : Calls Tryd.prog 27 #[stnV s a cap, ptV p, ptV q, stnV A a1 c1, stnV B a2 c2, .int .i64 e] w (Pure (.bool true) w) := by
  subst hA; subst hB; subst hE
  exact cutright_c a cap s p q a1 c1 a2 c2 w hl hs hl1 hl2 hn

set_option maxRecDepth 100000 in
set_option maxHeartbeats 1000000 in
theorem StoneChips_c (a : Option Addr) (cap : Nat) (s : Stn) (c b o : Int) (w : World) (hl : Has w (Pts a s.shape)) (hways : Has w (Elems (some ⟨0, 0, none⟩) 1 encVal [.func (.func 173) #[] #[], .func (.func 174) #[] #[], .func (.func 175) #[] #[], .func (.func 176) #[] #[]])) (hn : Fits s.name.size) :
    Calls Tryd.prog 12 #[.agg #[.string s.name, .slice a s.shape.length cap, .int .i64 s.depth, .int .i64 s.density, .int .i64 s.grain.x, .int .i64 s.grain.z], .int .i64 c, .int .i64 b, .int .i64 o] w (Pure (.bool true) w) := by
  refine calls_of_gk (vs := [_, _, _, _]) Tryd.func12 rfl rfl (Nat.le_of_ble_eq_true rfl) ?_
  refine gk_seq ?_
  refine gk_region ?_
  refine gk_yx rfl rfl (yx_box (vs := [_, _, _, _, _, _]) rfl rfl) fun b4 => ?_
  refine gk_y rfl rfl (y_assign rfl) ?_
  refine gk_nil (gk_sub (T' := [(1,_), (2,_), (3,_), (4,_), (8,_)]) ⟨rfl, rfl, rfl, rfl, rfl, trivial⟩ ?_)
  refine gk_seq ?_
  refine gk_seq ?_
  refine gk_region ?_
  refine gk_y rfl rfl (y_fieldAddr fo26_1 rfl) ?_
  refine gk_y rfl rfl (y_loadB1 0 tf22 rfl rfl rfl) ?_
  refine gk_y rfl rfl (y_lenS (Tryd.underlying22) rfl) ?_
  refine gk_y rfl rfl (y_gtr rfl rfl) ?_
  refine gk_nil (gk_sub (T' := [(1,_), (2,_), (3,_), (4,_), (8,_), (18,_)]) ⟨rfl, rfl, rfl, rfl, rfl, rfl, trivial⟩ ?_)
  refine gk_cond rfl (fun hc18 => ?_) (fun hc18 => ?_)
  · skip
    refine gk_seq ?_
    refine gk_region ?_
    refine gk_y rfl rfl (y_call en15 rfl (fun w hw => wakes_c w (Rd.has (Has.rd hways) hw))) ?_
    refine gk_y rfl rfl (y_assign rfl) ?_
    refine gk_nil (gk_sub (T' := [(1,_), (2,_), (3,_), (4,_), (8,_)]) ⟨rfl, rfl, rfl, rfl, rfl, trivial⟩ ?_)
    refine gk_ret ?_
    refine gk_pure (rv_one rfl (r1_tmp rfl)) ?_
    rfl
  · have hs : Small s.shape.length := by simp only [decide_eq_false_iff_not] at hc18; omega
    refine gk_skip ?_
    refine gk_seq ?_
    refine gk_region ?_
    refine gk_y rfl rfl (y_loadBA 0 tf26 rfl rfl (vs := [_, _, _, _, _, _]) rfl rfl) ?_
    refine gk_yx rfl rfl (yx_call en18 rfl (fun w hw => stone_c _ _ s w (Rd.has (Has.rd hl) hw) (by assumption))) fun p22 => ?_
    refine gk_y rfl rfl (y_move rfl) ?_
    refine gk_y rfl rfl (y_move rfl) ?_
    refine gk_y rfl rfl (y_move rfl) ?_
    refine gk_yx rfl rfl (yx_call en40 rfl (fun w hw => Chip_c _ _ s c b o w (has_row encPt_ok (hw.has (p := 0) rfl)) (by assumption))) fun p26 => gk_split ?_
    refine gk_y rfl rfl (y_move rfl) ?_
    refine gk_y rfl rfl (y_extract rfl rfl) ?_
    refine gk_y rfl rfl (y_extract rfl rfl) ?_
    refine gk_y rfl rfl (y_extract rfl rfl) ?_
    refine gk_yx rfl rfl (yx_alloc tf34 (zs := [_, _, _, _, _, _]) rfl) fun b9 => ?_
    refine gk_yx rfl rfl (yx_alloc tf34 (zs := [_, _, _, _, _, _]) rfl) fun b10 => ?_
    refine gk_storeV 1 tf34 rfl rfl (vs := [_, _, _, _, _, _]) rfl rfl rfl rfl rfl ?_
    refine gk_storeV 0 tf34 rfl rfl (vs := [_, _, _, _, _, _]) rfl rfl rfl rfl rfl ?_
    refine gk_y rfl rfl (y_assign rfl) ?_
    refine gk_nil (gk_sub (T' := [(1,_), (2,_), (3,_), (4,_), (8,_), (9,_), (10,_), (11,_)]) ⟨rfl, rfl, rfl, rfl, rfl, rfl, rfl, rfl, trivial⟩ ?_)
    refine gk_seq ?_
    refine gk_seq ?_
    refine gk_region ?_
    refine gk_y rfl rfl (y_loadBA 5 tf26 rfl rfl (vs := [_, _, _, _, _, _]) rfl rfl) ?_
    refine gk_y rfl rfl (y_call en16 rfl (fun w hw => rvalid_c _ _ s w (Rd.has (Has.rd hl) hw) (by assumption) (by assumption))) ?_
    refine gk_y rfl rfl (y_not rfl) ?_
    refine gk_nil (gk_sub (T' := [(1,_), (2,_), (3,_), (4,_), (8,_), (9,_), (10,_), (11,_), (32,_)]) ⟨rfl, rfl, rfl, rfl, rfl, rfl, rfl, rfl, rfl, trivial⟩ ?_)
    refine gk_cond rfl (fun hc32 => ?_) (fun hc32 => ?_)
    · have hck : checkI s = 2 := by rw [check_valid, if_neg (by rw [show rvalidB s = false from by simpa using hc32]; exact Bool.false_ne_true)]
      obtain ⟨hE, hA, hB⟩ := chip_bad (s := s) (c := c) (b := b) (o := o) (by rw [hck]; decide)
      refine gk_seq ?_
      refine gk_any 14 (fun _ => mixed) (by kernel_rfl) ?_
      refine ph_y (y_move rfl) ?_
      refine ph_y (y_eql rfl rfl) ?_
      refine ph_y (y_move rfl) ?_
      refine ph_gT rfl rfl (fun hgd => by (try rw [hgd]); exact (y_loadBA 1 tf34 rfl rfl (vs := [_, _, _, _, _, _]) rfl rfl)) ?_
      refine ph_gT rfl rfl (fun hgd => by (try rw [hgd]); exact (y_call (v := .bool (noneSB (chipA s c b o))) en20 rfl (fun w hw => none_c _ _ (chipA s c b o) w))) ?_
      refine ph_y (y_pickAnd rfl rfl rfl) ?_
      refine ph_y (y_move rfl) ?_
      refine ph_gT rfl rfl (fun hgd => by (try rw [hgd]); exact (y_loadBA 0 tf34 rfl rfl (vs := [_, _, _, _, _, _]) rfl rfl)) ?_
      refine ph_gT rfl rfl (fun hgd => by (try rw [hgd]); exact (y_call (v := .bool (noneSB (chipB s c b o))) en20 rfl (fun w hw => none_c _ _ (chipB s c b o) w))) ?_
      refine ph_y (y_pickAnd rfl rfl rfl) ?_
      refine ph_y (y_move rfl) ?_
      refine ph_gT rfl rfl (fun hgd => by (try rw [hgd]); exact (y_call (v := .bool true) en15 rfl (fun w hw => wakes_c w (Rd.has (Has.rd hways) hw)))) ?_
      refine ph_y (y_pickAnd rfl rfl rfl) ?_
      refine ph_y (y_assign rfl) ?_
      refine gk_nil (gk_sub (T' := [(1,_), (2,_), (3,_), (4,_), (8,_), (9,_), (10,_), (11,_)]) ⟨rfl, rfl, rfl, rfl, rfl, rfl, rfl, rfl, trivial⟩ ?_)
      refine gk_ret ?_
      refine gk_pure (rv_one rfl (r1_tmp rfl)) ?_
      exact congrArg Value.bool (by rw [hE, hA, hB, hck]; decide +kernel)
    · have hck : checkI s = 0 := by rw [check_valid, if_pos (by simpa using hc32)]
      have hgd := good_of hck
      obtain ⟨hco, hpq⟩ := hgd.chip c b o
      refine gk_skip ?_
      refine gk_seq ?_
      refine gk_region ?_
      refine gk_y rfl rfl (y_loadBA 5 tf26 rfl rfl (vs := [_, _, _, _, _, _]) rfl rfl) ?_
      refine gk_y rfl rfl (y_move rfl) ?_
      refine gk_y rfl rfl (y_move rfl) ?_
      refine gk_y rfl rfl (y_move rfl) ?_
      refine gk_y rfl rfl (y_call en41 rfl (fun w hw => steps3_c _ _ s c b o w (Rd.has (Has.rd hl) hw) (by assumption) hck)) ?_
      refine gk_y rfl rfl (y_move rfl) ?_
      refine gk_y rfl rfl (y_extract rfl rfl) ?_
      refine gk_y rfl rfl (y_extract rfl rfl) ?_
      refine gk_y rfl rfl (y_extract rfl rfl) ?_
      refine gk_yx rfl rfl (yx_alloc tf24 (zs := [_, _]) rfl) fun b12 => ?_
      refine gk_yx rfl rfl (yx_alloc tf24 (zs := [_, _]) rfl) fun b13 => ?_
      refine gk_storeV 1 tf24 rfl rfl (vs := [_, _]) rfl rfl rfl rfl rfl ?_
      refine gk_storeV 0 tf24 rfl rfl (vs := [_, _]) rfl rfl rfl rfl rfl ?_
      refine gk_y rfl rfl (y_assign rfl) ?_
      refine gk_nil (gk_sub (T' := [(4,_), (8,_), (9,_), (10,_), (11,_), (12,_), (13,_), (14,_)]) ⟨rfl, rfl, rfl, rfl, rfl, rfl, rfl, rfl, trivial⟩ ?_)
      refine gk_seq ?_
      refine gk_seq ?_
      refine gk_region ?_
      refine gk_y rfl rfl (y_move rfl) ?_
      refine gk_y rfl rfl (y_not rfl) ?_
      refine gk_nil (gk_sub (T' := [(4,_), (8,_), (9,_), (10,_), (11,_), (12,_), (13,_), (56,_)]) ⟨rfl, rfl, rfl, rfl, rfl, rfl, rfl, rfl, trivial⟩ ?_)
      refine gk_cond rfl (fun hc56 => ?_) (fun hc56 => ?_)
      · have hz : cokB s.shape c b o = false := by rw [hco]; simpa using hc56
        obtain ⟨hE, hA, hB⟩ := chip_out hck hz
        refine gk_seq ?_
        refine gk_any 14 (fun _ => mixed) (by kernel_rfl) ?_
        refine ph_y (y_move rfl) ?_
        refine ph_y (y_eql rfl rfl) ?_
        refine ph_y (y_move rfl) ?_
        refine ph_gT rfl rfl (fun hgd => by (try rw [hgd]); exact (y_loadBA 3 tf34 rfl rfl (vs := [_, _, _, _, _, _]) rfl rfl)) ?_
        refine ph_gT rfl rfl (fun hgd => by (try rw [hgd]); exact (y_call (v := .bool (noneSB (chipA s c b o))) en20 rfl (fun w hw => none_c _ _ (chipA s c b o) w))) ?_
        refine ph_y (y_pickAnd rfl rfl rfl) ?_
        refine ph_y (y_move rfl) ?_
        refine ph_gT rfl rfl (fun hgd => by (try rw [hgd]); exact (y_loadBA 2 tf34 rfl rfl (vs := [_, _, _, _, _, _]) rfl rfl)) ?_
        refine ph_gT rfl rfl (fun hgd => by (try rw [hgd]); exact (y_call (v := .bool (noneSB (chipB s c b o))) en20 rfl (fun w hw => none_c _ _ (chipB s c b o) w))) ?_
        refine ph_y (y_pickAnd rfl rfl rfl) ?_
        refine ph_y (y_move rfl) ?_
        refine ph_gT rfl rfl (fun hgd => by (try rw [hgd]); exact (y_call (v := .bool true) en15 rfl (fun w hw => wakes_c w (Rd.has (Has.rd hways) hw)))) ?_
        refine ph_y (y_pickAnd rfl rfl rfl) ?_
        refine ph_y (y_assign rfl) ?_
        refine gk_nil (gk_sub (T' := [(4,_), (8,_), (9,_), (10,_), (11,_), (12,_), (13,_)]) ⟨rfl, rfl, rfl, rfl, rfl, rfl, rfl, trivial⟩ ?_)
        refine gk_ret ?_
        refine gk_pure (rv_one rfl (r1_tmp rfl)) ?_
        exact congrArg Value.bool (by rw [hE, hA, hB]; decide +kernel)
      · have hso : sokB s.shape c b o = true := by simpa using hc56
        obtain ⟨hsp, hsq⟩ := hpq hso
        obtain ⟨hE, hA, hB⟩ := chip_ok (o := o) (b := b) (c := c) hck (by rw [hco]; exact hso)
        refine gk_skip ?_
        refine gk_seq ?_
        refine gk_any 11 (fun _ => mixed) (by kernel_rfl) ?_
        refine ph_y (y_loadBA 7 tf26 rfl rfl (vs := [_, _, _, _, _, _]) rfl rfl) ?_
        refine ph_y (y_loadBA 1 tf24 rfl rfl (vs := [_, _]) rfl rfl) ?_
        refine ph_y (y_loadBA 0 tf24 rfl rfl (vs := [_, _]) rfl rfl) ?_
        refine ph_y (y_loadBA 3 tf34 rfl rfl (vs := [_, _, _, _, _, _]) rfl rfl) ?_
        refine ph_y (y_loadBA 2 tf34 rfl rfl (vs := [_, _, _, _, _, _]) rfl rfl) ?_
        refine ph_y (y_move rfl) ?_
        refine ph_y (y_call en27 rfl (fun w hw => cutright2_c _ _ s (sP s.shape c b o) (sQ s.shape c b o) _ _ (chipA s c b o) _ _ (chipB s c b o) (chipE s c b o) w (Rd.has (Has.rd hl) hw) (by assumption) (has_row encPt_ok (hw.has (p := 4) rfl)) (has_row encPt_ok (hw.has (p := 5) rfl)) (by assumption) (by rw [hsp, hsq]; exact hA) (by rw [hsp, hsq]; exact hB) (by rw [hsp, hsq]; exact hE))) ?_
        refine ph_y (y_move rfl) ?_
        refine ph_gk rfl rfl (y_call en15 rfl (fun w hw => wakes_c w (Rd.has (Has.rd hways) hw))) ?_
        refine ph_y (y_pick rfl rfl rfl) ?_
        refine ph_y (y_assign rfl) ?_
        refine gk_nil (gk_sub (T' := [(8,_)]) ⟨rfl, trivial⟩ ?_)
        refine gk_ret ?_
        refine gk_pure (rv_one rfl (r1_tmp rfl)) ?_
        rfl

end Go.Proofs.YtahahmelnaphjaaDoor
