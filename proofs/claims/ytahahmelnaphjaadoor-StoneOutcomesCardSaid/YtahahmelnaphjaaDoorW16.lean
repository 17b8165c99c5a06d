/- Walks: cuts in the document's own program. No statement of the seat is proved in this text. -/
import Derived.Test.YtahahmelnaphjaaDoorW15
import Derived.Test.YtahahmelnaphjaaDoorD7
namespace Go.Proofs.YtahahmelnaphjaaDoor
open Go.K Go.Stn Go.RowKit
theorem en86 : En Tryd.prog 86 := en_of Tryd.func86 (by kernel_rfl) (by kernel_rfl)
theorem bs22_2 (x0_0 : Int) (x0_1 : Int) (x1_0 : Int) (x1_1 : Int) (w : World) : (Instr.buildSlice 22 2 #[(0, .agg #[.int .i64 x0_0, .int .i64 x0_1]), (1, .agg #[.int .i64 x1_0, .int .i64 x1_1])]).run Tryd.prog w = .ok (.slice (some ⟨w.heap.size, 0, none⟩) 2 2) (w.alloc (.cells (([(⟨x0_0, x0_1⟩ : Pt), (⟨x1_0, x1_1⟩ : Pt)] : List (Pt)).flatMap encPt).toArray 24)) := by kernel_rfl

set_option maxRecDepth 100000 in
set_option maxHeartbeats 1000000 in
theorem ron_c (a b p : Pt) (w : World)  :
    Calls Tryd.prog 86 #[.agg #[.int .i64 a.x, .int .i64 a.z], .agg #[.int .i64 b.x, .int .i64 b.z], .agg #[.int .i64 p.x, .int .i64 p.z]] w (Pure (.bool (ronB a b p)) w) := by
  refine calls_of_gk (vs := [_, _, _]) Tryd.func86 rfl rfl (Nat.le_of_ble_eq_true rfl) ?_
  refine gk_seq ?_
  refine gk_region ?_
  refine gk_yx rfl rfl (yx_box (vs := [_, _]) rfl rfl) fun b3 => ?_
  refine gk_yx rfl rfl (yx_box (vs := [_, _]) rfl rfl) fun b4 => ?_
  refine gk_yx rfl rfl (yx_box (vs := [_, _]) rfl rfl) fun b5 => ?_
  refine gk_y rfl rfl (y_assign rfl) ?_
  refine gk_nil (gk_sub (T' := [(3,_), (4,_), (5,_), (6,_)]) ⟨rfl, rfl, rfl, rfl, trivial⟩ ?_)
  refine gk_seq ?_
  refine gk_any 36 (fun _ => mixed) (by kernel_rfl) ?_
  refine ph_y (y_loadBA 2 tf24 rfl rfl (vs := [_, _]) rfl rfl) ?_
  refine ph_y (y_loadBA 1 tf24 rfl rfl (vs := [_, _]) rfl rfl) ?_
  refine ph_y (y_loadBA 0 tf24 rfl rfl (vs := [_, _]) rfl rfl) ?_
  refine ph_y (y_call en79 rfl (fun w hw => side_c ⟨_, _⟩ ⟨_, _⟩ ⟨_, _⟩ w)) ?_
  refine ph_y (y_eql rfl rfl) ?_
  refine ph_y (y_move rfl) ?_
  refine ph_gT rfl rfl (fun hgd => by (try rw [hgd]); exact (y_fieldAddr fo24_0 rfl)) ?_
  refine ph_gT rfl rfl (fun hgd => by (try rw [hgd]); exact (y_loadB1 0 tf3 rfl rfl rfl)) ?_
  refine ph_gT rfl rfl (fun hgd => by (try rw [hgd]); exact (y_fieldAddr fo24_0 rfl)) ?_
  refine ph_gT rfl rfl (fun hgd => by (try rw [hgd]); exact (y_loadB1 2 tf3 rfl rfl rfl)) ?_
  refine ph_gT rfl rfl (fun hgd => by (try rw [hgd]); exact (y_fieldAddr fo24_0 rfl)) ?_
  refine ph_gT rfl rfl (fun hgd => by (try rw [hgd]); exact (y_loadB1 1 tf3 rfl rfl rfl)) ?_
  refine ph_gT rfl rfl (fun hgd => by (try rw [hgd]); exact (y_min rfl rfl)) ?_
  refine ph_gT rfl rfl (fun hgd => by (try rw [hgd]); exact (y_fieldAddr fo24_0 rfl)) ?_
  refine ph_gT rfl rfl (fun hgd => by (try rw [hgd]); exact (y_loadB1 2 tf3 rfl rfl rfl)) ?_
  refine ph_gT rfl rfl (fun hgd => by (try rw [hgd]); exact (y_fieldAddr fo24_0 rfl)) ?_
  refine ph_gT rfl rfl (fun hgd => by (try rw [hgd]); exact (y_loadB1 1 tf3 rfl rfl rfl)) ?_
  refine ph_gT rfl rfl (fun hgd => by (try rw [hgd]); exact (y_max rfl rfl)) ?_
  refine ph_gT rfl rfl (fun hgd => by (try rw [hgd]); exact (y_call (v := .bool (decide ((min a.x b.x) ≤ p.x) && decide (p.x ≤ (max a.x b.x)))) en50 rfl (fun w hw => in_c _ _ _ w))) ?_
  refine ph_y (y_pickAnd rfl rfl rfl) ?_
  refine ph_y (y_move rfl) ?_
  refine ph_gT rfl rfl (fun hgd => by (try rw [hgd]); exact (y_fieldAddr fo24_1 rfl)) ?_
  refine ph_gT rfl rfl (fun hgd => by (try rw [hgd]); exact (y_loadB1 0 tf3 rfl rfl rfl)) ?_
  refine ph_gT rfl rfl (fun hgd => by (try rw [hgd]); exact (y_fieldAddr fo24_1 rfl)) ?_
  refine ph_gT rfl rfl (fun hgd => by (try rw [hgd]); exact (y_loadB1 2 tf3 rfl rfl rfl)) ?_
  refine ph_gT rfl rfl (fun hgd => by (try rw [hgd]); exact (y_fieldAddr fo24_1 rfl)) ?_
  refine ph_gT rfl rfl (fun hgd => by (try rw [hgd]); exact (y_loadB1 1 tf3 rfl rfl rfl)) ?_
  refine ph_gT rfl rfl (fun hgd => by (try rw [hgd]); exact (y_min rfl rfl)) ?_
  refine ph_gT rfl rfl (fun hgd => by (try rw [hgd]); exact (y_fieldAddr fo24_1 rfl)) ?_
  refine ph_gT rfl rfl (fun hgd => by (try rw [hgd]); exact (y_loadB1 2 tf3 rfl rfl rfl)) ?_
  refine ph_gT rfl rfl (fun hgd => by (try rw [hgd]); exact (y_fieldAddr fo24_1 rfl)) ?_
  refine ph_gT rfl rfl (fun hgd => by (try rw [hgd]); exact (y_loadB1 1 tf3 rfl rfl rfl)) ?_
  refine ph_gT rfl rfl (fun hgd => by (try rw [hgd]); exact (y_max rfl rfl)) ?_
  refine ph_gT rfl rfl (fun hgd => by (try rw [hgd]); exact (y_call (v := .bool (decide ((min a.z b.z) ≤ p.z) && decide (p.z ≤ (max a.z b.z)))) en50 rfl (fun w hw => in_c _ _ _ w))) ?_
  refine ph_y (y_pickAnd rfl rfl rfl) ?_
  refine ph_y (y_assign rfl) ?_
  refine gk_nil (gk_sub (T' := [(6,_)]) ⟨rfl, trivial⟩ ?_)
  refine gk_ret ?_
  refine gk_pure (rv_one rfl (r1_tmp rfl)) ?_
  rfl

set_option maxRecDepth 100000 in
set_option maxHeartbeats 1000000 in
theorem rbord_c (a : Option Addr) (cap : Nat) (l : List Pt) (p : Pt) (w : World) (hl : Has w (Pts a l)) (hs : Small l.length) :
    Calls Tryd.prog 37 #[.slice a l.length cap, .agg #[.int .i64 p.x, .int .i64 p.z]] w (Pure (.bool (rbordB l p)) w) := by
  refine calls_of_gk (vs := [_, _]) Tryd.func37 rfl rfl (Nat.le_of_ble_eq_true rfl) ?_
  refine gk_seq ?_
  refine gk_region ?_
  refine gk_yx rfl rfl (yx_box (vs := [_, _]) rfl rfl) fun b3 => ?_
  refine gk_y rfl rfl (y_assign rfl) ?_
  refine gk_nil (gk_sub (T' := [(0,_), (3,_), (4,_)]) ⟨rfl, rfl, rfl, trivial⟩ ?_)
  refine gk_seq ?_
  refine gk_seq ?_
  refine gk_any 10 (fun _ => mixed) (by kernel_rfl) ?_
  refine ph_y (y_fieldAddr fo24_0 rfl) ?_
  refine ph_y (y_loadB1 0 tf3 rfl rfl rfl) ?_
  refine ph_y (y_call en50 rfl (fun w hw => in_c _ _ _ w)) ?_
  refine ph_y (y_not rfl) ?_
  refine ph_y (y_move rfl) ?_
  refine ph_gF rfl rfl (fun hgd => by (try rw [hgd]); exact (y_fieldAddr fo24_1 rfl)) ?_
  refine ph_gF rfl rfl (fun hgd => by (try rw [hgd]); exact (y_loadB1 0 tf3 rfl rfl rfl)) ?_
  refine ph_gF rfl rfl (fun hgd => by (try rw [hgd]); exact (y_call (v := .bool (decide (0 ≤ p.z) && decide (p.z ≤ 2000))) en50 rfl (fun w hw => in_c _ _ _ w))) ?_
  refine ph_gF rfl rfl (fun hgd => by (try rw [hgd]); exact (y_not rfl)) ?_
  refine ph_y (y_pickOr rfl rfl rfl) ?_
  refine gk_nil (gk_sub (T' := [(0,_), (3,_), (4,_), (15,_)]) ⟨rfl, rfl, rfl, rfl, trivial⟩ ?_)
  refine gk_cond rfl (fun hc15 => ?_) (fun hc15 => ?_)
  · have hf : farB p = true := hc15
    refine gk_seq ?_
    refine gk_region ?_
    refine gk_y rfl rfl (y_assign rfl) ?_
    refine gk_nil (gk_sub (T' := [(0,_), (3,_), (4,_)]) ⟨rfl, rfl, rfl, trivial⟩ ?_)
    refine gk_ret ?_
    refine gk_pure (rv_one rfl (r1_tmp rfl)) ?_
    rw [rbord_far hf]
  · have hf : farB p = false := hc15
    refine gk_skip ?_
    refine gk_seq ?_
    refine gk_seq ?_
    refine gk_region ?_
    refine gk_y rfl rfl (y_assign rfl) ?_
    refine gk_nil (gk_sub (T' := [(0,_), (3,_), (4,_), (5,_)]) ⟨rfl, rfl, rfl, rfl, trivial⟩ ?_)
    refine gk_block ?_
    refine gk_loop (X := Int) (fun (i : Int) => [(0, .slice a l.length cap), (3, .pointer (some ⟨b3, 0, none⟩)), (4, .bool false), (5, .int .i64 i)]) (fun (i : Int) => [Box b3 [.int .i64 p.x, .int .i64 p.z] 24]) (fun (i : Int) => (0 ≤ i ∧ i ≤ l.length ∧ ∀ j : Nat, (j : Int) < i → ronB (ptAt l (j : Int)) (nextL l (j : Int)) p = false)) (fun (i : Int) => (l.length - i).toNat) 0 ⟨rfl, rfl, rfl, rfl, trivial⟩ rfl ?_ ?_
    · exact ⟨by omega, by omega, fun j hj => by omega⟩
    · rintro i hI
      obtain ⟨g0, g1, g2⟩ := hI
      refine gk_seq ?_
      refine gk_seq ?_
      refine gk_region ?_
      refine gk_y rfl rfl (y_move rfl) ?_
      refine gk_y rfl rfl (y_move rfl) ?_
      refine gk_y rfl rfl (y_lenS (Tryd.underlying22) rfl) ?_
      refine gk_y rfl rfl (y_lss rfl rfl) ?_
      refine gk_nil (gk_sub (T' := [(0,_), (3,_), (4,_), (5,_), (19,_)]) ⟨rfl, rfl, rfl, rfl, rfl, trivial⟩ ?_)
      refine gk_cond rfl (fun hc19 => ?_) (fun hc19 => ?_)
      · simp only [decide_eq_true_eq] at hc19
        refine gk_skip ?_
        refine gk_seq ?_
        refine gk_block ?_
        refine gk_seq ?_
        refine gk_any 9 (fun _ => mixed) (by kernel_rfl) ?_
        refine ph_y (y_move rfl) ?_
        refine ph_y (y_move rfl) ?_
        refine ph_y (y_indexE se22 rfl rfl (fun _ hw => (Rd.has (Has.rd hl) hw)) (by omega) (by omega)) ?_
        refine ph_y (y_loadE (vs := [_, _]) tf24 rfl (fun _ hw => (Rd.has (Has.rd hl) hw)) (by omega) (by omega) rfl) ?_
        refine ph_y (y_move rfl) ?_
        refine ph_y (y_move rfl) ?_
        refine ph_y (y_call en67 rfl (fun w hw => next_c _ _ l i w (Rd.has (Has.rd hl) hw) (by assumption) (by omega) (by omega) (by omega))) ?_
        refine ph_y (y_loadBA 0 tf24 rfl rfl (vs := [_, _]) rfl rfl) ?_
        refine ph_y (y_call en86 rfl (fun w hw => ron_c (l.getD (i).toNat default) (nextL l i) p w)) ?_
        refine gk_nil (gk_sub (T' := [(0,_), (3,_), (4,_), (5,_), (30,_)]) ⟨rfl, rfl, rfl, rfl, rfl, trivial⟩ ?_)
        refine gk_cond rfl (fun hc30 => ?_) (fun hc30 => ?_)
        · skip
          refine gk_seq ?_
          refine gk_region ?_
          refine gk_y rfl rfl (y_assign rfl) ?_
          refine gk_nil (gk_sub (T' := [(0,_), (3,_), (4,_), (5,_)]) ⟨rfl, rfl, rfl, rfl, trivial⟩ ?_)
          refine gk_ret ?_
          refine gk_pure (rv_one rfl (r1_tmp rfl)) ?_
          rw [rbord_yes hf g0 (by omega) hc30]
        · skip
          refine gk_skip ?_
          refine gk_region ?_
          refine gk_y rfl rfl (y_move rfl) ?_
          refine gk_y rfl rfl (y_addI rfl rfl (by omega) (by omega)) ?_
          refine gk_y rfl rfl (y_assign rfl) ?_
          refine gk_nil (gk_sub (T' := [(0,_), (3,_), (4,_), (5,_)]) ⟨rfl, rfl, rfl, rfl, trivial⟩ ?_)
          exact gk_next _ ⟨rfl, rfl, rfl, rfl, trivial⟩ rfl ⟨by omega, by omega, below_succ (f := fun i => ronB (ptAt l i) (nextL l i) p) g2 hc30⟩ (by omega)
      · simp only [decide_eq_false_iff_not] at hc19
        refine gk_exit rfl ?_
        refine gk_seq ?_
        refine gk_region ?_
        refine gk_y rfl rfl (y_assign rfl) ?_
        refine gk_nil (gk_sub (T' := [(4,_)]) ⟨rfl, trivial⟩ ?_)
        refine gk_ret ?_
        refine gk_pure (rv_one rfl (r1_tmp rfl)) ?_
        rw [rbord_no (by omega) g2]

set_option maxRecDepth 100000 in
set_option maxHeartbeats 1000000 in
theorem rapart_c (a : Option Addr) (cap : Nat) (l : List Pt) (p q : Pt) (w : World) (hl : Has w (Pts a l)) (hs : Small l.length) :
    Calls Tryd.prog 72 #[.slice a l.length cap, .agg #[.int .i64 p.x, .int .i64 p.z], .agg #[.int .i64 q.x, .int .i64 q.z]] w (Pure (.bool (rapartB l p q)) w) := by
  refine calls_of_gk (vs := [_, _, _]) Tryd.func72 rfl rfl (Nat.le_of_ble_eq_true rfl) ?_
  refine gk_seq ?_
  refine gk_region ?_
  refine gk_yx rfl rfl (yx_box (vs := [_, _]) rfl rfl) fun b4 => ?_
  refine gk_yx rfl rfl (yx_box (vs := [_, _]) rfl rfl) fun b5 => ?_
  refine gk_y rfl rfl (y_assign rfl) ?_
  refine gk_nil (gk_sub (T' := [(0,_), (4,_), (5,_), (6,_)]) ⟨rfl, rfl, rfl, rfl, trivial⟩ ?_)
  refine gk_seq ?_
  refine gk_seq ?_
  refine gk_region ?_
  refine gk_y rfl rfl (y_assign rfl) ?_
  refine gk_nil (gk_sub (T' := [(0,_), (4,_), (5,_), (6,_), (7,_)]) ⟨rfl, rfl, rfl, rfl, rfl, trivial⟩ ?_)
  refine gk_block ?_
  refine gk_loop (X := Int) (fun (i : Int) => [(0, .slice a l.length cap), (4, .pointer (some ⟨b4, 0, none⟩)), (5, .pointer (some ⟨b5, 0, none⟩)), (6, .bool false), (7, .int .i64 i)]) (fun (i : Int) => [Box b5 [.int .i64 q.x, .int .i64 q.z] 24, Box b4 [.int .i64 p.x, .int .i64 p.z] 24]) (fun (i : Int) => (0 ≤ i ∧ i ≤ l.length ∧ ∀ j : Nat, (j : Int) < i → rboth l p q (j : Int) = false)) (fun (i : Int) => (l.length - i).toNat) 0 ⟨rfl, rfl, rfl, rfl, rfl, trivial⟩ rfl ?_ ?_
  · exact ⟨by omega, by omega, fun j hj => by omega⟩
  · rintro i hI
    obtain ⟨g0, g1, g2⟩ := hI
    refine gk_seq ?_
    refine gk_seq ?_
    refine gk_region ?_
    refine gk_y rfl rfl (y_move rfl) ?_
    refine gk_y rfl rfl (y_move rfl) ?_
    refine gk_y rfl rfl (y_lenS (Tryd.underlying22) rfl) ?_
    refine gk_y rfl rfl (y_lss rfl rfl) ?_
    refine gk_nil (gk_sub (T' := [(0,_), (4,_), (5,_), (6,_), (7,_), (11,_)]) ⟨rfl, rfl, rfl, rfl, rfl, rfl, trivial⟩ ?_)
    refine gk_cond rfl (fun hc11 => ?_) (fun hc11 => ?_)
    · simp only [decide_eq_true_eq] at hc11
      refine gk_skip ?_
      refine gk_seq ?_
      refine gk_block ?_
      refine gk_seq ?_
      refine gk_any 20 (fun _ => mixed) (by kernel_rfl) ?_
      refine ph_y (y_move rfl) ?_
      refine ph_y (y_move rfl) ?_
      refine ph_y (y_indexE se22 rfl rfl (fun _ hw => (Rd.has (Has.rd hl) hw)) (by omega) (by omega)) ?_
      refine ph_y (y_loadE (vs := [_, _]) tf24 rfl (fun _ hw => (Rd.has (Has.rd hl) hw)) (by omega) (by omega) rfl) ?_
      refine ph_y (y_move rfl) ?_
      refine ph_y (y_move rfl) ?_
      refine ph_y (y_call en67 rfl (fun w hw => next_c _ _ l i w (Rd.has (Has.rd hl) hw) (by assumption) (by omega) (by omega) (by omega))) ?_
      refine ph_y (y_loadBA 1 tf24 rfl rfl (vs := [_, _]) rfl rfl) ?_
      refine ph_y (y_call en86 rfl (fun w hw => ron_c (l.getD (i).toNat default) (nextL l i) p w)) ?_
      refine ph_y (y_move rfl) ?_
      refine ph_gT rfl rfl (fun hgd => by (try rw [hgd]); exact (y_move rfl)) ?_
      refine ph_gT rfl rfl (fun hgd => by (try rw [hgd]); exact (y_move rfl)) ?_
      refine ph_gT rfl rfl (fun hgd => by (try rw [hgd]); exact (y_indexE se22 rfl rfl (fun _ hw => (Rd.has (Has.rd hl) hw)) (by omega) (by omega))) ?_
      refine ph_gT rfl rfl (fun hgd => by (try rw [hgd]); exact (y_loadE (vs := [_, _]) tf24 rfl (fun _ hw => (Rd.has (Has.rd hl) hw)) (by omega) (by omega) rfl)) ?_
      refine ph_gT rfl rfl (fun hgd => by (try rw [hgd]); exact (y_move rfl)) ?_
      refine ph_gT rfl rfl (fun hgd => by (try rw [hgd]); exact (y_move rfl)) ?_
      refine ph_gT rfl rfl (fun hgd => by (try rw [hgd]); exact (y_call (v := .agg #[.int .i64 ((nextL l i).x), .int .i64 ((nextL l i).z)]) en67 rfl (fun w hw => next_c _ _ l i w (Rd.has (Has.rd hl) hw) (by assumption) (by omega) (by omega) (by omega)))) ?_
      refine ph_gT rfl rfl (fun hgd => by (try rw [hgd]); exact (y_loadBA 0 tf24 rfl rfl (vs := [_, _]) rfl rfl)) ?_
      refine ph_gT rfl rfl (fun hgd => by (try rw [hgd]); exact (y_call (v := .bool (ronB (l.getD (i).toNat default) (nextL l i) q)) en86 rfl (fun w hw => ron_c (l.getD (i).toNat default) (nextL l i) q w))) ?_
      refine ph_y (y_pickAnd rfl rfl rfl) ?_
      refine gk_nil (gk_sub (T' := [(0,_), (4,_), (5,_), (6,_), (7,_), (33,_)]) ⟨rfl, rfl, rfl, rfl, rfl, rfl, trivial⟩ ?_)
      refine gk_cond rfl (fun hc33 => ?_) (fun hc33 => ?_)
      · have hc33 : rboth l p q i = true := hc33
        refine gk_seq ?_
        refine gk_region ?_
        refine gk_y rfl rfl (y_assign rfl) ?_
        refine gk_nil (gk_sub (T' := [(0,_), (4,_), (5,_), (6,_), (7,_)]) ⟨rfl, rfl, rfl, rfl, rfl, trivial⟩ ?_)
        refine gk_ret ?_
        refine gk_pure (rv_one rfl (r1_tmp rfl)) ?_
        rw [rapart_no g0 (by omega) hc33]
      · have hc33 : rboth l p q i = false := hc33
        refine gk_skip ?_
        refine gk_region ?_
        refine gk_y rfl rfl (y_move rfl) ?_
        refine gk_y rfl rfl (y_addI rfl rfl (by omega) (by omega)) ?_
        refine gk_y rfl rfl (y_assign rfl) ?_
        refine gk_nil (gk_sub (T' := [(0,_), (4,_), (5,_), (6,_), (7,_)]) ⟨rfl, rfl, rfl, rfl, rfl, trivial⟩ ?_)
        exact gk_next _ ⟨rfl, rfl, rfl, rfl, rfl, trivial⟩ rfl ⟨by omega, by omega, below_succ (f := rboth l p q) g2 hc33⟩ (by omega)
    · simp only [decide_eq_false_iff_not] at hc11
      refine gk_exit rfl ?_
      refine gk_seq ?_
      refine gk_region ?_
      refine gk_y rfl rfl (y_assign rfl) ?_
      refine gk_nil (gk_sub (T' := [(6,_)]) ⟨rfl, trivial⟩ ?_)
      refine gk_ret ?_
      refine gk_pure (rv_one rfl (r1_tmp rfl)) ?_
      rw [rapart_yes (by omega) g2]

set_option maxRecDepth 100000 in
set_option maxHeartbeats 1000000 in
theorem left_c (a : Option Addr) (cap : Nat) (l : List Pt) (p q : Pt) (w : World) (hl : Has w (Pts a l)) (hs : Small l.length) :
    Calls Tryd.prog 33 #[.slice a l.length cap, .agg #[.int .i64 p.x, .int .i64 p.z], .agg #[.int .i64 q.x, .int .i64 q.z]] w (Gives (fun z : Option Addr × Nat => .slice z.1 (leftL l p q).length z.2) (fun z => Row z.1 2 z.2 24 encPt (leftL l p q)) w) := by
  obtain ⟨e0, e1, e2⟩ := from_in (l := l) (p := p) (q := q) l.length
  refine calls_of_gk (vs := [_, _, _]) Tryd.func33 rfl rfl (Nat.le_of_ble_eq_true rfl) ?_
  refine gk_seq ?_
  refine gk_region ?_
  refine gk_yx rfl rfl (yx_box (vs := [_, _]) rfl rfl) fun b4 => ?_
  refine gk_yx rfl rfl (yx_box (vs := [_, _]) rfl rfl) fun b5 => ?_
  refine gk_y rfl rfl (y_assign rfl) ?_
  refine gk_nil (gk_sub (T' := [(0,_), (4,_), (5,_), (6,_)]) ⟨rfl, rfl, rfl, rfl, trivial⟩ ?_)
  refine gk_seq ?_
  refine gk_region ?_
  refine gk_y rfl rfl (y_loadBA 1 tf24 rfl rfl (vs := [_, _]) rfl rfl) ?_
  refine gk_y rfl rfl (y_loadBA 0 tf24 rfl rfl (vs := [_, _]) rfl rfl) ?_
  refine gk_yx rfl rfl (yx_buildSlice rfl (bs22_2 _ _ _ _) encPt_ok rfl) fun b14 => ?_
  refine gk_y rfl rfl (y_assign rfl) ?_
  refine gk_nil (gk_sub (T' := [(0,_), (4,_), (5,_), (6,_), (7,_)]) ⟨rfl, rfl, rfl, rfl, rfl, trivial⟩ ?_)
  refine gk_seq ?_
  refine gk_region ?_
  refine gk_y rfl rfl (y_assign rfl) ?_
  refine gk_nil (gk_sub (T' := [(0,_), (4,_), (5,_), (6,_), (7,_), (8,_)]) ⟨rfl, rfl, rfl, rfl, rfl, rfl, trivial⟩ ?_)
  refine gk_seq ?_
  refine gk_seq ?_
  refine gk_region ?_
  refine gk_y rfl rfl (y_assign rfl) ?_
  refine gk_nil (gk_sub (T' := [(0,_), (4,_), (5,_), (6,_), (7,_), (8,_), (9,_)]) ⟨rfl, rfl, rfl, rfl, rfl, rfl, rfl, trivial⟩ ?_)
  refine gk_block ?_
  refine gk_loop (X := Int) (fun i => [(0, .slice a l.length cap), (4, .pointer (some ⟨b4, 0, none⟩)), (5, .pointer (some ⟨b5, 0, none⟩)), (6, .slice none 0 0), (7, .slice (some ⟨b14, 0, none⟩) 2 2), (8, .int .i64 (fromN l p q i.toNat)), (9, .int .i64 i)]) (fun i => [Row (some ⟨b14, 0, none⟩) 2 2 24 encPt [⟨p.x, p.z⟩, ⟨q.x, q.z⟩], Box b5 [.int .i64 q.x, .int .i64 q.z] 24, Box b4 [.int .i64 p.x, .int .i64 p.z] 24]) (fun i => (0 ≤ i ∧ i ≤ l.length)) (fun i => (l.length - i).toNat) 0 ⟨rfl, rfl, rfl, rfl, rfl, rfl, rfl, trivial⟩ rfl ?_ ?_
  · exact ⟨by omega, by omega⟩
  · rintro i hI
    obtain ⟨g0, g1⟩ := hI
    have r0 : (l.length : Int) ≠ 0 → 0 ≤ (i + (l.length : Int) - 1).tmod (l.length : Int) := fun h => Int.tmod_nonneg _ (by omega)
    have r1 : (l.length : Int) ≠ 0 → (i + (l.length : Int) - 1).tmod (l.length : Int) < (l.length : Int) := fun h => Int.tmod_lt_of_pos _ (by omega)
    refine gk_seq ?_
    refine gk_seq ?_
    refine gk_region ?_
    refine gk_y rfl rfl (y_move rfl) ?_
    refine gk_y rfl rfl (y_move rfl) ?_
    refine gk_y rfl rfl (y_lenS (Tryd.underlying22) rfl) ?_
    refine gk_y rfl rfl (y_lss rfl rfl) ?_
    refine gk_nil (gk_sub (T' := [(0,_), (4,_), (5,_), (6,_), (7,_), (8,_), (9,_), (18,_)]) ⟨rfl, rfl, rfl, rfl, rfl, rfl, rfl, rfl, trivial⟩ ?_)
    refine gk_cond rfl (fun hc18 => ?_) (fun hc18 => ?_)
    · simp only [decide_eq_true_eq] at hc18
      refine gk_skip ?_
      refine gk_seq ?_
      refine gk_block ?_
      refine gk_seq ?_
      refine gk_any 25 (fun _ => mixed) (by kernel_rfl) ?_
      refine ph_y (y_loadBA 2 tf24 rfl rfl (vs := [_, _]) rfl rfl) ?_
      refine ph_y (y_loadBA 1 tf24 rfl rfl (vs := [_, _]) rfl rfl) ?_
      refine ph_y (y_move rfl) ?_
      refine ph_y (y_move rfl) ?_
      refine ph_y (y_indexE se22 rfl rfl (fun _ hw => (Rd.has (Has.rd hl) hw)) (by omega) (by omega)) ?_
      refine ph_y (y_loadE (vs := [_, _]) tf24 rfl (fun _ hw => (Rd.has (Has.rd hl) hw)) (by omega) (by omega) rfl) ?_
      refine ph_y (y_call en79 rfl (fun w hw => side_c ⟨_, _⟩ ⟨_, _⟩ ⟨_, _⟩ w)) ?_
      refine ph_y (y_gtr rfl rfl) ?_
      refine ph_y (y_move rfl) ?_
      refine ph_gT rfl rfl (fun hgd => by (try rw [hgd]); exact (y_loadBA 2 tf24 rfl rfl (vs := [_, _]) rfl rfl)) ?_
      refine ph_gT rfl rfl (fun hgd => by (try rw [hgd]); exact (y_loadBA 1 tf24 rfl rfl (vs := [_, _]) rfl rfl)) ?_
      refine ph_gT rfl rfl (fun hgd => by (try rw [hgd]); exact (y_move rfl)) ?_
      refine ph_gT rfl rfl (fun hgd => by (try rw [hgd]); exact (y_move rfl)) ?_
      refine ph_gT rfl rfl (fun hgd => by (try rw [hgd]); exact (y_move rfl)) ?_
      refine ph_gT rfl rfl (fun hgd => by (try rw [hgd]); exact (y_lenS (Tryd.underlying22) rfl)) ?_
      refine ph_gT rfl rfl (fun hgd => by (try rw [hgd]); exact (y_addI rfl rfl (by omega) (by omega))) ?_
      refine ph_gT rfl rfl (fun hgd => by (try rw [hgd]); exact (y_subI rfl rfl (by omega) (by omega))) ?_
      refine ph_gT rfl rfl (fun hgd => by (try rw [hgd]); exact (y_move rfl)) ?_
      refine ph_gT rfl rfl (fun hgd => by (try rw [hgd]); exact (y_lenS (Tryd.underlying22) rfl)) ?_
      refine ph_gT rfl rfl (fun hgd => by (try rw [hgd]); exact (y_rem rfl rfl (by omega))) ?_
      refine ph_gT rfl rfl (fun hgd => by (try rw [hgd]); exact (y_indexE se22 rfl rfl (fun _ hw => (Rd.has (Has.rd hl) hw)) (by omega) (by omega))) ?_
      refine ph_gT rfl rfl (fun hgd => by (try rw [hgd]); exact (y_loadE (vs := [_, _]) tf24 rfl (fun _ hw => (Rd.has (Has.rd hl) hw)) (by omega) (by omega) rfl)) ?_
      refine ph_gT rfl rfl (fun hgd => by (try rw [hgd]); exact (y_call (v := .int .i64 (sideW p q (l.getD ((Int.tmod ((i + (l.length : Int)) - 1) (l.length : Int))).toNat default))) en79 rfl (fun w hw => side_c ⟨_, _⟩ ⟨_, _⟩ ⟨_, _⟩ w))) ?_
      refine ph_gT rfl rfl (fun hgd => by (try rw [hgd]); exact (y_leq rfl rfl)) ?_
      refine ph_y (y_pickAnd rfl rfl rfl) ?_
      refine gk_nil (gk_sub (T' := [(0,_), (4,_), (5,_), (6,_), (7,_), (8,_), (9,_), (45,_)]) ⟨rfl, rfl, rfl, rfl, rfl, rfl, rfl, rfl, trivial⟩ ?_)
      refine gk_cond rfl (fun hc45 => ?_) (fun hc45 => ?_)
      · have hfs := from_succ (l := l) (p := p) (q := q) g0
        rw [if_pos (show leftC l p q i = true from hc45)] at hfs
        refine gk_region ?_
        refine gk_y rfl rfl (y_move rfl) ?_
        refine gk_y rfl rfl (y_assign rfl) ?_
        refine gk_nil (gk_sub (T' := [(0,_), (4,_), (5,_), (6,_), (7,_), (8,_), (9,_)]) ⟨rfl, rfl, rfl, rfl, rfl, rfl, rfl, trivial⟩ ?_)
        refine gk_region ?_
        refine gk_y rfl rfl (y_move rfl) ?_
        refine gk_y rfl rfl (y_addI rfl rfl (by omega) (by omega)) ?_
        refine gk_y rfl rfl (y_assign rfl) ?_
        refine gk_nil (gk_sub (T' := [(0,_), (4,_), (5,_), (6,_), (7,_), (8,_), (9,_)]) ⟨rfl, rfl, rfl, rfl, rfl, rfl, rfl, trivial⟩ ?_)
        refine gk_sub (T' := [(0,_), (4,_), (5,_), (6,_), (7,_), (8, .int .i64 (fromN l p q (i + 1).toNat)), (9,_)]) ⟨rfl, rfl, rfl, rfl, rfl, (by rw [hfs]; rfl), rfl, trivial⟩ ?_
        exact gk_next (i + 1) ⟨rfl, rfl, rfl, rfl, rfl, rfl, rfl, trivial⟩ rfl ⟨by omega, by omega⟩ (by omega)
      · have hfs := from_succ (l := l) (p := p) (q := q) g0
        rw [if_neg (by rw [show leftC l p q i = false from hc45]; exact Bool.false_ne_true)] at hfs
        refine gk_skip ?_
        refine gk_region ?_
        refine gk_y rfl rfl (y_move rfl) ?_
        refine gk_y rfl rfl (y_addI rfl rfl (by omega) (by omega)) ?_
        refine gk_y rfl rfl (y_assign rfl) ?_
        refine gk_nil (gk_sub (T' := [(0,_), (4,_), (5,_), (6,_), (7,_), (8,_), (9,_)]) ⟨rfl, rfl, rfl, rfl, rfl, rfl, rfl, trivial⟩ ?_)
        refine gk_sub (T' := [(0,_), (4,_), (5,_), (6,_), (7,_), (8, .int .i64 (fromN l p q (i + 1).toNat)), (9,_)]) ⟨rfl, rfl, rfl, rfl, rfl, (by rw [hfs]; rfl), rfl, trivial⟩ ?_
        exact gk_next (i + 1) ⟨rfl, rfl, rfl, rfl, rfl, rfl, rfl, trivial⟩ rfl ⟨by omega, by omega⟩ (by omega)
    · simp only [decide_eq_false_iff_not] at hc18
      refine gk_exit rfl ?_
      refine gk_seq ?_
      refine gk_seq ?_
      refine gk_region ?_
      refine gk_y rfl rfl (y_assign rfl) ?_
      refine gk_nil (gk_sub (T' := [(0,_), (4,_), (5,_), (6,_), (7,_), (8,_), (10,_)]) ⟨rfl, rfl, rfl, rfl, rfl, rfl, rfl, trivial⟩ ?_)
      refine gk_sub (T' := [(0,_), (4,_), (5,_), (6,_), (7,_), (8, .int .i64 (fromN l p q l.length)), (10,_)]) ⟨rfl, rfl, rfl, rfl, rfl, (by rw [show i.toNat = l.length from by omega]; rfl), rfl, trivial⟩ ?_
      refine gk_block ?_
      refine gk_loop (X := Int × Option Addr × Nat × List Pt) (fun ⟨i, b, bc, m⟩ => [(0, .slice a l.length cap), (4, .pointer (some ⟨b4, 0, none⟩)), (5, .pointer (some ⟨b5, 0, none⟩)), (6, .slice none 0 0), (7, .slice b m.length bc), (8, .int .i64 (fromN l p q l.length)), (10, .int .i64 i)]) (fun ⟨i, b, bc, m⟩ => [Row b 2 bc 24 encPt m, Box b5 [.int .i64 q.x, .int .i64 q.z] 24, Box b4 [.int .i64 p.x, .int .i64 p.z] 24]) (fun ⟨i, b, bc, m⟩ => (0 ≤ i ∧ i ≤ l.length ∧ m = leftO l p q (fromN l p q l.length) i.toNat ∧ m.length ≤ i.toNat + 2)) (fun ⟨i, b, bc, m⟩ => (l.length - i).toNat) (0, (some ⟨b14, 0, none⟩), 2, [p, q]) ⟨rfl, rfl, rfl, rfl, rfl, rfl, rfl, trivial⟩ rfl ?_ ?_
      · exact ⟨by omega, by omega, rfl, by simp⟩
      · rintro ⟨i, b, bc, m⟩ hI
        obtain ⟨g0, g1, g2, g3⟩ := hI
        have q0 : 0 ≤ (fromN l p q l.length + i).tmod (l.length : Int) := Int.tmod_nonneg _ (by omega)
        have q1 : (l.length : Int) ≠ 0 → (fromN l p q l.length + i).tmod (l.length : Int) < (l.length : Int) := fun h => Int.tmod_lt_of_pos _ (by omega)
        refine gk_seq ?_
        refine gk_seq ?_
        refine gk_region ?_
        refine gk_y rfl rfl (y_move rfl) ?_
        refine gk_y rfl rfl (y_move rfl) ?_
        refine gk_y rfl rfl (y_lenS (Tryd.underlying22) rfl) ?_
        refine gk_y rfl rfl (y_lss rfl rfl) ?_
        refine gk_nil (gk_sub (T' := [(0,_), (4,_), (5,_), (6,_), (7,_), (8,_), (10,_), (50,_)]) ⟨rfl, rfl, rfl, rfl, rfl, rfl, rfl, rfl, trivial⟩ ?_)
        refine gk_cond rfl (fun hc50 => ?_) (fun hc50 => ?_)
        · simp only [decide_eq_true_eq] at hc50
          refine gk_skip ?_
          refine gk_seq ?_
          refine gk_block ?_
          refine gk_seq ?_
          refine gk_region ?_
          refine gk_y rfl rfl (y_move rfl) ?_
          refine gk_y rfl rfl (y_move rfl) ?_
          refine gk_y rfl rfl (y_move rfl) ?_
          refine gk_y rfl rfl (y_addI rfl rfl (by omega) (by omega)) ?_
          refine gk_y rfl rfl (y_move rfl) ?_
          refine gk_y rfl rfl (y_lenS (Tryd.underlying22) rfl) ?_
          refine gk_y rfl rfl (y_rem rfl rfl (by omega)) ?_
          refine gk_y rfl rfl (y_indexE se22 rfl rfl (fun _ hw => (Rd.has (Has.rd hl) hw)) (by omega) (by omega)) ?_
          refine gk_y rfl rfl (y_loadE (vs := [_, _]) tf24 rfl (fun _ hw => (Rd.has (Has.rd hl) hw)) (by omega) (by omega) rfl) ?_
          refine gk_yx rfl rfl (yx_alloc tf24 (zs := [_, _]) rfl) fun b11 => ?_
          refine gk_storeV 0 tf24 rfl rfl (vs := [_, _]) rfl rfl rfl rfl rfl ?_
          refine gk_nil (gk_sub (T' := [(0,_), (4,_), (5,_), (6,_), (7,_), (8,_), (10,_), (11,_)]) ⟨rfl, rfl, rfl, rfl, rfl, rfl, rfl, rfl, trivial⟩ ?_)
          refine gk_seq ?_
          refine gk_region ?_
          refine gk_y rfl rfl (y_loadBA 3 tf24 rfl rfl (vs := [_, _]) rfl rfl) ?_
          refine gk_y rfl rfl (y_loadBA 2 tf24 rfl rfl (vs := [_, _]) rfl rfl) ?_
          refine gk_y rfl rfl (y_loadBA 0 tf24 rfl rfl (vs := [_, _]) rfl rfl) ?_
          refine gk_y rfl rfl (y_call en79 rfl (fun w hw => side_c ⟨_, _⟩ ⟨_, _⟩ ⟨_, _⟩ w)) ?_
          refine gk_y rfl rfl (y_gtr rfl rfl) ?_
          refine gk_nil (gk_sub (T' := [(0,_), (4,_), (5,_), (6,_), (7,_), (8,_), (10,_), (11,_), (66,_)]) ⟨rfl, rfl, rfl, rfl, rfl, rfl, rfl, rfl, rfl, trivial⟩ ?_)
          refine gk_cond rfl (fun hc66 => ?_) (fun hc66 => ?_)
          · skip
            refine gk_region ?_
            refine gk_y rfl rfl (y_move rfl) ?_
            refine gk_y rfl rfl (y_loadBA 0 tf24 rfl rfl (vs := [_, _]) rfl rfl) ?_
            refine gk_yx rfl rfl (yx_buildSlice rfl (bs22_1 _ _) encPt_ok rfl) fun b69 => ?_
            refine gk_append (m := [⟨((l.getD ((Int.tmod ((fromN l p q l.length) + i) (l.length : Int))).toNat default).x), ((l.getD ((Int.tmod ((fromN l p q l.length) + i) (l.length : Int))).toNat default).z)⟩]) 2 af22 encPt_ok rfl rfl rfl rfl (fun _ hw => (has_row encPt_ok (hw.has (p := 0) rfl))) (by first | omega | (simp only [List.length_cons, List.length_nil]; omega)) (by first | (unfold maxLen; omega) | (simp only [List.length_cons, List.length_nil, maxLen]; omega)) fun a70 c70 => ?_
            refine gk_y rfl rfl (y_assign rfl) ?_
            refine gk_nil (gk_sub (T' := [(0,_), (4,_), (5,_), (6,_), (7,_), (8,_), (10,_)]) ⟨rfl, rfl, rfl, rfl, rfl, rfl, rfl, trivial⟩ ?_)
            refine gk_region ?_
            refine gk_y rfl rfl (y_move rfl) ?_
            refine gk_y rfl rfl (y_addI rfl rfl (by omega) (by omega)) ?_
            refine gk_y rfl rfl (y_assign rfl) ?_
            refine gk_nil (gk_sub (T' := [(0,_), (4,_), (5,_), (6,_), (7,_), (8,_), (10,_)]) ⟨rfl, rfl, rfl, rfl, rfl, rfl, rfl, trivial⟩ ?_)
            refine gk_dropAt 0 rfl ?_
            refine gk_dropAt 0 rfl ?_
            exact gk_next (i + 1, _, _, _) ⟨rfl, rfl, rfl, rfl, rfl, rfl, rfl, trivial⟩ rfl ⟨by omega, by omega, by rw [leftO_succ g0, ← g2]; first | (rw [if_pos (show decide (0 < sideW p q (leftP l (fromN l p q l.length) i)) = true from hc66)]; rfl) | (rw [if_neg (by rw [show decide (0 < sideW p q (leftP l (fromN l p q l.length) i)) = false from hc66]; exact Bool.false_ne_true)]), by first | (rw [List.length_append]; simp only [List.length_cons, List.length_nil]; omega) | omega⟩ (by simp only []; omega)
          · skip
            refine gk_skip ?_
            refine gk_region ?_
            refine gk_y rfl rfl (y_move rfl) ?_
            refine gk_y rfl rfl (y_addI rfl rfl (by omega) (by omega)) ?_
            refine gk_y rfl rfl (y_assign rfl) ?_
            refine gk_nil (gk_sub (T' := [(0,_), (4,_), (5,_), (6,_), (7,_), (8,_), (10,_)]) ⟨rfl, rfl, rfl, rfl, rfl, rfl, rfl, trivial⟩ ?_)
            refine gk_dropAt 0 rfl ?_
            exact gk_next (i + 1, _, _, _) ⟨rfl, rfl, rfl, rfl, rfl, rfl, rfl, trivial⟩ rfl ⟨by omega, by omega, by rw [leftO_succ g0, ← g2]; first | (rw [if_pos (show decide (0 < sideW p q (leftP l (fromN l p q l.length) i)) = true from hc66)]; rfl) | (rw [if_neg (by rw [show decide (0 < sideW p q (leftP l (fromN l p q l.length) i)) = false from hc66]; exact Bool.false_ne_true)]), by first | (rw [List.length_append]; simp only [List.length_cons, List.length_nil]; omega) | omega⟩ (by simp only []; omega)
        · simp only [decide_eq_false_iff_not] at hc50
          refine gk_exit rfl ?_
          refine gk_seq ?_
          refine gk_region ?_
          refine gk_y rfl rfl (y_move rfl) ?_
          refine gk_y rfl rfl (y_assign rfl) ?_
          refine gk_nil (gk_sub (T' := [(6,_)]) ⟨rfl, trivial⟩ ?_)
          obtain rfl : m = leftL l p q := by rw [g2, show i.toNat = l.length from by omega]; rfl
          refine gk_ret ?_
          refine gk_gives (b, bc) 0 (rv_one rfl (r1_tmp rfl)) ?_ rfl
          rfl

set_option maxRecDepth 100000 in
set_option maxHeartbeats 1000000 in
theorem rpiece_c (a : Option Addr) (cap : Nat) (s : Stn) (c : ByteArray) (a2 : Option Addr) (cap2 : Nat) (l : List Pt) (w : World) (hl2 : Has w (Pts a2 l)) (hs2 : Small l.length) (h0 : 0 < l.length) (hn : s.name.size + c.size ≤ 4096) :
    Calls Tryd.prog 73 #[.agg #[.string s.name, .slice a s.shape.length cap, .int .i64 s.depth, .int .i64 s.density, .int .i64 s.grain.x, .int .i64 s.grain.z], .string c, .slice a2 l.length cap2] w (Gives (fun z : Option Addr × Nat => stnV (rpieceS s c l) z.1 z.2) (fun z => Row z.1 2 z.2 24 encPt (rpieceS s c l).shape) w) := by
  refine calls_of_gk (vs := [_, _, _]) Tryd.func73 rfl rfl (Nat.le_of_ble_eq_true rfl) ?_
  refine gk_seq ?_
  refine gk_region ?_
  refine gk_yx rfl rfl (yx_box (vs := [_, _, _, _, _, _]) rfl rfl) fun b3 => ?_
  refine gk_yx rfl rfl (yx_alloc tf26 (zs := [_, _, _, _, _, _]) rfl) fun b6 => ?_
  refine gk_nil (gk_sub (T' := [(1,_), (2,_), (3,_), (6,_)]) ⟨rfl, rfl, rfl, rfl, trivial⟩ ?_)
  refine gk_seq ?_
  refine gk_any 7 (fun _ => mixed) (by kernel_rfl) ?_
  refine ph_y (y_fieldAddr fo26_0 rfl) ?_
  refine ph_y (y_loadB1 1 tf9 rfl rfl rfl) ?_
  refine ph_y (y_move rfl) ?_
  refine ph_y (y_strAdd rfl rfl (by omega)) ?_
  refine ph_y (y_move rfl) ?_
  refine ph_yx (yx_call en62 rfl (fun w hw => settle_c _ _ l w (Rd.has (Has.rd hl2) hw) (by assumption) (by assumption))) ?_
  refine ph_y (y_fieldAddr fo26_0 rfl) ?_
  intro p12
  refine gk_sub (T' := [(3,_), (6,_), (10,_), (12,_), (13,_)]) ⟨rfl, rfl, rfl, rfl, rfl, trivial⟩ ?_
  refine gk_storeV 2 tf9 rfl rfl (vs := [_]) rfl rfl rfl rfl rfl ?_
  refine gk_y rfl rfl (y_fieldAddr fo26_1 rfl) ?_
  refine gk_storeV 2 tf22 rfl rfl (vs := [_]) rfl rfl rfl rfl rfl ?_
  refine gk_nil (gk_sub (T' := [(3,_), (6,_)]) ⟨rfl, rfl, trivial⟩ ?_)
  refine gk_seq ?_
  refine gk_region ?_
  refine gk_y rfl rfl (y_loadBA 2 tf26 rfl rfl (vs := [_, _, _, _, _, _]) rfl rfl) ?_
  refine gk_storeV 1 tf26 rfl rfl (vs := [_, _, _, _, _, _]) rfl rfl rfl rfl rfl ?_
  refine gk_nil (gk_sub (T' := [(6,_)]) ⟨rfl, trivial⟩ ?_)
  refine gk_ret ?_
  refine gk_gives p12 0 (rv_one rfl (r1_cellA (i := 1) (vs := [_, _, _, _, _, _]) tf26 rfl rfl rfl rfl)) ?_ rfl
  rfl

end Go.Proofs.YtahahmelnaphjaaDoor
