/- What the proof of the root text leans on, part 3: the layer, plain facts and walks. No statement of the seat is proved in this text. -/
import Derived.Test.YtmpaebfjnjmmlaaGreatDoorBk2
namespace Go.Proofs.YtmpaebfjnjmmlaaGreatDoor
open Go.K Go.Stn Go.RowKit
theorem tf26 : TF Tryz.prog 26 true 2 (.agg #[.int IntKind.i64 0, .int IntKind.i64 0]) := ⟨by kernel_rfl, by kernel_rfl⟩
theorem se24 : SE Tryz.prog 24 26 2 := ⟨Tryz.underlying24, by kernel_rfl⟩
theorem se49 : SE Tryz.prog 49 50 2 := ⟨Tryz.underlying49, by kernel_rfl⟩
theorem en55 : En Tryz.prog 55 := en_of Tryz.func55 (by kernel_rfl) (by kernel_rfl)
theorem en73 : En Tryz.prog 73 := en_of Tryz.func73 (by kernel_rfl) (by kernel_rfl)
theorem en87 : En Tryz.prog 87 := en_of Tryz.func87 (by kernel_rfl) (by kernel_rfl)
theorem en88 : En Tryz.prog 88 := en_of Tryz.func88 (by kernel_rfl) (by kernel_rfl)
theorem en93 : En Tryz.prog 93 := en_of Tryz.func93 (by kernel_rfl) (by kernel_rfl)
theorem en94 : En Tryz.prog 94 := en_of Tryz.func94 (by kernel_rfl) (by kernel_rfl)
theorem en95 : En Tryz.prog 95 := en_of Tryz.func95 (by kernel_rfl) (by kernel_rfl)
theorem en111 : En Tryz.prog 111 := en_of Tryz.func111 (by kernel_rfl) (by kernel_rfl)
theorem en112 : En Tryz.prog 112 := en_of Tryz.func112 (by kernel_rfl) (by kernel_rfl)
theorem en113 : En Tryz.prog 113 := en_of Tryz.func113 (by kernel_rfl) (by kernel_rfl)
theorem en116 : En Tryz.prog 116 := en_of Tryz.func116 (by kernel_rfl) (by kernel_rfl)
theorem en117 : En Tryz.prog 117 := en_of Tryz.func117 (by kernel_rfl) (by kernel_rfl)
theorem en118 : En Tryz.prog 118 := en_of Tryz.func118 (by kernel_rfl) (by kernel_rfl)
theorem en119 : En Tryz.prog 119 := en_of Tryz.func119 (by kernel_rfl) (by kernel_rfl)
theorem en136 : En Tryz.prog 136 := en_of Tryz.func136 (by kernel_rfl) (by kernel_rfl)
theorem en138 : En Tryz.prog 138 := en_of Tryz.func138 (by kernel_rfl) (by kernel_rfl)
theorem bd50_  (w : World) : (Instr.build 50 #[]).run Tryz.prog w = .ok (.agg #[.int IntKind.i64 0, .int IntKind.i64 0]) w := by kernel_rfl
theorem fv26_0 (x0 : Int) (x1 : Int) (w : World) : (Instr.field 26 (.agg #[.int .i64 x0, .int .i64 x1]) 0).run Tryz.prog w = .ok (.int .i64 x0) w := by kernel_rfl
theorem fv26_1 (x0 : Int) (x1 : Int) (w : World) : (Instr.field 26 (.agg #[.int .i64 x0, .int .i64 x1]) 1).run Tryz.prog w = .ok (.int .i64 x1) w := by kernel_rfl
set_option maxRecDepth 100000 in
theorem y_eql50 {c : Cx} {ds : List Deferred} {H : List Res} {T : List (Nat × Value)} {d : Option Nat} {ty : TypeId} {ps : String} {af : Array Edge} {g : Option (Nat × Bool)} {x y : Operand} {t' : TypeId} {a0 a1 c0 c1 : Int}
    (hx : evo T x = some (.agg #[.int .i64 a0, .int .i64 a1])) (hy : evo T y = some (.agg #[.int .i64 c0, .int .i64 c1])) (hP : c.P = Tryz.prog := by rfl) : Y c ds H T ⟨d, .binOp .eql 50 x y t', ty, ps, af, g⟩ (.bool ((decide (a0 = c0) && decide (a1 = c1)))) := by
  refine ⟨fun a w ha _ => ?_⟩
  unfold Yld
  simp only [execOp, ha.eval hx, ha.eval hy]
  rw [hP]
  by_cases h0 : a0 = c0
  · subst h0
    by_cases h1 : a1 = c1
    · subst h1
      (go_simp; try exact Ext.rfl)
    · (go_simp; try exact Ext.rfl)
  · (go_simp; try exact Ext.rfl)
set_option maxRecDepth 100000 in
theorem y_neq50 {c : Cx} {ds : List Deferred} {H : List Res} {T : List (Nat × Value)} {d : Option Nat} {ty : TypeId} {ps : String} {af : Array Edge} {g : Option (Nat × Bool)} {x y : Operand} {t' : TypeId} {a0 a1 c0 c1 : Int}
    (hx : evo T x = some (.agg #[.int .i64 a0, .int .i64 a1])) (hy : evo T y = some (.agg #[.int .i64 c0, .int .i64 c1])) (hP : c.P = Tryz.prog := by rfl) : Y c ds H T ⟨d, .binOp .neq 50 x y t', ty, ps, af, g⟩ (.bool (!(decide (a0 = c0) && decide (a1 = c1)))) := by
  refine ⟨fun a w ha _ => ?_⟩
  unfold Yld
  simp only [execOp, ha.eval hx, ha.eval hy]
  rw [hP]
  by_cases h0 : a0 = c0
  · subst h0
    by_cases h1 : a1 = c1
    · subst h1
      (go_simp; try exact Ext.rfl)
    · (go_simp; try exact Ext.rfl)
  · (go_simp; try exact Ext.rfl)
set_option maxRecDepth 100000 in
set_option maxHeartbeats 1000000 in
theorem at_c (a : Option Addr) (cap : Nat) (l : List Pt) (i : Int) (w : World) (hl : Has w (Pts a l)) (hs : Small l.length) (h0 : 0 < l.length) (h1 : -(l.length : Int) ≤ i) (h2 : i ≤ 4398046511104) :
    Calls Tryz.prog 88 #[.slice a l.length cap, .int .i64 i] w (Pure (ptV (atL l i)) w) := by
  have q0 : 0 ≤ (i + (l.length : Int)).tmod (l.length : Int) := Int.tmod_nonneg _ (by omega)
  have q1 : (i + (l.length : Int)).tmod (l.length : Int) < (l.length : Int) := Int.tmod_lt_of_pos _ (by omega)
  refine calls_of_gk (vs := [_, _]) Tryz.func88 rfl rfl (Nat.le_of_ble_eq_true rfl) ?_
  refine gk_seq ?_
  refine gk_region ?_
  refine gk_yx rfl rfl (yx_alloc tf50 (zs := [_, _]) rfl) fun b4 => ?_
  refine gk_nil (gk_sub (T' := [(0,_), (1,_), (4,_)]) ⟨rfl, rfl, rfl, trivial⟩ ?_)
  refine gk_seq ?_
  refine gk_region ?_
  refine gk_y rfl rfl (y_move rfl) ?_
  refine gk_y rfl rfl (y_move rfl) ?_
  refine gk_y rfl rfl (y_move rfl) ?_
  refine gk_y rfl rfl (y_lenS (Tryz.underlying49) rfl) ?_
  refine gk_y rfl rfl (y_addI rfl rfl (by omega) (by omega)) ?_
  refine gk_y rfl rfl (y_move rfl) ?_
  refine gk_y rfl rfl (y_lenS (Tryz.underlying49) rfl) ?_
  refine gk_y rfl rfl (y_rem rfl rfl (by omega)) ?_
  refine gk_y rfl rfl (y_indexE se49 rfl rfl (fun _ hw => (Rd.has (Has.rd hl) hw)) (by omega) (by omega)) ?_
  refine gk_y rfl rfl (y_loadE (vs := [_, _]) tf50 rfl (fun _ hw => (Rd.has (Has.rd hl) hw)) (by omega) (by omega) rfl) ?_
  refine gk_storeV 0 tf50 rfl rfl (vs := [_, _]) rfl rfl rfl rfl rfl ?_
  refine gk_nil (gk_sub (T' := [(4,_)]) ⟨rfl, trivial⟩ ?_)
  refine gk_ret ?_
  refine gk_pure (rv_one rfl (r1_cellA (i := 0) (vs := [_, _]) tf50 rfl rfl rfl rfl)) ?_
  rfl
set_option maxRecDepth 100000 in
set_option maxHeartbeats 1000000 in
theorem next_c (a : Option Addr) (cap : Nat) (l : List Pt) (i : Int) (w : World) (hl : Has w (Pts a l)) (hs : Small l.length) (h0 : 0 < l.length) (h1 : 0 ≤ i) (h2 : i ≤ 4398046511104) :
    Calls Tryz.prog 119 #[.slice a l.length cap, .int .i64 i] w (Pure (ptV (nextL l i)) w) := by
  have q0 : 0 ≤ (i + 1).tmod (l.length : Int) := Int.tmod_nonneg _ (by omega)
  have q1 : (i + 1).tmod (l.length : Int) < (l.length : Int) := Int.tmod_lt_of_pos _ (by omega)
  refine calls_of_gk (vs := [_, _]) Tryz.func119 rfl rfl (Nat.le_of_ble_eq_true rfl) ?_
  refine gk_seq ?_
  refine gk_region ?_
  refine gk_yx rfl rfl (yx_alloc tf26 (zs := [_, _]) rfl) fun b4 => ?_
  refine gk_nil (gk_sub (T' := [(0,_), (1,_), (4,_)]) ⟨rfl, rfl, rfl, trivial⟩ ?_)
  refine gk_seq ?_
  refine gk_region ?_
  refine gk_y rfl rfl (y_move rfl) ?_
  refine gk_y rfl rfl (y_move rfl) ?_
  refine gk_y rfl rfl (y_addI rfl rfl (by omega) (by omega)) ?_
  refine gk_y rfl rfl (y_move rfl) ?_
  refine gk_y rfl rfl (y_lenS (Tryz.underlying24) rfl) ?_
  refine gk_y rfl rfl (y_rem rfl rfl (by omega)) ?_
  refine gk_y rfl rfl (y_indexE se24 rfl rfl (fun _ hw => (Rd.has (Has.rd hl) hw)) (by omega) (by omega)) ?_
  refine gk_y rfl rfl (y_loadE (vs := [_, _]) tf26 rfl (fun _ hw => (Rd.has (Has.rd hl) hw)) (by omega) (by omega) rfl) ?_
  refine gk_storeV 0 tf26 rfl rfl (vs := [_, _]) rfl rfl rfl rfl rfl ?_
  refine gk_nil (gk_sub (T' := [(4,_)]) ⟨rfl, trivial⟩ ?_)
  refine gk_ret ?_
  refine gk_pure (rv_one rfl (r1_cellA (i := 0) (vs := [_, _]) tf26 rfl rfl rfl rfl)) ?_
  rfl
set_option maxRecDepth 100000 in
set_option maxHeartbeats 1000000 in
theorem least_c (a : Option Addr) (cap : Nat) (l : List Pt) (w : World) (hl : Has w (Pts a l)) (hs : Small l.length) (h0 : 0 < l.length) :
    Calls Tryz.prog 93 #[.slice a l.length cap] w (Pure (ptV (leastL l)) w) := by
  refine calls_of_gk (vs := [_]) Tryz.func93 rfl rfl (Nat.le_of_ble_eq_true rfl) ?_
  refine gk_seq ?_
  refine gk_region ?_
  refine gk_yx rfl rfl (yx_alloc tf50 (zs := [_, _]) rfl) fun b2 => ?_
  refine gk_nil (gk_sub (T' := [(0,_), (2,_)]) ⟨rfl, rfl, trivial⟩ ?_)
  refine gk_seq ?_
  refine gk_region ?_
  refine gk_y rfl rfl (y_move rfl) ?_
  refine gk_y rfl rfl (y_indexE se49 rfl rfl (fun _ hw => (Rd.has (Has.rd hl) hw)) (by omega) (by omega)) ?_
  refine gk_y rfl rfl (y_loadE (vs := [_, _]) tf50 rfl (fun _ hw => (Rd.has (Has.rd hl) hw)) (by omega) (by omega) rfl) ?_
  refine gk_yx rfl rfl (yx_alloc tf50 (zs := [_, _]) rfl) fun b3 => ?_
  refine gk_storeV 0 tf50 rfl rfl (vs := [_, _]) rfl rfl rfl rfl rfl ?_
  refine gk_nil (gk_sub (T' := [(0,_), (2,_), (3,_)]) ⟨rfl, rfl, rfl, trivial⟩ ?_)
  refine gk_seq ?_
  refine gk_seq ?_
  refine gk_region ?_
  refine gk_y rfl rfl (y_move rfl) ?_
  refine gk_y rfl rfl (y_lenS (Tryz.underlying49) rfl) ?_
  refine gk_y rfl rfl (y_move rfl) ?_
  refine gk_nil (gk_sub (T' := [(2,_), (3,_), (9,_), (10,_), (11,_)]) ⟨rfl, rfl, rfl, rfl, rfl, trivial⟩ ?_)
  refine gk_block ?_
  refine gk_loop (X := Int × Pt) (fun ⟨i, o⟩ => [(2, .pointer (some ⟨b2, 0, none⟩)), (3, .pointer (some ⟨b3, 0, none⟩)), (9, .slice a l.length cap), (10, .int .i64 (l.length : Int)), (11, .int .i64 i)]) (fun ⟨i, o⟩ => [Box b3 [.int .i64 o.x, .int .i64 o.z] 50, Box b2 [.int .i64 0, .int .i64 0] 50]) (fun ⟨i, o⟩ => (0 ≤ i ∧ i ≤ l.length ∧ o = (l.take i.toNat).foldl (fun (o p : Pt) => (⟨min o.x p.x, min o.z p.z⟩ : Pt)) (l.getD 0 default))) (fun ⟨i, o⟩ => (l.length - i).toNat) (0, l.getD 0 default) ⟨rfl, rfl, rfl, rfl, rfl, trivial⟩ rfl ?_ ?_
  · exact ⟨by simp, by simp, rfl⟩
  · rintro ⟨i, o⟩ hI
    obtain ⟨g0, g1, g2⟩ := hI
    refine gk_seq ?_
    refine gk_region ?_
    refine gk_y rfl rfl (y_lss rfl rfl) ?_
    refine gk_nil (gk_sub (T' := [(2,_), (3,_), (9,_), (10,_), (11,_), (12,_)]) ⟨rfl, rfl, rfl, rfl, rfl, rfl, trivial⟩ ?_)
    refine gk_seq ?_
    refine gk_cond rfl (fun hc12 => ?_) (fun hc12 => ?_)
    · simp only [decide_eq_true_eq] at hc12
      refine gk_skip ?_
      refine gk_seq ?_
      refine gk_block ?_
      refine gk_seq ?_
      refine gk_region ?_
      refine gk_y rfl rfl (y_indexE se49 rfl rfl (fun _ hw => (Rd.has (Has.rd hl) hw)) (by omega) (by omega)) ?_
      refine gk_y rfl rfl (y_loadE (vs := [_, _]) tf50 rfl (fun _ hw => (Rd.has (Has.rd hl) hw)) (by omega) (by omega) rfl) ?_
      refine gk_yx rfl rfl (yx_alloc tf50 (zs := [_, _]) rfl) fun b5 => ?_
      refine gk_storeV 0 tf50 rfl rfl (vs := [_, _]) rfl rfl rfl rfl rfl ?_
      refine gk_nil (gk_sub (T' := [(2,_), (3,_), (5,_), (9,_), (10,_), (11,_)]) ⟨rfl, rfl, rfl, rfl, rfl, rfl, trivial⟩ ?_)
      refine gk_region ?_
      refine gk_y rfl rfl (y_fieldAddr fo50_0 rfl) ?_
      refine gk_y rfl rfl (y_loadB1 1 tf3 rfl rfl rfl) ?_
      refine gk_y rfl rfl (y_fieldAddr fo50_0 rfl) ?_
      refine gk_y rfl rfl (y_loadB1 0 tf3 rfl rfl rfl) ?_
      refine gk_y rfl rfl (y_min rfl rfl) ?_
      refine gk_y rfl rfl (y_fieldAddr fo50_1 rfl) ?_
      refine gk_y rfl rfl (y_loadB1 1 tf3 rfl rfl rfl) ?_
      refine gk_y rfl rfl (y_fieldAddr fo50_1 rfl) ?_
      refine gk_y rfl rfl (y_loadB1 0 tf3 rfl rfl rfl) ?_
      refine gk_y rfl rfl (y_min rfl rfl) ?_
      refine gk_y rfl rfl (y_buildL rfl (bd50_0i_1i _ _)) ?_
      refine gk_storeV 1 tf50 rfl rfl (vs := [_, _]) rfl rfl rfl rfl rfl ?_
      refine gk_nil (gk_sub (T' := [(2,_), (3,_), (9,_), (10,_), (11,_)]) ⟨rfl, rfl, rfl, rfl, rfl, trivial⟩ ?_)
      refine gk_region ?_
      refine gk_y rfl rfl (y_addI rfl rfl (by omega) (by omega)) ?_
      refine gk_y rfl rfl (y_move rfl) ?_
      refine gk_nil (gk_sub (T' := [(2,_), (3,_), (9,_), (10,_), (11,_)]) ⟨rfl, rfl, rfl, rfl, rfl, trivial⟩ ?_)
      refine gk_dropAt 0 rfl ?_
      exact gk_next (i + 1, ⟨_, _⟩) ⟨rfl, rfl, rfl, rfl, rfl, trivial⟩ rfl ⟨by omega, by omega, by rw [fold_take _ _ g0 (by omega), ← g2]⟩ (by simp only []; omega)
    · simp only [decide_eq_false_iff_not] at hc12
      refine gk_exit rfl ?_
      refine gk_seq ?_
      refine gk_region ?_
      refine gk_y rfl rfl (y_loadBA 0 tf50 rfl rfl (vs := [_, _]) rfl rfl) ?_
      refine gk_storeV 1 tf50 rfl rfl (vs := [_, _]) rfl rfl rfl rfl rfl ?_
      refine gk_nil (gk_sub (T' := [(2,_)]) ⟨rfl, trivial⟩ ?_)
      refine gk_ret ?_
      refine gk_pure (rv_one rfl (r1_cellA (i := 1) (vs := [_, _]) tf50 rfl rfl rfl rfl)) ?_
      rw [g2, take_all (by omega)]; rfl
set_option maxRecDepth 100000 in
set_option maxHeartbeats 1000000 in
theorem low_c (a : Option Addr) (cap : Nat) (l : List Pt) (w : World) (hl : Has w (Pts a l)) (hs : Small l.length) (h0 : 0 < l.length) :
    Calls Tryz.prog 112 #[.slice a l.length cap] w (Pure (ptV (leastL l)) w) := by
  refine calls_of_gk (vs := [_]) Tryz.func112 rfl rfl (Nat.le_of_ble_eq_true rfl) ?_
  refine gk_seq ?_
  refine gk_region ?_
  refine gk_yx rfl rfl (yx_alloc tf26 (zs := [_, _]) rfl) fun b2 => ?_
  refine gk_nil (gk_sub (T' := [(0,_), (2,_)]) ⟨rfl, rfl, trivial⟩ ?_)
  refine gk_seq ?_
  refine gk_region ?_
  refine gk_y rfl rfl (y_move rfl) ?_
  refine gk_y rfl rfl (y_indexE se24 rfl rfl (fun _ hw => (Rd.has (Has.rd hl) hw)) (by omega) (by omega)) ?_
  refine gk_y rfl rfl (y_loadE (vs := [_, _]) tf26 rfl (fun _ hw => (Rd.has (Has.rd hl) hw)) (by omega) (by omega) rfl) ?_
  refine gk_yx rfl rfl (yx_alloc tf26 (zs := [_, _]) rfl) fun b3 => ?_
  refine gk_storeV 0 tf26 rfl rfl (vs := [_, _]) rfl rfl rfl rfl rfl ?_
  refine gk_nil (gk_sub (T' := [(0,_), (2,_), (3,_)]) ⟨rfl, rfl, rfl, trivial⟩ ?_)
  refine gk_seq ?_
  refine gk_seq ?_
  refine gk_region ?_
  refine gk_y rfl rfl (y_assign rfl) ?_
  refine gk_nil (gk_sub (T' := [(0,_), (2,_), (3,_), (4,_)]) ⟨rfl, rfl, rfl, rfl, trivial⟩ ?_)
  refine gk_block ?_
  refine gk_loop (X := Int × Pt) (fun ⟨i, o⟩ => [(0, .slice a l.length cap), (2, .pointer (some ⟨b2, 0, none⟩)), (3, .pointer (some ⟨b3, 0, none⟩)), (4, .int .i64 i)]) (fun ⟨i, o⟩ => [Box b3 [.int .i64 o.x, .int .i64 o.z] 26, Box b2 [.int .i64 0, .int .i64 0] 26]) (fun ⟨i, o⟩ => (0 ≤ i ∧ i ≤ l.length ∧ o = (l.take i.toNat).foldl (fun (o p : Pt) => (⟨min o.x p.x, min o.z p.z⟩ : Pt)) (l.getD 0 default))) (fun ⟨i, o⟩ => (l.length - i).toNat) (0, l.getD 0 default) ⟨rfl, rfl, rfl, rfl, trivial⟩ rfl ?_ ?_
  · exact ⟨by simp, by simp, rfl⟩
  · rintro ⟨i, o⟩ hI
    obtain ⟨g0, g1, g2⟩ := hI
    refine gk_seq ?_
    refine gk_seq ?_
    refine gk_region ?_
    refine gk_y rfl rfl (y_move rfl) ?_
    refine gk_y rfl rfl (y_move rfl) ?_
    refine gk_y rfl rfl (y_lenS (Tryz.underlying24) rfl) ?_
    refine gk_y rfl rfl (y_lss rfl rfl) ?_
    refine gk_nil (gk_sub (T' := [(0,_), (2,_), (3,_), (4,_), (11,_)]) ⟨rfl, rfl, rfl, rfl, rfl, trivial⟩ ?_)
    refine gk_cond rfl (fun hc11 => ?_) (fun hc11 => ?_)
    · simp only [decide_eq_true_eq] at hc11
      refine gk_skip ?_
      refine gk_seq ?_
      refine gk_block ?_
      refine gk_anyS (R' := Box b3 [.int .i64 (min o.x ((l.getD (i).toNat default).x)), .int .i64 o.z] 26) 17 [10, 11, 12, 13, 14, 15] 0 (fun _ => mixed) rfl rfl (by kernel_rfl) rfl ?_
      refine phs_y (y_fieldAddr fo26_0 rfl) ?_
      refine phs_y (y_loadB1 0 tf3 rfl rfl rfl) ?_
      refine phs_y (y_move rfl) ?_
      refine phs_y (y_move rfl) ?_
      refine phs_y (y_indexE se24 rfl rfl (fun _ hw => (Rd.has (Has.rd hl) hw)) (by omega) (by omega)) ?_
      refine phs_y (y_fieldE fo26_0 rfl (fun w hw => elems_addr (i := i) (Rd.has (Has.rd hl) hw) (by omega) (by omega))) ?_
      refine phs_y (y_loadEF tf3 rfl (fun _ hw => (Rd.has (Has.rd hl) hw)) (by omega) (by omega) rfl) ?_
      refine phs_y (y_min rfl rfl) ?_
      refine phs_y (y_fieldAddr fo26_1 rfl) ?_
      refine phs_y (y_loadB1 0 tf3 rfl rfl rfl) ?_
      refine phs_y (y_move rfl) ?_
      refine phs_y (y_move rfl) ?_
      refine phs_y (y_indexE se24 rfl rfl (fun _ hw => (Rd.has (Has.rd hl) hw)) (by omega) (by omega)) ?_
      refine phs_y (y_fieldE fo26_1 rfl (fun w hw => elems_addr (i := i) (Rd.has (Has.rd hl) hw) (by omega) (by omega))) ?_
      refine phs_y (y_loadEF tf3 rfl (fun _ hw => (Rd.has (Has.rd hl) hw)) (by omega) (by omega) rfl) ?_
      refine phs_y (y_min rfl rfl) ?_
      refine phs_y (y_fieldAddr fo26_0 rfl) ?_
      refine ⟨so_box tf3 rfl rfl (vs := [_]) rfl rfl rfl rfl rfl, ?_⟩
      refine gk_sub (T' := [(0,_), (2,_), (3,_), (4,_), (29,_)]) ⟨rfl, rfl, rfl, rfl, rfl, trivial⟩ ?_
      refine gk_y rfl rfl (y_fieldAddr fo26_1 rfl) ?_
      refine gk_storeV 0 tf3 rfl rfl (vs := [_]) rfl rfl rfl rfl rfl ?_
      refine gk_nil (gk_sub (T' := [(0,_), (2,_), (3,_), (4,_)]) ⟨rfl, rfl, rfl, rfl, trivial⟩ ?_)
      refine gk_region ?_
      refine gk_y rfl rfl (y_move rfl) ?_
      refine gk_y rfl rfl (y_addI rfl rfl (by omega) (by omega)) ?_
      refine gk_y rfl rfl (y_assign rfl) ?_
      refine gk_nil (gk_sub (T' := [(0,_), (2,_), (3,_), (4,_)]) ⟨rfl, rfl, rfl, rfl, trivial⟩ ?_)
      exact gk_next (i + 1, ⟨_, _⟩) ⟨rfl, rfl, rfl, rfl, trivial⟩ rfl ⟨by omega, by omega, by rw [fold_take _ _ g0 (by omega), ← g2]⟩ (by simp only []; omega)
    · simp only [decide_eq_false_iff_not] at hc11
      refine gk_exit rfl ?_
      refine gk_seq ?_
      refine gk_region ?_
      refine gk_y rfl rfl (y_loadBA 0 tf26 rfl rfl (vs := [_, _]) rfl rfl) ?_
      refine gk_storeV 1 tf26 rfl rfl (vs := [_, _]) rfl rfl rfl rfl rfl ?_
      refine gk_nil (gk_sub (T' := [(2,_)]) ⟨rfl, trivial⟩ ?_)
      refine gk_ret ?_
      refine gk_pure (rv_one rfl (r1_cellA (i := 1) (vs := [_, _]) tf26 rfl rfl rfl rfl)) ?_
      rw [g2, take_all (by omega)]; rfl
set_option maxRecDepth 100000 in
set_option maxHeartbeats 1000000 in
theorem minfunc_c (a : Option Addr) (cap : Nat) (l : List Pt) (f : Pt → Pt → Int) (gg : FuncId) (gcap : List Value) (w : World) (hl : Has w (Pts a l)) (hs : Small l.length) (h0 : 0 < l.length) (M : World → Prop) (hM : ∀ w', Ext w w' → M w') (hen : En Tryz.prog gg) (hg : ∀ p q w', M w' → Calls Tryz.prog gg ([ptV p, ptV q] ++ gcap).toArray w' (Pure (.int .i64 (f p q)) w')) :
    Calls Tryz.prog 94 #[.slice a l.length cap, .func (.func gg) #[] gcap.toArray] w (Pure (ptV (minF f l)) w) := by
  refine calls_of_gk (vs := [_, _]) Tryz.func94 rfl rfl (Nat.le_of_ble_eq_true rfl) ?_
  refine gk_seq ?_
  refine gk_region ?_
  refine gk_yx rfl rfl (yx_alloc tf50 (zs := [_, _]) rfl) fun b4 => ?_
  refine gk_nil (gk_sub (T' := [(0,_), (1,_), (4,_)]) ⟨rfl, rfl, rfl, trivial⟩ ?_)
  refine gk_seq ?_
  refine gk_seq ?_
  refine gk_region ?_
  refine gk_y rfl rfl (y_move rfl) ?_
  refine gk_y rfl rfl (y_lenS (Tryz.underlying49) rfl) ?_
  refine gk_y rfl rfl (y_lss rfl rfl) ?_
  refine gk_nil (gk_sub (T' := [(0,_), (1,_), (4,_), (9,_)]) ⟨rfl, rfl, rfl, rfl, trivial⟩ ?_)
  refine gk_cond rfl (fun hc9 => ?_) (fun hc9 => ?_)
  · exfalso; simp at hc9; omega
  · simp only [decide_eq_false_iff_not] at hc9
    refine gk_skip ?_
    refine gk_seq ?_
    refine gk_region ?_
    refine gk_y rfl rfl (y_move rfl) ?_
    refine gk_y rfl rfl (y_indexE se49 rfl rfl (fun _ hw => (Rd.has (Has.rd hl) hw)) (by omega) (by omega)) ?_
    refine gk_y rfl rfl (y_loadE (vs := [_, _]) tf50 rfl (fun _ hw => (Rd.has (Has.rd hl) hw)) (by omega) (by omega) rfl) ?_
    refine gk_yx rfl rfl (yx_alloc tf50 (zs := [_, _]) rfl) fun b5 => ?_
    refine gk_storeV 0 tf50 rfl rfl (vs := [_, _]) rfl rfl rfl rfl rfl ?_
    refine gk_nil (gk_sub (T' := [(0,_), (1,_), (4,_), (5,_)]) ⟨rfl, rfl, rfl, rfl, trivial⟩ ?_)
    refine gk_seq ?_
    refine gk_seq ?_
    refine gk_region ?_
    refine gk_y rfl rfl (y_assign rfl) ?_
    refine gk_nil (gk_sub (T' := [(0,_), (1,_), (4,_), (5,_), (6,_)]) ⟨rfl, rfl, rfl, rfl, rfl, trivial⟩ ?_)
    refine gk_block ?_
    refine gk_loop (X := Int × Pt) (fun ⟨i, o⟩ => [(0, .slice a l.length cap), (1, .func (.func gg) #[] gcap.toArray), (4, .pointer (some ⟨b4, 0, none⟩)), (5, .pointer (some ⟨b5, 0, none⟩)), (6, .int .i64 i)]) (fun ⟨i, o⟩ => [Box b5 [.int .i64 o.x, .int .i64 o.z] 50, Box b4 [.int .i64 0, .int .i64 0] 50]) (fun ⟨i, o⟩ => (1 ≤ i ∧ i ≤ l.length ∧ o = minF f (l.take i.toNat))) (fun ⟨i, o⟩ => (l.length - i).toNat) (1, l.getD 0 default) ⟨rfl, rfl, rfl, rfl, rfl, trivial⟩ rfl ?_ ?_
    · exact ⟨by omega, by omega, by cases l with | nil => simp at h0 | cons p r => rfl⟩
    · rintro ⟨i, o⟩ hI
      obtain ⟨g0, g1, g2⟩ := hI
      refine gk_seq ?_
      refine gk_seq ?_
      refine gk_region ?_
      refine gk_y rfl rfl (y_move rfl) ?_
      refine gk_y rfl rfl (y_move rfl) ?_
      refine gk_y rfl rfl (y_lenS (Tryz.underlying49) rfl) ?_
      refine gk_y rfl rfl (y_lss rfl rfl) ?_
      refine gk_nil (gk_sub (T' := [(0,_), (1,_), (4,_), (5,_), (6,_), (17,_)]) ⟨rfl, rfl, rfl, rfl, rfl, rfl, trivial⟩ ?_)
      refine gk_cond rfl (fun hc17 => ?_) (fun hc17 => ?_)
      · simp only [decide_eq_true_eq] at hc17
        refine gk_skip ?_
        refine gk_seq ?_
        refine gk_block ?_
        refine gk_seq ?_
        refine gk_any 8 (fun _ => mixed) (by kernel_rfl) ?_
        refine ph_y (y_move rfl) ?_
        refine ph_y (y_move rfl) ?_
        refine ph_y (y_move rfl) ?_
        refine ph_y (y_indexE se49 rfl rfl (fun _ hw => (Rd.has (Has.rd hl) hw)) (by omega) (by omega)) ?_
        refine ph_y (y_loadE (vs := [_, _]) tf50 rfl (fun _ hw => (Rd.has (Has.rd hl) hw)) (by omega) (by omega) rfl) ?_
        refine ph_y (y_loadBA 0 tf50 rfl rfl (vs := [_, _]) rfl rfl) ?_
        refine ph_y (y_callV (fs := []) (cap := gcap) hen rfl rfl (fun w hw => hg ⟨_, _⟩ ⟨_, _⟩ w (hM _ hw.base.ext0))) ?_
        refine ph_y (y_lss rfl rfl) ?_
        refine gk_nil (gk_sub (T' := [(0,_), (1,_), (4,_), (5,_), (6,_), (27,_)]) ⟨rfl, rfl, rfl, rfl, rfl, rfl, trivial⟩ ?_)
        refine gk_cond rfl (fun hc27 => ?_) (fun hc27 => ?_)
        · simp only [decide_eq_true_eq] at hc27
          refine gk_region ?_
          refine gk_y rfl rfl (y_move rfl) ?_
          refine gk_y rfl rfl (y_move rfl) ?_
          refine gk_y rfl rfl (y_indexE se49 rfl rfl (fun _ hw => (Rd.has (Has.rd hl) hw)) (by omega) (by omega)) ?_
          refine gk_y rfl rfl (y_loadE (vs := [_, _]) tf50 rfl (fun _ hw => (Rd.has (Has.rd hl) hw)) (by omega) (by omega) rfl) ?_
          refine gk_storeV 0 tf50 rfl rfl (vs := [_, _]) rfl rfl rfl rfl rfl ?_
          refine gk_nil (gk_sub (T' := [(0,_), (1,_), (4,_), (5,_), (6,_)]) ⟨rfl, rfl, rfl, rfl, rfl, trivial⟩ ?_)
          refine gk_region ?_
          refine gk_y rfl rfl (y_move rfl) ?_
          refine gk_y rfl rfl (y_addI rfl rfl (by omega) (by omega)) ?_
          refine gk_y rfl rfl (y_assign rfl) ?_
          refine gk_nil (gk_sub (T' := [(0,_), (1,_), (4,_), (5,_), (6,_)]) ⟨rfl, rfl, rfl, rfl, rfl, trivial⟩ ?_)
          exact gk_next (i + 1, ⟨_, _⟩) ⟨rfl, rfl, rfl, rfl, rfl, trivial⟩ rfl ⟨by omega, by omega, by rw [minF_take g0 (by omega), ← g2]; first | exact (if_pos hc27).symm | exact (if_neg hc27).symm⟩ (by simp only []; omega)
        · simp only [decide_eq_false_iff_not] at hc27
          refine gk_skip ?_
          refine gk_region ?_
          refine gk_y rfl rfl (y_move rfl) ?_
          refine gk_y rfl rfl (y_addI rfl rfl (by omega) (by omega)) ?_
          refine gk_y rfl rfl (y_assign rfl) ?_
          refine gk_nil (gk_sub (T' := [(0,_), (1,_), (4,_), (5,_), (6,_)]) ⟨rfl, rfl, rfl, rfl, rfl, trivial⟩ ?_)
          exact gk_next (i + 1, ⟨_, _⟩) ⟨rfl, rfl, rfl, rfl, rfl, trivial⟩ rfl ⟨by omega, by omega, by rw [minF_take g0 (by omega), ← g2]; first | exact (if_pos hc27).symm | exact (if_neg hc27).symm⟩ (by simp only []; omega)
      · simp only [decide_eq_false_iff_not] at hc17
        refine gk_exit rfl ?_
        refine gk_seq ?_
        refine gk_region ?_
        refine gk_y rfl rfl (y_loadBA 0 tf50 rfl rfl (vs := [_, _]) rfl rfl) ?_
        refine gk_storeV 1 tf50 rfl rfl (vs := [_, _]) rfl rfl rfl rfl rfl ?_
        refine gk_nil (gk_sub (T' := [(4,_)]) ⟨rfl, trivial⟩ ?_)
        refine gk_ret ?_
        refine gk_pure (rv_one rfl (r1_cellA (i := 1) (vs := [_, _]) tf50 rfl rfl rfl rfl)) ?_
        rw [g2, take_all (by omega)]
set_option maxRecDepth 100000 in
set_option maxHeartbeats 1000000 in
theorem indexfunc_c (a : Option Addr) (cap : Nat) (l : List Pt) (f : Pt → Bool) (gg : FuncId) (gcap : List Value) (w : World) (hl : Has w (Pts a l)) (hs : Small l.length) (M : World → Prop) (hM : ∀ w', Ext w w' → M w') (hen : En Tryz.prog gg) (hg : ∀ p w', M w' → Calls Tryz.prog gg ([ptV p] ++ gcap).toArray w' (Pure (.bool (f p)) w')) :
    Calls Tryz.prog 138 #[.slice a l.length cap, .func (.func gg) #[] gcap.toArray] w (Pure (.int .i64 (findI f l)) w) := by
  refine calls_of_gk (vs := [_, _]) Tryz.func138 rfl rfl (Nat.le_of_ble_eq_true rfl) ?_
  refine gk_seq ?_
  refine gk_region ?_
  refine gk_y rfl rfl (y_assign rfl) ?_
  refine gk_nil (gk_sub (T' := [(0,_), (1,_), (4,_)]) ⟨rfl, rfl, rfl, trivial⟩ ?_)
  refine gk_seq ?_
  refine gk_seq ?_
  refine gk_region ?_
  refine gk_y rfl rfl (y_move rfl) ?_
  refine gk_y rfl rfl (y_lenS (Tryz.underlying49) rfl) ?_
  refine gk_y rfl rfl (y_move rfl) ?_
  refine gk_nil (gk_sub (T' := [(0,_), (1,_), (4,_), (7,_), (8,_)]) ⟨rfl, rfl, rfl, rfl, rfl, trivial⟩ ?_)
  refine gk_block ?_
  refine gk_loop (X := Int) (fun (i : Int) => [(0, .slice a l.length cap), (1, .func (.func gg) #[] gcap.toArray), (4, .int .i64 0), (7, .int .i64 (l.length : Int)), (8, .int .i64 i)]) (fun (i : Int) => []) (fun (i : Int) => (0 ≤ i ∧ i ≤ l.length ∧ ∀ j : Nat, (j : Int) < i → f (l.getD j default) = false)) (fun (i : Int) => (l.length - i).toNat) 0 ⟨rfl, rfl, rfl, rfl, rfl, trivial⟩ rfl ?_ ?_
  · exact ⟨by omega, by omega, fun j hj => by omega⟩
  · rintro i hI
    obtain ⟨g0, g1, g2⟩ := hI
    refine gk_seq ?_
    refine gk_region ?_
    refine gk_y rfl rfl (y_lss rfl rfl) ?_
    refine gk_nil (gk_sub (T' := [(0,_), (1,_), (4,_), (7,_), (8,_), (9,_)]) ⟨rfl, rfl, rfl, rfl, rfl, rfl, trivial⟩ ?_)
    refine gk_seq ?_
    refine gk_cond rfl (fun hc9 => ?_) (fun hc9 => ?_)
    · simp only [decide_eq_true_eq] at hc9
      refine gk_skip ?_
      refine gk_seq ?_
      refine gk_block ?_
      refine gk_seq ?_
      refine gk_region ?_
      refine gk_y rfl rfl (y_move rfl) ?_
      refine gk_y rfl rfl (y_assign rfl) ?_
      refine gk_nil (gk_sub (T' := [(0,_), (1,_), (4,_), (5,_), (7,_), (8,_)]) ⟨rfl, rfl, rfl, rfl, rfl, rfl, trivial⟩ ?_)
      refine gk_seq ?_
      refine gk_region ?_
      refine gk_y rfl rfl (y_move rfl) ?_
      refine gk_y rfl rfl (y_move rfl) ?_
      refine gk_y rfl rfl (y_move rfl) ?_
      refine gk_y rfl rfl (y_indexE se49 rfl rfl (fun _ hw => (Rd.has (Has.rd hl) hw)) (by omega) (by omega)) ?_
      refine gk_y rfl rfl (y_loadE (vs := [_, _]) tf50 rfl (fun _ hw => (Rd.has (Has.rd hl) hw)) (by omega) (by omega) rfl) ?_
      refine gk_y rfl rfl (y_callV (fs := []) (cap := gcap) hen rfl rfl (fun w hw => hg ⟨_, _⟩ w (hM _ hw.base.ext0))) ?_
      refine gk_nil (gk_sub (T' := [(0,_), (1,_), (4,_), (5,_), (7,_), (8,_), (16,_)]) ⟨rfl, rfl, rfl, rfl, rfl, rfl, rfl, trivial⟩ ?_)
      refine gk_cond rfl (fun hc16 => ?_) (fun hc16 => ?_)
      · skip
        refine gk_seq ?_
        refine gk_region ?_
        refine gk_y rfl rfl (y_move rfl) ?_
        refine gk_y rfl rfl (y_assign rfl) ?_
        refine gk_nil (gk_sub (T' := [(0,_), (1,_), (4,_), (7,_), (8,_)]) ⟨rfl, rfl, rfl, rfl, rfl, trivial⟩ ?_)
        refine gk_ret ?_
        refine gk_pure (rv_one rfl (r1_tmp rfl)) ?_
        exact congrArg _ (findI_hit g0 (by omega) g2 hc16).symm
      · skip
        refine gk_skip ?_
        refine gk_region ?_
        refine gk_y rfl rfl (y_addI rfl rfl (by omega) (by omega)) ?_
        refine gk_y rfl rfl (y_move rfl) ?_
        refine gk_nil (gk_sub (T' := [(0,_), (1,_), (4,_), (7,_), (8,_)]) ⟨rfl, rfl, rfl, rfl, rfl, trivial⟩ ?_)
        exact gk_next _ ⟨rfl, rfl, rfl, rfl, rfl, trivial⟩ rfl ⟨by omega, by omega, fun j hj => if h : (j : Int) < i then g2 j h else (by rw [show j = i.toNat from by omega]; exact hc16)⟩ (by omega)
    · simp only [decide_eq_false_iff_not] at hc9
      refine gk_exit rfl ?_
      refine gk_seq ?_
      refine gk_region ?_
      refine gk_y rfl rfl (y_assign rfl) ?_
      refine gk_nil (gk_sub (T' := [(4,_)]) ⟨rfl, trivial⟩ ?_)
      refine gk_ret ?_
      refine gk_pure (rv_one rfl (r1_tmp rfl)) ?_
      exact congrArg _ (findI_none (fun j hj => g2 j (by omega))).symm
set_option maxRecDepth 100000 in
set_option maxHeartbeats 1000000 in
theorem containsfunc_c (a : Option Addr) (cap : Nat) (l : List Pt) (f : Pt → Bool) (gg : FuncId) (gcap : List Value) (w : World) (hl : Has w (Pts a l)) (hs : Small l.length) (M : World → Prop) (hM : ∀ w', Ext w w' → M w') (hen : En Tryz.prog gg) (hg : ∀ p w', M w' → Calls Tryz.prog gg ([ptV p] ++ gcap).toArray w' (Pure (.bool (f p)) w')) :
    Calls Tryz.prog 117 #[.slice a l.length cap, .func (.func gg) #[] gcap.toArray] w (Pure (.bool (l.any f)) w) := by
  refine calls_of_gk (vs := [_, _]) Tryz.func117 rfl rfl (Nat.le_of_ble_eq_true rfl) ?_
  refine gk_seq ?_
  refine gk_region ?_
  refine gk_y rfl rfl (y_assign rfl) ?_
  refine gk_nil (gk_sub (T' := [(0,_), (1,_), (4,_)]) ⟨rfl, rfl, rfl, trivial⟩ ?_)
  refine gk_seq ?_
  refine gk_region ?_
  refine gk_y rfl rfl (y_move rfl) ?_
  refine gk_y rfl rfl (y_move rfl) ?_
  refine gk_y rfl rfl (y_call en138 rfl (fun w hw => indexfunc_c _ _ l f _ _ w (Rd.has (Has.rd hl) hw) (by assumption) M (fun w' h => hM w' (hw.base.ext0.trans h)) hen hg)) ?_
  refine gk_y rfl rfl (y_geq rfl rfl) ?_
  refine gk_y rfl rfl (y_assign rfl) ?_
  refine gk_nil (gk_sub (T' := [(4,_)]) ⟨rfl, trivial⟩ ?_)
  refine gk_ret ?_
  refine gk_pure (rv_one rfl (r1_tmp rfl)) ?_
  rw [findI_any]
set_option maxRecDepth 100000 in
set_option maxHeartbeats 1000000 in
theorem convex_c (a : Option Addr) (cap : Nat) (l : List Pt) (w : World) (hl : Has w (Pts a l)) (hs : Small l.length) :
    Calls Tryz.prog 118 #[.slice a l.length cap] w (Pure (.bool (convexB l)) w) := by
  refine calls_of_gk (vs := [_]) Tryz.func118 rfl rfl (Nat.le_of_ble_eq_true rfl) ?_
  refine gk_seq ?_
  refine gk_region ?_
  refine gk_y rfl rfl (y_assign rfl) ?_
  refine gk_nil (gk_sub (T' := [(0,_), (2,_)]) ⟨rfl, rfl, trivial⟩ ?_)
  refine gk_seq ?_
  refine gk_seq ?_
  refine gk_region ?_
  refine gk_y rfl rfl (y_move rfl) ?_
  refine gk_y rfl rfl (y_lenS (Tryz.underlying49) rfl) ?_
  refine gk_y rfl rfl (y_call en55 rfl (fun w hw => within_c _ _ _ w)) ?_
  refine gk_y rfl rfl (y_not rfl) ?_
  refine gk_nil (gk_sub (T' := [(0,_), (2,_), (8,_)]) ⟨rfl, rfl, rfl, trivial⟩ ?_)
  refine gk_cond rfl (fun hc8 => ?_) (fun hc8 => ?_)
  · have hc8 := hc8
    refine gk_seq ?_
    refine gk_region ?_
    refine gk_y rfl rfl (y_assign rfl) ?_
    refine gk_nil (gk_sub (T' := [(0,_), (2,_)]) ⟨rfl, rfl, trivial⟩ ?_)
    refine gk_ret ?_
    refine gk_pure (rv_one rfl (r1_tmp rfl)) ?_
    exact congrArg _ (convex_no hc8).symm
  · have hc8 := hc8
    refine gk_skip ?_
    refine gk_seq ?_
    refine gk_seq ?_
    refine gk_region ?_
    refine gk_y rfl rfl (y_move rfl) ?_
    refine gk_y rfl rfl (y_lenS (Tryz.underlying49) rfl) ?_
    refine gk_y rfl rfl (y_move rfl) ?_
    refine gk_nil (gk_sub (T' := [(0,_), (2,_), (10,_), (11,_)]) ⟨rfl, rfl, rfl, rfl, trivial⟩ ?_)
    refine gk_block ?_
    refine gk_loop (X := Int) (fun (i : Int) => [(0, .slice a l.length cap), (2, .bool false), (10, .int .i64 (l.length : Int)), (11, .int .i64 i)]) (fun (i : Int) => []) (fun (i : Int) => (0 ≤ i ∧ i ≤ l.length ∧ ∀ j : Nat, (j : Int) < i → cvxI l j = true)) (fun (i : Int) => (l.length - i).toNat) 0 ⟨rfl, rfl, rfl, rfl, trivial⟩ rfl ?_ ?_
    · exact ⟨by omega, by omega, fun j hj => by omega⟩
    · rintro i hI
      obtain ⟨g0, g1, g2⟩ := hI
      have hlen := convex_len hc8
      refine gk_seq ?_
      refine gk_region ?_
      refine gk_y rfl rfl (y_lss rfl rfl) ?_
      refine gk_nil (gk_sub (T' := [(0,_), (2,_), (10,_), (11,_), (12,_)]) ⟨rfl, rfl, rfl, rfl, rfl, trivial⟩ ?_)
      refine gk_seq ?_
      refine gk_cond rfl (fun hc12 => ?_) (fun hc12 => ?_)
      · simp only [decide_eq_true_eq] at hc12
        refine gk_skip ?_
        refine gk_seq ?_
        refine gk_block ?_
        refine gk_seq ?_
        refine gk_region ?_
        refine gk_y rfl rfl (y_move rfl) ?_
        refine gk_y rfl rfl (y_assign rfl) ?_
        refine gk_nil (gk_sub (T' := [(0,_), (2,_), (3,_), (10,_), (11,_)]) ⟨rfl, rfl, rfl, rfl, rfl, trivial⟩ ?_)
        refine gk_seq ?_
        refine gk_seq ?_
        refine gk_any 14 (fun _ => mixed) (by kernel_rfl) ?_
        refine ph_y (y_move rfl) ?_
        refine ph_y (y_move rfl) ?_
        refine ph_y (y_subI rfl rfl (by omega) (by omega)) ?_
        refine ph_y (y_call en88 rfl (fun w hw => at_c _ _ l (i - 1) w (Rd.has (Has.rd hl) hw) (by assumption) (by omega) (by omega) (by omega))) ?_
        refine ph_y (y_move rfl) ?_
        refine ph_y (y_move rfl) ?_
        refine ph_y (y_indexE se49 rfl rfl (fun _ hw => (Rd.has (Has.rd hl) hw)) (by omega) (by omega)) ?_
        refine ph_y (y_loadE (vs := [_, _]) tf50 rfl (fun _ hw => (Rd.has (Has.rd hl) hw)) (by omega) (by omega) rfl) ?_
        refine ph_y (y_move rfl) ?_
        refine ph_y (y_move rfl) ?_
        refine ph_y (y_addI rfl rfl (by omega) (by omega)) ?_
        refine ph_y (y_call en88 rfl (fun w hw => at_c _ _ l (i + 1) w (Rd.has (Has.rd hl) hw) (by assumption) (by omega) (by omega) (by omega))) ?_
        refine ph_y (y_call en87 rfl (fun w hw => turn_c ⟨_, _⟩ ⟨_, _⟩ ⟨_, _⟩ w)) ?_
        refine ph_y (y_leq rfl rfl) ?_
        refine gk_nil (gk_sub (T' := [(0,_), (2,_), (3,_), (10,_), (11,_), (27,_)]) ⟨rfl, rfl, rfl, rfl, rfl, rfl, trivial⟩ ?_)
        refine gk_cond rfl (fun hc27 => ?_) (fun hc27 => ?_)
        · simp only [decide_eq_true_eq] at hc27
          refine gk_seq ?_
          refine gk_region ?_
          refine gk_y rfl rfl (y_assign rfl) ?_
          refine gk_nil (gk_sub (T' := [(0,_), (2,_), (3,_), (10,_), (11,_)]) ⟨rfl, rfl, rfl, rfl, rfl, trivial⟩ ?_)
          refine gk_ret ?_
          refine gk_pure (rv_one rfl (r1_tmp rfl)) ?_
          exact congrArg _ (convex_bad1 g0 (by omega) hc27).symm
        · simp only [decide_eq_false_iff_not] at hc27
          refine gk_skip ?_
          refine gk_seq ?_
          refine gk_region ?_
          refine gk_y rfl rfl (y_assign rfl) ?_
          refine gk_nil (gk_sub (T' := [(0,_), (2,_), (3,_), (4,_), (10,_), (11,_)]) ⟨rfl, rfl, rfl, rfl, rfl, rfl, trivial⟩ ?_)
          refine gk_block ?_
          refine gk_loop (X := Int) (fun (k : Int) => [(0, .slice a l.length cap), (2, .bool false), (3, .int .i64 i), (4, .int .i64 k), (10, .int .i64 (l.length : Int)), (11, .int .i64 i)]) (fun (k : Int) => []) (fun (k : Int) => (2 ≤ k ∧ (k ≤ l.length - 1 ∨ k = 2) ∧ cvx1 l i = true ∧ ∀ j : Nat, 2 ≤ j → (j : Int) < k → cvx2 l i j = true)) (fun (k : Int) => (l.length - k).toNat) 2 ⟨rfl, rfl, rfl, rfl, rfl, rfl, trivial⟩ rfl ?_ ?_
          · exact ⟨by omega, by omega, cvx1_of hc27, fun j h1 h2 => by omega⟩
          · rintro k hI
            obtain ⟨k0, k1, k2, k3⟩ := hI
            refine gk_seq ?_
            refine gk_seq ?_
            refine gk_region ?_
            refine gk_y rfl rfl (y_move rfl) ?_
            refine gk_y rfl rfl (y_move rfl) ?_
            refine gk_y rfl rfl (y_lenS (Tryz.underlying49) rfl) ?_
            refine gk_y rfl rfl (y_subI rfl rfl (by omega) (by omega)) ?_
            refine gk_y rfl rfl (y_lss rfl rfl) ?_
            refine gk_nil (gk_sub (T' := [(0,_), (2,_), (3,_), (4,_), (10,_), (11,_), (32,_)]) ⟨rfl, rfl, rfl, rfl, rfl, rfl, rfl, trivial⟩ ?_)
            refine gk_cond rfl (fun hc32 => ?_) (fun hc32 => ?_)
            · simp only [decide_eq_true_eq] at hc32
              refine gk_skip ?_
              refine gk_seq ?_
              refine gk_block ?_
              refine gk_seq ?_
              refine gk_any 15 (fun _ => mixed) (by kernel_rfl) ?_
              refine ph_y (y_move rfl) ?_
              refine ph_y (y_move rfl) ?_
              refine ph_y (y_indexE se49 rfl rfl (fun _ hw => (Rd.has (Has.rd hl) hw)) (by omega) (by omega)) ?_
              refine ph_y (y_loadE (vs := [_, _]) tf50 rfl (fun _ hw => (Rd.has (Has.rd hl) hw)) (by omega) (by omega) rfl) ?_
              refine ph_y (y_move rfl) ?_
              refine ph_y (y_move rfl) ?_
              refine ph_y (y_addI rfl rfl (by omega) (by omega)) ?_
              refine ph_y (y_call en88 rfl (fun w hw => at_c _ _ l (i + 1) w (Rd.has (Has.rd hl) hw) (by assumption) (by omega) (by omega) (by omega))) ?_
              refine ph_y (y_move rfl) ?_
              refine ph_y (y_move rfl) ?_
              refine ph_y (y_move rfl) ?_
              refine ph_y (y_addI rfl rfl (by omega) (by omega)) ?_
              refine ph_y (y_call en88 rfl (fun w hw => at_c _ _ l (i + k) w (Rd.has (Has.rd hl) hw) (by assumption) (by omega) (by omega) (by omega))) ?_
              refine ph_y (y_call en87 rfl (fun w hw => turn_c ⟨_, _⟩ ⟨_, _⟩ ⟨_, _⟩ w)) ?_
              refine ph_y (y_leq rfl rfl) ?_
              refine gk_nil (gk_sub (T' := [(0,_), (2,_), (3,_), (4,_), (10,_), (11,_), (49,_)]) ⟨rfl, rfl, rfl, rfl, rfl, rfl, rfl, trivial⟩ ?_)
              refine gk_cond rfl (fun hc49 => ?_) (fun hc49 => ?_)
              · simp only [decide_eq_true_eq] at hc49
                refine gk_seq ?_
                refine gk_region ?_
                refine gk_y rfl rfl (y_assign rfl) ?_
                refine gk_nil (gk_sub (T' := [(0,_), (2,_), (3,_), (4,_), (10,_), (11,_)]) ⟨rfl, rfl, rfl, rfl, rfl, rfl, trivial⟩ ?_)
                refine gk_ret ?_
                refine gk_pure (rv_one rfl (r1_tmp rfl)) ?_
                exact congrArg _ (convex_bad2 g0 (by omega) k0 (by omega) hc49).symm
              · simp only [decide_eq_false_iff_not] at hc49
                refine gk_skip ?_
                refine gk_region ?_
                refine gk_y rfl rfl (y_move rfl) ?_
                refine gk_y rfl rfl (y_addI rfl rfl (by omega) (by omega)) ?_
                refine gk_y rfl rfl (y_assign rfl) ?_
                refine gk_nil (gk_sub (T' := [(0,_), (2,_), (3,_), (4,_), (10,_), (11,_)]) ⟨rfl, rfl, rfl, rfl, rfl, rfl, trivial⟩ ?_)
                exact gk_next _ ⟨rfl, rfl, rfl, rfl, rfl, rfl, trivial⟩ rfl ⟨by omega, by omega, k2, fun j h1 h2 => if h : (j : Int) < k then k3 j h1 h else (by rw [show (j : Int) = k from by omega]; exact cvx2_of hc49)⟩ (by omega)
            · simp only [decide_eq_false_iff_not] at hc32
              refine gk_exit rfl ?_
              refine gk_region ?_
              refine gk_y rfl rfl (y_addI rfl rfl (by omega) (by omega)) ?_
              refine gk_y rfl rfl (y_move rfl) ?_
              refine gk_nil (gk_sub (T' := [(0,_), (2,_), (10,_), (11,_)]) ⟨rfl, rfl, rfl, rfl, trivial⟩ ?_)
              exact gk_next _ ⟨rfl, rfl, rfl, rfl, trivial⟩ rfl ⟨by omega, by omega, fun j hj => if h : (j : Int) < i then g2 j h else (by rw [show (j : Int) = i from by omega]; exact cvxI_true (by omega) k2 k3)⟩ (by omega)
      · simp only [decide_eq_false_iff_not] at hc12
        refine gk_exit rfl ?_
        refine gk_seq ?_
        refine gk_region ?_
        refine gk_y rfl rfl (y_assign rfl) ?_
        refine gk_nil (gk_sub (T' := [(2,_)]) ⟨rfl, trivial⟩ ?_)
        refine gk_ret ?_
        refine gk_pure (rv_one rfl (r1_tmp rfl)) ?_
        exact congrArg _ (convex_yes hlen g2 (by omega)).symm
set_option maxRecDepth 100000 in
set_option maxHeartbeats 1000000 in
theorem placed1_c (p : Pt) (w : World)  :
    Calls Tryz.prog 116 #[.agg #[.int .i64 p.x, .int .i64 p.z]] w (Pure (.bool (farB p)) w) := by
  refine calls_of_gk (vs := [_]) Tryz.func116 rfl rfl (Nat.le_of_ble_eq_true rfl) ?_
  refine gk_seq ?_
  refine gk_region ?_
  refine gk_yx rfl rfl (yx_box (vs := [_, _]) rfl rfl) fun b1 => ?_
  refine gk_y rfl rfl (y_assign rfl) ?_
  refine gk_nil (gk_sub (T' := [(1,_), (2,_)]) ⟨rfl, rfl, trivial⟩ ?_)
  refine gk_seq ?_
  refine gk_any 11 (fun _ => mixed) (by kernel_rfl) ?_
  refine ph_y (y_fieldAddr fo50_0 rfl) ?_
  refine ph_y (y_loadB1 0 tf3 rfl rfl rfl) ?_
  refine ph_y (y_call en55 rfl (fun w hw => within_c _ _ _ w)) ?_
  refine ph_y (y_not rfl) ?_
  refine ph_y (y_move rfl) ?_
  refine ph_gF rfl rfl (fun hgd => by (try rw [hgd]); exact (y_fieldAddr fo50_1 rfl)) ?_
  refine ph_gF rfl rfl (fun hgd => by (try rw [hgd]); exact (y_loadB1 0 tf3 rfl rfl rfl)) ?_
  refine ph_gF rfl rfl (fun hgd => by (try rw [hgd]); exact (y_call (v := .bool (decide (0 ≤ p.z) && decide (p.z ≤ 2000))) en55 rfl (fun w hw => within_c _ _ _ w))) ?_
  refine ph_gF rfl rfl (fun hgd => by (try rw [hgd]); exact (y_not rfl)) ?_
  refine ph_y (y_pickOr rfl rfl rfl) ?_
  refine ph_y (y_assign rfl) ?_
  refine gk_nil (gk_sub (T' := [(2,_)]) ⟨rfl, trivial⟩ ?_)
  refine gk_ret ?_
  refine gk_pure (rv_one rfl (r1_tmp rfl)) ?_
  rfl
set_option maxRecDepth 100000 in
set_option maxHeartbeats 1000000 in
theorem placed_c (a : Option Addr) (cap : Nat) (l : List Pt) (w : World) (hl : Has w (Pts a l)) (hs : Small l.length) :
    Calls Tryz.prog 75 #[.slice a l.length cap] w (Pure (.bool (placedB l)) w) := by
  refine calls_of_gk (vs := [_]) Tryz.func75 rfl rfl (Nat.le_of_ble_eq_true rfl) ?_
  refine gk_seq ?_
  refine gk_region ?_
  refine gk_y rfl rfl (y_assign rfl) ?_
  refine gk_nil (gk_sub (T' := [(0,_), (2,_)]) ⟨rfl, rfl, trivial⟩ ?_)
  refine gk_seq ?_
  refine gk_region ?_
  refine gk_y rfl rfl (y_assign rfl) ?_
  refine gk_nil (gk_sub (T' := [(0,_), (2,_), (3,_)]) ⟨rfl, rfl, rfl, trivial⟩ ?_)
  refine gk_seq ?_
  refine gk_seq ?_
  refine gk_any 8 (fun _ => mixed) (by kernel_rfl) ?_
  refine ph_y (y_move rfl) ?_
  refine ph_y (y_move rfl) ?_
  refine ph_y (y_call en117 rfl (fun w hw => containsfunc_c _ _ l farB _ [] w (Rd.has (Has.rd hl) hw) (by assumption) (fun _ => True) (fun _ _ => trivial) en116 (fun p w _ => placed1_c p w))) ?_
  refine ph_y (y_move rfl) ?_
  refine ph_gF rfl rfl (fun hgd => by (try rw [hgd]); exact (y_move rfl)) ?_
  refine ph_gF rfl rfl (fun hgd => by (try rw [hgd]); exact (y_call (v := .bool (convexB l)) en118 rfl (fun w hw => convex_c _ _ l w (Rd.has (Has.rd hl) hw) (by assumption)))) ?_
  refine ph_gF rfl rfl (fun hgd => by (try rw [hgd]); exact (y_not rfl)) ?_
  refine ph_y (y_pickOr rfl rfl rfl) ?_
  refine gk_nil (gk_sub (T' := [(0,_), (2,_), (11,_)]) ⟨rfl, rfl, rfl, trivial⟩ ?_)
  refine gk_cond rfl (fun hc11 => ?_) (fun hc11 => ?_)
  · skip
    refine gk_seq ?_
    refine gk_region ?_
    refine gk_y rfl rfl (y_assign rfl) ?_
    refine gk_nil (gk_sub (T' := [(0,_), (2,_)]) ⟨rfl, rfl, trivial⟩ ?_)
    refine gk_ret ?_
    refine gk_pure (rv_one rfl (r1_tmp rfl)) ?_
    exact congrArg _ (placed_no hc11).symm
  · have h0 := placed_pos hc11
    refine gk_skip ?_
    refine gk_seq ?_
    refine gk_any 13 (fun _ => mixed) (by kernel_rfl) ?_
    refine ph_y (y_move rfl) ?_
    refine ph_y (y_call en93 rfl (fun w hw => least_c _ _ l w (Rd.has (Has.rd hl) hw) (by assumption) (by omega))) ?_
    refine ph_y (y_buildL (parts := []) rfl bd50_) ?_
    refine ph_y (y_eql50 rfl rfl) ?_
    refine ph_y (y_move rfl) ?_
    refine ph_gT rfl rfl (fun hgd => by (try rw [hgd]); exact (y_move rfl)) ?_
    refine ph_gT rfl rfl (fun hgd => by (try rw [hgd]); exact (y_call (v := .agg #[.int .i64 ((minF lowerW l).x), .int .i64 ((minF lowerW l).z)]) en94 rfl (fun w hw => minfunc_c _ _ l lowerW _ [] w (Rd.has (Has.rd hl) hw) (by assumption) (by omega) (fun _ => True) (fun _ _ => trivial) en95 (fun p q w _ => lower_c p q w)))) ?_
    refine ph_gT rfl rfl (fun hgd => by (try rw [hgd]); exact (y_move rfl)) ?_
    refine ph_gT rfl rfl (fun hgd => by (try rw [hgd]); exact (y_indexE se49 rfl rfl (fun _ hw => (Rd.has (Has.rd hl) hw)) (by omega) (by omega))) ?_
    refine ph_gT rfl rfl (fun hgd => by (try rw [hgd]); exact (y_loadE (vs := [_, _]) tf50 rfl (fun _ hw => (Rd.has (Has.rd hl) hw)) (by omega) (by omega) rfl)) ?_
    refine ph_gT rfl rfl (fun hgd => by (try rw [hgd]); exact (y_eql50 rfl rfl)) ?_
    refine ph_y (y_pickAnd rfl rfl rfl) ?_
    refine ph_y (y_assign rfl) ?_
    refine gk_nil (gk_sub (T' := [(2,_)]) ⟨rfl, trivial⟩ ?_)
    refine gk_ret ?_
    refine gk_pure (rv_one rfl (r1_tmp rfl)) ?_
    exact congrArg _ (placed_yes hc11).symm
set_option maxRecDepth 100000 in
set_option maxHeartbeats 1000000 in
theorem rfirst_c (a : Option Addr) (cap : Nat) (l : List Pt) (w : World) (hl : Has w (Pts a l)) (hs : Small l.length) :
    Calls Tryz.prog 113 #[.slice a l.length cap] w (Pure (.int .i64 (rfirst l)) w) := by
  refine calls_of_gk (vs := [_]) Tryz.func113 rfl rfl (Nat.le_of_ble_eq_true rfl) ?_
  refine gk_seq ?_
  refine gk_region ?_
  refine gk_y rfl rfl (y_assign rfl) ?_
  refine gk_nil (gk_sub (T' := [(0,_), (2,_)]) ⟨rfl, rfl, trivial⟩ ?_)
  refine gk_seq ?_
  refine gk_region ?_
  refine gk_y rfl rfl (y_assign rfl) ?_
  refine gk_nil (gk_sub (T' := [(0,_), (2,_), (3,_)]) ⟨rfl, rfl, rfl, trivial⟩ ?_)
  refine gk_seq ?_
  refine gk_seq ?_
  refine gk_region ?_
  refine gk_y rfl rfl (y_assign rfl) ?_
  refine gk_nil (gk_sub (T' := [(0,_), (2,_), (3,_), (4,_)]) ⟨rfl, rfl, rfl, rfl, trivial⟩ ?_)
  refine gk_block ?_
  refine gk_loop (X := Int × Int) (fun ⟨i, o⟩ => [(0, .slice a l.length cap), (2, .int .i64 0), (3, .int .i64 o), (4, .int .i64 i)]) (fun ⟨i, o⟩ => []) (fun ⟨i, o⟩ => (0 ≤ i ∧ i ≤ l.length ∧ 0 ≤ o ∧ o ≤ i ∧ o = rfirstN l i.toNat)) (fun ⟨i, o⟩ => (l.length - i).toNat) (0, 0) ⟨rfl, rfl, rfl, rfl, trivial⟩ rfl ?_ ?_
  · exact ⟨by omega, by omega, by omega, by omega, rfl⟩
  · rintro ⟨i, o⟩ hI
    obtain ⟨g0, g1, g2, g3, g4⟩ := hI
    refine gk_seq ?_
    refine gk_seq ?_
    refine gk_region ?_
    refine gk_y rfl rfl (y_move rfl) ?_
    refine gk_y rfl rfl (y_move rfl) ?_
    refine gk_y rfl rfl (y_lenS (Tryz.underlying24) rfl) ?_
    refine gk_y rfl rfl (y_lss rfl rfl) ?_
    refine gk_nil (gk_sub (T' := [(0,_), (2,_), (3,_), (4,_), (8,_)]) ⟨rfl, rfl, rfl, rfl, rfl, trivial⟩ ?_)
    have hne : l ≠ [] → True := fun _ => trivial
    refine gk_cond rfl (fun hc8 => ?_) (fun hc8 => ?_)
    · simp only [decide_eq_true_eq] at hc8
      refine gk_skip ?_
      refine gk_seq ?_
      refine gk_block ?_
      refine gk_seq ?_
      refine gk_any 37 (fun _ => mixed) (by kernel_rfl) ?_
      refine ph_y (y_move rfl) ?_
      refine ph_y (y_move rfl) ?_
      refine ph_y (y_indexE se24 rfl rfl (fun _ hw => (Rd.has (Has.rd hl) hw)) (by omega) (by omega)) ?_
      refine ph_y (y_fieldE fo26_1 rfl (fun w hw => elems_addr (i := i) (Rd.has (Has.rd hl) hw) (by omega) (by omega))) ?_
      refine ph_y (y_loadEF tf3 rfl (fun _ hw => (Rd.has (Has.rd hl) hw)) (by omega) (by omega) rfl) ?_
      refine ph_y (y_move rfl) ?_
      refine ph_y (y_move rfl) ?_
      refine ph_y (y_indexE se24 rfl rfl (fun _ hw => (Rd.has (Has.rd hl) hw)) (by omega) (by omega)) ?_
      refine ph_y (y_fieldE fo26_1 rfl (fun w hw => elems_addr (i := o) (Rd.has (Has.rd hl) hw) (by omega) (by omega))) ?_
      refine ph_y (y_loadEF tf3 rfl (fun _ hw => (Rd.has (Has.rd hl) hw)) (by omega) (by omega) rfl) ?_
      refine ph_y (y_lss rfl rfl) ?_
      refine ph_y (y_move rfl) ?_
      refine ph_gF rfl rfl (fun hgd => by (try rw [hgd]); exact (y_move rfl)) ?_
      refine ph_gF rfl rfl (fun hgd => by (try rw [hgd]); exact (y_move rfl)) ?_
      refine ph_gF rfl rfl (fun hgd => by (try rw [hgd]); exact (y_indexE se24 rfl rfl (fun _ hw => (Rd.has (Has.rd hl) hw)) (by omega) (by omega))) ?_
      refine ph_gF rfl rfl (fun hgd => by (try rw [hgd]); exact (y_fieldE fo26_1 rfl (fun w hw => elems_addr (i := i) (Rd.has (Has.rd hl) hw) (by omega) (by omega)))) ?_
      refine ph_gF rfl rfl (fun hgd => by (try rw [hgd]); exact (y_loadEF tf3 rfl (fun _ hw => (Rd.has (Has.rd hl) hw)) (by omega) (by omega) rfl)) ?_
      refine ph_gF rfl rfl (fun hgd => by (try rw [hgd]); exact (y_move rfl)) ?_
      refine ph_gF rfl rfl (fun hgd => by (try rw [hgd]); exact (y_move rfl)) ?_
      refine ph_gF rfl rfl (fun hgd => by (try rw [hgd]); exact (y_indexE se24 rfl rfl (fun _ hw => (Rd.has (Has.rd hl) hw)) (by omega) (by omega))) ?_
      refine ph_gF rfl rfl (fun hgd => by (try rw [hgd]); exact (y_fieldE fo26_1 rfl (fun w hw => elems_addr (i := o) (Rd.has (Has.rd hl) hw) (by omega) (by omega)))) ?_
      refine ph_gF rfl rfl (fun hgd => by (try rw [hgd]); exact (y_loadEF tf3 rfl (fun _ hw => (Rd.has (Has.rd hl) hw)) (by omega) (by omega) rfl)) ?_
      refine ph_gF rfl rfl (fun hgd => by (try rw [hgd]); exact (y_eql rfl rfl)) ?_
      refine ph_gF rfl rfl (fun hgd => by (try rw [hgd]); exact (y_move rfl)) ?_
      refine ph_gTT rfl rfl (fun hgd => by (try rw [hgd]); exact (y_move rfl)) ?_
      refine ph_gTT rfl rfl (fun hgd => by (try rw [hgd]); exact (y_move rfl)) ?_
      refine ph_gTT rfl rfl (fun hgd => by (try rw [hgd]); exact (y_indexE se24 rfl rfl (fun _ hw => (Rd.has (Has.rd hl) hw)) (by omega) (by omega))) ?_
      refine ph_gTT rfl rfl (fun hgd => by (try rw [hgd]); exact (y_fieldE fo26_0 rfl (fun w hw => elems_addr (i := i) (Rd.has (Has.rd hl) hw) (by omega) (by omega)))) ?_
      refine ph_gTT rfl rfl (fun hgd => by (try rw [hgd]); exact (y_loadEF tf3 rfl (fun _ hw => (Rd.has (Has.rd hl) hw)) (by omega) (by omega) rfl)) ?_
      refine ph_gTT rfl rfl (fun hgd => by (try rw [hgd]); exact (y_move rfl)) ?_
      refine ph_gTT rfl rfl (fun hgd => by (try rw [hgd]); exact (y_move rfl)) ?_
      refine ph_gTT rfl rfl (fun hgd => by (try rw [hgd]); exact (y_indexE se24 rfl rfl (fun _ hw => (Rd.has (Has.rd hl) hw)) (by omega) (by omega))) ?_
      refine ph_gTT rfl rfl (fun hgd => by (try rw [hgd]); exact (y_fieldE fo26_0 rfl (fun w hw => elems_addr (i := o) (Rd.has (Has.rd hl) hw) (by omega) (by omega)))) ?_
      refine ph_gTT rfl rfl (fun hgd => by (try rw [hgd]); exact (y_loadEF tf3 rfl (fun _ hw => (Rd.has (Has.rd hl) hw)) (by omega) (by omega) rfl)) ?_
      refine ph_gTT rfl rfl (fun hgd => by (try rw [hgd]); exact (y_lss rfl rfl)) ?_
      refine ph_gF rfl rfl (fun hgd => by (try rw [hgd]); exact (y_pickAnd rfl rfl rfl)) ?_
      refine ph_y (y_pickOr rfl rfl rfl) ?_
      refine gk_nil (gk_sub (T' := [(0,_), (2,_), (3,_), (4,_), (47,_)]) ⟨rfl, rfl, rfl, rfl, rfl, trivial⟩ ?_)
      refine gk_cond rfl (fun hc47 => ?_) (fun hc47 => ?_)
      · skip
        refine gk_region ?_
        refine gk_y rfl rfl (y_move rfl) ?_
        refine gk_y rfl rfl (y_assign rfl) ?_
        refine gk_nil (gk_sub (T' := [(0,_), (2,_), (3,_), (4,_)]) ⟨rfl, rfl, rfl, rfl, trivial⟩ ?_)
        refine gk_region ?_
        refine gk_y rfl rfl (y_move rfl) ?_
        refine gk_y rfl rfl (y_addI rfl rfl (by omega) (by omega)) ?_
        refine gk_y rfl rfl (y_assign rfl) ?_
        refine gk_nil (gk_sub (T' := [(0,_), (2,_), (3,_), (4,_)]) ⟨rfl, rfl, rfl, rfl, trivial⟩ ?_)
        exact gk_next (i + 1, _) ⟨rfl, rfl, rfl, rfl, trivial⟩ rfl ⟨by omega, by omega, by omega, by omega, by rw [rfirstN_succ g0, ← g4]; first | exact (if_pos hc47).symm | exact (if_neg (fun h => Bool.false_ne_true (hc47.symm.trans h))).symm⟩ (by simp only []; omega)
      · skip
        refine gk_skip ?_
        refine gk_region ?_
        refine gk_y rfl rfl (y_move rfl) ?_
        refine gk_y rfl rfl (y_addI rfl rfl (by omega) (by omega)) ?_
        refine gk_y rfl rfl (y_assign rfl) ?_
        refine gk_nil (gk_sub (T' := [(0,_), (2,_), (3,_), (4,_)]) ⟨rfl, rfl, rfl, rfl, trivial⟩ ?_)
        exact gk_next (i + 1, _) ⟨rfl, rfl, rfl, rfl, trivial⟩ rfl ⟨by omega, by omega, by omega, by omega, by rw [rfirstN_succ g0, ← g4]; first | exact (if_pos hc47).symm | exact (if_neg (fun h => Bool.false_ne_true (hc47.symm.trans h))).symm⟩ (by simp only []; omega)
    · simp only [decide_eq_false_iff_not] at hc8
      refine gk_exit rfl ?_
      refine gk_seq ?_
      refine gk_region ?_
      refine gk_y rfl rfl (y_move rfl) ?_
      refine gk_y rfl rfl (y_assign rfl) ?_
      refine gk_nil (gk_sub (T' := [(2,_)]) ⟨rfl, trivial⟩ ?_)
      refine gk_ret ?_
      refine gk_pure (rv_one rfl (r1_tmp rfl)) ?_
      rw [g4, rfirstN_all (by omega)]
end Go.Proofs.YtmpaebfjnjmmlaaGreatDoor

namespace Go.Proofs.YtmpaebfjnjmmlaaGreatDoor
open Go.K Go.Stn Go.RowKit
theorem tf9 : TF Tryz.prog 9 false 1 (.string ⟨#[]⟩) := ⟨by kernel_rfl, by kernel_rfl⟩
theorem tf24 : TF Tryz.prog 24 false 1 (.slice none 0 0) := ⟨by kernel_rfl, by kernel_rfl⟩
theorem tf49 : TF Tryz.prog 49 false 1 (.slice none 0 0) := ⟨by kernel_rfl, by kernel_rfl⟩
theorem fo28_0 : FO Tryz.prog 28 0 0 := ⟨by kernel_rfl⟩
theorem fo28_1 : FO Tryz.prog 28 1 1 := ⟨by kernel_rfl⟩
theorem fo28_2 : FO Tryz.prog 28 2 2 := ⟨by kernel_rfl⟩
theorem fo28_3 : FO Tryz.prog 28 3 3 := ⟨by kernel_rfl⟩
theorem fo28_4 : FO Tryz.prog 28 4 4 := ⟨by kernel_rfl⟩
theorem fo52_0 : FO Tryz.prog 52 0 0 := ⟨by kernel_rfl⟩
theorem fo52_1 : FO Tryz.prog 52 1 1 := ⟨by kernel_rfl⟩
theorem fo52_2 : FO Tryz.prog 52 2 2 := ⟨by kernel_rfl⟩
theorem fo52_3 : FO Tryz.prog 52 3 3 := ⟨by kernel_rfl⟩
theorem fo52_4 : FO Tryz.prog 52 4 4 := ⟨by kernel_rfl⟩
theorem en71 : En Tryz.prog 71 := en_of Tryz.func71 (by kernel_rfl) (by kernel_rfl)
theorem en72 : En Tryz.prog 72 := en_of Tryz.func72 (by kernel_rfl) (by kernel_rfl)
theorem en74 : En Tryz.prog 74 := en_of Tryz.func74 (by kernel_rfl) (by kernel_rfl)
theorem en75 : En Tryz.prog 75 := en_of Tryz.func75 (by kernel_rfl) (by kernel_rfl)
theorem en114 : En Tryz.prog 114 := en_of Tryz.func114 (by kernel_rfl) (by kernel_rfl)
theorem en115 : En Tryz.prog 115 := en_of Tryz.func115 (by kernel_rfl) (by kernel_rfl)
theorem en137 : En Tryz.prog 137 := en_of Tryz.func137 (by kernel_rfl) (by kernel_rfl)
theorem en154 : En Tryz.prog 154 := en_of Tryz.func154 (by kernel_rfl) (by kernel_rfl)
set_option maxRecDepth 100000 in
set_option maxHeartbeats 1000000 in
theorem sindexfunc_c (s : ByteArray) (f : Int → Bool) (gg : FuncId) (gcap : List Value) (w : World)  (M : World → Prop) (hM : ∀ w', Ext w w' → M w') (hen : En Tryz.prog gg) (hg : ∀ r w', M w' → Calls Tryz.prog gg ([Value.int .i32 r] ++ gcap).toArray w' (Pure (.bool (f r)) w')) :
    Calls Tryz.prog 154 #[.string s, .func (.func gg) #[] gcap.toArray, .bool true] w (Pure (.int .i64 (idxRune f s 0)) w) := by
  refine calls_of_gk (vs := [_, _, _]) Tryz.func154 rfl rfl (Nat.le_of_ble_eq_true rfl) ?_
  refine gk_seq ?_
  refine gk_region ?_
  refine gk_y rfl rfl (y_assign rfl) ?_
  refine gk_nil (gk_sub (T' := [(0,_), (1,_), (2,_), (6,_)]) ⟨rfl, rfl, rfl, rfl, trivial⟩ ?_)
  refine gk_seq ?_
  refine gk_seq ?_
  refine gk_region ?_
  refine gk_y rfl rfl (y_move rfl) ?_
  refine gk_yx rfl rfl (yx_rangeStr (Tryz.underlying9) rfl) fun b10 => ?_
  refine gk_nil (gk_sub (T' := [(1,_), (2,_), (6,_), (10,_)]) ⟨rfl, rfl, rfl, rfl, trivial⟩ ?_)
  refine gk_block ?_
  refine gk_loop (X := Nat) (fun (p : Nat) => [(1, .func (.func gg) #[] gcap.toArray), (2, .bool true), (6, .int .i64 0), (10, .pointer (some ⟨b10, 0, none⟩))]) (fun (p : Nat) => [Iter b10 s p]) (fun (p : Nat) => (idxRune f s p = idxRune f s 0)) (fun (p : Nat) => s.size - p) 0 ⟨rfl, rfl, rfl, rfl, trivial⟩ rfl ?_ ?_
  · exact rfl
  · rintro p hI
    refine gk_seq ?_
    refine gk_region ?_
    refine gk_nextStr 0 rfl rfl rfl (fun hnx => ?_) (fun hnx => ?_)
    ·
      refine gk_y rfl rfl (y_extract rfl rfl) ?_
      refine gk_nil (gk_sub (T' := [(1,_), (2,_), (6,_), (10,_), (11,_), (12,_)]) ⟨rfl, rfl, rfl, rfl, rfl, rfl, trivial⟩ ?_)
      refine gk_seq ?_
      refine gk_condT rfl ?_
      refine gk_skip ?_
      refine gk_block ?_
      refine gk_seq ?_
      refine gk_region ?_
      refine gk_y rfl rfl (y_extract rfl rfl) ?_
      refine gk_y rfl rfl (y_extract rfl rfl) ?_
      refine gk_y rfl rfl (y_assign rfl) ?_
      refine gk_y rfl rfl (y_assign rfl) ?_
      refine gk_nil (gk_sub (T' := [(1,_), (2,_), (6,_), (7,_), (8,_), (10,_)]) ⟨rfl, rfl, rfl, rfl, rfl, rfl, trivial⟩ ?_)
      refine gk_seq ?_
      refine gk_region ?_
      refine gk_y rfl rfl (y_move rfl) ?_
      refine gk_y rfl rfl (y_move rfl) ?_
      refine gk_y rfl rfl (y_callV (fs := []) (cap := gcap) hen rfl rfl (fun w hw => hg _ w (hM _ hw.base.ext0))) ?_
      refine gk_y rfl rfl (y_move rfl) ?_
      refine gk_y rfl rfl (y_boolEq (Tryz.underlying4) rfl rfl) ?_
      refine gk_nil (gk_sub (T' := [(1,_), (2,_), (6,_), (7,_), (10,_), (19,_)]) ⟨rfl, rfl, rfl, rfl, rfl, rfl, trivial⟩ ?_)
      refine gk_cond rfl (fun hc19 => ?_) (fun hc19 => ?_)
      · skip
        refine gk_seq ?_
        refine gk_region ?_
        refine gk_y rfl rfl (y_move rfl) ?_
        refine gk_y rfl rfl (y_assign rfl) ?_
        refine gk_nil (gk_sub (T' := [(1,_), (2,_), (6,_), (10,_)]) ⟨rfl, rfl, rfl, rfl, trivial⟩ ?_)
        refine gk_ret ?_
        refine gk_pure (rv_one rfl (r1_tmp rfl)) ?_
        exact congrArg _ ((idxRune_hit hnx (by simpa using hc19)).symm.trans hI)
      · skip
        refine gk_skip ?_
        exact gk_next _ ⟨rfl, rfl, rfl, rfl, trivial⟩ rfl ((idxRune_next hnx (by simpa using hc19)).symm.trans hI) (by have := decode_pos s p; omega)
    ·
      refine gk_y rfl rfl (y_extract rfl rfl) ?_
      refine gk_nil (gk_sub (T' := [(1,_), (2,_), (6,_), (10,_), (11,_), (12,_)]) ⟨rfl, rfl, rfl, rfl, rfl, rfl, trivial⟩ ?_)
      refine gk_seq ?_
      refine gk_condF rfl ?_
      refine gk_exit rfl ?_
      refine gk_seq ?_
      refine gk_region ?_
      refine gk_y rfl rfl (y_assign rfl) ?_
      refine gk_nil (gk_sub (T' := [(6,_)]) ⟨rfl, trivial⟩ ?_)
      refine gk_ret ?_
      refine gk_pure (rv_one rfl (r1_tmp rfl)) ?_
      exact congrArg _ ((idxRune_end hnx).symm.trans hI)
set_option maxRecDepth 100000 in
set_option maxHeartbeats 1000000 in
theorem sIndexFunc_c (s : ByteArray) (f : Int → Bool) (gg : FuncId) (gcap : List Value) (w : World)  (M : World → Prop) (hM : ∀ w', Ext w w' → M w') (hen : En Tryz.prog gg) (hg : ∀ r w', M w' → Calls Tryz.prog gg ([Value.int .i32 r] ++ gcap).toArray w' (Pure (.bool (f r)) w')) :
    Calls Tryz.prog 137 #[.string s, .func (.func gg) #[] gcap.toArray] w (Pure (.int .i64 (idxRune f s 0)) w) := by
  refine calls_of_gk (vs := [_, _]) Tryz.func137 rfl rfl (Nat.le_of_ble_eq_true rfl) ?_
  refine gk_seq ?_
  refine gk_region ?_
  refine gk_y rfl rfl (y_assign rfl) ?_
  refine gk_nil (gk_sub (T' := [(0,_), (1,_), (4,_)]) ⟨rfl, rfl, rfl, trivial⟩ ?_)
  refine gk_seq ?_
  refine gk_region ?_
  refine gk_y rfl rfl (y_move rfl) ?_
  refine gk_y rfl rfl (y_move rfl) ?_
  refine gk_y rfl rfl (y_call en154 rfl (fun w hw => sindexfunc_c s f _ _ w M (fun w' h => hM w' (hw.base.ext0.trans h)) hen hg)) ?_
  refine gk_y rfl rfl (y_assign rfl) ?_
  refine gk_nil (gk_sub (T' := [(4,_)]) ⟨rfl, trivial⟩ ?_)
  refine gk_ret ?_
  refine gk_pure (rv_one rfl (r1_tmp rfl)) ?_
  rfl
set_option maxRecDepth 100000 in
set_option maxHeartbeats 1000000 in
theorem scontains_c (s : ByteArray) (f : Int → Bool) (gg : FuncId) (gcap : List Value) (w : World)  (M : World → Prop) (hM : ∀ w', Ext w w' → M w') (hen : En Tryz.prog gg) (hg : ∀ r w', M w' → Calls Tryz.prog gg ([Value.int .i32 r] ++ gcap).toArray w' (Pure (.bool (f r)) w')) :
    Calls Tryz.prog 115 #[.string s, .func (.func gg) #[] gcap.toArray] w (Pure (.bool (decide (0 ≤ idxRune f s 0))) w) := by
  refine calls_of_gk (vs := [_, _]) Tryz.func115 rfl rfl (Nat.le_of_ble_eq_true rfl) ?_
  refine gk_seq ?_
  refine gk_region ?_
  refine gk_y rfl rfl (y_assign rfl) ?_
  refine gk_nil (gk_sub (T' := [(0,_), (1,_), (4,_)]) ⟨rfl, rfl, rfl, trivial⟩ ?_)
  refine gk_seq ?_
  refine gk_region ?_
  refine gk_y rfl rfl (y_move rfl) ?_
  refine gk_y rfl rfl (y_move rfl) ?_
  refine gk_y rfl rfl (y_call en137 rfl (fun w hw => sIndexFunc_c s f _ _ w M (fun w' h => hM w' (hw.base.ext0.trans h)) hen hg)) ?_
  refine gk_y rfl rfl (y_geq rfl rfl) ?_
  refine gk_y rfl rfl (y_assign rfl) ?_
  refine gk_nil (gk_sub (T' := [(4,_)]) ⟨rfl, trivial⟩ ?_)
  refine gk_ret ?_
  refine gk_pure (rv_one rfl (r1_tmp rfl)) ?_
  rfl
set_option maxRecDepth 100000 in
set_option maxHeartbeats 1000000 in
theorem named1_c (r : Int) (w : World)  :
    Calls Tryz.prog 114 #[.int .i32 r] w (Pure (.bool (oddR r)) w) := by
  refine calls_of_gk (vs := [_]) Tryz.func114 rfl rfl (Nat.le_of_ble_eq_true rfl) ?_
  refine gk_seq ?_
  refine gk_region ?_
  refine gk_y rfl rfl (y_assign rfl) ?_
  refine gk_nil (gk_sub (T' := [(0,_), (2,_)]) ⟨rfl, rfl, trivial⟩ ?_)
  refine gk_seq ?_
  refine gk_any 17 (fun _ => mixed) (by kernel_rfl) ?_
  refine ph_y (y_move rfl) ?_
  refine ph_y (y_geq rfl rfl) ?_
  refine ph_y (y_move rfl) ?_
  refine ph_gT rfl rfl (fun hgd => by (try rw [hgd]); exact (y_move rfl)) ?_
  refine ph_gT rfl rfl (fun hgd => by (try rw [hgd]); exact (y_leq rfl rfl)) ?_
  refine ph_y (y_pickAnd rfl rfl rfl) ?_
  refine ph_y (y_not rfl) ?_
  refine ph_y (y_move rfl) ?_
  refine ph_gT rfl rfl (fun hgd => by (try rw [hgd]); exact (y_move rfl)) ?_
  refine ph_gT rfl rfl (fun hgd => by (try rw [hgd]); exact (y_geq rfl rfl)) ?_
  refine ph_gT rfl rfl (fun hgd => by (try rw [hgd]); exact (y_move rfl)) ?_
  refine ph_gTT rfl rfl (fun hgd => by (try rw [hgd]); exact (y_move rfl)) ?_
  refine ph_gTT rfl rfl (fun hgd => by (try rw [hgd]); exact (y_leq rfl rfl)) ?_
  refine ph_gT rfl rfl (fun hgd => by (try rw [hgd]); exact (y_pickAnd rfl rfl rfl)) ?_
  refine ph_gT rfl rfl (fun hgd => by (try rw [hgd]); exact (y_not rfl)) ?_
  refine ph_y (y_pickAnd rfl rfl rfl) ?_
  refine ph_y (y_assign rfl) ?_
  refine gk_nil (gk_sub (T' := [(2,_)]) ⟨rfl, trivial⟩ ?_)
  refine gk_ret ?_
  refine gk_pure (rv_one rfl (r1_tmp rfl)) ?_
  rfl
set_option maxRecDepth 100000 in
set_option maxHeartbeats 1000000 in
theorem named_c (s : ByteArray) (w : World)  :
    Calls Tryz.prog 74 #[.string s] w (Pure (.bool (namedB s)) w) := by
  refine calls_of_gk (vs := [_]) Tryz.func74 rfl rfl (Nat.le_of_ble_eq_true rfl) ?_
  refine gk_seq ?_
  refine gk_region ?_
  refine gk_y rfl rfl (y_assign rfl) ?_
  refine gk_nil (gk_sub (T' := [(0,_), (2,_)]) ⟨rfl, rfl, trivial⟩ ?_)
  refine gk_seq ?_
  refine gk_region ?_
  refine gk_y rfl rfl (y_assign rfl) ?_
  refine gk_nil (gk_sub (T' := [(0,_), (2,_), (3,_)]) ⟨rfl, rfl, rfl, trivial⟩ ?_)
  refine gk_seq ?_
  refine gk_any 10 (fun _ => mixed) (by kernel_rfl) ?_
  refine ph_y (y_move rfl) ?_
  refine ph_y (y_lenStr (Tryz.underlying9) rfl) ?_
  refine ph_y (y_call en55 rfl (fun w hw => within_c _ _ _ w)) ?_
  refine ph_y (y_move rfl) ?_
  refine ph_gT rfl rfl (fun hgd => by (try rw [hgd]); exact (y_move rfl)) ?_
  refine ph_gT rfl rfl (fun hgd => by (try rw [hgd]); exact (y_move rfl)) ?_
  refine ph_gT rfl rfl (fun hgd => by (try rw [hgd]); exact (y_call (v := .bool (decide (0 ≤ idxRune oddR s 0))) en115 rfl (fun w hw => scontains_c s oddR _ [] w (fun _ => True) (fun _ _ => trivial) en114 (fun r w _ => named1_c r w)))) ?_
  refine ph_gT rfl rfl (fun hgd => by (try rw [hgd]); exact (y_not rfl)) ?_
  refine ph_y (y_pickAnd rfl rfl rfl) ?_
  refine ph_y (y_assign rfl) ?_
  refine gk_nil (gk_sub (T' := [(2,_)]) ⟨rfl, trivial⟩ ?_)
  refine gk_ret ?_
  refine gk_pure (rv_one rfl (r1_tmp rfl)) ?_
  rfl
set_option maxRecDepth 100000 in
set_option maxHeartbeats 1000000 in
theorem rnamed_c (s : ByteArray) (w : World) (hs : Fits s.size) :
    Calls Tryz.prog 71 #[.string s] w (Pure (.bool (rnamedB s)) w) := by
  refine calls_of_gk (vs := [_]) Tryz.func71 rfl rfl (Nat.le_of_ble_eq_true rfl) ?_
  refine gk_seq ?_
  refine gk_region ?_
  refine gk_y rfl rfl (y_assign rfl) ?_
  refine gk_nil (gk_sub (T' := [(0,_), (2,_)]) ⟨rfl, rfl, trivial⟩ ?_)
  refine gk_seq ?_
  refine gk_seq ?_
  refine gk_region ?_
  refine gk_y rfl rfl (y_assign rfl) ?_
  refine gk_nil (gk_sub (T' := [(0,_), (2,_), (3,_)]) ⟨rfl, rfl, rfl, trivial⟩ ?_)
  refine gk_block ?_
  refine gk_loop (X := Int) (fun (i : Int) => [(0, .string s), (2, .bool false), (3, .int .i64 i)]) (fun (i : Int) => []) (fun (i : Int) => (0 ≤ i ∧ i ≤ s.size ∧ ∀ j : Nat, (j : Int) < i → oddB (byteI s j) = false)) (fun (i : Int) => (s.size - i).toNat) 0 ⟨rfl, rfl, rfl, trivial⟩ rfl ?_ ?_
  · exact ⟨by omega, by omega, fun j hj => by omega⟩
  · rintro i hI
    obtain ⟨g0, g1, g2⟩ := hI
    refine gk_seq ?_
    refine gk_seq ?_
    refine gk_region ?_
    refine gk_y rfl rfl (y_move rfl) ?_
    refine gk_y rfl rfl (y_move rfl) ?_
    refine gk_y rfl rfl (y_lenStr (Tryz.underlying9) rfl) ?_
    refine gk_y rfl rfl (y_lss rfl rfl) ?_
    refine gk_nil (gk_sub (T' := [(0,_), (2,_), (3,_), (7,_)]) ⟨rfl, rfl, rfl, rfl, trivial⟩ ?_)
    refine gk_cond rfl (fun hc7 => ?_) (fun hc7 => ?_)
    · simp only [decide_eq_true_eq] at hc7
      refine gk_skip ?_
      refine gk_seq ?_
      refine gk_block ?_
      refine gk_seq ?_
      refine gk_any 22 (fun _ => mixed) (by kernel_rfl) ?_
      refine ph_y (y_move rfl) ?_
      refine ph_y (y_move rfl) ?_
      refine ph_y (y_strIndex (Tryz.underlying9) rfl rfl (by omega) (by omega)) ?_
      refine ph_y (y_lss rfl rfl) ?_
      refine ph_y (y_move rfl) ?_
      refine ph_gF rfl rfl (fun hgd => by (try rw [hgd]); exact (y_move rfl)) ?_
      refine ph_gF rfl rfl (fun hgd => by (try rw [hgd]); exact (y_move rfl)) ?_
      refine ph_gF rfl rfl (fun hgd => by (try rw [hgd]); exact (y_strIndex (Tryz.underlying9) rfl rfl (by omega) (by omega))) ?_
      refine ph_gF rfl rfl (fun hgd => by (try rw [hgd]); exact (y_gtr rfl rfl)) ?_
      refine ph_y (y_pickOr rfl rfl rfl) ?_
      refine ph_y (y_move rfl) ?_
      refine ph_gT rfl rfl (fun hgd => by (try rw [hgd]); exact (y_move rfl)) ?_
      refine ph_gT rfl rfl (fun hgd => by (try rw [hgd]); exact (y_move rfl)) ?_
      refine ph_gT rfl rfl (fun hgd => by (try rw [hgd]); exact (y_strIndex (Tryz.underlying9) rfl rfl (by omega) (by omega))) ?_
      refine ph_gT rfl rfl (fun hgd => by (try rw [hgd]); exact (y_lss rfl rfl)) ?_
      refine ph_gT rfl rfl (fun hgd => by (try rw [hgd]); exact (y_move rfl)) ?_
      refine ph_gTF rfl rfl (fun hgd => by (try rw [hgd]); exact (y_move rfl)) ?_
      refine ph_gTF rfl rfl (fun hgd => by (try rw [hgd]); exact (y_move rfl)) ?_
      refine ph_gTF rfl rfl (fun hgd => by (try rw [hgd]); exact (y_strIndex (Tryz.underlying9) rfl rfl (by omega) (by omega))) ?_
      refine ph_gTF rfl rfl (fun hgd => by (try rw [hgd]); exact (y_gtr rfl rfl)) ?_
      refine ph_gT rfl rfl (fun hgd => by (try rw [hgd]); exact (y_pickOr rfl rfl rfl)) ?_
      refine ph_y (y_pickAnd rfl rfl rfl) ?_
      refine gk_nil (gk_sub (T' := [(0,_), (2,_), (3,_), (31,_)]) ⟨rfl, rfl, rfl, rfl, trivial⟩ ?_)
      refine gk_cond rfl (fun hc31 => ?_) (fun hc31 => ?_)
      · skip
        refine gk_seq ?_
        refine gk_region ?_
        refine gk_y rfl rfl (y_assign rfl) ?_
        refine gk_nil (gk_sub (T' := [(0,_), (2,_), (3,_)]) ⟨rfl, rfl, rfl, trivial⟩ ?_)
        refine gk_ret ?_
        refine gk_pure (rv_one rfl (r1_tmp rfl)) ?_
        exact congrArg _ (rnamed_no g0 (by omega) hc31).symm
      · skip
        refine gk_skip ?_
        refine gk_region ?_
        refine gk_y rfl rfl (y_move rfl) ?_
        refine gk_y rfl rfl (y_addI rfl rfl (by omega) (by omega)) ?_
        refine gk_y rfl rfl (y_assign rfl) ?_
        refine gk_nil (gk_sub (T' := [(0,_), (2,_), (3,_)]) ⟨rfl, rfl, rfl, trivial⟩ ?_)
        exact gk_next _ ⟨rfl, rfl, rfl, trivial⟩ rfl ⟨by omega, by omega, fun j hj => if h : (j : Int) < i then g2 j h else (by rw [show (j : Int) = i from by omega]; exact hc31)⟩ (by omega)
    · simp only [decide_eq_false_iff_not] at hc7
      refine gk_exit rfl ?_
      refine gk_seq ?_
      refine gk_any 9 (fun _ => mixed) (by kernel_rfl) ?_
      refine ph_y (y_move rfl) ?_
      refine ph_y (y_lenStr (Tryz.underlying9) rfl) ?_
      refine ph_y (y_geq rfl rfl) ?_
      refine ph_y (y_move rfl) ?_
      refine ph_gT rfl rfl (fun hgd => by (try rw [hgd]); exact (y_move rfl)) ?_
      refine ph_gT rfl rfl (fun hgd => by (try rw [hgd]); exact (y_lenStr (Tryz.underlying9) rfl)) ?_
      refine ph_gT rfl rfl (fun hgd => by (try rw [hgd]); exact (y_leq rfl rfl)) ?_
      refine ph_y (y_pickAnd rfl rfl rfl) ?_
      refine ph_y (y_assign rfl) ?_
      refine gk_nil (gk_sub (T' := [(2,_)]) ⟨rfl, trivial⟩ ?_)
      refine gk_ret ?_
      refine gk_pure (rv_one rfl (r1_tmp rfl)) ?_
      exact congrArg _ (rnamed_yes g2 (by omega)).symm
set_option maxRecDepth 100000 in
set_option maxHeartbeats 1000000 in
theorem check_c (a : Option Addr) (cap : Nat) (s : Stn) (w : World) (hl : Has w (Pts a s.shape)) (hs : Small s.shape.length) :
    Calls Tryz.prog 38 #[.agg #[.string s.name, .slice a s.shape.length cap, .int .i64 s.depth, .int .i64 s.density, .int .i64 s.grain.x, .int .i64 s.grain.z]] w (Pure (.int .i64 (checkI s)) w) := by
  refine calls_of_gk (vs := [_]) Tryz.func38 rfl rfl (Nat.le_of_ble_eq_true rfl) ?_
  refine gk_seq ?_
  refine gk_region ?_
  refine gk_yx rfl rfl (yx_box (vs := [_, _, _, _, _, _]) rfl rfl) fun b1 => ?_
  refine gk_y rfl rfl (y_assign rfl) ?_
  refine gk_nil (gk_sub (T' := [(1,_), (2,_)]) ⟨rfl, rfl, trivial⟩ ?_)
  refine gk_seq ?_
  refine gk_region ?_
  refine gk_y rfl rfl (y_fieldAddr fo52_4 rfl) ?_
  refine gk_y rfl rfl (y_loadBA 0 tf50 rfl rfl (vs := [_, _]) rfl rfl) ?_
  refine gk_yx rfl rfl (yx_alloc tf50 (zs := [_, _]) rfl) fun b3 => ?_
  refine gk_storeV 0 tf50 rfl rfl (vs := [_, _]) rfl rfl rfl rfl rfl ?_
  refine gk_nil (gk_sub (T' := [(1,_), (2,_), (3,_)]) ⟨rfl, rfl, rfl, trivial⟩ ?_)
  refine gk_seq ?_
  refine gk_any 14 (fun _ => mixed) (by kernel_rfl) ?_
  refine ph_y (y_loadBA 0 tf50 rfl rfl (vs := [_, _]) rfl rfl) ?_
  refine ph_y (y_buildL (parts := []) rfl bd50_) ?_
  refine ph_y (y_neq50 rfl rfl) ?_
  refine ph_y (y_move rfl) ?_
  refine ph_gT rfl rfl (fun hgd => by (try rw [hgd]); exact (y_fieldAddr fo50_0 rfl)) ?_
  refine ph_gT rfl rfl (fun hgd => by (try rw [hgd]); exact (y_loadB1 0 tf3 rfl rfl rfl)) ?_
  refine ph_gT rfl rfl (fun hgd => by (try rw [hgd]); exact (y_call (v := .bool (decide ((-100) ≤ s.grain.x) && decide (s.grain.x ≤ 100))) en55 rfl (fun w hw => within_c _ _ _ w))) ?_
  refine ph_y (y_pickAnd rfl rfl rfl) ?_
  refine ph_y (y_move rfl) ?_
  refine ph_gT rfl rfl (fun hgd => by (try rw [hgd]); exact (y_fieldAddr fo50_1 rfl)) ?_
  refine ph_gT rfl rfl (fun hgd => by (try rw [hgd]); exact (y_loadB1 0 tf3 rfl rfl rfl)) ?_
  refine ph_gT rfl rfl (fun hgd => by (try rw [hgd]); exact (y_call (v := .bool (decide ((-100) ≤ s.grain.z) && decide (s.grain.z ≤ 100))) en55 rfl (fun w hw => within_c _ _ _ w))) ?_
  refine ph_y (y_pickAnd rfl rfl rfl) ?_
  refine ph_y (y_assign rfl) ?_
  refine gk_nil (gk_sub (T' := [(1,_), (2,_), (4,_)]) ⟨rfl, rfl, rfl, trivial⟩ ?_)
  refine gk_seq ?_
  refine gk_seq ?_
  refine gk_any 26 (fun _ => mixed) (by kernel_rfl) ?_
  refine ph_y (y_fieldAddr fo52_0 rfl) ?_
  refine ph_y (y_loadB1 1 tf9 rfl rfl rfl) ?_
  refine ph_y (y_call en74 rfl (fun w hw => named_c _ w)) ?_
  refine ph_y (y_not rfl) ?_
  refine ph_y (y_move rfl) ?_
  refine ph_gF rfl rfl (fun hgd => by (try rw [hgd]); exact (y_fieldAddr fo52_1 rfl)) ?_
  refine ph_gF rfl rfl (fun hgd => by (try rw [hgd]); exact (y_loadB1 1 tf49 rfl rfl rfl)) ?_
  refine ph_gF rfl rfl (fun hgd => by (try rw [hgd]); exact (y_call (v := .bool (placedB s.shape)) en75 rfl (fun w hw => placed_c _ _ s.shape w (Rd.has (Has.rd hl) hw) (by assumption)))) ?_
  refine ph_gF rfl rfl (fun hgd => by (try rw [hgd]); exact (y_not rfl)) ?_
  refine ph_y (y_pickOr rfl rfl rfl) ?_
  refine ph_y (y_move rfl) ?_
  refine ph_gF rfl rfl (fun hgd => by (try rw [hgd]); exact (y_fieldAddr fo52_2 rfl)) ?_
  refine ph_gF rfl rfl (fun hgd => by (try rw [hgd]); exact (y_loadB1 1 tf3 rfl rfl rfl)) ?_
  refine ph_gF rfl rfl (fun hgd => by (try rw [hgd]); exact (y_call (v := .bool (decide (1 ≤ s.depth) && decide (s.depth ≤ 2000))) en55 rfl (fun w hw => within_c _ _ _ w))) ?_
  refine ph_gF rfl rfl (fun hgd => by (try rw [hgd]); exact (y_not rfl)) ?_
  refine ph_y (y_pickOr rfl rfl rfl) ?_
  refine ph_y (y_move rfl) ?_
  refine ph_gF rfl rfl (fun hgd => by (try rw [hgd]); exact (y_fieldAddr fo52_3 rfl)) ?_
  refine ph_gF rfl rfl (fun hgd => by (try rw [hgd]); exact (y_loadB1 1 tf3 rfl rfl rfl)) ?_
  refine ph_gF rfl rfl (fun hgd => by (try rw [hgd]); exact (y_call (v := .bool (decide (1 ≤ s.density) && decide (s.density ≤ 10000))) en55 rfl (fun w hw => within_c _ _ _ w))) ?_
  refine ph_gF rfl rfl (fun hgd => by (try rw [hgd]); exact (y_not rfl)) ?_
  refine ph_y (y_pickOr rfl rfl rfl) ?_
  refine ph_y (y_move rfl) ?_
  refine ph_gF rfl rfl (fun hgd => by (try rw [hgd]); exact (y_move rfl)) ?_
  refine ph_gF rfl rfl (fun hgd => by (try rw [hgd]); exact (y_not rfl)) ?_
  refine ph_y (y_pickOr rfl rfl rfl) ?_
  refine gk_nil (gk_sub (T' := [(2,_), (45,_)]) ⟨rfl, rfl, trivial⟩ ?_)
  refine gk_cond rfl (fun hc45 => ?_) (fun hc45 => ?_)
  · skip
    refine gk_seq ?_
    refine gk_region ?_
    refine gk_y rfl rfl (y_assign rfl) ?_
    refine gk_nil (gk_sub (T' := [(2,_)]) ⟨rfl, trivial⟩ ?_)
    refine gk_ret ?_
    refine gk_pure (rv_one rfl (r1_tmp rfl)) ?_
    exact congrArg _ (if_pos hc45).symm
  · skip
    refine gk_skip ?_
    refine gk_seq ?_
    refine gk_region ?_
    refine gk_y rfl rfl (y_assign rfl) ?_
    refine gk_nil (gk_sub (T' := [(2,_)]) ⟨rfl, trivial⟩ ?_)
    refine gk_ret ?_
    refine gk_pure (rv_one rfl (r1_tmp rfl)) ?_
    exact congrArg _ (if_neg (by rw [show badB s = false from hc45]; exact Bool.false_ne_true)).symm
end Go.Proofs.YtmpaebfjnjmmlaaGreatDoor

namespace Go.Proofs.YtmpaebfjnjmmlaaGreatDoor
open Go.K Go.Stn Go.RowKit
theorem tf52 : TF Tryz.prog 52 true 6 (.agg #[.string ⟨#[]⟩, .slice none 0 0, .int IntKind.i64 0, .int IntKind.i64 0, .int IntKind.i64 0, .int IntKind.i64 0]) := ⟨by kernel_rfl, by kernel_rfl⟩
theorem af49 : AF Tryz.prog 49 50 2 16 [.int IntKind.i64 0, .int IntKind.i64 0] := ⟨Tryz.underlying49, by kernel_rfl, rfl⟩
theorem en62 : En Tryz.prog 62 := en_of Tryz.func62 (by kernel_rfl) (by kernel_rfl)
theorem bd50_0i (x0 : Int) (w : World) : (Instr.build 50 #[(0, .int .i64 x0)]).run Tryz.prog w = .ok (.agg #[.int .i64 x0, .int IntKind.i64 0]) w := by kernel_rfl
theorem bd50_1i (x0 : Int) (w : World) : (Instr.build 50 #[(1, .int .i64 x0)]).run Tryz.prog w = .ok (.agg #[.int IntKind.i64 0, .int .i64 x0]) w := by kernel_rfl
theorem bd52_0s_1l_2i_3i_4ii (x0 : ByteArray) (x1a : Option Addr) (x1n x1c : Nat) (x2 : Int) (x3 : Int) (x4 : Int) (x5 : Int) (w : World) : (Instr.build 52 #[(0, .string x0), (1, .slice x1a x1n x1c), (2, .int .i64 x2), (3, .int .i64 x3), (4, .agg #[.int .i64 x4, .int .i64 x5])]).run Tryz.prog w = .ok (.agg #[.string x0, .slice x1a x1n x1c, .int .i64 x2, .int .i64 x3, .int .i64 x4, .int .i64 x5]) w := by kernel_rfl
theorem bs49_1 (x0_0 : Int) (x0_1 : Int) (w : World) : (Instr.buildSlice 49 1 #[(0, .agg #[.int .i64 x0_0, .int .i64 x0_1])]).run Tryz.prog w = .ok (.slice (some ⟨w.heap.size, 0, none⟩) 1 1) (w.alloc (.cells (([(⟨x0_0, x0_1⟩ : Pt)] : List (Pt)).flatMap encPt).toArray 50)) := by kernel_rfl
theorem bs49_4 (x0_0 : Int) (x0_1 : Int) (x1_0 : Int) (x1_1 : Int) (x2_0 : Int) (x2_1 : Int) (x3_0 : Int) (x3_1 : Int) (w : World) : (Instr.buildSlice 49 4 #[(0, .agg #[.int .i64 x0_0, .int .i64 x0_1]), (1, .agg #[.int .i64 x1_0, .int .i64 x1_1]), (2, .agg #[.int .i64 x2_0, .int .i64 x2_1]), (3, .agg #[.int .i64 x3_0, .int .i64 x3_1])]).run Tryz.prog w = .ok (.slice (some ⟨w.heap.size, 0, none⟩) 4 4) (w.alloc (.cells (([(⟨x0_0, x0_1⟩ : Pt), (⟨x1_0, x1_1⟩ : Pt), (⟨x2_0, x2_1⟩ : Pt), (⟨x3_0, x3_1⟩ : Pt)] : List (Pt)).flatMap encPt).toArray 50)) := by kernel_rfl
set_option maxRecDepth 100000 in
set_option maxHeartbeats 1000000 in
theorem points_c (a : Option Addr) (cap : Nat) (l : List Pt) (w : World) (hl : Has w (Pts a l)) (hs : Small l.length) :
    Calls Tryz.prog 62 #[.slice a l.length cap] w (Gives (fun z : Option Addr × Nat => .slice z.1 l.length z.2) (fun z => Row z.1 2 z.2 50 encPt l) w) := by
  refine calls_of_gk (vs := [_]) Tryz.func62 rfl rfl (Nat.le_of_ble_eq_true rfl) ?_
  refine gk_seq ?_
  refine gk_region ?_
  refine gk_y rfl rfl (y_assign rfl) ?_
  refine gk_nil (gk_sub (T' := [(0,_), (2,_)]) ⟨rfl, rfl, trivial⟩ ?_)
  refine gk_seq ?_
  refine gk_region ?_
  refine gk_y rfl rfl (y_assign rfl) ?_
  refine gk_nil (gk_sub (T' := [(0,_), (2,_), (3,_)]) ⟨rfl, rfl, rfl, trivial⟩ ?_)
  refine gk_seq ?_
  refine gk_seq ?_
  refine gk_region ?_
  refine gk_y rfl rfl (y_assign rfl) ?_
  refine gk_nil (gk_sub (T' := [(0,_), (2,_), (3,_), (4,_)]) ⟨rfl, rfl, rfl, rfl, trivial⟩ ?_)
  refine gk_block ?_
  refine gk_newNil 50 encPt 2 ?_
  refine gk_loop (X := Int × Option Addr × Nat × List Pt) (fun ⟨i, b, bc, m⟩ => [(0, .slice a l.length cap), (2, .slice none 0 0), (3, .slice b m.length bc), (4, .int .i64 i)]) (fun ⟨i, b, bc, m⟩ => [Row b 2 bc 50 encPt m]) (fun ⟨i, b, bc, m⟩ => (0 ≤ i ∧ i ≤ l.length ∧ m = l.take i.toNat ∧ m.length ≤ l.length)) (fun ⟨i, b, bc, m⟩ => (l.length - i).toNat) (0, none, 0, []) ⟨rfl, rfl, rfl, rfl, trivial⟩ rfl ?_ ?_
  · exact ⟨by omega, by omega, rfl, by simp⟩
  · rintro ⟨i, b, bc, m⟩ hI
    obtain ⟨g0, g1, g2, g3⟩ := hI
    refine gk_seq ?_
    refine gk_seq ?_
    refine gk_region ?_
    refine gk_y rfl rfl (y_move rfl) ?_
    refine gk_y rfl rfl (y_move rfl) ?_
    refine gk_y rfl rfl (y_lenS (Tryz.underlying24) rfl) ?_
    refine gk_y rfl rfl (y_lss rfl rfl) ?_
    refine gk_nil (gk_sub (T' := [(0,_), (2,_), (3,_), (4,_), (8,_)]) ⟨rfl, rfl, rfl, rfl, rfl, trivial⟩ ?_)
    refine gk_cond rfl (fun hc8 => ?_) (fun hc8 => ?_)
    · simp only [decide_eq_true_eq] at hc8
      refine gk_skip ?_
      refine gk_seq ?_
      refine gk_block ?_
      refine gk_any 13 (fun _ => mixed) (by kernel_rfl) ?_
      refine ph_y (y_move rfl) ?_
      refine ph_y (y_move rfl) ?_
      refine ph_y (y_move rfl) ?_
      refine ph_y (y_indexE se24 rfl rfl (fun _ hw => (Rd.has (Has.rd hl) hw)) (by omega) (by omega)) ?_
      refine ph_y (y_fieldE fo26_0 rfl (fun w hw => elems_addr (i := i) (Rd.has (Has.rd hl) hw) (by omega) (by omega))) ?_
      refine ph_y (y_loadEF tf3 rfl (fun _ hw => (Rd.has (Has.rd hl) hw)) (by omega) (by omega) rfl) ?_
      refine ph_y (y_move rfl) ?_
      refine ph_y (y_move rfl) ?_
      refine ph_y (y_indexE se24 rfl rfl (fun _ hw => (Rd.has (Has.rd hl) hw)) (by omega) (by omega)) ?_
      refine ph_y (y_fieldE fo26_1 rfl (fun w hw => elems_addr (i := i) (Rd.has (Has.rd hl) hw) (by omega) (by omega))) ?_
      refine ph_y (y_loadEF tf3 rfl (fun _ hw => (Rd.has (Has.rd hl) hw)) (by omega) (by omega) rfl) ?_
      refine ph_y (y_buildL rfl (bd50_0i_1i _ _)) ?_
      refine ph_yx (yx_buildSlice rfl (bs49_1 _ _) encPt_ok rfl) ?_
      intro b23
      refine gk_sub (T' := [(0,_), (2,_), (3,_), (4,_), (11,_), (23,_)]) ⟨rfl, rfl, rfl, rfl, rfl, rfl, trivial⟩ ?_
      refine gk_append (m := [⟨((l.getD (i).toNat default).x), ((l.getD (i).toNat default).z)⟩]) 1 af49 encPt_ok rfl rfl rfl rfl (fun _ hw => (has_row encPt_ok (hw.has (p := 0) rfl))) (by first | omega | (simp only [List.length_cons, List.length_nil]; omega)) (by first | (unfold maxLen; omega) | (simp only [List.length_cons, List.length_nil, maxLen]; omega)) fun a24 c24 => ?_
      refine gk_y rfl rfl (y_assign rfl) ?_
      refine gk_nil (gk_sub (T' := [(0,_), (2,_), (3,_), (4,_)]) ⟨rfl, rfl, rfl, rfl, trivial⟩ ?_)
      refine gk_region ?_
      refine gk_y rfl rfl (y_move rfl) ?_
      refine gk_y rfl rfl (y_addI rfl rfl (by omega) (by omega)) ?_
      refine gk_y rfl rfl (y_assign rfl) ?_
      refine gk_nil (gk_sub (T' := [(0,_), (2,_), (3,_), (4,_)]) ⟨rfl, rfl, rfl, rfl, trivial⟩ ?_)
      refine gk_dropAt 0 rfl ?_
      exact gk_next (i + 1, a24, c24, _) ⟨rfl, rfl, rfl, rfl, trivial⟩ rfl ⟨by omega, by omega, by rw [take_succ g0 (by omega), ← g2], by rw [List.length_append, g2, List.length_take]; simp; omega⟩ (by simp only []; omega)
    · simp only [decide_eq_false_iff_not] at hc8
      refine gk_exit rfl ?_
      refine gk_seq ?_
      refine gk_region ?_
      refine gk_y rfl rfl (y_move rfl) ?_
      refine gk_y rfl rfl (y_assign rfl) ?_
      refine gk_nil (gk_sub (T' := [(2,_)]) ⟨rfl, trivial⟩ ?_)
      obtain rfl : m = l := by rw [g2, take_all (by omega)]
      refine gk_ret ?_
      refine gk_gives (b, bc) 0 (rv_one rfl (r1_tmp rfl)) ?_ rfl
      rfl
set_option maxRecDepth 100000 in
set_option maxHeartbeats 1000000 in
theorem stone_c (a : Option Addr) (cap : Nat) (s : Stn) (w : World) (hl : Has w (Pts a s.shape)) (hs : Small s.shape.length) :
    Calls Tryz.prog 25 #[.agg #[.string s.name, .slice a s.shape.length cap, .int .i64 s.depth, .int .i64 s.density, .int .i64 s.grain.x, .int .i64 s.grain.z]] w (Gives (fun z : Option Addr × Nat => stnV s z.1 z.2) (fun z => Row z.1 2 z.2 50 encPt s.shape) w) := by
  refine calls_of_gk (vs := [_]) Tryz.func25 rfl rfl (Nat.le_of_ble_eq_true rfl) ?_
  refine gk_seq ?_
  refine gk_region ?_
  refine gk_yx rfl rfl (yx_box (vs := [_, _, _, _, _, _]) rfl rfl) fun b1 => ?_
  refine gk_yx rfl rfl (yx_alloc tf52 (zs := [_, _, _, _, _, _]) rfl) fun b2 => ?_
  refine gk_nil (gk_sub (T' := [(1,_), (2,_)]) ⟨rfl, rfl, trivial⟩ ?_)
  refine gk_seq ?_
  refine gk_any 16 (fun _ => mixed) (by kernel_rfl) ?_
  refine ph_y (y_fieldAddr fo28_0 rfl) ?_
  refine ph_y (y_loadB1 1 tf9 rfl rfl rfl) ?_
  refine ph_y (y_fieldAddr fo28_1 rfl) ?_
  refine ph_y (y_loadB1 1 tf24 rfl rfl rfl) ?_
  refine ph_yx (yx_call en62 rfl (fun w hw => points_c _ _ s.shape w (Rd.has (Has.rd hl) hw) (by assumption))) ?_
  refine ph_y (y_fieldAddr fo28_2 rfl) ?_
  refine ph_y (y_loadB1 1 tf3 rfl rfl rfl) ?_
  refine ph_y (y_fieldAddr fo28_3 rfl) ?_
  refine ph_y (y_loadB1 1 tf3 rfl rfl rfl) ?_
  refine ph_y (y_fieldAddr fo28_4 rfl) ?_
  refine ph_y (y_fieldAddr fo26_0 rfl) ?_
  refine ph_y (y_loadB1 1 tf3 rfl rfl rfl) ?_
  refine ph_y (y_fieldAddr fo28_4 rfl) ?_
  refine ph_y (y_fieldAddr fo26_1 rfl) ?_
  refine ph_y (y_loadB1 1 tf3 rfl rfl rfl) ?_
  refine ph_y (y_buildL rfl (bd50_0i_1i _ _)) ?_
  intro p7
  refine gk_sub (T' := [(2,_), (4,_), (7,_), (9,_), (11,_), (18,_)]) ⟨rfl, rfl, rfl, rfl, rfl, rfl, trivial⟩ ?_
  refine gk_y rfl rfl (y_buildL rfl (bd52_0s_1l_2i_3i_4ii _ _ _ _ _ _ _ _)) ?_
  refine gk_storeV 1 tf52 rfl rfl (vs := [_, _, _, _, _, _]) rfl rfl rfl rfl rfl ?_
  refine gk_nil (gk_sub (T' := [(2,_)]) ⟨rfl, trivial⟩ ?_)
  refine gk_ret ?_
  refine gk_gives p7 0 (rv_one rfl (r1_cellA (i := 1) (vs := [_, _, _, _, _, _]) tf52 rfl rfl rfl rfl)) ?_ rfl
  rfl
set_option maxRecDepth 100000 in
set_option maxHeartbeats 1000000 in
theorem brick_c  (w : World)  :
    Calls Tryz.prog 19 #[] w (Gives (fun b : Nat => stnV brickS (some ⟨b, 0, none⟩) 4) (fun b => Row (some ⟨b, 0, none⟩) 2 4 50 encPt brickS.shape) w) := by
  refine calls_of_gk (vs := []) Tryz.func19 rfl rfl (Nat.le_of_ble_eq_true rfl) ?_
  refine gk_seq ?_
  refine gk_region ?_
  refine gk_yx rfl rfl (yx_alloc tf52 (zs := [_, _, _, _, _, _]) rfl) fun b0 => ?_
  refine gk_nil (gk_sub (T' := [(0,_)]) ⟨rfl, trivial⟩ ?_)
  refine gk_seq ?_
  refine gk_region ?_
  refine gk_y rfl rfl (y_buildL (parts := []) rfl bd50_) ?_
  refine gk_y rfl rfl (y_buildL rfl (bd50_0i _)) ?_
  refine gk_y rfl rfl (y_buildL rfl (bd50_0i_1i _ _)) ?_
  refine gk_y rfl rfl (y_buildL rfl (bd50_1i _)) ?_
  refine gk_yx rfl rfl (yx_buildSlice rfl (bs49_4 _ _ _ _ _ _ _ _) encPt_ok rfl) fun b5 => ?_
  refine gk_y rfl rfl (y_buildL rfl (bd50_0i _)) ?_
  refine gk_y rfl rfl (y_buildL rfl (bd52_0s_1l_2i_3i_4ii _ _ _ _ _ _ _ _)) ?_
  refine gk_storeV 1 tf52 rfl rfl (vs := [_, _, _, _, _, _]) rfl rfl rfl rfl rfl ?_
  refine gk_nil (gk_sub (T' := [(0,_)]) ⟨rfl, trivial⟩ ?_)
  refine gk_ret ?_
  refine gk_gives b5 0 (rv_one rfl (r1_cellA (i := 1) (vs := [_, _, _, _, _, _]) tf52 rfl rfl rfl rfl)) ?_ rfl
  rfl
end Go.Proofs.YtmpaebfjnjmmlaaGreatDoor

namespace Go.Proofs.YtmpaebfjnjmmlaaGreatDoor
open Go.K Go.Stn Go.RowKit
theorem en29 : En Tryz.prog 29 := en_of Tryz.func29 (by kernel_rfl) (by kernel_rfl)
theorem en38 : En Tryz.prog 38 := en_of Tryz.func38 (by kernel_rfl) (by kernel_rfl)
theorem en47 : En Tryz.prog 47 := en_of Tryz.func47 (by kernel_rfl) (by kernel_rfl)
theorem en65 : En Tryz.prog 65 := en_of Tryz.func65 (by kernel_rfl) (by kernel_rfl)
theorem en83 : En Tryz.prog 83 := en_of Tryz.func83 (by kernel_rfl) (by kernel_rfl)
theorem en123 : En Tryz.prog 123 := en_of Tryz.func123 (by kernel_rfl) (by kernel_rfl)
set_option maxRecDepth 100000 in
set_option maxHeartbeats 1000000 in
theorem edges_c (a : Option Addr) (cap : Nat) (l : List Pt) (w : World)  :
    Calls Tryz.prog 83 #[.slice a l.length cap] w (Gives (fun b : Nat => .func (.func 123) #[] #[.pointer (some ⟨b, 0, none⟩)]) (fun b => Box b [.slice a l.length cap] 49) w) := by
  refine calls_of_gk (vs := [_]) Tryz.func83 rfl rfl (Nat.le_of_ble_eq_true rfl) ?_
  refine gk_seq ?_
  refine gk_region ?_
  refine gk_yx rfl rfl (yx_box (vs := [_]) rfl rfl) fun b1 => ?_
  refine gk_y rfl rfl (y_assign rfl) ?_
  refine gk_nil (gk_sub (T' := [(1,_), (2,_)]) ⟨rfl, rfl, trivial⟩ ?_)
  refine gk_seq ?_
  refine gk_region ?_
  refine gk_y rfl rfl (y_makeFunc («as» := []) (bs := [_]) rfl rfl) ?_
  refine gk_y rfl rfl (y_assign rfl) ?_
  refine gk_nil (gk_sub (T' := [(2,_)]) ⟨rfl, trivial⟩ ?_)
  refine gk_ret ?_
  refine gk_gives b1 0 (rv_one rfl (r1_tmp rfl)) ?_ rfl
  rfl
set_option maxRecDepth 100000 in
set_option maxHeartbeats 1000000 in
theorem edges1_c (a : Option Addr) (cap : Nat) (l : List Pt) (b : Nat) (hs : Small l.length) :
    SeqC Tryz.prog 123 [.pointer (some ⟨b, 0, none⟩)] (edgeVs l) (fun w => Has w (Box b [.slice a l.length cap] 49) ∧ Has w (Pts a l)) := by
  intro X J Rl D y w B x0 hB hA h0 hM hy
  refine calls_of_gkB hB hA (vs := [_, _]) Tryz.func123 rfl rfl (Nat.le_of_ble_eq_true rfl) ?_
  have hmem : ∀ {cz : Cx} {Hz : List Res} {xz : X} {pz : Nat} {w' : World}, Inside (fun k => k < w.heap.size ∧ ¬ B k) w cz → Hz[pz]? = some (J xz) → Hp cz.U cz.w0 Hz w' → (Has w' (Box b [.slice a l.length cap] 49) ∧ Has w' (Pts a l)) := fun hin hp hw => by
    obtain ⟨B', q1, q2, q3, q4⟩ := own_of_in hin hp hw
    exact hM _ _ B' q4 q1 q2 q3
  have ins0 := insideB Tryz.prog Tryz.f123.ntmps w B
  refine gk_seq ?_
  refine gk_region ?_
  refine gk_y rfl rfl (y_load1 tf49 rfl (fun _ hw => has_box_cell (hmem ins0 (pz := 0) rfl hw).1 rfl)) ?_
  refine gk_y rfl rfl (y_lenS (Tryz.underlying49) rfl) ?_
  refine gk_y rfl rfl (y_move rfl) ?_
  refine gk_nil (gk_sub (T' := [(0,_), (1,_), (5,_), (6,_)]) ⟨rfl, rfl, rfl, rfl, trivial⟩ ?_)
  refine gk_block ?_
  refine gk_loop (X := Int × X) (fun ⟨i, x⟩ => [(0, .func (.yield y) #[] #[]), (1, .pointer (some ⟨b, 0, none⟩)), (5, .int .i64 (l.length : Int)), (6, .int .i64 i)]) (fun ⟨i, x⟩ => [J x]) (fun ⟨i, x⟩ => (0 ≤ i ∧ i ≤ l.length ∧ Rl i.toNat x)) (fun ⟨i, x⟩ => (l.length - i).toNat) (0, x0) ⟨rfl, rfl, rfl, rfl, trivial⟩ rfl ?_ ?_
  · exact ⟨by omega, by omega, h0⟩
  · rintro ⟨i, x⟩ hI
    obtain ⟨g0, g1, g2⟩ := hI
    refine gk_seq ?_
    refine gk_region ?_
    refine gk_y rfl rfl (y_lss rfl rfl) ?_
    refine gk_nil (gk_sub (T' := [(0,_), (1,_), (5,_), (6,_), (7,_)]) ⟨rfl, rfl, rfl, rfl, rfl, trivial⟩ ?_)
    refine gk_seq ?_
    refine gk_cond rfl (fun hc7 => ?_) (fun hc7 => ?_)
    · have hc7 := of_decide_eq_true hc7
      have hpos : 0 < l.length := by omega
      refine gk_skip ?_
      refine gk_seq ?_
      refine gk_block ?_
      refine gk_seq ?_
      refine gk_region ?_
      refine gk_y rfl rfl (y_move rfl) ?_
      refine gk_y rfl rfl (y_assign rfl) ?_
      refine gk_nil (gk_sub (T' := [(0,_), (1,_), (3,_), (5,_), (6,_)]) ⟨rfl, rfl, rfl, rfl, rfl, trivial⟩ ?_)
      refine gk_seq ?_
      refine gk_any 9 (fun _ => mixed) (by kernel_rfl) ?_
      refine ph_y (y_move rfl) ?_
      refine ph_y (y_load1 tf49 rfl (fun _ hw => has_box_cell (hmem ins0 (pz := 0) rfl hw).1 rfl)) ?_
      refine ph_y (y_move rfl) ?_
      refine ph_y (y_indexE se49 rfl rfl (fun _ hw => (hmem ins0 (pz := 0) rfl hw).2) (by omega) (by omega)) ?_
      refine ph_y (y_loadE (vs := [_, _]) tf50 rfl (fun _ hw => (hmem ins0 (pz := 0) rfl hw).2) (by omega) (by omega) rfl) ?_
      refine ph_y (y_load1 tf49 rfl (fun _ hw => has_box_cell (hmem ins0 (pz := 0) rfl hw).1 rfl)) ?_
      refine ph_y (y_move rfl) ?_
      refine ph_y (y_addI rfl rfl (by omega) (by omega)) ?_
      refine ph_y (y_call en88 rfl (fun w hw => at_c _ _ l (i + 1) w (hmem ins0 (pz := 0) rfl hw).2 (by assumption) (by omega) (by omega) (by omega))) ?_
      refine gk_sub (T' := [(0,_), (1,_), (5,_), (6,_), (9,_), (13,_), (17,_)]) ⟨rfl, rfl, rfl, rfl, rfl, rfl, rfl, trivial⟩ ?_
      refine gk_yield 0 ins0 rfl rfl rfl rfl (hy _ _ _ (edge_get g0 (by omega)) g2) fun b18 x18 hp18 => ?_
      refine gk_y rfl rfl (y_not rfl) ?_
      refine gk_nil (gk_sub (T' := [(0,_), (1,_), (5,_), (6,_), (19,_)]) ⟨rfl, rfl, rfl, rfl, rfl, trivial⟩ ?_)
      refine gk_cond rfl (fun hc19 => ?_) (fun hc19 => ?_)
      · skip
        refine gk_ret ?_
        refine gk_turns x18 0 (rv_none rfl) rfl rfl (.inr (by have := hp18; rwa [show b18 = false from by simpa using hc19, if_neg Bool.false_ne_true] at this))
      · skip
        refine gk_skip ?_
        refine gk_region ?_
        refine gk_y rfl rfl (y_addI rfl rfl (by omega) (by omega)) ?_
        refine gk_y rfl rfl (y_move rfl) ?_
        refine gk_nil (gk_sub (T' := [(0,_), (1,_), (5,_), (6,_)]) ⟨rfl, rfl, rfl, rfl, trivial⟩ ?_)
        exact gk_next (i + 1, x18) ⟨rfl, rfl, rfl, rfl, trivial⟩ rfl ⟨by omega, by omega, by have := hp18; rw [show b18 = true from by simpa using hc19, if_pos rfl] at this; rwa [show (i + 1).toNat = i.toNat + 1 from by omega]⟩ (by simp only []; omega)
    · have hc7 := of_decide_eq_false hc7
      refine gk_exit rfl ?_
      refine gk_turns x 0 (rv_none rfl) rfl rfl (.inl (by rw [edges_len]; rwa [show i.toNat = l.length from by omega] at g2))
set_option maxRecDepth 100000 in
set_option maxHeartbeats 1000000 in
theorem twice_c (a : Option Addr) (cap : Nat) (l : List Pt) (w : World) (hl : Has w (Pts a l)) (hs : Small l.length) :
    Calls Tryz.prog 65 #[.slice a l.length cap] w (Pure (.int .i64 (twiceW l)) w) := by
  refine calls_of_gk (vs := [_]) Tryz.func65 rfl rfl (Nat.le_of_ble_eq_true rfl) ?_
  refine gk_seq ?_
  refine gk_region ?_
  refine gk_y rfl rfl (y_assign rfl) ?_
  refine gk_nil (gk_sub (T' := [(0,_), (2,_)]) ⟨rfl, rfl, trivial⟩ ?_)
  refine gk_seq ?_
  refine gk_region ?_
  refine gk_yx rfl rfl (yx_alloc tf3 (zs := [_]) rfl) fun b3 => ?_
  refine gk_storeV 0 tf3 rfl rfl (vs := [_]) rfl rfl rfl rfl rfl ?_
  refine gk_nil (gk_sub (T' := [(0,_), (2,_), (3,_)]) ⟨rfl, rfl, rfl, trivial⟩ ?_)
  refine gk_seq ?_
  refine gk_seq ?_
  refine gk_region ?_
  refine gk_y rfl rfl (y_move rfl) ?_
  refine gk_yx rfl rfl (yx_call en83 rfl (fun w hw => edges_c _ _ l w)) fun p7 => ?_
  refine gk_nil (gk_sub (T' := [(2,_), (3,_), (7,_)]) ⟨rfl, rfl, rfl, trivial⟩ ?_)
  refine gk_block ?_
  refine gk_sub (T' := [(2,_), (3,_), (7,_)]) ⟨rfl, rfl, rfl, trivial⟩ ?_
  refine gk_rangeFunc (X := Int) (fun s => [Box p7 [.slice a l.length cap] 49, Box b3 [.int .i64 s] 3]) (fun n s => s = ((edgesL l).take n).foldl (fun s e => W (s + crossW e.1 e.2)) 0) (fun s => False) [] 0 rfl en123 rfl rfl rfl (edges1_c _ _ l _ (by assumption)) (fun s w hw => ⟨hw.has (p := 0) rfl, (Rd.has (Has.rd hl) hw)⟩) (edges_two _) rfl ?_ ?_ ?_ ?_
  · rintro R1 R2 rl U' w' n s args hget hR hrd hins hbeg
    obtain ⟨e, he, rfl⟩ := edge_inv hget
    refine gk_sub (T' := [(3,_), (8,_), (9,_)]) ⟨rfl, rfl, rfl, trivial⟩ ?_
    refine gk_seq ?_
    refine gk_region ?_
    refine gk_yx rfl rfl (yx_alloc tf50 (zs := [_, _]) rfl) fun b4 => ?_
    refine gk_storeV 0 tf50 rfl rfl (vs := [_, _]) rfl rfl rfl rfl rfl ?_
    refine gk_nil (gk_sub (T' := [(3,_), (4,_), (9,_)]) ⟨rfl, rfl, rfl, trivial⟩ ?_)
    refine gk_region ?_
    refine gk_yx rfl rfl (yx_alloc tf50 (zs := [_, _]) rfl) fun b5 => ?_
    refine gk_storeV 0 tf50 rfl rfl (vs := [_, _]) rfl rfl rfl rfl rfl ?_
    refine gk_nil (gk_sub (T' := [(3,_), (4,_), (5,_)]) ⟨rfl, rfl, rfl, trivial⟩ ?_)
    refine gk_front 2 rfl ?_
    refine hbeg _ _ _ ?_
    refine gk_block ?_
    refine gk_any 5 (fun _ => mixed) (by kernel_rfl) ?_
    refine ph_y (y_loadB1 4 tf3 rfl rfl rfl) ?_
    refine ph_y (y_loadBA 2 tf50 rfl rfl (vs := [_, _]) rfl rfl) ?_
    refine ph_y (y_loadBA 1 tf50 rfl rfl (vs := [_, _]) rfl rfl) ?_
    refine ph_y (y_call en85 rfl (fun w hw => cross_c ⟨_, _⟩ ⟨_, _⟩ w)) ?_
    refine ph_y (y_add rfl rfl) ?_
    refine gk_sub (T' := [(3,_), (14,_)]) ⟨rfl, rfl, trivial⟩ ?_
    refine gk_storeV 4 tf3 rfl rfl (vs := [_]) rfl rfl rfl rfl rfl ?_
    refine gk_nil (gk_sub (T' := []) trivial ?_)
    refine gk_dropAt 1 rfl ?_
    refine gk_dropAt 1 rfl ?_
    exact gk_joined (W (s + crossW e.1 e.2)) trivial rfl (by rw [fold_succ _ _ he, ← hR])
  · intro Dm s hR
    have hR := hR.trans (fold_all _ _ (by simp [edgeVs]))
    refine gk_seq ?_
    refine gk_region ?_
    refine gk_y rfl rfl (y_loadB1 2 tf3 rfl rfl rfl) ?_
    refine gk_y rfl rfl (y_assign rfl) ?_
    refine gk_nil (gk_sub (T' := [(2,_)]) ⟨rfl, trivial⟩ ?_)
    refine gk_ret ?_
    refine gk_unmark 0 rfl ?_
    refine gk_pure (rv_one rfl (r1_tmp rfl)) ?_
    rw [hR]; rfl
  · exact fun _ _ h => h.elim
  · exact fun _ _ _ _ h => absurd h (by simp)
set_option maxRecDepth 100000 in
set_option maxHeartbeats 1000000 in
theorem weight0_c (a : Option Addr) (cap : Nat) (s : Stn) (w : World) (hl : Has w (Pts a s.shape)) (hs : Small s.shape.length) :
    Calls Tryz.prog 29 #[.agg #[.string s.name, .slice a s.shape.length cap, .int .i64 s.depth, .int .i64 s.density, .int .i64 s.grain.x, .int .i64 s.grain.z]] w (Pure (.int .i64 (weightW s)) w) := by
  refine calls_of_gk (vs := [_]) Tryz.func29 rfl rfl (Nat.le_of_ble_eq_true rfl) ?_
  refine gk_seq ?_
  refine gk_region ?_
  refine gk_yx rfl rfl (yx_box (vs := [_, _, _, _, _, _]) rfl rfl) fun b1 => ?_
  refine gk_y rfl rfl (y_assign rfl) ?_
  refine gk_nil (gk_sub (T' := [(1,_), (2,_)]) ⟨rfl, rfl, trivial⟩ ?_)
  refine gk_seq ?_
  refine gk_any 10 (fun _ => mixed) (by kernel_rfl) ?_
  refine ph_y (y_fieldAddr fo52_1 rfl) ?_
  refine ph_y (y_loadB1 0 tf49 rfl rfl rfl) ?_
  refine ph_y (y_call en65 rfl (fun w hw => twice_c _ _ s.shape w (Rd.has (Has.rd hl) hw) (by assumption))) ?_
  refine ph_y (y_fieldAddr fo52_2 rfl) ?_
  refine ph_y (y_loadB1 0 tf3 rfl rfl rfl) ?_
  refine ph_y (y_mul rfl rfl) ?_
  refine ph_y (y_fieldAddr fo52_3 rfl) ?_
  refine ph_y (y_loadB1 0 tf3 rfl rfl rfl) ?_
  refine ph_y (y_mul rfl rfl) ?_
  refine ph_y (y_assign rfl) ?_
  refine gk_nil (gk_sub (T' := [(2,_)]) ⟨rfl, trivial⟩ ?_)
  refine gk_ret ?_
  refine gk_pure (rv_one rfl (r1_tmp rfl)) ?_
  rfl
set_option maxRecDepth 100000 in
set_option maxHeartbeats 1000000 in
theorem ask64_c (a : Option Addr) (cap : Nat) (s : Stn) (gg : FuncId) (gfs gcap : List Value) (v : Int) (w : World) (hl : Has w (Pts a s.shape)) (hs : Small s.shape.length) (M : World → Prop) (hM : ∀ w', Ext w w' → M w') (hen : En Tryz.prog gg) (hg : checkI s = 0 → ∀ w', M w' → Calls Tryz.prog gg (gfs ++ [] ++ gcap).toArray w' (Pure (.int .i64 v) w')) :
    Calls Tryz.prog 47 #[.agg #[.string s.name, .slice a s.shape.length cap, .int .i64 s.depth, .int .i64 s.density, .int .i64 s.grain.x, .int .i64 s.grain.z], .func (.func gg) gfs.toArray gcap.toArray] w (Pure (.tuple #[.int .i64 (askI s v), .int .i64 (checkI s)]) w) := by
  refine calls_of_gk (vs := [_, _]) Tryz.func47 rfl rfl (Nat.le_of_ble_eq_true rfl) ?_
  refine gk_seq ?_
  refine gk_region ?_
  refine gk_yx rfl rfl (yx_box (vs := [_, _, _, _, _, _]) rfl rfl) fun b2 => ?_
  refine gk_y rfl rfl (y_assign rfl) ?_
  refine gk_y rfl rfl (y_assign rfl) ?_
  refine gk_nil (gk_sub (T' := [(1,_), (2,_), (4,_), (5,_)]) ⟨rfl, rfl, rfl, rfl, trivial⟩ ?_)
  refine gk_seq ?_
  refine gk_seq ?_
  refine gk_region ?_
  refine gk_y rfl rfl (y_loadBA 0 tf52 rfl rfl (vs := [_, _, _, _, _, _]) rfl rfl) ?_
  refine gk_y rfl rfl (y_call en38 rfl (fun w hw => check_c _ _ s w (Rd.has (Has.rd hl) hw) (by assumption))) ?_
  refine gk_y rfl rfl (y_assign rfl) ?_
  refine gk_nil (gk_sub (T' := [(1,_), (4,_), (5,_), (6,_)]) ⟨rfl, rfl, rfl, rfl, trivial⟩ ?_)
  refine gk_seq ?_
  refine gk_region ?_
  refine gk_y rfl rfl (y_move rfl) ?_
  refine gk_y rfl rfl (y_neq rfl rfl) ?_
  refine gk_nil (gk_sub (T' := [(1,_), (4,_), (5,_), (6,_), (10,_)]) ⟨rfl, rfl, rfl, rfl, rfl, trivial⟩ ?_)
  refine gk_cond rfl (fun hc10 => ?_) (fun hc10 => ?_)
  · skip
    refine gk_seq ?_
    refine gk_region ?_
    refine gk_y rfl rfl (y_move rfl) ?_
    refine gk_y rfl rfl (y_move rfl) ?_
    refine gk_y rfl rfl (y_assign rfl) ?_
    refine gk_y rfl rfl (y_assign rfl) ?_
    refine gk_nil (gk_sub (T' := [(1,_), (4,_), (5,_)]) ⟨rfl, rfl, rfl, trivial⟩ ?_)
    refine gk_ret ?_
    refine gk_pure (rv_two rfl (r1_tmp rfl) (r1_tmp rfl)) ?_
    have hk : ¬ checkI s = 0 := by simpa using hc10
    rw [askI, if_neg hk]
  · have hk : checkI s = 0 := by simpa using hc10
    refine gk_skip ?_
    refine gk_seq ?_
    refine gk_region ?_
    refine gk_y rfl rfl (y_move rfl) ?_
    refine gk_y rfl rfl (y_callV (fs := gfs) (cap := gcap) hen rfl rfl (fun w hw => hg hk w (hM _ hw.base.ext0))) ?_
    refine gk_y rfl rfl (y_assign rfl) ?_
    refine gk_y rfl rfl (y_assign rfl) ?_
    refine gk_nil (gk_sub (T' := [(4,_), (5,_)]) ⟨rfl, rfl, trivial⟩ ?_)
    refine gk_ret ?_
    refine gk_pure (rv_two rfl (r1_tmp rfl) (r1_tmp rfl)) ?_
    rw [askI, if_pos hk, hk]
set_option maxRecDepth 100000 in
set_option maxHeartbeats 1000000 in
theorem weight_c (a : Option Addr) (cap : Nat) (s : Stn) (w : World) (hl : Has w (Pts a s.shape)) (hs : Small s.shape.length) :
    Calls Tryz.prog 20 #[.agg #[.string s.name, .slice a s.shape.length cap, .int .i64 s.depth, .int .i64 s.density, .int .i64 s.grain.x, .int .i64 s.grain.z]] w (Pure (.tuple #[.int .i64 (askI s (weightW s)), .int .i64 (checkI s)]) w) := by
  refine calls_of_gk (vs := [_]) Tryz.func20 rfl rfl (Nat.le_of_ble_eq_true rfl) ?_
  refine gk_seq ?_
  refine gk_region ?_
  refine gk_yx rfl rfl (yx_box (vs := [_, _, _, _, _, _]) rfl rfl) fun b1 => ?_
  refine gk_y rfl rfl (y_assign rfl) ?_
  refine gk_y rfl rfl (y_assign rfl) ?_
  refine gk_nil (gk_sub (T' := [(1,_), (2,_), (3,_)]) ⟨rfl, rfl, rfl, trivial⟩ ?_)
  refine gk_seq ?_
  refine gk_region ?_
  refine gk_y rfl rfl (y_loadBA 0 tf52 rfl rfl (vs := [_, _, _, _, _, _]) rfl rfl) ?_
  refine gk_y rfl rfl (y_loadBA 0 tf52 rfl rfl (vs := [_, _, _, _, _, _]) rfl rfl) ?_
  refine gk_y rfl rfl (y_makeFunc («as» := [_]) (bs := []) rfl rfl) ?_
  refine gk_y rfl rfl (y_call en47 rfl (fun w hw => ask64_c _ _ s 29 [stnV s a cap] [] (weightW s) w (Rd.has (Has.rd hl) hw) (by assumption) (fun w' => Has w' (Pts a s.shape)) (fun w' hx => Has.ext (Rd.has (Has.rd hl) hw) hx) en29 (fun _ w' hp => weight0_c _ _ s w' hp (by assumption)))) ?_
  refine gk_y rfl rfl (y_extract rfl rfl) ?_
  refine gk_y rfl rfl (y_extract rfl rfl) ?_
  refine gk_y rfl rfl (y_assign rfl) ?_
  refine gk_y rfl rfl (y_assign rfl) ?_
  refine gk_nil (gk_sub (T' := [(2,_), (3,_)]) ⟨rfl, rfl, trivial⟩ ?_)
  refine gk_ret ?_
  refine gk_pure (rv_two rfl (r1_tmp rfl) (r1_tmp rfl)) ?_
  rfl
end Go.Proofs.YtmpaebfjnjmmlaaGreatDoor

namespace Go.Proofs.YtmpaebfjnjmmlaaGreatDoor
open Go.K Go.Stn Go.RowKit
theorem tf135 : TF Tryz.prog 135 false 1 (.nilFunc) := ⟨by kernel_rfl, by kernel_rfl⟩
theorem en53 : En Tryz.prog 53 := en_of Tryz.func53 (by kernel_rfl) (by kernel_rfl)
theorem en59 : En Tryz.prog 59 := en_of Tryz.func59 (by kernel_rfl) (by kernel_rfl)
theorem en60 : En Tryz.prog 60 := en_of Tryz.func60 (by kernel_rfl) (by kernel_rfl)
theorem en61 : En Tryz.prog 61 := en_of Tryz.func61 (by kernel_rfl) (by kernel_rfl)
theorem en89 : En Tryz.prog 89 := en_of Tryz.func89 (by kernel_rfl) (by kernel_rfl)
theorem en96 : En Tryz.prog 96 := en_of Tryz.func96 (by kernel_rfl) (by kernel_rfl)
theorem en97 : En Tryz.prog 97 := en_of Tryz.func97 (by kernel_rfl) (by kernel_rfl)
theorem en126 : En Tryz.prog 126 := en_of Tryz.func126 (by kernel_rfl) (by kernel_rfl)
set_option maxRecDepth 100000 in
set_option maxHeartbeats 1000000 in
theorem common_c (a b : Int) (w : World) (ha : -1000000 ≤ a) (ha2 : a ≤ 1000000) (hb : -1000000 ≤ b) (hb2 : b ≤ 1000000) :
    Calls Tryz.prog 126 #[.int .i64 a, .int .i64 b] w (Pure (.int .i64 ((Nat.gcd a.natAbs b.natAbs : Nat) : Int)) w) := by
  refine calls_of_gk (vs := [_, _]) Tryz.func126 rfl rfl (Nat.le_of_ble_eq_true rfl) ?_
  refine gk_seq ?_
  refine gk_region ?_
  refine gk_y rfl rfl (y_assign rfl) ?_
  refine gk_nil (gk_sub (T' := [(0,_), (1,_), (4,_)]) ⟨rfl, rfl, rfl, trivial⟩ ?_)
  refine gk_seq ?_
  refine gk_region ?_
  refine gk_y rfl rfl (y_move rfl) ?_
  refine gk_y rfl rfl (y_move rfl) ?_
  refine gk_y rfl rfl (y_negI rfl (by omega) (by omega)) ?_
  refine gk_y rfl rfl (y_max rfl rfl) ?_
  refine gk_y rfl rfl (y_move rfl) ?_
  refine gk_y rfl rfl (y_move rfl) ?_
  refine gk_y rfl rfl (y_negI rfl (by omega) (by omega)) ?_
  refine gk_y rfl rfl (y_max rfl rfl) ?_
  refine gk_y rfl rfl (y_assign rfl) ?_
  refine gk_y rfl rfl (y_assign rfl) ?_
  refine gk_nil (gk_sub (T' := [(0,_), (1,_), (4,_)]) ⟨rfl, rfl, rfl, trivial⟩ ?_)
  refine gk_seq ?_
  refine gk_block ?_
  refine gk_loop (X := Int × Int) (fun ⟨x, y⟩ => [(0, .int .i64 x), (1, .int .i64 y), (4, .int .i64 0)]) (fun ⟨x, y⟩ => []) (fun ⟨x, y⟩ => (0 ≤ x ∧ 0 ≤ y ∧ Nat.gcd x.toNat y.toNat = Nat.gcd a.natAbs b.natAbs)) (fun ⟨x, y⟩ => y.toNat) (max a (-a), max b (-b)) ⟨rfl, rfl, rfl, trivial⟩ rfl ?_ ?_
  · exact ⟨by omega, by omega, by rw [show (max a (-a)).toNat = a.natAbs from by omega, show (max b (-b)).toNat = b.natAbs from by omega]⟩
  · rintro ⟨x, y⟩ hI
    obtain ⟨g0, g1, g2⟩ := hI
    refine gk_seq ?_
    refine gk_seq ?_
    refine gk_region ?_
    refine gk_y rfl rfl (y_move rfl) ?_
    refine gk_y rfl rfl (y_neq rfl rfl) ?_
    refine gk_nil (gk_sub (T' := [(0,_), (1,_), (4,_), (14,_)]) ⟨rfl, rfl, rfl, rfl, trivial⟩ ?_)
    refine gk_cond rfl (fun hc14 => ?_) (fun hc14 => ?_)
    · simp only [Bool.not_eq_true', decide_eq_false_iff_not] at hc14
      refine gk_skip ?_
      refine gk_block ?_
      refine gk_any 6 (fun _ => mixed) (by kernel_rfl) ?_
      refine ph_y (y_move rfl) ?_
      refine ph_y (y_move rfl) ?_
      refine ph_y (y_move rfl) ?_
      refine ph_y (y_rem rfl rfl (by omega)) ?_
      refine ph_y (y_assign rfl) ?_
      refine ph_y (y_assign rfl) ?_
      refine gk_nil (gk_sub (T' := [(0,_), (1,_), (4,_)]) ⟨rfl, rfl, rfl, trivial⟩ ?_)
      exact gk_next (_, _) ⟨rfl, rfl, rfl, trivial⟩ rfl ⟨g1, Int.tmod_nonneg _ g0, (gcd_step g0 g1).trans g2⟩ (by have := Int.tmod_lt_of_pos x (show 0 < y by omega); have := Int.tmod_nonneg y g0; simp only []; omega)
    · simp only [Bool.not_eq_false', decide_eq_true_eq] at hc14
      refine gk_exit rfl ?_
      refine gk_seq ?_
      refine gk_region ?_
      refine gk_y rfl rfl (y_move rfl) ?_
      refine gk_y rfl rfl (y_assign rfl) ?_
      refine gk_nil (gk_sub (T' := [(4,_)]) ⟨rfl, trivial⟩ ?_)
      refine gk_ret ?_
      refine gk_pure (rv_one rfl (r1_tmp rfl)) ?_
      rw [← g2, show y.toNat = 0 from by omega, Nat.gcd_zero_right]; exact congrArg _ (by omega)
set_option maxRecDepth 100000 in
set_option maxHeartbeats 1000000 in
theorem steps_c (p q : Pt) (w : World) (hp : farB p = false) (hq : farB q = false) :
    Calls Tryz.prog 97 #[.agg #[.int .i64 p.x, .int .i64 p.z], .agg #[.int .i64 q.x, .int .i64 q.z]] w (Pure (.int .i64 (stepsI p q)) w) := by
  obtain ⟨hd, d0, d1, d2, d3⟩ := near_sub hp hq
  refine calls_of_gk (vs := [_, _]) Tryz.func97 rfl rfl (Nat.le_of_ble_eq_true rfl) ?_
  refine gk_seq ?_
  refine gk_region ?_
  refine gk_yx rfl rfl (yx_box (vs := [_, _]) rfl rfl) fun b2 => ?_
  refine gk_yx rfl rfl (yx_box (vs := [_, _]) rfl rfl) fun b3 => ?_
  refine gk_y rfl rfl (y_assign rfl) ?_
  refine gk_nil (gk_sub (T' := [(2,_), (3,_), (4,_)]) ⟨rfl, rfl, rfl, trivial⟩ ?_)
  refine gk_seq ?_
  refine gk_region ?_
  refine gk_y rfl rfl (y_loadBA 0 tf50 rfl rfl (vs := [_, _]) rfl rfl) ?_
  refine gk_y rfl rfl (y_loadBA 1 tf50 rfl rfl (vs := [_, _]) rfl rfl) ?_
  refine gk_y rfl rfl (y_call en84 rfl (fun w hw => sub_c ⟨_, _⟩ ⟨_, _⟩ w)) ?_
  refine gk_yx rfl rfl (yx_alloc tf50 (zs := [_, _]) rfl) fun b5 => ?_
  refine gk_storeV 0 tf50 rfl rfl (vs := [_, _]) rfl rfl rfl rfl rfl ?_
  refine gk_nil (gk_sub (T' := [(4,_), (5,_)]) ⟨rfl, rfl, trivial⟩ ?_)
  refine gk_seq ?_
  refine gk_region ?_
  refine gk_y rfl rfl (y_fieldAddr fo50_0 rfl) ?_
  refine gk_y rfl rfl (y_loadB1 0 tf3 rfl rfl rfl) ?_
  refine gk_y rfl rfl (y_fieldAddr fo50_1 rfl) ?_
  refine gk_y rfl rfl (y_loadB1 0 tf3 rfl rfl rfl) ?_
  refine gk_y rfl rfl (y_call en126 rfl (fun w hw => common_c ((subW q p).x) ((subW q p).z) w (by rw [hd]; dsimp only; omega) (by rw [hd]; dsimp only; omega) (by rw [hd]; dsimp only; omega) (by rw [hd]; dsimp only; omega))) ?_
  refine gk_y rfl rfl (y_assign rfl) ?_
  refine gk_nil (gk_sub (T' := [(4,_)]) ⟨rfl, trivial⟩ ?_)
  refine gk_ret ?_
  refine gk_pure (rv_one rfl (r1_tmp rfl)) ?_
  rw [hd]; rfl
set_option maxRecDepth 100000 in
set_option maxHeartbeats 1000000 in
theorem border_c (a : Option Addr) (cap : Nat) (s : Stn) (w : World)  :
    Calls Tryz.prog 61 #[.agg #[.string s.name, .slice a s.shape.length cap, .int .i64 s.depth, .int .i64 s.density, .int .i64 s.grain.x, .int .i64 s.grain.z]] w (Gives (fun b : Nat => .func (.func 96) #[] #[.pointer (some ⟨b, 0, none⟩)]) (fun b => Box b [.string s.name, .slice a s.shape.length cap, .int .i64 s.depth, .int .i64 s.density, .int .i64 s.grain.x, .int .i64 s.grain.z] 52) w) := by
  refine calls_of_gk (vs := [_]) Tryz.func61 rfl rfl (Nat.le_of_ble_eq_true rfl) ?_
  refine gk_seq ?_
  refine gk_region ?_
  refine gk_yx rfl rfl (yx_box (vs := [_, _, _, _, _, _]) rfl rfl) fun b1 => ?_
  refine gk_y rfl rfl (y_assign rfl) ?_
  refine gk_nil (gk_sub (T' := [(1,_), (2,_)]) ⟨rfl, rfl, trivial⟩ ?_)
  refine gk_seq ?_
  refine gk_region ?_
  refine gk_y rfl rfl (y_makeFunc («as» := []) (bs := [_]) rfl rfl) ?_
  refine gk_y rfl rfl (y_assign rfl) ?_
  refine gk_nil (gk_sub (T' := [(2,_)]) ⟨rfl, trivial⟩ ?_)
  refine gk_ret ?_
  refine gk_gives b1 0 (rv_one rfl (r1_tmp rfl)) ?_ rfl
  rfl
set_option maxRecDepth 100000 in
set_option maxHeartbeats 1000000 in
theorem border1_c (a : Option Addr) (cap : Nat) (s : Stn) (b : Nat) (hs : Small s.shape.length) (hnear : Near s.shape) :
    SeqC Tryz.prog 96 [.pointer (some ⟨b, 0, none⟩)] (borderVs s.shape) (fun w => Has w (Box b [.string s.name, .slice a s.shape.length cap, .int .i64 s.depth, .int .i64 s.density, .int .i64 s.grain.x, .int .i64 s.grain.z] 52) ∧ Has w (Pts a s.shape)) := by
  intro X J Rl D y w B x0 hB hA h0 hM hy
  refine calls_of_gkB hB hA (vs := [_, _]) Tryz.func96 rfl rfl (Nat.le_of_ble_eq_true rfl) ?_
  have hmem : ∀ {cz : Cx} {Hz : List Res} {xz : X} {pz : Nat} {w' : World}, Inside (fun k => k < w.heap.size ∧ ¬ B k) w cz → Hz[pz]? = some (J xz) → Hp cz.U cz.w0 Hz w' → (Has w' (Box b [.string s.name, .slice a s.shape.length cap, .int .i64 s.depth, .int .i64 s.density, .int .i64 s.grain.x, .int .i64 s.grain.z] 52) ∧ Has w' (Pts a s.shape)) := fun hin hp hw => by
    obtain ⟨B', q1, q2, q3, q4⟩ := own_of_in hin hp hw
    exact hM _ _ B' q4 q1 q2 q3
  have ins0 := insideB Tryz.prog Tryz.f96.ntmps w B
  refine gk_seq ?_
  refine gk_region ?_
  refine gk_yx rfl rfl (yx_box (vs := [_]) rfl rfl) fun b2 => ?_
  refine gk_nil (gk_sub (T' := [(1,_), (2,_)]) ⟨rfl, rfl, trivial⟩ ?_)
  refine gk_seq ?_
  refine gk_region ?_
  refine gk_y rfl rfl (y_fieldAddr fo52_1 rfl) ?_
  refine gk_y rfl rfl (y_load1 tf49 rfl (fun _ hw => has_box_cell (hmem ins0 (pz := 1) rfl hw).1 rfl)) ?_
  refine gk_yx rfl rfl (yx_call en83 rfl (fun w hw => edges_c _ _ s.shape w)) fun p10 => ?_
  refine gk_nil (gk_sub (T' := [(2,_), (10,_)]) ⟨rfl, rfl, trivial⟩ ?_)
  refine gk_block ?_
  refine gk_sub (T' := [(2,_), (10,_)]) ⟨rfl, rfl, trivial⟩ ?_
  refine gk_rangeFunc (X := X) (fun x => [Box p10 [.slice a s.shape.length cap] 49, Box b2 [.func (.yield y) #[] #[]] 135, J x]) (fun n x => Rl (preN s.shape n) x) (fun x => D x) [] x0 rfl en123 rfl rfl (by rw [preN_zero]; exact h0) (edges1_c _ _ s.shape _ (by assumption)) (fun x w hw => ⟨hw.has (p := 0) rfl, (hmem ins0 (pz := 2) rfl hw).2⟩) (edges_two _) rfl ?_ ?_ ?_ ?_
  · rintro R1 R2 rl U' w' n x args hget hR hrd hins hbeg
    obtain ⟨e, he, rfl⟩ := edge_inv hget
    refine gk_sub (T' := [(2,_), (11,_), (12,_)]) ⟨rfl, rfl, rfl, trivial⟩ ?_
    refine gk_seq ?_
    refine gk_region ?_
    refine gk_yx rfl rfl (yx_alloc tf50 (zs := [_, _]) rfl) fun b3 => ?_
    refine gk_storeV 0 tf50 rfl rfl (vs := [_, _]) rfl rfl rfl rfl rfl ?_
    refine gk_nil (gk_sub (T' := [(2,_), (3,_), (12,_)]) ⟨rfl, rfl, rfl, trivial⟩ ?_)
    refine gk_region ?_
    refine gk_yx rfl rfl (yx_alloc tf50 (zs := [_, _]) rfl) fun b4 => ?_
    refine gk_storeV 0 tf50 rfl rfl (vs := [_, _]) rfl rfl rfl rfl rfl ?_
    refine gk_nil (gk_sub (T' := [(2,_), (3,_), (4,_)]) ⟨rfl, rfl, rfl, trivial⟩ ?_)
    refine gk_front 2 rfl ?_
    refine hbeg _ _ _ ?_
    refine gk_block ?_
    refine gk_seq ?_
    refine gk_region ?_
    refine gk_y rfl rfl (y_loadBA 2 tf50 rfl rfl (vs := [_, _]) rfl rfl) ?_
    refine gk_y rfl rfl (y_loadBA 1 tf50 rfl rfl (vs := [_, _]) rfl rfl) ?_
    refine gk_y rfl rfl (y_call en97 rfl (fun w hw => steps_c ⟨_, _⟩ ⟨_, _⟩ w (near_edge hnear he).1 (near_edge hnear he).2)) ?_
    refine gk_y rfl rfl (y_assign rfl) ?_
    refine gk_nil (gk_sub (T' := [(2,_), (3,_), (4,_), (5,_)]) ⟨rfl, rfl, rfl, rfl, trivial⟩ ?_)
    refine gk_seq ?_
    refine gk_region ?_
    refine gk_y rfl rfl (y_loadBA 1 tf50 rfl rfl (vs := [_, _]) rfl rfl) ?_
    refine gk_y rfl rfl (y_loadBA 2 tf50 rfl rfl (vs := [_, _]) rfl rfl) ?_
    refine gk_y rfl rfl (y_call en84 rfl (fun w hw => sub_c ⟨_, _⟩ ⟨_, _⟩ w)) ?_
    refine gk_yx rfl rfl (yx_alloc tf50 (zs := [_, _]) rfl) fun b6 => ?_
    refine gk_storeV 0 tf50 rfl rfl (vs := [_, _]) rfl rfl rfl rfl rfl ?_
    refine gk_nil (gk_sub (T' := [(2,_), (3,_), (5,_), (6,_)]) ⟨rfl, rfl, rfl, rfl, trivial⟩ ?_)
    refine gk_seq ?_
    refine gk_region ?_
    refine gk_y rfl rfl (y_move rfl) ?_
    refine gk_y rfl rfl (y_move rfl) ?_
    refine gk_nil (gk_sub (T' := [(2,_), (3,_), (5,_), (6,_), (19,_), (20,_)]) ⟨rfl, rfl, rfl, rfl, rfl, rfl, trivial⟩ ?_)
    refine gk_block ?_
    refine gk_loop (X := Int × X) (fun ⟨k, x2⟩ => [(2, .pointer (some ⟨b2, 0, none⟩)), (3, .pointer (some ⟨b3, 0, none⟩)), (5, .int .i64 (stepsI e.1 e.2)), (6, .pointer (some ⟨b6, 0, none⟩)), (19, .int .i64 (stepsI e.1 e.2)), (20, .int .i64 k)]) (fun ⟨k, x2⟩ => [Box b6 [.int .i64 ((subW e.2 e.1).x), .int .i64 ((subW e.2 e.1).z)] 50, R2, Box b4 [.int .i64 e.2.x, .int .i64 e.2.z] 50, Box b3 [.int .i64 e.1.x, .int .i64 e.1.z] 50, Box p10 [.slice a s.shape.length cap] 49, Box b2 [.func (.yield y) #[] #[]] 135, J x2]) (fun ⟨k, x2⟩ => (0 ≤ k ∧ k ≤ stepsI e.1 e.2 ∧ Rl (preN s.shape n + k.toNat) x2)) (fun ⟨k, x2⟩ => (stepsI e.1 e.2 - k).toNat) (0, x) ⟨rfl, rfl, rfl, rfl, rfl, rfl, trivial⟩ rfl ?_ ?_
    · exact ⟨by omega, by unfold stepsI; omega, hR⟩
    · rintro ⟨k, x2⟩ hI
      obtain ⟨g0, g1, g2⟩ := hI
      have hst := steps_le (near_edge hnear he).1 (near_edge hnear he).2
      have hsi : stepsI e.1 e.2 = (stepsN e.1 e.2 : Int) := rfl
      refine gk_seq ?_
      refine gk_region ?_
      refine gk_y rfl rfl (y_lss rfl rfl) ?_
      refine gk_nil (gk_sub (T' := [(2,_), (3,_), (5,_), (6,_), (19,_), (20,_), (21,_)]) ⟨rfl, rfl, rfl, rfl, rfl, rfl, rfl, trivial⟩ ?_)
      refine gk_seq ?_
      refine gk_cond rfl (fun hc21 => ?_) (fun hc21 => ?_)
      · simp only [decide_eq_true_eq] at hc21
        refine gk_skip ?_
        refine gk_seq ?_
        refine gk_block ?_
        refine gk_seq ?_
        refine gk_region ?_
        refine gk_y rfl rfl (y_move rfl) ?_
        refine gk_y rfl rfl (y_assign rfl) ?_
        refine gk_nil (gk_sub (T' := [(2,_), (3,_), (5,_), (6,_), (7,_), (19,_), (20,_)]) ⟨rfl, rfl, rfl, rfl, rfl, rfl, rfl, trivial⟩ ?_)
        refine gk_seq ?_
        refine gk_any 20 (fun _ => mixed) (by kernel_rfl) ?_
        refine ph_y (y_loadB1 5 tf135 rfl rfl rfl) ?_
        refine ph_y (y_fieldAddr fo50_0 rfl) ?_
        refine ph_y (y_loadB1 3 tf3 rfl rfl rfl) ?_
        refine ph_y (y_fieldAddr fo50_0 rfl) ?_
        refine ph_y (y_loadB1 0 tf3 rfl rfl rfl) ?_
        refine ph_y (y_move rfl) ?_
        refine ph_y (y_quo rfl rfl (by omega)) ?_
        refine ph_y (y_move rfl) ?_
        refine ph_y (y_mul rfl rfl) ?_
        refine ph_y (y_add rfl rfl) ?_
        refine ph_y (y_fieldAddr fo50_1 rfl) ?_
        refine ph_y (y_loadB1 3 tf3 rfl rfl rfl) ?_
        refine ph_y (y_fieldAddr fo50_1 rfl) ?_
        refine ph_y (y_loadB1 0 tf3 rfl rfl rfl) ?_
        refine ph_y (y_move rfl) ?_
        refine ph_y (y_quo rfl rfl (by omega)) ?_
        refine ph_y (y_move rfl) ?_
        refine ph_y (y_mul rfl rfl) ?_
        refine ph_y (y_add rfl rfl) ?_
        refine ph_y (y_buildL rfl (bd50_0i_1i _ _)) ?_
        refine gk_sub (T' := [(2,_), (3,_), (5,_), (6,_), (19,_), (20,_), (23,_), (42,_)]) ⟨rfl, rfl, rfl, rfl, rfl, rfl, rfl, rfl, trivial⟩ ?_
        refine gk_yield 6 hins rfl rfl rfl rfl (hy _ _ _ (border_get he g0 (by omega)) g2) fun b43 x43 hp43 => ?_
        refine gk_y rfl rfl (y_not rfl) ?_
        refine gk_nil (gk_sub (T' := [(2,_), (3,_), (5,_), (6,_), (19,_), (20,_), (44,_)]) ⟨rfl, rfl, rfl, rfl, rfl, rfl, rfl, trivial⟩ ?_)
        refine gk_cond rfl (fun hc44 => ?_) (fun hc44 => ?_)
        · skip
          refine gk_ret ?_
          refine gk_dropAt 0 rfl ?_
          refine gk_dropAt 1 rfl ?_
          refine gk_dropAt 1 rfl ?_
          exact gk_joined x43 trivial rfl (by have := hp43; rwa [show b43 = false from by simpa using hc44, if_neg Bool.false_ne_true] at this)
        · skip
          refine gk_skip ?_
          refine gk_region ?_
          refine gk_y rfl rfl (y_addI rfl rfl (by omega) (by omega)) ?_
          refine gk_y rfl rfl (y_move rfl) ?_
          refine gk_nil (gk_sub (T' := [(2,_), (3,_), (5,_), (6,_), (19,_), (20,_)]) ⟨rfl, rfl, rfl, rfl, rfl, rfl, trivial⟩ ?_)
          exact gk_next (k + 1, x43) ⟨rfl, rfl, rfl, rfl, rfl, rfl, trivial⟩ rfl ⟨by omega, by omega, by have := hp43; rw [show b43 = true from by simpa using hc44, if_pos rfl] at this; rwa [show preN s.shape n + (k + 1).toNat = preN s.shape n + k.toNat + 1 from by omega]⟩ (by simp only []; omega)
      · simp only [decide_eq_false_iff_not] at hc21
        refine gk_exit rfl ?_
        refine gk_dropAt 0 rfl ?_
        refine gk_dropAt 1 rfl ?_
        refine gk_dropAt 1 rfl ?_
        exact gk_joined x2 trivial rfl (by rw [preN_succ he]; rwa [show k.toNat = stepsN e.1 e.2 from by unfold stepsI at *; omega] at g2)
  · intro Dm x hR
    refine gk_unmark 0 rfl ?_
    refine gk_turns x 2 (rv_none rfl) rfl rfl (.inl (by rw [← preN_all]; exact hR))
  · rintro Dm x hD
    refine gk_unmark 0 rfl ?_
    refine gk_turns x 2 (rv_none rfl) rfl rfl (.inr hD)
  · exact fun _ _ _ _ h => absurd h (by simp)
set_option maxRecDepth 100000 in
set_option maxHeartbeats 1000000 in
theorem appendseq_c (xs : List Pt) (gg : FuncId) (gcap : List Value) (w : World) (hs : Small xs.length) (M : World → Prop) (hM : ∀ w', Ext w w' → M w') (hen : En Tryz.prog gg) (hseq : SeqC Tryz.prog gg gcap (xs.map onePt) M) :
    Calls Tryz.prog 89 #[.slice none 0 0, .func (.func gg) #[] gcap.toArray] w (Gives (fun z : Option Addr × Nat => .slice z.1 xs.length z.2) (fun z => Row z.1 2 z.2 50 encPt xs) w) := by
  refine calls_of_gk (vs := [_, _]) Tryz.func89 rfl rfl (Nat.le_of_ble_eq_true rfl) ?_
  refine gk_seq ?_
  refine gk_region ?_
  refine gk_yx rfl rfl (yx_box (vs := [_]) rfl rfl) fun b2 => ?_
  refine gk_y rfl rfl (y_assign rfl) ?_
  refine gk_nil (gk_sub (T' := [(1,_), (2,_), (4,_)]) ⟨rfl, rfl, rfl, trivial⟩ ?_)
  refine gk_seq ?_
  refine gk_seq ?_
  refine gk_region ?_
  refine gk_y rfl rfl (y_move rfl) ?_
  refine gk_nil (gk_sub (T' := [(2,_), (4,_), (6,_)]) ⟨rfl, rfl, rfl, trivial⟩ ?_)
  refine gk_block ?_
  refine gk_newNil 50 encPt 2 ?_
  refine gk_sub (T' := [(2,_), (4,_), (6,_)]) ⟨rfl, rfl, rfl, trivial⟩ ?_
  refine gk_rangeFunc (X := Option Addr × Nat × List Pt) (fun ⟨b, bc, m⟩ => [Row b 2 bc 50 encPt m, Box b2 [.slice b m.length bc] 49]) (fun n ⟨b, bc, m⟩ => m = xs.take n) (fun ⟨b, bc, m⟩ => False) [] (none, 0, []) rfl hen rfl rfl rfl hseq (fun ⟨b, bc, m⟩ w hw => hM _ hw.base.ext0) (ones_one _) rfl ?_ ?_ ?_ ?_
  · rintro R1 R2 rl U' w' n ⟨b, bc, m⟩ args hget hR hrd hins hbeg
    obtain ⟨p, hp, rfl⟩ := ones_inv hget
    have hlen : m.length ≤ xs.length := by rw [hR, List.length_take]; omega
    refine gk_sub (T' := [(2,_), (7,_)]) ⟨rfl, rfl, trivial⟩ ?_
    refine gk_region ?_
    refine gk_yx rfl rfl (yx_alloc tf50 (zs := [_, _]) rfl) fun b5 => ?_
    refine gk_storeV 0 tf50 rfl rfl (vs := [_, _]) rfl rfl rfl rfl rfl ?_
    refine gk_nil (gk_sub (T' := [(2,_), (5,_)]) ⟨rfl, rfl, trivial⟩ ?_)
    refine gk_front 1 rfl ?_
    refine hbeg _ _ _ ?_
    refine gk_block ?_
    refine gk_region ?_
    refine gk_y rfl rfl (y_loadB1 3 tf49 rfl rfl rfl) ?_
    refine gk_y rfl rfl (y_loadBA 1 tf50 rfl rfl (vs := [_, _]) rfl rfl) ?_
    refine gk_yx rfl rfl (yx_buildSlice rfl (bs49_1 _ _) encPt_ok rfl) fun b10 => ?_
    refine gk_append (m := [⟨p.x, p.z⟩]) 3 af49 encPt_ok rfl rfl rfl rfl (fun _ hw => (has_row encPt_ok (hw.has (p := 0) rfl))) (by first | omega | (simp only [List.length_cons, List.length_nil]; omega)) (by first | (unfold maxLen; omega) | (simp only [List.length_cons, List.length_nil, maxLen]; omega)) fun a11 c11 => ?_
    refine gk_storeV 4 tf49 rfl rfl (vs := [_]) rfl rfl rfl rfl rfl ?_
    refine gk_nil (gk_sub (T' := []) trivial ?_)
    refine gk_dropAt 0 rfl ?_
    refine gk_dropAt 1 rfl ?_
    exact gk_joined (a11, c11, _) trivial rfl (by rw [take_snoc hp, ← hR])
  · rintro Dm ⟨b, bc, m⟩ hR
    obtain rfl : m = xs := by rw [hR]; simp
    refine gk_seq ?_
    refine gk_region ?_
    refine gk_y rfl rfl (y_loadB1 2 tf49 rfl rfl rfl) ?_
    refine gk_y rfl rfl (y_assign rfl) ?_
    refine gk_nil (gk_sub (T' := [(4,_)]) ⟨rfl, trivial⟩ ?_)
    refine gk_ret ?_
    refine gk_unmark 0 rfl ?_
    refine gk_gives (b, bc) 0 (rv_one rfl (r1_tmp rfl)) ?_ rfl
    rfl
  · exact fun _ _ h => h.elim
  · exact fun _ _ _ _ h => absurd h (by simp)
set_option maxRecDepth 100000 in
set_option maxHeartbeats 1000000 in
theorem collect_c (xs : List Pt) (gg : FuncId) (gcap : List Value) (w : World) (hs : Small xs.length) (M : World → Prop) (hM : ∀ w', Ext w w' → M w') (hen : En Tryz.prog gg) (hseq : SeqC Tryz.prog gg gcap (xs.map onePt) M) :
    Calls Tryz.prog 53 #[.func (.func gg) #[] gcap.toArray] w (Gives (fun z : Option Addr × Nat => .slice z.1 xs.length z.2) (fun z => Row z.1 2 z.2 50 encPt xs) w) := by
  refine calls_of_gk (vs := [_]) Tryz.func53 rfl rfl (Nat.le_of_ble_eq_true rfl) ?_
  refine gk_seq ?_
  refine gk_region ?_
  refine gk_y rfl rfl (y_assign rfl) ?_
  refine gk_nil (gk_sub (T' := [(0,_), (2,_)]) ⟨rfl, rfl, trivial⟩ ?_)
  refine gk_seq ?_
  refine gk_region ?_
  refine gk_y rfl rfl (y_move rfl) ?_
  refine gk_yx rfl rfl (yx_call en89 rfl (fun w hw => appendseq_c xs _ _ w (by assumption) M (fun w' hx => hM w' (hw.base.ext0.trans hx)) hen hseq)) fun p4 => ?_
  refine gk_y rfl rfl (y_assign rfl) ?_
  refine gk_nil (gk_sub (T' := [(2,_)]) ⟨rfl, trivial⟩ ?_)
  refine gk_ret ?_
  refine gk_gives p4 0 (rv_one rfl (r1_tmp rfl)) ?_ rfl
  rfl
set_option maxRecDepth 100000 in
set_option maxHeartbeats 1000000 in
theorem Border1_c (a : Option Addr) (cap : Nat) (s : Stn) (b : Nat) (w : World) (hb : Has w (Box b [.string s.name, .slice a s.shape.length cap, .int .i64 s.depth, .int .i64 s.density, .int .i64 s.grain.x, .int .i64 s.grain.z] 52)) (hl : Has w (Pts a s.shape)) (hv : checkI s = 0) :
    Calls Tryz.prog 60 #[.pointer (some ⟨b, 0, none⟩)] w (Gives (fun z : Option Addr × Nat => .slice z.1 (borderL s.shape).length z.2) (fun z => Row z.1 2 z.2 50 encPt (borderL s.shape)) w) := by
  refine calls_of_gk (vs := [_]) Tryz.func60 rfl rfl (Nat.le_of_ble_eq_true rfl) ?_
  refine gk_seq ?_
  refine gk_region ?_
  refine gk_y rfl rfl (y_assign rfl) ?_
  refine gk_nil (gk_sub (T' := [(0,_), (1,_)]) ⟨rfl, rfl, trivial⟩ ?_)
  refine gk_seq ?_
  refine gk_region ?_
  refine gk_y rfl rfl (y_loadA tf52 rfl rfl (fun _ hw => has_box_cells (o := 0) (k := 6) (Rd.has (Has.rd hb) hw) (vs := [_, _, _, _, _, _]) rfl)) ?_
  refine gk_yx rfl rfl (yx_call en61 rfl (fun w hw => border_c _ _ s w)) fun p3 => ?_
  refine gk_yx rfl rfl (yx_call en53 rfl (fun w hw => collect_c (borderL s.shape) _ [_] w (by have := border_len (check_near hv); have := check_len hv; unfold Small; omega) (fun w' => Has w' (Box p3 [.string s.name, .slice a s.shape.length cap, .int .i64 s.depth, .int .i64 s.density, .int .i64 s.grain.x, .int .i64 s.grain.z] 52) ∧ Has w' (Pts a s.shape)) (fun w' hx => ⟨Has.ext (hw.has (p := 0) rfl) hx, Has.ext (Rd.has (Has.rd hl) hw) hx⟩) en96 (border1_c _ _ s p3 (by have := check_len hv; unfold Small; omega) (check_near hv)))) fun p4 => ?_
  refine gk_y rfl rfl (y_assign rfl) ?_
  refine gk_nil (gk_sub (T' := [(1,_)]) ⟨rfl, trivial⟩ ?_)
  refine gk_ret ?_
  refine gk_gives p4 0 (rv_one rfl (r1_tmp rfl)) ?_ rfl
  rfl
set_option maxRecDepth 100000 in
set_option maxHeartbeats 1000000 in
theorem askL_c (a : Option Addr) (cap : Nat) (s : Stn) (gg : FuncId) (gfs gcap : List Value) (r : List Pt) (w : World) (hl : Has w (Pts a s.shape)) (hs : Small s.shape.length) (M : World → Prop) (hM : ∀ w', Ext w w' → M w') (hen : En Tryz.prog gg) (hg : checkI s = 0 → ∀ w', M w' → Calls Tryz.prog gg (gfs ++ [] ++ gcap).toArray w' (Gives (fun z : Option Addr × Nat => .slice z.1 r.length z.2) (fun z => Row z.1 2 z.2 50 encPt r) w')) :
    Calls Tryz.prog 59 #[.agg #[.string s.name, .slice a s.shape.length cap, .int .i64 s.depth, .int .i64 s.density, .int .i64 s.grain.x, .int .i64 s.grain.z], .func (.func gg) gfs.toArray gcap.toArray] w (Gives (fun z : Option Addr × Nat => .tuple #[.slice z.1 (askL s r).length z.2, .int .i64 (checkI s)]) (fun z => Row z.1 2 z.2 50 encPt (askL s r)) w) := by
  refine calls_of_gk (vs := [_, _]) Tryz.func59 rfl rfl (Nat.le_of_ble_eq_true rfl) ?_
  refine gk_seq ?_
  refine gk_region ?_
  refine gk_yx rfl rfl (yx_box (vs := [_, _, _, _, _, _]) rfl rfl) fun b2 => ?_
  refine gk_y rfl rfl (y_assign rfl) ?_
  refine gk_y rfl rfl (y_assign rfl) ?_
  refine gk_nil (gk_sub (T' := [(1,_), (2,_), (4,_), (5,_)]) ⟨rfl, rfl, rfl, rfl, trivial⟩ ?_)
  refine gk_seq ?_
  refine gk_seq ?_
  refine gk_region ?_
  refine gk_y rfl rfl (y_loadBA 0 tf52 rfl rfl (vs := [_, _, _, _, _, _]) rfl rfl) ?_
  refine gk_y rfl rfl (y_call en38 rfl (fun w hw => check_c _ _ s w (Rd.has (Has.rd hl) hw) (by assumption))) ?_
  refine gk_y rfl rfl (y_assign rfl) ?_
  refine gk_nil (gk_sub (T' := [(1,_), (4,_), (5,_), (6,_)]) ⟨rfl, rfl, rfl, rfl, trivial⟩ ?_)
  refine gk_seq ?_
  refine gk_region ?_
  refine gk_y rfl rfl (y_move rfl) ?_
  refine gk_y rfl rfl (y_neq rfl rfl) ?_
  refine gk_nil (gk_sub (T' := [(1,_), (4,_), (5,_), (6,_), (10,_)]) ⟨rfl, rfl, rfl, rfl, rfl, trivial⟩ ?_)
  refine gk_cond rfl (fun hc10 => ?_) (fun hc10 => ?_)
  · have hk : ¬ checkI s = 0 := by simpa using hc10
    refine gk_newNil 50 encPt 2 ?_
    refine gk_seq ?_
    refine gk_region ?_
    refine gk_y rfl rfl (y_move rfl) ?_
    refine gk_y rfl rfl (y_move rfl) ?_
    refine gk_y rfl rfl (y_assign rfl) ?_
    refine gk_y rfl rfl (y_assign rfl) ?_
    refine gk_nil (gk_sub (T' := [(1,_), (4,_), (5,_)]) ⟨rfl, rfl, rfl, trivial⟩ ?_)
    refine gk_ret ?_
    refine gk_gives (none, 0) 0 (rv_two rfl (r1_tmp rfl) (r1_tmp rfl)) ?_ (by simp only [askL, if_neg hk]; rfl)
    simp only [askL, if_neg hk]; rfl
  · have hk : checkI s = 0 := by simpa using hc10
    refine gk_skip ?_
    refine gk_seq ?_
    refine gk_region ?_
    refine gk_y rfl rfl (y_move rfl) ?_
    refine gk_yx rfl rfl (yx_callV (fs := gfs) (cap := gcap) hen rfl rfl (fun w hw => hg hk w (hM _ hw.base.ext0))) fun p14 => ?_
    refine gk_y rfl rfl (y_assign rfl) ?_
    refine gk_y rfl rfl (y_assign rfl) ?_
    refine gk_nil (gk_sub (T' := [(4,_), (5,_)]) ⟨rfl, rfl, trivial⟩ ?_)
    refine gk_ret ?_
    refine gk_gives p14 0 (rv_two rfl (r1_tmp rfl) (r1_tmp rfl)) ?_ (by simp only [askL, if_pos hk]; rfl)
    rw [hk]; simp only [askL, if_pos hk]
set_option maxRecDepth 100000 in
set_option maxHeartbeats 1000000 in
theorem Border_c (a : Option Addr) (cap : Nat) (s : Stn) (w : World) (hl : Has w (Pts a s.shape)) (hs : Small s.shape.length) :
    Calls Tryz.prog 24 #[.agg #[.string s.name, .slice a s.shape.length cap, .int .i64 s.depth, .int .i64 s.density, .int .i64 s.grain.x, .int .i64 s.grain.z]] w (Gives (fun z : Option Addr × Nat => .tuple #[.slice z.1 (askL s (borderL s.shape)).length z.2, .int .i64 (checkI s)]) (fun z => Row z.1 2 z.2 50 encPt (askL s (borderL s.shape))) w) := by
  refine calls_of_gk (vs := [_]) Tryz.func24 rfl rfl (Nat.le_of_ble_eq_true rfl) ?_
  refine gk_seq ?_
  refine gk_region ?_
  refine gk_yx rfl rfl (yx_box (vs := [_, _, _, _, _, _]) rfl rfl) fun b1 => ?_
  refine gk_y rfl rfl (y_assign rfl) ?_
  refine gk_y rfl rfl (y_assign rfl) ?_
  refine gk_nil (gk_sub (T' := [(1,_), (2,_), (3,_)]) ⟨rfl, rfl, rfl, trivial⟩ ?_)
  refine gk_seq ?_
  refine gk_region ?_
  refine gk_y rfl rfl (y_loadBA 0 tf52 rfl rfl (vs := [_, _, _, _, _, _]) rfl rfl) ?_
  refine gk_y rfl rfl (y_makeFunc («as» := []) (bs := [_]) rfl rfl) ?_
  refine gk_yx rfl rfl (yx_call en59 rfl (fun w hw => askL_c _ _ s 60 [] [.pointer (some ⟨b1, 0, none⟩)] (borderL s.shape) w (Rd.has (Has.rd hl) hw) (by assumption) (fun w' => Has w' (Box b1 [.string s.name, .slice a s.shape.length cap, .int .i64 s.depth, .int .i64 s.density, .int .i64 s.grain.x, .int .i64 s.grain.z] 52) ∧ Has w' (Pts a s.shape)) (fun w' hx => ⟨Has.ext (hw.has (p := 0) rfl) hx, Has.ext (Rd.has (Has.rd hl) hw) hx⟩) en60 (fun hv w' hm => Border1_c _ _ s _ w' hm.1 hm.2 hv))) fun p6 => ?_
  refine gk_y rfl rfl (y_extract rfl rfl) ?_
  refine gk_y rfl rfl (y_extract rfl rfl) ?_
  refine gk_y rfl rfl (y_assign rfl) ?_
  refine gk_y rfl rfl (y_assign rfl) ?_
  refine gk_nil (gk_sub (T' := [(2,_), (3,_)]) ⟨rfl, rfl, trivial⟩ ?_)
  refine gk_ret ?_
  refine gk_gives p6 0 (rv_two rfl (r1_tmp rfl) (r1_tmp rfl)) ?_ rfl
  rfl
end Go.Proofs.YtmpaebfjnjmmlaaGreatDoor

namespace Go.Proofs.YtmpaebfjnjmmlaaGreatDoor
open Go.K Go.Stn Go.RowKit
theorem se162 : SE Tryz.prog 162 49 1 := ⟨Tryz.underlying162, by kernel_rfl⟩
theorem en91 : En Tryz.prog 91 := en_of Tryz.func91 (by kernel_rfl) (by kernel_rfl)
theorem en92 : En Tryz.prog 92 := en_of Tryz.func92 (by kernel_rfl) (by kernel_rfl)
theorem en124 : En Tryz.prog 124 := en_of Tryz.func124 (by kernel_rfl) (by kernel_rfl)
theorem bs162_2 (x0a : Option Addr) (x0l : List Pt) (x0c : Nat) (x1a : Option Addr) (x1l : List Pt) (x1c : Nat) (w : World) : (Instr.buildSlice 162 2 #[(0, .slice x0a x0l.length x0c), (1, .slice x1a x1l.length x1c)]).run Tryz.prog w = .ok (.slice (some ⟨w.heap.size, 0, none⟩) 2 2) (w.alloc (.cells (([⟨x0a, x0c, x0l⟩, ⟨x1a, x1c, x1l⟩] : List (Sli)).flatMap encSli).toArray 49)) := by kernel_rfl
set_option maxRecDepth 100000 in
set_option maxHeartbeats 1000000 in
theorem index_c (a : Option Addr) (cap : Nat) (l : List Pt) (v : Pt) (w : World) (hl : Has w (Pts a l)) (hs : Small l.length) :
    Calls Tryz.prog 91 #[.slice a l.length cap, .agg #[.int .i64 v.x, .int .i64 v.z]] w (Pure (.int .i64 (findI (eqB v) l)) w) := by
  refine calls_of_gk (vs := [_, _]) Tryz.func91 rfl rfl (Nat.le_of_ble_eq_true rfl) ?_
  refine gk_seq ?_
  refine gk_region ?_
  refine gk_yx rfl rfl (yx_box (vs := [_, _]) rfl rfl) fun b3 => ?_
  refine gk_y rfl rfl (y_assign rfl) ?_
  refine gk_nil (gk_sub (T' := [(0,_), (3,_), (4,_)]) ⟨rfl, rfl, rfl, trivial⟩ ?_)
  refine gk_seq ?_
  refine gk_seq ?_
  refine gk_region ?_
  refine gk_y rfl rfl (y_move rfl) ?_
  refine gk_y rfl rfl (y_lenS (Tryz.underlying49) rfl) ?_
  refine gk_y rfl rfl (y_move rfl) ?_
  refine gk_nil (gk_sub (T' := [(0,_), (3,_), (4,_), (7,_), (8,_)]) ⟨rfl, rfl, rfl, rfl, rfl, trivial⟩ ?_)
  refine gk_block ?_
  refine gk_loop (X := Int) (fun (i : Int) => [(0, .slice a l.length cap), (3, .pointer (some ⟨b3, 0, none⟩)), (4, .int .i64 0), (7, .int .i64 (l.length : Int)), (8, .int .i64 i)]) (fun (i : Int) => [Box b3 [.int .i64 v.x, .int .i64 v.z] 50]) (fun (i : Int) => (0 ≤ i ∧ i ≤ l.length ∧ ∀ j : Nat, (j : Int) < i → eqB v (l.getD j default) = false)) (fun (i : Int) => (l.length - i).toNat) 0 ⟨rfl, rfl, rfl, rfl, rfl, trivial⟩ rfl ?_ ?_
  · exact ⟨by omega, by omega, fun j hj => by omega⟩
  · rintro i hI
    obtain ⟨g0, g1, g2⟩ := hI
    refine gk_seq ?_
    refine gk_region ?_
    refine gk_y rfl rfl (y_lss rfl rfl) ?_
    refine gk_nil (gk_sub (T' := [(0,_), (3,_), (4,_), (7,_), (8,_), (9,_)]) ⟨rfl, rfl, rfl, rfl, rfl, rfl, trivial⟩ ?_)
    refine gk_seq ?_
    refine gk_cond rfl (fun hc9 => ?_) (fun hc9 => ?_)
    · simp only [decide_eq_true_eq] at hc9
      refine gk_skip ?_
      refine gk_seq ?_
      refine gk_block ?_
      refine gk_seq ?_
      refine gk_region ?_
      refine gk_y rfl rfl (y_move rfl) ?_
      refine gk_y rfl rfl (y_assign rfl) ?_
      refine gk_nil (gk_sub (T' := [(0,_), (3,_), (4,_), (5,_), (7,_), (8,_)]) ⟨rfl, rfl, rfl, rfl, rfl, rfl, trivial⟩ ?_)
      refine gk_seq ?_
      refine gk_any 6 (fun _ => mixed) (by kernel_rfl) ?_
      refine ph_y (y_loadBA 0 tf50 rfl rfl (vs := [_, _]) rfl rfl) ?_
      refine ph_y (y_move rfl) ?_
      refine ph_y (y_move rfl) ?_
      refine ph_y (y_indexE se49 rfl rfl (fun _ hw => (Rd.has (Has.rd hl) hw)) (by omega) (by omega)) ?_
      refine ph_y (y_loadE (vs := [_, _]) tf50 rfl (fun _ hw => (Rd.has (Has.rd hl) hw)) (by omega) (by omega) rfl) ?_
      refine ph_y (y_eql50 rfl rfl) ?_
      refine gk_nil (gk_sub (T' := [(0,_), (3,_), (4,_), (5,_), (7,_), (8,_), (16,_)]) ⟨rfl, rfl, rfl, rfl, rfl, rfl, rfl, trivial⟩ ?_)
      refine gk_cond rfl (fun hc16 => ?_) (fun hc16 => ?_)
      · skip
        refine gk_seq ?_
        refine gk_region ?_
        refine gk_y rfl rfl (y_move rfl) ?_
        refine gk_y rfl rfl (y_assign rfl) ?_
        refine gk_nil (gk_sub (T' := [(0,_), (3,_), (4,_), (7,_), (8,_)]) ⟨rfl, rfl, rfl, rfl, rfl, trivial⟩ ?_)
        refine gk_ret ?_
        refine gk_pure (rv_one rfl (r1_tmp rfl)) ?_
        exact congrArg _ (findI_hit g0 (by omega) g2 hc16).symm
      · skip
        refine gk_skip ?_
        refine gk_region ?_
        refine gk_y rfl rfl (y_addI rfl rfl (by omega) (by omega)) ?_
        refine gk_y rfl rfl (y_move rfl) ?_
        refine gk_nil (gk_sub (T' := [(0,_), (3,_), (4,_), (7,_), (8,_)]) ⟨rfl, rfl, rfl, rfl, rfl, trivial⟩ ?_)
        exact gk_next _ ⟨rfl, rfl, rfl, rfl, rfl, trivial⟩ rfl ⟨by omega, by omega, fun j hj => if h : (j : Int) < i then g2 j h else (by rw [show j = i.toNat from by omega]; exact hc16)⟩ (by omega)
    · simp only [decide_eq_false_iff_not] at hc9
      refine gk_exit rfl ?_
      refine gk_seq ?_
      refine gk_region ?_
      refine gk_y rfl rfl (y_assign rfl) ?_
      refine gk_nil (gk_sub (T' := [(4,_)]) ⟨rfl, trivial⟩ ?_)
      refine gk_ret ?_
      refine gk_pure (rv_one rfl (r1_tmp rfl)) ?_
      exact congrArg _ (findI_none (fun j hj => g2 j (by omega))).symm
set_option maxRecDepth 100000 in
set_option maxHeartbeats 1000000 in
theorem growNil_c (n : Int) (w : World) (h0 : 0 ≤ n) (h1 : n ≤ 1099511627776) :
    Calls Tryz.prog 124 #[.slice none 0 0, .int .i64 n] w (Gives (fun z : Option Addr × Nat => .slice z.1 0 z.2) (fun z => Row z.1 2 z.2 50 encPt []) w) := by
  refine calls_of_gk (vs := [_, _]) Tryz.func124 rfl rfl (Nat.le_of_ble_eq_true rfl) ?_
  refine gk_seq ?_
  refine gk_region ?_
  refine gk_y rfl rfl (y_assign rfl) ?_
  refine gk_nil (gk_sub (T' := [(0,_), (1,_), (4,_)]) ⟨rfl, rfl, rfl, trivial⟩ ?_)
  refine gk_seq ?_
  refine gk_seq ?_
  refine gk_region ?_
  refine gk_y rfl rfl (y_move rfl) ?_
  refine gk_y rfl rfl (y_lss rfl rfl) ?_
  refine gk_nil (gk_sub (T' := [(0,_), (1,_), (4,_), (6,_)]) ⟨rfl, rfl, rfl, rfl, trivial⟩ ?_)
  refine gk_cond rfl (fun hc6 => ?_) (fun hc6 => ?_)
  · exfalso; simp at hc6; omega
  · simp only [decide_eq_false_iff_not] at hc6
    refine gk_skip ?_
    refine gk_seq ?_
    refine gk_seq ?_
    refine gk_region ?_
    refine gk_y rfl rfl (y_move rfl) ?_
    refine gk_y rfl rfl (y_move rfl) ?_
    refine gk_y rfl rfl (y_capS (Tryz.underlying49) rfl) ?_
    refine gk_y rfl rfl (y_move rfl) ?_
    refine gk_y rfl rfl (y_lenS (Tryz.underlying49) rfl) ?_
    refine gk_y rfl rfl (y_subI rfl rfl (by omega) (by omega)) ?_
    refine gk_y rfl rfl (y_subI rfl rfl (by omega) (by omega)) ?_
    refine gk_y rfl rfl (y_assign rfl) ?_
    refine gk_nil (gk_sub (T' := [(0,_), (1,_), (4,_)]) ⟨rfl, rfl, rfl, trivial⟩ ?_)
    refine gk_seq ?_
    refine gk_region ?_
    refine gk_y rfl rfl (y_move rfl) ?_
    refine gk_y rfl rfl (y_gtr rfl rfl) ?_
    refine gk_nil (gk_sub (T' := [(0,_), (1,_), (4,_), (16,_)]) ⟨rfl, rfl, rfl, rfl, trivial⟩ ?_)
    refine gk_cond rfl (fun hc16 => ?_) (fun hc16 => ?_)
    · simp only [decide_eq_true_eq] at hc16
      refine gk_region ?_
      refine gk_y rfl rfl (y_move rfl) ?_
      refine gk_y rfl rfl (y_move rfl) ?_
      refine gk_y rfl rfl (y_capS (Tryz.underlying49) rfl) ?_
      refine gk_y rfl rfl (y_sliceHi se49 rfl rfl (by decide) (by decide)) ?_
      refine gk_y rfl rfl (y_move rfl) ?_
      refine gk_yx rfl rfl (yx_appendZeros encPt af49 (by decide) (Tryz.underlying3) rfl rfl (by omega) (by omega) (by omega)) fun z22 => ?_
      refine gk_y rfl rfl (y_move rfl) ?_
      refine gk_y rfl rfl (y_lenS (Tryz.underlying49) rfl) ?_
      refine gk_y rfl rfl (y_sliceHi se49 rfl rfl (by omega) (by omega)) ?_
      refine gk_y rfl rfl (y_assign rfl) ?_
      refine gk_nil (gk_sub (T' := [(0,_), (4,_)]) ⟨rfl, rfl, trivial⟩ ?_)
      refine gk_seq ?_
      refine gk_region ?_
      refine gk_y rfl rfl (y_move rfl) ?_
      refine gk_y rfl rfl (y_assign rfl) ?_
      refine gk_nil (gk_sub (T' := [(4,_)]) ⟨rfl, trivial⟩ ?_)
      refine gk_ret ?_
      refine gk_gives (some ⟨z22.1, 0, none⟩, z22.2) 0 (rv_one rfl (r1_tmp rfl)) ?_ rfl
      exact congrArg (fun a => Value.slice a 0 _) subA_zero
    · simp only [decide_eq_false_iff_not] at hc16
      refine gk_newNil 50 encPt 2 ?_
      refine gk_skip ?_
      refine gk_seq ?_
      refine gk_region ?_
      refine gk_y rfl rfl (y_move rfl) ?_
      refine gk_y rfl rfl (y_assign rfl) ?_
      refine gk_nil (gk_sub (T' := [(4,_)]) ⟨rfl, trivial⟩ ?_)
      refine gk_ret ?_
      refine gk_gives (none, 0) 0 (rv_one rfl (r1_tmp rfl)) ?_ rfl
      rfl
set_option maxRecDepth 100000 in
set_option maxHeartbeats 1000000 in
theorem concat_c (a : Option Addr) (cap : Nat) (ls : List Sli) (w : World) (hl : Has w (Elems a 1 encSli ls)) (hin : ∀ i, i < ls.length → Has w (Pts (ls.getD i default).a (ls.getD i default).l)) (hs : Small ls.length) (ht : Small (ls.flatMap Sli.l).length) :
    Calls Tryz.prog 92 #[.slice a ls.length cap] w (Gives (fun z : Option Addr × Nat => .slice z.1 (ls.flatMap Sli.l).length z.2) (fun z => Row z.1 2 z.2 50 encPt (ls.flatMap Sli.l)) w) := by
  refine calls_of_gk (vs := [_]) Tryz.func92 rfl rfl (Nat.le_of_ble_eq_true rfl) ?_
  refine gk_seq ?_
  refine gk_region ?_
  refine gk_y rfl rfl (y_assign rfl) ?_
  refine gk_nil (gk_sub (T' := [(0,_), (2,_)]) ⟨rfl, rfl, trivial⟩ ?_)
  refine gk_seq ?_
  refine gk_region ?_
  refine gk_y rfl rfl (y_assign rfl) ?_
  refine gk_nil (gk_sub (T' := [(0,_), (2,_), (3,_)]) ⟨rfl, rfl, rfl, trivial⟩ ?_)
  refine gk_seq ?_
  refine gk_seq ?_
  refine gk_region ?_
  refine gk_y rfl rfl (y_move rfl) ?_
  refine gk_y rfl rfl (y_lenS (Tryz.underlying162) rfl) ?_
  refine gk_y rfl rfl (y_move rfl) ?_
  refine gk_nil (gk_sub (T' := [(0,_), (2,_), (3,_), (9,_), (10,_), (11,_)]) ⟨rfl, rfl, rfl, rfl, rfl, rfl, trivial⟩ ?_)
  refine gk_block ?_
  refine gk_loop (X := Int × Int) (fun ⟨i, z⟩ => [(0, .slice a ls.length cap), (2, .slice none 0 0), (3, .int .i64 z), (9, .slice a ls.length cap), (10, .int .i64 (ls.length : Int)), (11, .int .i64 i)]) (fun ⟨i, z⟩ => []) (fun ⟨i, z⟩ => (0 ≤ i ∧ i ≤ ls.length ∧ z = (((ls.take i.toNat).flatMap Sli.l).length : Int))) (fun ⟨i, z⟩ => (ls.length - i).toNat) (0, 0) ⟨rfl, rfl, rfl, rfl, rfl, rfl, trivial⟩ rfl ?_ ?_
  · exact ⟨by omega, by omega, rfl⟩
  · rintro ⟨i, z⟩ hI
    obtain ⟨g0, g1, g2⟩ := hI
    refine gk_seq ?_
    refine gk_region ?_
    refine gk_y rfl rfl (y_lss rfl rfl) ?_
    refine gk_nil (gk_sub (T' := [(0,_), (2,_), (3,_), (9,_), (10,_), (11,_), (12,_)]) ⟨rfl, rfl, rfl, rfl, rfl, rfl, rfl, trivial⟩ ?_)
    refine gk_seq ?_
    refine gk_cond rfl (fun hc12 => ?_) (fun hc12 => ?_)
    · have hc12 := of_decide_eq_true hc12
      have hsx := sum_succ (ls := ls) g0 hc12
      have hbx := sum_le ls (i + 1).toNat
      rw [hsx, List.length_append] at hbx
      refine gk_skip ?_
      refine gk_seq ?_
      refine gk_block ?_
      refine gk_seq ?_
      refine gk_region ?_
      refine gk_y rfl rfl (y_indexE se162 rfl rfl (fun _ hw => (Rd.has (Has.rd hl) hw)) (by omega) (by omega)) ?_
      refine gk_y rfl rfl (y_loadE1 tf49 rfl (fun _ hw => (Rd.has (Has.rd hl) hw)) (by omega) (by omega) rfl) ?_
      refine gk_y rfl rfl (y_assign rfl) ?_
      refine gk_nil (gk_sub (T' := [(0,_), (2,_), (3,_), (5,_), (9,_), (10,_), (11,_)]) ⟨rfl, rfl, rfl, rfl, rfl, rfl, rfl, trivial⟩ ?_)
      refine gk_seq ?_
      refine gk_region ?_
      refine gk_y rfl rfl (y_move rfl) ?_
      refine gk_y rfl rfl (y_move rfl) ?_
      refine gk_y rfl rfl (y_lenS (Tryz.underlying49) rfl) ?_
      refine gk_y rfl rfl (y_addI rfl rfl (by omega) (by omega)) ?_
      refine gk_y rfl rfl (y_assign rfl) ?_
      refine gk_nil (gk_sub (T' := [(0,_), (2,_), (3,_), (9,_), (10,_), (11,_)]) ⟨rfl, rfl, rfl, rfl, rfl, rfl, trivial⟩ ?_)
      refine gk_seq ?_
      refine gk_region ?_
      refine gk_y rfl rfl (y_move rfl) ?_
      refine gk_y rfl rfl (y_lss rfl rfl) ?_
      refine gk_nil (gk_sub (T' := [(0,_), (2,_), (3,_), (9,_), (10,_), (11,_), (20,_)]) ⟨rfl, rfl, rfl, rfl, rfl, rfl, rfl, trivial⟩ ?_)
      refine gk_cond rfl (fun hc20 => ?_) (fun hc20 => ?_)
      · exfalso; simp at hc20; omega
      · simp only [decide_eq_false_iff_not] at hc20
        refine gk_skip ?_
        refine gk_region ?_
        refine gk_y rfl rfl (y_addI rfl rfl (by omega) (by omega)) ?_
        refine gk_y rfl rfl (y_move rfl) ?_
        refine gk_nil (gk_sub (T' := [(0,_), (2,_), (3,_), (9,_), (10,_), (11,_)]) ⟨rfl, rfl, rfl, rfl, rfl, rfl, trivial⟩ ?_)
        exact gk_next (i + 1, _) ⟨rfl, rfl, rfl, rfl, rfl, rfl, trivial⟩ rfl ⟨by omega, by omega, by rw [hsx, List.length_append]; omega⟩ (by simp only []; omega)
    · have hc12 := of_decide_eq_false hc12
      have hbz := sum_le ls i.toNat
      refine gk_exit rfl ?_
      refine gk_seq ?_
      refine gk_region ?_
      refine gk_y rfl rfl (y_move rfl) ?_
      refine gk_yx rfl rfl (yx_call en124 rfl (fun w hw => growNil_c z w (by omega) (by omega))) fun p24 => ?_
      refine gk_y rfl rfl (y_assign rfl) ?_
      refine gk_nil (gk_sub (T' := [(0,_), (2,_), (6,_)]) ⟨rfl, rfl, rfl, trivial⟩ ?_)
      refine gk_seq ?_
      refine gk_seq ?_
      refine gk_region ?_
      refine gk_y rfl rfl (y_move rfl) ?_
      refine gk_y rfl rfl (y_lenS (Tryz.underlying162) rfl) ?_
      refine gk_y rfl rfl (y_move rfl) ?_
      refine gk_nil (gk_sub (T' := [(2,_), (6,_), (25,_), (26,_), (27,_)]) ⟨rfl, rfl, rfl, rfl, rfl, trivial⟩ ?_)
      refine gk_block ?_
      refine gk_loop (X := Int × Option Addr × Nat × List Pt) (fun ⟨i, b, bc, m⟩ => [(2, .slice none 0 0), (6, .slice b m.length bc), (25, .slice a ls.length cap), (26, .int .i64 (ls.length : Int)), (27, .int .i64 i)]) (fun ⟨i, b, bc, m⟩ => [Row b 2 bc 50 encPt m]) (fun ⟨i, b, bc, m⟩ => (0 ≤ i ∧ i ≤ ls.length ∧ m = (ls.take i.toNat).flatMap Sli.l)) (fun ⟨i, b, bc, m⟩ => (ls.length - i).toNat) (0, p24.1, p24.2, []) ⟨rfl, rfl, rfl, rfl, rfl, trivial⟩ rfl ?_ ?_
      · exact ⟨by omega, by omega, rfl⟩
      · rintro ⟨i, b, bc, m⟩ hI
        obtain ⟨g0, g1, g2⟩ := hI
        refine gk_seq ?_
        refine gk_region ?_
        refine gk_y rfl rfl (y_lss rfl rfl) ?_
        refine gk_nil (gk_sub (T' := [(2,_), (6,_), (25,_), (26,_), (27,_), (28,_)]) ⟨rfl, rfl, rfl, rfl, rfl, rfl, trivial⟩ ?_)
        refine gk_seq ?_
        refine gk_cond rfl (fun hc28 => ?_) (fun hc28 => ?_)
        · have hc28 := of_decide_eq_true hc28
          have hsx := sum_succ (ls := ls) g0 hc28
          have hbx := sum_le ls (i + 1).toNat
          rw [hsx, List.length_append, ← g2] at hbx
          refine gk_skip ?_
          refine gk_seq ?_
          refine gk_block ?_
          refine gk_seq ?_
          refine gk_region ?_
          refine gk_y rfl rfl (y_indexE se162 rfl rfl (fun _ hw => (Rd.has (Has.rd hl) hw)) (by omega) (by omega)) ?_
          refine gk_y rfl rfl (y_loadE1 tf49 rfl (fun _ hw => (Rd.has (Has.rd hl) hw)) (by omega) (by omega) rfl) ?_
          refine gk_y rfl rfl (y_assign rfl) ?_
          refine gk_nil (gk_sub (T' := [(2,_), (6,_), (8,_), (25,_), (26,_), (27,_)]) ⟨rfl, rfl, rfl, rfl, rfl, rfl, trivial⟩ ?_)
          refine gk_region ?_
          refine gk_y rfl rfl (y_move rfl) ?_
          refine gk_y rfl rfl (y_move rfl) ?_
          refine gk_append (m := (ls.getD (i).toNat default).l) 0 af49 encPt_ok rfl rfl rfl rfl (fun _ hw => (Rd.has (Has.rd (hin _ (by omega))) hw)) (by first | omega | (simp only [List.length_cons, List.length_nil]; omega)) (by first | (unfold maxLen; omega) | (simp only [List.length_cons, List.length_nil, maxLen]; omega)) fun a33 c33 => ?_
          refine gk_y rfl rfl (y_assign rfl) ?_
          refine gk_nil (gk_sub (T' := [(2,_), (6,_), (25,_), (26,_), (27,_)]) ⟨rfl, rfl, rfl, rfl, rfl, trivial⟩ ?_)
          refine gk_region ?_
          refine gk_y rfl rfl (y_addI rfl rfl (by omega) (by omega)) ?_
          refine gk_y rfl rfl (y_move rfl) ?_
          refine gk_nil (gk_sub (T' := [(2,_), (6,_), (25,_), (26,_), (27,_)]) ⟨rfl, rfl, rfl, rfl, rfl, trivial⟩ ?_)
          exact gk_next (i + 1, a33, c33, _) ⟨rfl, rfl, rfl, rfl, rfl, trivial⟩ rfl ⟨by omega, by omega, by rw [hsx, ← g2]⟩ (by simp only []; omega)
        · simp only [decide_eq_false_iff_not] at hc28
          refine gk_exit rfl ?_
          refine gk_seq ?_
          refine gk_region ?_
          refine gk_y rfl rfl (y_move rfl) ?_
          refine gk_y rfl rfl (y_assign rfl) ?_
          refine gk_nil (gk_sub (T' := [(2,_)]) ⟨rfl, trivial⟩ ?_)
          obtain rfl : m = ls.flatMap Sli.l := by rw [g2, take_all (by omega)]
          refine gk_ret ?_
          refine gk_gives (b, bc) 0 (rv_one rfl (r1_tmp rfl)) ?_ rfl
          rfl
theorem concat2_c (a : Option Addr) (cap : Nat) (x y : Sli) (w : World) (hl : Has w (Elems a 1 encSli [x, y])) (hx : Has w (Pts x.a x.l)) (hy : Has w (Pts y.a y.l)) (ht : Small (x.l.length + y.l.length)) :
    Calls Tryz.prog 92 #[.slice a 2 cap] w (Gives (fun z : Option Addr × Nat => .slice z.1 (x.l ++ y.l).length z.2) (fun z => Row z.1 2 z.2 50 encPt (x.l ++ y.l)) w) := by
  have h := concat_c a cap [x, y] w hl (two_in hx hy) (by simp [Small]) (by simpa using ht)
  have e : [x, y].flatMap Sli.l = x.l ++ y.l := by simp
  rw [e] at h
  exact h
set_option maxRecDepth 100000 in
set_option maxHeartbeats 1000000 in
theorem settled_c (a : Option Addr) (cap : Nat) (l : List Pt) (w : World) (hl : Has w (Pts a l)) (hs : Small l.length) (h0 : 0 < l.length) (hcap : l.length ≤ cap) :
    Calls Tryz.prog 58 #[.slice a l.length cap] w (Gives (fun z : Option Addr × Nat => .slice z.1 (settledW l).length z.2) (fun z => Row z.1 2 z.2 50 encPt (settledW l)) w) := by
  obtain ⟨f0, f1⟩ := first_in h0
  have f2 : (l.drop (findI (eqB (minF lowerW l)) l).toNat ++ l.take (findI (eqB (minF lowerW l)) l).toNat).length = l.length := rotL_len (Int.le_of_lt f1)
  refine calls_of_gk (vs := [_]) Tryz.func58 rfl rfl (Nat.le_of_ble_eq_true rfl) ?_
  refine gk_seq ?_
  refine gk_region ?_
  refine gk_y rfl rfl (y_assign rfl) ?_
  refine gk_nil (gk_sub (T' := [(0,_), (2,_)]) ⟨rfl, rfl, trivial⟩ ?_)
  refine gk_seq ?_
  refine gk_region ?_
  refine gk_y rfl rfl (y_move rfl) ?_
  refine gk_y rfl rfl (y_call en93 rfl (fun w hw => least_c _ _ l w (Rd.has (Has.rd hl) hw) (by assumption) (by omega))) ?_
  refine gk_yx rfl rfl (yx_alloc tf50 (zs := [_, _]) rfl) fun b3 => ?_
  refine gk_storeV 0 tf50 rfl rfl (vs := [_, _]) rfl rfl rfl rfl rfl ?_
  refine gk_nil (gk_sub (T' := [(0,_), (2,_), (3,_)]) ⟨rfl, rfl, rfl, trivial⟩ ?_)
  refine gk_seq ?_
  refine gk_region ?_
  refine gk_y rfl rfl (y_move rfl) ?_
  refine gk_y rfl rfl (y_move rfl) ?_
  refine gk_y rfl rfl (y_call en94 rfl (fun w hw => minfunc_c _ _ l lowerW _ [] w (Rd.has (Has.rd hl) hw) (by assumption) (by omega) (fun _ => True) (fun _ _ => trivial) en95 (fun p q w _ => lower_c p q w))) ?_
  refine gk_y rfl rfl (y_call en91 rfl (fun w hw => index_c _ _ l (minF lowerW l) w (Rd.has (Has.rd hl) hw) (by assumption))) ?_
  refine gk_y rfl rfl (y_assign rfl) ?_
  refine gk_nil (gk_sub (T' := [(0,_), (2,_), (3,_), (4,_)]) ⟨rfl, rfl, rfl, rfl, trivial⟩ ?_)
  refine gk_seq ?_
  refine gk_any 9 (fun _ => mixed) (by kernel_rfl) ?_
  refine ph_y (y_move rfl) ?_
  refine ph_y (y_move rfl) ?_
  refine ph_y (y_sliceLoL se49 rfl rfl (by omega) (by omega)) ?_
  refine ph_y (y_move rfl) ?_
  refine ph_y (y_move rfl) ?_
  refine ph_y (y_move rfl) ?_
  refine ph_y (y_slice3L se49 rfl rfl rfl (by omega) (by omega) (by omega) (by omega)) ?_
  refine ph_yx (yx_buildSlice rfl (bs162_2 _ _ _ _ _ _) encSli_ok rfl) ?_
  refine ph_yx (fun b20 => yx_call en92 rfl (fun w hw => concat2_c _ _ ⟨_, _, (l.drop (findI (eqB (minF lowerW l)) l).toNat)⟩ ⟨_, _, (l.take (findI (eqB (minF lowerW l)) l).toNat)⟩ w (has_row encSli_ok (hw.has (p := 0) rfl)) (elems_drop (Rd.has (Has.rd hl) hw) hcap (by omega)) (elems_take (Rd.has (Has.rd hl) hw) (by omega) (by omega)) (by simp only [List.length_drop, List.length_take]; omega))) ?_
  intro p21
  intro b20
  refine gk_sub (T' := [(2,_), (3,_), (21,_)]) ⟨rfl, rfl, rfl, trivial⟩ ?_
  refine gk_y rfl rfl (y_assign rfl) ?_
  refine gk_nil (gk_sub (T' := [(2,_), (3,_), (5,_)]) ⟨rfl, rfl, rfl, trivial⟩ ?_)
  refine gk_seq ?_
  refine gk_seq ?_
  refine gk_region ?_
  refine gk_y rfl rfl (y_move rfl) ?_
  refine gk_y rfl rfl (y_lenS (Tryz.underlying49) rfl) ?_
  refine gk_y rfl rfl (y_move rfl) ?_
  refine gk_nil (gk_sub (T' := [(2,_), (3,_), (5,_), (23,_), (24,_)]) ⟨rfl, rfl, rfl, rfl, rfl, trivial⟩ ?_)
  refine gk_block ?_
  refine gk_loop (X := Int × List Pt) (fun ⟨i, m⟩ => [(2, .slice none 0 0), (3, .pointer (some ⟨b3, 0, none⟩)), (5, .slice p21.1 (l.drop (findI (eqB (minF lowerW l)) l).toNat ++ l.take (findI (eqB (minF lowerW l)) l).toNat).length p21.2), (23, .int .i64 ((l.drop (findI (eqB (minF lowerW l)) l).toNat ++ l.take (findI (eqB (minF lowerW l)) l).toNat).length : Int)), (24, .int .i64 i)]) (fun ⟨i, m⟩ => [Row (some ⟨b20, 0, none⟩) 1 2 49 encSli [⟨(subA a 2 (findI (eqB (minF lowerW l)) l).toNat cap), (cap - (findI (eqB (minF lowerW l)) l).toNat), (l.drop (findI (eqB (minF lowerW l)) l).toNat)⟩, ⟨(subA a 2 0 (findI (eqB (minF lowerW l)) l).toNat), (findI (eqB (minF lowerW l)) l).toNat, (l.take (findI (eqB (minF lowerW l)) l).toNat)⟩], Row p21.1 2 p21.2 50 encPt m, Box b3 [.int .i64 ((leastL l).x), .int .i64 ((leastL l).z)] 50]) (fun ⟨i, m⟩ => (0 ≤ i ∧ i ≤ ((l.drop (findI (eqB (minF lowerW l)) l).toNat ++ l.take (findI (eqB (minF lowerW l)) l).toNat).length : Int) ∧ m.length = (l.drop (findI (eqB (minF lowerW l)) l).toNat ++ l.take (findI (eqB (minF lowerW l)) l).toNat).length ∧ m = ((l.drop (findI (eqB (minF lowerW l)) l).toNat ++ l.take (findI (eqB (minF lowerW l)) l).toNat).take i.toNat).map (fun p => subW p (leastL l)) ++ (l.drop (findI (eqB (minF lowerW l)) l).toNat ++ l.take (findI (eqB (minF lowerW l)) l).toNat).drop i.toNat)) (fun ⟨i, m⟩ => (((l.drop (findI (eqB (minF lowerW l)) l).toNat ++ l.take (findI (eqB (minF lowerW l)) l).toNat).length : Int) - i).toNat) (0, (l.drop (findI (eqB (minF lowerW l)) l).toNat ++ l.take (findI (eqB (minF lowerW l)) l).toNat)) ⟨rfl, rfl, rfl, rfl, rfl, trivial⟩ rfl ?_ ?_
  · exact ⟨by omega, by omega, rfl, rfl⟩
  · rintro ⟨i, m⟩ hI
    obtain ⟨g0, g1, g3, g2⟩ := hI
    refine gk_seq ?_
    refine gk_region ?_
    refine gk_y rfl rfl (y_lss rfl rfl) ?_
    refine gk_nil (gk_sub (T' := [(2,_), (3,_), (5,_), (23,_), (24,_), (25,_)]) ⟨rfl, rfl, rfl, rfl, rfl, rfl, trivial⟩ ?_)
    refine gk_seq ?_
    refine gk_cond rfl (fun hc25 => ?_) (fun hc25 => ?_)
    · simp only [decide_eq_true_eq] at hc25
      refine gk_skip ?_
      refine gk_seq ?_
      refine gk_block ?_
      refine gk_seq ?_
      refine gk_region ?_
      refine gk_y rfl rfl (y_move rfl) ?_
      refine gk_y rfl rfl (y_assign rfl) ?_
      refine gk_nil (gk_sub (T' := [(2,_), (3,_), (5,_), (6,_), (23,_), (24,_)]) ⟨rfl, rfl, rfl, rfl, rfl, rfl, trivial⟩ ?_)
      refine gk_any 9 (fun _ => mixed) (by kernel_rfl) ?_
      refine ph_y (y_move rfl) ?_
      refine ph_y (y_move rfl) ?_
      refine ph_y (y_move rfl) ?_
      refine ph_y (y_move rfl) ?_
      refine ph_y (y_indexN se49 rfl rfl (fun _ hw => (has_row encPt_ok (hw.has (p := 1) rfl))) g3 (by omega) (by omega)) ?_
      refine ph_y (y_loadE (vs := [_, _]) tf50 rfl (fun _ hw => (has_row encPt_ok (hw.has (p := 1) rfl))) (by omega) (by omega) rfl) ?_
      refine ph_y (y_loadBA 2 tf50 rfl rfl (vs := [_, _]) rfl rfl) ?_
      refine ph_y (y_call en84 rfl (fun w hw => sub_c ⟨_, _⟩ ⟨_, _⟩ w)) ?_
      refine ph_y (y_indexN se49 rfl rfl (fun _ hw => (has_row encPt_ok (hw.has (p := 1) rfl))) g3 (by omega) (by omega)) ?_
      refine gk_sub (T' := [(2,_), (3,_), (5,_), (23,_), (24,_), (34,_), (35,_)]) ⟨rfl, rfl, rfl, rfl, rfl, rfl, rfl, trivial⟩ ?_
      refine gk_storeE (x' := ⟨((subW (m.getD (i).toNat default) (leastL l)).x), ((subW (m.getD (i).toNat default) (leastL l)).z)⟩) 1 encPt_ok tf50 rfl rfl (vs := [_, _]) rfl rfl rfl (by omega) (by omega) ?_
      refine gk_nil (gk_sub (T' := [(2,_), (3,_), (5,_), (23,_), (24,_)]) ⟨rfl, rfl, rfl, rfl, rfl, trivial⟩ ?_)
      refine gk_region ?_
      refine gk_y rfl rfl (y_addI rfl rfl (by omega) (by omega)) ?_
      refine gk_y rfl rfl (y_move rfl) ?_
      refine gk_nil (gk_sub (T' := [(2,_), (3,_), (5,_), (23,_), (24,_)]) ⟨rfl, rfl, rfl, rfl, rfl, trivial⟩ ?_)
      exact gk_next (i + 1, _) ⟨rfl, rfl, rfl, rfl, rfl, trivial⟩ rfl ⟨by omega, by omega, by rw [List.length_set]; exact g3, map_step g0 (by omega) g2⟩ (by simp only []; omega)
    · simp only [decide_eq_false_iff_not] at hc25
      refine gk_exit rfl ?_
      refine gk_seq ?_
      refine gk_region ?_
      refine gk_y rfl rfl (y_move rfl) ?_
      refine gk_y rfl rfl (y_assign rfl) ?_
      refine gk_nil (gk_sub (T' := [(2,_)]) ⟨rfl, trivial⟩ ?_)
      obtain rfl : m = settledW l := setp_end (o := (l.drop (findI (eqB (minF lowerW l)) l).toNat ++ l.take (findI (eqB (minF lowerW l)) l).toNat)) g2 (by omega)
      refine gk_ret ?_
      refine gk_gives p21 1 (rv_one rfl (r1_tmp rfl)) ?_ rfl
      exact congrArg (fun n => Value.slice _ n _) g3.symm
end Go.Proofs.YtmpaebfjnjmmlaaGreatDoor

namespace Go.Proofs.YtmpaebfjnjmmlaaGreatDoor
open Go.K Go.Stn Go.RowKit
theorem tf4 : TF Tryz.prog 4 false 1 (.bool false) := ⟨by kernel_rfl, by kernel_rfl⟩
theorem en48 : En Tryz.prog 48 := en_of Tryz.func48 (by kernel_rfl) (by kernel_rfl)
theorem en49 : En Tryz.prog 49 := en_of Tryz.func49 (by kernel_rfl) (by kernel_rfl)
theorem en50 : En Tryz.prog 50 := en_of Tryz.func50 (by kernel_rfl) (by kernel_rfl)
theorem en51 : En Tryz.prog 51 := en_of Tryz.func51 (by kernel_rfl) (by kernel_rfl)
theorem en58 : En Tryz.prog 58 := en_of Tryz.func58 (by kernel_rfl) (by kernel_rfl)
theorem en86 : En Tryz.prog 86 := en_of Tryz.func86 (by kernel_rfl) (by kernel_rfl)
theorem bd52_  (w : World) : (Instr.build 52 #[]).run Tryz.prog w = .ok (.agg #[.string ⟨#[]⟩, .slice none 0 0, .int IntKind.i64 0, .int IntKind.i64 0, .int IntKind.i64 0, .int IntKind.i64 0]) w := by kernel_rfl
set_option maxRecDepth 100000 in
set_option maxHeartbeats 1000000 in
theorem edge_c (a : Option Addr) (cap : Nat) (s : Stn) (x : Pt) (w : World) (hl : Has w (Pts a s.shape)) (hs : Small s.shape.length) :
    Calls Tryz.prog 48 #[.agg #[.string s.name, .slice a s.shape.length cap, .int .i64 s.depth, .int .i64 s.density, .int .i64 s.grain.x, .int .i64 s.grain.z], .agg #[.int .i64 x.x, .int .i64 x.z]] w (Pure (.int .i64 (edgeI s.shape x)) w) := by
  refine calls_of_gk (vs := [_, _]) Tryz.func48 rfl rfl (Nat.le_of_ble_eq_true rfl) ?_
  refine gk_seq ?_
  refine gk_region ?_
  refine gk_yx rfl rfl (yx_box (vs := [_, _, _, _, _, _]) rfl rfl) fun b2 => ?_
  refine gk_yx rfl rfl (yx_box (vs := [_, _]) rfl rfl) fun b3 => ?_
  refine gk_yx rfl rfl (yx_alloc tf3 (zs := [_]) rfl) fun b4 => ?_
  refine gk_nil (gk_sub (T' := [(2,_), (3,_), (4,_)]) ⟨rfl, rfl, rfl, trivial⟩ ?_)
  refine gk_seq ?_
  refine gk_seq ?_
  refine gk_any 10 (fun _ => mixed) (by kernel_rfl) ?_
  refine ph_y (y_fieldAddr fo50_0 rfl) ?_
  refine ph_y (y_loadB1 1 tf3 rfl rfl rfl) ?_
  refine ph_y (y_call en55 rfl (fun w hw => within_c _ _ _ w)) ?_
  refine ph_y (y_not rfl) ?_
  refine ph_y (y_move rfl) ?_
  refine ph_gF rfl rfl (fun hgd => by (try rw [hgd]); exact (y_fieldAddr fo50_1 rfl)) ?_
  refine ph_gF rfl rfl (fun hgd => by (try rw [hgd]); exact (y_loadB1 1 tf3 rfl rfl rfl)) ?_
  refine ph_gF rfl rfl (fun hgd => by (try rw [hgd]); exact (y_call (v := .bool (decide (0 ≤ x.z) && decide (x.z ≤ 2000))) en55 rfl (fun w hw => within_c _ _ _ w))) ?_
  refine ph_gF rfl rfl (fun hgd => by (try rw [hgd]); exact (y_not rfl)) ?_
  refine ph_y (y_pickOr rfl rfl rfl) ?_
  refine gk_nil (gk_sub (T' := [(2,_), (3,_), (4,_), (18,_)]) ⟨rfl, rfl, rfl, rfl, trivial⟩ ?_)
  refine gk_cond rfl (fun hc18 => ?_) (fun hc18 => ?_)
  · skip
    refine gk_seq ?_
    refine gk_region ?_
    refine gk_storeV 0 tf3 rfl rfl (vs := [_]) rfl rfl rfl rfl rfl ?_
    refine gk_nil (gk_sub (T' := [(2,_), (3,_), (4,_)]) ⟨rfl, rfl, rfl, trivial⟩ ?_)
    refine gk_ret ?_
    refine gk_pure (rv_one rfl (r1_cell1 (i := 0) tf3 rfl rfl rfl)) ?_
    rw [edgeI, if_pos (show farB x = true from hc18)]
  · skip
    refine gk_skip ?_
    refine gk_seq ?_
    refine gk_region ?_
    refine gk_yx rfl rfl (yx_alloc tf3 (zs := [_]) rfl) fun b5 => ?_
    refine gk_storeV 0 tf3 rfl rfl (vs := [_]) rfl rfl rfl rfl rfl ?_
    refine gk_nil (gk_sub (T' := [(2,_), (3,_), (4,_), (5,_)]) ⟨rfl, rfl, rfl, rfl, trivial⟩ ?_)
    refine gk_seq ?_
    refine gk_seq ?_
    refine gk_region ?_
    refine gk_y rfl rfl (y_fieldAddr fo52_1 rfl) ?_
    refine gk_y rfl rfl (y_loadB1 3 tf49 rfl rfl rfl) ?_
    refine gk_yx rfl rfl (yx_call en83 rfl (fun w hw => edges_c _ _ s.shape w)) fun p21 => ?_
    refine gk_nil (gk_sub (T' := [(3,_), (4,_), (5,_), (21,_)]) ⟨rfl, rfl, rfl, rfl, trivial⟩ ?_)
    refine gk_block ?_
    refine gk_sub (T' := [(3,_), (4,_), (5,_), (21,_)]) ⟨rfl, rfl, rfl, rfl, trivial⟩ ?_
    refine gk_rangeFunc (X := Int × Int) (fun ⟨i, r⟩ => [Box p21 [.slice a s.shape.length cap] 49, Box b5 [.int .i64 i] 3, Box b4 [.int .i64 r] 3, Box b3 [.int .i64 x.x, .int .i64 x.z] 50, Box b2 [.string s.name, .slice a s.shape.length cap, .int .i64 s.depth, .int .i64 s.density, .int .i64 s.grain.x, .int .i64 s.grain.z] 52]) (fun n ⟨i, r⟩ => i = (n : Int) ∧ r = 0 ∧ ∀ j e, j < n → (edgesL s.shape)[j]? = some e → onE x e = false) (fun ⟨i, r⟩ => r = findI (onE x) (edgesL s.shape)) [] (0, 0) rfl en123 rfl rfl ⟨rfl, rfl, fun j e hj => absurd hj (by omega)⟩ (edges1_c _ _ s.shape _ (by assumption)) (fun ⟨i, r⟩ w hw => ⟨hw.has (p := 0) rfl, (Rd.has (Has.rd hl) hw)⟩) (edges_two _) rfl ?_ ?_ ?_ ?_
    · rintro R1 R2 rl U' w' n ⟨i, r⟩ args hget hR hrd hins hbeg
      obtain ⟨e, he, rfl⟩ := edge_inv hget
      obtain ⟨hi1, hr1, hN⟩ := hR
      have hn := edge_n he
      refine gk_sub (T' := [(3,_), (4,_), (5,_), (22,_), (23,_)]) ⟨rfl, rfl, rfl, rfl, rfl, trivial⟩ ?_
      refine gk_seq ?_
      refine gk_region ?_
      refine gk_yx rfl rfl (yx_alloc tf50 (zs := [_, _]) rfl) fun b6 => ?_
      refine gk_storeV 0 tf50 rfl rfl (vs := [_, _]) rfl rfl rfl rfl rfl ?_
      refine gk_nil (gk_sub (T' := [(3,_), (4,_), (5,_), (6,_), (23,_)]) ⟨rfl, rfl, rfl, rfl, rfl, trivial⟩ ?_)
      refine gk_region ?_
      refine gk_yx rfl rfl (yx_alloc tf50 (zs := [_, _]) rfl) fun b7 => ?_
      refine gk_storeV 0 tf50 rfl rfl (vs := [_, _]) rfl rfl rfl rfl rfl ?_
      refine gk_nil (gk_sub (T' := [(3,_), (4,_), (5,_), (6,_), (7,_)]) ⟨rfl, rfl, rfl, rfl, rfl, trivial⟩ ?_)
      refine gk_front 2 rfl ?_
      refine hbeg _ _ _ ?_
      refine gk_block ?_
      refine gk_seq ?_
      refine gk_region ?_
      refine gk_y rfl rfl (y_loadBA 6 tf50 rfl rfl (vs := [_, _]) rfl rfl) ?_
      refine gk_y rfl rfl (y_loadBA 2 tf50 rfl rfl (vs := [_, _]) rfl rfl) ?_
      refine gk_y rfl rfl (y_call en84 rfl (fun w hw => sub_c ⟨_, _⟩ ⟨_, _⟩ w)) ?_
      refine gk_yx rfl rfl (yx_alloc tf50 (zs := [_, _]) rfl) fun b8 => ?_
      refine gk_storeV 0 tf50 rfl rfl (vs := [_, _]) rfl rfl rfl rfl rfl ?_
      refine gk_nil (gk_sub (T' := [(4,_), (5,_), (6,_), (7,_), (8,_)]) ⟨rfl, rfl, rfl, rfl, rfl, trivial⟩ ?_)
      refine gk_seq ?_
      refine gk_seq ?_
      refine gk_any 27 (fun _ => mixed) (by kernel_rfl) ?_
      refine ph_y (y_loadBA 2 tf50 rfl rfl (vs := [_, _]) rfl rfl) ?_
      refine ph_y (y_loadBA 3 tf50 rfl rfl (vs := [_, _]) rfl rfl) ?_
      refine ph_y (y_call en84 rfl (fun w hw => sub_c ⟨_, _⟩ ⟨_, _⟩ w)) ?_
      refine ph_y (y_loadBA 0 tf50 rfl rfl (vs := [_, _]) rfl rfl) ?_
      refine ph_y (y_call en85 rfl (fun w hw => cross_c ⟨_, _⟩ ⟨_, _⟩ w)) ?_
      refine ph_y (y_eql rfl rfl) ?_
      refine ph_y (y_move rfl) ?_
      refine ph_gT rfl rfl (fun hgd => by (try rw [hgd]); exact (y_loadBA 0 tf50 rfl rfl (vs := [_, _]) rfl rfl)) ?_
      refine ph_gT rfl rfl (fun hgd => by (try rw [hgd]); exact (y_loadBA 2 tf50 rfl rfl (vs := [_, _]) rfl rfl)) ?_
      refine ph_gT rfl rfl (fun hgd => by (try rw [hgd]); exact (y_loadBA 3 tf50 rfl rfl (vs := [_, _]) rfl rfl)) ?_
      refine ph_gT rfl rfl (fun hgd => by (try rw [hgd]); exact (y_call (v := .agg #[.int .i64 ((subW e.2 e.1).x), .int .i64 ((subW e.2 e.1).z)]) en84 rfl (fun w hw => sub_c ⟨_, _⟩ ⟨_, _⟩ w))) ?_
      refine ph_gT rfl rfl (fun hgd => by (try rw [hgd]); exact (y_call (v := .int .i64 (dotW (subW x e.1) (subW e.2 e.1))) en86 rfl (fun w hw => dot_c ⟨_, _⟩ ⟨_, _⟩ w))) ?_
      refine ph_gT rfl rfl (fun hgd => by (try rw [hgd]); exact (y_geq rfl rfl)) ?_
      refine ph_y (y_pickAnd rfl rfl rfl) ?_
      refine ph_y (y_move rfl) ?_
      refine ph_gT rfl rfl (fun hgd => by (try rw [hgd]); exact (y_loadBA 0 tf50 rfl rfl (vs := [_, _]) rfl rfl)) ?_
      refine ph_gT rfl rfl (fun hgd => by (try rw [hgd]); exact (y_loadBA 0 tf50 rfl rfl (vs := [_, _]) rfl rfl)) ?_
      refine ph_gT rfl rfl (fun hgd => by (try rw [hgd]); exact (y_call (v := .int .i64 (dotW (subW x e.1) (subW x e.1))) en86 rfl (fun w hw => dot_c ⟨_, _⟩ ⟨_, _⟩ w))) ?_
      refine ph_gT rfl rfl (fun hgd => by (try rw [hgd]); exact (y_loadBA 2 tf50 rfl rfl (vs := [_, _]) rfl rfl)) ?_
      refine ph_gT rfl rfl (fun hgd => by (try rw [hgd]); exact (y_loadBA 3 tf50 rfl rfl (vs := [_, _]) rfl rfl)) ?_
      refine ph_gT rfl rfl (fun hgd => by (try rw [hgd]); exact (y_call (v := .agg #[.int .i64 ((subW e.2 e.1).x), .int .i64 ((subW e.2 e.1).z)]) en84 rfl (fun w hw => sub_c ⟨_, _⟩ ⟨_, _⟩ w))) ?_
      refine ph_gT rfl rfl (fun hgd => by (try rw [hgd]); exact (y_loadBA 2 tf50 rfl rfl (vs := [_, _]) rfl rfl)) ?_
      refine ph_gT rfl rfl (fun hgd => by (try rw [hgd]); exact (y_loadBA 3 tf50 rfl rfl (vs := [_, _]) rfl rfl)) ?_
      refine ph_gT rfl rfl (fun hgd => by (try rw [hgd]); exact (y_call (v := .agg #[.int .i64 ((subW e.2 e.1).x), .int .i64 ((subW e.2 e.1).z)]) en84 rfl (fun w hw => sub_c ⟨_, _⟩ ⟨_, _⟩ w))) ?_
      refine ph_gT rfl rfl (fun hgd => by (try rw [hgd]); exact (y_call (v := .int .i64 (dotW (subW e.2 e.1) (subW e.2 e.1))) en86 rfl (fun w hw => dot_c ⟨_, _⟩ ⟨_, _⟩ w))) ?_
      refine ph_gT rfl rfl (fun hgd => by (try rw [hgd]); exact (y_lss rfl rfl)) ?_
      refine ph_y (y_pickAnd rfl rfl rfl) ?_
      refine gk_nil (gk_sub (T' := [(4,_), (5,_), (53,_)]) ⟨rfl, rfl, rfl, trivial⟩ ?_)
      refine gk_cond rfl (fun hc53 => ?_) (fun hc53 => ?_)
      · skip
        refine gk_seq ?_
        refine gk_region ?_
        refine gk_y rfl rfl (y_loadB1 5 tf3 rfl rfl rfl) ?_
        refine gk_storeV 6 tf3 rfl rfl (vs := [_]) rfl rfl rfl rfl rfl ?_
        refine gk_nil (gk_sub (T' := [(4,_), (5,_)]) ⟨rfl, rfl, trivial⟩ ?_)
        refine gk_ret ?_
        refine gk_dropAt 0 rfl ?_
        refine gk_dropAt 1 rfl ?_
        refine gk_dropAt 1 rfl ?_
        exact gk_joined (i, i) trivial rfl (by show i = _; rw [hi1]; exact (findI_at he hN hc53).symm)
      · skip
        refine gk_skip ?_
        refine gk_region ?_
        refine gk_y rfl rfl (y_loadB1 5 tf3 rfl rfl rfl) ?_
        refine gk_y rfl rfl (y_addI rfl rfl (by omega) (by omega)) ?_
        refine gk_storeV 5 tf3 rfl rfl (vs := [_]) rfl rfl rfl rfl rfl ?_
        refine gk_nil (gk_sub (T' := [(4,_)]) ⟨rfl, trivial⟩ ?_)
        refine gk_dropAt 0 rfl ?_
        refine gk_dropAt 1 rfl ?_
        refine gk_dropAt 1 rfl ?_
        exact gk_joined (i + 1, r) trivial rfl ⟨by omega, hr1, none_succ he hN hc53⟩
    · rintro Dm ⟨i, r⟩ hR
      obtain ⟨hi1, hr1, hN⟩ := hR
      refine gk_seq ?_
      refine gk_region ?_
      refine gk_storeV 3 tf3 rfl rfl (vs := [_]) rfl rfl rfl rfl rfl ?_
      refine gk_nil (gk_sub (T' := [(4,_)]) ⟨rfl, trivial⟩ ?_)
      refine gk_ret ?_
      refine gk_unmark 0 rfl ?_
      refine gk_pure (rv_one rfl (r1_cell1 (i := 2) tf3 rfl rfl rfl)) ?_
      rw [edgeI, if_neg (show ¬ farB x = true by rw [show farB x = false from hc18]; exact Bool.false_ne_true), findI_no (fun j e hj => hN j e (by simpa [edgeVs] using hj))]
    · rintro Dm ⟨i, r⟩ hD
      refine gk_unmark 0 rfl ?_
      refine gk_pure (rv_one rfl (r1_cell1 (i := 2) tf3 rfl rfl rfl)) ?_
      rw [edgeI, if_neg (show ¬ farB x = true by rw [show farB x = false from hc18]; exact Bool.false_ne_true), hD]
    · exact fun _ _ _ _ h => absurd h (by simp)
set_option maxRecDepth 100000 in
set_option maxHeartbeats 1000000 in
theorem apart_c (a : Option Addr) (cap : Nat) (s : Stn) (p q : Pt) (w : World) (hl : Has w (Pts a s.shape)) (hs : Small s.shape.length) :
    Calls Tryz.prog 49 #[.agg #[.string s.name, .slice a s.shape.length cap, .int .i64 s.depth, .int .i64 s.density, .int .i64 s.grain.x, .int .i64 s.grain.z], .agg #[.int .i64 p.x, .int .i64 p.z], .agg #[.int .i64 q.x, .int .i64 q.z]] w (Pure (.bool (apartB s.shape p q)) w) := by
  refine calls_of_gk (vs := [_, _, _]) Tryz.func49 rfl rfl (Nat.le_of_ble_eq_true rfl) ?_
  refine gk_seq ?_
  refine gk_region ?_
  refine gk_yx rfl rfl (yx_box (vs := [_, _, _, _, _, _]) rfl rfl) fun b3 => ?_
  refine gk_yx rfl rfl (yx_box (vs := [_, _]) rfl rfl) fun b4 => ?_
  refine gk_yx rfl rfl (yx_box (vs := [_, _]) rfl rfl) fun b5 => ?_
  refine gk_yx rfl rfl (yx_alloc tf4 (zs := [_]) rfl) fun b6 => ?_
  refine gk_nil (gk_sub (T' := [(3,_), (4,_), (5,_), (6,_)]) ⟨rfl, rfl, rfl, rfl, trivial⟩ ?_)
  refine gk_seq ?_
  refine gk_seq ?_
  refine gk_region ?_
  refine gk_y rfl rfl (y_fieldAddr fo52_1 rfl) ?_
  refine gk_y rfl rfl (y_loadB1 3 tf49 rfl rfl rfl) ?_
  refine gk_yx rfl rfl (yx_call en83 rfl (fun w hw => edges_c _ _ s.shape w)) fun p11 => ?_
  refine gk_nil (gk_sub (T' := [(4,_), (5,_), (6,_), (11,_)]) ⟨rfl, rfl, rfl, rfl, trivial⟩ ?_)
  refine gk_block ?_
  refine gk_sub (T' := [(4,_), (5,_), (6,_), (11,_)]) ⟨rfl, rfl, rfl, rfl, trivial⟩ ?_
  refine gk_rangeFunc (X := Bool) (fun r => [Box p11 [.slice a s.shape.length cap] 49, Box b6 [.bool r] 4, Box b5 [.int .i64 q.x, .int .i64 q.z] 50, Box b4 [.int .i64 p.x, .int .i64 p.z] 50, Box b3 [.string s.name, .slice a s.shape.length cap, .int .i64 s.depth, .int .i64 s.density, .int .i64 s.grain.x, .int .i64 s.grain.z] 52]) (fun n r => r = false ∧ ∀ j e, j < n → (edgesL s.shape)[j]? = some e → both0 p q e = false) (fun r => r = false ∧ apartB s.shape p q = false) [] false rfl en123 rfl rfl ⟨rfl, fun j e hj => absurd hj (by omega)⟩ (edges1_c _ _ s.shape _ (by assumption)) (fun r w hw => ⟨hw.has (p := 0) rfl, (Rd.has (Has.rd hl) hw)⟩) (edges_two _) rfl ?_ ?_ ?_ ?_
  · rintro R1 R2 rl U' w' n r args hget hR hrd hins hbeg
    obtain ⟨e, he, rfl⟩ := edge_inv hget
    obtain ⟨hr1, hN⟩ := hR
    refine gk_sub (T' := [(4,_), (5,_), (6,_), (12,_), (13,_)]) ⟨rfl, rfl, rfl, rfl, rfl, trivial⟩ ?_
    refine gk_seq ?_
    refine gk_region ?_
    refine gk_yx rfl rfl (yx_alloc tf50 (zs := [_, _]) rfl) fun b7 => ?_
    refine gk_storeV 0 tf50 rfl rfl (vs := [_, _]) rfl rfl rfl rfl rfl ?_
    refine gk_nil (gk_sub (T' := [(4,_), (5,_), (6,_), (7,_), (13,_)]) ⟨rfl, rfl, rfl, rfl, rfl, trivial⟩ ?_)
    refine gk_region ?_
    refine gk_yx rfl rfl (yx_alloc tf50 (zs := [_, _]) rfl) fun b8 => ?_
    refine gk_storeV 0 tf50 rfl rfl (vs := [_, _]) rfl rfl rfl rfl rfl ?_
    refine gk_nil (gk_sub (T' := [(4,_), (5,_), (6,_), (7,_), (8,_)]) ⟨rfl, rfl, rfl, rfl, rfl, trivial⟩ ?_)
    refine gk_front 2 rfl ?_
    refine hbeg _ _ _ ?_
    refine gk_block ?_
    refine gk_seq ?_
    refine gk_any 12 (fun _ => mixed) (by kernel_rfl) ?_
    refine ph_y (y_loadBA 2 tf50 rfl rfl (vs := [_, _]) rfl rfl) ?_
    refine ph_y (y_loadBA 1 tf50 rfl rfl (vs := [_, _]) rfl rfl) ?_
    refine ph_y (y_loadBA 6 tf50 rfl rfl (vs := [_, _]) rfl rfl) ?_
    refine ph_y (y_call en87 rfl (fun w hw => turn_c ⟨_, _⟩ ⟨_, _⟩ ⟨_, _⟩ w)) ?_
    refine ph_y (y_eql rfl rfl) ?_
    refine ph_y (y_move rfl) ?_
    refine ph_gT rfl rfl (fun hgd => by (try rw [hgd]); exact (y_loadBA 2 tf50 rfl rfl (vs := [_, _]) rfl rfl)) ?_
    refine ph_gT rfl rfl (fun hgd => by (try rw [hgd]); exact (y_loadBA 1 tf50 rfl rfl (vs := [_, _]) rfl rfl)) ?_
    refine ph_gT rfl rfl (fun hgd => by (try rw [hgd]); exact (y_loadBA 5 tf50 rfl rfl (vs := [_, _]) rfl rfl)) ?_
    refine ph_gT rfl rfl (fun hgd => by (try rw [hgd]); exact (y_call (v := .int .i64 (turnW e.1 e.2 q)) en87 rfl (fun w hw => turn_c ⟨_, _⟩ ⟨_, _⟩ ⟨_, _⟩ w))) ?_
    refine ph_gT rfl rfl (fun hgd => by (try rw [hgd]); exact (y_eql rfl rfl)) ?_
    refine ph_y (y_pickAnd rfl rfl rfl) ?_
    refine gk_nil (gk_sub (T' := [(6,_), (25,_)]) ⟨rfl, rfl, trivial⟩ ?_)
    refine gk_cond rfl (fun hc25 => ?_) (fun hc25 => ?_)
    · skip
      refine gk_seq ?_
      refine gk_region ?_
      refine gk_storeV 4 tf4 rfl rfl (vs := [_]) rfl rfl rfl rfl rfl ?_
      refine gk_nil (gk_sub (T' := [(6,_)]) ⟨rfl, trivial⟩ ?_)
      refine gk_ret ?_
      refine gk_dropAt 1 rfl ?_
      refine gk_dropAt 1 rfl ?_
      exact gk_joined false trivial rfl ⟨rfl, apart_no he hc25⟩
    · skip
      refine gk_skip ?_
      refine gk_dropAt 1 rfl ?_
      refine gk_dropAt 1 rfl ?_
      exact gk_joined r trivial rfl ⟨hr1, none_succ he hN hc25⟩
  · intro Dm r hR
    obtain ⟨hr1, hN⟩ := hR
    refine gk_seq ?_
    refine gk_region ?_
    refine gk_storeV 2 tf4 rfl rfl (vs := [_]) rfl rfl rfl rfl rfl ?_
    refine gk_nil (gk_sub (T' := [(6,_)]) ⟨rfl, trivial⟩ ?_)
    refine gk_ret ?_
    refine gk_unmark 0 rfl ?_
    refine gk_pure (rv_one rfl (r1_cell1 (i := 1) tf4 rfl rfl rfl)) ?_
    rw [apart_yes (fun j e hj => hN j e (by simpa [edgeVs] using hj))]
  · rintro Dm r hD
    refine gk_unmark 0 rfl ?_
    refine gk_pure (rv_one rfl (r1_cell1 (i := 1) tf4 rfl rfl rfl)) ?_
    rw [hD.1, hD.2]
  · exact fun _ _ _ _ h => absurd h (by simp)
set_option maxRecDepth 100000 in
set_option maxHeartbeats 1000000 in
theorem right_c (a : Option Addr) (cap : Nat) (s : Stn) (p q : Pt) (w : World) (hl : Has w (Pts a s.shape)) (hs : Small s.shape.length) (h1 : 0 ≤ edgeI s.shape p) (h2 : 0 ≤ edgeI s.shape q) :
    Calls Tryz.prog 50 #[.agg #[.string s.name, .slice a s.shape.length cap, .int .i64 s.depth, .int .i64 s.density, .int .i64 s.grain.x, .int .i64 s.grain.z], .agg #[.int .i64 p.x, .int .i64 p.z], .agg #[.int .i64 q.x, .int .i64 q.z]] w (Gives (fun z : Option Addr × Nat => .slice z.1 (rightL s.shape p q).length z.2) (fun z => Row z.1 2 z.2 50 encPt (rightL s.shape p q)) w) := by
  have a1 := edge_lt (l := s.shape) (x := p)
  have a2 := edge_lt (l := s.shape) (x := q)
  have a3 := rightT_le h1 h2
  have a4 : 0 < s.shape.length := by omega
  refine calls_of_gk (vs := [_, _, _]) Tryz.func50 rfl rfl (Nat.le_of_ble_eq_true rfl) ?_
  refine gk_seq ?_
  refine gk_region ?_
  refine gk_yx rfl rfl (yx_box (vs := [_, _, _, _, _, _]) rfl rfl) fun b3 => ?_
  refine gk_yx rfl rfl (yx_box (vs := [_, _]) rfl rfl) fun b4 => ?_
  refine gk_yx rfl rfl (yx_box (vs := [_, _]) rfl rfl) fun b5 => ?_
  refine gk_y rfl rfl (y_assign rfl) ?_
  refine gk_nil (gk_sub (T' := [(3,_), (4,_), (5,_), (6,_)]) ⟨rfl, rfl, rfl, rfl, trivial⟩ ?_)
  refine gk_seq ?_
  refine gk_region ?_
  refine gk_y rfl rfl (y_loadBA 1 tf50 rfl rfl (vs := [_, _]) rfl rfl) ?_
  refine gk_yx rfl rfl (yx_buildSlice rfl (bs49_1 _ _) encPt_ok rfl) fun b11 => ?_
  refine gk_y rfl rfl (y_assign rfl) ?_
  refine gk_nil (gk_sub (T' := [(3,_), (4,_), (5,_), (6,_), (7,_)]) ⟨rfl, rfl, rfl, rfl, rfl, trivial⟩ ?_)
  refine gk_seq ?_
  refine gk_region ?_
  refine gk_y rfl rfl (y_loadBA 3 tf52 rfl rfl (vs := [_, _, _, _, _, _]) rfl rfl) ?_
  refine gk_y rfl rfl (y_loadBA 2 tf50 rfl rfl (vs := [_, _]) rfl rfl) ?_
  refine gk_y rfl rfl (y_call en48 rfl (fun w hw => edge_c _ _ s p w (Rd.has (Has.rd hl) hw) (by assumption))) ?_
  refine gk_y rfl rfl (y_addI rfl rfl (by omega) (by omega)) ?_
  refine gk_y rfl rfl (y_assign rfl) ?_
  refine gk_nil (gk_sub (T' := [(3,_), (5,_), (6,_), (7,_), (8,_)]) ⟨rfl, rfl, rfl, rfl, rfl, trivial⟩ ?_)
  refine gk_block ?_
  refine gk_loop (X := Nat × Int × Option Addr × Nat × List Pt) (fun ⟨m, i, b, bc, o⟩ => [(3, .pointer (some ⟨b3, 0, none⟩)), (5, .pointer (some ⟨b5, 0, none⟩)), (6, .slice none 0 0), (7, .slice b o.length bc), (8, .int .i64 i)]) (fun ⟨m, i, b, bc, o⟩ => [Row b 2 bc 50 encPt o, Box b5 [.int .i64 q.x, .int .i64 q.z] 50, Box b4 [.int .i64 p.x, .int .i64 p.z] 50, Box b3 [.string s.name, .slice a s.shape.length cap, .int .i64 s.depth, .int .i64 s.density, .int .i64 s.grain.x, .int .i64 s.grain.z] 52]) (fun ⟨m, i, b, bc, o⟩ => (m ≤ rightT s.shape p q ∧ i = edgeI s.shape p + 1 + (m : Int) ∧ o.length ≤ m + 1 ∧ rightL s.shape p q = o ++ rightN s.shape q (rightT s.shape p q - m) i)) (fun ⟨m, i, b, bc, o⟩ => rightT s.shape p q - m) (0, edgeI s.shape p + 1, (some ⟨b11, 0, none⟩), 1, [p]) ⟨rfl, rfl, rfl, rfl, rfl, trivial⟩ rfl ?_ ?_
  · exact ⟨by omega, by omega, by simp, rfl⟩
  · rintro ⟨m, i, b, bc, o⟩ hI
    obtain ⟨g0, g1, g2, g3⟩ := hI
    refine gk_seq ?_
    refine gk_block ?_
    refine gk_seq ?_
    refine gk_region ?_
    refine gk_y rfl rfl (y_fieldAddr fo52_1 rfl) ?_
    refine gk_y rfl rfl (y_loadB1 3 tf49 rfl rfl rfl) ?_
    refine gk_y rfl rfl (y_move rfl) ?_
    refine gk_y rfl rfl (y_call en88 rfl (fun w hw => at_c _ _ s.shape i w (Rd.has (Has.rd hl) hw) (by assumption) (by omega) (by omega) (by omega))) ?_
    refine gk_yx rfl rfl (yx_alloc tf50 (zs := [_, _]) rfl) fun b9 => ?_
    refine gk_storeV 0 tf50 rfl rfl (vs := [_, _]) rfl rfl rfl rfl rfl ?_
    refine gk_nil (gk_sub (T' := [(3,_), (5,_), (6,_), (7,_), (8,_), (9,_)]) ⟨rfl, rfl, rfl, rfl, rfl, rfl, trivial⟩ ?_)
    refine gk_seq ?_
    refine gk_seq ?_
    refine gk_any 19 (fun _ => mixed) (by kernel_rfl) ?_
    refine ph_y (y_loadBA 0 tf50 rfl rfl (vs := [_, _]) rfl rfl) ?_
    refine ph_y (y_loadBA 2 tf50 rfl rfl (vs := [_, _]) rfl rfl) ?_
    refine ph_y (y_eql50 rfl rfl) ?_
    refine ph_y (y_move rfl) ?_
    refine ph_gF rfl rfl (fun hgd => by (try rw [hgd]); exact (y_loadBA 4 tf52 rfl rfl (vs := [_, _, _, _, _, _]) rfl rfl)) ?_
    refine ph_gF rfl rfl (fun hgd => by (try rw [hgd]); exact (y_loadBA 2 tf50 rfl rfl (vs := [_, _]) rfl rfl)) ?_
    refine ph_gF rfl rfl (fun hgd => by (try rw [hgd]); exact (y_call (v := .int .i64 (edgeI s.shape q)) en48 rfl (fun w hw => edge_c _ _ s q w (Rd.has (Has.rd hl) hw) (by assumption)))) ?_
    refine ph_gF rfl rfl (fun hgd => by (try rw [hgd]); exact (y_move rfl)) ?_
    refine ph_gF rfl rfl (fun hgd => by (try rw [hgd]); exact (y_subI rfl rfl (by omega) (by omega))) ?_
    refine ph_gF rfl rfl (fun hgd => by (try rw [hgd]); exact (y_fieldAddr fo52_1 rfl)) ?_
    refine ph_gF rfl rfl (fun hgd => by (try rw [hgd]); exact (y_loadB1 4 tf49 rfl rfl rfl)) ?_
    refine ph_gF rfl rfl (fun hgd => by (try rw [hgd]); exact (y_lenS (Tryz.underlying49) rfl)) ?_
    refine ph_gF rfl rfl (fun hgd => by (try rw [hgd]); exact (y_addI rfl rfl (by omega) (by omega))) ?_
    refine ph_gF rfl rfl (fun hgd => by (try rw [hgd]); exact (y_fieldAddr fo52_1 rfl)) ?_
    refine ph_gF rfl rfl (fun hgd => by (try rw [hgd]); exact (y_loadB1 4 tf49 rfl rfl rfl)) ?_
    refine ph_gF rfl rfl (fun hgd => by (try rw [hgd]); exact (y_lenS (Tryz.underlying49) rfl)) ?_
    refine ph_gF rfl rfl (fun hgd => by (try rw [hgd]); exact (y_rem rfl rfl (by omega))) ?_
    refine ph_gF rfl rfl (fun hgd => by (try rw [hgd]); exact (y_eql rfl rfl)) ?_
    refine ph_y (y_pickOr rfl rfl rfl) ?_
    refine gk_nil (gk_sub (T' := [(3,_), (5,_), (6,_), (7,_), (8,_), (9,_), (40,_)]) ⟨rfl, rfl, rfl, rfl, rfl, rfl, rfl, trivial⟩ ?_)
    refine gk_cond rfl (fun hc40 => ?_) (fun hc40 => ?_)
    · have hfin := right_stop h1 h2 g0 g1 g3 hc40
      refine gk_seq ?_
      refine gk_region ?_
      refine gk_y rfl rfl (y_move rfl) ?_
      refine gk_y rfl rfl (y_loadBA 2 tf50 rfl rfl (vs := [_, _]) rfl rfl) ?_
      refine gk_yx rfl rfl (yx_buildSlice rfl (bs49_1 _ _) encPt_ok rfl) fun b43 => ?_
      refine gk_append (m := [⟨q.x, q.z⟩]) 2 af49 encPt_ok rfl rfl rfl rfl (fun _ hw => (has_row encPt_ok (hw.has (p := 0) rfl))) (by first | omega | (simp only [List.length_cons, List.length_nil]; omega)) (by first | (unfold maxLen; omega) | (simp only [List.length_cons, List.length_nil, maxLen]; omega)) fun a44 c44 => ?_
      refine gk_y rfl rfl (y_assign rfl) ?_
      refine gk_nil (gk_sub (T' := [(3,_), (5,_), (6,_), (7,_), (8,_), (9,_)]) ⟨rfl, rfl, rfl, rfl, rfl, rfl, trivial⟩ ?_)
      refine gk_ret ?_
      refine gk_gives (a44, c44) 2 (rv_one rfl (r1_tmp rfl)) ?_ (by rw [← hfin]; rfl)
      rw [← hfin]
    · have hgo := right_go h1 h2 g0 g1 g3 hc40
      refine gk_skip ?_
      refine gk_region ?_
      refine gk_y rfl rfl (y_move rfl) ?_
      refine gk_y rfl rfl (y_loadBA 0 tf50 rfl rfl (vs := [_, _]) rfl rfl) ?_
      refine gk_yx rfl rfl (yx_buildSlice rfl (bs49_1 _ _) encPt_ok rfl) fun b47 => ?_
      refine gk_append (m := [⟨((atL s.shape i).x), ((atL s.shape i).z)⟩]) 2 af49 encPt_ok rfl rfl rfl rfl (fun _ hw => (has_row encPt_ok (hw.has (p := 0) rfl))) (by first | omega | (simp only [List.length_cons, List.length_nil]; omega)) (by first | (unfold maxLen; omega) | (simp only [List.length_cons, List.length_nil, maxLen]; omega)) fun a48 c48 => ?_
      refine gk_y rfl rfl (y_assign rfl) ?_
      refine gk_nil (gk_sub (T' := [(3,_), (5,_), (6,_), (7,_), (8,_)]) ⟨rfl, rfl, rfl, rfl, rfl, trivial⟩ ?_)
      refine gk_region ?_
      refine gk_y rfl rfl (y_move rfl) ?_
      refine gk_y rfl rfl (y_addI rfl rfl (by omega) (by omega)) ?_
      refine gk_y rfl rfl (y_assign rfl) ?_
      refine gk_nil (gk_sub (T' := [(3,_), (5,_), (6,_), (7,_), (8,_)]) ⟨rfl, rfl, rfl, rfl, rfl, trivial⟩ ?_)
      refine gk_dropAt 0 rfl ?_
      refine gk_dropAt 0 rfl ?_
      exact gk_next (m + 1, i + 1, a48, c48, _) ⟨rfl, rfl, rfl, rfl, rfl, trivial⟩ rfl ⟨hgo.1, by omega, by rw [List.length_append]; simp only [List.length_cons, List.length_nil]; omega, hgo.2⟩ (by have := hgo.1; simp only []; omega)
set_option maxRecDepth 100000 in
set_option maxHeartbeats 1000000 in
theorem piece_c (a : Option Addr) (cap : Nat) (s : Stn) (c : ByteArray) (a2 : Option Addr) (cap2 : Nat) (l : List Pt) (w : World) (hl2 : Has w (Pts a2 l)) (hs2 : Small l.length) (h0 : 0 < l.length) (hcap : l.length ≤ cap2) (hn : s.name.size + c.size ≤ 4096) :
    Calls Tryz.prog 51 #[.agg #[.string s.name, .slice a s.shape.length cap, .int .i64 s.depth, .int .i64 s.density, .int .i64 s.grain.x, .int .i64 s.grain.z], .string c, .slice a2 l.length cap2] w (Gives (fun z : Option Addr × Nat => stnV (pieceW s c l) z.1 z.2) (fun z => Row z.1 2 z.2 50 encPt (pieceW s c l).shape) w) := by
  refine calls_of_gk (vs := [_, _, _]) Tryz.func51 rfl rfl (Nat.le_of_ble_eq_true rfl) ?_
  refine gk_seq ?_
  refine gk_region ?_
  refine gk_yx rfl rfl (yx_box (vs := [_, _, _, _, _, _]) rfl rfl) fun b3 => ?_
  refine gk_yx rfl rfl (yx_alloc tf52 (zs := [_, _, _, _, _, _]) rfl) fun b6 => ?_
  refine gk_nil (gk_sub (T' := [(1,_), (2,_), (3,_), (6,_)]) ⟨rfl, rfl, rfl, rfl, trivial⟩ ?_)
  refine gk_seq ?_
  refine gk_region ?_
  refine gk_y rfl rfl (y_fieldAddr fo52_0 rfl) ?_
  refine gk_y rfl rfl (y_loadB1 1 tf9 rfl rfl rfl) ?_
  refine gk_y rfl rfl (y_move rfl) ?_
  refine gk_y rfl rfl (y_strAdd rfl rfl (by omega)) ?_
  refine gk_y rfl rfl (y_fieldAddr fo52_0 rfl) ?_
  refine gk_storeV 1 tf9 rfl rfl (vs := [_]) rfl rfl rfl rfl rfl ?_
  refine gk_nil (gk_sub (T' := [(2,_), (3,_), (6,_)]) ⟨rfl, rfl, rfl, trivial⟩ ?_)
  refine gk_seq ?_
  refine gk_region ?_
  refine gk_y rfl rfl (y_move rfl) ?_
  refine gk_yx rfl rfl (yx_call en58 rfl (fun w hw => settled_c _ _ l w (Rd.has (Has.rd hl2) hw) (by assumption) (by assumption) hcap)) fun p13 => ?_
  refine gk_y rfl rfl (y_fieldAddr fo52_1 rfl) ?_
  refine gk_storeV 2 tf49 rfl rfl (vs := [_]) rfl rfl rfl rfl rfl ?_
  refine gk_nil (gk_sub (T' := [(3,_), (6,_)]) ⟨rfl, rfl, trivial⟩ ?_)
  refine gk_seq ?_
  refine gk_region ?_
  refine gk_y rfl rfl (y_loadBA 2 tf52 rfl rfl (vs := [_, _, _, _, _, _]) rfl rfl) ?_
  refine gk_storeV 1 tf52 rfl rfl (vs := [_, _, _, _, _, _]) rfl rfl rfl rfl rfl ?_
  refine gk_nil (gk_sub (T' := [(6,_)]) ⟨rfl, trivial⟩ ?_)
  refine gk_ret ?_
  refine gk_gives p13 0 (rv_one rfl (r1_cellA (i := 1) (vs := [_, _, _, _, _, _]) tf52 rfl rfl rfl rfl)) ?_ rfl
  rfl
set_option maxRecDepth 100000 in
set_option maxHeartbeats 1000000 in
theorem Split_c (a : Option Addr) (cap : Nat) (s : Stn) (p q : Pt) (w : World) (hl : Has w (Pts a s.shape)) (hs : Small s.shape.length) :
    Calls Tryz.prog 21 #[.agg #[.string s.name, .slice a s.shape.length cap, .int .i64 s.depth, .int .i64 s.density, .int .i64 s.grain.x, .int .i64 s.grain.z], .agg #[.int .i64 p.x, .int .i64 p.z], .agg #[.int .i64 q.x, .int .i64 q.z]] w (Gives (fun z : (Option Addr × Nat) × (Option Addr × Nat) => .tuple #[stnV (splitA s p q) z.1.1 z.1.2, stnV (splitB s p q) z.2.1 z.2.2, .int .i64 (splitE s p q)]) (fun z => SepR [Row z.1.1 2 z.1.2 50 encPt (splitA s p q).shape, Row z.2.1 2 z.2.2 50 encPt (splitB s p q).shape]) w) := by
  refine calls_of_gk (vs := [_, _, _]) Tryz.func21 rfl rfl (Nat.le_of_ble_eq_true rfl) ?_
  refine gk_seq ?_
  refine gk_region ?_
  refine gk_yx rfl rfl (yx_box (vs := [_, _, _, _, _, _]) rfl rfl) fun b3 => ?_
  refine gk_yx rfl rfl (yx_box (vs := [_, _]) rfl rfl) fun b4 => ?_
  refine gk_yx rfl rfl (yx_box (vs := [_, _]) rfl rfl) fun b5 => ?_
  refine gk_yx rfl rfl (yx_alloc tf52 (zs := [_, _, _, _, _, _]) rfl) fun b6 => ?_
  refine gk_yx rfl rfl (yx_alloc tf52 (zs := [_, _, _, _, _, _]) rfl) fun b7 => ?_
  refine gk_y rfl rfl (y_assign rfl) ?_
  refine gk_nil (gk_sub (T' := [(3,_), (4,_), (5,_), (6,_), (7,_), (8,_)]) ⟨rfl, rfl, rfl, rfl, rfl, rfl, trivial⟩ ?_)
  refine gk_seq ?_
  refine gk_seq ?_
  refine gk_region ?_
  refine gk_y rfl rfl (y_loadBA 4 tf52 rfl rfl (vs := [_, _, _, _, _, _]) rfl rfl) ?_
  refine gk_y rfl rfl (y_call en38 rfl (fun w hw => check_c _ _ s w (Rd.has (Has.rd hl) hw) (by assumption))) ?_
  refine gk_y rfl rfl (y_assign rfl) ?_
  refine gk_nil (gk_sub (T' := [(3,_), (4,_), (5,_), (6,_), (7,_), (8,_), (9,_)]) ⟨rfl, rfl, rfl, rfl, rfl, rfl, rfl, trivial⟩ ?_)
  refine gk_seq ?_
  refine gk_region ?_
  refine gk_y rfl rfl (y_move rfl) ?_
  refine gk_y rfl rfl (y_neq rfl rfl) ?_
  refine gk_nil (gk_sub (T' := [(3,_), (4,_), (5,_), (6,_), (7,_), (8,_), (9,_), (15,_)]) ⟨rfl, rfl, rfl, rfl, rfl, rfl, rfl, rfl, trivial⟩ ?_)
  refine gk_cond rfl (fun hc15 => ?_) (fun hc15 => ?_)
  · have hk : ¬ checkI s = 0 := by simpa using hc15
    have hE : splitE s p q = checkI s := by rw [splitE, if_pos hk]
    obtain ⟨hA, hB⟩ := split_bad hE hk
    refine gk_newNil 50 encPt 2 ?_
    refine gk_newNil 50 encPt 2 ?_
    refine gk_front 1 rfl ?_
    refine gk_front 1 rfl ?_
    refine gk_pack 2 ?_
    refine gk_seq ?_
    refine gk_region ?_
    refine gk_y rfl rfl (y_buildL (parts := []) rfl bd52_) ?_
    refine gk_y rfl rfl (y_buildL (parts := []) rfl bd52_) ?_
    refine gk_y rfl rfl (y_move rfl) ?_
    refine gk_storeV 2 tf52 rfl rfl (vs := [_, _, _, _, _, _]) rfl rfl rfl rfl rfl ?_
    refine gk_storeV 1 tf52 rfl rfl (vs := [_, _, _, _, _, _]) rfl rfl rfl rfl rfl ?_
    refine gk_y rfl rfl (y_assign rfl) ?_
    refine gk_nil (gk_sub (T' := [(3,_), (4,_), (5,_), (6,_), (7,_), (8,_)]) ⟨rfl, rfl, rfl, rfl, rfl, rfl, trivial⟩ ?_)
    refine gk_ret ?_
    refine gk_gives ((none, 0), (none, 0)) 0 (rv_three rfl (r1_cellA (i := 2) (vs := [_, _, _, _, _, _]) tf52 rfl rfl rfl rfl) (r1_cellA (i := 1) (vs := [_, _, _, _, _, _]) tf52 rfl rfl rfl rfl) (r1_tmp rfl)) ?_ (by rw [hA, hB]; rfl)
    rw [hA, hB, hE]; try rfl
  · have hk : checkI s = 0 := by simpa using hc15
    refine gk_skip ?_
    refine gk_seq ?_
    refine gk_block ?_
    refine gk_seq ?_
    refine gk_any 11 (fun _ => mixed) (by kernel_rfl) ?_
    refine ph_y (y_loadBA 4 tf52 rfl rfl (vs := [_, _, _, _, _, _]) rfl rfl) ?_
    refine ph_y (y_loadBA 3 tf50 rfl rfl (vs := [_, _]) rfl rfl) ?_
    refine ph_y (y_call en48 rfl (fun w hw => edge_c _ _ s p w (Rd.has (Has.rd hl) hw) (by assumption))) ?_
    refine ph_y (y_lss rfl rfl) ?_
    refine ph_y (y_move rfl) ?_
    refine ph_gF rfl rfl (fun hgd => by (try rw [hgd]); exact (y_loadBA 4 tf52 rfl rfl (vs := [_, _, _, _, _, _]) rfl rfl)) ?_
    refine ph_gF rfl rfl (fun hgd => by (try rw [hgd]); exact (y_loadBA 2 tf50 rfl rfl (vs := [_, _]) rfl rfl)) ?_
    refine ph_gF rfl rfl (fun hgd => by (try rw [hgd]); exact (y_call (v := .int .i64 (edgeI s.shape q)) en48 rfl (fun w hw => edge_c _ _ s q w (Rd.has (Has.rd hl) hw) (by assumption)))) ?_
    refine ph_gF rfl rfl (fun hgd => by (try rw [hgd]); exact (y_lss rfl rfl)) ?_
    refine ph_y (y_pickOr rfl rfl rfl) ?_
    refine ph_y (y_assign rfl) ?_
    refine gk_nil (gk_sub (T' := [(3,_), (4,_), (5,_), (6,_), (7,_), (8,_), (19,_)]) ⟨rfl, rfl, rfl, rfl, rfl, rfl, rfl, trivial⟩ ?_)
    refine gk_cond rfl (fun hc19 => ?_) (fun hc19 => ?_)
    · have hE : splitE s p q = 8 := by rw [splitE, if_neg (fun h => h hk), if_pos hc19]
      obtain ⟨hA, hB⟩ := split_bad hE (by decide)
      refine gk_newNil 50 encPt 2 ?_
      refine gk_newNil 50 encPt 2 ?_
      refine gk_front 1 rfl ?_
      refine gk_front 1 rfl ?_
      refine gk_pack 2 ?_
      refine gk_seq ?_
      refine gk_region ?_
      refine gk_y rfl rfl (y_buildL (parts := []) rfl bd52_) ?_
      refine gk_y rfl rfl (y_buildL (parts := []) rfl bd52_) ?_
      refine gk_storeV 2 tf52 rfl rfl (vs := [_, _, _, _, _, _]) rfl rfl rfl rfl rfl ?_
      refine gk_storeV 1 tf52 rfl rfl (vs := [_, _, _, _, _, _]) rfl rfl rfl rfl rfl ?_
      refine gk_y rfl rfl (y_assign rfl) ?_
      refine gk_nil (gk_sub (T' := [(3,_), (4,_), (5,_), (6,_), (7,_), (8,_)]) ⟨rfl, rfl, rfl, rfl, rfl, rfl, trivial⟩ ?_)
      refine gk_ret ?_
      refine gk_gives ((none, 0), (none, 0)) 0 (rv_three rfl (r1_cellA (i := 2) (vs := [_, _, _, _, _, _]) tf52 rfl rfl rfl rfl) (r1_cellA (i := 1) (vs := [_, _, _, _, _, _]) tf52 rfl rfl rfl rfl) (r1_tmp rfl)) ?_ (by rw [hA, hB]; rfl)
      rw [hA, hB, hE]; try rfl
    · have hed : 0 ≤ edgeI s.shape p ∧ 0 ≤ edgeI s.shape q := by simpa using hc19
      have hr1 := rightL_len hed.1 hed.2
      have hr2 := rightL_len hed.2 hed.1
      have hln := check_len hk
      have hnm := check_named hk
      refine gk_seq ?_
      refine gk_region ?_
      refine gk_y rfl rfl (y_loadBA 4 tf52 rfl rfl (vs := [_, _, _, _, _, _]) rfl rfl) ?_
      refine gk_y rfl rfl (y_loadBA 3 tf50 rfl rfl (vs := [_, _]) rfl rfl) ?_
      refine gk_y rfl rfl (y_loadBA 2 tf50 rfl rfl (vs := [_, _]) rfl rfl) ?_
      refine gk_y rfl rfl (y_call en49 rfl (fun w hw => apart_c _ _ s p q w (Rd.has (Has.rd hl) hw) (by assumption))) ?_
      refine gk_y rfl rfl (y_not rfl) ?_
      refine gk_y rfl rfl (y_assign rfl) ?_
      refine gk_nil (gk_sub (T' := [(3,_), (4,_), (5,_), (6,_), (7,_), (8,_), (32,_)]) ⟨rfl, rfl, rfl, rfl, rfl, rfl, rfl, trivial⟩ ?_)
      refine gk_cond rfl (fun hc32 => ?_) (fun hc32 => ?_)
      · have hap : apartB s.shape p q = false := by simpa using hc32
        have hE : splitE s p q = 2 := by rw [splitE, if_neg (fun h => h hk), if_neg (by rw [hc19]; exact Bool.false_ne_true), if_pos hap]
        obtain ⟨hA, hB⟩ := split_bad hE (by decide)
        refine gk_newNil 50 encPt 2 ?_
        refine gk_newNil 50 encPt 2 ?_
        refine gk_front 1 rfl ?_
        refine gk_front 1 rfl ?_
        refine gk_pack 2 ?_
        refine gk_seq ?_
        refine gk_region ?_
        refine gk_y rfl rfl (y_buildL (parts := []) rfl bd52_) ?_
        refine gk_y rfl rfl (y_buildL (parts := []) rfl bd52_) ?_
        refine gk_storeV 2 tf52 rfl rfl (vs := [_, _, _, _, _, _]) rfl rfl rfl rfl rfl ?_
        refine gk_storeV 1 tf52 rfl rfl (vs := [_, _, _, _, _, _]) rfl rfl rfl rfl rfl ?_
        refine gk_y rfl rfl (y_assign rfl) ?_
        refine gk_nil (gk_sub (T' := [(3,_), (4,_), (5,_), (6,_), (7,_), (8,_)]) ⟨rfl, rfl, rfl, rfl, rfl, rfl, trivial⟩ ?_)
        refine gk_ret ?_
        refine gk_gives ((none, 0), (none, 0)) 0 (rv_three rfl (r1_cellA (i := 2) (vs := [_, _, _, _, _, _]) tf52 rfl rfl rfl rfl) (r1_cellA (i := 1) (vs := [_, _, _, _, _, _]) tf52 rfl rfl rfl rfl) (r1_tmp rfl)) ?_ (by rw [hA, hB]; rfl)
        rw [hA, hB, hE]; try rfl
      · have hap : ¬ apartB s.shape p q = false := by simpa using hc32
        refine gk_skip ?_
        refine gk_seq ?_
        refine gk_any 8 (fun _ => mixed) (by kernel_rfl) ?_
        refine ph_y (y_loadBA 4 tf52 rfl rfl (vs := [_, _, _, _, _, _]) rfl rfl) ?_
        refine ph_y (y_loadBA 2 tf50 rfl rfl (vs := [_, _]) rfl rfl) ?_
        refine ph_y (y_loadBA 3 tf50 rfl rfl (vs := [_, _]) rfl rfl) ?_
        refine ph_yx (yx_call en50 rfl (fun w hw => right_c _ _ s q p w (Rd.has (Has.rd hl) hw) (by assumption) (by first | exact hed.1 | exact hed.2) (by first | exact hed.2 | exact hed.1))) ?_
        refine ph_y (y_loadBA 4 tf52 rfl rfl (vs := [_, _, _, _, _, _]) rfl rfl) ?_
        refine ph_y (y_loadBA 3 tf50 rfl rfl (vs := [_, _]) rfl rfl) ?_
        refine ph_y (y_loadBA 2 tf50 rfl rfl (vs := [_, _]) rfl rfl) ?_
        refine ph_yx (fun p43 => yx_call en50 rfl (fun w hw => right_c _ _ s p q w (Rd.has (Has.rd hl) hw) (by assumption) (by first | exact hed.1 | exact hed.2) (by first | exact hed.2 | exact hed.1))) ?_
        intro p47
        intro p43
        refine gk_sub (T' := [(3,_), (6,_), (7,_), (8,_), (43,_), (47,_)]) ⟨rfl, rfl, rfl, rfl, rfl, rfl, trivial⟩ ?_
        refine gk_y rfl rfl (y_assign rfl) ?_
        refine gk_y rfl rfl (y_assign rfl) ?_
        refine gk_nil (gk_sub (T' := [(3,_), (6,_), (7,_), (8,_), (10,_), (11,_)]) ⟨rfl, rfl, rfl, rfl, rfl, rfl, trivial⟩ ?_)
        refine gk_seq ?_
        refine gk_seq ?_
        refine gk_any 12 (fun _ => mixed) (by kernel_rfl) ?_
        refine ph_y (y_fieldAddr fo52_0 rfl) ?_
        refine ph_y (y_loadB1 6 tf9 rfl rfl rfl) ?_
        refine ph_y (y_lenStr (Tryz.underlying9) rfl) ?_
        refine ph_y (y_eql rfl rfl) ?_
        refine ph_y (y_move rfl) ?_
        refine ph_gF rfl rfl (fun hgd => by (try rw [hgd]); exact (y_move rfl)) ?_
        refine ph_gF rfl rfl (fun hgd => by (try rw [hgd]); exact (y_lenS (Tryz.underlying49) rfl)) ?_
        refine ph_gF rfl rfl (fun hgd => by (try rw [hgd]); exact (y_move rfl)) ?_
        refine ph_gF rfl rfl (fun hgd => by (try rw [hgd]); exact (y_lenS (Tryz.underlying49) rfl)) ?_
        refine ph_gF rfl rfl (fun hgd => by (try rw [hgd]); exact (y_max rfl rfl)) ?_
        refine ph_gF rfl rfl (fun hgd => by (try rw [hgd]); exact (y_gtr rfl rfl)) ?_
        refine ph_y (y_pickOr rfl rfl rfl) ?_
        refine gk_nil (gk_sub (T' := [(3,_), (6,_), (7,_), (8,_), (10,_), (11,_), (59,_)]) ⟨rfl, rfl, rfl, rfl, rfl, rfl, rfl, trivial⟩ ?_)
        refine gk_cond rfl (fun hc59 => ?_) (fun hc59 => ?_)
        · have hE : splitE s p q = 5 := by rw [splitE, if_neg (fun h => h hk), if_neg (by rw [hc19]; exact Bool.false_ne_true), if_neg hap, if_pos hc59]
          obtain ⟨hA, hB⟩ := split_bad hE (by decide)
          refine gk_newNil 50 encPt 2 ?_
          refine gk_newNil 50 encPt 2 ?_
          refine gk_front 1 rfl ?_
          refine gk_front 1 rfl ?_
          refine gk_pack 2 ?_
          refine gk_seq ?_
          refine gk_region ?_
          refine gk_y rfl rfl (y_buildL (parts := []) rfl bd52_) ?_
          refine gk_y rfl rfl (y_buildL (parts := []) rfl bd52_) ?_
          refine gk_storeV 4 tf52 rfl rfl (vs := [_, _, _, _, _, _]) rfl rfl rfl rfl rfl ?_
          refine gk_storeV 3 tf52 rfl rfl (vs := [_, _, _, _, _, _]) rfl rfl rfl rfl rfl ?_
          refine gk_y rfl rfl (y_assign rfl) ?_
          refine gk_nil (gk_sub (T' := [(3,_), (6,_), (7,_), (8,_), (10,_), (11,_)]) ⟨rfl, rfl, rfl, rfl, rfl, rfl, trivial⟩ ?_)
          refine gk_ret ?_
          refine gk_gives ((none, 0), (none, 0)) 0 (rv_three rfl (r1_cellA (i := 4) (vs := [_, _, _, _, _, _]) tf52 rfl rfl rfl rfl) (r1_cellA (i := 3) (vs := [_, _, _, _, _, _]) tf52 rfl rfl rfl rfl) (r1_tmp rfl)) ?_ (by rw [hA, hB]; rfl)
          rw [hA, hB, hE]; try rfl
        · have hE : splitE s p q = 0 := by rw [splitE, if_neg (fun h => h hk), if_neg (by rw [hc19]; exact Bool.false_ne_true), if_neg hap, if_neg (by rw [hc59]; exact Bool.false_ne_true)]
          obtain ⟨hA, hB⟩ := split_good hE
          refine gk_skip ?_
          refine gk_seq ?_
          refine gk_any 6 (fun _ => mixed) (by kernel_rfl) ?_
          refine ph_y (y_loadBA 6 tf52 rfl rfl (vs := [_, _, _, _, _, _]) rfl rfl) ?_
          refine ph_y (y_move rfl) ?_
          refine ph_yx (yx_call en51 rfl (fun w hw => piece_c _ _ s _ _ _ (rightL s.shape q p) w (has_row encPt_ok (hw.has (p := 0) rfl)) (by unfold Small; omega) (by omega) (row_cap (hw.has (p := 0) rfl)) (by change s.name.size + 1 ≤ _; omega))) ?_
          refine ph_y (y_loadBA 6 tf52 rfl rfl (vs := [_, _, _, _, _, _]) rfl rfl) ?_
          refine ph_y (y_move rfl) ?_
          refine ph_yx (fun p64 => yx_call en51 rfl (fun w hw => piece_c _ _ s _ _ _ (rightL s.shape p q) w (has_row encPt_ok (hw.has (p := 2) rfl)) (by unfold Small; omega) (by omega) (row_cap (hw.has (p := 2) rfl)) (by change s.name.size + 1 ≤ _; omega))) ?_
          intro p67
          intro p64
          refine gk_sub (T' := [(6,_), (7,_), (8,_), (64,_), (67,_)]) ⟨rfl, rfl, rfl, rfl, rfl, trivial⟩ ?_
          refine gk_storeV 5 tf52 rfl rfl (vs := [_, _, _, _, _, _]) rfl rfl rfl rfl rfl ?_
          refine gk_storeV 4 tf52 rfl rfl (vs := [_, _, _, _, _, _]) rfl rfl rfl rfl rfl ?_
          refine gk_y rfl rfl (y_assign rfl) ?_
          refine gk_nil (gk_sub (T' := [(6,_), (7,_), (8,_)]) ⟨rfl, rfl, rfl, trivial⟩ ?_)
          refine gk_front 1 rfl ?_
          refine gk_front 1 rfl ?_
          refine gk_pack 2 ?_
          refine gk_ret ?_
          refine gk_gives (p64, p67) 0 (rv_three rfl (r1_cellA (i := 4) (vs := [_, _, _, _, _, _]) tf52 rfl rfl rfl rfl) (r1_cellA (i := 3) (vs := [_, _, _, _, _, _]) tf52 rfl rfl rfl rfl) (r1_tmp rfl)) ?_ (by rw [hA, hB]; rfl)
          rw [hA, hB, hE]; try rfl
end Go.Proofs.YtmpaebfjnjmmlaaGreatDoor

namespace Go.Proofs.YtmpaebfjnjmmlaaGreatDoor
open Go.K Go.Stn Go.RowKit
theorem en52 : En Tryz.prog 52 := en_of Tryz.func52 (by kernel_rfl) (by kernel_rfl)
theorem en54 : En Tryz.prog 54 := en_of Tryz.func54 (by kernel_rfl) (by kernel_rfl)
theorem en90 : En Tryz.prog 90 := en_of Tryz.func90 (by kernel_rfl) (by kernel_rfl)
set_option maxRecDepth 100000 in
set_option maxHeartbeats 1000000 in
theorem outcomes1_c (a : Option Addr) (cap : Nat) (s : Stn) (p : Pt) (t : Int) (b1 b2 b3 : Nat) (hv : checkI s = 0) (hi : 0 ≤ findI (eqB p) (borderL s.shape)) :
    SeqC Tryz.prog 90 [.pointer (some ⟨b1, 0, none⟩), .pointer (some ⟨b2, 0, none⟩), .pointer (some ⟨b3, 0, none⟩)] (outVs s p t) (fun w => Has w (Box b1 [.string s.name, .slice a s.shape.length cap, .int .i64 s.depth, .int .i64 s.density, .int .i64 s.grain.x, .int .i64 s.grain.z] 52) ∧ Has w (Box b2 [.int .i64 p.x, .int .i64 p.z] 50) ∧ Has w (Box b3 [.int .i64 t] 3) ∧ Has w (Pts a s.shape)) := by
  intro X J Rl D y w B x0 hB hA h0 hM hy
  have hnear := check_near hv
  have hlen := check_len hv
  have hbl := border_len hnear
  have hi2 := findI_lt _ hi
  have hrl : ((borderL s.shape).drop ((findI (eqB p) (borderL s.shape)) + 1).toNat ++ (borderL s.shape).take (findI (eqB p) (borderL s.shape)).toNat).length + 1 = (borderL s.shape).length := rotB_len hi hi2
  have hs : Small s.shape.length := by unfold Small; omega
  refine calls_of_gkB hB hA (vs := [_, _, _, _]) Tryz.func90 rfl rfl (Nat.le_of_ble_eq_true rfl) ?_
  have hmem : ∀ {cz : Cx} {Hz : List Res} {xz : X} {pz : Nat} {w' : World}, Inside (fun k => k < w.heap.size ∧ ¬ B k) w cz → Hz[pz]? = some (J xz) → Hp cz.U cz.w0 Hz w' → (Has w' (Box b1 [.string s.name, .slice a s.shape.length cap, .int .i64 s.depth, .int .i64 s.density, .int .i64 s.grain.x, .int .i64 s.grain.z] 52) ∧ Has w' (Box b2 [.int .i64 p.x, .int .i64 p.z] 50) ∧ Has w' (Box b3 [.int .i64 t] 3) ∧ Has w' (Pts a s.shape)) := fun hin hp hw => by
    obtain ⟨B', q1, q2, q3, q4⟩ := own_of_in hin hp hw
    exact hM _ _ B' q4 q1 q2 q3
  have ins0 := insideB Tryz.prog Tryz.f90.ntmps w B
  refine gk_seq ?_
  refine gk_region ?_
  refine gk_y rfl rfl (y_loadA tf52 rfl rfl (fun _ hw => has_box_cells (o := 0) (k := 6) (hmem ins0 (pz := 0) rfl hw).1 (vs := [_, _, _, _, _, _]) rfl)) ?_
  refine gk_yx rfl rfl (yx_call en61 rfl (fun w hw => border_c _ _ s w)) fun p13 => ?_
  refine gk_yx rfl rfl (yx_call en53 rfl (fun w hw => collect_c (borderL s.shape) _ [_] w (by unfold Small; omega) (fun w' => Has w' (Box p13 [.string s.name, .slice a s.shape.length cap, .int .i64 s.depth, .int .i64 s.density, .int .i64 s.grain.x, .int .i64 s.grain.z] 52) ∧ Has w' (Pts a s.shape)) (fun w' hx => ⟨Has.ext (hw.has (p := 0) rfl) hx, Has.ext (hmem ins0 (pz := 1) rfl hw).2.2.2 hx⟩) en96 (border1_c _ _ s p13 (by unfold Small; omega) hnear))) fun p14 => ?_
  refine gk_y rfl rfl (y_assign rfl) ?_
  refine gk_nil (gk_sub (T' := [(0,_), (1,_), (2,_), (3,_), (5,_)]) ⟨rfl, rfl, rfl, rfl, rfl, trivial⟩ ?_)
  refine gk_seq ?_
  refine gk_region ?_
  refine gk_y rfl rfl (y_move rfl) ?_
  refine gk_y rfl rfl (y_loadA tf50 rfl rfl (fun _ hw => has_box_cells (o := 0) (k := 2) (hmem ins0 (pz := 2) rfl hw).2.1 (vs := [_, _]) rfl)) ?_
  refine gk_y rfl rfl (y_call en91 rfl (fun w hw => index_c _ _ (borderL s.shape) p w (has_row encPt_ok (hw.has (p := 0) rfl)) (by unfold Small; omega))) ?_
  refine gk_y rfl rfl (y_assign rfl) ?_
  refine gk_nil (gk_sub (T' := [(0,_), (1,_), (2,_), (3,_), (5,_), (6,_)]) ⟨rfl, rfl, rfl, rfl, rfl, rfl, trivial⟩ ?_)
  refine gk_with (fun w hw => row_cap (hw.has (p := 0) rfl)) fun hcap => ?_
  refine gk_seq ?_
  refine gk_any 11 (fun _ => mixed) (by kernel_rfl) ?_
  refine ph_y (y_move rfl) ?_
  refine ph_y (y_move rfl) ?_
  refine ph_y (y_addI rfl rfl (by omega) (by omega)) ?_
  refine ph_y (y_sliceLoL se49 rfl rfl (by omega) (by omega)) ?_
  refine ph_y (y_move rfl) ?_
  refine ph_y (y_move rfl) ?_
  refine ph_y (y_sliceHiL se49 rfl rfl (by omega) (by omega) hcap) ?_
  refine ph_yx (yx_buildSlice rfl (bs162_2 _ _ _ _ _ _) encSli_ok rfl) ?_
  refine ph_yx (fun b25 => yx_call en92 rfl (fun w hw => concat2_c _ _ ⟨_, _, _⟩ ⟨_, _, _⟩ w (has_row encSli_ok (hw.has (p := 0) rfl)) (elems_drop (has_row encPt_ok (hw.has (p := 1) rfl)) hcap (by omega)) (elems_take (has_row encPt_ok (hw.has (p := 1) rfl)) (by omega) (by omega)) (by simp only [List.length_drop, List.length_take]; unfold Small; omega))) ?_
  refine ph_y (fun p26 => y_lenS (Tryz.underlying49) rfl) ?_
  refine ph_y (y_move rfl) ?_
  intro p26
  intro b25
  refine gk_nil (gk_sub (T' := [(0,_), (1,_), (2,_), (3,_), (26,_), (27,_), (28,_)]) ⟨rfl, rfl, rfl, rfl, rfl, rfl, rfl, trivial⟩ ?_)
  refine gk_block ?_
  refine gk_loop (X := Int × X) (fun ⟨i, x2⟩ => [(0, .func (.yield y) #[] #[]), (1, .pointer (some ⟨b1, 0, none⟩)), (2, .pointer (some ⟨b2, 0, none⟩)), (3, .pointer (some ⟨b3, 0, none⟩)), (26, .slice p26.1 ((borderL s.shape).drop ((findI (eqB p) (borderL s.shape)) + 1).toNat ++ (borderL s.shape).take (findI (eqB p) (borderL s.shape)).toNat).length p26.2), (27, .int .i64 (((borderL s.shape).drop ((findI (eqB p) (borderL s.shape)) + 1).toNat ++ (borderL s.shape).take (findI (eqB p) (borderL s.shape)).toNat).length : Int)), (28, .int .i64 i)]) (fun ⟨i, x2⟩ => [Row (some ⟨b25, 0, none⟩) 1 2 49 encSli [⟨(subA p14.1 2 ((findI (eqB p) (borderL s.shape)) + 1).toNat p14.2), (p14.2 - ((findI (eqB p) (borderL s.shape)) + 1).toNat), ((borderL s.shape).drop ((findI (eqB p) (borderL s.shape)) + 1).toNat)⟩, ⟨(subA p14.1 2 0 p14.2), p14.2, ((borderL s.shape).take (findI (eqB p) (borderL s.shape)).toNat)⟩], Row p26.1 2 p26.2 50 encPt ((borderL s.shape).drop ((findI (eqB p) (borderL s.shape)) + 1).toNat ++ (borderL s.shape).take (findI (eqB p) (borderL s.shape)).toNat), Row p14.1 2 p14.2 50 encPt (borderL s.shape), Box p13 [.string s.name, .slice a s.shape.length cap, .int .i64 s.depth, .int .i64 s.density, .int .i64 s.grain.x, .int .i64 s.grain.z] 52, J x2]) (fun ⟨i, x2⟩ => (0 ≤ i ∧ i ≤ (((borderL s.shape).drop ((findI (eqB p) (borderL s.shape)) + 1).toNat ++ (borderL s.shape).take (findI (eqB p) (borderL s.shape)).toNat).length : Int) ∧ Rl ((((borderL s.shape).drop ((findI (eqB p) (borderL s.shape)) + 1).toNat ++ (borderL s.shape).take (findI (eqB p) (borderL s.shape)).toNat).take i.toNat).filter (outB s p t)).length x2)) (fun ⟨i, x2⟩ => ((((borderL s.shape).drop ((findI (eqB p) (borderL s.shape)) + 1).toNat ++ (borderL s.shape).take (findI (eqB p) (borderL s.shape)).toNat).length : Int) - i).toNat) (0, x0) ⟨rfl, rfl, rfl, rfl, rfl, rfl, rfl, trivial⟩ rfl ?_ ?_
  · exact ⟨by omega, by omega, h0⟩
  · rintro ⟨i, x2⟩ hI
    obtain ⟨g0, g1, g2⟩ := hI
    refine gk_seq ?_
    refine gk_region ?_
    refine gk_y rfl rfl (y_lss rfl rfl) ?_
    refine gk_nil (gk_sub (T' := [(0,_), (1,_), (2,_), (3,_), (26,_), (27,_), (28,_), (29,_)]) ⟨rfl, rfl, rfl, rfl, rfl, rfl, rfl, rfl, trivial⟩ ?_)
    refine gk_seq ?_
    refine gk_cond rfl (fun hc29 => ?_) (fun hc29 => ?_)
    · simp only [decide_eq_true_eq] at hc29
      refine gk_skip ?_
      refine gk_seq ?_
      refine gk_block ?_
      refine gk_seq ?_
      refine gk_region ?_
      refine gk_y rfl rfl (y_indexE se49 rfl rfl (fun _ hw => (has_row encPt_ok (hw.has (p := 1) rfl))) (by omega) (by omega)) ?_
      refine gk_y rfl rfl (y_loadE (vs := [_, _]) tf50 rfl (fun _ hw => (has_row encPt_ok (hw.has (p := 1) rfl))) (by omega) (by omega) rfl) ?_
      refine gk_yx rfl rfl (yx_alloc tf50 (zs := [_, _]) rfl) fun b8 => ?_
      refine gk_storeV 0 tf50 rfl rfl (vs := [_, _]) rfl rfl rfl rfl rfl ?_
      refine gk_nil (gk_sub (T' := [(0,_), (1,_), (2,_), (3,_), (8,_), (26,_), (27,_), (28,_)]) ⟨rfl, rfl, rfl, rfl, rfl, rfl, rfl, rfl, trivial⟩ ?_)
      refine gk_seq ?_
      refine gk_region ?_
      refine gk_y rfl rfl (y_loadBA 0 tf50 rfl rfl (vs := [_, _]) rfl rfl) ?_
      refine gk_y rfl rfl (y_loadA tf50 rfl rfl (fun _ hw => has_box_cells (o := 0) (k := 2) (hmem ins0 (pz := 5) rfl hw).2.1 (vs := [_, _]) rfl)) ?_
      refine gk_y rfl rfl (y_call en84 rfl (fun w hw => sub_c ⟨_, _⟩ ⟨_, _⟩ w)) ?_
      refine gk_yx rfl rfl (yx_alloc tf50 (zs := [_, _]) rfl) fun b9 => ?_
      refine gk_storeV 0 tf50 rfl rfl (vs := [_, _]) rfl rfl rfl rfl rfl ?_
      refine gk_nil (gk_sub (T' := [(0,_), (1,_), (2,_), (3,_), (8,_), (9,_), (26,_), (27,_), (28,_)]) ⟨rfl, rfl, rfl, rfl, rfl, rfl, rfl, rfl, rfl, trivial⟩ ?_)
      refine gk_seq ?_
      refine gk_any 10 (fun _ => mixed) (by kernel_rfl) ?_
      refine ph_y (y_loadBA 0 tf50 rfl rfl (vs := [_, _]) rfl rfl) ?_
      refine ph_y (y_fieldAddr fo52_4 rfl) ?_
      refine ph_y (y_loadA tf50 rfl rfl (fun _ hw => has_box_cells (o := 4) (k := 2) (hmem ins0 (pz := 6) rfl hw).1 (vs := [_, _]) rfl)) ?_
      refine ph_y (y_call en85 rfl (fun w hw => cross_c ⟨_, _⟩ ⟨_, _⟩ w)) ?_
      refine ph_y (y_loadBA 0 tf50 rfl rfl (vs := [_, _]) rfl rfl) ?_
      refine ph_y (y_fieldAddr fo52_4 rfl) ?_
      refine ph_y (y_loadA tf50 rfl rfl (fun _ hw => has_box_cells (o := 4) (k := 2) (hmem ins0 (pz := 6) rfl hw).1 (vs := [_, _]) rfl)) ?_
      refine ph_y (y_call en86 rfl (fun w hw => dot_c ⟨_, _⟩ ⟨_, _⟩ w)) ?_
      refine ph_y (y_assign rfl) ?_
      refine ph_y (y_assign rfl) ?_
      refine gk_nil (gk_sub (T' := [(0,_), (1,_), (2,_), (3,_), (8,_), (10,_), (11,_), (26,_), (27,_), (28,_)]) ⟨rfl, rfl, rfl, rfl, rfl, rfl, rfl, rfl, rfl, rfl, trivial⟩ ?_)
      refine gk_seq ?_
      refine gk_any 21 (fun _ => mixed) (by kernel_rfl) ?_
      refine ph_y (y_loadA tf52 rfl rfl (fun _ hw => has_box_cells (o := 0) (k := 6) (hmem ins0 (pz := 6) rfl hw).1 (vs := [_, _, _, _, _, _]) rfl)) ?_
      refine ph_y (y_loadA tf50 rfl rfl (fun _ hw => has_box_cells (o := 0) (k := 2) (hmem ins0 (pz := 6) rfl hw).2.1 (vs := [_, _]) rfl)) ?_
      refine ph_y (y_loadBA 1 tf50 rfl rfl (vs := [_, _]) rfl rfl) ?_
      refine ph_y (y_call en49 rfl (fun w hw => apart_c _ _ s p (((borderL s.shape).drop ((findI (eqB p) (borderL s.shape)) + 1).toNat ++ (borderL s.shape).take (findI (eqB p) (borderL s.shape)).toNat).getD (i).toNat default) w (hmem ins0 (pz := 6) rfl hw).2.2.2 (by assumption))) ?_
      refine ph_y (y_move rfl) ?_
      refine ph_gT rfl rfl (fun hgd => by (try rw [hgd]); exact (y_move rfl)) ?_
      refine ph_gT rfl rfl (fun hgd => by (try rw [hgd]); exact (y_move rfl)) ?_
      refine ph_gT rfl rfl (fun hgd => by (try rw [hgd]); exact (y_neg rfl)) ?_
      refine ph_gT rfl rfl (fun hgd => by (try rw [hgd]); exact (y_max rfl rfl)) ?_
      refine ph_gT rfl rfl (fun hgd => by (try rw [hgd]); exact (y_mul rfl rfl)) ?_
      refine ph_gT rfl rfl (fun hgd => by (try rw [hgd]); exact (y_load1 tf3 rfl (fun _ hw => has_box_cell (hmem ins0 (pz := 6) rfl hw).2.2.1 rfl))) ?_
      refine ph_gT rfl rfl (fun hgd => by (try rw [hgd]); exact (y_move rfl)) ?_
      refine ph_gT rfl rfl (fun hgd => by (try rw [hgd]); exact (y_move rfl)) ?_
      refine ph_gT rfl rfl (fun hgd => by (try rw [hgd]); exact (y_neg rfl)) ?_
      refine ph_gT rfl rfl (fun hgd => by (try rw [hgd]); exact (y_max rfl rfl)) ?_
      refine ph_gT rfl rfl (fun hgd => by (try rw [hgd]); exact (y_mul rfl rfl)) ?_
      refine ph_gT rfl rfl (fun hgd => by (try rw [hgd]); exact (y_leq rfl rfl)) ?_
      refine ph_y (y_pickAnd rfl rfl rfl) ?_
      refine ph_y (y_move rfl) ?_
      refine ph_gT rfl rfl (fun hgd => by (try rw [hgd]); exact (y_move rfl)) ?_
      refine ph_gT rfl rfl (fun hgd => by (try rw [hgd]); exact (y_loadBA 1 tf50 rfl rfl (vs := [_, _]) rfl rfl)) ?_
      refine gk_sub (T' := [(0,_), (1,_), (2,_), (3,_), (26,_), (27,_), (28,_), (61,_), (62,_), (63,_)]) ⟨rfl, rfl, rfl, rfl, rfl, rfl, rfl, rfl, rfl, rfl, trivial⟩ ?_
      refine gk_guard rfl rfl rfl rfl (fun hg61 => ?_) (fun hg61 => ?_)
      · replace hg61 : _ = true := hg61
        try rw [hg61]
        refine gk_yield 6 ins0 rfl rfl rfl rfl (hy _ _ _ (filt_get g0 (by omega) (show outB s p t _ = true from hg61)) g2) fun b64 x64 hp64 => ?_
        refine gk_guard rfl rfl rfl rfl (fun _ => ?_) (fun h => absurd h (by decide))
        refine gk_y rfl rfl (y_not rfl) ?_
        refine gk_y rfl rfl (y_pick rfl rfl rfl) ?_
        refine gk_nil (gk_sub (T' := [(0,_), (1,_), (2,_), (3,_), (26,_), (27,_), (28,_), (66,_)]) ⟨rfl, rfl, rfl, rfl, rfl, rfl, rfl, rfl, trivial⟩ ?_)
        refine gk_cond rfl (fun hc66 => ?_) (fun hc66 => ?_)
        · skip
          refine gk_ret ?_
          refine gk_turns x64 6 (rv_none rfl) rfl rfl (.inr (by have := hp64; rwa [show b64 = false from by simpa using hc66, if_neg Bool.false_ne_true] at this))
        · skip
          refine gk_skip ?_
          refine gk_region ?_
          refine gk_y rfl rfl (y_addI rfl rfl (by omega) (by omega)) ?_
          refine gk_y rfl rfl (y_move rfl) ?_
          refine gk_nil (gk_sub (T' := [(0,_), (1,_), (2,_), (3,_), (26,_), (27,_), (28,_)]) ⟨rfl, rfl, rfl, rfl, rfl, rfl, rfl, trivial⟩ ?_)
          refine gk_dropAt 0 rfl ?_
          refine gk_dropAt 0 rfl ?_
          exact gk_next (i + 1, _) ⟨rfl, rfl, rfl, rfl, rfl, rfl, rfl, trivial⟩ rfl (by refine ⟨by omega, by omega, ?_⟩; rw [filt_succ g0 (by omega)]; first | (rw [if_pos (show outB s p t _ = true from hg61)]; have := hp64; rwa [show b64 = true from by simpa using hc66, if_pos rfl] at this) | (rw [if_neg (by rw [show outB s p t _ = false from hg61]; exact Bool.false_ne_true)]; exact g2)) (by simp only []; omega)
      · replace hg61 : _ = false := hg61
        try rw [hg61]
        refine gk_guard rfl rfl rfl rfl (fun h => absurd h (by decide)) (fun _ => ?_)
        refine gk_y rfl rfl (y_pick rfl rfl rfl) ?_
        refine gk_nil (gk_sub (T' := [(0,_), (1,_), (2,_), (3,_), (26,_), (27,_), (28,_), (66,_)]) ⟨rfl, rfl, rfl, rfl, rfl, rfl, rfl, rfl, trivial⟩ ?_)
        refine gk_condF rfl ?_
        refine gk_skip ?_
        refine gk_region ?_
        refine gk_y rfl rfl (y_addI rfl rfl (by omega) (by omega)) ?_
        refine gk_y rfl rfl (y_move rfl) ?_
        refine gk_nil (gk_sub (T' := [(0,_), (1,_), (2,_), (3,_), (26,_), (27,_), (28,_)]) ⟨rfl, rfl, rfl, rfl, rfl, rfl, rfl, trivial⟩ ?_)
        refine gk_dropAt 0 rfl ?_
        refine gk_dropAt 0 rfl ?_
        exact gk_next (i + 1, _) ⟨rfl, rfl, rfl, rfl, rfl, rfl, rfl, trivial⟩ rfl (by refine ⟨by omega, by omega, ?_⟩; rw [filt_succ g0 (by omega)]; first | (rw [if_pos (show outB s p t _ = true from hg61)]; have := hp64; rwa [show b64 = true from by simpa using hc66, if_pos rfl] at this) | (rw [if_neg (by rw [show outB s p t _ = false from hg61]; exact Bool.false_ne_true)]; exact g2)) (by simp only []; omega)
    · simp only [decide_eq_false_iff_not] at hc29
      refine gk_exit rfl ?_
      refine gk_turns x2 4 (rv_none rfl) rfl rfl (.inl (by rw [take_all (by omega)] at g2; rw [show (outVs s p t).length = (outcomesL s p t).length from List.length_map ..]; exact g2))
set_option maxRecDepth 100000 in
set_option maxHeartbeats 1000000 in
theorem outcomes_c (a : Option Addr) (cap : Nat) (s : Stn) (p : Pt) (t : Int) (w : World)  :
    Calls Tryz.prog 54 #[.agg #[.string s.name, .slice a s.shape.length cap, .int .i64 s.depth, .int .i64 s.density, .int .i64 s.grain.x, .int .i64 s.grain.z], .agg #[.int .i64 p.x, .int .i64 p.z], .int .i64 t] w (Gives (fun z : Nat × Nat × Nat => .func (.func 90) #[] #[.pointer (some ⟨z.1, 0, none⟩), .pointer (some ⟨z.2.1, 0, none⟩), .pointer (some ⟨z.2.2, 0, none⟩)]) (fun z => SepR [Box z.1 [.string s.name, .slice a s.shape.length cap, .int .i64 s.depth, .int .i64 s.density, .int .i64 s.grain.x, .int .i64 s.grain.z] 52, Box z.2.1 [.int .i64 p.x, .int .i64 p.z] 50, Box z.2.2 [.int .i64 t] 3]) w) := by
  refine calls_of_gk (vs := [_, _, _]) Tryz.func54 rfl rfl (Nat.le_of_ble_eq_true rfl) ?_
  refine gk_seq ?_
  refine gk_region ?_
  refine gk_yx rfl rfl (yx_box (vs := [_, _, _, _, _, _]) rfl rfl) fun b3 => ?_
  refine gk_yx rfl rfl (yx_box (vs := [_, _]) rfl rfl) fun b4 => ?_
  refine gk_yx rfl rfl (yx_box (vs := [_]) rfl rfl) fun b5 => ?_
  refine gk_y rfl rfl (y_assign rfl) ?_
  refine gk_nil (gk_sub (T' := [(3,_), (4,_), (5,_), (6,_)]) ⟨rfl, rfl, rfl, rfl, trivial⟩ ?_)
  refine gk_seq ?_
  refine gk_region ?_
  refine gk_y rfl rfl (y_makeFunc («as» := []) (bs := [_, _, _]) rfl rfl) ?_
  refine gk_y rfl rfl (y_assign rfl) ?_
  refine gk_nil (gk_sub (T' := [(6,_)]) ⟨rfl, trivial⟩ ?_)
  refine gk_front 1 rfl ?_
  refine gk_front 2 rfl ?_
  refine gk_pack 3 ?_
  refine gk_ret ?_
  refine gk_gives (b3, b4, b5) 0 (rv_one rfl (r1_tmp rfl)) ?_ rfl
  rfl
set_option maxRecDepth 100000 in
set_option maxHeartbeats 1000000 in
theorem struck_c (a : Option Addr) (cap : Nat) (s : Stn) (p : Pt) (t : Int) (w : World) (hl : Has w (Pts a s.shape)) (hs : Small s.shape.length) :
    Calls Tryz.prog 52 #[.agg #[.string s.name, .slice a s.shape.length cap, .int .i64 s.depth, .int .i64 s.density, .int .i64 s.grain.x, .int .i64 s.grain.z], .agg #[.int .i64 p.x, .int .i64 p.z], .int .i64 t] w (Pure (.int .i64 (struckE s p t)) w) := by
  refine calls_of_gk (vs := [_, _, _]) Tryz.func52 rfl rfl (Nat.le_of_ble_eq_true rfl) ?_
  refine gk_seq ?_
  refine gk_region ?_
  refine gk_yx rfl rfl (yx_box (vs := [_, _, _, _, _, _]) rfl rfl) fun b3 => ?_
  refine gk_yx rfl rfl (yx_box (vs := [_, _]) rfl rfl) fun b4 => ?_
  refine gk_y rfl rfl (y_assign rfl) ?_
  refine gk_nil (gk_sub (T' := [(2,_), (3,_), (4,_), (6,_)]) ⟨rfl, rfl, rfl, rfl, trivial⟩ ?_)
  refine gk_seq ?_
  refine gk_seq ?_
  refine gk_region ?_
  refine gk_y rfl rfl (y_loadBA 1 tf52 rfl rfl (vs := [_, _, _, _, _, _]) rfl rfl) ?_
  refine gk_y rfl rfl (y_call en38 rfl (fun w hw => check_c _ _ s w (Rd.has (Has.rd hl) hw) (by assumption))) ?_
  refine gk_y rfl rfl (y_assign rfl) ?_
  refine gk_nil (gk_sub (T' := [(2,_), (3,_), (4,_), (6,_), (7,_)]) ⟨rfl, rfl, rfl, rfl, rfl, trivial⟩ ?_)
  refine gk_seq ?_
  refine gk_region ?_
  refine gk_y rfl rfl (y_move rfl) ?_
  refine gk_y rfl rfl (y_neq rfl rfl) ?_
  refine gk_nil (gk_sub (T' := [(2,_), (3,_), (4,_), (6,_), (7,_), (11,_)]) ⟨rfl, rfl, rfl, rfl, rfl, rfl, trivial⟩ ?_)
  refine gk_cond rfl (fun hc11 => ?_) (fun hc11 => ?_)
  · have hk : ¬ checkI s = 0 := by simpa using hc11
    refine gk_seq ?_
    refine gk_region ?_
    refine gk_y rfl rfl (y_move rfl) ?_
    refine gk_y rfl rfl (y_assign rfl) ?_
    refine gk_nil (gk_sub (T' := [(2,_), (3,_), (4,_), (6,_)]) ⟨rfl, rfl, rfl, rfl, trivial⟩ ?_)
    refine gk_ret ?_
    refine gk_pure (rv_one rfl (r1_tmp rfl)) ?_
    rw [struckE, if_pos hk]
  · have hk : checkI s = 0 := by simpa using hc11
    refine gk_skip ?_
    refine gk_seq ?_
    refine gk_block ?_
    refine gk_seq ?_
    refine gk_region ?_
    refine gk_y rfl rfl (y_loadBA 1 tf52 rfl rfl (vs := [_, _, _, _, _, _]) rfl rfl) ?_
    refine gk_y rfl rfl (y_loadBA 0 tf50 rfl rfl (vs := [_, _]) rfl rfl) ?_
    refine gk_y rfl rfl (y_call en48 rfl (fun w hw => edge_c _ _ s p w (Rd.has (Has.rd hl) hw) (by assumption))) ?_
    refine gk_y rfl rfl (y_lss rfl rfl) ?_
    refine gk_y rfl rfl (y_assign rfl) ?_
    refine gk_nil (gk_sub (T' := [(2,_), (6,_), (13,_)]) ⟨rfl, rfl, rfl, trivial⟩ ?_)
    refine gk_cond rfl (fun hc13 => ?_) (fun hc13 => ?_)
    · have hc13 := of_decide_eq_true hc13
      refine gk_seq ?_
      refine gk_region ?_
      refine gk_y rfl rfl (y_assign rfl) ?_
      refine gk_nil (gk_sub (T' := [(6,_)]) ⟨rfl, trivial⟩ ?_)
      refine gk_ret ?_
      refine gk_pure (rv_one rfl (r1_tmp rfl)) ?_
      rw [struckE, if_neg (fun h => h hk), if_pos hc13]
    · have hc13 := of_decide_eq_false hc13
      refine gk_seq ?_
      refine gk_region ?_
      refine gk_y rfl rfl (y_move rfl) ?_
      refine gk_y rfl rfl (y_call en55 rfl (fun w hw => within_c _ _ _ w)) ?_
      refine gk_y rfl rfl (y_not rfl) ?_
      refine gk_y rfl rfl (y_assign rfl) ?_
      refine gk_nil (gk_sub (T' := [(6,_), (18,_)]) ⟨rfl, rfl, trivial⟩ ?_)
      refine gk_cond rfl (fun hc18 => ?_) (fun hc18 => ?_)
      · skip
        refine gk_seq ?_
        refine gk_region ?_
        refine gk_y rfl rfl (y_assign rfl) ?_
        refine gk_nil (gk_sub (T' := [(6,_)]) ⟨rfl, trivial⟩ ?_)
        refine gk_ret ?_
        refine gk_pure (rv_one rfl (r1_tmp rfl)) ?_
        rw [struckE, if_neg (fun h => h hk), if_neg hc13, if_pos (by simpa only [Bool.not_eq_true'] using hc18)]
      · skip
        refine gk_skip ?_
        refine gk_seq ?_
        refine gk_region ?_
        refine gk_y rfl rfl (y_assign rfl) ?_
        refine gk_nil (gk_sub (T' := [(6,_)]) ⟨rfl, trivial⟩ ?_)
        refine gk_ret ?_
        refine gk_pure (rv_one rfl (r1_tmp rfl)) ?_
        rw [struckE, if_neg (fun h => h hk), if_neg hc13, if_neg (by rw [show (decide (0 ≤ t) && decide (t ≤ 100)) = true from by simpa only [Bool.not_eq_false'] using hc18]; exact fun h => Bool.false_ne_true h.symm)]
theorem outcomes_len {s : Stn} {p : Pt} {t : Int} (hv : checkI s = 0) (hi : 0 ≤ findI (eqB p) (borderL s.shape)) : (outcomesL s p t).length ≤ 24000 := by
  have hnear := check_near hv
  have hlen := check_len hv
  have hbl := border_len hnear
  have h1 := rotB_len hi (findI_lt _ hi)
  have h2 := List.length_filter_le (outB s p t) (rotB (borderL s.shape) (findI (eqB p) (borderL s.shape)))
  unfold outcomesL
  omega
theorem struck_ok {s : Stn} {p : Pt} {t : Int} (h : struckE s p t = 0) : checkI s = 0 := by
  unfold struckE at h
  by_cases hk : checkI s = 0
  · exact hk
  · rw [if_pos hk] at h; exact absurd h hk
set_option maxRecDepth 100000 in
set_option maxHeartbeats 1000000 in
theorem Outcomes_c (a : Option Addr) (cap : Nat) (s : Stn) (p : Pt) (t : Int) (w : World) (hl : Has w (Pts a s.shape)) (hs : Small s.shape.length) (hin : struckE s p t = 0 → 0 ≤ findI (eqB p) (borderL s.shape)) :
    Calls Tryz.prog 22 #[.agg #[.string s.name, .slice a s.shape.length cap, .int .i64 s.depth, .int .i64 s.density, .int .i64 s.grain.x, .int .i64 s.grain.z], .agg #[.int .i64 p.x, .int .i64 p.z], .int .i64 t] w (Gives (fun z : Option Addr × Nat => .tuple #[.slice z.1 (outL s p t).length z.2, .int .i64 (struckE s p t)]) (fun z => Row z.1 2 z.2 50 encPt (outL s p t)) w) := by
  refine calls_of_gk (vs := [_, _, _]) Tryz.func22 rfl rfl (Nat.le_of_ble_eq_true rfl) ?_
  refine gk_seq ?_
  refine gk_region ?_
  refine gk_yx rfl rfl (yx_box (vs := [_, _, _, _, _, _]) rfl rfl) fun b3 => ?_
  refine gk_yx rfl rfl (yx_box (vs := [_, _]) rfl rfl) fun b4 => ?_
  refine gk_y rfl rfl (y_assign rfl) ?_
  refine gk_y rfl rfl (y_assign rfl) ?_
  refine gk_nil (gk_sub (T' := [(2,_), (3,_), (4,_), (6,_), (7,_)]) ⟨rfl, rfl, rfl, rfl, rfl, trivial⟩ ?_)
  refine gk_seq ?_
  refine gk_seq ?_
  refine gk_region ?_
  refine gk_y rfl rfl (y_loadBA 1 tf52 rfl rfl (vs := [_, _, _, _, _, _]) rfl rfl) ?_
  refine gk_y rfl rfl (y_loadBA 0 tf50 rfl rfl (vs := [_, _]) rfl rfl) ?_
  refine gk_y rfl rfl (y_move rfl) ?_
  refine gk_y rfl rfl (y_call en52 rfl (fun w hw => struck_c _ _ s p t w (Rd.has (Has.rd hl) hw) (by assumption))) ?_
  refine gk_y rfl rfl (y_assign rfl) ?_
  refine gk_nil (gk_sub (T' := [(2,_), (3,_), (4,_), (6,_), (7,_), (8,_)]) ⟨rfl, rfl, rfl, rfl, rfl, rfl, trivial⟩ ?_)
  refine gk_seq ?_
  refine gk_region ?_
  refine gk_y rfl rfl (y_move rfl) ?_
  refine gk_y rfl rfl (y_neq rfl rfl) ?_
  refine gk_nil (gk_sub (T' := [(2,_), (3,_), (4,_), (6,_), (7,_), (8,_), (14,_)]) ⟨rfl, rfl, rfl, rfl, rfl, rfl, rfl, trivial⟩ ?_)
  refine gk_cond rfl (fun hc14 => ?_) (fun hc14 => ?_)
  · have hk : ¬ struckE s p t = 0 := by simpa using hc14
    refine gk_newNil 50 encPt 2 ?_
    refine gk_seq ?_
    refine gk_region ?_
    refine gk_y rfl rfl (y_move rfl) ?_
    refine gk_y rfl rfl (y_assign rfl) ?_
    refine gk_y rfl rfl (y_assign rfl) ?_
    refine gk_nil (gk_sub (T' := [(2,_), (3,_), (4,_), (6,_), (7,_)]) ⟨rfl, rfl, rfl, rfl, rfl, trivial⟩ ?_)
    refine gk_ret ?_
    refine gk_gives (none, 0) 0 (rv_two rfl (r1_tmp rfl) (r1_tmp rfl)) ?_ (by simp only [outL, if_neg hk]; rfl)
    simp only [outL, if_neg hk]; rfl
  · have hk : struckE s p t = 0 := by simpa using hc14
    have hv := struck_ok hk
    refine gk_skip ?_
    refine gk_seq ?_
    refine gk_region ?_
    refine gk_y rfl rfl (y_loadBA 1 tf52 rfl rfl (vs := [_, _, _, _, _, _]) rfl rfl) ?_
    refine gk_y rfl rfl (y_loadBA 0 tf50 rfl rfl (vs := [_, _]) rfl rfl) ?_
    refine gk_y rfl rfl (y_move rfl) ?_
    refine gk_yx rfl rfl (yx_call en54 rfl (fun w hw => outcomes_c _ _ s p t w)) fun p19 => gk_split ?_
    refine gk_yx rfl rfl (yx_call en53 rfl (fun w hw => collect_c (outcomesL s p t) _ [_, _, _] w (by have := outcomes_len (t := t) hv (hin hk); unfold Small; omega) (fun w' => Has w' (Box p19.1 [.string s.name, .slice a s.shape.length cap, .int .i64 s.depth, .int .i64 s.density, .int .i64 s.grain.x, .int .i64 s.grain.z] 52) ∧ Has w' (Box p19.2.1 [.int .i64 p.x, .int .i64 p.z] 50) ∧ Has w' (Box p19.2.2 [.int .i64 t] 3) ∧ Has w' (Pts a s.shape)) (fun w' hx => ⟨Has.ext (hw.has (p := 0) rfl) hx, Has.ext (hw.has (p := 1) rfl) hx, Has.ext (hw.has (p := 2) rfl) hx, Has.ext (Rd.has (Has.rd hl) hw) hx⟩) en90 (outcomes1_c _ _ s p t _ _ _ hv (hin hk)))) fun p20 => ?_
    refine gk_y rfl rfl (y_assign rfl) ?_
    refine gk_y rfl rfl (y_assign rfl) ?_
    refine gk_nil (gk_sub (T' := [(6,_), (7,_)]) ⟨rfl, rfl, trivial⟩ ?_)
    refine gk_ret ?_
    refine gk_gives p20 0 (rv_two rfl (r1_tmp rfl) (r1_tmp rfl)) ?_ (by simp only [outL, if_pos hk]; rfl)
    rw [hk]; simp only [outL, if_pos hk]
end Go.Proofs.YtmpaebfjnjmmlaaGreatDoor
