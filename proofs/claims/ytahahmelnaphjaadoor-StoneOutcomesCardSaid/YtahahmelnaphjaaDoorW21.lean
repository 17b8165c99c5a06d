/- Walks: areas and blows in the document's own program; what is sure of a blow; the law StoneOutcomes. No statement of the seat is proved in this text. -/
import Derived.Test.YtahahmelnaphjaaDoorW16
import Derived.Test.YtahahmelnaphjaaDoorL12
namespace Go.Proofs.YtahahmelnaphjaaDoor
open Go.K Go.Stn Go.RowKit
theorem tf2 : TF Tryd.prog 2 false 1 (.int IntKind.i64 0) := ⟨by kernel_rfl, by kernel_rfl⟩
theorem en30 : En Tryd.prog 30 := en_of Tryd.func30 (by kernel_rfl) (by kernel_rfl)
private theorem en33 : En Tryd.prog 33 := en_of Tryd.func33 (by kernel_rfl) (by kernel_rfl)
theorem en36 : En Tryd.prog 36 := en_of Tryd.func36 (by kernel_rfl) (by kernel_rfl)
private theorem en37 : En Tryd.prog 37 := en_of Tryd.func37 (by kernel_rfl) (by kernel_rfl)
theorem en38 : En Tryd.prog 38 := en_of Tryd.func38 (by kernel_rfl) (by kernel_rfl)
theorem en39 : En Tryd.prog 39 := en_of Tryd.func39 (by kernel_rfl) (by kernel_rfl)
theorem en46 : En Tryd.prog 46 := en_of Tryd.func46 (by kernel_rfl) (by kernel_rfl)
private theorem en72 : En Tryd.prog 72 := en_of Tryd.func72 (by kernel_rfl) (by kernel_rfl)
theorem en100 : En Tryd.prog 100 := en_of Tryd.func100 (by kernel_rfl) (by kernel_rfl)
set_option maxRecDepth 100000 in
theorem y_eql24 {c : Cx} {ds : List Deferred} {H : List Res} {T : List (Nat × Value)} {d : Option Nat} {ty : TypeId} {ps : String} {af : Array Edge} {g : Option (Nat × Bool)} {x y : Operand} {t' : TypeId} {a0 a1 c0 c1 : Int}
    (hx : evo T x = some (.agg #[.int .i64 a0, .int .i64 a1])) (hy : evo T y = some (.agg #[.int .i64 c0, .int .i64 c1])) (hP : c.P = Tryd.prog := by rfl) : Y c ds H T ⟨d, .binOp .eql 24 x y t', ty, ps, af, g⟩ (.bool ((decide (a0 = c0) && decide (a1 = c1)))) := by
  refine ⟨fun a w ha _ => ?_⟩
  unfold Yld
  simp only [execOp, ha.eval hx, ha.eval hy]
  rw [hP]
  by_cases h0 : a0 = c0
  · subst h0
    by_cases h1 : a1 = c1
    · subst h1
      (go_simp; try exact Ext.rfl)
    · (go_simp; try exact Ext.rfl)
  · (go_simp; try exact Ext.rfl)
set_option maxRecDepth 100000 in
theorem y_neq24 {c : Cx} {ds : List Deferred} {H : List Res} {T : List (Nat × Value)} {d : Option Nat} {ty : TypeId} {ps : String} {af : Array Edge} {g : Option (Nat × Bool)} {x y : Operand} {t' : TypeId} {a0 a1 c0 c1 : Int}
    (hx : evo T x = some (.agg #[.int .i64 a0, .int .i64 a1])) (hy : evo T y = some (.agg #[.int .i64 c0, .int .i64 c1])) (hP : c.P = Tryd.prog := by rfl) : Y c ds H T ⟨d, .binOp .neq 24 x y t', ty, ps, af, g⟩ (.bool (!(decide (a0 = c0) && decide (a1 = c1)))) := by
  refine ⟨fun a w ha _ => ?_⟩
  unfold Yld
  simp only [execOp, ha.eval hx, ha.eval hy]
  rw [hP]
  by_cases h0 : a0 = c0
  · subst h0
    by_cases h1 : a1 = c1
    · subst h1
      (go_simp; try exact Ext.rfl)
    · (go_simp; try exact Ext.rfl)
  · (go_simp; try exact Ext.rfl)

set_option maxRecDepth 100000 in
set_option maxHeartbeats 1000000 in
theorem rcross_c (a : Option Addr) (cap : Nat) (l : List Pt) (i : Int) (w : World) (hl : Has w (Pts a l)) (hs : Small l.length) (h0 : 0 ≤ i) (h1 : i < l.length) :
    Calls Tryd.prog 100 #[.slice a l.length cap, .int .i64 i] w (Pure (.int .i64 (rcrossW l i)) w) := by
  refine calls_of_gk (vs := [_, _]) Tryd.func100 rfl rfl (Nat.le_of_ble_eq_true rfl) ?_
  refine gk_seq ?_
  refine gk_region ?_
  refine gk_y rfl rfl (y_assign rfl) ?_
  refine gk_nil (gk_sub (T' := [(0,_), (1,_), (4,_)]) ⟨rfl, rfl, rfl, trivial⟩ ?_)
  refine gk_seq ?_
  refine gk_any 9 (fun _ => mixed) (by kernel_rfl) ?_
  refine ph_y (y_move rfl) ?_
  refine ph_y (y_move rfl) ?_
  refine ph_y (y_indexE se22 rfl rfl (fun _ hw => (Rd.has (Has.rd hl) hw)) (by omega) (by omega)) ?_
  refine ph_y (y_loadE (vs := [_, _]) tf24 rfl (fun _ hw => (Rd.has (Has.rd hl) hw)) (by omega) (by omega) rfl) ?_
  refine ph_y (y_move rfl) ?_
  refine ph_y (y_move rfl) ?_
  refine ph_y (y_call en67 rfl (fun w hw => next_c _ _ l i w (Rd.has (Has.rd hl) hw) (by assumption) (by omega) (by omega) (by omega))) ?_
  refine ph_yx (yx_alloc tf24 (zs := [_, _]) rfl) ?_
  refine ph_yx (yx_alloc tf24 (zs := [_, _]) rfl) ?_
  intro b6
  intro b5
  refine gk_sub (T' := [(4,_), (5,_), (6,_), (10,_), (13,_)]) ⟨rfl, rfl, rfl, rfl, rfl, trivial⟩ ?_
  refine gk_storeV 0 tf24 rfl rfl (vs := [_, _]) rfl rfl rfl rfl rfl ?_
  refine gk_storeV 1 tf24 rfl rfl (vs := [_, _]) rfl rfl rfl rfl rfl ?_
  refine gk_nil (gk_sub (T' := [(4,_), (5,_), (6,_)]) ⟨rfl, rfl, rfl, trivial⟩ ?_)
  refine gk_seq ?_
  refine gk_region ?_
  refine gk_y rfl rfl (y_fieldAddr fo24_0 rfl) ?_
  refine gk_y rfl rfl (y_loadB1 0 tf3 rfl rfl rfl) ?_
  refine gk_y rfl rfl (y_fieldAddr fo24_1 rfl) ?_
  refine gk_y rfl rfl (y_loadB1 1 tf3 rfl rfl rfl) ?_
  refine gk_y rfl rfl (y_mul rfl rfl) ?_
  refine gk_y rfl rfl (y_fieldAddr fo24_0 rfl) ?_
  refine gk_y rfl rfl (y_loadB1 1 tf3 rfl rfl rfl) ?_
  refine gk_y rfl rfl (y_fieldAddr fo24_1 rfl) ?_
  refine gk_y rfl rfl (y_loadB1 0 tf3 rfl rfl rfl) ?_
  refine gk_y rfl rfl (y_mul rfl rfl) ?_
  refine gk_y rfl rfl (y_sub rfl rfl) ?_
  refine gk_y rfl rfl (y_assign rfl) ?_
  refine gk_nil (gk_sub (T' := [(4,_)]) ⟨rfl, trivial⟩ ?_)
  refine gk_ret ?_
  refine gk_pure (rv_one rfl (r1_tmp rfl)) ?_
  rfl

set_option maxRecDepth 100000 in
set_option maxHeartbeats 1000000 in
theorem rtwice_c (a : Option Addr) (cap : Nat) (l : List Pt) (w : World) (hl : Has w (Pts a l)) (hs : Small l.length) :
    Calls Tryd.prog 46 #[.slice a l.length cap] w (Pure (.int .i64 (rtwice l)) w) := by
  refine calls_of_gk (vs := [_]) Tryd.func46 rfl rfl (Nat.le_of_ble_eq_true rfl) ?_
  refine gk_seq ?_
  refine gk_region ?_
  refine gk_y rfl rfl (y_assign rfl) ?_
  refine gk_nil (gk_sub (T' := [(0,_), (2,_)]) ⟨rfl, rfl, trivial⟩ ?_)
  refine gk_seq ?_
  refine gk_region ?_
  refine gk_y rfl rfl (y_assign rfl) ?_
  refine gk_nil (gk_sub (T' := [(0,_), (2,_), (3,_)]) ⟨rfl, rfl, rfl, trivial⟩ ?_)
  refine gk_seq ?_
  refine gk_seq ?_
  refine gk_region ?_
  refine gk_y rfl rfl (y_assign rfl) ?_
  refine gk_nil (gk_sub (T' := [(0,_), (2,_), (3,_), (4,_)]) ⟨rfl, rfl, rfl, rfl, trivial⟩ ?_)
  refine gk_block ?_
  refine gk_loop (X := Int) (fun i => [(0, .slice a l.length cap), (2, .int .i64 0), (3, .int .i64 (rtwiceN l i.toNat)), (4, .int .i64 i)]) (fun i => []) (fun i => (0 ≤ i ∧ i ≤ l.length)) (fun i => (l.length - i).toNat) 0 ⟨rfl, rfl, rfl, rfl, trivial⟩ rfl ?_ ?_
  · exact ⟨by omega, by omega⟩
  · rintro i hI
    obtain ⟨g0, g1⟩ := hI
    refine gk_seq ?_
    refine gk_seq ?_
    refine gk_region ?_
    refine gk_y rfl rfl (y_move rfl) ?_
    refine gk_y rfl rfl (y_move rfl) ?_
    refine gk_y rfl rfl (y_lenS (Tryd.underlying22) rfl) ?_
    refine gk_y rfl rfl (y_lss rfl rfl) ?_
    refine gk_nil (gk_sub (T' := [(0,_), (2,_), (3,_), (4,_), (8,_)]) ⟨rfl, rfl, rfl, rfl, rfl, trivial⟩ ?_)
    refine gk_cond rfl (fun hc8 => ?_) (fun hc8 => ?_)
    · simp only [decide_eq_true_eq] at hc8
      refine gk_skip ?_
      refine gk_seq ?_
      refine gk_block ?_
      refine gk_region ?_
      refine gk_y rfl rfl (y_move rfl) ?_
      refine gk_y rfl rfl (y_move rfl) ?_
      refine gk_y rfl rfl (y_move rfl) ?_
      refine gk_y rfl rfl (y_call en100 rfl (fun w hw => rcross_c _ _ l i w (Rd.has (Has.rd hl) hw) (by assumption) (by omega) (by omega))) ?_
      refine gk_y rfl rfl (y_add rfl rfl) ?_
      refine gk_y rfl rfl (y_assign rfl) ?_
      refine gk_nil (gk_sub (T' := [(0,_), (2,_), (3,_), (4,_)]) ⟨rfl, rfl, rfl, rfl, trivial⟩ ?_)
      refine gk_sub (T' := [(0,_), (2,_), (3, .int .i64 (rtwiceN l (i + 1).toNat)), (4,_)]) ⟨rfl, rfl, (by rw [rtwice_succ g0]; rfl), rfl, trivial⟩ ?_
      refine gk_region ?_
      refine gk_y rfl rfl (y_move rfl) ?_
      refine gk_y rfl rfl (y_addI rfl rfl (by omega) (by omega)) ?_
      refine gk_y rfl rfl (y_assign rfl) ?_
      refine gk_nil (gk_sub (T' := [(0,_), (2,_), (3,_), (4,_)]) ⟨rfl, rfl, rfl, rfl, trivial⟩ ?_)
      exact gk_next (i + 1) ⟨rfl, rfl, rfl, rfl, trivial⟩ rfl ⟨by omega, by omega⟩ (by omega)
    · simp only [decide_eq_false_iff_not] at hc8
      refine gk_exit rfl ?_
      refine gk_seq ?_
      refine gk_region ?_
      refine gk_y rfl rfl (y_move rfl) ?_
      refine gk_y rfl rfl (y_assign rfl) ?_
      refine gk_nil (gk_sub (T' := [(2,_)]) ⟨rfl, trivial⟩ ?_)
      refine gk_ret ?_
      refine gk_pure (rv_one rfl (r1_tmp rfl)) ?_
      rw [show i.toNat = l.length from by omega]; rfl

set_option maxRecDepth 100000 in
set_option maxHeartbeats 1000000 in
theorem routs_c (a : Option Addr) (cap : Nat) (s : Stn) (p : Pt) (t : Int) (w : World) (hl : Has w (Pts a s.shape)) (hs : Small s.shape.length) (hck : checkI s = 0) :
    Calls Tryd.prog 38 #[.agg #[.string s.name, .slice a s.shape.length cap, .int .i64 s.depth, .int .i64 s.density, .int .i64 s.grain.x, .int .i64 s.grain.z], .agg #[.int .i64 p.x, .int .i64 p.z], .int .i64 t] w (Gives (fun z : Option Addr × Nat => .slice z.1 (routL s p t).length z.2) (fun z => Row z.1 2 z.2 24 encPt (routL s p t)) w) := by
  have hnear := check_near hck
  have hlen := check_len hck
  have hbe := rborder_eq hnear
  have hbl := border_len hnear
  rw [← hbe] at hbl
  obtain ⟨e0, e1, e2⟩ := rlast_in (l := rborderL s.shape) (p := p) (rborderL s.shape).length
  have hbs : Small (rborderL s.shape).length := by unfold Small; omega
  refine calls_of_gk (vs := [_, _, _]) Tryd.func38 rfl rfl (Nat.le_of_ble_eq_true rfl) ?_
  refine gk_seq ?_
  refine gk_region ?_
  refine gk_yx rfl rfl (yx_box (vs := [_, _, _, _, _, _]) rfl rfl) fun b3 => ?_
  refine gk_yx rfl rfl (yx_box (vs := [_, _]) rfl rfl) fun b4 => ?_
  refine gk_y rfl rfl (y_assign rfl) ?_
  refine gk_nil (gk_sub (T' := [(2,_), (3,_), (4,_), (6,_)]) ⟨rfl, rfl, rfl, rfl, trivial⟩ ?_)
  refine gk_seq ?_
  refine gk_region ?_
  refine gk_y rfl rfl (y_fieldAddr fo26_1 rfl) ?_
  refine gk_y rfl rfl (y_loadB1 1 tf22 rfl rfl rfl) ?_
  refine gk_yx rfl rfl (yx_call en25 rfl (fun w hw => rborder_c _ _ s.shape w (Rd.has (Has.rd hl) hw) (by assumption) (by assumption) (by omega))) fun p19 => ?_
  refine gk_y rfl rfl (y_assign rfl) ?_
  refine gk_nil (gk_sub (T' := [(2,_), (3,_), (4,_), (6,_), (7,_)]) ⟨rfl, rfl, rfl, rfl, rfl, trivial⟩ ?_)
  refine gk_seq ?_
  refine gk_region ?_
  refine gk_y rfl rfl (y_assign rfl) ?_
  refine gk_nil (gk_sub (T' := [(2,_), (3,_), (4,_), (6,_), (7,_), (8,_)]) ⟨rfl, rfl, rfl, rfl, rfl, rfl, trivial⟩ ?_)
  refine gk_seq ?_
  refine gk_seq ?_
  refine gk_region ?_
  refine gk_y rfl rfl (y_assign rfl) ?_
  refine gk_nil (gk_sub (T' := [(2,_), (3,_), (4,_), (6,_), (7,_), (8,_), (9,_)]) ⟨rfl, rfl, rfl, rfl, rfl, rfl, rfl, trivial⟩ ?_)
  refine gk_block ?_
  refine gk_loop (X := Int) (fun i => [(2, .int .i64 t), (3, .pointer (some ⟨b3, 0, none⟩)), (4, .pointer (some ⟨b4, 0, none⟩)), (6, .slice none 0 0), (7, .slice p19.1 (rborderL s.shape).length p19.2), (8, .int .i64 (rlastN (rborderL s.shape) p i.toNat)), (9, .int .i64 i)]) (fun i => [Row p19.1 2 p19.2 24 encPt (rborderL s.shape), Box b4 [.int .i64 p.x, .int .i64 p.z] 24, Box b3 [.string s.name, .slice a s.shape.length cap, .int .i64 s.depth, .int .i64 s.density, .int .i64 s.grain.x, .int .i64 s.grain.z] 26]) (fun i => (0 ≤ i ∧ i ≤ (rborderL s.shape).length)) (fun i => ((rborderL s.shape).length - i).toNat) 0 ⟨rfl, rfl, rfl, rfl, rfl, rfl, rfl, trivial⟩ rfl ?_ ?_
  · exact ⟨by omega, by omega⟩
  · rintro i hI
    obtain ⟨g0, g1⟩ := hI
    refine gk_seq ?_
    refine gk_seq ?_
    refine gk_region ?_
    refine gk_y rfl rfl (y_move rfl) ?_
    refine gk_y rfl rfl (y_move rfl) ?_
    refine gk_y rfl rfl (y_lenS (Tryd.underlying22) rfl) ?_
    refine gk_y rfl rfl (y_lss rfl rfl) ?_
    refine gk_nil (gk_sub (T' := [(2,_), (3,_), (4,_), (6,_), (7,_), (8,_), (9,_), (23,_)]) ⟨rfl, rfl, rfl, rfl, rfl, rfl, rfl, rfl, trivial⟩ ?_)
    refine gk_cond rfl (fun hc23 => ?_) (fun hc23 => ?_)
    · simp only [decide_eq_true_eq] at hc23
      refine gk_skip ?_
      refine gk_seq ?_
      refine gk_block ?_
      refine gk_seq ?_
      refine gk_any 6 (fun _ => mixed) (by kernel_rfl) ?_
      refine ph_y (y_move rfl) ?_
      refine ph_y (y_move rfl) ?_
      refine ph_y (y_indexE se22 rfl rfl (fun _ hw => (has_row encPt_ok (hw.has (p := 0) rfl))) (by omega) (by omega)) ?_
      refine ph_y (y_loadE (vs := [_, _]) tf24 rfl (fun _ hw => (has_row encPt_ok (hw.has (p := 0) rfl))) (by omega) (by omega) rfl) ?_
      refine ph_y (y_loadBA 1 tf24 rfl rfl (vs := [_, _]) rfl rfl) ?_
      refine ph_y (y_eql24 rfl rfl) ?_
      refine gk_nil (gk_sub (T' := [(2,_), (3,_), (4,_), (6,_), (7,_), (8,_), (9,_), (31,_)]) ⟨rfl, rfl, rfl, rfl, rfl, rfl, rfl, rfl, trivial⟩ ?_)
      refine gk_cond rfl (fun hc31 => ?_) (fun hc31 => ?_)
      · have hfs := rlast_succ (l := rborderL s.shape) (p := p) g0
        rw [if_pos (show eqB (ptAt (rborderL s.shape) i) p = true from hc31)] at hfs
        refine gk_region ?_
        refine gk_y rfl rfl (y_move rfl) ?_
        refine gk_y rfl rfl (y_assign rfl) ?_
        refine gk_nil (gk_sub (T' := [(2,_), (3,_), (4,_), (6,_), (7,_), (8,_), (9,_)]) ⟨rfl, rfl, rfl, rfl, rfl, rfl, rfl, trivial⟩ ?_)
        refine gk_region ?_
        refine gk_y rfl rfl (y_move rfl) ?_
        refine gk_y rfl rfl (y_addI rfl rfl (by omega) (by omega)) ?_
        refine gk_y rfl rfl (y_assign rfl) ?_
        refine gk_nil (gk_sub (T' := [(2,_), (3,_), (4,_), (6,_), (7,_), (8,_), (9,_)]) ⟨rfl, rfl, rfl, rfl, rfl, rfl, rfl, trivial⟩ ?_)
        refine gk_sub (T' := [(2,_), (3,_), (4,_), (6,_), (7,_), (8, .int .i64 (rlastN (rborderL s.shape) p (i + 1).toNat)), (9,_)]) ⟨rfl, rfl, rfl, rfl, rfl, (by rw [hfs]; rfl), rfl, trivial⟩ ?_
        exact gk_next (i + 1) ⟨rfl, rfl, rfl, rfl, rfl, rfl, rfl, trivial⟩ rfl ⟨by omega, by omega⟩ (by omega)
      · have hfs := rlast_succ (l := rborderL s.shape) (p := p) g0
        rw [if_neg (by rw [show eqB (ptAt (rborderL s.shape) i) p = false from hc31]; exact Bool.false_ne_true)] at hfs
        refine gk_skip ?_
        refine gk_region ?_
        refine gk_y rfl rfl (y_move rfl) ?_
        refine gk_y rfl rfl (y_addI rfl rfl (by omega) (by omega)) ?_
        refine gk_y rfl rfl (y_assign rfl) ?_
        refine gk_nil (gk_sub (T' := [(2,_), (3,_), (4,_), (6,_), (7,_), (8,_), (9,_)]) ⟨rfl, rfl, rfl, rfl, rfl, rfl, rfl, trivial⟩ ?_)
        refine gk_sub (T' := [(2,_), (3,_), (4,_), (6,_), (7,_), (8, .int .i64 (rlastN (rborderL s.shape) p (i + 1).toNat)), (9,_)]) ⟨rfl, rfl, rfl, rfl, rfl, (by rw [hfs]; rfl), rfl, trivial⟩ ?_
        exact gk_next (i + 1) ⟨rfl, rfl, rfl, rfl, rfl, rfl, rfl, trivial⟩ rfl ⟨by omega, by omega⟩ (by omega)
    · simp only [decide_eq_false_iff_not] at hc23
      refine gk_exit rfl ?_
      refine gk_seq ?_
      refine gk_region ?_
      refine gk_y rfl rfl (y_assign rfl) ?_
      refine gk_nil (gk_sub (T' := [(2,_), (3,_), (4,_), (6,_), (7,_), (8,_), (10,_)]) ⟨rfl, rfl, rfl, rfl, rfl, rfl, rfl, trivial⟩ ?_)
      refine gk_sub (T' := [(2,_), (3,_), (4,_), (6,_), (7,_), (8, .int .i64 (rlastN (rborderL s.shape) p (rborderL s.shape).length)), (10,_)]) ⟨rfl, rfl, rfl, rfl, rfl, (by rw [show i.toNat = (rborderL s.shape).length from by omega]; rfl), rfl, trivial⟩ ?_
      refine gk_seq ?_
      refine gk_seq ?_
      refine gk_region ?_
      refine gk_y rfl rfl (y_assign rfl) ?_
      refine gk_nil (gk_sub (T' := [(2,_), (3,_), (4,_), (6,_), (7,_), (8,_), (10,_), (11,_)]) ⟨rfl, rfl, rfl, rfl, rfl, rfl, rfl, rfl, trivial⟩ ?_)
      refine gk_block ?_
      refine gk_newNil 24 encPt 2 ?_
      refine gk_loop (X := Int × Option Addr × Nat × List Pt) (fun ⟨i, b, bc, m⟩ => [(2, .int .i64 t), (3, .pointer (some ⟨b3, 0, none⟩)), (4, .pointer (some ⟨b4, 0, none⟩)), (6, .slice none 0 0), (7, .slice p19.1 (rborderL s.shape).length p19.2), (8, .int .i64 (rlastN (rborderL s.shape) p (rborderL s.shape).length)), (10, .slice b m.length bc), (11, .int .i64 i)]) (fun ⟨i, b, bc, m⟩ => [Row b 2 bc 24 encPt m, Row p19.1 2 p19.2 24 encPt (rborderL s.shape), Box b4 [.int .i64 p.x, .int .i64 p.z] 24, Box b3 [.string s.name, .slice a s.shape.length cap, .int .i64 s.depth, .int .i64 s.density, .int .i64 s.grain.x, .int .i64 s.grain.z] 26]) (fun ⟨i, b, bc, m⟩ => (1 ≤ i ∧ (i ≤ (rborderL s.shape).length ∨ i = 1) ∧ m = routO s p t (rborderL s.shape) (rlastN (rborderL s.shape) p (rborderL s.shape).length) (i - 1).toNat ∧ m.length ≤ i.toNat)) (fun ⟨i, b, bc, m⟩ => ((rborderL s.shape).length - i).toNat) (1, none, 0, []) ⟨rfl, rfl, rfl, rfl, rfl, rfl, rfl, rfl, trivial⟩ rfl ?_ ?_
      · exact ⟨by omega, .inr rfl, rfl, by simp⟩
      · rintro ⟨i, b, bc, m⟩ hI
        obtain ⟨g0, g1, g2, g3⟩ := hI
        have q0 : 0 ≤ (rlastN (rborderL s.shape) p (rborderL s.shape).length + i).tmod ((rborderL s.shape).length : Int) := Int.tmod_nonneg _ (by omega)
        have q1 : ((rborderL s.shape).length : Int) ≠ 0 → (rlastN (rborderL s.shape) p (rborderL s.shape).length + i).tmod ((rborderL s.shape).length : Int) < ((rborderL s.shape).length : Int) := fun h => Int.tmod_lt_of_pos _ (by omega)
        refine gk_seq ?_
        refine gk_seq ?_
        refine gk_region ?_
        refine gk_y rfl rfl (y_move rfl) ?_
        refine gk_y rfl rfl (y_move rfl) ?_
        refine gk_y rfl rfl (y_lenS (Tryd.underlying22) rfl) ?_
        refine gk_y rfl rfl (y_lss rfl rfl) ?_
        refine gk_nil (gk_sub (T' := [(2,_), (3,_), (4,_), (6,_), (7,_), (8,_), (10,_), (11,_), (36,_)]) ⟨rfl, rfl, rfl, rfl, rfl, rfl, rfl, rfl, rfl, trivial⟩ ?_)
        refine gk_cond rfl (fun hc36 => ?_) (fun hc36 => ?_)
        · simp only [decide_eq_true_eq] at hc36
          refine gk_skip ?_
          refine gk_seq ?_
          refine gk_block ?_
          refine gk_seq ?_
          refine gk_region ?_
          refine gk_y rfl rfl (y_move rfl) ?_
          refine gk_y rfl rfl (y_move rfl) ?_
          refine gk_y rfl rfl (y_move rfl) ?_
          refine gk_y rfl rfl (y_addI rfl rfl (by omega) (by omega)) ?_
          refine gk_y rfl rfl (y_move rfl) ?_
          refine gk_y rfl rfl (y_lenS (Tryd.underlying22) rfl) ?_
          refine gk_y rfl rfl (y_rem rfl rfl (by omega)) ?_
          refine gk_y rfl rfl (y_indexE se22 rfl rfl (fun _ hw => (has_row encPt_ok (hw.has (p := 1) rfl))) (by omega) (by omega)) ?_
          refine gk_y rfl rfl (y_loadE (vs := [_, _]) tf24 rfl (fun _ hw => (has_row encPt_ok (hw.has (p := 1) rfl))) (by omega) (by omega) rfl) ?_
          refine gk_yx rfl rfl (yx_alloc tf24 (zs := [_, _]) rfl) fun b12 => ?_
          refine gk_storeV 0 tf24 rfl rfl (vs := [_, _]) rfl rfl rfl rfl rfl ?_
          refine gk_nil (gk_sub (T' := [(2,_), (3,_), (4,_), (6,_), (7,_), (8,_), (10,_), (11,_), (12,_)]) ⟨rfl, rfl, rfl, rfl, rfl, rfl, rfl, rfl, rfl, trivial⟩ ?_)
          refine gk_seq ?_
          refine gk_any 12 (fun _ => mixed) (by kernel_rfl) ?_
          refine ph_y (y_fieldAddr fo24_0 rfl) ?_
          refine ph_y (y_loadB1 0 tf3 rfl rfl rfl) ?_
          refine ph_y (y_fieldAddr fo24_0 rfl) ?_
          refine ph_y (y_loadB1 3 tf3 rfl rfl rfl) ?_
          refine ph_y (y_sub rfl rfl) ?_
          refine ph_y (y_fieldAddr fo24_1 rfl) ?_
          refine ph_y (y_loadB1 0 tf3 rfl rfl rfl) ?_
          refine ph_y (y_fieldAddr fo24_1 rfl) ?_
          refine ph_y (y_loadB1 3 tf3 rfl rfl rfl) ?_
          refine ph_y (y_sub rfl rfl) ?_
          refine ph_y (y_assign rfl) ?_
          refine ph_y (y_assign rfl) ?_
          refine gk_nil (gk_sub (T' := [(2,_), (3,_), (4,_), (6,_), (7,_), (8,_), (10,_), (11,_), (12,_), (13,_), (14,_)]) ⟨rfl, rfl, rfl, rfl, rfl, rfl, rfl, rfl, rfl, rfl, rfl, trivial⟩ ?_)
          refine gk_seq ?_
          refine gk_any 24 (fun _ => mixed) (by kernel_rfl) ?_
          refine ph_y (y_move rfl) ?_
          refine ph_y (y_fieldAddr fo26_4 rfl) ?_
          refine ph_y (y_fieldAddr fo24_1 rfl) ?_
          refine ph_y (y_loadB1 4 tf3 rfl rfl rfl) ?_
          refine ph_y (y_mul rfl rfl) ?_
          refine ph_y (y_move rfl) ?_
          refine ph_y (y_fieldAddr fo26_4 rfl) ?_
          refine ph_y (y_fieldAddr fo24_0 rfl) ?_
          refine ph_y (y_loadB1 4 tf3 rfl rfl rfl) ?_
          refine ph_y (y_mul rfl rfl) ?_
          refine ph_y (y_sub rfl rfl) ?_
          refine ph_y (y_move rfl) ?_
          refine ph_y (y_fieldAddr fo26_4 rfl) ?_
          refine ph_y (y_fieldAddr fo24_0 rfl) ?_
          refine ph_y (y_loadB1 4 tf3 rfl rfl rfl) ?_
          refine ph_y (y_mul rfl rfl) ?_
          refine ph_y (y_move rfl) ?_
          refine ph_y (y_fieldAddr fo26_4 rfl) ?_
          refine ph_y (y_fieldAddr fo24_1 rfl) ?_
          refine ph_y (y_loadB1 4 tf3 rfl rfl rfl) ?_
          refine ph_y (y_mul rfl rfl) ?_
          refine ph_y (y_add rfl rfl) ?_
          refine ph_y (y_assign rfl) ?_
          refine ph_y (y_assign rfl) ?_
          refine gk_nil (gk_sub (T' := [(2,_), (3,_), (4,_), (6,_), (7,_), (8,_), (10,_), (11,_), (12,_), (15,_), (16,_)]) ⟨rfl, rfl, rfl, rfl, rfl, rfl, rfl, rfl, rfl, rfl, rfl, trivial⟩ ?_)
          refine gk_seq ?_
          refine gk_any 19 (fun _ => mixed) (by kernel_rfl) ?_
          refine ph_y (y_fieldAddr fo26_1 rfl) ?_
          refine ph_y (y_loadB1 4 tf22 rfl rfl rfl) ?_
          refine ph_y (y_loadBA 3 tf24 rfl rfl (vs := [_, _]) rfl rfl) ?_
          refine ph_y (y_loadBA 0 tf24 rfl rfl (vs := [_, _]) rfl rfl) ?_
          refine ph_y (y_call en72 rfl (fun w hw => rapart_c _ _ s.shape p ((rborderL s.shape).getD ((Int.tmod ((rlastN (rborderL s.shape) p (rborderL s.shape).length) + i) ((rborderL s.shape).length : Int))).toNat default) w (Rd.has (Has.rd hl) hw) (by assumption))) ?_
          refine ph_y (y_move rfl) ?_
          refine ph_gT rfl rfl (fun hgd => by (try rw [hgd]); exact (y_move rfl)) ?_
          refine ph_gT rfl rfl (fun hgd => by (try rw [hgd]); exact (y_move rfl)) ?_
          refine ph_gT rfl rfl (fun hgd => by (try rw [hgd]); exact (y_neg rfl)) ?_
          refine ph_gT rfl rfl (fun hgd => by (try rw [hgd]); exact (y_max rfl rfl)) ?_
          refine ph_gT rfl rfl (fun hgd => by (try rw [hgd]); exact (y_mul rfl rfl)) ?_
          refine ph_gT rfl rfl (fun hgd => by (try rw [hgd]); exact (y_move rfl)) ?_
          refine ph_gT rfl rfl (fun hgd => by (try rw [hgd]); exact (y_move rfl)) ?_
          refine ph_gT rfl rfl (fun hgd => by (try rw [hgd]); exact (y_move rfl)) ?_
          refine ph_gT rfl rfl (fun hgd => by (try rw [hgd]); exact (y_neg rfl)) ?_
          refine ph_gT rfl rfl (fun hgd => by (try rw [hgd]); exact (y_max rfl rfl)) ?_
          refine ph_gT rfl rfl (fun hgd => by (try rw [hgd]); exact (y_mul rfl rfl)) ?_
          refine ph_gT rfl rfl (fun hgd => by (try rw [hgd]); exact (y_leq rfl rfl)) ?_
          refine ph_y (y_pickAnd rfl rfl rfl) ?_
          refine gk_nil (gk_sub (T' := [(2,_), (3,_), (4,_), (6,_), (7,_), (8,_), (10,_), (11,_), (12,_), (98,_)]) ⟨rfl, rfl, rfl, rfl, rfl, rfl, rfl, rfl, rfl, rfl, trivial⟩ ?_)
          refine gk_cond rfl (fun hc98 => ?_) (fun hc98 => ?_)
          · have hrt : routB s p t (routP (rborderL s.shape) (rlastN (rborderL s.shape) p (rborderL s.shape).length) i) = true := hc98
            refine gk_region ?_
            refine gk_y rfl rfl (y_move rfl) ?_
            refine gk_y rfl rfl (y_loadBA 0 tf24 rfl rfl (vs := [_, _]) rfl rfl) ?_
            refine gk_yx rfl rfl (yx_buildSlice rfl (bs22_1 _ _) encPt_ok rfl) fun b101 => ?_
            refine gk_append (m := [⟨(((rborderL s.shape).getD ((Int.tmod ((rlastN (rborderL s.shape) p (rborderL s.shape).length) + i) ((rborderL s.shape).length : Int))).toNat default).x), (((rborderL s.shape).getD ((Int.tmod ((rlastN (rborderL s.shape) p (rborderL s.shape).length) + i) ((rborderL s.shape).length : Int))).toNat default).z)⟩]) 2 af22 encPt_ok rfl rfl rfl rfl (fun _ hw => (has_row encPt_ok (hw.has (p := 0) rfl))) (by first | omega | (simp only [List.length_cons, List.length_nil]; omega)) (by first | (unfold maxLen; omega) | (simp only [List.length_cons, List.length_nil, maxLen]; omega)) fun a102 c102 => ?_
            refine gk_y rfl rfl (y_assign rfl) ?_
            refine gk_nil (gk_sub (T' := [(2,_), (3,_), (4,_), (6,_), (7,_), (8,_), (10,_), (11,_)]) ⟨rfl, rfl, rfl, rfl, rfl, rfl, rfl, rfl, trivial⟩ ?_)
            refine gk_region ?_
            refine gk_y rfl rfl (y_move rfl) ?_
            refine gk_y rfl rfl (y_addI rfl rfl (by omega) (by omega)) ?_
            refine gk_y rfl rfl (y_assign rfl) ?_
            refine gk_nil (gk_sub (T' := [(2,_), (3,_), (4,_), (6,_), (7,_), (8,_), (10,_), (11,_)]) ⟨rfl, rfl, rfl, rfl, rfl, rfl, rfl, rfl, trivial⟩ ?_)
            refine gk_dropAt 0 rfl ?_
            refine gk_dropAt 0 rfl ?_
            exact gk_next (i + 1, _, _, _) ⟨rfl, rfl, rfl, rfl, rfl, rfl, rfl, rfl, trivial⟩ rfl ⟨by omega, .inl (by omega), by rw [routO_succ g0, ← g2]; first | (rw [if_pos hrt]; rfl) | (rw [if_neg (by rw [hrt]; exact Bool.false_ne_true)]), by first | (rw [List.length_append]; simp only [List.length_cons, List.length_nil]; omega) | omega⟩ (by simp only []; omega)
          · have hrt : routB s p t (routP (rborderL s.shape) (rlastN (rborderL s.shape) p (rborderL s.shape).length) i) = false := hc98
            refine gk_skip ?_
            refine gk_region ?_
            refine gk_y rfl rfl (y_move rfl) ?_
            refine gk_y rfl rfl (y_addI rfl rfl (by omega) (by omega)) ?_
            refine gk_y rfl rfl (y_assign rfl) ?_
            refine gk_nil (gk_sub (T' := [(2,_), (3,_), (4,_), (6,_), (7,_), (8,_), (10,_), (11,_)]) ⟨rfl, rfl, rfl, rfl, rfl, rfl, rfl, rfl, trivial⟩ ?_)
            refine gk_dropAt 0 rfl ?_
            exact gk_next (i + 1, _, _, _) ⟨rfl, rfl, rfl, rfl, rfl, rfl, rfl, rfl, trivial⟩ rfl ⟨by omega, .inl (by omega), by rw [routO_succ g0, ← g2]; first | (rw [if_pos hrt]; rfl) | (rw [if_neg (by rw [hrt]; exact Bool.false_ne_true)]), by first | (rw [List.length_append]; simp only [List.length_cons, List.length_nil]; omega) | omega⟩ (by simp only []; omega)
        · simp only [decide_eq_false_iff_not] at hc36
          refine gk_exit rfl ?_
          refine gk_seq ?_
          refine gk_region ?_
          refine gk_y rfl rfl (y_move rfl) ?_
          refine gk_y rfl rfl (y_assign rfl) ?_
          refine gk_nil (gk_sub (T' := [(6,_)]) ⟨rfl, trivial⟩ ?_)
          obtain rfl : m = routL s p t := by rw [g2]; unfold routL; congr 1; omega
          refine gk_ret ?_
          refine gk_gives (b, bc) 0 (rv_one rfl (r1_tmp rfl)) ?_ rfl
          rfl

set_option maxRecDepth 100000 in
set_option maxHeartbeats 1000000 in
theorem rsure_c (a : Option Addr) (cap : Nat) (s : Stn) (p : Pt) (a2 : Option Addr) (c2 : Nat) (l : List Pt) (w : World) (hl : Has w (Pts a s.shape)) (hs : Small s.shape.length) (h12 : s.shape.length ≤ 12) (hl2 : Has w (Pts a2 l)) (hs2 : Small l.length) :
    Calls Tryd.prog 39 #[.agg #[.string s.name, .slice a s.shape.length cap, .int .i64 s.depth, .int .i64 s.density, .int .i64 s.grain.x, .int .i64 s.grain.z], .agg #[.int .i64 p.x, .int .i64 p.z], .slice a2 l.length c2] w (Pure (.int .i64 (rsure s p l)) w) := by
  refine calls_of_gk (vs := [_, _, _]) Tryd.func39 rfl rfl (Nat.le_of_ble_eq_true rfl) ?_
  refine gk_seq ?_
  refine gk_region ?_
  refine gk_yx rfl rfl (yx_box (vs := [_, _, _, _, _, _]) rfl rfl) fun b3 => ?_
  refine gk_yx rfl rfl (yx_box (vs := [_, _]) rfl rfl) fun b4 => ?_
  refine gk_y rfl rfl (y_assign rfl) ?_
  refine gk_nil (gk_sub (T' := [(2,_), (3,_), (4,_), (6,_)]) ⟨rfl, rfl, rfl, rfl, trivial⟩ ?_)
  refine gk_seq ?_
  refine gk_region ?_
  refine gk_y rfl rfl (y_assign rfl) ?_
  refine gk_nil (gk_sub (T' := [(2,_), (3,_), (4,_), (6,_), (7,_)]) ⟨rfl, rfl, rfl, rfl, rfl, trivial⟩ ?_)
  refine gk_seq ?_
  refine gk_seq ?_
  refine gk_region ?_
  refine gk_y rfl rfl (y_assign rfl) ?_
  refine gk_nil (gk_sub (T' := [(2,_), (3,_), (4,_), (6,_), (7,_), (8,_)]) ⟨rfl, rfl, rfl, rfl, rfl, rfl, trivial⟩ ?_)
  refine gk_block ?_
  refine gk_loop (X := Int) (fun i => [(2, .slice a2 l.length c2), (3, .pointer (some ⟨b3, 0, none⟩)), (4, .pointer (some ⟨b4, 0, none⟩)), (6, .int .i64 0), (7, .int .i64 (rsureN s p l i.toNat)), (8, .int .i64 i)]) (fun i => [Box b4 [.int .i64 p.x, .int .i64 p.z] 24, Box b3 [.string s.name, .slice a s.shape.length cap, .int .i64 s.depth, .int .i64 s.density, .int .i64 s.grain.x, .int .i64 s.grain.z] 26]) (fun i => (0 ≤ i ∧ i ≤ l.length)) (fun i => (l.length - i).toNat) 0 ⟨rfl, rfl, rfl, rfl, rfl, rfl, trivial⟩ rfl ?_ ?_
  · exact ⟨by omega, by omega⟩
  · rintro i hI
    obtain ⟨g0, g1⟩ := hI
    have hL1 := fun x y => leftO_len s.shape x y (fromN s.shape x y s.shape.length) s.shape.length
    have hla : (leftL s.shape p (l.getD i.toNat default)).length ≤ 14 := Nat.le_trans (hL1 _ _).2 (by omega)
    have hlb : (leftL s.shape (l.getD i.toNat default) p).length ≤ 14 := Nat.le_trans (hL1 _ _).2 (by omega)
    refine gk_seq ?_
    refine gk_seq ?_
    refine gk_region ?_
    refine gk_y rfl rfl (y_move rfl) ?_
    refine gk_y rfl rfl (y_move rfl) ?_
    refine gk_y rfl rfl (y_lenS (Tryd.underlying22) rfl) ?_
    refine gk_y rfl rfl (y_lss rfl rfl) ?_
    refine gk_nil (gk_sub (T' := [(2,_), (3,_), (4,_), (6,_), (7,_), (8,_), (13,_)]) ⟨rfl, rfl, rfl, rfl, rfl, rfl, rfl, trivial⟩ ?_)
    refine gk_cond rfl (fun hc13 => ?_) (fun hc13 => ?_)
    · simp only [decide_eq_true_eq] at hc13
      refine gk_skip ?_
      refine gk_seq ?_
      refine gk_block ?_
      refine gk_seq ?_
      refine gk_any 20 (fun _ => mixed) (by kernel_rfl) ?_
      refine ph_y (y_fieldAddr fo26_1 rfl) ?_
      refine ph_y (y_loadB1 1 tf22 rfl rfl rfl) ?_
      refine ph_y (y_loadBA 0 tf24 rfl rfl (vs := [_, _]) rfl rfl) ?_
      refine ph_y (y_move rfl) ?_
      refine ph_y (y_move rfl) ?_
      refine ph_y (y_indexE se22 rfl rfl (fun _ hw => (Rd.has (Has.rd hl2) hw)) (by omega) (by omega)) ?_
      refine ph_y (y_loadE (vs := [_, _]) tf24 rfl (fun _ hw => (Rd.has (Has.rd hl2) hw)) (by omega) (by omega) rfl) ?_
      refine ph_yx (yx_call en33 rfl (fun w hw => left_c _ _ s.shape p (l.getD (i).toNat default) w (Rd.has (Has.rd hl) hw) (by assumption))) ?_
      refine ph_y (fun p23 => y_call en46 rfl (fun w hw => rtwice_c _ _ (leftL s.shape p (l.getD (i).toNat default)) w (has_row encPt_ok (hw.has (p := 0) rfl)) (by first | assumption | (unfold Small; omega)))) ?_
      refine ph_y (y_fieldAddr fo26_1 rfl) ?_
      refine ph_y (y_loadB1 1 tf22 rfl rfl rfl) ?_
      refine ph_y (y_move rfl) ?_
      refine ph_y (y_move rfl) ?_
      refine ph_y (y_indexE se22 rfl rfl (fun _ hw => (Rd.has (Has.rd hl2) hw)) (by omega) (by omega)) ?_
      refine ph_y (y_loadE (vs := [_, _]) tf24 rfl (fun _ hw => (Rd.has (Has.rd hl2) hw)) (by omega) (by omega) rfl) ?_
      refine ph_y (y_loadBA 0 tf24 rfl rfl (vs := [_, _]) rfl rfl) ?_
      refine ph_yx (yx_call en33 rfl (fun w hw => left_c _ _ s.shape (l.getD (i).toNat default) p w (Rd.has (Has.rd hl) hw) (by assumption))) ?_
      refine ph_y (fun p32 => y_call en46 rfl (fun w hw => rtwice_c _ _ (leftL s.shape (l.getD (i).toNat default) p) w (has_row encPt_ok (hw.has (p := 0) rfl)) (by first | assumption | (unfold Small; omega)))) ?_
      refine ph_y (y_max rfl rfl) ?_
      refine ph_y (fun p32 p23 => y_assign rfl) ?_
      intro p32
      intro p23
      refine gk_nil (gk_sub (T' := [(2,_), (3,_), (4,_), (6,_), (7,_), (8,_), (9,_)]) ⟨rfl, rfl, rfl, rfl, rfl, rfl, rfl, trivial⟩ ?_)
      refine gk_seq ?_
      refine gk_any 7 (fun _ => mixed) (by kernel_rfl) ?_
      refine ph_y (y_move rfl) ?_
      refine ph_y (y_lss rfl rfl) ?_
      refine ph_y (y_move rfl) ?_
      refine ph_gF rfl rfl (fun hgd => by (try rw [hgd]); exact (y_move rfl)) ?_
      refine ph_gF rfl rfl (fun hgd => by (try rw [hgd]); exact (y_move rfl)) ?_
      refine ph_gF rfl rfl (fun hgd => by (try rw [hgd]); exact (y_lss rfl rfl)) ?_
      refine ph_y (y_pickOr rfl rfl rfl) ?_
      refine gk_nil (gk_sub (T' := [(2,_), (3,_), (4,_), (6,_), (7,_), (8,_), (9,_), (41,_)]) ⟨rfl, rfl, rfl, rfl, rfl, rfl, rfl, rfl, trivial⟩ ?_)
      refine gk_cond rfl (fun hc41 => ?_) (fun hc41 => ?_)
      · have hfs := rsure_succ (s := s) (p := p) g0 (by omega : i < (l.length : Int))
        unfold rsureF at hfs
        rw [if_pos (show (decide (rsureN s p l i.toNat < 0) || decide (rpartN s p (l.getD i.toNat default) < rsureN s p l i.toNat)) = true from hc41)] at hfs
        refine gk_region ?_
        refine gk_y rfl rfl (y_move rfl) ?_
        refine gk_y rfl rfl (y_assign rfl) ?_
        refine gk_nil (gk_sub (T' := [(2,_), (3,_), (4,_), (6,_), (7,_), (8,_)]) ⟨rfl, rfl, rfl, rfl, rfl, rfl, trivial⟩ ?_)
        refine gk_region ?_
        refine gk_y rfl rfl (y_move rfl) ?_
        refine gk_y rfl rfl (y_addI rfl rfl (by omega) (by omega)) ?_
        refine gk_y rfl rfl (y_assign rfl) ?_
        refine gk_nil (gk_sub (T' := [(2,_), (3,_), (4,_), (6,_), (7,_), (8,_)]) ⟨rfl, rfl, rfl, rfl, rfl, rfl, trivial⟩ ?_)
        refine gk_sub (T' := [(2,_), (3,_), (4,_), (6,_), (7, .int .i64 (rsureN s p l (i + 1).toNat)), (8,_)]) ⟨rfl, rfl, rfl, rfl, (by rw [hfs]; rfl), rfl, trivial⟩ ?_
        refine gk_dropAt 0 rfl ?_
        refine gk_dropAt 0 rfl ?_
        exact gk_next (i + 1) ⟨rfl, rfl, rfl, rfl, rfl, rfl, trivial⟩ rfl ⟨by omega, by omega⟩ (by omega)
      · have hfs := rsure_succ (s := s) (p := p) g0 (by omega : i < (l.length : Int))
        unfold rsureF at hfs
        rw [if_neg (by rw [show (decide (rsureN s p l i.toNat < 0) || decide (rpartN s p (l.getD i.toNat default) < rsureN s p l i.toNat)) = false from hc41]; exact Bool.false_ne_true)] at hfs
        refine gk_skip ?_
        refine gk_region ?_
        refine gk_y rfl rfl (y_move rfl) ?_
        refine gk_y rfl rfl (y_addI rfl rfl (by omega) (by omega)) ?_
        refine gk_y rfl rfl (y_assign rfl) ?_
        refine gk_nil (gk_sub (T' := [(2,_), (3,_), (4,_), (6,_), (7,_), (8,_)]) ⟨rfl, rfl, rfl, rfl, rfl, rfl, trivial⟩ ?_)
        refine gk_sub (T' := [(2,_), (3,_), (4,_), (6,_), (7, .int .i64 (rsureN s p l (i + 1).toNat)), (8,_)]) ⟨rfl, rfl, rfl, rfl, (by rw [hfs]; rfl), rfl, trivial⟩ ?_
        refine gk_dropAt 0 rfl ?_
        refine gk_dropAt 0 rfl ?_
        exact gk_next (i + 1) ⟨rfl, rfl, rfl, rfl, rfl, rfl, trivial⟩ rfl ⟨by omega, by omega⟩ (by omega)
    · simp only [decide_eq_false_iff_not] at hc13
      refine gk_exit rfl ?_
      refine gk_seq ?_
      refine gk_region ?_
      refine gk_y rfl rfl (y_move rfl) ?_
      refine gk_y rfl rfl (y_assign rfl) ?_
      refine gk_nil (gk_sub (T' := [(6,_)]) ⟨rfl, trivial⟩ ?_)
      refine gk_ret ?_
      refine gk_pure (rv_one rfl (r1_tmp rfl)) ?_
      rw [show rsureN s p l i.toNat = rsure s p l from by rw [show i.toNat = l.length from by omega, rsureN, List.take_length]; rfl]

set_option maxRecDepth 100000 in
set_option maxHeartbeats 1000000 in
theorem Sure_c (a : Option Addr) (cap : Nat) (s : Stn) (p : Pt) (t : Int) (w : World) (hl : Has w (Pts a s.shape)) (hs : Small s.shape.length) (hin : struckE s p t = 0 → 0 ≤ findI (eqB p) (borderL s.shape)) :
    Calls Tryd.prog 36 #[.agg #[.string s.name, .slice a s.shape.length cap, .int .i64 s.depth, .int .i64 s.density, .int .i64 s.grain.x, .int .i64 s.grain.z], .agg #[.int .i64 p.x, .int .i64 p.z], .int .i64 t] w (Pure (.tuple #[.int .i64 (sureI s p t), .int .i64 (sureE s p t)]) w) := by
  refine calls_of_gk (vs := [_, _, _]) Tryd.func36 rfl rfl (Nat.le_of_ble_eq_true rfl) ?_
  refine gk_seq ?_
  refine gk_region ?_
  refine gk_yx rfl rfl (yx_box (vs := [_, _, _, _, _, _]) rfl rfl) fun b3 => ?_
  refine gk_yx rfl rfl (yx_box (vs := [_, _]) rfl rfl) fun b4 => ?_
  refine gk_y rfl rfl (y_assign rfl) ?_
  refine gk_y rfl rfl (y_assign rfl) ?_
  refine gk_nil (gk_sub (T' := [(2,_), (3,_), (4,_), (6,_), (7,_)]) ⟨rfl, rfl, rfl, rfl, rfl, trivial⟩ ?_)
  refine gk_seq ?_
  refine gk_seq ?_
  refine gk_region ?_
  refine gk_y rfl rfl (y_loadBA 1 tf34 rfl rfl (vs := [_, _, _, _, _, _]) rfl rfl) ?_
  refine gk_y rfl rfl (y_loadBA 0 tf32 rfl rfl (vs := [_, _]) rfl rfl) ?_
  refine gk_y rfl rfl (y_move rfl) ?_
  refine gk_y rfl rfl (y_call en84 rfl (fun w hw => struck_c _ _ s p t w (Rd.has (Has.rd hl) hw) (by assumption))) ?_
  refine gk_y rfl rfl (y_assign rfl) ?_
  refine gk_nil (gk_sub (T' := [(2,_), (3,_), (4,_), (6,_), (7,_), (8,_)]) ⟨rfl, rfl, rfl, rfl, rfl, rfl, trivial⟩ ?_)
  refine gk_seq ?_
  refine gk_region ?_
  refine gk_y rfl rfl (y_move rfl) ?_
  refine gk_y rfl rfl (y_neq rfl rfl) ?_
  refine gk_nil (gk_sub (T' := [(2,_), (3,_), (4,_), (6,_), (7,_), (8,_), (17,_)]) ⟨rfl, rfl, rfl, rfl, rfl, rfl, rfl, trivial⟩ ?_)
  refine gk_cond rfl (fun hc17 => ?_) (fun hc17 => ?_)
  · have hk : ¬ struckE s p t = 0 := by simpa using hc17
    refine gk_seq ?_
    refine gk_region ?_
    refine gk_y rfl rfl (y_move rfl) ?_
    refine gk_y rfl rfl (y_assign rfl) ?_
    refine gk_y rfl rfl (y_assign rfl) ?_
    refine gk_nil (gk_sub (T' := [(2,_), (3,_), (4,_), (6,_), (7,_)]) ⟨rfl, rfl, rfl, rfl, rfl, trivial⟩ ?_)
    refine gk_ret ?_
    refine gk_pure (rv_two rfl (r1_tmp rfl) (r1_tmp rfl)) ?_
    rw [sureI, sureE, if_pos hk, if_pos hk]
  · have hk : struckE s p t = 0 := by simpa using hc17
    have hv := struck_ok hk
    have hgd := good_of hv
    have hpe := (struck_zero hk).2
    have hlen := check_len hv
    refine gk_skip ?_
    refine gk_seq ?_
    refine gk_region ?_
    refine gk_yx rfl rfl (yx_alloc tf2 (zs := [_]) rfl) fun b9 => ?_
    refine gk_storeV 0 tf2 rfl rfl (vs := [_]) rfl rfl rfl rfl rfl ?_
    refine gk_nil (gk_sub (T' := [(2,_), (3,_), (4,_), (6,_), (7,_), (9,_)]) ⟨rfl, rfl, rfl, rfl, rfl, rfl, trivial⟩ ?_)
    refine gk_seq ?_
    refine gk_seq ?_
    refine gk_region ?_
    refine gk_y rfl rfl (y_loadBA 2 tf34 rfl rfl (vs := [_, _, _, _, _, _]) rfl rfl) ?_
    refine gk_y rfl rfl (y_loadBA 1 tf32 rfl rfl (vs := [_, _]) rfl rfl) ?_
    refine gk_y rfl rfl (y_move rfl) ?_
    refine gk_yx rfl rfl (yx_call en85 rfl (fun w hw => outcomes_c _ _ s p t w)) fun p22 => gk_split ?_
    refine gk_nil (gk_sub (T' := [(3,_), (4,_), (6,_), (7,_), (9,_), (22,_)]) ⟨rfl, rfl, rfl, rfl, rfl, rfl, trivial⟩ ?_)
    refine gk_block ?_
    refine gk_sub (T' := [(3,_), (4,_), (6,_), (7,_), (9,_), (22,_)]) ⟨rfl, rfl, rfl, rfl, rfl, rfl, trivial⟩ ?_
    refine gk_rangeFunc (X := Int) (fun o => [Box p22.1 [.string s.name, .slice a s.shape.length cap, .int .i64 s.depth, .int .i64 s.density, .int .i64 s.grain.x, .int .i64 s.grain.z] 34, Box p22.2.1 [.int .i64 p.x, .int .i64 p.z] 32, Box p22.2.2 [.int .i64 t] 3, Box b9 [.int .i64 o] 2, Box b4 [.int .i64 p.x, .int .i64 p.z] 32, Box b3 [.string s.name, .slice a s.shape.length cap, .int .i64 s.depth, .int .i64 s.density, .int .i64 s.grain.x, .int .i64 s.grain.z] 34]) (fun n o => o = ((outcomesL s p t).take n).foldl (sureF s p) (-1)) (fun o => False) [] (-1) rfl en125 rfl rfl rfl (outcomes1_c _ _ s p t _ _ _ hv (hin hk)) (fun o w hw => ⟨hw.has (p := 0) rfl, hw.has (p := 1) rfl, hw.has (p := 2) rfl, (Rd.has (Has.rd hl) hw)⟩) (outs_one _ _ _) rfl ?_ ?_ ?_ ?_
    · rintro R1 R2 rl U' w' n o args hget hR hrd hins hbeg
      obtain ⟨q, hq, rfl⟩ := out_inv hget
      obtain ⟨hqe, hqa⟩ := hgd.out_mem t (List.mem_of_getElem? hq)
      have hr1 := rightL_len hpe hqe
      have hr2 := rightL_len hqe hpe
      refine gk_sub (T' := [(3,_), (4,_), (9,_), (23,_)]) ⟨rfl, rfl, rfl, rfl, trivial⟩ ?_
      refine gk_region ?_
      refine gk_yx rfl rfl (yx_alloc tf32 (zs := [_, _]) rfl) fun b10 => ?_
      refine gk_storeV 0 tf32 rfl rfl (vs := [_, _]) rfl rfl rfl rfl rfl ?_
      refine gk_nil (gk_sub (T' := [(3,_), (4,_), (9,_), (10,_)]) ⟨rfl, rfl, rfl, rfl, trivial⟩ ?_)
      refine gk_front 1 rfl ?_
      refine hbeg _ _ _ ?_
      refine gk_block ?_
      refine gk_seq ?_
      refine gk_any 12 (fun _ => mixed) (by kernel_rfl) ?_
      refine ph_y (y_loadBA 7 tf34 rfl rfl (vs := [_, _, _, _, _, _]) rfl rfl) ?_
      refine ph_y (y_loadBA 6 tf32 rfl rfl (vs := [_, _]) rfl rfl) ?_
      refine ph_y (y_loadBA 1 tf32 rfl rfl (vs := [_, _]) rfl rfl) ?_
      refine ph_yx (yx_call en70 rfl (fun w hw => right_c _ _ s p q w (Rd.has (hrd _ (Has.rd hl)) hw) (by assumption) (by first | exact hpe | exact hqe) (by first | exact hqe | exact hpe))) ?_
      refine ph_y (fun p27 => y_call en77 rfl (fun w hw => twice_c _ _ (rightL s.shape p q) w (has_row encPt_ok (hw.has (p := 0) rfl)) (by unfold Small; omega))) ?_
      refine ph_y (y_loadBA 7 tf34 rfl rfl (vs := [_, _, _, _, _, _]) rfl rfl) ?_
      refine ph_y (y_loadBA 1 tf32 rfl rfl (vs := [_, _]) rfl rfl) ?_
      refine ph_y (y_loadBA 6 tf32 rfl rfl (vs := [_, _]) rfl rfl) ?_
      refine ph_yx (yx_call en70 rfl (fun w hw => right_c _ _ s q p w (Rd.has (hrd _ (Has.rd hl)) hw) (by assumption) (by first | exact hpe | exact hqe) (by first | exact hqe | exact hpe))) ?_
      refine ph_y (fun p32 => y_call en77 rfl (fun w hw => twice_c _ _ (rightL s.shape q p) w (has_row encPt_ok (hw.has (p := 0) rfl)) (by unfold Small; omega))) ?_
      refine ph_y (y_max rfl rfl) ?_
      refine ph_y (fun p32 p27 => y_assign rfl) ?_
      intro p32
      intro p27
      refine gk_nil (gk_sub (T' := [(9,_), (11,_)]) ⟨rfl, rfl, trivial⟩ ?_)
      refine gk_seq ?_
      refine gk_any 7 (fun _ => mixed) (by kernel_rfl) ?_
      refine ph_y (y_loadB1 7 tf2 rfl rfl rfl) ?_
      refine ph_y (y_lss rfl rfl) ?_
      refine ph_y (y_move rfl) ?_
      refine ph_gF rfl rfl (fun hgd => by (try rw [hgd]); exact (y_move rfl)) ?_
      refine ph_gF rfl rfl (fun hgd => by (try rw [hgd]); exact (y_loadB1 7 tf2 rfl rfl rfl)) ?_
      refine ph_gF rfl rfl (fun hgd => by (try rw [hgd]); exact (y_lss rfl rfl)) ?_
      refine ph_y (y_pickOr rfl rfl rfl) ?_
      refine gk_nil (gk_sub (T' := [(9,_), (11,_), (41,_)]) ⟨rfl, rfl, rfl, trivial⟩ ?_)
      refine gk_cond rfl (fun hc41 => ?_) (fun hc41 => ?_)
      · have hst : sureF s p o q = partN s p q := if_pos (show (decide (o < 0) || decide (partN s p q < o)) = true from hc41)
        refine gk_region ?_
        refine gk_y rfl rfl (y_move rfl) ?_
        refine gk_storeV 7 tf2 rfl rfl (vs := [_]) rfl rfl rfl rfl rfl ?_
        refine gk_nil (gk_sub (T' := []) trivial ?_)
        refine gk_conv (R' := Box b9 [.int .i64 (sureF s p o q)] 2) 7 rfl (fun B w hA => by rw [hst]; exact hA) ?_
        refine gk_dropAt 0 rfl ?_
        refine gk_dropAt 0 rfl ?_
        refine gk_dropAt 1 rfl ?_
        exact gk_joined (sureF s p o q) trivial rfl (by rw [fold_succ _ _ hq, ← hR])
      · have hst : sureF s p o q = o := if_neg (by rw [show (decide (o < 0) || decide (partN s p q < o)) = false from hc41]; exact Bool.false_ne_true)
        refine gk_conv (R' := Box b9 [.int .i64 (sureF s p o q)] 2) 7 rfl (fun B w hA => by rw [hst]; exact hA) ?_
        refine gk_skip ?_
        refine gk_dropAt 0 rfl ?_
        refine gk_dropAt 0 rfl ?_
        refine gk_dropAt 1 rfl ?_
        exact gk_joined (sureF s p o q) trivial rfl (by rw [fold_succ _ _ hq, ← hR])
    · intro Dm o hR
      have hR := hR.trans (fold_all _ _ (by simp [outVs]))
      have hR : o = sureN s p (outcomesL s p t) := hR
      refine gk_seq ?_
      refine gk_seq ?_
      refine gk_region ?_
      refine gk_y rfl rfl (y_loadB1 4 tf2 rfl rfl rfl) ?_
      refine gk_y rfl rfl (y_lss rfl rfl) ?_
      refine gk_nil (gk_sub (T' := [(6,_), (7,_), (9,_), (44,_)]) ⟨rfl, rfl, rfl, rfl, trivial⟩ ?_)
      refine gk_cond rfl (fun hc44 => ?_) (fun hc44 => ?_)
      · have hc44 := of_decide_eq_true hc44
        refine gk_seq ?_
        refine gk_region ?_
        refine gk_y rfl rfl (y_assign rfl) ?_
        refine gk_y rfl rfl (y_assign rfl) ?_
        refine gk_nil (gk_sub (T' := [(6,_), (7,_), (9,_)]) ⟨rfl, rfl, rfl, trivial⟩ ?_)
        refine gk_ret ?_
        refine gk_unmark 0 rfl ?_
        refine gk_pure (rv_two rfl (r1_tmp rfl) (r1_tmp rfl)) ?_
        rw [(sure_neg hk (by omega)).1, (sure_neg hk (by omega)).2]
      · have hc44 := of_decide_eq_false hc44
        refine gk_skip ?_
        refine gk_seq ?_
        refine gk_region ?_
        refine gk_y rfl rfl (y_loadB1 4 tf2 rfl rfl rfl) ?_
        refine gk_y rfl rfl (y_assign rfl) ?_
        refine gk_y rfl rfl (y_assign rfl) ?_
        refine gk_nil (gk_sub (T' := [(6,_), (7,_)]) ⟨rfl, rfl, trivial⟩ ?_)
        refine gk_ret ?_
        refine gk_unmark 0 rfl ?_
        refine gk_pure (rv_two rfl (r1_tmp rfl) (r1_tmp rfl)) ?_
        rw [(sure_fin hk (by omega)).1, (sure_fin hk (by omega)).2, hR]
    · exact fun _ _ h => h.elim
    · exact fun _ _ _ _ h => absurd h (by simp)

set_option maxRecDepth 100000 in
set_option maxHeartbeats 1000000 in
theorem StoneOutcomes_c (a : Option Addr) (cap : Nat) (s : Stn) (p : Pt) (t : Int) (w : World) (hl : Has w (Pts a s.shape)) (hways : Has w (Elems (some ⟨0, 0, none⟩) 1 encVal [.func (.func 173) #[] #[], .func (.func 174) #[] #[], .func (.func 175) #[] #[], .func (.func 176) #[] #[]])) (hn : Fits s.name.size) :
    Calls Tryd.prog 10 #[.agg #[.string s.name, .slice a s.shape.length cap, .int .i64 s.depth, .int .i64 s.density, .int .i64 s.grain.x, .int .i64 s.grain.z], .agg #[.int .i64 p.x, .int .i64 p.z], .int .i64 t] w (Pure (.bool true) w) := by
  refine calls_of_gk (vs := [_, _, _]) Tryd.func10 rfl rfl (Nat.le_of_ble_eq_true rfl) ?_
  refine gk_seq ?_
  refine gk_region ?_
  refine gk_yx rfl rfl (yx_box (vs := [_, _, _, _, _, _]) rfl rfl) fun b3 => ?_
  refine gk_yx rfl rfl (yx_box (vs := [_, _]) rfl rfl) fun b4 => ?_
  refine gk_y rfl rfl (y_assign rfl) ?_
  refine gk_nil (gk_sub (T' := [(2,_), (3,_), (4,_), (6,_)]) ⟨rfl, rfl, rfl, rfl, trivial⟩ ?_)
  refine gk_seq ?_
  refine gk_seq ?_
  refine gk_region ?_
  refine gk_y rfl rfl (y_fieldAddr fo26_1 rfl) ?_
  refine gk_y rfl rfl (y_loadB1 1 tf22 rfl rfl rfl) ?_
  refine gk_y rfl rfl (y_lenS (Tryd.underlying22) rfl) ?_
  refine gk_y rfl rfl (y_gtr rfl rfl) ?_
  refine gk_y rfl rfl (y_move rfl) ?_
  refine gk_guard rfl rfl rfl rfl (fun hg19 => ?_) (fun hg19 => ?_)
  · replace hg19 : _ = false := hg19
    try rw [hg19]
    refine gk_y rfl rfl (y_loadBA 1 tf26 rfl rfl (vs := [_, _, _, _, _, _]) rfl rfl) ?_
    refine gk_guard rfl rfl rfl rfl (fun _ => ?_) (fun h => absurd h (by decide))
    refine gk_y rfl rfl (y_call en16 rfl (fun w hw => rvalid_c _ _ s w (Rd.has (Has.rd hl) hw) (by first | assumption | (have hg19' := of_decide_eq_false hg19; unfold Small; omega)) (by assumption))) ?_
    refine gk_guard rfl rfl rfl rfl (fun _ => ?_) (fun h => absurd h (by decide))
    refine gk_y rfl rfl (y_move rfl) ?_
    refine gk_guard rfl rfl rfl rfl (fun hg22 => ?_) (fun hg22 => ?_)
    · replace hg22 : _ = true := hg22
      try rw [hg22]
      refine gk_y rfl rfl (y_fieldAddr fo26_1 rfl) ?_
      refine gk_guard rfl rfl rfl rfl (fun _ => ?_) (fun h => absurd h (by decide))
      refine gk_y rfl rfl (y_loadB1 1 tf22 rfl rfl rfl) ?_
      refine gk_guard rfl rfl rfl rfl (fun _ => ?_) (fun h => absurd h (by decide))
      refine gk_y rfl rfl (y_call en30 rfl (fun w hw => high_c _ _ s.shape w (Rd.has (Has.rd hl) hw) (by first | assumption | (have hg19' := of_decide_eq_false hg19; unfold Small; omega)) (rvalid_pos hg22))) ?_
      refine gk_guard rfl rfl rfl rfl (fun _ => ?_) (fun h => absurd h (by decide))
      refine gk_y rfl rfl (y_field rfl (fv24_0 _ _)) ?_
      refine gk_guard rfl rfl rfl rfl (fun _ => ?_) (fun h => absurd h (by decide))
      refine gk_y rfl rfl (y_gtr rfl rfl) ?_
      refine gk_guard rfl rfl rfl rfl (fun _ => ?_) (fun h => absurd h (by decide))
      refine gk_y rfl rfl (y_move rfl) ?_
      refine gk_guard rfl rfl rfl rfl (fun hg28 => ?_) (fun hg28 => ?_)
      · replace hg28 : _ = false := hg28
        try rw [hg28]
        refine gk_y rfl rfl (y_fieldAddr fo26_1 rfl) ?_
        refine gk_guard rfl rfl rfl rfl (fun _ => ?_) (fun h => absurd h (by decide))
        refine gk_y rfl rfl (y_loadB1 1 tf22 rfl rfl rfl) ?_
        refine gk_guard rfl rfl rfl rfl (fun _ => ?_) (fun h => absurd h (by decide))
        refine gk_y rfl rfl (y_call en30 rfl (fun w hw => high_c _ _ s.shape w (Rd.has (Has.rd hl) hw) (by first | assumption | (have hg19' := of_decide_eq_false hg19; unfold Small; omega)) (rvalid_pos hg22))) ?_
        refine gk_guard rfl rfl rfl rfl (fun _ => ?_) (fun h => absurd h (by decide))
        refine gk_y rfl rfl (y_field rfl (fv24_1 _ _)) ?_
        refine gk_guard rfl rfl rfl rfl (fun _ => ?_) (fun h => absurd h (by decide))
        refine gk_y rfl rfl (y_gtr rfl rfl) ?_
        refine gk_guard rfl rfl rfl rfl (fun _ => ?_) (fun h => absurd h (by decide))
        refine gk_y rfl rfl (y_pick rfl rfl rfl) ?_
        refine gk_guard rfl rfl rfl rfl (fun _ => ?_) (fun h => absurd h (by decide))
        refine gk_y rfl rfl (y_pick rfl rfl rfl) ?_
        refine gk_y rfl rfl (y_pick rfl rfl rfl) ?_
        refine gk_nil (gk_sub (T' := [(2,_), (3,_), (4,_), (6,_), (36,_)]) ⟨rfl, rfl, rfl, rfl, rfl, trivial⟩ ?_)
        refine gk_cond rfl (fun hc36 => ?_) (fun hc36 => ?_)
        · skip
          refine gk_seq ?_
          refine gk_region ?_
          refine gk_y rfl rfl (y_call en15 rfl (fun w hw => wakes_c w (Rd.has (Has.rd hways) hw))) ?_
          refine gk_y rfl rfl (y_assign rfl) ?_
          refine gk_nil (gk_sub (T' := [(2,_), (3,_), (4,_), (6,_)]) ⟨rfl, rfl, rfl, rfl, trivial⟩ ?_)
          refine gk_ret ?_
          refine gk_pure (rv_one rfl (r1_tmp rfl)) ?_
          rfl
        · skip
          refine gk_skip ?_
          refine gk_seq ?_
          refine gk_region ?_
          refine gk_y rfl rfl (y_loadBA 1 tf26 rfl rfl (vs := [_, _, _, _, _, _]) rfl rfl) ?_
          refine gk_yx rfl rfl (yx_call en18 rfl (fun w hw => stone_c _ _ s w (Rd.has (Has.rd hl) hw) (by first | assumption | (have hg19' := of_decide_eq_false hg19; unfold Small; omega)))) fun p39 => ?_
          refine gk_yx rfl rfl (yx_alloc tf34 (zs := [_, _, _, _, _, _]) rfl) fun b7 => ?_
          refine gk_storeV 0 tf34 rfl rfl (vs := [_, _, _, _, _, _]) rfl rfl rfl rfl rfl ?_
          refine gk_nil (gk_sub (T' := [(2,_), (3,_), (4,_), (6,_), (7,_)]) ⟨rfl, rfl, rfl, rfl, rfl, trivial⟩ ?_)
          have hs : Small s.shape.length := by have hg19' := of_decide_eq_false hg19; unfold Small; omega
          have hin := struck_in (s := s) (p := p) (t := t)
          refine gk_seq ?_
          refine gk_region ?_
          refine gk_y rfl rfl (y_fieldAddr fo24_0 rfl) ?_
          refine gk_y rfl rfl (y_loadB1 2 tf3 rfl rfl rfl) ?_
          refine gk_y rfl rfl (y_fieldAddr fo24_1 rfl) ?_
          refine gk_y rfl rfl (y_loadB1 2 tf3 rfl rfl rfl) ?_
          refine gk_y rfl rfl (y_buildL rfl (bd32_0i_1i _ _)) ?_
          refine gk_yx rfl rfl (yx_alloc tf32 (zs := [_, _]) rfl) fun b8 => ?_
          refine gk_storeV 0 tf32 rfl rfl (vs := [_, _]) rfl rfl rfl rfl rfl ?_
          refine gk_nil (gk_sub (T' := [(2,_), (3,_), (4,_), (6,_), (7,_), (8,_)]) ⟨rfl, rfl, rfl, rfl, rfl, rfl, trivial⟩ ?_)
          refine gk_seq ?_
          refine gk_region ?_
          refine gk_y rfl rfl (y_loadBA 1 tf34 rfl rfl (vs := [_, _, _, _, _, _]) rfl rfl) ?_
          refine gk_y rfl rfl (y_loadBA 0 tf32 rfl rfl (vs := [_, _]) rfl rfl) ?_
          refine gk_y rfl rfl (y_move rfl) ?_
          refine gk_yx rfl rfl (yx_call en35 rfl (fun w hw => Outcomes_c _ _ s p t w (has_row encPt_ok (hw.has (p := 2) rfl)) (by assumption) (by assumption))) fun p49 => ?_
          refine gk_y rfl rfl (y_move rfl) ?_
          refine gk_y rfl rfl (y_extract rfl rfl) ?_
          refine gk_y rfl rfl (y_extract rfl rfl) ?_
          refine gk_y rfl rfl (y_assign rfl) ?_
          refine gk_y rfl rfl (y_assign rfl) ?_
          refine gk_nil (gk_sub (T' := [(2,_), (3,_), (4,_), (6,_), (7,_), (8,_), (9,_), (10,_)]) ⟨rfl, rfl, rfl, rfl, rfl, rfl, rfl, rfl, trivial⟩ ?_)
          refine gk_seq ?_
          refine gk_region ?_
          refine gk_y rfl rfl (y_loadBA 2 tf34 rfl rfl (vs := [_, _, _, _, _, _]) rfl rfl) ?_
          refine gk_y rfl rfl (y_loadBA 1 tf32 rfl rfl (vs := [_, _]) rfl rfl) ?_
          refine gk_y rfl rfl (y_move rfl) ?_
          refine gk_y rfl rfl (y_call en36 rfl (fun w hw => Sure_c _ _ s p t w (has_row encPt_ok (hw.has (p := 3) rfl)) (by assumption) (by assumption))) ?_
          refine gk_y rfl rfl (y_move rfl) ?_
          refine gk_y rfl rfl (y_extract rfl rfl) ?_
          refine gk_y rfl rfl (y_extract rfl rfl) ?_
          refine gk_y rfl rfl (y_assign rfl) ?_
          refine gk_y rfl rfl (y_assign rfl) ?_
          refine gk_nil (gk_sub (T' := [(2,_), (3,_), (4,_), (6,_), (9,_), (10,_), (11,_), (12,_)]) ⟨rfl, rfl, rfl, rfl, rfl, rfl, rfl, rfl, trivial⟩ ?_)
          refine gk_seq ?_
          refine gk_region ?_
          refine gk_y rfl rfl (y_assign rfl) ?_
          refine gk_nil (gk_sub (T' := [(2,_), (3,_), (4,_), (6,_), (9,_), (10,_), (11,_), (12,_), (13,_)]) ⟨rfl, rfl, rfl, rfl, rfl, rfl, rfl, rfl, rfl, trivial⟩ ?_)
          refine gk_seq ?_
          refine gk_seq ?_
          refine gk_region ?_
          refine gk_y rfl rfl (y_loadBA 5 tf26 rfl rfl (vs := [_, _, _, _, _, _]) rfl rfl) ?_
          refine gk_y rfl rfl (y_call en16 rfl (fun w hw => rvalid_c _ _ s w (Rd.has (Has.rd hl) hw) (by first | assumption | (have hg19' := of_decide_eq_false hg19; unfold Small; omega)) (by assumption))) ?_
          refine gk_y rfl rfl (y_not rfl) ?_
          refine gk_nil (gk_sub (T' := [(2,_), (3,_), (4,_), (6,_), (9,_), (10,_), (11,_), (12,_), (13,_), (61,_)]) ⟨rfl, rfl, rfl, rfl, rfl, rfl, rfl, rfl, rfl, rfl, trivial⟩ ?_)
          refine gk_cond rfl (fun hc61 => ?_) (fun hc61 => ?_)
          · have hck : checkI s = 2 := by rw [check_valid, if_neg (by rw [show rvalidB s = false from by simpa using hc61]; exact Bool.false_ne_true)]
            have hE : struckE s p t = 2 := by rw [struckE, if_pos (by rw [hck]; decide), hck]
            obtain ⟨hS, hI, hO⟩ := sure_bad hE (by decide)
            refine gk_region ?_
            refine gk_y rfl rfl (y_assign rfl) ?_
            refine gk_nil (gk_sub (T' := [(2,_), (3,_), (4,_), (6,_), (9,_), (10,_), (11,_), (12,_), (13,_)]) ⟨rfl, rfl, rfl, rfl, rfl, rfl, rfl, rfl, rfl, trivial⟩ ?_)
            refine gk_seq ?_
            refine gk_seq ?_
            refine gk_region ?_
            refine gk_y rfl rfl (y_move rfl) ?_
            refine gk_y rfl rfl (y_neq rfl rfl) ?_
            refine gk_nil (gk_sub (T' := [(2,_), (3,_), (4,_), (6,_), (9,_), (10,_), (11,_), (12,_), (13,_), (74,_)]) ⟨rfl, rfl, rfl, rfl, rfl, rfl, rfl, rfl, rfl, rfl, trivial⟩ ?_)
            refine gk_condT rfl ?_
            refine gk_seq ?_
            refine gk_any 21 (fun _ => mixed) (by kernel_rfl) ?_
            refine ph_y (y_move rfl) ?_
            refine ph_y (y_move rfl) ?_
            refine ph_y (y_eql rfl rfl) ?_
            refine ph_y (y_move rfl) ?_
            refine ph_gT rfl rfl (fun hgd => by (try rw [hgd]); exact (y_move rfl)) ?_
            refine ph_gT rfl rfl (fun hgd => by (try rw [hgd]); exact (y_move rfl)) ?_
            refine ph_gT rfl rfl (fun hgd => by (try rw [hgd]); exact (y_eql rfl rfl)) ?_
            refine ph_y (y_pickAnd rfl rfl rfl) ?_
            refine ph_y (y_move rfl) ?_
            refine ph_gT rfl rfl (fun hgd => by (try rw [hgd]); exact (y_move rfl)) ?_
            refine ph_gT rfl rfl (fun hgd => by (try rw [hgd]); exact (y_lenS (Tryd.underlying31) rfl)) ?_
            refine ph_gT rfl rfl (fun hgd => by (try rw [hgd]); exact (y_eql rfl rfl)) ?_
            refine ph_y (y_pickAnd rfl rfl rfl) ?_
            refine ph_y (y_move rfl) ?_
            refine ph_gT rfl rfl (fun hgd => by (try rw [hgd]); exact (y_move rfl)) ?_
            refine ph_gT rfl rfl (fun hgd => by (try rw [hgd]); exact (y_eql rfl rfl)) ?_
            refine ph_y (y_pickAnd rfl rfl rfl) ?_
            refine ph_y (y_move rfl) ?_
            refine ph_gT rfl rfl (fun hgd => by (try rw [hgd]); exact (y_call (v := .bool true) en15 rfl (fun w hw => wakes_c w (Rd.has (Has.rd hways) hw)))) ?_
            refine ph_y (y_pickAnd rfl rfl rfl) ?_
            refine ph_y (y_assign rfl) ?_
            refine gk_nil (gk_sub (T' := [(2,_), (3,_), (4,_), (6,_), (9,_), (10,_), (11,_), (12,_)]) ⟨rfl, rfl, rfl, rfl, rfl, rfl, rfl, rfl, trivial⟩ ?_)
            refine gk_ret ?_
            refine gk_pure (rv_one rfl (r1_tmp rfl)) ?_
            exact congrArg Value.bool (by rw [hE, hS, hI, hO]; decide +kernel)
          · have hck : checkI s = 0 := by rw [check_valid, if_pos (by simpa using hc61)]
            have hgd := good_of hck
            have hlen := check_len hck
            refine gk_seq ?_
            refine gk_region ?_
            refine gk_y rfl rfl (y_fieldAddr fo26_1 rfl) ?_
            refine gk_y rfl rfl (y_loadB1 5 tf22 rfl rfl rfl) ?_
            refine gk_y rfl rfl (y_loadBA 4 tf24 rfl rfl (vs := [_, _]) rfl rfl) ?_
            refine gk_y rfl rfl (y_call en37 rfl (fun w hw => rbord_c _ _ s.shape p w (Rd.has (Has.rd hl) hw) (by assumption))) ?_
            refine gk_y rfl rfl (y_not rfl) ?_
            refine gk_nil (gk_sub (T' := [(2,_), (3,_), (4,_), (6,_), (9,_), (10,_), (11,_), (12,_), (13,_), (66,_)]) ⟨rfl, rfl, rfl, rfl, rfl, rfl, rfl, rfl, rfl, rfl, trivial⟩ ?_)
            refine gk_cond rfl (fun hc66 => ?_) (fun hc66 => ?_)
            · have hE : struckE s p t = 8 := by rw [struckE, if_neg (fun h => h hck), if_pos]; have := hgd.border (x := p); rw [show rbordB s.shape p = false from by simpa using hc66] at this; have := of_decide_eq_false this.symm; omega
              obtain ⟨hS, hI, hO⟩ := sure_bad hE (by decide)
              refine gk_region ?_
              refine gk_y rfl rfl (y_assign rfl) ?_
              refine gk_nil (gk_sub (T' := [(2,_), (3,_), (4,_), (6,_), (9,_), (10,_), (11,_), (12,_), (13,_)]) ⟨rfl, rfl, rfl, rfl, rfl, rfl, rfl, rfl, rfl, trivial⟩ ?_)
              refine gk_seq ?_
              refine gk_seq ?_
              refine gk_region ?_
              refine gk_y rfl rfl (y_move rfl) ?_
              refine gk_y rfl rfl (y_neq rfl rfl) ?_
              refine gk_nil (gk_sub (T' := [(2,_), (3,_), (4,_), (6,_), (9,_), (10,_), (11,_), (12,_), (13,_), (74,_)]) ⟨rfl, rfl, rfl, rfl, rfl, rfl, rfl, rfl, rfl, rfl, trivial⟩ ?_)
              refine gk_condT rfl ?_
              refine gk_seq ?_
              refine gk_any 21 (fun _ => mixed) (by kernel_rfl) ?_
              refine ph_y (y_move rfl) ?_
              refine ph_y (y_move rfl) ?_
              refine ph_y (y_eql rfl rfl) ?_
              refine ph_y (y_move rfl) ?_
              refine ph_gT rfl rfl (fun hgd => by (try rw [hgd]); exact (y_move rfl)) ?_
              refine ph_gT rfl rfl (fun hgd => by (try rw [hgd]); exact (y_move rfl)) ?_
              refine ph_gT rfl rfl (fun hgd => by (try rw [hgd]); exact (y_eql rfl rfl)) ?_
              refine ph_y (y_pickAnd rfl rfl rfl) ?_
              refine ph_y (y_move rfl) ?_
              refine ph_gT rfl rfl (fun hgd => by (try rw [hgd]); exact (y_move rfl)) ?_
              refine ph_gT rfl rfl (fun hgd => by (try rw [hgd]); exact (y_lenS (Tryd.underlying31) rfl)) ?_
              refine ph_gT rfl rfl (fun hgd => by (try rw [hgd]); exact (y_eql rfl rfl)) ?_
              refine ph_y (y_pickAnd rfl rfl rfl) ?_
              refine ph_y (y_move rfl) ?_
              refine ph_gT rfl rfl (fun hgd => by (try rw [hgd]); exact (y_move rfl)) ?_
              refine ph_gT rfl rfl (fun hgd => by (try rw [hgd]); exact (y_eql rfl rfl)) ?_
              refine ph_y (y_pickAnd rfl rfl rfl) ?_
              refine ph_y (y_move rfl) ?_
              refine ph_gT rfl rfl (fun hgd => by (try rw [hgd]); exact (y_call (v := .bool true) en15 rfl (fun w hw => wakes_c w (Rd.has (Has.rd hways) hw)))) ?_
              refine ph_y (y_pickAnd rfl rfl rfl) ?_
              refine ph_y (y_assign rfl) ?_
              refine gk_nil (gk_sub (T' := [(2,_), (3,_), (4,_), (6,_), (9,_), (10,_), (11,_), (12,_)]) ⟨rfl, rfl, rfl, rfl, rfl, rfl, rfl, rfl, trivial⟩ ?_)
              refine gk_ret ?_
              refine gk_pure (rv_one rfl (r1_tmp rfl)) ?_
              exact congrArg Value.bool (by rw [hE, hS, hI, hO]; decide +kernel)
            · have hep : 0 ≤ edgeI s.shape p := by have := hgd.border (x := p); rw [show rbordB s.shape p = true from by simpa using hc66] at this; exact of_decide_eq_true this.symm
              refine gk_seq ?_
              refine gk_any 6 (fun _ => mixed) (by kernel_rfl) ?_
              refine ph_y (y_move rfl) ?_
              refine ph_y (y_lss rfl rfl) ?_
              refine ph_y (y_move rfl) ?_
              refine ph_gF rfl rfl (fun hgd => by (try rw [hgd]); exact (y_move rfl)) ?_
              refine ph_gF rfl rfl (fun hgd => by (try rw [hgd]); exact (y_gtr rfl rfl)) ?_
              refine ph_y (y_pickOr rfl rfl rfl) ?_
              refine gk_nil (gk_sub (T' := [(2,_), (3,_), (4,_), (6,_), (9,_), (10,_), (11,_), (12,_), (13,_), (72,_)]) ⟨rfl, rfl, rfl, rfl, rfl, rfl, rfl, rfl, rfl, rfl, trivial⟩ ?_)
              refine gk_cond rfl (fun hc72 => ?_) (fun hc72 => ?_)
              · have hE : struckE s p t = 3 := by rw [struckE, if_neg (fun h => h hck), if_neg (by omega), if_pos]; simp at hc72 ⊢; omega
                obtain ⟨hS, hI, hO⟩ := sure_bad hE (by decide)
                refine gk_region ?_
                refine gk_y rfl rfl (y_assign rfl) ?_
                refine gk_nil (gk_sub (T' := [(2,_), (3,_), (4,_), (6,_), (9,_), (10,_), (11,_), (12,_), (13,_)]) ⟨rfl, rfl, rfl, rfl, rfl, rfl, rfl, rfl, rfl, trivial⟩ ?_)
                refine gk_seq ?_
                refine gk_seq ?_
                refine gk_region ?_
                refine gk_y rfl rfl (y_move rfl) ?_
                refine gk_y rfl rfl (y_neq rfl rfl) ?_
                refine gk_nil (gk_sub (T' := [(2,_), (3,_), (4,_), (6,_), (9,_), (10,_), (11,_), (12,_), (13,_), (74,_)]) ⟨rfl, rfl, rfl, rfl, rfl, rfl, rfl, rfl, rfl, rfl, trivial⟩ ?_)
                refine gk_condT rfl ?_
                refine gk_seq ?_
                refine gk_any 21 (fun _ => mixed) (by kernel_rfl) ?_
                refine ph_y (y_move rfl) ?_
                refine ph_y (y_move rfl) ?_
                refine ph_y (y_eql rfl rfl) ?_
                refine ph_y (y_move rfl) ?_
                refine ph_gT rfl rfl (fun hgd => by (try rw [hgd]); exact (y_move rfl)) ?_
                refine ph_gT rfl rfl (fun hgd => by (try rw [hgd]); exact (y_move rfl)) ?_
                refine ph_gT rfl rfl (fun hgd => by (try rw [hgd]); exact (y_eql rfl rfl)) ?_
                refine ph_y (y_pickAnd rfl rfl rfl) ?_
                refine ph_y (y_move rfl) ?_
                refine ph_gT rfl rfl (fun hgd => by (try rw [hgd]); exact (y_move rfl)) ?_
                refine ph_gT rfl rfl (fun hgd => by (try rw [hgd]); exact (y_lenS (Tryd.underlying31) rfl)) ?_
                refine ph_gT rfl rfl (fun hgd => by (try rw [hgd]); exact (y_eql rfl rfl)) ?_
                refine ph_y (y_pickAnd rfl rfl rfl) ?_
                refine ph_y (y_move rfl) ?_
                refine ph_gT rfl rfl (fun hgd => by (try rw [hgd]); exact (y_move rfl)) ?_
                refine ph_gT rfl rfl (fun hgd => by (try rw [hgd]); exact (y_eql rfl rfl)) ?_
                refine ph_y (y_pickAnd rfl rfl rfl) ?_
                refine ph_y (y_move rfl) ?_
                refine ph_gT rfl rfl (fun hgd => by (try rw [hgd]); exact (y_call (v := .bool true) en15 rfl (fun w hw => wakes_c w (Rd.has (Has.rd hways) hw)))) ?_
                refine ph_y (y_pickAnd rfl rfl rfl) ?_
                refine ph_y (y_assign rfl) ?_
                refine gk_nil (gk_sub (T' := [(2,_), (3,_), (4,_), (6,_), (9,_), (10,_), (11,_), (12,_)]) ⟨rfl, rfl, rfl, rfl, rfl, rfl, rfl, rfl, trivial⟩ ?_)
                refine gk_ret ?_
                refine gk_pure (rv_one rfl (r1_tmp rfl)) ?_
                exact congrArg Value.bool (by rw [hE, hS, hI, hO]; decide +kernel)
              · have hE : struckE s p t = 0 := by rw [struckE, if_neg (fun h => h hck), if_neg (by omega), if_neg]; simp at hc72 ⊢; omega
                obtain ⟨hLM, hL, hS0, hS1⟩ := sure_good hE
                have hsr : Small (routL s p t).length := by unfold Small; omega
                have hso : Small (outL s p t).length := by rw [hLM]; exact hsr
                refine gk_skip ?_
                refine gk_seq ?_
                refine gk_seq ?_
                refine gk_region ?_
                refine gk_y rfl rfl (y_move rfl) ?_
                refine gk_y rfl rfl (y_neq rfl rfl) ?_
                refine gk_nil (gk_sub (T' := [(2,_), (3,_), (4,_), (6,_), (9,_), (10,_), (11,_), (12,_), (13,_), (74,_)]) ⟨rfl, rfl, rfl, rfl, rfl, rfl, rfl, rfl, rfl, rfl, trivial⟩ ?_)
                refine gk_condF rfl ?_
                refine gk_skip ?_
                refine gk_seq ?_
                refine gk_region ?_
                refine gk_y rfl rfl (y_loadBA 5 tf26 rfl rfl (vs := [_, _, _, _, _, _]) rfl rfl) ?_
                refine gk_y rfl rfl (y_loadBA 4 tf24 rfl rfl (vs := [_, _]) rfl rfl) ?_
                refine gk_y rfl rfl (y_move rfl) ?_
                refine gk_yx rfl rfl (yx_call en38 rfl (fun w hw => routs_c _ _ s p t w (Rd.has (Has.rd hl) hw) (by assumption) (by assumption))) fun p98 => ?_
                refine gk_y rfl rfl (y_assign rfl) ?_
                refine gk_nil (gk_sub (T' := [(3,_), (4,_), (6,_), (9,_), (10,_), (11,_), (12,_), (14,_)]) ⟨rfl, rfl, rfl, rfl, rfl, rfl, rfl, rfl, trivial⟩ ?_)
                refine gk_sub (T' := [(3,_), (4,_), (6,_), (9,_), (10, .int .i64 0), (11,_), (12,_), (14,_)]) ⟨rfl, rfl, rfl, rfl, (by rw [hE]; rfl), rfl, rfl, rfl, trivial⟩ ?_
                refine gk_seq ?_
                refine gk_seq ?_
                refine gk_any 8 (fun _ => mixed) (by kernel_rfl) ?_
                refine ph_y (y_move rfl) ?_
                refine ph_y (y_neq rfl rfl) ?_
                refine ph_y (y_move rfl) ?_
                refine ph_gk rfl rfl (y_move rfl) ?_
                refine ph_gk rfl rfl (y_move rfl) ?_
                refine ph_gk rfl rfl (y_castT (b := (decide ((outL s p t) = (routL s p t)))) (y_call en24 rfl (fun w hw => samepoints_c _ _ (outL s p t) _ _ (routL s p t) w (has_row encPt_ok (hw.has (p := 1) rfl)) (has_row encPt_ok (hw.has (p := 0) rfl)) (by assumption))) (by exact decide_eq_true hLM)) ?_
                refine ph_gk rfl rfl (y_not rfl) ?_
                refine ph_y (y_pickOr rfl rfl rfl) ?_
                refine gk_nil (gk_sub (T' := [(3,_), (4,_), (6,_), (11,_), (12,_), (14,_), (106,_)]) ⟨rfl, rfl, rfl, rfl, rfl, rfl, rfl, trivial⟩ ?_)
                refine gk_cond rfl (fun hc106 => ?_) (fun hc106 => ?_)
                · exfalso; simp at hc106
                · simp only [Bool.or_eq_false_iff, Bool.not_eq_false'] at hc106
                  refine gk_skip ?_
                  refine gk_seq ?_
                  refine gk_seq ?_
                  refine gk_region ?_
                  refine gk_y rfl rfl (y_move rfl) ?_
                  refine gk_y rfl rfl (y_lenS (Tryd.underlying22) rfl) ?_
                  refine gk_y rfl rfl (y_eql rfl rfl) ?_
                  refine gk_nil (gk_sub (T' := [(3,_), (4,_), (6,_), (11,_), (12,_), (14,_), (109,_)]) ⟨rfl, rfl, rfl, rfl, rfl, rfl, rfl, trivial⟩ ?_)
                  refine gk_cond rfl (fun hc109 => ?_) (fun hc109 => ?_)
                  · have hz : routL s p t = [] := List.eq_nil_of_length_eq_zero (by have := of_decide_eq_true hc109; omega)
                    obtain ⟨hS, hI⟩ := hS0 hz
                    refine gk_seq ?_
                    refine gk_any 10 (fun _ => mixed) (by kernel_rfl) ?_
                    refine ph_y (y_move rfl) ?_
                    refine ph_y (y_eql rfl rfl) ?_
                    refine ph_y (y_move rfl) ?_
                    refine ph_gT rfl rfl (fun hgd => by (try rw [hgd]); exact (y_move rfl)) ?_
                    refine ph_gT rfl rfl (fun hgd => by (try rw [hgd]); exact (y_eql rfl rfl)) ?_
                    refine ph_y (y_pickAnd rfl rfl rfl) ?_
                    refine ph_y (y_move rfl) ?_
                    refine ph_gT rfl rfl (fun hgd => by (try rw [hgd]); exact (y_call (v := .bool true) en15 rfl (fun w hw => wakes_c w (Rd.has (Has.rd hways) hw)))) ?_
                    refine ph_y (y_pickAnd rfl rfl rfl) ?_
                    refine ph_y (y_assign rfl) ?_
                    refine gk_nil (gk_sub (T' := [(3,_), (4,_), (6,_), (11,_), (12,_), (14,_)]) ⟨rfl, rfl, rfl, rfl, rfl, rfl, trivial⟩ ?_)
                    refine gk_ret ?_
                    refine gk_pure (rv_one rfl (r1_tmp rfl)) ?_
                    exact congrArg Value.bool (by rw [hS, hI]; rfl)
                  · have hz : routL s p t ≠ [] := fun h => by rw [h] at hc109; exact absurd hc109 (by decide)
                    obtain ⟨hS, hSI⟩ := hS1 hz
                    refine gk_skip ?_
                    refine gk_seq ?_
                    refine gk_any 14 (fun _ => mixed) (by kernel_rfl) ?_
                    refine ph_y (y_move rfl) ?_
                    refine ph_y (y_castT (y_eql rfl rfl) (by exact decide_eq_true hS)) ?_
                    refine ph_y (y_move rfl) ?_
                    refine ph_gk rfl rfl (y_move rfl) ?_
                    refine ph_gk rfl rfl (y_loadBA 6 tf26 rfl rfl (vs := [_, _, _, _, _, _]) rfl rfl) ?_
                    refine ph_gk rfl rfl (y_loadBA 5 tf24 rfl rfl (vs := [_, _]) rfl rfl) ?_
                    refine ph_gk rfl rfl (y_move rfl) ?_
                    refine ph_gk rfl rfl (y_call en39 rfl (fun w hw => rsure_c _ _ s p _ _ (routL s p t) w (Rd.has (Has.rd hl) hw) (by assumption) (by omega) (has_row encPt_ok (hw.has (p := 0) rfl)) (by first | assumption | (unfold Small; omega)))) ?_
                    refine ph_gk rfl rfl (y_castT (y_eql rfl rfl) (by exact decide_eq_true hSI)) ?_
                    refine ph_y (y_pick rfl rfl rfl) ?_
                    refine ph_y (y_move rfl) ?_
                    refine ph_gk rfl rfl (y_call en15 rfl (fun w hw => wakes_c w (Rd.has (Has.rd hways) hw))) ?_
                    refine ph_y (y_pick rfl rfl rfl) ?_
                    refine ph_y (y_assign rfl) ?_
                    refine gk_nil (gk_sub (T' := [(6,_)]) ⟨rfl, trivial⟩ ?_)
                    refine gk_ret ?_
                    refine gk_pure (rv_one rfl (r1_tmp rfl)) ?_
                    rfl
      · replace hg28 : _ = true := hg28
        try rw [hg28]
        refine gk_guard rfl rfl rfl rfl (fun h => absurd h (by decide)) (fun _ => ?_)
        refine gk_guard rfl rfl rfl rfl (fun h => absurd h (by decide)) (fun _ => ?_)
        refine gk_guard rfl rfl rfl rfl (fun h => absurd h (by decide)) (fun _ => ?_)
        refine gk_guard rfl rfl rfl rfl (fun h => absurd h (by decide)) (fun _ => ?_)
        refine gk_guard rfl rfl rfl rfl (fun _ => ?_) (fun h => absurd h (by decide))
        refine gk_y rfl rfl (y_pick rfl rfl rfl) ?_
        refine gk_guard rfl rfl rfl rfl (fun _ => ?_) (fun h => absurd h (by decide))
        refine gk_y rfl rfl (y_pick rfl rfl rfl) ?_
        refine gk_y rfl rfl (y_pick rfl rfl rfl) ?_
        refine gk_nil (gk_sub (T' := [(2,_), (3,_), (4,_), (6,_), (36,_)]) ⟨rfl, rfl, rfl, rfl, rfl, trivial⟩ ?_)
        refine gk_condT rfl ?_
        refine gk_seq ?_
        refine gk_region ?_
        refine gk_y rfl rfl (y_call en15 rfl (fun w hw => wakes_c w (Rd.has (Has.rd hways) hw))) ?_
        refine gk_y rfl rfl (y_assign rfl) ?_
        refine gk_nil (gk_sub (T' := [(2,_), (3,_), (4,_), (6,_)]) ⟨rfl, rfl, rfl, rfl, trivial⟩ ?_)
        refine gk_ret ?_
        refine gk_pure (rv_one rfl (r1_tmp rfl)) ?_
        rfl
    · replace hg22 : _ = false := hg22
      try rw [hg22]
      refine gk_guard rfl rfl rfl rfl (fun h => absurd h (by decide)) (fun _ => ?_)
      refine gk_guard rfl rfl rfl rfl (fun h => absurd h (by decide)) (fun _ => ?_)
      refine gk_guard rfl rfl rfl rfl (fun h => absurd h (by decide)) (fun _ => ?_)
      refine gk_guard rfl rfl rfl rfl (fun h => absurd h (by decide)) (fun _ => ?_)
      refine gk_guard rfl rfl rfl rfl (fun h => absurd h (by decide)) (fun _ => ?_)
      refine gk_guardU rfl rfl rfl rfl ?_
      refine gk_guardU rfl rfl rfl rfl ?_
      refine gk_guardU rfl rfl rfl rfl ?_
      refine gk_guardU rfl rfl rfl rfl ?_
      refine gk_guardU rfl rfl rfl rfl ?_
      refine gk_guard rfl rfl rfl rfl (fun h => absurd h (by decide)) (fun _ => ?_)
      refine gk_guard rfl rfl rfl rfl (fun _ => ?_) (fun h => absurd h (by decide))
      refine gk_y rfl rfl (y_pick rfl rfl rfl) ?_
      refine gk_y rfl rfl (y_pick rfl rfl rfl) ?_
      refine gk_nil (gk_sub (T' := [(2,_), (3,_), (4,_), (6,_), (36,_)]) ⟨rfl, rfl, rfl, rfl, rfl, trivial⟩ ?_)
      refine gk_condF rfl ?_
      refine gk_skip ?_
      refine gk_seq ?_
      refine gk_region ?_
      refine gk_y rfl rfl (y_loadBA 1 tf26 rfl rfl (vs := [_, _, _, _, _, _]) rfl rfl) ?_
      refine gk_yx rfl rfl (yx_call en18 rfl (fun w hw => stone_c _ _ s w (Rd.has (Has.rd hl) hw) (by first | assumption | (have hg19' := of_decide_eq_false hg19; unfold Small; omega)))) fun p39 => ?_
      refine gk_yx rfl rfl (yx_alloc tf34 (zs := [_, _, _, _, _, _]) rfl) fun b7 => ?_
      refine gk_storeV 0 tf34 rfl rfl (vs := [_, _, _, _, _, _]) rfl rfl rfl rfl rfl ?_
      refine gk_nil (gk_sub (T' := [(2,_), (3,_), (4,_), (6,_), (7,_)]) ⟨rfl, rfl, rfl, rfl, rfl, trivial⟩ ?_)
      have hs : Small s.shape.length := by have hg19' := of_decide_eq_false hg19; unfold Small; omega
      have hin := struck_in (s := s) (p := p) (t := t)
      refine gk_seq ?_
      refine gk_region ?_
      refine gk_y rfl rfl (y_fieldAddr fo24_0 rfl) ?_
      refine gk_y rfl rfl (y_loadB1 2 tf3 rfl rfl rfl) ?_
      refine gk_y rfl rfl (y_fieldAddr fo24_1 rfl) ?_
      refine gk_y rfl rfl (y_loadB1 2 tf3 rfl rfl rfl) ?_
      refine gk_y rfl rfl (y_buildL rfl (bd32_0i_1i _ _)) ?_
      refine gk_yx rfl rfl (yx_alloc tf32 (zs := [_, _]) rfl) fun b8 => ?_
      refine gk_storeV 0 tf32 rfl rfl (vs := [_, _]) rfl rfl rfl rfl rfl ?_
      refine gk_nil (gk_sub (T' := [(2,_), (3,_), (4,_), (6,_), (7,_), (8,_)]) ⟨rfl, rfl, rfl, rfl, rfl, rfl, trivial⟩ ?_)
      refine gk_seq ?_
      refine gk_region ?_
      refine gk_y rfl rfl (y_loadBA 1 tf34 rfl rfl (vs := [_, _, _, _, _, _]) rfl rfl) ?_
      refine gk_y rfl rfl (y_loadBA 0 tf32 rfl rfl (vs := [_, _]) rfl rfl) ?_
      refine gk_y rfl rfl (y_move rfl) ?_
      refine gk_yx rfl rfl (yx_call en35 rfl (fun w hw => Outcomes_c _ _ s p t w (has_row encPt_ok (hw.has (p := 2) rfl)) (by assumption) (by assumption))) fun p49 => ?_
      refine gk_y rfl rfl (y_move rfl) ?_
      refine gk_y rfl rfl (y_extract rfl rfl) ?_
      refine gk_y rfl rfl (y_extract rfl rfl) ?_
      refine gk_y rfl rfl (y_assign rfl) ?_
      refine gk_y rfl rfl (y_assign rfl) ?_
      refine gk_nil (gk_sub (T' := [(2,_), (3,_), (4,_), (6,_), (7,_), (8,_), (9,_), (10,_)]) ⟨rfl, rfl, rfl, rfl, rfl, rfl, rfl, rfl, trivial⟩ ?_)
      refine gk_seq ?_
      refine gk_region ?_
      refine gk_y rfl rfl (y_loadBA 2 tf34 rfl rfl (vs := [_, _, _, _, _, _]) rfl rfl) ?_
      refine gk_y rfl rfl (y_loadBA 1 tf32 rfl rfl (vs := [_, _]) rfl rfl) ?_
      refine gk_y rfl rfl (y_move rfl) ?_
      refine gk_y rfl rfl (y_call en36 rfl (fun w hw => Sure_c _ _ s p t w (has_row encPt_ok (hw.has (p := 3) rfl)) (by assumption) (by assumption))) ?_
      refine gk_y rfl rfl (y_move rfl) ?_
      refine gk_y rfl rfl (y_extract rfl rfl) ?_
      refine gk_y rfl rfl (y_extract rfl rfl) ?_
      refine gk_y rfl rfl (y_assign rfl) ?_
      refine gk_y rfl rfl (y_assign rfl) ?_
      refine gk_nil (gk_sub (T' := [(2,_), (3,_), (4,_), (6,_), (9,_), (10,_), (11,_), (12,_)]) ⟨rfl, rfl, rfl, rfl, rfl, rfl, rfl, rfl, trivial⟩ ?_)
      refine gk_seq ?_
      refine gk_region ?_
      refine gk_y rfl rfl (y_assign rfl) ?_
      refine gk_nil (gk_sub (T' := [(2,_), (3,_), (4,_), (6,_), (9,_), (10,_), (11,_), (12,_), (13,_)]) ⟨rfl, rfl, rfl, rfl, rfl, rfl, rfl, rfl, rfl, trivial⟩ ?_)
      refine gk_seq ?_
      refine gk_seq ?_
      refine gk_region ?_
      refine gk_y rfl rfl (y_loadBA 5 tf26 rfl rfl (vs := [_, _, _, _, _, _]) rfl rfl) ?_
      refine gk_y rfl rfl (y_call en16 rfl (fun w hw => rvalid_c _ _ s w (Rd.has (Has.rd hl) hw) (by first | assumption | (have hg19' := of_decide_eq_false hg19; unfold Small; omega)) (by assumption))) ?_
      refine gk_y rfl rfl (y_not rfl) ?_
      refine gk_nil (gk_sub (T' := [(2,_), (3,_), (4,_), (6,_), (9,_), (10,_), (11,_), (12,_), (13,_), (61,_)]) ⟨rfl, rfl, rfl, rfl, rfl, rfl, rfl, rfl, rfl, rfl, trivial⟩ ?_)
      refine gk_cond rfl (fun hc61 => ?_) (fun hc61 => ?_)
      · have hck : checkI s = 2 := by rw [check_valid, if_neg (by rw [show rvalidB s = false from by simpa using hc61]; exact Bool.false_ne_true)]
        have hE : struckE s p t = 2 := by rw [struckE, if_pos (by rw [hck]; decide), hck]
        obtain ⟨hS, hI, hO⟩ := sure_bad hE (by decide)
        refine gk_region ?_
        refine gk_y rfl rfl (y_assign rfl) ?_
        refine gk_nil (gk_sub (T' := [(2,_), (3,_), (4,_), (6,_), (9,_), (10,_), (11,_), (12,_), (13,_)]) ⟨rfl, rfl, rfl, rfl, rfl, rfl, rfl, rfl, rfl, trivial⟩ ?_)
        refine gk_seq ?_
        refine gk_seq ?_
        refine gk_region ?_
        refine gk_y rfl rfl (y_move rfl) ?_
        refine gk_y rfl rfl (y_neq rfl rfl) ?_
        refine gk_nil (gk_sub (T' := [(2,_), (3,_), (4,_), (6,_), (9,_), (10,_), (11,_), (12,_), (13,_), (74,_)]) ⟨rfl, rfl, rfl, rfl, rfl, rfl, rfl, rfl, rfl, rfl, trivial⟩ ?_)
        refine gk_condT rfl ?_
        refine gk_seq ?_
        refine gk_any 21 (fun _ => mixed) (by kernel_rfl) ?_
        refine ph_y (y_move rfl) ?_
        refine ph_y (y_move rfl) ?_
        refine ph_y (y_eql rfl rfl) ?_
        refine ph_y (y_move rfl) ?_
        refine ph_gT rfl rfl (fun hgd => by (try rw [hgd]); exact (y_move rfl)) ?_
        refine ph_gT rfl rfl (fun hgd => by (try rw [hgd]); exact (y_move rfl)) ?_
        refine ph_gT rfl rfl (fun hgd => by (try rw [hgd]); exact (y_eql rfl rfl)) ?_
        refine ph_y (y_pickAnd rfl rfl rfl) ?_
        refine ph_y (y_move rfl) ?_
        refine ph_gT rfl rfl (fun hgd => by (try rw [hgd]); exact (y_move rfl)) ?_
        refine ph_gT rfl rfl (fun hgd => by (try rw [hgd]); exact (y_lenS (Tryd.underlying31) rfl)) ?_
        refine ph_gT rfl rfl (fun hgd => by (try rw [hgd]); exact (y_eql rfl rfl)) ?_
        refine ph_y (y_pickAnd rfl rfl rfl) ?_
        refine ph_y (y_move rfl) ?_
        refine ph_gT rfl rfl (fun hgd => by (try rw [hgd]); exact (y_move rfl)) ?_
        refine ph_gT rfl rfl (fun hgd => by (try rw [hgd]); exact (y_eql rfl rfl)) ?_
        refine ph_y (y_pickAnd rfl rfl rfl) ?_
        refine ph_y (y_move rfl) ?_
        refine ph_gT rfl rfl (fun hgd => by (try rw [hgd]); exact (y_call (v := .bool true) en15 rfl (fun w hw => wakes_c w (Rd.has (Has.rd hways) hw)))) ?_
        refine ph_y (y_pickAnd rfl rfl rfl) ?_
        refine ph_y (y_assign rfl) ?_
        refine gk_nil (gk_sub (T' := [(2,_), (3,_), (4,_), (6,_), (9,_), (10,_), (11,_), (12,_)]) ⟨rfl, rfl, rfl, rfl, rfl, rfl, rfl, rfl, trivial⟩ ?_)
        refine gk_ret ?_
        refine gk_pure (rv_one rfl (r1_tmp rfl)) ?_
        exact congrArg Value.bool (by rw [hE, hS, hI, hO]; decide +kernel)
      · have hck : checkI s = 0 := by rw [check_valid, if_pos (by simpa using hc61)]
        have hgd := good_of hck
        have hlen := check_len hck
        refine gk_seq ?_
        refine gk_region ?_
        refine gk_y rfl rfl (y_fieldAddr fo26_1 rfl) ?_
        refine gk_y rfl rfl (y_loadB1 5 tf22 rfl rfl rfl) ?_
        refine gk_y rfl rfl (y_loadBA 4 tf24 rfl rfl (vs := [_, _]) rfl rfl) ?_
        refine gk_y rfl rfl (y_call en37 rfl (fun w hw => rbord_c _ _ s.shape p w (Rd.has (Has.rd hl) hw) (by assumption))) ?_
        refine gk_y rfl rfl (y_not rfl) ?_
        refine gk_nil (gk_sub (T' := [(2,_), (3,_), (4,_), (6,_), (9,_), (10,_), (11,_), (12,_), (13,_), (66,_)]) ⟨rfl, rfl, rfl, rfl, rfl, rfl, rfl, rfl, rfl, rfl, trivial⟩ ?_)
        refine gk_cond rfl (fun hc66 => ?_) (fun hc66 => ?_)
        · have hE : struckE s p t = 8 := by rw [struckE, if_neg (fun h => h hck), if_pos]; have := hgd.border (x := p); rw [show rbordB s.shape p = false from by simpa using hc66] at this; have := of_decide_eq_false this.symm; omega
          obtain ⟨hS, hI, hO⟩ := sure_bad hE (by decide)
          refine gk_region ?_
          refine gk_y rfl rfl (y_assign rfl) ?_
          refine gk_nil (gk_sub (T' := [(2,_), (3,_), (4,_), (6,_), (9,_), (10,_), (11,_), (12,_), (13,_)]) ⟨rfl, rfl, rfl, rfl, rfl, rfl, rfl, rfl, rfl, trivial⟩ ?_)
          refine gk_seq ?_
          refine gk_seq ?_
          refine gk_region ?_
          refine gk_y rfl rfl (y_move rfl) ?_
          refine gk_y rfl rfl (y_neq rfl rfl) ?_
          refine gk_nil (gk_sub (T' := [(2,_), (3,_), (4,_), (6,_), (9,_), (10,_), (11,_), (12,_), (13,_), (74,_)]) ⟨rfl, rfl, rfl, rfl, rfl, rfl, rfl, rfl, rfl, rfl, trivial⟩ ?_)
          refine gk_condT rfl ?_
          refine gk_seq ?_
          refine gk_any 21 (fun _ => mixed) (by kernel_rfl) ?_
          refine ph_y (y_move rfl) ?_
          refine ph_y (y_move rfl) ?_
          refine ph_y (y_eql rfl rfl) ?_
          refine ph_y (y_move rfl) ?_
          refine ph_gT rfl rfl (fun hgd => by (try rw [hgd]); exact (y_move rfl)) ?_
          refine ph_gT rfl rfl (fun hgd => by (try rw [hgd]); exact (y_move rfl)) ?_
          refine ph_gT rfl rfl (fun hgd => by (try rw [hgd]); exact (y_eql rfl rfl)) ?_
          refine ph_y (y_pickAnd rfl rfl rfl) ?_
          refine ph_y (y_move rfl) ?_
          refine ph_gT rfl rfl (fun hgd => by (try rw [hgd]); exact (y_move rfl)) ?_
          refine ph_gT rfl rfl (fun hgd => by (try rw [hgd]); exact (y_lenS (Tryd.underlying31) rfl)) ?_
          refine ph_gT rfl rfl (fun hgd => by (try rw [hgd]); exact (y_eql rfl rfl)) ?_
          refine ph_y (y_pickAnd rfl rfl rfl) ?_
          refine ph_y (y_move rfl) ?_
          refine ph_gT rfl rfl (fun hgd => by (try rw [hgd]); exact (y_move rfl)) ?_
          refine ph_gT rfl rfl (fun hgd => by (try rw [hgd]); exact (y_eql rfl rfl)) ?_
          refine ph_y (y_pickAnd rfl rfl rfl) ?_
          refine ph_y (y_move rfl) ?_
          refine ph_gT rfl rfl (fun hgd => by (try rw [hgd]); exact (y_call (v := .bool true) en15 rfl (fun w hw => wakes_c w (Rd.has (Has.rd hways) hw)))) ?_
          refine ph_y (y_pickAnd rfl rfl rfl) ?_
          refine ph_y (y_assign rfl) ?_
          refine gk_nil (gk_sub (T' := [(2,_), (3,_), (4,_), (6,_), (9,_), (10,_), (11,_), (12,_)]) ⟨rfl, rfl, rfl, rfl, rfl, rfl, rfl, rfl, trivial⟩ ?_)
          refine gk_ret ?_
          refine gk_pure (rv_one rfl (r1_tmp rfl)) ?_
          exact congrArg Value.bool (by rw [hE, hS, hI, hO]; decide +kernel)
        · have hep : 0 ≤ edgeI s.shape p := by have := hgd.border (x := p); rw [show rbordB s.shape p = true from by simpa using hc66] at this; exact of_decide_eq_true this.symm
          refine gk_seq ?_
          refine gk_any 6 (fun _ => mixed) (by kernel_rfl) ?_
          refine ph_y (y_move rfl) ?_
          refine ph_y (y_lss rfl rfl) ?_
          refine ph_y (y_move rfl) ?_
          refine ph_gF rfl rfl (fun hgd => by (try rw [hgd]); exact (y_move rfl)) ?_
          refine ph_gF rfl rfl (fun hgd => by (try rw [hgd]); exact (y_gtr rfl rfl)) ?_
          refine ph_y (y_pickOr rfl rfl rfl) ?_
          refine gk_nil (gk_sub (T' := [(2,_), (3,_), (4,_), (6,_), (9,_), (10,_), (11,_), (12,_), (13,_), (72,_)]) ⟨rfl, rfl, rfl, rfl, rfl, rfl, rfl, rfl, rfl, rfl, trivial⟩ ?_)
          refine gk_cond rfl (fun hc72 => ?_) (fun hc72 => ?_)
          · have hE : struckE s p t = 3 := by rw [struckE, if_neg (fun h => h hck), if_neg (by omega), if_pos]; simp at hc72 ⊢; omega
            obtain ⟨hS, hI, hO⟩ := sure_bad hE (by decide)
            refine gk_region ?_
            refine gk_y rfl rfl (y_assign rfl) ?_
            refine gk_nil (gk_sub (T' := [(2,_), (3,_), (4,_), (6,_), (9,_), (10,_), (11,_), (12,_), (13,_)]) ⟨rfl, rfl, rfl, rfl, rfl, rfl, rfl, rfl, rfl, trivial⟩ ?_)
            refine gk_seq ?_
            refine gk_seq ?_
            refine gk_region ?_
            refine gk_y rfl rfl (y_move rfl) ?_
            refine gk_y rfl rfl (y_neq rfl rfl) ?_
            refine gk_nil (gk_sub (T' := [(2,_), (3,_), (4,_), (6,_), (9,_), (10,_), (11,_), (12,_), (13,_), (74,_)]) ⟨rfl, rfl, rfl, rfl, rfl, rfl, rfl, rfl, rfl, rfl, trivial⟩ ?_)
            refine gk_condT rfl ?_
            refine gk_seq ?_
            refine gk_any 21 (fun _ => mixed) (by kernel_rfl) ?_
            refine ph_y (y_move rfl) ?_
            refine ph_y (y_move rfl) ?_
            refine ph_y (y_eql rfl rfl) ?_
            refine ph_y (y_move rfl) ?_
            refine ph_gT rfl rfl (fun hgd => by (try rw [hgd]); exact (y_move rfl)) ?_
            refine ph_gT rfl rfl (fun hgd => by (try rw [hgd]); exact (y_move rfl)) ?_
            refine ph_gT rfl rfl (fun hgd => by (try rw [hgd]); exact (y_eql rfl rfl)) ?_
            refine ph_y (y_pickAnd rfl rfl rfl) ?_
            refine ph_y (y_move rfl) ?_
            refine ph_gT rfl rfl (fun hgd => by (try rw [hgd]); exact (y_move rfl)) ?_
            refine ph_gT rfl rfl (fun hgd => by (try rw [hgd]); exact (y_lenS (Tryd.underlying31) rfl)) ?_
            refine ph_gT rfl rfl (fun hgd => by (try rw [hgd]); exact (y_eql rfl rfl)) ?_
            refine ph_y (y_pickAnd rfl rfl rfl) ?_
            refine ph_y (y_move rfl) ?_
            refine ph_gT rfl rfl (fun hgd => by (try rw [hgd]); exact (y_move rfl)) ?_
            refine ph_gT rfl rfl (fun hgd => by (try rw [hgd]); exact (y_eql rfl rfl)) ?_
            refine ph_y (y_pickAnd rfl rfl rfl) ?_
            refine ph_y (y_move rfl) ?_
            refine ph_gT rfl rfl (fun hgd => by (try rw [hgd]); exact (y_call (v := .bool true) en15 rfl (fun w hw => wakes_c w (Rd.has (Has.rd hways) hw)))) ?_
            refine ph_y (y_pickAnd rfl rfl rfl) ?_
            refine ph_y (y_assign rfl) ?_
            refine gk_nil (gk_sub (T' := [(2,_), (3,_), (4,_), (6,_), (9,_), (10,_), (11,_), (12,_)]) ⟨rfl, rfl, rfl, rfl, rfl, rfl, rfl, rfl, trivial⟩ ?_)
            refine gk_ret ?_
            refine gk_pure (rv_one rfl (r1_tmp rfl)) ?_
            exact congrArg Value.bool (by rw [hE, hS, hI, hO]; decide +kernel)
          · have hE : struckE s p t = 0 := by rw [struckE, if_neg (fun h => h hck), if_neg (by omega), if_neg]; simp at hc72 ⊢; omega
            obtain ⟨hLM, hL, hS0, hS1⟩ := sure_good hE
            have hsr : Small (routL s p t).length := by unfold Small; omega
            have hso : Small (outL s p t).length := by rw [hLM]; exact hsr
            refine gk_skip ?_
            refine gk_seq ?_
            refine gk_seq ?_
            refine gk_region ?_
            refine gk_y rfl rfl (y_move rfl) ?_
            refine gk_y rfl rfl (y_neq rfl rfl) ?_
            refine gk_nil (gk_sub (T' := [(2,_), (3,_), (4,_), (6,_), (9,_), (10,_), (11,_), (12,_), (13,_), (74,_)]) ⟨rfl, rfl, rfl, rfl, rfl, rfl, rfl, rfl, rfl, rfl, trivial⟩ ?_)
            refine gk_condF rfl ?_
            refine gk_skip ?_
            refine gk_seq ?_
            refine gk_region ?_
            refine gk_y rfl rfl (y_loadBA 5 tf26 rfl rfl (vs := [_, _, _, _, _, _]) rfl rfl) ?_
            refine gk_y rfl rfl (y_loadBA 4 tf24 rfl rfl (vs := [_, _]) rfl rfl) ?_
            refine gk_y rfl rfl (y_move rfl) ?_
            refine gk_yx rfl rfl (yx_call en38 rfl (fun w hw => routs_c _ _ s p t w (Rd.has (Has.rd hl) hw) (by assumption) (by assumption))) fun p98 => ?_
            refine gk_y rfl rfl (y_assign rfl) ?_
            refine gk_nil (gk_sub (T' := [(3,_), (4,_), (6,_), (9,_), (10,_), (11,_), (12,_), (14,_)]) ⟨rfl, rfl, rfl, rfl, rfl, rfl, rfl, rfl, trivial⟩ ?_)
            refine gk_sub (T' := [(3,_), (4,_), (6,_), (9,_), (10, .int .i64 0), (11,_), (12,_), (14,_)]) ⟨rfl, rfl, rfl, rfl, (by rw [hE]; rfl), rfl, rfl, rfl, trivial⟩ ?_
            refine gk_seq ?_
            refine gk_seq ?_
            refine gk_any 8 (fun _ => mixed) (by kernel_rfl) ?_
            refine ph_y (y_move rfl) ?_
            refine ph_y (y_neq rfl rfl) ?_
            refine ph_y (y_move rfl) ?_
            refine ph_gk rfl rfl (y_move rfl) ?_
            refine ph_gk rfl rfl (y_move rfl) ?_
            refine ph_gk rfl rfl (y_castT (b := (decide ((outL s p t) = (routL s p t)))) (y_call en24 rfl (fun w hw => samepoints_c _ _ (outL s p t) _ _ (routL s p t) w (has_row encPt_ok (hw.has (p := 1) rfl)) (has_row encPt_ok (hw.has (p := 0) rfl)) (by assumption))) (by exact decide_eq_true hLM)) ?_
            refine ph_gk rfl rfl (y_not rfl) ?_
            refine ph_y (y_pickOr rfl rfl rfl) ?_
            refine gk_nil (gk_sub (T' := [(3,_), (4,_), (6,_), (11,_), (12,_), (14,_), (106,_)]) ⟨rfl, rfl, rfl, rfl, rfl, rfl, rfl, trivial⟩ ?_)
            refine gk_cond rfl (fun hc106 => ?_) (fun hc106 => ?_)
            · exfalso; simp at hc106
            · simp only [Bool.or_eq_false_iff, Bool.not_eq_false'] at hc106
              refine gk_skip ?_
              refine gk_seq ?_
              refine gk_seq ?_
              refine gk_region ?_
              refine gk_y rfl rfl (y_move rfl) ?_
              refine gk_y rfl rfl (y_lenS (Tryd.underlying22) rfl) ?_
              refine gk_y rfl rfl (y_eql rfl rfl) ?_
              refine gk_nil (gk_sub (T' := [(3,_), (4,_), (6,_), (11,_), (12,_), (14,_), (109,_)]) ⟨rfl, rfl, rfl, rfl, rfl, rfl, rfl, trivial⟩ ?_)
              refine gk_cond rfl (fun hc109 => ?_) (fun hc109 => ?_)
              · have hz : routL s p t = [] := List.eq_nil_of_length_eq_zero (by have := of_decide_eq_true hc109; omega)
                obtain ⟨hS, hI⟩ := hS0 hz
                refine gk_seq ?_
                refine gk_any 10 (fun _ => mixed) (by kernel_rfl) ?_
                refine ph_y (y_move rfl) ?_
                refine ph_y (y_eql rfl rfl) ?_
                refine ph_y (y_move rfl) ?_
                refine ph_gT rfl rfl (fun hgd => by (try rw [hgd]); exact (y_move rfl)) ?_
                refine ph_gT rfl rfl (fun hgd => by (try rw [hgd]); exact (y_eql rfl rfl)) ?_
                refine ph_y (y_pickAnd rfl rfl rfl) ?_
                refine ph_y (y_move rfl) ?_
                refine ph_gT rfl rfl (fun hgd => by (try rw [hgd]); exact (y_call (v := .bool true) en15 rfl (fun w hw => wakes_c w (Rd.has (Has.rd hways) hw)))) ?_
                refine ph_y (y_pickAnd rfl rfl rfl) ?_
                refine ph_y (y_assign rfl) ?_
                refine gk_nil (gk_sub (T' := [(3,_), (4,_), (6,_), (11,_), (12,_), (14,_)]) ⟨rfl, rfl, rfl, rfl, rfl, rfl, trivial⟩ ?_)
                refine gk_ret ?_
                refine gk_pure (rv_one rfl (r1_tmp rfl)) ?_
                exact congrArg Value.bool (by rw [hS, hI]; rfl)
              · have hz : routL s p t ≠ [] := fun h => by rw [h] at hc109; exact absurd hc109 (by decide)
                obtain ⟨hS, hSI⟩ := hS1 hz
                refine gk_skip ?_
                refine gk_seq ?_
                refine gk_any 14 (fun _ => mixed) (by kernel_rfl) ?_
                refine ph_y (y_move rfl) ?_
                refine ph_y (y_castT (y_eql rfl rfl) (by exact decide_eq_true hS)) ?_
                refine ph_y (y_move rfl) ?_
                refine ph_gk rfl rfl (y_move rfl) ?_
                refine ph_gk rfl rfl (y_loadBA 6 tf26 rfl rfl (vs := [_, _, _, _, _, _]) rfl rfl) ?_
                refine ph_gk rfl rfl (y_loadBA 5 tf24 rfl rfl (vs := [_, _]) rfl rfl) ?_
                refine ph_gk rfl rfl (y_move rfl) ?_
                refine ph_gk rfl rfl (y_call en39 rfl (fun w hw => rsure_c _ _ s p _ _ (routL s p t) w (Rd.has (Has.rd hl) hw) (by assumption) (by omega) (has_row encPt_ok (hw.has (p := 0) rfl)) (by first | assumption | (unfold Small; omega)))) ?_
                refine ph_gk rfl rfl (y_castT (y_eql rfl rfl) (by exact decide_eq_true hSI)) ?_
                refine ph_y (y_pick rfl rfl rfl) ?_
                refine ph_y (y_move rfl) ?_
                refine ph_gk rfl rfl (y_call en15 rfl (fun w hw => wakes_c w (Rd.has (Has.rd hways) hw))) ?_
                refine ph_y (y_pick rfl rfl rfl) ?_
                refine ph_y (y_assign rfl) ?_
                refine gk_nil (gk_sub (T' := [(6,_)]) ⟨rfl, trivial⟩ ?_)
                refine gk_ret ?_
                refine gk_pure (rv_one rfl (r1_tmp rfl)) ?_
                rfl
  · replace hg19 : _ = true := hg19
    try rw [hg19]
    refine gk_guard rfl rfl rfl rfl (fun h => absurd h (by decide)) (fun _ => ?_)
    refine gk_guard rfl rfl rfl rfl (fun h => absurd h (by decide)) (fun _ => ?_)
    refine gk_guardU rfl rfl rfl rfl ?_
    refine gk_guardU rfl rfl rfl rfl ?_
    refine gk_guardU rfl rfl rfl rfl ?_
    refine gk_guardU rfl rfl rfl rfl ?_
    refine gk_guardU rfl rfl rfl rfl ?_
    refine gk_guardU rfl rfl rfl rfl ?_
    refine gk_guardU rfl rfl rfl rfl ?_
    refine gk_guardU rfl rfl rfl rfl ?_
    refine gk_guardU rfl rfl rfl rfl ?_
    refine gk_guardU rfl rfl rfl rfl ?_
    refine gk_guardU rfl rfl rfl rfl ?_
    refine gk_guardU rfl rfl rfl rfl ?_
    refine gk_guard rfl rfl rfl rfl (fun h => absurd h (by decide)) (fun _ => ?_)
    refine gk_y rfl rfl (y_pick rfl rfl rfl) ?_
    refine gk_nil (gk_sub (T' := [(2,_), (3,_), (4,_), (6,_), (36,_)]) ⟨rfl, rfl, rfl, rfl, rfl, trivial⟩ ?_)
    refine gk_condT rfl ?_
    refine gk_seq ?_
    refine gk_region ?_
    refine gk_y rfl rfl (y_call en15 rfl (fun w hw => wakes_c w (Rd.has (Has.rd hways) hw))) ?_
    refine gk_y rfl rfl (y_assign rfl) ?_
    refine gk_nil (gk_sub (T' := [(2,_), (3,_), (4,_), (6,_)]) ⟨rfl, rfl, rfl, rfl, trivial⟩ ?_)
    refine gk_ret ?_
    refine gk_pure (rv_one rfl (r1_tmp rfl)) ?_
    rfl

end Go.Proofs.YtahahmelnaphjaaDoor
