/- Walks: the law's own helpers that make stones. No statement of the seat is proved in this text. -/
import Derived.Test.YtahahmelnaphjaaDoorW3
namespace Go.Proofs.YtahahmelnaphjaaDoor
open Go.K Go.Stn Go.RowKit
theorem tf34 : TF Tryd.prog 34 true 6 (.agg #[.string ⟨#[]⟩, .slice none 0 0, .int IntKind.i64 0, .int IntKind.i64 0, .int IntKind.i64 0, .int IntKind.i64 0]) := ⟨by kernel_rfl, by kernel_rfl⟩
theorem af31 : AF Tryd.prog 31 32 2 16 [.int IntKind.i64 0, .int IntKind.i64 0] := ⟨Tryd.underlying31, by kernel_rfl, rfl⟩
theorem en48 : En Tryd.prog 48 := en_of Tryd.func48 (by kernel_rfl) (by kernel_rfl)
theorem bd32_0i (x0 : Int) (w : World) : (Instr.build 32 #[(0, .int .i64 x0)]).run Tryd.prog w = .ok (.agg #[.int .i64 x0, .int IntKind.i64 0]) w := by kernel_rfl
theorem bd32_1i (x0 : Int) (w : World) : (Instr.build 32 #[(1, .int .i64 x0)]).run Tryd.prog w = .ok (.agg #[.int IntKind.i64 0, .int .i64 x0]) w := by kernel_rfl
theorem bd34_0s_1l_2i_3i_4ii (x0 : ByteArray) (x1a : Option Addr) (x1n x1c : Nat) (x2 : Int) (x3 : Int) (x4 : Int) (x5 : Int) (w : World) : (Instr.build 34 #[(0, .string x0), (1, .slice x1a x1n x1c), (2, .int .i64 x2), (3, .int .i64 x3), (4, .agg #[.int .i64 x4, .int .i64 x5])]).run Tryd.prog w = .ok (.agg #[.string x0, .slice x1a x1n x1c, .int .i64 x2, .int .i64 x3, .int .i64 x4, .int .i64 x5]) w := by kernel_rfl
theorem bs31_1 (x0_0 : Int) (x0_1 : Int) (w : World) : (Instr.buildSlice 31 1 #[(0, .agg #[.int .i64 x0_0, .int .i64 x0_1])]).run Tryd.prog w = .ok (.slice (some ⟨w.heap.size, 0, none⟩) 1 1) (w.alloc (.cells (([(⟨x0_0, x0_1⟩ : Pt)] : List (Pt)).flatMap encPt).toArray 32)) := by kernel_rfl
theorem bs31_4 (x0_0 : Int) (x0_1 : Int) (x1_0 : Int) (x1_1 : Int) (x2_0 : Int) (x2_1 : Int) (x3_0 : Int) (x3_1 : Int) (w : World) : (Instr.buildSlice 31 4 #[(0, .agg #[.int .i64 x0_0, .int .i64 x0_1]), (1, .agg #[.int .i64 x1_0, .int .i64 x1_1]), (2, .agg #[.int .i64 x2_0, .int .i64 x2_1]), (3, .agg #[.int .i64 x3_0, .int .i64 x3_1])]).run Tryd.prog w = .ok (.slice (some ⟨w.heap.size, 0, none⟩) 4 4) (w.alloc (.cells (([(⟨x0_0, x0_1⟩ : Pt), (⟨x1_0, x1_1⟩ : Pt), (⟨x2_0, x2_1⟩ : Pt), (⟨x3_0, x3_1⟩ : Pt)] : List (Pt)).flatMap encPt).toArray 32)) := by kernel_rfl

set_option maxRecDepth 100000 in
set_option maxHeartbeats 1000000 in
theorem points_c (a : Option Addr) (cap : Nat) (l : List Pt) (w : World) (hl : Has w (Pts a l)) (hs : Small l.length) :
    Calls Tryd.prog 48 #[.slice a l.length cap] w (Gives (fun z : Option Addr × Nat => .slice z.1 l.length z.2) (fun z => Row z.1 2 z.2 32 encPt l) w) := by
  refine calls_of_gk (vs := [_]) Tryd.func48 rfl rfl (Nat.le_of_ble_eq_true rfl) ?_
  refine gk_seq ?_
  refine gk_region ?_
  refine gk_y rfl rfl (y_assign rfl) ?_
  refine gk_nil (gk_sub (T' := [(0,_), (2,_)]) ⟨rfl, rfl, trivial⟩ ?_)
  refine gk_seq ?_
  refine gk_region ?_
  refine gk_y rfl rfl (y_assign rfl) ?_
  refine gk_nil (gk_sub (T' := [(0,_), (2,_), (3,_)]) ⟨rfl, rfl, rfl, trivial⟩ ?_)
  refine gk_seq ?_
  refine gk_seq ?_
  refine gk_region ?_
  refine gk_y rfl rfl (y_assign rfl) ?_
  refine gk_nil (gk_sub (T' := [(0,_), (2,_), (3,_), (4,_)]) ⟨rfl, rfl, rfl, rfl, trivial⟩ ?_)
  refine gk_block ?_
  refine gk_newNil 32 encPt 2 ?_
  refine gk_loop (X := Int × Option Addr × Nat × List Pt) (fun ⟨i, b, bc, m⟩ => [(0, .slice a l.length cap), (2, .slice none 0 0), (3, .slice b m.length bc), (4, .int .i64 i)]) (fun ⟨i, b, bc, m⟩ => [Row b 2 bc 32 encPt m]) (fun ⟨i, b, bc, m⟩ => (0 ≤ i ∧ i ≤ l.length ∧ m = l.take i.toNat ∧ m.length ≤ l.length)) (fun ⟨i, b, bc, m⟩ => (l.length - i).toNat) (0, none, 0, []) ⟨rfl, rfl, rfl, rfl, trivial⟩ rfl ?_ ?_
  · exact ⟨by omega, by omega, rfl, by simp⟩
  · rintro ⟨i, b, bc, m⟩ hI
    obtain ⟨g0, g1, g2, g3⟩ := hI
    refine gk_seq ?_
    refine gk_seq ?_
    refine gk_region ?_
    refine gk_y rfl rfl (y_move rfl) ?_
    refine gk_y rfl rfl (y_move rfl) ?_
    refine gk_y rfl rfl (y_lenS (Tryd.underlying22) rfl) ?_
    refine gk_y rfl rfl (y_lss rfl rfl) ?_
    refine gk_nil (gk_sub (T' := [(0,_), (2,_), (3,_), (4,_), (8,_)]) ⟨rfl, rfl, rfl, rfl, rfl, trivial⟩ ?_)
    refine gk_cond rfl (fun hc8 => ?_) (fun hc8 => ?_)
    · simp only [decide_eq_true_eq] at hc8
      refine gk_skip ?_
      refine gk_seq ?_
      refine gk_block ?_
      refine gk_any 13 (fun _ => mixed) (by kernel_rfl) ?_
      refine ph_y (y_move rfl) ?_
      refine ph_y (y_move rfl) ?_
      refine ph_y (y_move rfl) ?_
      refine ph_y (y_indexE se22 rfl rfl (fun _ hw => (Rd.has (Has.rd hl) hw)) (by omega) (by omega)) ?_
      refine ph_y (y_fieldE fo24_0 rfl (fun w hw => elems_addr (i := i) (Rd.has (Has.rd hl) hw) (by omega) (by omega))) ?_
      refine ph_y (y_loadEF tf3 rfl (fun _ hw => (Rd.has (Has.rd hl) hw)) (by omega) (by omega) rfl) ?_
      refine ph_y (y_move rfl) ?_
      refine ph_y (y_move rfl) ?_
      refine ph_y (y_indexE se22 rfl rfl (fun _ hw => (Rd.has (Has.rd hl) hw)) (by omega) (by omega)) ?_
      refine ph_y (y_fieldE fo24_1 rfl (fun w hw => elems_addr (i := i) (Rd.has (Has.rd hl) hw) (by omega) (by omega))) ?_
      refine ph_y (y_loadEF tf3 rfl (fun _ hw => (Rd.has (Has.rd hl) hw)) (by omega) (by omega) rfl) ?_
      refine ph_y (y_buildL rfl (bd32_0i_1i _ _)) ?_
      refine ph_yx (yx_buildSlice rfl (bs31_1 _ _) encPt_ok rfl) ?_
      intro b23
      refine gk_sub (T' := [(0,_), (2,_), (3,_), (4,_), (11,_), (23,_)]) ⟨rfl, rfl, rfl, rfl, rfl, rfl, trivial⟩ ?_
      refine gk_append (m := [⟨((l.getD (i).toNat default).x), ((l.getD (i).toNat default).z)⟩]) 1 af31 encPt_ok rfl rfl rfl rfl (fun _ hw => (has_row encPt_ok (hw.has (p := 0) rfl))) (by first | omega | (simp only [List.length_cons, List.length_nil]; omega)) (by first | (unfold maxLen; omega) | (simp only [List.length_cons, List.length_nil, maxLen]; omega)) fun a24 c24 => ?_
      refine gk_y rfl rfl (y_assign rfl) ?_
      refine gk_nil (gk_sub (T' := [(0,_), (2,_), (3,_), (4,_)]) ⟨rfl, rfl, rfl, rfl, trivial⟩ ?_)
      refine gk_region ?_
      refine gk_y rfl rfl (y_move rfl) ?_
      refine gk_y rfl rfl (y_addI rfl rfl (by omega) (by omega)) ?_
      refine gk_y rfl rfl (y_assign rfl) ?_
      refine gk_nil (gk_sub (T' := [(0,_), (2,_), (3,_), (4,_)]) ⟨rfl, rfl, rfl, rfl, trivial⟩ ?_)
      refine gk_dropAt 0 rfl ?_
      exact gk_next (i + 1, a24, c24, _) ⟨rfl, rfl, rfl, rfl, trivial⟩ rfl ⟨by omega, by omega, by rw [take_succ g0 (by omega), ← g2], by rw [List.length_append, g2, List.length_take]; simp; omega⟩ (by simp only []; omega)
    · simp only [decide_eq_false_iff_not] at hc8
      refine gk_exit rfl ?_
      refine gk_seq ?_
      refine gk_region ?_
      refine gk_y rfl rfl (y_move rfl) ?_
      refine gk_y rfl rfl (y_assign rfl) ?_
      refine gk_nil (gk_sub (T' := [(2,_)]) ⟨rfl, trivial⟩ ?_)
      obtain rfl : m = l := by rw [g2, take_all (by omega)]
      refine gk_ret ?_
      refine gk_gives (b, bc) 0 (rv_one rfl (r1_tmp rfl)) ?_ rfl
      rfl

set_option maxRecDepth 100000 in
set_option maxHeartbeats 1000000 in
theorem stone_c (a : Option Addr) (cap : Nat) (s : Stn) (w : World) (hl : Has w (Pts a s.shape)) (hs : Small s.shape.length) :
    Calls Tryd.prog 18 #[.agg #[.string s.name, .slice a s.shape.length cap, .int .i64 s.depth, .int .i64 s.density, .int .i64 s.grain.x, .int .i64 s.grain.z]] w (Gives (fun z : Option Addr × Nat => stnV s z.1 z.2) (fun z => Row z.1 2 z.2 32 encPt s.shape) w) := by
  refine calls_of_gk (vs := [_]) Tryd.func18 rfl rfl (Nat.le_of_ble_eq_true rfl) ?_
  refine gk_seq ?_
  refine gk_region ?_
  refine gk_yx rfl rfl (yx_box (vs := [_, _, _, _, _, _]) rfl rfl) fun b1 => ?_
  refine gk_yx rfl rfl (yx_alloc tf34 (zs := [_, _, _, _, _, _]) rfl) fun b2 => ?_
  refine gk_nil (gk_sub (T' := [(1,_), (2,_)]) ⟨rfl, rfl, trivial⟩ ?_)
  refine gk_seq ?_
  refine gk_any 16 (fun _ => mixed) (by kernel_rfl) ?_
  refine ph_y (y_fieldAddr fo26_0 rfl) ?_
  refine ph_y (y_loadB1 1 tf9 rfl rfl rfl) ?_
  refine ph_y (y_fieldAddr fo26_1 rfl) ?_
  refine ph_y (y_loadB1 1 tf22 rfl rfl rfl) ?_
  refine ph_yx (yx_call en48 rfl (fun w hw => points_c _ _ s.shape w (Rd.has (Has.rd hl) hw) (by assumption))) ?_
  refine ph_y (y_fieldAddr fo26_2 rfl) ?_
  refine ph_y (y_loadB1 1 tf3 rfl rfl rfl) ?_
  refine ph_y (y_fieldAddr fo26_3 rfl) ?_
  refine ph_y (y_loadB1 1 tf3 rfl rfl rfl) ?_
  refine ph_y (y_fieldAddr fo26_4 rfl) ?_
  refine ph_y (y_fieldAddr fo24_0 rfl) ?_
  refine ph_y (y_loadB1 1 tf3 rfl rfl rfl) ?_
  refine ph_y (y_fieldAddr fo26_4 rfl) ?_
  refine ph_y (y_fieldAddr fo24_1 rfl) ?_
  refine ph_y (y_loadB1 1 tf3 rfl rfl rfl) ?_
  refine ph_y (y_buildL rfl (bd32_0i_1i _ _)) ?_
  intro p7
  refine gk_sub (T' := [(2,_), (4,_), (7,_), (9,_), (11,_), (18,_)]) ⟨rfl, rfl, rfl, rfl, rfl, rfl, trivial⟩ ?_
  refine gk_y rfl rfl (y_buildL rfl (bd34_0s_1l_2i_3i_4ii _ _ _ _ _ _ _ _)) ?_
  refine gk_storeV 1 tf34 rfl rfl (vs := [_, _, _, _, _, _]) rfl rfl rfl rfl rfl ?_
  refine gk_nil (gk_sub (T' := [(2,_)]) ⟨rfl, trivial⟩ ?_)
  refine gk_ret ?_
  refine gk_gives p7 0 (rv_one rfl (r1_cellA (i := 1) (vs := [_, _, _, _, _, _]) tf34 rfl rfl rfl rfl)) ?_ rfl
  rfl

set_option maxRecDepth 100000 in
set_option maxHeartbeats 1000000 in
theorem brick_c  (w : World)  :
    Calls Tryd.prog 52 #[] w (Gives (fun b : Nat => stnV brickS (some ⟨b, 0, none⟩) 4) (fun b => Row (some ⟨b, 0, none⟩) 2 4 32 encPt brickS.shape) w) := by
  refine calls_of_gk (vs := []) Tryd.func52 rfl rfl (Nat.le_of_ble_eq_true rfl) ?_
  refine gk_seq ?_
  refine gk_region ?_
  refine gk_yx rfl rfl (yx_alloc tf34 (zs := [_, _, _, _, _, _]) rfl) fun b0 => ?_
  refine gk_nil (gk_sub (T' := [(0,_)]) ⟨rfl, trivial⟩ ?_)
  refine gk_seq ?_
  refine gk_region ?_
  refine gk_y rfl rfl (y_buildL (parts := []) rfl bd32_) ?_
  refine gk_y rfl rfl (y_buildL rfl (bd32_0i _)) ?_
  refine gk_y rfl rfl (y_buildL rfl (bd32_0i_1i _ _)) ?_
  refine gk_y rfl rfl (y_buildL rfl (bd32_1i _)) ?_
  refine gk_yx rfl rfl (yx_buildSlice rfl (bs31_4 _ _ _ _ _ _ _ _) encPt_ok rfl) fun b5 => ?_
  refine gk_y rfl rfl (y_buildL rfl (bd32_0i _)) ?_
  refine gk_y rfl rfl (y_buildL rfl (bd34_0s_1l_2i_3i_4ii _ _ _ _ _ _ _ _)) ?_
  refine gk_storeV 1 tf34 rfl rfl (vs := [_, _, _, _, _, _]) rfl rfl rfl rfl rfl ?_
  refine gk_nil (gk_sub (T' := [(0,_)]) ⟨rfl, trivial⟩ ?_)
  refine gk_ret ?_
  refine gk_gives b5 0 (rv_one rfl (r1_cellA (i := 1) (vs := [_, _, _, _, _, _]) tf34 rfl rfl rfl rfl)) ?_ rfl
  rfl

end Go.Proofs.YtahahmelnaphjaaDoor
