/- Walks: sameness; shapes in their place and stones in ways, in the document's own program. No statement of the seat is proved in this text. -/
import Derived.Test.YtahahmelnaphjaaDoorW12
import Derived.Test.YtahahmelnaphjaaDoorD6
namespace Go.Proofs.YtahahmelnaphjaaDoor
open Go.K Go.Stn Go.RowKit
theorem af22 : AF Tryd.prog 22 24 2 16 [.int IntKind.i64 0, .int IntKind.i64 0] := ⟨Tryd.underlying22, by kernel_rfl, rfl⟩
theorem en24 : En Tryd.prog 24 := en_of Tryd.func24 (by kernel_rfl) (by kernel_rfl)
theorem en61 : En Tryd.prog 61 := en_of Tryd.func61 (by kernel_rfl) (by kernel_rfl)
theorem en62 : En Tryd.prog 62 := en_of Tryd.func62 (by kernel_rfl) (by kernel_rfl)
theorem bd24_0i_1i (x0 : Int) (x1 : Int) (w : World) : (Instr.build 24 #[(0, .int .i64 x0), (1, .int .i64 x1)]).run Tryd.prog w = .ok (.agg #[.int .i64 x0, .int .i64 x1]) w := by kernel_rfl
theorem bs22_1 (x0_0 : Int) (x0_1 : Int) (w : World) : (Instr.buildSlice 22 1 #[(0, .agg #[.int .i64 x0_0, .int .i64 x0_1])]).run Tryd.prog w = .ok (.slice (some ⟨w.heap.size, 0, none⟩) 1 1) (w.alloc (.cells (([(⟨x0_0, x0_1⟩ : Pt)] : List (Pt)).flatMap encPt).toArray 24)) := by kernel_rfl

set_option maxRecDepth 100000 in
set_option maxHeartbeats 1000000 in
theorem samepoints_c (a1 : Option Addr) (c1 : Nat) (l : List Pt) (a2 : Option Addr) (c2 : Nat) (m : List Pt) (w : World) (hl : Has w (Pts a1 l)) (hm : Has w (Pts a2 m)) (hs : Small l.length) :
    Calls Tryd.prog 24 #[.slice a1 l.length c1, .slice a2 m.length c2] w (Pure (.bool (decide (l = m))) w) := by
  refine calls_of_gk (vs := [_, _]) Tryd.func24 rfl rfl (Nat.le_of_ble_eq_true rfl) ?_
  refine gk_seq ?_
  refine gk_region ?_
  refine gk_y rfl rfl (y_assign rfl) ?_
  refine gk_nil (gk_sub (T' := [(0,_), (1,_), (4,_)]) ⟨rfl, rfl, rfl, trivial⟩ ?_)
  refine gk_seq ?_
  refine gk_seq ?_
  refine gk_region ?_
  refine gk_y rfl rfl (y_move rfl) ?_
  refine gk_y rfl rfl (y_lenS (Tryd.underlying31) rfl) ?_
  refine gk_y rfl rfl (y_move rfl) ?_
  refine gk_y rfl rfl (y_lenS (Tryd.underlying22) rfl) ?_
  refine gk_y rfl rfl (y_neq rfl rfl) ?_
  refine gk_nil (gk_sub (T' := [(0,_), (1,_), (4,_), (10,_)]) ⟨rfl, rfl, rfl, rfl, trivial⟩ ?_)
  refine gk_cond rfl (fun hc10 => ?_) (fun hc10 => ?_)
  · have hne : l.length ≠ m.length := by simp only [Bool.not_eq_true', decide_eq_false_iff_not] at hc10; omega
    refine gk_seq ?_
    refine gk_region ?_
    refine gk_y rfl rfl (y_assign rfl) ?_
    refine gk_nil (gk_sub (T' := [(0,_), (1,_), (4,_)]) ⟨rfl, rfl, rfl, trivial⟩ ?_)
    refine gk_ret ?_
    refine gk_pure (rv_one rfl (r1_tmp rfl)) ?_
    rw [decide_eq_false (fun h => hne (by rw [h]))]
  · have hlm : l.length = m.length := by simp only [Bool.not_eq_false', decide_eq_true_eq] at hc10; omega
    refine gk_skip ?_
    refine gk_seq ?_
    refine gk_seq ?_
    refine gk_region ?_
    refine gk_y rfl rfl (y_assign rfl) ?_
    refine gk_nil (gk_sub (T' := [(0,_), (1,_), (4,_), (5,_)]) ⟨rfl, rfl, rfl, rfl, trivial⟩ ?_)
    refine gk_block ?_
    refine gk_loop (X := Int) (fun (i : Int) => [(0, .slice a1 l.length c1), (1, .slice a2 m.length c2), (4, .bool false), (5, .int .i64 i)]) (fun (i : Int) => []) (fun (i : Int) => (0 ≤ i ∧ i ≤ l.length ∧ ∀ j : Nat, (j : Int) < i → l.getD j default = m.getD j default)) (fun (i : Int) => (l.length - i).toNat) 0 ⟨rfl, rfl, rfl, rfl, trivial⟩ rfl ?_ ?_
    · exact ⟨by omega, by omega, fun j hj => by omega⟩
    · rintro i hI
      obtain ⟨g0, g1, g2⟩ := hI
      refine gk_seq ?_
      refine gk_seq ?_
      refine gk_region ?_
      refine gk_y rfl rfl (y_move rfl) ?_
      refine gk_y rfl rfl (y_move rfl) ?_
      refine gk_y rfl rfl (y_lenS (Tryd.underlying31) rfl) ?_
      refine gk_y rfl rfl (y_lss rfl rfl) ?_
      refine gk_nil (gk_sub (T' := [(0,_), (1,_), (4,_), (5,_), (14,_)]) ⟨rfl, rfl, rfl, rfl, rfl, trivial⟩ ?_)
      refine gk_cond rfl (fun hc14 => ?_) (fun hc14 => ?_)
      · simp only [decide_eq_true_eq] at hc14
        refine gk_skip ?_
        refine gk_seq ?_
        refine gk_block ?_
        refine gk_seq ?_
        refine gk_any 24 (fun _ => mixed) (by kernel_rfl) ?_
        refine ph_y (y_move rfl) ?_
        refine ph_y (y_move rfl) ?_
        refine ph_y (y_indexE se31 rfl rfl (fun _ hw => (Rd.has (Has.rd hl) hw)) (by omega) (by omega)) ?_
        refine ph_y (y_fieldE fo32_0 rfl (fun w hw => elems_addr (i := i) (Rd.has (Has.rd hl) hw) (by omega) (by omega))) ?_
        refine ph_y (y_loadEF tf3 rfl (fun _ hw => (Rd.has (Has.rd hl) hw)) (by omega) (by omega) rfl) ?_
        refine ph_y (y_move rfl) ?_
        refine ph_y (y_move rfl) ?_
        refine ph_y (y_indexE se22 rfl rfl (fun _ hw => (Rd.has (Has.rd hm) hw)) (by omega) (by omega)) ?_
        refine ph_y (y_fieldE fo24_0 rfl (fun w hw => elems_addr (i := i) (Rd.has (Has.rd hm) hw) (by omega) (by omega))) ?_
        refine ph_y (y_loadEF tf3 rfl (fun _ hw => (Rd.has (Has.rd hm) hw)) (by omega) (by omega) rfl) ?_
        refine ph_y (y_neq rfl rfl) ?_
        refine ph_y (y_move rfl) ?_
        refine ph_gF rfl rfl (fun hgd => by (try rw [hgd]); exact (y_move rfl)) ?_
        refine ph_gF rfl rfl (fun hgd => by (try rw [hgd]); exact (y_move rfl)) ?_
        refine ph_gF rfl rfl (fun hgd => by (try rw [hgd]); exact (y_indexE se31 rfl rfl (fun _ hw => (Rd.has (Has.rd hl) hw)) (by omega) (by omega))) ?_
        refine ph_gF rfl rfl (fun hgd => by (try rw [hgd]); exact (y_fieldE fo32_1 rfl (fun w hw => elems_addr (i := i) (Rd.has (Has.rd hl) hw) (by omega) (by omega)))) ?_
        refine ph_gF rfl rfl (fun hgd => by (try rw [hgd]); exact (y_loadEF tf3 rfl (fun _ hw => (Rd.has (Has.rd hl) hw)) (by omega) (by omega) rfl)) ?_
        refine ph_gF rfl rfl (fun hgd => by (try rw [hgd]); exact (y_move rfl)) ?_
        refine ph_gF rfl rfl (fun hgd => by (try rw [hgd]); exact (y_move rfl)) ?_
        refine ph_gF rfl rfl (fun hgd => by (try rw [hgd]); exact (y_indexE se22 rfl rfl (fun _ hw => (Rd.has (Has.rd hm) hw)) (by omega) (by omega))) ?_
        refine ph_gF rfl rfl (fun hgd => by (try rw [hgd]); exact (y_fieldE fo24_1 rfl (fun w hw => elems_addr (i := i) (Rd.has (Has.rd hm) hw) (by omega) (by omega)))) ?_
        refine ph_gF rfl rfl (fun hgd => by (try rw [hgd]); exact (y_loadEF tf3 rfl (fun _ hw => (Rd.has (Has.rd hm) hw)) (by omega) (by omega) rfl)) ?_
        refine ph_gF rfl rfl (fun hgd => by (try rw [hgd]); exact (y_neq rfl rfl)) ?_
        refine ph_y (y_pickOr rfl rfl rfl) ?_
        refine gk_nil (gk_sub (T' := [(0,_), (1,_), (4,_), (5,_), (40,_)]) ⟨rfl, rfl, rfl, rfl, rfl, trivial⟩ ?_)
        refine gk_cond rfl (fun hc40 => ?_) (fun hc40 => ?_)
        · skip
          refine gk_seq ?_
          refine gk_region ?_
          refine gk_y rfl rfl (y_assign rfl) ?_
          refine gk_nil (gk_sub (T' := [(0,_), (1,_), (4,_), (5,_)]) ⟨rfl, rfl, rfl, rfl, trivial⟩ ?_)
          refine gk_ret ?_
          refine gk_pure (rv_one rfl (r1_tmp rfl)) ?_
          rw [decide_eq_false (fun h => same_no hc40 (by rw [h]))]
        · skip
          refine gk_skip ?_
          refine gk_region ?_
          refine gk_y rfl rfl (y_move rfl) ?_
          refine gk_y rfl rfl (y_addI rfl rfl (by omega) (by omega)) ?_
          refine gk_y rfl rfl (y_assign rfl) ?_
          refine gk_nil (gk_sub (T' := [(0,_), (1,_), (4,_), (5,_)]) ⟨rfl, rfl, rfl, rfl, trivial⟩ ?_)
          exact gk_next _ ⟨rfl, rfl, rfl, rfl, trivial⟩ rfl ⟨by omega, by omega, fun j hj => if h : (j : Int) < i then g2 j h else (by rw [show j = i.toNat from by omega]; exact same_at hc40)⟩ (by omega)
      · simp only [decide_eq_false_iff_not] at hc14
        refine gk_exit rfl ?_
        refine gk_seq ?_
        refine gk_region ?_
        refine gk_y rfl rfl (y_assign rfl) ?_
        refine gk_nil (gk_sub (T' := [(4,_)]) ⟨rfl, trivial⟩ ?_)
        refine gk_ret ?_
        refine gk_pure (rv_one rfl (r1_tmp rfl)) ?_
        rw [decide_eq_true (same_all hlm (by omega) g2)]

set_option maxRecDepth 100000 in
set_option maxHeartbeats 1000000 in
theorem same_c (a1 : Option Addr) (c1 : Nat) (a : Stn) (a2 : Option Addr) (c2 : Nat) (b : Stn) (w : World) (hl : Has w (Pts a1 a.shape)) (hm : Has w (Pts a2 b.shape)) (hs : Small a.shape.length) :
    Calls Tryd.prog 21 #[.agg #[.string a.name, .slice a1 a.shape.length c1, .int .i64 a.depth, .int .i64 a.density, .int .i64 a.grain.x, .int .i64 a.grain.z], .agg #[.string b.name, .slice a2 b.shape.length c2, .int .i64 b.depth, .int .i64 b.density, .int .i64 b.grain.x, .int .i64 b.grain.z]] w (Pure (.bool (sameSB a b)) w) := by
  refine calls_of_gk (vs := [_, _]) Tryd.func21 rfl rfl (Nat.le_of_ble_eq_true rfl) ?_
  refine gk_seq ?_
  refine gk_region ?_
  refine gk_yx rfl rfl (yx_box (vs := [_, _, _, _, _, _]) rfl rfl) fun b2 => ?_
  refine gk_yx rfl rfl (yx_box (vs := [_, _, _, _, _, _]) rfl rfl) fun b3 => ?_
  refine gk_y rfl rfl (y_assign rfl) ?_
  refine gk_nil (gk_sub (T' := [(2,_), (3,_), (4,_)]) ⟨rfl, rfl, rfl, trivial⟩ ?_)
  refine gk_seq ?_
  refine gk_any 45 (fun _ => mixed) (by kernel_rfl) ?_
  refine ph_y (y_fieldAddr fo34_0 rfl) ?_
  refine ph_y (y_loadB1 1 tf9 rfl rfl rfl) ?_
  refine ph_y (y_fieldAddr fo26_0 rfl) ?_
  refine ph_y (y_loadB1 0 tf9 rfl rfl rfl) ?_
  refine ph_y (y_strEq rfl rfl) ?_
  refine ph_y (y_move rfl) ?_
  refine ph_gT rfl rfl (fun hgd => by (try rw [hgd]); exact (y_fieldAddr fo34_2 rfl)) ?_
  refine ph_gT rfl rfl (fun hgd => by (try rw [hgd]); exact (y_loadB1 1 tf3 rfl rfl rfl)) ?_
  refine ph_gT rfl rfl (fun hgd => by (try rw [hgd]); exact (y_fieldAddr fo26_2 rfl)) ?_
  refine ph_gT rfl rfl (fun hgd => by (try rw [hgd]); exact (y_loadB1 0 tf3 rfl rfl rfl)) ?_
  refine ph_gT rfl rfl (fun hgd => by (try rw [hgd]); exact (y_eql rfl rfl)) ?_
  refine ph_y (y_pickAnd rfl rfl rfl) ?_
  refine ph_y (y_move rfl) ?_
  refine ph_gT rfl rfl (fun hgd => by (try rw [hgd]); exact (y_fieldAddr fo34_3 rfl)) ?_
  refine ph_gT rfl rfl (fun hgd => by (try rw [hgd]); exact (y_loadB1 1 tf3 rfl rfl rfl)) ?_
  refine ph_gT rfl rfl (fun hgd => by (try rw [hgd]); exact (y_fieldAddr fo26_3 rfl)) ?_
  refine ph_gT rfl rfl (fun hgd => by (try rw [hgd]); exact (y_loadB1 0 tf3 rfl rfl rfl)) ?_
  refine ph_gT rfl rfl (fun hgd => by (try rw [hgd]); exact (y_eql rfl rfl)) ?_
  refine ph_y (y_pickAnd rfl rfl rfl) ?_
  refine ph_y (y_move rfl) ?_
  refine ph_gT rfl rfl (fun hgd => by (try rw [hgd]); exact (y_fieldAddr fo34_4 rfl)) ?_
  refine ph_gT rfl rfl (fun hgd => by (try rw [hgd]); exact (y_fieldAddr fo32_0 rfl)) ?_
  refine ph_gT rfl rfl (fun hgd => by (try rw [hgd]); exact (y_loadB1 1 tf3 rfl rfl rfl)) ?_
  refine ph_gT rfl rfl (fun hgd => by (try rw [hgd]); exact (y_fieldAddr fo26_4 rfl)) ?_
  refine ph_gT rfl rfl (fun hgd => by (try rw [hgd]); exact (y_fieldAddr fo24_0 rfl)) ?_
  refine ph_gT rfl rfl (fun hgd => by (try rw [hgd]); exact (y_loadB1 0 tf3 rfl rfl rfl)) ?_
  refine ph_gT rfl rfl (fun hgd => by (try rw [hgd]); exact (y_eql rfl rfl)) ?_
  refine ph_y (y_pickAnd rfl rfl rfl) ?_
  refine ph_y (y_move rfl) ?_
  refine ph_gT rfl rfl (fun hgd => by (try rw [hgd]); exact (y_fieldAddr fo34_4 rfl)) ?_
  refine ph_gT rfl rfl (fun hgd => by (try rw [hgd]); exact (y_fieldAddr fo32_1 rfl)) ?_
  refine ph_gT rfl rfl (fun hgd => by (try rw [hgd]); exact (y_loadB1 1 tf3 rfl rfl rfl)) ?_
  refine ph_gT rfl rfl (fun hgd => by (try rw [hgd]); exact (y_fieldAddr fo26_4 rfl)) ?_
  refine ph_gT rfl rfl (fun hgd => by (try rw [hgd]); exact (y_fieldAddr fo24_1 rfl)) ?_
  refine ph_gT rfl rfl (fun hgd => by (try rw [hgd]); exact (y_loadB1 0 tf3 rfl rfl rfl)) ?_
  refine ph_gT rfl rfl (fun hgd => by (try rw [hgd]); exact (y_eql rfl rfl)) ?_
  refine ph_y (y_pickAnd rfl rfl rfl) ?_
  refine ph_y (y_move rfl) ?_
  refine ph_gT rfl rfl (fun hgd => by (try rw [hgd]); exact (y_fieldAddr fo34_1 rfl)) ?_
  refine ph_gT rfl rfl (fun hgd => by (try rw [hgd]); exact (y_loadB1 1 tf31 rfl rfl rfl)) ?_
  refine ph_gT rfl rfl (fun hgd => by (try rw [hgd]); exact (y_fieldAddr fo26_1 rfl)) ?_
  refine ph_gT rfl rfl (fun hgd => by (try rw [hgd]); exact (y_loadB1 0 tf22 rfl rfl rfl)) ?_
  refine ph_gT rfl rfl (fun hgd => by (try rw [hgd]); exact (y_call (v := .bool (decide (a.shape = b.shape))) en24 rfl (fun w hw => samepoints_c _ _ a.shape _ _ b.shape w (Rd.has (Has.rd hl) hw) (Rd.has (Has.rd hm) hw) (by assumption)))) ?_
  refine ph_y (y_pickAnd rfl rfl rfl) ?_
  refine ph_y (y_assign rfl) ?_
  refine gk_nil (gk_sub (T' := [(4,_)]) ⟨rfl, trivial⟩ ?_)
  refine gk_ret ?_
  refine gk_pure (rv_one rfl (r1_tmp rfl)) ?_
  rfl

set_option maxRecDepth 100000 in
set_option maxHeartbeats 1000000 in
theorem none_c (a : Option Addr) (cap : Nat) (s : Stn) (w : World)  :
    Calls Tryd.prog 20 #[.agg #[.string s.name, .slice a s.shape.length cap, .int .i64 s.depth, .int .i64 s.density, .int .i64 s.grain.x, .int .i64 s.grain.z]] w (Pure (.bool (noneSB s)) w) := by
  refine calls_of_gk (vs := [_]) Tryd.func20 rfl rfl (Nat.le_of_ble_eq_true rfl) ?_
  refine gk_seq ?_
  refine gk_region ?_
  refine gk_yx rfl rfl (yx_box (vs := [_, _, _, _, _, _]) rfl rfl) fun b1 => ?_
  refine gk_y rfl rfl (y_assign rfl) ?_
  refine gk_nil (gk_sub (T' := [(1,_), (2,_)]) ⟨rfl, rfl, trivial⟩ ?_)
  refine gk_seq ?_
  refine gk_any 26 (fun _ => mixed) (by kernel_rfl) ?_
  refine ph_y (y_fieldAddr fo34_0 rfl) ?_
  refine ph_y (y_loadB1 0 tf9 rfl rfl rfl) ?_
  refine ph_y (y_strEq rfl rfl) ?_
  refine ph_y (y_move rfl) ?_
  refine ph_gT rfl rfl (fun hgd => by (try rw [hgd]); exact (y_fieldAddr fo34_1 rfl)) ?_
  refine ph_gT rfl rfl (fun hgd => by (try rw [hgd]); exact (y_loadB1 0 tf31 rfl rfl rfl)) ?_
  refine ph_gT rfl rfl (fun hgd => by (try rw [hgd]); exact (y_lenS (Tryd.underlying31) rfl)) ?_
  refine ph_gT rfl rfl (fun hgd => by (try rw [hgd]); exact (y_eql rfl rfl)) ?_
  refine ph_y (y_pickAnd rfl rfl rfl) ?_
  refine ph_y (y_move rfl) ?_
  refine ph_gT rfl rfl (fun hgd => by (try rw [hgd]); exact (y_fieldAddr fo34_2 rfl)) ?_
  refine ph_gT rfl rfl (fun hgd => by (try rw [hgd]); exact (y_loadB1 0 tf3 rfl rfl rfl)) ?_
  refine ph_gT rfl rfl (fun hgd => by (try rw [hgd]); exact (y_eql rfl rfl)) ?_
  refine ph_y (y_pickAnd rfl rfl rfl) ?_
  refine ph_y (y_move rfl) ?_
  refine ph_gT rfl rfl (fun hgd => by (try rw [hgd]); exact (y_fieldAddr fo34_3 rfl)) ?_
  refine ph_gT rfl rfl (fun hgd => by (try rw [hgd]); exact (y_loadB1 0 tf3 rfl rfl rfl)) ?_
  refine ph_gT rfl rfl (fun hgd => by (try rw [hgd]); exact (y_eql rfl rfl)) ?_
  refine ph_y (y_pickAnd rfl rfl rfl) ?_
  refine ph_y (y_move rfl) ?_
  refine ph_gT rfl rfl (fun hgd => by (try rw [hgd]); exact (y_fieldAddr fo34_4 rfl)) ?_
  refine ph_gT rfl rfl (fun hgd => by (try rw [hgd]); exact (y_loadBA 0 tf32 rfl rfl (vs := [_, _]) rfl rfl)) ?_
  refine ph_gT rfl rfl (fun hgd => by (try rw [hgd]); exact (y_buildL (parts := []) rfl bd32_)) ?_
  refine ph_gT rfl rfl (fun hgd => by (try rw [hgd]); exact (y_eql32 rfl rfl)) ?_
  refine ph_y (y_pickAnd rfl rfl rfl) ?_
  refine ph_y (y_assign rfl) ?_
  refine gk_nil (gk_sub (T' := [(2,_)]) ⟨rfl, trivial⟩ ?_)
  refine gk_ret ?_
  refine gk_pure (rv_one rfl (r1_tmp rfl)) ?_
  rfl

set_option maxRecDepth 100000 in
set_option maxHeartbeats 1000000 in
theorem lay_c (p : Pt) (way : Int) (w : World) (h0 : 0 ≤ way) (h7 : way ≤ 7) :
    Calls Tryd.prog 61 #[.agg #[.int .i64 p.x, .int .i64 p.z], .int .i64 way] w (Pure (ptV (layW way p)) w) := by
  have t0 : 0 ≤ way.tmod 4 := Int.tmod_nonneg _ h0
  have t1 : way.tmod 4 < 4 := Int.tmod_lt_of_pos _ (by decide)
  refine calls_of_gk (vs := [_, _]) Tryd.func61 rfl rfl (Nat.le_of_ble_eq_true rfl) ?_
  refine gk_seq ?_
  refine gk_region ?_
  refine gk_yx rfl rfl (yx_box (vs := [_, _]) rfl rfl) fun b2 => ?_
  refine gk_yx rfl rfl (yx_alloc tf24 (zs := [_, _]) rfl) fun b4 => ?_
  refine gk_nil (gk_sub (T' := [(1,_), (2,_), (4,_)]) ⟨rfl, rfl, rfl, trivial⟩ ?_)
  refine gk_seq ?_
  refine gk_seq ?_
  refine gk_region ?_
  refine gk_y rfl rfl (y_move rfl) ?_
  refine gk_y rfl rfl (y_geq rfl rfl) ?_
  refine gk_nil (gk_sub (T' := [(1,_), (2,_), (4,_), (7,_)]) ⟨rfl, rfl, rfl, rfl, trivial⟩ ?_)
  refine gk_cond rfl (fun hc7 => ?_) (fun hc7 => ?_)
  · have hc7 := of_decide_eq_true hc7
    refine gk_region ?_
    refine gk_y rfl rfl (y_fieldAddr fo24_0 rfl) ?_
    refine gk_y rfl rfl (y_loadB1 1 tf3 rfl rfl rfl) ?_
    refine gk_y rfl rfl (y_neg rfl) ?_
    refine gk_y rfl rfl (y_fieldAddr fo24_0 rfl) ?_
    refine gk_storeV 1 tf3 rfl rfl (vs := [_]) rfl rfl rfl rfl rfl ?_
    refine gk_nil (gk_sub (T' := [(1,_), (2,_), (4,_)]) ⟨rfl, rfl, rfl, trivial⟩ ?_)
    refine gk_seq ?_
    refine gk_seq ?_
    refine gk_region ?_
    refine gk_y rfl rfl (y_assign rfl) ?_
    refine gk_nil (gk_sub (T' := [(1,_), (2,_), (4,_), (5,_)]) ⟨rfl, rfl, rfl, rfl, trivial⟩ ?_)
    refine gk_conv (R' := Box b2 [.int .i64 ((layF p way).x), .int .i64 ((layF p way).z)] 24) 1 rfl (fun B w hA => by rw [show layF p way = _ from if_pos hc7]; exact hA) ?_
    refine gk_block ?_
    refine gk_loop (X := Int × Pt) (fun ⟨i, o⟩ => [(1, .int .i64 way), (2, .pointer (some ⟨b2, 0, none⟩)), (4, .pointer (some ⟨b4, 0, none⟩)), (5, .int .i64 i)]) (fun ⟨i, o⟩ => [Box b4 [.int .i64 0, .int .i64 0] 24, Box b2 [.int .i64 o.x, .int .i64 o.z] 24]) (fun ⟨i, o⟩ => (0 ≤ i ∧ i ≤ way.tmod 4 ∧ o = layN i.toNat (layF p way))) (fun ⟨i, o⟩ => (way.tmod 4 - i).toNat) (0, layF p way) ⟨rfl, rfl, rfl, rfl, trivial⟩ rfl ?_ ?_
    · exact ⟨by omega, by omega, rfl⟩
    · rintro ⟨i, o⟩ hI
      obtain ⟨g0, g1, g2⟩ := hI
      refine gk_seq ?_
      refine gk_seq ?_
      refine gk_region ?_
      refine gk_y rfl rfl (y_move rfl) ?_
      refine gk_y rfl rfl (y_move rfl) ?_
      refine gk_y rfl rfl (y_rem rfl rfl (by decide)) ?_
      refine gk_y rfl rfl (y_lss rfl rfl) ?_
      refine gk_nil (gk_sub (T' := [(1,_), (2,_), (4,_), (5,_), (15,_)]) ⟨rfl, rfl, rfl, rfl, rfl, trivial⟩ ?_)
      refine gk_cond rfl (fun hc15 => ?_) (fun hc15 => ?_)
      · simp only [decide_eq_true_eq] at hc15
        refine gk_skip ?_
        refine gk_seq ?_
        refine gk_block ?_
        refine gk_region ?_
        refine gk_y rfl rfl (y_fieldAddr fo24_1 rfl) ?_
        refine gk_y rfl rfl (y_loadB1 1 tf3 rfl rfl rfl) ?_
        refine gk_y rfl rfl (y_neg rfl) ?_
        refine gk_y rfl rfl (y_fieldAddr fo24_0 rfl) ?_
        refine gk_y rfl rfl (y_loadB1 1 tf3 rfl rfl rfl) ?_
        refine gk_y rfl rfl (y_buildL rfl (bd24_0i_1i _ _)) ?_
        refine gk_storeV 1 tf24 rfl rfl (vs := [_, _]) rfl rfl rfl rfl rfl ?_
        refine gk_nil (gk_sub (T' := [(1,_), (2,_), (4,_), (5,_)]) ⟨rfl, rfl, rfl, rfl, trivial⟩ ?_)
        refine gk_region ?_
        refine gk_y rfl rfl (y_move rfl) ?_
        refine gk_y rfl rfl (y_addI rfl rfl (by omega) (by omega)) ?_
        refine gk_y rfl rfl (y_assign rfl) ?_
        refine gk_nil (gk_sub (T' := [(1,_), (2,_), (4,_), (5,_)]) ⟨rfl, rfl, rfl, rfl, trivial⟩ ?_)
        exact gk_next (i + 1, ⟨W (-o.z), o.x⟩) ⟨rfl, rfl, rfl, rfl, trivial⟩ rfl ⟨by omega, by omega, by rw [layN_succ g0, ← g2]⟩ (by simp only []; omega)
      · simp only [decide_eq_false_iff_not] at hc15
        refine gk_exit rfl ?_
        refine gk_seq ?_
        refine gk_region ?_
        refine gk_y rfl rfl (y_loadBA 1 tf24 rfl rfl (vs := [_, _]) rfl rfl) ?_
        refine gk_storeV 0 tf24 rfl rfl (vs := [_, _]) rfl rfl rfl rfl rfl ?_
        refine gk_nil (gk_sub (T' := [(4,_)]) ⟨rfl, trivial⟩ ?_)
        refine gk_ret ?_
        refine gk_pure (rv_one rfl (r1_cellA (i := 0) (vs := [_, _]) tf24 rfl rfl rfl rfl)) ?_
        rw [g2, show i = way.tmod 4 from by omega]; rfl
  · have hc7 := of_decide_eq_false hc7
    refine gk_skip ?_
    refine gk_seq ?_
    refine gk_seq ?_
    refine gk_region ?_
    refine gk_y rfl rfl (y_assign rfl) ?_
    refine gk_nil (gk_sub (T' := [(1,_), (2,_), (4,_), (5,_)]) ⟨rfl, rfl, rfl, rfl, trivial⟩ ?_)
    refine gk_conv (R' := Box b2 [.int .i64 ((layF p way).x), .int .i64 ((layF p way).z)] 24) 1 rfl (fun B w hA => by rw [show layF p way = _ from if_neg hc7]; exact hA) ?_
    refine gk_block ?_
    refine gk_loop (X := Int × Pt) (fun ⟨i, o⟩ => [(1, .int .i64 way), (2, .pointer (some ⟨b2, 0, none⟩)), (4, .pointer (some ⟨b4, 0, none⟩)), (5, .int .i64 i)]) (fun ⟨i, o⟩ => [Box b4 [.int .i64 0, .int .i64 0] 24, Box b2 [.int .i64 o.x, .int .i64 o.z] 24]) (fun ⟨i, o⟩ => (0 ≤ i ∧ i ≤ way.tmod 4 ∧ o = layN i.toNat (layF p way))) (fun ⟨i, o⟩ => (way.tmod 4 - i).toNat) (0, layF p way) ⟨rfl, rfl, rfl, rfl, trivial⟩ rfl ?_ ?_
    · exact ⟨by omega, by omega, rfl⟩
    · rintro ⟨i, o⟩ hI
      obtain ⟨g0, g1, g2⟩ := hI
      refine gk_seq ?_
      refine gk_seq ?_
      refine gk_region ?_
      refine gk_y rfl rfl (y_move rfl) ?_
      refine gk_y rfl rfl (y_move rfl) ?_
      refine gk_y rfl rfl (y_rem rfl rfl (by decide)) ?_
      refine gk_y rfl rfl (y_lss rfl rfl) ?_
      refine gk_nil (gk_sub (T' := [(1,_), (2,_), (4,_), (5,_), (15,_)]) ⟨rfl, rfl, rfl, rfl, rfl, trivial⟩ ?_)
      refine gk_cond rfl (fun hc15 => ?_) (fun hc15 => ?_)
      · simp only [decide_eq_true_eq] at hc15
        refine gk_skip ?_
        refine gk_seq ?_
        refine gk_block ?_
        refine gk_region ?_
        refine gk_y rfl rfl (y_fieldAddr fo24_1 rfl) ?_
        refine gk_y rfl rfl (y_loadB1 1 tf3 rfl rfl rfl) ?_
        refine gk_y rfl rfl (y_neg rfl) ?_
        refine gk_y rfl rfl (y_fieldAddr fo24_0 rfl) ?_
        refine gk_y rfl rfl (y_loadB1 1 tf3 rfl rfl rfl) ?_
        refine gk_y rfl rfl (y_buildL rfl (bd24_0i_1i _ _)) ?_
        refine gk_storeV 1 tf24 rfl rfl (vs := [_, _]) rfl rfl rfl rfl rfl ?_
        refine gk_nil (gk_sub (T' := [(1,_), (2,_), (4,_), (5,_)]) ⟨rfl, rfl, rfl, rfl, trivial⟩ ?_)
        refine gk_region ?_
        refine gk_y rfl rfl (y_move rfl) ?_
        refine gk_y rfl rfl (y_addI rfl rfl (by omega) (by omega)) ?_
        refine gk_y rfl rfl (y_assign rfl) ?_
        refine gk_nil (gk_sub (T' := [(1,_), (2,_), (4,_), (5,_)]) ⟨rfl, rfl, rfl, rfl, trivial⟩ ?_)
        exact gk_next (i + 1, ⟨W (-o.z), o.x⟩) ⟨rfl, rfl, rfl, rfl, trivial⟩ rfl ⟨by omega, by omega, by rw [layN_succ g0, ← g2]⟩ (by simp only []; omega)
      · simp only [decide_eq_false_iff_not] at hc15
        refine gk_exit rfl ?_
        refine gk_seq ?_
        refine gk_region ?_
        refine gk_y rfl rfl (y_loadBA 1 tf24 rfl rfl (vs := [_, _]) rfl rfl) ?_
        refine gk_storeV 0 tf24 rfl rfl (vs := [_, _]) rfl rfl rfl rfl rfl ?_
        refine gk_nil (gk_sub (T' := [(4,_)]) ⟨rfl, trivial⟩ ?_)
        refine gk_ret ?_
        refine gk_pure (rv_one rfl (r1_cellA (i := 0) (vs := [_, _]) tf24 rfl rfl rfl rfl)) ?_
        rw [g2, show i = way.tmod 4 from by omega]; rfl

set_option maxRecDepth 100000 in
set_option maxHeartbeats 1000000 in
theorem settle_c (a : Option Addr) (cap : Nat) (l : List Pt) (w : World) (hl : Has w (Pts a l)) (hs : Small l.length) (h0 : 0 < l.length) :
    Calls Tryd.prog 62 #[.slice a l.length cap] w (Gives (fun z : Option Addr × Nat => .slice z.1 (settleW l).length z.2) (fun z => Row z.1 2 z.2 24 encPt (settleW l)) w) := by
  obtain ⟨f0, f1⟩ := rfirst_in h0
  refine calls_of_gk (vs := [_]) Tryd.func62 rfl rfl (Nat.le_of_ble_eq_true rfl) ?_
  refine gk_seq ?_
  refine gk_region ?_
  refine gk_y rfl rfl (y_assign rfl) ?_
  refine gk_nil (gk_sub (T' := [(0,_), (2,_)]) ⟨rfl, rfl, trivial⟩ ?_)
  refine gk_seq ?_
  refine gk_region ?_
  refine gk_y rfl rfl (y_assign rfl) ?_
  refine gk_nil (gk_sub (T' := [(0,_), (2,_), (3,_)]) ⟨rfl, rfl, rfl, trivial⟩ ?_)
  refine gk_seq ?_
  refine gk_region ?_
  refine gk_y rfl rfl (y_move rfl) ?_
  refine gk_y rfl rfl (y_call en78 rfl (fun w hw => low_c _ _ l w (Rd.has (Has.rd hl) hw) (by assumption) (by assumption))) ?_
  refine gk_y rfl rfl (y_move rfl) ?_
  refine gk_y rfl rfl (y_call en110 rfl (fun w hw => rfirst_c _ _ l w (Rd.has (Has.rd hl) hw) (by assumption))) ?_
  refine gk_yx rfl rfl (yx_alloc tf24 (zs := [_, _]) rfl) fun b4 => ?_
  refine gk_storeV 0 tf24 rfl rfl (vs := [_, _]) rfl rfl rfl rfl rfl ?_
  refine gk_y rfl rfl (y_assign rfl) ?_
  refine gk_nil (gk_sub (T' := [(0,_), (2,_), (3,_), (4,_), (5,_)]) ⟨rfl, rfl, rfl, rfl, rfl, trivial⟩ ?_)
  refine gk_seq ?_
  refine gk_seq ?_
  refine gk_region ?_
  refine gk_y rfl rfl (y_assign rfl) ?_
  refine gk_nil (gk_sub (T' := [(0,_), (2,_), (3,_), (4,_), (5,_), (6,_)]) ⟨rfl, rfl, rfl, rfl, rfl, rfl, trivial⟩ ?_)
  refine gk_block ?_
  refine gk_newNil 24 encPt 2 ?_
  refine gk_loop (X := Int × Option Addr × Nat × List Pt) (fun ⟨i, b, bc, m⟩ => [(0, .slice a l.length cap), (2, .slice none 0 0), (3, .slice b m.length bc), (4, .pointer (some ⟨b4, 0, none⟩)), (5, .int .i64 (rfirst l)), (6, .int .i64 i)]) (fun ⟨i, b, bc, m⟩ => [Row b 2 bc 24 encPt m, Box b4 [.int .i64 ((leastL l).x), .int .i64 ((leastL l).z)] 24]) (fun ⟨i, b, bc, m⟩ => (0 ≤ i ∧ i ≤ l.length ∧ m = (List.range i.toNat).map (settleI l) ∧ m.length ≤ l.length)) (fun ⟨i, b, bc, m⟩ => (l.length - i).toNat) (0, none, 0, []) ⟨rfl, rfl, rfl, rfl, rfl, rfl, trivial⟩ rfl ?_ ?_
  · exact ⟨by omega, by omega, rfl, by simp⟩
  · rintro ⟨i, b, bc, m⟩ hI
    obtain ⟨g0, g1, g2, g3⟩ := hI
    have q0 : 0 ≤ (rfirst l + i).tmod (l.length : Int) := Int.tmod_nonneg _ (by omega)
    have q1 : (rfirst l + i).tmod (l.length : Int) < (l.length : Int) := Int.tmod_lt_of_pos _ (by omega)
    refine gk_seq ?_
    refine gk_seq ?_
    refine gk_region ?_
    refine gk_y rfl rfl (y_move rfl) ?_
    refine gk_y rfl rfl (y_move rfl) ?_
    refine gk_y rfl rfl (y_lenS (Tryd.underlying22) rfl) ?_
    refine gk_y rfl rfl (y_lss rfl rfl) ?_
    refine gk_nil (gk_sub (T' := [(0,_), (2,_), (3,_), (4,_), (5,_), (6,_), (15,_)]) ⟨rfl, rfl, rfl, rfl, rfl, rfl, rfl, trivial⟩ ?_)
    refine gk_cond rfl (fun hc15 => ?_) (fun hc15 => ?_)
    · simp only [decide_eq_true_eq] at hc15
      refine gk_skip ?_
      refine gk_seq ?_
      refine gk_block ?_
      refine gk_seq ?_
      refine gk_region ?_
      refine gk_y rfl rfl (y_move rfl) ?_
      refine gk_y rfl rfl (y_move rfl) ?_
      refine gk_y rfl rfl (y_move rfl) ?_
      refine gk_y rfl rfl (y_addI rfl rfl (by omega) (by omega)) ?_
      refine gk_y rfl rfl (y_move rfl) ?_
      refine gk_y rfl rfl (y_lenS (Tryd.underlying22) rfl) ?_
      refine gk_y rfl rfl (y_rem rfl rfl (by omega)) ?_
      refine gk_y rfl rfl (y_indexE se22 rfl rfl (fun _ hw => (Rd.has (Has.rd hl) hw)) (by omega) (by omega)) ?_
      refine gk_y rfl rfl (y_loadE (vs := [_, _]) tf24 rfl (fun _ hw => (Rd.has (Has.rd hl) hw)) (by omega) (by omega) rfl) ?_
      refine gk_yx rfl rfl (yx_alloc tf24 (zs := [_, _]) rfl) fun b7 => ?_
      refine gk_storeV 0 tf24 rfl rfl (vs := [_, _]) rfl rfl rfl rfl rfl ?_
      refine gk_nil (gk_sub (T' := [(0,_), (2,_), (3,_), (4,_), (5,_), (6,_), (7,_)]) ⟨rfl, rfl, rfl, rfl, rfl, rfl, rfl, trivial⟩ ?_)
      refine gk_region ?_
      refine gk_y rfl rfl (y_move rfl) ?_
      refine gk_y rfl rfl (y_fieldAddr fo24_0 rfl) ?_
      refine gk_y rfl rfl (y_loadB1 0 tf3 rfl rfl rfl) ?_
      refine gk_y rfl rfl (y_fieldAddr fo24_0 rfl) ?_
      refine gk_y rfl rfl (y_loadB1 2 tf3 rfl rfl rfl) ?_
      refine gk_y rfl rfl (y_sub rfl rfl) ?_
      refine gk_y rfl rfl (y_fieldAddr fo24_1 rfl) ?_
      refine gk_y rfl rfl (y_loadB1 0 tf3 rfl rfl rfl) ?_
      refine gk_y rfl rfl (y_fieldAddr fo24_1 rfl) ?_
      refine gk_y rfl rfl (y_loadB1 2 tf3 rfl rfl rfl) ?_
      refine gk_y rfl rfl (y_sub rfl rfl) ?_
      refine gk_y rfl rfl (y_buildL rfl (bd24_0i_1i _ _)) ?_
      refine gk_yx rfl rfl (yx_buildSlice rfl (bs22_1 _ _) encPt_ok rfl) fun b39 => ?_
      refine gk_append (m := [⟨(IntKind.i64.wrap (((l.getD ((Int.tmod ((rfirst l) + i) (l.length : Int))).toNat default).x) - ((leastL l).x))), (IntKind.i64.wrap (((l.getD ((Int.tmod ((rfirst l) + i) (l.length : Int))).toNat default).z) - ((leastL l).z)))⟩]) 2 af22 encPt_ok rfl rfl rfl rfl (fun _ hw => (has_row encPt_ok (hw.has (p := 0) rfl))) (by first | omega | (simp only [List.length_cons, List.length_nil]; omega)) (by first | (unfold maxLen; omega) | (simp only [List.length_cons, List.length_nil, maxLen]; omega)) fun a40 c40 => ?_
      refine gk_y rfl rfl (y_assign rfl) ?_
      refine gk_nil (gk_sub (T' := [(0,_), (2,_), (3,_), (4,_), (5,_), (6,_)]) ⟨rfl, rfl, rfl, rfl, rfl, rfl, trivial⟩ ?_)
      refine gk_region ?_
      refine gk_y rfl rfl (y_move rfl) ?_
      refine gk_y rfl rfl (y_addI rfl rfl (by omega) (by omega)) ?_
      refine gk_y rfl rfl (y_assign rfl) ?_
      refine gk_nil (gk_sub (T' := [(0,_), (2,_), (3,_), (4,_), (5,_), (6,_)]) ⟨rfl, rfl, rfl, rfl, rfl, rfl, trivial⟩ ?_)
      refine gk_dropAt 0 rfl ?_
      refine gk_dropAt 0 rfl ?_
      exact gk_next (i + 1, a40, c40, _) ⟨rfl, rfl, rfl, rfl, rfl, rfl, trivial⟩ rfl ⟨by omega, by omega, by rw [range_snoc _ g0, ← g2]; unfold settleI; rw [show ((i.toNat : Nat) : Int) = i from by omega]; rfl, by rw [List.length_append, g2, List.length_map, List.length_range]; simp only [List.length_cons, List.length_nil]; omega⟩ (by simp only []; omega)
    · simp only [decide_eq_false_iff_not] at hc15
      refine gk_exit rfl ?_
      refine gk_seq ?_
      refine gk_region ?_
      refine gk_y rfl rfl (y_move rfl) ?_
      refine gk_y rfl rfl (y_assign rfl) ?_
      refine gk_nil (gk_sub (T' := [(2,_)]) ⟨rfl, trivial⟩ ?_)
      obtain rfl : m = settleW l := by rw [g2, show i.toNat = l.length from by omega]; rfl
      refine gk_ret ?_
      refine gk_gives (b, bc) 0 (rv_one rfl (r1_tmp rfl)) ?_ rfl
      rfl

set_option maxRecDepth 100000 in
set_option maxHeartbeats 1000000 in
theorem rturned_c (a : Option Addr) (cap : Nat) (s : Stn) (way : Int) (w : World) (hl : Has w (Pts a s.shape)) (hs : Small s.shape.length) (h0 : 0 ≤ way) (h7 : way ≤ 7) (hp : 0 < s.shape.length) :
    Calls Tryd.prog 22 #[.agg #[.string s.name, .slice a s.shape.length cap, .int .i64 s.depth, .int .i64 s.density, .int .i64 s.grain.x, .int .i64 s.grain.z], .int .i64 way] w (Gives (fun z : Option Addr × Nat => stnV (rturnedS s way) z.1 z.2) (fun z => Row z.1 2 z.2 24 encPt (rturnedS s way).shape) w) := by
  refine calls_of_gk (vs := [_, _]) Tryd.func22 rfl rfl (Nat.le_of_ble_eq_true rfl) ?_
  refine gk_seq ?_
  refine gk_region ?_
  refine gk_yx rfl rfl (yx_box (vs := [_, _, _, _, _, _]) rfl rfl) fun b2 => ?_
  refine gk_yx rfl rfl (yx_alloc tf26 (zs := [_, _, _, _, _, _]) rfl) fun b4 => ?_
  refine gk_nil (gk_sub (T' := [(1,_), (2,_), (4,_)]) ⟨rfl, rfl, rfl, trivial⟩ ?_)
  refine gk_seq ?_
  refine gk_region ?_
  refine gk_y rfl rfl (y_assign rfl) ?_
  refine gk_nil (gk_sub (T' := [(1,_), (2,_), (4,_), (5,_)]) ⟨rfl, rfl, rfl, rfl, trivial⟩ ?_)
  refine gk_seq ?_
  refine gk_seq ?_
  refine gk_region ?_
  refine gk_y rfl rfl (y_assign rfl) ?_
  refine gk_nil (gk_sub (T' := [(1,_), (2,_), (4,_), (5,_), (6,_)]) ⟨rfl, rfl, rfl, rfl, rfl, trivial⟩ ?_)
  refine gk_block ?_
  refine gk_newNil 24 encPt 2 ?_
  refine gk_loop (X := Int × Option Addr × Nat × List Pt) (fun ⟨i, b, bc, m⟩ => [(1, .int .i64 way), (2, .pointer (some ⟨b2, 0, none⟩)), (4, .pointer (some ⟨b4, 0, none⟩)), (5, .slice b m.length bc), (6, .int .i64 i)]) (fun ⟨i, b, bc, m⟩ => [Row b 2 bc 24 encPt m, Box b4 [.string ⟨#[]⟩, .slice none 0 0, .int .i64 0, .int .i64 0, .int .i64 0, .int .i64 0] 26, Box b2 [.string s.name, .slice a s.shape.length cap, .int .i64 s.depth, .int .i64 s.density, .int .i64 s.grain.x, .int .i64 s.grain.z] 26]) (fun ⟨i, b, bc, m⟩ => (0 ≤ i ∧ i ≤ s.shape.length ∧ m = (List.range i.toNat).map (rturnI s way) ∧ m.length ≤ s.shape.length)) (fun ⟨i, b, bc, m⟩ => (s.shape.length - i).toNat) (0, none, 0, []) ⟨rfl, rfl, rfl, rfl, rfl, trivial⟩ rfl ?_ ?_
  · exact ⟨by omega, by omega, rfl, by simp⟩
  · rintro ⟨i, b, bc, m⟩ hI
    obtain ⟨g0, g1, g2, g3⟩ := hI
    refine gk_seq ?_
    refine gk_seq ?_
    refine gk_region ?_
    refine gk_y rfl rfl (y_move rfl) ?_
    refine gk_y rfl rfl (y_fieldAddr fo26_1 rfl) ?_
    refine gk_y rfl rfl (y_loadB1 2 tf22 rfl rfl rfl) ?_
    refine gk_y rfl rfl (y_lenS (Tryd.underlying22) rfl) ?_
    refine gk_y rfl rfl (y_lss rfl rfl) ?_
    refine gk_nil (gk_sub (T' := [(1,_), (2,_), (4,_), (5,_), (6,_), (12,_)]) ⟨rfl, rfl, rfl, rfl, rfl, rfl, trivial⟩ ?_)
    refine gk_cond rfl (fun hc12 => ?_) (fun hc12 => ?_)
    · simp only [decide_eq_true_eq] at hc12
      refine gk_skip ?_
      refine gk_seq ?_
      refine gk_block ?_
      refine gk_seq ?_
      refine gk_region ?_
      refine gk_y rfl rfl (y_move rfl) ?_
      refine gk_y rfl rfl (y_assign rfl) ?_
      refine gk_nil (gk_sub (T' := [(1,_), (2,_), (4,_), (5,_), (6,_), (7,_)]) ⟨rfl, rfl, rfl, rfl, rfl, rfl, trivial⟩ ?_)
      refine gk_seq ?_
      refine gk_seq ?_
      refine gk_region ?_
      refine gk_y rfl rfl (y_move rfl) ?_
      refine gk_y rfl rfl (y_geq rfl rfl) ?_
      refine gk_nil (gk_sub (T' := [(1,_), (2,_), (4,_), (5,_), (6,_), (7,_), (17,_)]) ⟨rfl, rfl, rfl, rfl, rfl, rfl, rfl, trivial⟩ ?_)
      refine gk_cond rfl (fun hc17 => ?_) (fun hc17 => ?_)
      · have hc17 := of_decide_eq_true hc17
        refine gk_region ?_
        refine gk_y rfl rfl (y_fieldAddr fo26_1 rfl) ?_
        refine gk_y rfl rfl (y_loadB1 2 tf22 rfl rfl rfl) ?_
        refine gk_y rfl rfl (y_lenS (Tryd.underlying22) rfl) ?_
        refine gk_y rfl rfl (y_subI rfl rfl (by omega) (by omega)) ?_
        refine gk_y rfl rfl (y_move rfl) ?_
        refine gk_y rfl rfl (y_subI rfl rfl (by omega) (by omega)) ?_
        refine gk_y rfl rfl (y_assign rfl) ?_
        refine gk_nil (gk_sub (T' := [(1,_), (2,_), (4,_), (5,_), (6,_), (7,_)]) ⟨rfl, rfl, rfl, rfl, rfl, rfl, trivial⟩ ?_)
        refine gk_region ?_
        refine gk_y rfl rfl (y_move rfl) ?_
        refine gk_y rfl rfl (y_fieldAddr fo26_1 rfl) ?_
        refine gk_y rfl rfl (y_loadB1 2 tf22 rfl rfl rfl) ?_
        refine gk_y rfl rfl (y_move rfl) ?_
        refine gk_y rfl rfl (y_indexE se22 rfl rfl (fun _ hw => (Rd.has (Has.rd hl) hw)) (by omega) (by omega)) ?_
        refine gk_y rfl rfl (y_loadE (vs := [_, _]) tf24 rfl (fun _ hw => (Rd.has (Has.rd hl) hw)) (by omega) (by omega) rfl) ?_
        refine gk_y rfl rfl (y_move rfl) ?_
        refine gk_y rfl rfl (y_call en61 rfl (fun w hw => lay_c (s.shape.getD ((((s.shape.length : Int) - 1) - i)).toNat default) way w (by assumption) (by assumption))) ?_
        refine gk_yx rfl rfl (yx_buildSlice rfl (bs22_1 _ _) encPt_ok rfl) fun b32 => ?_
        refine gk_append (m := [⟨((layW way (s.shape.getD ((((s.shape.length : Int) - 1) - i)).toNat default)).x), ((layW way (s.shape.getD ((((s.shape.length : Int) - 1) - i)).toNat default)).z)⟩]) 1 af22 encPt_ok rfl rfl rfl rfl (fun _ hw => (has_row encPt_ok (hw.has (p := 0) rfl))) (by first | omega | (simp only [List.length_cons, List.length_nil]; omega)) (by first | (unfold maxLen; omega) | (simp only [List.length_cons, List.length_nil, maxLen]; omega)) fun a33 c33 => ?_
        refine gk_y rfl rfl (y_assign rfl) ?_
        refine gk_nil (gk_sub (T' := [(1,_), (2,_), (4,_), (5,_), (6,_)]) ⟨rfl, rfl, rfl, rfl, rfl, trivial⟩ ?_)
        refine gk_region ?_
        refine gk_y rfl rfl (y_move rfl) ?_
        refine gk_y rfl rfl (y_addI rfl rfl (by omega) (by omega)) ?_
        refine gk_y rfl rfl (y_assign rfl) ?_
        refine gk_nil (gk_sub (T' := [(1,_), (2,_), (4,_), (5,_), (6,_)]) ⟨rfl, rfl, rfl, rfl, rfl, trivial⟩ ?_)
        refine gk_dropAt 0 rfl ?_
        exact gk_next (i + 1, a33, c33, _) ⟨rfl, rfl, rfl, rfl, rfl, trivial⟩ rfl ⟨by omega, by omega, by rw [range_snoc _ g0, ← g2]; unfold rturnI; rw [show ((i.toNat : Nat) : Int) = i from by omega]; first | (rw [if_pos hc17]; done) | (rw [if_neg hc17]; done) | (rw [if_pos hc17]; rfl) | (rw [if_neg hc17]; rfl), by rw [List.length_append, g2, List.length_map, List.length_range]; simp only [List.length_cons, List.length_nil]; omega⟩ (by simp only []; omega)
      · have hc17 := of_decide_eq_false hc17
        refine gk_skip ?_
        refine gk_region ?_
        refine gk_y rfl rfl (y_move rfl) ?_
        refine gk_y rfl rfl (y_fieldAddr fo26_1 rfl) ?_
        refine gk_y rfl rfl (y_loadB1 2 tf22 rfl rfl rfl) ?_
        refine gk_y rfl rfl (y_move rfl) ?_
        refine gk_y rfl rfl (y_indexE se22 rfl rfl (fun _ hw => (Rd.has (Has.rd hl) hw)) (by omega) (by omega)) ?_
        refine gk_y rfl rfl (y_loadE (vs := [_, _]) tf24 rfl (fun _ hw => (Rd.has (Has.rd hl) hw)) (by omega) (by omega) rfl) ?_
        refine gk_y rfl rfl (y_move rfl) ?_
        refine gk_y rfl rfl (y_call en61 rfl (fun w hw => lay_c (s.shape.getD (i).toNat default) way w (by assumption) (by assumption))) ?_
        refine gk_yx rfl rfl (yx_buildSlice rfl (bs22_1 _ _) encPt_ok rfl) fun b32 => ?_
        refine gk_append (m := [⟨((layW way (s.shape.getD (i).toNat default)).x), ((layW way (s.shape.getD (i).toNat default)).z)⟩]) 1 af22 encPt_ok rfl rfl rfl rfl (fun _ hw => (has_row encPt_ok (hw.has (p := 0) rfl))) (by first | omega | (simp only [List.length_cons, List.length_nil]; omega)) (by first | (unfold maxLen; omega) | (simp only [List.length_cons, List.length_nil, maxLen]; omega)) fun a33 c33 => ?_
        refine gk_y rfl rfl (y_assign rfl) ?_
        refine gk_nil (gk_sub (T' := [(1,_), (2,_), (4,_), (5,_), (6,_)]) ⟨rfl, rfl, rfl, rfl, rfl, trivial⟩ ?_)
        refine gk_region ?_
        refine gk_y rfl rfl (y_move rfl) ?_
        refine gk_y rfl rfl (y_addI rfl rfl (by omega) (by omega)) ?_
        refine gk_y rfl rfl (y_assign rfl) ?_
        refine gk_nil (gk_sub (T' := [(1,_), (2,_), (4,_), (5,_), (6,_)]) ⟨rfl, rfl, rfl, rfl, rfl, trivial⟩ ?_)
        refine gk_dropAt 0 rfl ?_
        exact gk_next (i + 1, a33, c33, _) ⟨rfl, rfl, rfl, rfl, rfl, trivial⟩ rfl ⟨by omega, by omega, by rw [range_snoc _ g0, ← g2]; unfold rturnI; rw [show ((i.toNat : Nat) : Int) = i from by omega]; first | (rw [if_pos hc17]; done) | (rw [if_neg hc17]; done) | (rw [if_pos hc17]; rfl) | (rw [if_neg hc17]; rfl), by rw [List.length_append, g2, List.length_map, List.length_range]; simp only [List.length_cons, List.length_nil]; omega⟩ (by simp only []; omega)
    · have hc12 := of_decide_eq_false hc12
      have hm : m = rturnL s way := by rw [g2, show i.toNat = s.shape.length from by omega]; rfl
      have hml : m.length = s.shape.length := by rw [hm]; simp [rturnL]
      have hm0 : 0 < m.length := by omega
      have hms : Small m.length := by omega
      refine gk_exit rfl ?_
      refine gk_seq ?_
      refine gk_any 7 (fun _ => mixed) (by kernel_rfl) ?_
      refine ph_y (y_move rfl) ?_
      refine ph_yx (yx_call en62 rfl (fun w hw => settle_c _ _ m w (has_row encPt_ok (hw.has (p := 0) rfl)) (by assumption) (by assumption))) ?_
      refine ph_y (y_fieldAddr fo26_4 rfl) ?_
      refine ph_y (y_loadBA 2 tf24 rfl rfl (vs := [_, _]) rfl rfl) ?_
      refine ph_y (y_move rfl) ?_
      refine ph_y (fun p35 => y_call en61 rfl (fun w hw => lay_c s.grain way w (by assumption) (by assumption))) ?_
      refine ph_y (fun p35 => y_fieldAddr fo26_1 rfl) ?_
      intro p35
      refine gk_sub (T' := [(2,_), (4,_), (35,_), (39,_), (40,_)]) ⟨rfl, rfl, rfl, rfl, rfl, trivial⟩ ?_
      refine gk_storeV 3 tf22 rfl rfl (vs := [_]) rfl rfl rfl rfl rfl ?_
      refine gk_y rfl rfl (y_fieldAddr fo26_4 rfl) ?_
      refine gk_storeV 3 tf24 rfl rfl (vs := [_, _]) rfl rfl rfl rfl rfl ?_
      refine gk_nil (gk_sub (T' := [(2,_), (4,_)]) ⟨rfl, rfl, trivial⟩ ?_)
      refine gk_seq ?_
      refine gk_region ?_
      refine gk_y rfl rfl (y_loadBA 3 tf26 rfl rfl (vs := [_, _, _, _, _, _]) rfl rfl) ?_
      refine gk_storeV 2 tf26 rfl rfl (vs := [_, _, _, _, _, _]) rfl rfl rfl rfl rfl ?_
      refine gk_nil (gk_sub (T' := [(4,_)]) ⟨rfl, trivial⟩ ?_)
      refine gk_ret ?_
      refine gk_gives p35 0 (rv_one rfl (r1_cellA (i := 2) (vs := [_, _, _, _, _, _]) tf26 rfl rfl rfl rfl)) ?_ (by subst hm; rfl)
      subst hm; rfl

end Go.Proofs.YtahahmelnaphjaaDoor
