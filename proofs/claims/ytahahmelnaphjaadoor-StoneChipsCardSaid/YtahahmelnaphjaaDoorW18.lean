/- Walks: steps along an edge, chips. No statement of the seat is proved in this text. -/
import Derived.Test.YtahahmelnaphjaaDoorW17
import Derived.Test.YtahahmelnaphjaaDoorL8
namespace Go.Proofs.YtahahmelnaphjaaDoor
open Go.K Go.Stn Go.RowKit
theorem en91 : En Tryd.prog 91 := en_of Tryd.func91 (by kernel_rfl) (by kernel_rfl)
theorem bd24_  (w : World) : (Instr.build 24 #[]).run Tryd.prog w = .ok (.agg #[.int IntKind.i64 0, .int IntKind.i64 0]) w := by kernel_rfl

set_option maxRecDepth 100000 in
set_option maxHeartbeats 1000000 in
theorem along_c (p q : Pt) (w : World) (hp : farB p = false) (hq : farB q = false) (hne : p ≠ q) :
    Calls Tryd.prog 91 #[.agg #[.int .i64 p.x, .int .i64 p.z], .agg #[.int .i64 q.x, .int .i64 q.z]] w (Gives (fun z : Option Addr × Nat => .slice z.1 (alongL p q).length z.2) (fun z => Row z.1 2 z.2 24 encPt (alongL p q)) w) := by
  obtain ⟨lp0, lp1⟩ := long_pos hp hq hne
  refine calls_of_gk (vs := [_, _]) Tryd.func91 rfl rfl (Nat.le_of_ble_eq_true rfl) ?_
  refine gk_seq ?_
  refine gk_region ?_
  refine gk_yx rfl rfl (yx_box (vs := [_, _]) rfl rfl) fun b2 => ?_
  refine gk_yx rfl rfl (yx_box (vs := [_, _]) rfl rfl) fun b3 => ?_
  refine gk_y rfl rfl (y_assign rfl) ?_
  refine gk_nil (gk_sub (T' := [(2,_), (3,_), (4,_)]) ⟨rfl, rfl, rfl, trivial⟩ ?_)
  refine gk_seq ?_
  refine gk_region ?_
  refine gk_y rfl rfl (y_assign rfl) ?_
  refine gk_nil (gk_sub (T' := [(2,_), (3,_), (4,_), (5,_)]) ⟨rfl, rfl, rfl, rfl, trivial⟩ ?_)
  refine gk_seq ?_
  refine gk_any 12 (fun _ => mixed) (by kernel_rfl) ?_
  refine ph_y (y_fieldAddr fo24_0 rfl) ?_
  refine ph_y (y_loadB1 0 tf3 rfl rfl rfl) ?_
  refine ph_y (y_fieldAddr fo24_0 rfl) ?_
  refine ph_y (y_loadB1 1 tf3 rfl rfl rfl) ?_
  refine ph_y (y_sub rfl rfl) ?_
  refine ph_y (y_fieldAddr fo24_1 rfl) ?_
  refine ph_y (y_loadB1 0 tf3 rfl rfl rfl) ?_
  refine ph_y (y_fieldAddr fo24_1 rfl) ?_
  refine ph_y (y_loadB1 1 tf3 rfl rfl rfl) ?_
  refine ph_y (y_sub rfl rfl) ?_
  refine ph_y (y_assign rfl) ?_
  refine ph_y (y_assign rfl) ?_
  refine gk_nil (gk_sub (T' := [(2,_), (4,_), (5,_), (6,_), (7,_)]) ⟨rfl, rfl, rfl, rfl, rfl, trivial⟩ ?_)
  refine gk_sub (T' := [(2,_), (4,_), (5,_), (6, .int .i64 (rdx [p, q] 0)), (7, .int .i64 (rdz [p, q] 0))]) ⟨rfl, rfl, rfl, rfl, rfl, trivial⟩ ?_
  refine gk_seq ?_
  refine gk_region ?_
  refine gk_y rfl rfl (y_move rfl) ?_
  refine gk_y rfl rfl (y_move rfl) ?_
  refine gk_y rfl rfl (y_neg rfl) ?_
  refine gk_y rfl rfl (y_max rfl rfl) ?_
  refine gk_y rfl rfl (y_move rfl) ?_
  refine gk_y rfl rfl (y_move rfl) ?_
  refine gk_y rfl rfl (y_neg rfl) ?_
  refine gk_y rfl rfl (y_max rfl rfl) ?_
  refine gk_y rfl rfl (y_max rfl rfl) ?_
  refine gk_y rfl rfl (y_assign rfl) ?_
  refine gk_nil (gk_sub (T' := [(2,_), (4,_), (5,_), (6,_), (7,_), (8,_)]) ⟨rfl, rfl, rfl, rfl, rfl, rfl, trivial⟩ ?_)
  refine gk_sub (T' := [(2,_), (4,_), (5,_), (6,_), (7,_), (8, .int .i64 (rlong [p, q] 0))]) ⟨rfl, rfl, rfl, rfl, rfl, rfl, trivial⟩ ?_
  refine gk_seq ?_
  refine gk_seq ?_
  refine gk_region ?_
  refine gk_y rfl rfl (y_assign rfl) ?_
  refine gk_nil (gk_sub (T' := [(2,_), (4,_), (5,_), (6,_), (7,_), (8,_), (9,_)]) ⟨rfl, rfl, rfl, rfl, rfl, rfl, rfl, trivial⟩ ?_)
  refine gk_block ?_
  refine gk_newNil 24 encPt 2 ?_
  refine gk_loop (X := Int × Option Addr × Nat × List Pt) (fun ⟨k, b, bc, o⟩ => [(2, .pointer (some ⟨b2, 0, none⟩)), (4, .slice none 0 0), (5, .slice b o.length bc), (6, .int .i64 (rdx [p, q] 0)), (7, .int .i64 (rdz [p, q] 0)), (8, .int .i64 (rlong [p, q] 0)), (9, .int .i64 k)]) (fun ⟨k, b, bc, o⟩ => [Row b 2 bc 24 encPt o, Box b3 [.int .i64 q.x, .int .i64 q.z] 24, Box b2 [.int .i64 p.x, .int .i64 p.z] 24]) (fun ⟨k, b, bc, o⟩ => (0 ≤ k ∧ k ≤ rlong [p, q] 0 + 1 ∧ o = rbI [p, q] 0 k.toNat ∧ o.length ≤ k.toNat)) (fun ⟨k, b, bc, o⟩ => (rlong [p, q] 0 + 1 - k).toNat) (0, none, 0, []) ⟨rfl, rfl, rfl, rfl, rfl, rfl, rfl, trivial⟩ rfl ?_ ?_
  · exact ⟨by omega, by omega, rfl, by simp⟩
  · rintro ⟨k, b, bc, o⟩ hI
    obtain ⟨k0, k1, k2, k3⟩ := hI
    refine gk_seq ?_
    refine gk_seq ?_
    refine gk_region ?_
    refine gk_y rfl rfl (y_move rfl) ?_
    refine gk_y rfl rfl (y_move rfl) ?_
    refine gk_y rfl rfl (y_leq rfl rfl) ?_
    refine gk_nil (gk_sub (T' := [(2,_), (4,_), (5,_), (6,_), (7,_), (8,_), (9,_), (31,_)]) ⟨rfl, rfl, rfl, rfl, rfl, rfl, rfl, rfl, trivial⟩ ?_)
    refine gk_cond rfl (fun hc31 => ?_) (fun hc31 => ?_)
    · have hc31 := of_decide_eq_true hc31
      refine gk_skip ?_
      refine gk_seq ?_
      refine gk_block ?_
      refine gk_seq ?_
      refine gk_any 14 (fun _ => mixed) (by kernel_rfl) ?_
      refine ph_y (y_move rfl) ?_
      refine ph_y (y_move rfl) ?_
      refine ph_y (y_mul rfl rfl) ?_
      refine ph_y (y_move rfl) ?_
      refine ph_y (y_rem rfl rfl (by omega)) ?_
      refine ph_y (y_eql rfl rfl) ?_
      refine ph_y (y_move rfl) ?_
      refine ph_gT rfl rfl (fun hgd => by (try rw [hgd]); exact (y_move rfl)) ?_
      refine ph_gT rfl rfl (fun hgd => by (try rw [hgd]); exact (y_move rfl)) ?_
      refine ph_gT rfl rfl (fun hgd => by (try rw [hgd]); exact (y_mul rfl rfl)) ?_
      refine ph_gT rfl rfl (fun hgd => by (try rw [hgd]); exact (y_move rfl)) ?_
      refine ph_gT rfl rfl (fun hgd => by (try rw [hgd]); exact (y_rem rfl rfl (by omega))) ?_
      refine ph_gT rfl rfl (fun hgd => by (try rw [hgd]); exact (y_eql rfl rfl)) ?_
      refine ph_y (y_pickAnd rfl rfl rfl) ?_
      refine gk_nil (gk_sub (T' := [(2,_), (4,_), (5,_), (6,_), (7,_), (8,_), (9,_), (47,_)]) ⟨rfl, rfl, rfl, rfl, rfl, rfl, rfl, rfl, trivial⟩ ?_)
      refine gk_cond rfl (fun hc47 => ?_) (fun hc47 => ?_)
      · skip
        refine gk_any 19 (fun _ => mixed) (by kernel_rfl) ?_
        refine ph_y (y_move rfl) ?_
        refine ph_y (y_fieldAddr fo24_0 rfl) ?_
        refine ph_y (y_loadB1 2 tf3 rfl rfl rfl) ?_
        refine ph_y (y_move rfl) ?_
        refine ph_y (y_move rfl) ?_
        refine ph_y (y_mul rfl rfl) ?_
        refine ph_y (y_move rfl) ?_
        refine ph_y (y_quo rfl rfl (by omega)) ?_
        refine ph_y (y_add rfl rfl) ?_
        refine ph_y (y_fieldAddr fo24_1 rfl) ?_
        refine ph_y (y_loadB1 2 tf3 rfl rfl rfl) ?_
        refine ph_y (y_move rfl) ?_
        refine ph_y (y_move rfl) ?_
        refine ph_y (y_mul rfl rfl) ?_
        refine ph_y (y_move rfl) ?_
        refine ph_y (y_quo rfl rfl (by omega)) ?_
        refine ph_y (y_add rfl rfl) ?_
        refine ph_y (y_buildL rfl (bd24_0i_1i _ _)) ?_
        refine ph_yx (yx_buildSlice rfl (bs22_1 _ _) encPt_ok rfl) ?_
        intro b66
        refine gk_sub (T' := [(2,_), (4,_), (5,_), (6,_), (7,_), (8,_), (9,_), (48,_), (66,_)]) ⟨rfl, rfl, rfl, rfl, rfl, rfl, rfl, rfl, rfl, trivial⟩ ?_
        refine gk_append (m := [⟨(IntKind.i64.wrap (p.x + (IntKind.i64.wrap (Int.tdiv (IntKind.i64.wrap ((rdx [p, q] 0) * k)) (rlong [p, q] 0))))), (IntKind.i64.wrap (p.z + (IntKind.i64.wrap (Int.tdiv (IntKind.i64.wrap ((rdz [p, q] 0) * k)) (rlong [p, q] 0)))))⟩]) 1 af22 encPt_ok rfl rfl rfl rfl (fun _ hw => (has_row encPt_ok (hw.has (p := 0) rfl))) (by first | omega | (simp only [List.length_cons, List.length_nil]; omega)) (by first | (unfold maxLen; omega) | (simp only [List.length_cons, List.length_nil, maxLen]; omega)) fun a67 c67 => ?_
        refine gk_y rfl rfl (y_assign rfl) ?_
        refine gk_nil (gk_sub (T' := [(2,_), (4,_), (5,_), (6,_), (7,_), (8,_), (9,_)]) ⟨rfl, rfl, rfl, rfl, rfl, rfl, rfl, trivial⟩ ?_)
        refine gk_region ?_
        refine gk_y rfl rfl (y_move rfl) ?_
        refine gk_y rfl rfl (y_addI rfl rfl (by omega) (by omega)) ?_
        refine gk_y rfl rfl (y_assign rfl) ?_
        refine gk_nil (gk_sub (T' := [(2,_), (4,_), (5,_), (6,_), (7,_), (8,_), (9,_)]) ⟨rfl, rfl, rfl, rfl, rfl, rfl, rfl, trivial⟩ ?_)
        refine gk_dropAt 0 rfl ?_
        exact gk_next (k + 1, _, _, _) ⟨rfl, rfl, rfl, rfl, rfl, rfl, rfl, trivial⟩ rfl ⟨by omega, by omega, by rw [rbI_succ k0, ← k2]; first | (rw [if_pos (show rbok [p, q] 0 k = true from hc47)]; rfl) | (rw [if_neg (by rw [show rbok [p, q] 0 k = false from hc47]; exact Bool.false_ne_true), List.append_nil]), by first | (rw [List.length_append]; simp only [List.length_cons, List.length_nil]; omega) | omega⟩ (by simp only []; omega)
      · skip
        refine gk_skip ?_
        refine gk_region ?_
        refine gk_y rfl rfl (y_move rfl) ?_
        refine gk_y rfl rfl (y_addI rfl rfl (by omega) (by omega)) ?_
        refine gk_y rfl rfl (y_assign rfl) ?_
        refine gk_nil (gk_sub (T' := [(2,_), (4,_), (5,_), (6,_), (7,_), (8,_), (9,_)]) ⟨rfl, rfl, rfl, rfl, rfl, rfl, rfl, trivial⟩ ?_)
        exact gk_next (k + 1, _, _, _) ⟨rfl, rfl, rfl, rfl, rfl, rfl, rfl, trivial⟩ rfl ⟨by omega, by omega, by rw [rbI_succ k0, ← k2]; first | (rw [if_pos (show rbok [p, q] 0 k = true from hc47)]; rfl) | (rw [if_neg (by rw [show rbok [p, q] 0 k = false from hc47]; exact Bool.false_ne_true), List.append_nil]), by first | (rw [List.length_append]; simp only [List.length_cons, List.length_nil]; omega) | omega⟩ (by simp only []; omega)
    · have hc31 := of_decide_eq_false hc31
      refine gk_exit rfl ?_
      refine gk_seq ?_
      refine gk_region ?_
      refine gk_y rfl rfl (y_move rfl) ?_
      refine gk_y rfl rfl (y_assign rfl) ?_
      refine gk_nil (gk_sub (T' := [(4,_)]) ⟨rfl, trivial⟩ ?_)
      obtain rfl : o = alongL p q := by rw [k2, show k = rlong [p, q] 0 + 1 from by omega]; rfl
      refine gk_ret ?_
      refine gk_gives (b, bc) 0 (rv_one rfl (r1_tmp rfl)) ?_ rfl
      rfl

set_option maxRecDepth 100000 in
set_option maxHeartbeats 1000000 in
theorem steps3_c (a : Option Addr) (cap : Nat) (s : Stn) (c b o : Int) (w : World) (hl : Has w (Pts a s.shape)) (hs : Small s.shape.length) (hck : checkI s = 0) :
    Calls Tryd.prog 41 #[.agg #[.string s.name, .slice a s.shape.length cap, .int .i64 s.depth, .int .i64 s.density, .int .i64 s.grain.x, .int .i64 s.grain.z], .int .i64 c, .int .i64 b, .int .i64 o] w (Pure (.tuple #[ptV (sP s.shape c b o), ptV (sQ s.shape c b o), .bool (sokB s.shape c b o)]) w) := by
  have hgd := good_of hck
  refine calls_of_gk (vs := [_, _, _, _]) Tryd.func41 rfl rfl (Nat.le_of_ble_eq_true rfl) ?_
  refine gk_seq ?_
  refine gk_region ?_
  refine gk_yx rfl rfl (yx_box (vs := [_, _, _, _, _, _]) rfl rfl) fun b4 => ?_
  refine gk_yx rfl rfl (yx_alloc tf24 (zs := [_, _]) rfl) fun b8 => ?_
  refine gk_yx rfl rfl (yx_alloc tf24 (zs := [_, _]) rfl) fun b9 => ?_
  refine gk_y rfl rfl (y_assign rfl) ?_
  refine gk_nil (gk_sub (T' := [(1,_), (2,_), (3,_), (4,_), (8,_), (9,_), (10,_)]) ⟨rfl, rfl, rfl, rfl, rfl, rfl, rfl, trivial⟩ ?_)
  refine gk_seq ?_
  refine gk_region ?_
  refine gk_y rfl rfl (y_fieldAddr fo26_1 rfl) ?_
  refine gk_y rfl rfl (y_loadB1 2 tf22 rfl rfl rfl) ?_
  refine gk_y rfl rfl (y_lenS (Tryd.underlying22) rfl) ?_
  refine gk_y rfl rfl (y_assign rfl) ?_
  refine gk_nil (gk_sub (T' := [(1,_), (2,_), (3,_), (4,_), (8,_), (9,_), (10,_), (11,_)]) ⟨rfl, rfl, rfl, rfl, rfl, rfl, rfl, rfl, trivial⟩ ?_)
  refine gk_seq ?_
  refine gk_seq ?_
  refine gk_any 7 (fun _ => mixed) (by kernel_rfl) ?_
  refine ph_y (y_move rfl) ?_
  refine ph_y (y_lss rfl rfl) ?_
  refine ph_y (y_move rfl) ?_
  refine ph_gF rfl rfl (fun hgd => by (try rw [hgd]); exact (y_move rfl)) ?_
  refine ph_gF rfl rfl (fun hgd => by (try rw [hgd]); exact (y_move rfl)) ?_
  refine ph_gF rfl rfl (fun hgd => by (try rw [hgd]); exact (y_geq rfl rfl)) ?_
  refine ph_y (y_pickOr rfl rfl rfl) ?_
  refine gk_nil (gk_sub (T' := [(1,_), (2,_), (3,_), (4,_), (8,_), (9,_), (10,_), (11,_), (24,_)]) ⟨rfl, rfl, rfl, rfl, rfl, rfl, rfl, rfl, rfl, trivial⟩ ?_)
  refine gk_cond rfl (fun hc24 => ?_) (fun hc24 => ?_)
  · have hz : sokB s.shape c b o = false := by unfold sokB; rw [show soutB s.shape c = true from hc24]; rfl
    refine gk_seq ?_
    refine gk_region ?_
    refine gk_y rfl rfl (y_buildL (parts := []) rfl bd24_) ?_
    refine gk_y rfl rfl (y_buildL (parts := []) rfl bd24_) ?_
    refine gk_storeV 1 tf24 rfl rfl (vs := [_, _]) rfl rfl rfl rfl rfl ?_
    refine gk_storeV 0 tf24 rfl rfl (vs := [_, _]) rfl rfl rfl rfl rfl ?_
    refine gk_y rfl rfl (y_assign rfl) ?_
    refine gk_nil (gk_sub (T' := [(1,_), (2,_), (3,_), (4,_), (8,_), (9,_), (10,_), (11,_)]) ⟨rfl, rfl, rfl, rfl, rfl, rfl, rfl, rfl, trivial⟩ ?_)
    refine gk_ret ?_
    refine gk_pure (rv_three rfl (r1_cellA (i := 1) (vs := [_, _]) tf24 rfl rfl rfl rfl) (r1_cellA (i := 0) (vs := [_, _]) tf24 rfl rfl rfl rfl) (r1_tmp rfl)) ?_
    rw [sP, sQ, hz]; rfl
  · have hc24 : soutB s.shape c = false := hc24
    have hcc : 0 ≤ c ∧ c < (s.shape.length : Int) := by unfold soutB at hc24; simp at hc24; omega
    obtain ⟨hf0, ⟨hf1, hn1, ha1⟩, hf2, hn2, ha2⟩ := hgd.nb hcc.1 hcc.2
    have t0 : 0 ≤ (c + (s.shape.length : Int) - 1).tmod (s.shape.length : Int) := Int.tmod_nonneg _ (by omega)
    have t1 : (c + (s.shape.length : Int) - 1).tmod (s.shape.length : Int) < (s.shape.length : Int) := Int.tmod_lt_of_pos _ (by omega)
    have t2 : 0 ≤ (c + 1).tmod (s.shape.length : Int) := Int.tmod_nonneg _ (by omega)
    have t3 : (c + 1).tmod (s.shape.length : Int) < (s.shape.length : Int) := Int.tmod_lt_of_pos _ (by omega)
    have l1 := along_len hf0 hf1 hn1
    have l2 := along_len hf0 hf2 hn2
    have l3 := steps_le2 hf0 hf1 hn1
    have l4 := steps_le2 hf0 hf2 hn2
    refine gk_skip ?_
    refine gk_seq ?_
    refine gk_region ?_
    refine gk_y rfl rfl (y_fieldAddr fo26_1 rfl) ?_
    refine gk_y rfl rfl (y_loadB1 2 tf22 rfl rfl rfl) ?_
    refine gk_y rfl rfl (y_move rfl) ?_
    refine gk_y rfl rfl (y_indexE se22 rfl rfl (fun _ hw => (Rd.has (Has.rd hl) hw)) (by omega) (by omega)) ?_
    refine gk_y rfl rfl (y_loadE (vs := [_, _]) tf24 rfl (fun _ hw => (Rd.has (Has.rd hl) hw)) (by omega) (by omega) rfl) ?_
    refine gk_yx rfl rfl (yx_alloc tf24 (zs := [_, _]) rfl) fun b12 => ?_
    refine gk_storeV 0 tf24 rfl rfl (vs := [_, _]) rfl rfl rfl rfl rfl ?_
    refine gk_nil (gk_sub (T' := [(1,_), (2,_), (3,_), (4,_), (8,_), (9,_), (10,_), (11,_), (12,_)]) ⟨rfl, rfl, rfl, rfl, rfl, rfl, rfl, rfl, rfl, trivial⟩ ?_)
    refine gk_seq ?_
    refine gk_any 22 (fun _ => mixed) (by kernel_rfl) ?_
    refine ph_y (y_loadBA 0 tf24 rfl rfl (vs := [_, _]) rfl rfl) ?_
    refine ph_y (y_fieldAddr fo26_1 rfl) ?_
    refine ph_y (y_loadB1 3 tf22 rfl rfl rfl) ?_
    refine ph_y (y_move rfl) ?_
    refine ph_y (y_move rfl) ?_
    refine ph_y (y_addI rfl rfl (by omega) (by omega)) ?_
    refine ph_y (y_subI rfl rfl (by omega) (by omega)) ?_
    refine ph_y (y_move rfl) ?_
    refine ph_y (y_rem rfl rfl (by omega)) ?_
    refine ph_y (y_indexE se22 rfl rfl (fun _ hw => (Rd.has (Has.rd hl) hw)) (by omega) (by omega)) ?_
    refine ph_y (y_loadE (vs := [_, _]) tf24 rfl (fun _ hw => (Rd.has (Has.rd hl) hw)) (by omega) (by omega) rfl) ?_
    refine ph_yx (yx_call en91 rfl (fun w hw => along_c (s.shape.getD (c).toNat default) (s.shape.getD ((Int.tmod ((c + (s.shape.length : Int)) - 1) (s.shape.length : Int))).toNat default) w hf0 (by first | exact hf1 | exact hf2) (by first | exact hn1 | exact hn2))) ?_
    refine ph_y (y_loadBA 0 tf24 rfl rfl (vs := [_, _]) rfl rfl) ?_
    refine ph_y (y_fieldAddr fo26_1 rfl) ?_
    refine ph_y (y_loadB1 3 tf22 rfl rfl rfl) ?_
    refine ph_y (y_move rfl) ?_
    refine ph_y (y_addI rfl rfl (by omega) (by omega)) ?_
    refine ph_y (y_move rfl) ?_
    refine ph_y (y_rem rfl rfl (by omega)) ?_
    refine ph_y (y_indexE se22 rfl rfl (fun _ hw => (Rd.has (Has.rd hl) hw)) (by omega) (by omega)) ?_
    refine ph_y (y_loadE (vs := [_, _]) tf24 rfl (fun _ hw => (Rd.has (Has.rd hl) hw)) (by omega) (by omega) rfl) ?_
    refine ph_yx (fun p43 => yx_call en91 rfl (fun w hw => along_c (s.shape.getD (c).toNat default) (s.shape.getD ((Int.tmod (c + 1) (s.shape.length : Int))).toNat default) w hf0 (by first | exact hf1 | exact hf2) (by first | exact hn1 | exact hn2))) ?_
    intro p53
    intro p43
    refine gk_sub (T' := [(2,_), (3,_), (8,_), (9,_), (10,_), (43,_), (53,_)]) ⟨rfl, rfl, rfl, rfl, rfl, rfl, rfl, trivial⟩ ?_
    refine gk_y rfl rfl (y_assign rfl) ?_
    refine gk_y rfl rfl (y_assign rfl) ?_
    refine gk_nil (gk_sub (T' := [(2,_), (3,_), (8,_), (9,_), (10,_), (13,_), (14,_)]) ⟨rfl, rfl, rfl, rfl, rfl, rfl, rfl, trivial⟩ ?_)
    refine gk_seq ?_
    refine gk_seq ?_
    refine gk_any 18 (fun _ => mixed) (by kernel_rfl) ?_
    refine ph_y (y_move rfl) ?_
    refine ph_y (y_lss rfl rfl) ?_
    refine ph_y (y_move rfl) ?_
    refine ph_gF rfl rfl (fun hgd => by (try rw [hgd]); exact (y_move rfl)) ?_
    refine ph_gF rfl rfl (fun hgd => by (try rw [hgd]); exact (y_move rfl)) ?_
    refine ph_gF rfl rfl (fun hgd => by (try rw [hgd]); exact (y_lenS (Tryd.underlying22) rfl)) ?_
    refine ph_gF rfl rfl (fun hgd => by (try rw [hgd]); exact (y_geq rfl rfl)) ?_
    refine ph_y (y_pickOr rfl rfl rfl) ?_
    refine ph_y (y_move rfl) ?_
    refine ph_gF rfl rfl (fun hgd => by (try rw [hgd]); exact (y_move rfl)) ?_
    refine ph_gF rfl rfl (fun hgd => by (try rw [hgd]); exact (y_lss rfl rfl)) ?_
    refine ph_y (y_pickOr rfl rfl rfl) ?_
    refine ph_y (y_move rfl) ?_
    refine ph_gF rfl rfl (fun hgd => by (try rw [hgd]); exact (y_move rfl)) ?_
    refine ph_gF rfl rfl (fun hgd => by (try rw [hgd]); exact (y_move rfl)) ?_
    refine ph_gF rfl rfl (fun hgd => by (try rw [hgd]); exact (y_lenS (Tryd.underlying22) rfl)) ?_
    refine ph_gF rfl rfl (fun hgd => by (try rw [hgd]); exact (y_geq rfl rfl)) ?_
    refine ph_y (y_pickOr rfl rfl rfl) ?_
    refine gk_nil (gk_sub (T' := [(2,_), (3,_), (8,_), (9,_), (10,_), (13,_), (14,_), (71,_)]) ⟨rfl, rfl, rfl, rfl, rfl, rfl, rfl, rfl, trivial⟩ ?_)
    refine gk_cond rfl (fun hc71 => ?_) (fun hc71 => ?_)
    · have hz : sokB s.shape c b o = false := by unfold sokB; rw [show sfarB s.shape c b o = true from hc71, Bool.not_true, Bool.and_false]
      refine gk_seq ?_
      refine gk_region ?_
      refine gk_y rfl rfl (y_buildL (parts := []) rfl bd24_) ?_
      refine gk_y rfl rfl (y_buildL (parts := []) rfl bd24_) ?_
      refine gk_storeV 4 tf24 rfl rfl (vs := [_, _]) rfl rfl rfl rfl rfl ?_
      refine gk_storeV 3 tf24 rfl rfl (vs := [_, _]) rfl rfl rfl rfl rfl ?_
      refine gk_y rfl rfl (y_assign rfl) ?_
      refine gk_nil (gk_sub (T' := [(2,_), (3,_), (8,_), (9,_), (10,_), (13,_), (14,_)]) ⟨rfl, rfl, rfl, rfl, rfl, rfl, rfl, trivial⟩ ?_)
      refine gk_ret ?_
      refine gk_pure (rv_three rfl (r1_cellA (i := 4) (vs := [_, _]) tf24 rfl rfl rfl rfl) (r1_cellA (i := 3) (vs := [_, _]) tf24 rfl rfl rfl rfl) (r1_tmp rfl)) ?_
      rw [sP, sQ, hz]; rfl
    · have hc71 : sfarB s.shape c b o = false := hc71
      have hz : sokB s.shape c b o = true := by unfold sokB; rw [hc24, hc71]; rfl
      have hbo : (1 ≤ b ∧ b < ((sbefore s.shape c).length : Int)) ∧ 1 ≤ o ∧ o < ((sbehind s.shape c).length : Int) := by unfold sfarB at hc71; simp at hc71; omega
      have hb1 : b < ((alongL (s.shape.getD c.toNat default) (s.shape.getD ((c + (s.shape.length : Int) - 1).tmod (s.shape.length : Int)).toNat default)).length : Int) := hbo.1.2
      have ho1 : o < ((alongL (s.shape.getD c.toNat default) (s.shape.getD ((c + 1).tmod (s.shape.length : Int)).toNat default)).length : Int) := hbo.2.2
      refine gk_skip ?_
      refine gk_seq ?_
      refine gk_anyS (R' := Box b8 [.int .i64 (((alongL (s.shape.getD (c).toNat default) (s.shape.getD ((Int.tmod ((c + (s.shape.length : Int)) - 1) (s.shape.length : Int))).toNat default)).getD (b).toNat default).x), .int .i64 (((alongL (s.shape.getD (c).toNat default) (s.shape.getD ((Int.tmod ((c + (s.shape.length : Int)) - 1) (s.shape.length : Int))).toNat default)).getD (b).toNat default).z)] 24) 8 [4, 5, 6, 7] 4 (fun _ => mixed) rfl rfl (by kernel_rfl) rfl ?_
      refine phs_y (y_move rfl) ?_
      refine phs_y (y_move rfl) ?_
      refine phs_y (y_indexE se22 rfl rfl (fun _ hw => (has_row encPt_ok (hw.has (p := 0) rfl))) (by omega) (by omega)) ?_
      refine phs_y (y_loadE (vs := [_, _]) tf24 rfl (fun _ hw => (has_row encPt_ok (hw.has (p := 0) rfl))) (by omega) (by omega) rfl) ?_
      refine phs_y (y_move rfl) ?_
      refine phs_y (y_move rfl) ?_
      refine phs_y (y_indexE se22 rfl rfl (fun _ hw => (has_row encPt_ok (hw.has (p := 1) rfl))) (by omega) (by omega)) ?_
      refine phs_y (y_loadE (vs := [_, _]) tf24 rfl (fun _ hw => (has_row encPt_ok (hw.has (p := 1) rfl))) (by omega) (by omega) rfl) ?_
      refine ⟨so_box tf24 rfl rfl (vs := [_, _]) rfl rfl rfl rfl rfl, ?_⟩
      refine gk_sub (T' := [(8,_), (9,_), (10,_), (81,_)]) ⟨rfl, rfl, rfl, rfl, trivial⟩ ?_
      refine gk_storeV 3 tf24 rfl rfl (vs := [_, _]) rfl rfl rfl rfl rfl ?_
      refine gk_y rfl rfl (y_assign rfl) ?_
      refine gk_nil (gk_sub (T' := [(8,_), (9,_), (10,_)]) ⟨rfl, rfl, rfl, trivial⟩ ?_)
      refine gk_ret ?_
      refine gk_pure (rv_three rfl (r1_cellA (i := 4) (vs := [_, _]) tf24 rfl rfl rfl rfl) (r1_cellA (i := 3) (vs := [_, _]) tf24 rfl rfl rfl rfl) (r1_tmp rfl)) ?_
      rw [sP, sQ, hz]; rfl

end Go.Proofs.YtahahmelnaphjaaDoor
