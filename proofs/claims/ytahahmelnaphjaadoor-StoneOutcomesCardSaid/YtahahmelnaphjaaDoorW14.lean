/- Walks: borders in the document's own program. No statement of the seat is proved in this text. -/
import Derived.Test.YtahahmelnaphjaaDoorW13
namespace Go.Proofs.YtahahmelnaphjaaDoor
open Go.K Go.Stn Go.RowKit


set_option maxRecDepth 100000 in
set_option maxHeartbeats 1000000 in
theorem rborder_c (a : Option Addr) (cap : Nat) (l : List Pt) (w : World) (hl : Has w (Pts a l)) (hs : Small l.length) (hnear : Near l) (h12 : l.length ≤ 12) :
    Calls Tryd.prog 25 #[.slice a l.length cap] w (Gives (fun z : Option Addr × Nat => .slice z.1 (rborderL l).length z.2) (fun z => Row z.1 2 z.2 24 encPt (rborderL l)) w) := by
  refine calls_of_gk (vs := [_]) Tryd.func25 rfl rfl (Nat.le_of_ble_eq_true rfl) ?_
  refine gk_seq ?_
  refine gk_region ?_
  refine gk_y rfl rfl (y_assign rfl) ?_
  refine gk_nil (gk_sub (T' := [(0,_), (2,_)]) ⟨rfl, rfl, trivial⟩ ?_)
  refine gk_seq ?_
  refine gk_region ?_
  refine gk_y rfl rfl (y_assign rfl) ?_
  refine gk_nil (gk_sub (T' := [(0,_), (2,_), (3,_)]) ⟨rfl, rfl, rfl, trivial⟩ ?_)
  refine gk_seq ?_
  refine gk_seq ?_
  refine gk_region ?_
  refine gk_y rfl rfl (y_assign rfl) ?_
  refine gk_nil (gk_sub (T' := [(0,_), (2,_), (3,_), (4,_)]) ⟨rfl, rfl, rfl, rfl, trivial⟩ ?_)
  refine gk_block ?_
  refine gk_newNil 24 encPt 2 ?_
  refine gk_loop (X := Int × Option Addr × Nat × List Pt) (fun ⟨i, b, bc, m⟩ => [(0, .slice a l.length cap), (2, .slice none 0 0), (3, .slice b m.length bc), (4, .int .i64 i)]) (fun ⟨i, b, bc, m⟩ => [Row b 2 bc 24 encPt m]) (fun ⟨i, b, bc, m⟩ => (0 ≤ i ∧ i ≤ l.length ∧ m = (List.range i.toNat).flatMap (rbE l) ∧ m.length ≤ 2000 * i.toNat)) (fun ⟨i, b, bc, m⟩ => (l.length - i).toNat) (0, none, 0, []) ⟨rfl, rfl, rfl, rfl, trivial⟩ rfl ?_ ?_
  · exact ⟨by omega, by omega, rfl, by simp⟩
  · rintro ⟨i, b, bc, m⟩ hI
    obtain ⟨g0, g1, g2, g3⟩ := hI
    refine gk_seq ?_
    refine gk_seq ?_
    refine gk_region ?_
    refine gk_y rfl rfl (y_move rfl) ?_
    refine gk_y rfl rfl (y_move rfl) ?_
    refine gk_y rfl rfl (y_lenS (Tryd.underlying22) rfl) ?_
    refine gk_y rfl rfl (y_lss rfl rfl) ?_
    refine gk_nil (gk_sub (T' := [(0,_), (2,_), (3,_), (4,_), (14,_)]) ⟨rfl, rfl, rfl, rfl, rfl, trivial⟩ ?_)
    refine gk_cond rfl (fun hc14 => ?_) (fun hc14 => ?_)
    · have hc14 := of_decide_eq_true hc14
      refine gk_skip ?_
      refine gk_seq ?_
      refine gk_block ?_
      refine gk_seq ?_
      refine gk_any 9 (fun _ => mixed) (by kernel_rfl) ?_
      refine ph_y (y_move rfl) ?_
      refine ph_y (y_move rfl) ?_
      refine ph_y (y_indexE se22 rfl rfl (fun _ hw => (Rd.has (Has.rd hl) hw)) (by omega) (by omega)) ?_
      refine ph_y (y_loadE (vs := [_, _]) tf24 rfl (fun _ hw => (Rd.has (Has.rd hl) hw)) (by omega) (by omega) rfl) ?_
      refine ph_y (y_move rfl) ?_
      refine ph_y (y_move rfl) ?_
      refine ph_y (y_call en67 rfl (fun w hw => next_c _ _ l i w (Rd.has (Has.rd hl) hw) (by assumption) (by omega) (by omega) (by omega))) ?_
      refine ph_yx (yx_alloc tf24 (zs := [_, _]) rfl) ?_
      refine ph_yx (yx_alloc tf24 (zs := [_, _]) rfl) ?_
      intro b6
      intro b5
      refine gk_sub (T' := [(0,_), (2,_), (3,_), (4,_), (5,_), (6,_), (20,_), (23,_)]) ⟨rfl, rfl, rfl, rfl, rfl, rfl, rfl, rfl, trivial⟩ ?_
      refine gk_storeV 0 tf24 rfl rfl (vs := [_, _]) rfl rfl rfl rfl rfl ?_
      refine gk_storeV 1 tf24 rfl rfl (vs := [_, _]) rfl rfl rfl rfl rfl ?_
      refine gk_nil (gk_sub (T' := [(0,_), (2,_), (3,_), (4,_), (5,_), (6,_)]) ⟨rfl, rfl, rfl, rfl, rfl, rfl, trivial⟩ ?_)
      refine gk_seq ?_
      refine gk_any 12 (fun _ => mixed) (by kernel_rfl) ?_
      refine ph_y (y_fieldAddr fo24_0 rfl) ?_
      refine ph_y (y_loadB1 1 tf3 rfl rfl rfl) ?_
      refine ph_y (y_fieldAddr fo24_0 rfl) ?_
      refine ph_y (y_loadB1 0 tf3 rfl rfl rfl) ?_
      refine ph_y (y_sub rfl rfl) ?_
      refine ph_y (y_fieldAddr fo24_1 rfl) ?_
      refine ph_y (y_loadB1 1 tf3 rfl rfl rfl) ?_
      refine ph_y (y_fieldAddr fo24_1 rfl) ?_
      refine ph_y (y_loadB1 0 tf3 rfl rfl rfl) ?_
      refine ph_y (y_sub rfl rfl) ?_
      refine ph_y (y_assign rfl) ?_
      refine ph_y (y_assign rfl) ?_
      refine gk_nil (gk_sub (T' := [(0,_), (2,_), (3,_), (4,_), (5,_), (7,_), (8,_)]) ⟨rfl, rfl, rfl, rfl, rfl, rfl, rfl, trivial⟩ ?_)
      refine gk_sub (T' := [(0,_), (2,_), (3,_), (4,_), (5,_), (7, .int .i64 (rdx l i)), (8, .int .i64 (rdz l i))]) ⟨rfl, rfl, rfl, rfl, rfl, rfl, rfl, trivial⟩ ?_
      refine gk_seq ?_
      refine gk_region ?_
      refine gk_y rfl rfl (y_move rfl) ?_
      refine gk_y rfl rfl (y_move rfl) ?_
      refine gk_y rfl rfl (y_neg rfl) ?_
      refine gk_y rfl rfl (y_max rfl rfl) ?_
      refine gk_y rfl rfl (y_move rfl) ?_
      refine gk_y rfl rfl (y_move rfl) ?_
      refine gk_y rfl rfl (y_neg rfl) ?_
      refine gk_y rfl rfl (y_max rfl rfl) ?_
      refine gk_y rfl rfl (y_max rfl rfl) ?_
      refine gk_y rfl rfl (y_assign rfl) ?_
      refine gk_nil (gk_sub (T' := [(0,_), (2,_), (3,_), (4,_), (5,_), (7,_), (8,_), (9,_)]) ⟨rfl, rfl, rfl, rfl, rfl, rfl, rfl, rfl, trivial⟩ ?_)
      refine gk_sub (T' := [(0,_), (2,_), (3,_), (4,_), (5,_), (7,_), (8,_), (9, .int .i64 (rlong l i))]) ⟨rfl, rfl, rfl, rfl, rfl, rfl, rfl, rfl, trivial⟩ ?_
      refine gk_seq ?_
      refine gk_region ?_
      refine gk_y rfl rfl (y_assign rfl) ?_
      refine gk_nil (gk_sub (T' := [(0,_), (2,_), (3,_), (4,_), (5,_), (7,_), (8,_), (9,_), (10,_)]) ⟨rfl, rfl, rfl, rfl, rfl, rfl, rfl, rfl, rfl, trivial⟩ ?_)
      refine gk_block ?_
      refine gk_loop (X := Int × Option Addr × Nat × List Pt) (fun ⟨k, b2, bc2, o⟩ => [(0, .slice a l.length cap), (2, .slice none 0 0), (3, .slice b2 o.length bc2), (4, .int .i64 i), (5, .pointer (some ⟨b5, 0, none⟩)), (7, .int .i64 (rdx l i)), (8, .int .i64 (rdz l i)), (9, .int .i64 (rlong l i)), (10, .int .i64 k)]) (fun ⟨k, b2, bc2, o⟩ => [Box b5 [.int .i64 ((l.getD (i).toNat default).x), .int .i64 ((l.getD (i).toNat default).z)] 24, Box b6 [.int .i64 ((nextL l i).x), .int .i64 ((nextL l i).z)] 24, Row b2 2 bc2 24 encPt o]) (fun ⟨k, b2, bc2, o⟩ => (0 ≤ k ∧ k ≤ rlong l i ∧ o = m ++ rbI l i k.toNat ∧ o.length ≤ m.length + k.toNat)) (fun ⟨k, b2, bc2, o⟩ => (rlong l i - k).toNat) (0, b, bc, m) ⟨rfl, rfl, rfl, rfl, rfl, rfl, rfl, rfl, rfl, trivial⟩ rfl ?_ ?_
      · exact ⟨by omega, by have := (rlong_eq hnear g0 hc14).1; omega, by simp [rbI], by omega⟩
      · rintro ⟨k, b2, bc2, o⟩ hI
        obtain ⟨k0, k1, k2, k3⟩ := hI
        have hlg := (rlong_eq hnear g0 hc14).2
        refine gk_seq ?_
        refine gk_seq ?_
        refine gk_region ?_
        refine gk_y rfl rfl (y_move rfl) ?_
        refine gk_y rfl rfl (y_move rfl) ?_
        refine gk_y rfl rfl (y_lss rfl rfl) ?_
        refine gk_nil (gk_sub (T' := [(0,_), (2,_), (3,_), (4,_), (5,_), (7,_), (8,_), (9,_), (10,_), (45,_)]) ⟨rfl, rfl, rfl, rfl, rfl, rfl, rfl, rfl, rfl, rfl, trivial⟩ ?_)
        refine gk_cond rfl (fun hc45 => ?_) (fun hc45 => ?_)
        · have hc45 := of_decide_eq_true hc45
          refine gk_skip ?_
          refine gk_seq ?_
          refine gk_block ?_
          refine gk_seq ?_
          refine gk_any 14 (fun _ => mixed) (by kernel_rfl) ?_
          refine ph_y (y_move rfl) ?_
          refine ph_y (y_move rfl) ?_
          refine ph_y (y_mul rfl rfl) ?_
          refine ph_y (y_move rfl) ?_
          refine ph_y (y_rem rfl rfl (by omega)) ?_
          refine ph_y (y_eql rfl rfl) ?_
          refine ph_y (y_move rfl) ?_
          refine ph_gT rfl rfl (fun hgd => by (try rw [hgd]); exact (y_move rfl)) ?_
          refine ph_gT rfl rfl (fun hgd => by (try rw [hgd]); exact (y_move rfl)) ?_
          refine ph_gT rfl rfl (fun hgd => by (try rw [hgd]); exact (y_mul rfl rfl)) ?_
          refine ph_gT rfl rfl (fun hgd => by (try rw [hgd]); exact (y_move rfl)) ?_
          refine ph_gT rfl rfl (fun hgd => by (try rw [hgd]); exact (y_rem rfl rfl (by omega))) ?_
          refine ph_gT rfl rfl (fun hgd => by (try rw [hgd]); exact (y_eql rfl rfl)) ?_
          refine ph_y (y_pickAnd rfl rfl rfl) ?_
          refine gk_nil (gk_sub (T' := [(0,_), (2,_), (3,_), (4,_), (5,_), (7,_), (8,_), (9,_), (10,_), (61,_)]) ⟨rfl, rfl, rfl, rfl, rfl, rfl, rfl, rfl, rfl, rfl, trivial⟩ ?_)
          refine gk_cond rfl (fun hc61 => ?_) (fun hc61 => ?_)
          · skip
            refine gk_any 19 (fun _ => mixed) (by kernel_rfl) ?_
            refine ph_y (y_move rfl) ?_
            refine ph_y (y_fieldAddr fo24_0 rfl) ?_
            refine ph_y (y_loadB1 0 tf3 rfl rfl rfl) ?_
            refine ph_y (y_move rfl) ?_
            refine ph_y (y_move rfl) ?_
            refine ph_y (y_mul rfl rfl) ?_
            refine ph_y (y_move rfl) ?_
            refine ph_y (y_quo rfl rfl (by omega)) ?_
            refine ph_y (y_add rfl rfl) ?_
            refine ph_y (y_fieldAddr fo24_1 rfl) ?_
            refine ph_y (y_loadB1 0 tf3 rfl rfl rfl) ?_
            refine ph_y (y_move rfl) ?_
            refine ph_y (y_move rfl) ?_
            refine ph_y (y_mul rfl rfl) ?_
            refine ph_y (y_move rfl) ?_
            refine ph_y (y_quo rfl rfl (by omega)) ?_
            refine ph_y (y_add rfl rfl) ?_
            refine ph_y (y_buildL rfl (bd24_0i_1i _ _)) ?_
            refine ph_yx (yx_buildSlice rfl (bs22_1 _ _) encPt_ok rfl) ?_
            intro b80
            refine gk_sub (T' := [(0,_), (2,_), (3,_), (4,_), (5,_), (7,_), (8,_), (9,_), (10,_), (62,_), (80,_)]) ⟨rfl, rfl, rfl, rfl, rfl, rfl, rfl, rfl, rfl, rfl, rfl, trivial⟩ ?_
            refine gk_append (m := [⟨(IntKind.i64.wrap (((l.getD (i).toNat default).x) + (IntKind.i64.wrap (Int.tdiv (IntKind.i64.wrap ((rdx l i) * k)) (rlong l i))))), (IntKind.i64.wrap (((l.getD (i).toNat default).z) + (IntKind.i64.wrap (Int.tdiv (IntKind.i64.wrap ((rdz l i) * k)) (rlong l i)))))⟩]) 3 af22 encPt_ok rfl rfl rfl rfl (fun _ hw => (has_row encPt_ok (hw.has (p := 0) rfl))) (by first | omega | (simp only [List.length_cons, List.length_nil]; omega)) (by first | (unfold maxLen; omega) | (simp only [List.length_cons, List.length_nil, maxLen]; omega)) fun a81 c81 => ?_
            refine gk_y rfl rfl (y_assign rfl) ?_
            refine gk_nil (gk_sub (T' := [(0,_), (2,_), (3,_), (4,_), (5,_), (7,_), (8,_), (9,_), (10,_)]) ⟨rfl, rfl, rfl, rfl, rfl, rfl, rfl, rfl, rfl, trivial⟩ ?_)
            refine gk_region ?_
            refine gk_y rfl rfl (y_move rfl) ?_
            refine gk_y rfl rfl (y_addI rfl rfl (by omega) (by omega)) ?_
            refine gk_y rfl rfl (y_assign rfl) ?_
            refine gk_nil (gk_sub (T' := [(0,_), (2,_), (3,_), (4,_), (5,_), (7,_), (8,_), (9,_), (10,_)]) ⟨rfl, rfl, rfl, rfl, rfl, rfl, rfl, rfl, rfl, trivial⟩ ?_)
            refine gk_dropAt 0 rfl ?_
            exact gk_next (k + 1, _, _, _) ⟨rfl, rfl, rfl, rfl, rfl, rfl, rfl, rfl, rfl, trivial⟩ rfl ⟨by omega, by omega, by rw [rbI_succ k0, ← List.append_assoc, ← k2]; first | (rw [if_pos (show rbok l i k = true from hc61)]; rfl) | (rw [if_neg (by rw [show rbok l i k = false from hc61]; exact Bool.false_ne_true), List.append_nil]), by first | (rw [List.length_append]; simp only [List.length_cons, List.length_nil]; omega) | omega⟩ (by simp only []; omega)
          · skip
            refine gk_skip ?_
            refine gk_region ?_
            refine gk_y rfl rfl (y_move rfl) ?_
            refine gk_y rfl rfl (y_addI rfl rfl (by omega) (by omega)) ?_
            refine gk_y rfl rfl (y_assign rfl) ?_
            refine gk_nil (gk_sub (T' := [(0,_), (2,_), (3,_), (4,_), (5,_), (7,_), (8,_), (9,_), (10,_)]) ⟨rfl, rfl, rfl, rfl, rfl, rfl, rfl, rfl, rfl, trivial⟩ ?_)
            exact gk_next (k + 1, _, _, _) ⟨rfl, rfl, rfl, rfl, rfl, rfl, rfl, rfl, rfl, trivial⟩ rfl ⟨by omega, by omega, by rw [rbI_succ k0, ← List.append_assoc, ← k2]; first | (rw [if_pos (show rbok l i k = true from hc61)]; rfl) | (rw [if_neg (by rw [show rbok l i k = false from hc61]; exact Bool.false_ne_true), List.append_nil]), by first | (rw [List.length_append]; simp only [List.length_cons, List.length_nil]; omega) | omega⟩ (by simp only []; omega)
        · have hc45 := of_decide_eq_false hc45
          refine gk_exit rfl ?_
          refine gk_region ?_
          refine gk_y rfl rfl (y_move rfl) ?_
          refine gk_y rfl rfl (y_addI rfl rfl (by omega) (by omega)) ?_
          refine gk_y rfl rfl (y_assign rfl) ?_
          refine gk_nil (gk_sub (T' := [(0,_), (2,_), (3,_), (4,_)]) ⟨rfl, rfl, rfl, rfl, trivial⟩ ?_)
          refine gk_dropAt 0 rfl ?_
          refine gk_dropAt 0 rfl ?_
          exact gk_next (i + 1, b2, bc2, o) ⟨rfl, rfl, rfl, rfl, trivial⟩ rfl ⟨by omega, by omega, by rw [flat_succ _ g0, ← g2, k2, show k = rlong l i from by omega]; unfold rbE; rw [show ((i.toNat : Nat) : Int) = i from by omega], by omega⟩ (by simp only []; omega)
    · have hc14 := of_decide_eq_false hc14
      refine gk_exit rfl ?_
      refine gk_seq ?_
      refine gk_region ?_
      refine gk_y rfl rfl (y_move rfl) ?_
      refine gk_y rfl rfl (y_assign rfl) ?_
      refine gk_nil (gk_sub (T' := [(2,_)]) ⟨rfl, trivial⟩ ?_)
      obtain rfl : m = rborderL l := by rw [g2, show i.toNat = l.length from by omega]; rfl
      refine gk_ret ?_
      refine gk_gives (b, bc) 0 (rv_one rfl (r1_tmp rfl)) ?_ rfl
      rfl

end Go.Proofs.YtahahmelnaphjaaDoor
