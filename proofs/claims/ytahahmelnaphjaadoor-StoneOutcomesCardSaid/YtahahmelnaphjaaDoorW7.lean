/- Walks: shapes that are settled; cuts. No statement of the seat is proved in this text. -/
import Derived.Test.YtahahmelnaphjaaDoorW6
import Derived.Test.YtahahmelnaphjaaDoorD3
namespace Go.Proofs.YtahahmelnaphjaaDoor
open Go.K Go.Stn Go.RowKit
theorem se156 : SE Tryd.prog 156 31 1 := ⟨Tryd.underlying156, by kernel_rfl⟩
theorem en119 : En Tryd.prog 119 := en_of Tryd.func119 (by kernel_rfl) (by kernel_rfl)
theorem en120 : En Tryd.prog 120 := en_of Tryd.func120 (by kernel_rfl) (by kernel_rfl)
theorem en134 : En Tryd.prog 134 := en_of Tryd.func134 (by kernel_rfl) (by kernel_rfl)
theorem bs156_2 (x0a : Option Addr) (x0l : List Pt) (x0c : Nat) (x1a : Option Addr) (x1l : List Pt) (x1c : Nat) (w : World) : (Instr.buildSlice 156 2 #[(0, .slice x0a x0l.length x0c), (1, .slice x1a x1l.length x1c)]).run Tryd.prog w = .ok (.slice (some ⟨w.heap.size, 0, none⟩) 2 2) (w.alloc (.cells (([⟨x0a, x0c, x0l⟩, ⟨x1a, x1c, x1l⟩] : List (Sli)).flatMap encSli).toArray 31)) := by kernel_rfl

set_option maxRecDepth 100000 in
set_option maxHeartbeats 1000000 in
theorem index_c (a : Option Addr) (cap : Nat) (l : List Pt) (v : Pt) (w : World) (hl : Has w (Pts a l)) (hs : Small l.length) :
    Calls Tryd.prog 119 #[.slice a l.length cap, .agg #[.int .i64 v.x, .int .i64 v.z]] w (Pure (.int .i64 (findI (eqB v) l)) w) := by
  refine calls_of_gk (vs := [_, _]) Tryd.func119 rfl rfl (Nat.le_of_ble_eq_true rfl) ?_
  refine gk_seq ?_
  refine gk_region ?_
  refine gk_yx rfl rfl (yx_box (vs := [_, _]) rfl rfl) fun b3 => ?_
  refine gk_y rfl rfl (y_assign rfl) ?_
  refine gk_nil (gk_sub (T' := [(0,_), (3,_), (4,_)]) ⟨rfl, rfl, rfl, trivial⟩ ?_)
  refine gk_seq ?_
  refine gk_seq ?_
  refine gk_region ?_
  refine gk_y rfl rfl (y_move rfl) ?_
  refine gk_y rfl rfl (y_lenS (Tryd.underlying31) rfl) ?_
  refine gk_y rfl rfl (y_move rfl) ?_
  refine gk_nil (gk_sub (T' := [(0,_), (3,_), (4,_), (7,_), (8,_)]) ⟨rfl, rfl, rfl, rfl, rfl, trivial⟩ ?_)
  refine gk_block ?_
  refine gk_loop (X := Int) (fun (i : Int) => [(0, .slice a l.length cap), (3, .pointer (some ⟨b3, 0, none⟩)), (4, .int .i64 0), (7, .int .i64 (l.length : Int)), (8, .int .i64 i)]) (fun (i : Int) => [Box b3 [.int .i64 v.x, .int .i64 v.z] 32]) (fun (i : Int) => (0 ≤ i ∧ i ≤ l.length ∧ ∀ j : Nat, (j : Int) < i → eqB v (l.getD j default) = false)) (fun (i : Int) => (l.length - i).toNat) 0 ⟨rfl, rfl, rfl, rfl, rfl, trivial⟩ rfl ?_ ?_
  · exact ⟨by omega, by omega, fun j hj => by omega⟩
  · rintro i hI
    obtain ⟨g0, g1, g2⟩ := hI
    refine gk_seq ?_
    refine gk_region ?_
    refine gk_y rfl rfl (y_lss rfl rfl) ?_
    refine gk_nil (gk_sub (T' := [(0,_), (3,_), (4,_), (7,_), (8,_), (9,_)]) ⟨rfl, rfl, rfl, rfl, rfl, rfl, trivial⟩ ?_)
    refine gk_seq ?_
    refine gk_cond rfl (fun hc9 => ?_) (fun hc9 => ?_)
    · simp only [decide_eq_true_eq] at hc9
      refine gk_skip ?_
      refine gk_seq ?_
      refine gk_block ?_
      refine gk_seq ?_
      refine gk_region ?_
      refine gk_y rfl rfl (y_move rfl) ?_
      refine gk_y rfl rfl (y_assign rfl) ?_
      refine gk_nil (gk_sub (T' := [(0,_), (3,_), (4,_), (5,_), (7,_), (8,_)]) ⟨rfl, rfl, rfl, rfl, rfl, rfl, trivial⟩ ?_)
      refine gk_seq ?_
      refine gk_any 6 (fun _ => mixed) (by kernel_rfl) ?_
      refine ph_y (y_loadBA 0 tf32 rfl rfl (vs := [_, _]) rfl rfl) ?_
      refine ph_y (y_move rfl) ?_
      refine ph_y (y_move rfl) ?_
      refine ph_y (y_indexE se31 rfl rfl (fun _ hw => (Rd.has (Has.rd hl) hw)) (by omega) (by omega)) ?_
      refine ph_y (y_loadE (vs := [_, _]) tf32 rfl (fun _ hw => (Rd.has (Has.rd hl) hw)) (by omega) (by omega) rfl) ?_
      refine ph_y (y_eql32 rfl rfl) ?_
      refine gk_nil (gk_sub (T' := [(0,_), (3,_), (4,_), (5,_), (7,_), (8,_), (16,_)]) ⟨rfl, rfl, rfl, rfl, rfl, rfl, rfl, trivial⟩ ?_)
      refine gk_cond rfl (fun hc16 => ?_) (fun hc16 => ?_)
      · skip
        refine gk_seq ?_
        refine gk_region ?_
        refine gk_y rfl rfl (y_move rfl) ?_
        refine gk_y rfl rfl (y_assign rfl) ?_
        refine gk_nil (gk_sub (T' := [(0,_), (3,_), (4,_), (7,_), (8,_)]) ⟨rfl, rfl, rfl, rfl, rfl, trivial⟩ ?_)
        refine gk_ret ?_
        refine gk_pure (rv_one rfl (r1_tmp rfl)) ?_
        exact congrArg _ (findI_hit g0 (by omega) g2 hc16).symm
      · skip
        refine gk_skip ?_
        refine gk_region ?_
        refine gk_y rfl rfl (y_addI rfl rfl (by omega) (by omega)) ?_
        refine gk_y rfl rfl (y_move rfl) ?_
        refine gk_nil (gk_sub (T' := [(0,_), (3,_), (4,_), (7,_), (8,_)]) ⟨rfl, rfl, rfl, rfl, rfl, trivial⟩ ?_)
        exact gk_next _ ⟨rfl, rfl, rfl, rfl, rfl, trivial⟩ rfl ⟨by omega, by omega, fun j hj => if h : (j : Int) < i then g2 j h else (by rw [show j = i.toNat from by omega]; exact hc16)⟩ (by omega)
    · simp only [decide_eq_false_iff_not] at hc9
      refine gk_exit rfl ?_
      refine gk_seq ?_
      refine gk_region ?_
      refine gk_y rfl rfl (y_assign rfl) ?_
      refine gk_nil (gk_sub (T' := [(4,_)]) ⟨rfl, trivial⟩ ?_)
      refine gk_ret ?_
      refine gk_pure (rv_one rfl (r1_tmp rfl)) ?_
      exact congrArg _ (findI_none (fun j hj => g2 j (by omega))).symm

set_option maxRecDepth 100000 in
set_option maxHeartbeats 1000000 in
theorem growNil_c (n : Int) (w : World) (h0 : 0 ≤ n) (h1 : n ≤ 1099511627776) :
    Calls Tryd.prog 134 #[.slice none 0 0, .int .i64 n] w (Gives (fun z : Option Addr × Nat => .slice z.1 0 z.2) (fun z => Row z.1 2 z.2 32 encPt []) w) := by
  refine calls_of_gk (vs := [_, _]) Tryd.func134 rfl rfl (Nat.le_of_ble_eq_true rfl) ?_
  refine gk_seq ?_
  refine gk_region ?_
  refine gk_y rfl rfl (y_assign rfl) ?_
  refine gk_nil (gk_sub (T' := [(0,_), (1,_), (4,_)]) ⟨rfl, rfl, rfl, trivial⟩ ?_)
  refine gk_seq ?_
  refine gk_seq ?_
  refine gk_region ?_
  refine gk_y rfl rfl (y_move rfl) ?_
  refine gk_y rfl rfl (y_lss rfl rfl) ?_
  refine gk_nil (gk_sub (T' := [(0,_), (1,_), (4,_), (6,_)]) ⟨rfl, rfl, rfl, rfl, trivial⟩ ?_)
  refine gk_cond rfl (fun hc6 => ?_) (fun hc6 => ?_)
  · exfalso; simp at hc6; omega
  · simp only [decide_eq_false_iff_not] at hc6
    refine gk_skip ?_
    refine gk_seq ?_
    refine gk_seq ?_
    refine gk_region ?_
    refine gk_y rfl rfl (y_move rfl) ?_
    refine gk_y rfl rfl (y_move rfl) ?_
    refine gk_y rfl rfl (y_capS (Tryd.underlying31) rfl) ?_
    refine gk_y rfl rfl (y_move rfl) ?_
    refine gk_y rfl rfl (y_lenS (Tryd.underlying31) rfl) ?_
    refine gk_y rfl rfl (y_subI rfl rfl (by omega) (by omega)) ?_
    refine gk_y rfl rfl (y_subI rfl rfl (by omega) (by omega)) ?_
    refine gk_y rfl rfl (y_assign rfl) ?_
    refine gk_nil (gk_sub (T' := [(0,_), (1,_), (4,_)]) ⟨rfl, rfl, rfl, trivial⟩ ?_)
    refine gk_seq ?_
    refine gk_region ?_
    refine gk_y rfl rfl (y_move rfl) ?_
    refine gk_y rfl rfl (y_gtr rfl rfl) ?_
    refine gk_nil (gk_sub (T' := [(0,_), (1,_), (4,_), (16,_)]) ⟨rfl, rfl, rfl, rfl, trivial⟩ ?_)
    refine gk_cond rfl (fun hc16 => ?_) (fun hc16 => ?_)
    · simp only [decide_eq_true_eq] at hc16
      refine gk_region ?_
      refine gk_y rfl rfl (y_move rfl) ?_
      refine gk_y rfl rfl (y_move rfl) ?_
      refine gk_y rfl rfl (y_capS (Tryd.underlying31) rfl) ?_
      refine gk_y rfl rfl (y_sliceHi se31 rfl rfl (by decide) (by decide)) ?_
      refine gk_y rfl rfl (y_move rfl) ?_
      refine gk_yx rfl rfl (yx_appendZeros encPt af31 (by decide) (Tryd.underlying3) rfl rfl (by omega) (by omega) (by omega)) fun z22 => ?_
      refine gk_y rfl rfl (y_move rfl) ?_
      refine gk_y rfl rfl (y_lenS (Tryd.underlying31) rfl) ?_
      refine gk_y rfl rfl (y_sliceHi se31 rfl rfl (by omega) (by omega)) ?_
      refine gk_y rfl rfl (y_assign rfl) ?_
      refine gk_nil (gk_sub (T' := [(0,_), (4,_)]) ⟨rfl, rfl, trivial⟩ ?_)
      refine gk_seq ?_
      refine gk_region ?_
      refine gk_y rfl rfl (y_move rfl) ?_
      refine gk_y rfl rfl (y_assign rfl) ?_
      refine gk_nil (gk_sub (T' := [(4,_)]) ⟨rfl, trivial⟩ ?_)
      refine gk_ret ?_
      refine gk_gives (some ⟨z22.1, 0, none⟩, z22.2) 0 (rv_one rfl (r1_tmp rfl)) ?_ rfl
      exact congrArg (fun a => Value.slice a 0 _) subA_zero
    · simp only [decide_eq_false_iff_not] at hc16
      refine gk_newNil 32 encPt 2 ?_
      refine gk_skip ?_
      refine gk_seq ?_
      refine gk_region ?_
      refine gk_y rfl rfl (y_move rfl) ?_
      refine gk_y rfl rfl (y_assign rfl) ?_
      refine gk_nil (gk_sub (T' := [(4,_)]) ⟨rfl, trivial⟩ ?_)
      refine gk_ret ?_
      refine gk_gives (none, 0) 0 (rv_one rfl (r1_tmp rfl)) ?_ rfl
      rfl

set_option maxRecDepth 100000 in
set_option maxHeartbeats 1000000 in
theorem concat_c (a : Option Addr) (cap : Nat) (ls : List Sli) (w : World) (hl : Has w (Elems a 1 encSli ls)) (hin : ∀ i, i < ls.length → Has w (Pts (ls.getD i default).a (ls.getD i default).l)) (hs : Small ls.length) (ht : Small (ls.flatMap Sli.l).length) :
    Calls Tryd.prog 120 #[.slice a ls.length cap] w (Gives (fun z : Option Addr × Nat => .slice z.1 (ls.flatMap Sli.l).length z.2) (fun z => Row z.1 2 z.2 32 encPt (ls.flatMap Sli.l)) w) := by
  refine calls_of_gk (vs := [_]) Tryd.func120 rfl rfl (Nat.le_of_ble_eq_true rfl) ?_
  refine gk_seq ?_
  refine gk_region ?_
  refine gk_y rfl rfl (y_assign rfl) ?_
  refine gk_nil (gk_sub (T' := [(0,_), (2,_)]) ⟨rfl, rfl, trivial⟩ ?_)
  refine gk_seq ?_
  refine gk_region ?_
  refine gk_y rfl rfl (y_assign rfl) ?_
  refine gk_nil (gk_sub (T' := [(0,_), (2,_), (3,_)]) ⟨rfl, rfl, rfl, trivial⟩ ?_)
  refine gk_seq ?_
  refine gk_seq ?_
  refine gk_region ?_
  refine gk_y rfl rfl (y_move rfl) ?_
  refine gk_y rfl rfl (y_lenS (Tryd.underlying156) rfl) ?_
  refine gk_y rfl rfl (y_move rfl) ?_
  refine gk_nil (gk_sub (T' := [(0,_), (2,_), (3,_), (9,_), (10,_), (11,_)]) ⟨rfl, rfl, rfl, rfl, rfl, rfl, trivial⟩ ?_)
  refine gk_block ?_
  refine gk_loop (X := Int × Int) (fun ⟨i, z⟩ => [(0, .slice a ls.length cap), (2, .slice none 0 0), (3, .int .i64 z), (9, .slice a ls.length cap), (10, .int .i64 (ls.length : Int)), (11, .int .i64 i)]) (fun ⟨i, z⟩ => []) (fun ⟨i, z⟩ => (0 ≤ i ∧ i ≤ ls.length ∧ z = (((ls.take i.toNat).flatMap Sli.l).length : Int))) (fun ⟨i, z⟩ => (ls.length - i).toNat) (0, 0) ⟨rfl, rfl, rfl, rfl, rfl, rfl, trivial⟩ rfl ?_ ?_
  · exact ⟨by omega, by omega, rfl⟩
  · rintro ⟨i, z⟩ hI
    obtain ⟨g0, g1, g2⟩ := hI
    refine gk_seq ?_
    refine gk_region ?_
    refine gk_y rfl rfl (y_lss rfl rfl) ?_
    refine gk_nil (gk_sub (T' := [(0,_), (2,_), (3,_), (9,_), (10,_), (11,_), (12,_)]) ⟨rfl, rfl, rfl, rfl, rfl, rfl, rfl, trivial⟩ ?_)
    refine gk_seq ?_
    refine gk_cond rfl (fun hc12 => ?_) (fun hc12 => ?_)
    · have hc12 := of_decide_eq_true hc12
      have hsx := sum_succ (ls := ls) g0 hc12
      have hbx := sum_le ls (i + 1).toNat
      rw [hsx, List.length_append] at hbx
      refine gk_skip ?_
      refine gk_seq ?_
      refine gk_block ?_
      refine gk_seq ?_
      refine gk_region ?_
      refine gk_y rfl rfl (y_indexE se156 rfl rfl (fun _ hw => (Rd.has (Has.rd hl) hw)) (by omega) (by omega)) ?_
      refine gk_y rfl rfl (y_loadE1 tf31 rfl (fun _ hw => (Rd.has (Has.rd hl) hw)) (by omega) (by omega) rfl) ?_
      refine gk_y rfl rfl (y_assign rfl) ?_
      refine gk_nil (gk_sub (T' := [(0,_), (2,_), (3,_), (5,_), (9,_), (10,_), (11,_)]) ⟨rfl, rfl, rfl, rfl, rfl, rfl, rfl, trivial⟩ ?_)
      refine gk_seq ?_
      refine gk_region ?_
      refine gk_y rfl rfl (y_move rfl) ?_
      refine gk_y rfl rfl (y_move rfl) ?_
      refine gk_y rfl rfl (y_lenS (Tryd.underlying31) rfl) ?_
      refine gk_y rfl rfl (y_addI rfl rfl (by omega) (by omega)) ?_
      refine gk_y rfl rfl (y_assign rfl) ?_
      refine gk_nil (gk_sub (T' := [(0,_), (2,_), (3,_), (9,_), (10,_), (11,_)]) ⟨rfl, rfl, rfl, rfl, rfl, rfl, trivial⟩ ?_)
      refine gk_seq ?_
      refine gk_region ?_
      refine gk_y rfl rfl (y_move rfl) ?_
      refine gk_y rfl rfl (y_lss rfl rfl) ?_
      refine gk_nil (gk_sub (T' := [(0,_), (2,_), (3,_), (9,_), (10,_), (11,_), (20,_)]) ⟨rfl, rfl, rfl, rfl, rfl, rfl, rfl, trivial⟩ ?_)
      refine gk_cond rfl (fun hc20 => ?_) (fun hc20 => ?_)
      · exfalso; simp at hc20; omega
      · simp only [decide_eq_false_iff_not] at hc20
        refine gk_skip ?_
        refine gk_region ?_
        refine gk_y rfl rfl (y_addI rfl rfl (by omega) (by omega)) ?_
        refine gk_y rfl rfl (y_move rfl) ?_
        refine gk_nil (gk_sub (T' := [(0,_), (2,_), (3,_), (9,_), (10,_), (11,_)]) ⟨rfl, rfl, rfl, rfl, rfl, rfl, trivial⟩ ?_)
        exact gk_next (i + 1, _) ⟨rfl, rfl, rfl, rfl, rfl, rfl, trivial⟩ rfl ⟨by omega, by omega, by rw [hsx, List.length_append]; omega⟩ (by simp only []; omega)
    · have hc12 := of_decide_eq_false hc12
      have hbz := sum_le ls i.toNat
      refine gk_exit rfl ?_
      refine gk_seq ?_
      refine gk_region ?_
      refine gk_y rfl rfl (y_move rfl) ?_
      refine gk_yx rfl rfl (yx_call en134 rfl (fun w hw => growNil_c z w (by omega) (by omega))) fun p24 => ?_
      refine gk_y rfl rfl (y_assign rfl) ?_
      refine gk_nil (gk_sub (T' := [(0,_), (2,_), (6,_)]) ⟨rfl, rfl, rfl, trivial⟩ ?_)
      refine gk_seq ?_
      refine gk_seq ?_
      refine gk_region ?_
      refine gk_y rfl rfl (y_move rfl) ?_
      refine gk_y rfl rfl (y_lenS (Tryd.underlying156) rfl) ?_
      refine gk_y rfl rfl (y_move rfl) ?_
      refine gk_nil (gk_sub (T' := [(2,_), (6,_), (25,_), (26,_), (27,_)]) ⟨rfl, rfl, rfl, rfl, rfl, trivial⟩ ?_)
      refine gk_block ?_
      refine gk_loop (X := Int × Option Addr × Nat × List Pt) (fun ⟨i, b, bc, m⟩ => [(2, .slice none 0 0), (6, .slice b m.length bc), (25, .slice a ls.length cap), (26, .int .i64 (ls.length : Int)), (27, .int .i64 i)]) (fun ⟨i, b, bc, m⟩ => [Row b 2 bc 32 encPt m]) (fun ⟨i, b, bc, m⟩ => (0 ≤ i ∧ i ≤ ls.length ∧ m = (ls.take i.toNat).flatMap Sli.l)) (fun ⟨i, b, bc, m⟩ => (ls.length - i).toNat) (0, p24.1, p24.2, []) ⟨rfl, rfl, rfl, rfl, rfl, trivial⟩ rfl ?_ ?_
      · exact ⟨by omega, by omega, rfl⟩
      · rintro ⟨i, b, bc, m⟩ hI
        obtain ⟨g0, g1, g2⟩ := hI
        refine gk_seq ?_
        refine gk_region ?_
        refine gk_y rfl rfl (y_lss rfl rfl) ?_
        refine gk_nil (gk_sub (T' := [(2,_), (6,_), (25,_), (26,_), (27,_), (28,_)]) ⟨rfl, rfl, rfl, rfl, rfl, rfl, trivial⟩ ?_)
        refine gk_seq ?_
        refine gk_cond rfl (fun hc28 => ?_) (fun hc28 => ?_)
        · have hc28 := of_decide_eq_true hc28
          have hsx := sum_succ (ls := ls) g0 hc28
          have hbx := sum_le ls (i + 1).toNat
          rw [hsx, List.length_append, ← g2] at hbx
          refine gk_skip ?_
          refine gk_seq ?_
          refine gk_block ?_
          refine gk_seq ?_
          refine gk_region ?_
          refine gk_y rfl rfl (y_indexE se156 rfl rfl (fun _ hw => (Rd.has (Has.rd hl) hw)) (by omega) (by omega)) ?_
          refine gk_y rfl rfl (y_loadE1 tf31 rfl (fun _ hw => (Rd.has (Has.rd hl) hw)) (by omega) (by omega) rfl) ?_
          refine gk_y rfl rfl (y_assign rfl) ?_
          refine gk_nil (gk_sub (T' := [(2,_), (6,_), (8,_), (25,_), (26,_), (27,_)]) ⟨rfl, rfl, rfl, rfl, rfl, rfl, trivial⟩ ?_)
          refine gk_region ?_
          refine gk_y rfl rfl (y_move rfl) ?_
          refine gk_y rfl rfl (y_move rfl) ?_
          refine gk_append (m := (ls.getD (i).toNat default).l) 0 af31 encPt_ok rfl rfl rfl rfl (fun _ hw => (Rd.has (Has.rd (hin _ (by omega))) hw)) (by first | omega | (simp only [List.length_cons, List.length_nil]; omega)) (by first | (unfold maxLen; omega) | (simp only [List.length_cons, List.length_nil, maxLen]; omega)) fun a33 c33 => ?_
          refine gk_y rfl rfl (y_assign rfl) ?_
          refine gk_nil (gk_sub (T' := [(2,_), (6,_), (25,_), (26,_), (27,_)]) ⟨rfl, rfl, rfl, rfl, rfl, trivial⟩ ?_)
          refine gk_region ?_
          refine gk_y rfl rfl (y_addI rfl rfl (by omega) (by omega)) ?_
          refine gk_y rfl rfl (y_move rfl) ?_
          refine gk_nil (gk_sub (T' := [(2,_), (6,_), (25,_), (26,_), (27,_)]) ⟨rfl, rfl, rfl, rfl, rfl, trivial⟩ ?_)
          exact gk_next (i + 1, a33, c33, _) ⟨rfl, rfl, rfl, rfl, rfl, trivial⟩ rfl ⟨by omega, by omega, by rw [hsx, ← g2]⟩ (by simp only []; omega)
        · simp only [decide_eq_false_iff_not] at hc28
          refine gk_exit rfl ?_
          refine gk_seq ?_
          refine gk_region ?_
          refine gk_y rfl rfl (y_move rfl) ?_
          refine gk_y rfl rfl (y_assign rfl) ?_
          refine gk_nil (gk_sub (T' := [(2,_)]) ⟨rfl, trivial⟩ ?_)
          obtain rfl : m = ls.flatMap Sli.l := by rw [g2, take_all (by omega)]
          refine gk_ret ?_
          refine gk_gives (b, bc) 0 (rv_one rfl (r1_tmp rfl)) ?_ rfl
          rfl

theorem concat2_c (a : Option Addr) (cap : Nat) (x y : Sli) (w : World) (hl : Has w (Elems a 1 encSli [x, y])) (hx : Has w (Pts x.a x.l)) (hy : Has w (Pts y.a y.l)) (ht : Small (x.l.length + y.l.length)) :
    Calls Tryd.prog 120 #[.slice a 2 cap] w (Gives (fun z : Option Addr × Nat => .slice z.1 (x.l ++ y.l).length z.2) (fun z => Row z.1 2 z.2 32 encPt (x.l ++ y.l)) w) := by
  have h := concat_c a cap [x, y] w hl (two_in hx hy) (by simp [Small]) (by simpa using ht)
  have e : [x, y].flatMap Sli.l = x.l ++ y.l := by simp
  rw [e] at h
  exact h

set_option maxRecDepth 100000 in
set_option maxHeartbeats 1000000 in
theorem settled_c (a : Option Addr) (cap : Nat) (l : List Pt) (w : World) (hl : Has w (Pts a l)) (hs : Small l.length) (h0 : 0 < l.length) (hcap : l.length ≤ cap) :
    Calls Tryd.prog 60 #[.slice a l.length cap] w (Gives (fun z : Option Addr × Nat => .slice z.1 (settledW l).length z.2) (fun z => Row z.1 2 z.2 32 encPt (settledW l)) w) := by
  obtain ⟨f0, f1⟩ := first_in h0
  have f2 : (l.drop (findI (eqB (minF lowerW l)) l).toNat ++ l.take (findI (eqB (minF lowerW l)) l).toNat).length = l.length := rotL_len (Int.le_of_lt f1)
  refine calls_of_gk (vs := [_]) Tryd.func60 rfl rfl (Nat.le_of_ble_eq_true rfl) ?_
  refine gk_seq ?_
  refine gk_region ?_
  refine gk_y rfl rfl (y_assign rfl) ?_
  refine gk_nil (gk_sub (T' := [(0,_), (2,_)]) ⟨rfl, rfl, trivial⟩ ?_)
  refine gk_seq ?_
  refine gk_region ?_
  refine gk_y rfl rfl (y_move rfl) ?_
  refine gk_y rfl rfl (y_call en99 rfl (fun w hw => least_c _ _ l w (Rd.has (Has.rd hl) hw) (by assumption) (by omega))) ?_
  refine gk_yx rfl rfl (yx_alloc tf32 (zs := [_, _]) rfl) fun b3 => ?_
  refine gk_storeV 0 tf32 rfl rfl (vs := [_, _]) rfl rfl rfl rfl rfl ?_
  refine gk_nil (gk_sub (T' := [(0,_), (2,_), (3,_)]) ⟨rfl, rfl, rfl, trivial⟩ ?_)
  refine gk_seq ?_
  refine gk_region ?_
  refine gk_y rfl rfl (y_move rfl) ?_
  refine gk_y rfl rfl (y_move rfl) ?_
  refine gk_y rfl rfl (y_call en118 rfl (fun w hw => minfunc_c _ _ l lowerW _ [] w (Rd.has (Has.rd hl) hw) (by assumption) (by omega) (fun _ => True) (fun _ _ => trivial) en106 (fun p q w _ => lower_c p q w))) ?_
  refine gk_y rfl rfl (y_call en119 rfl (fun w hw => index_c _ _ l (minF lowerW l) w (Rd.has (Has.rd hl) hw) (by assumption))) ?_
  refine gk_y rfl rfl (y_assign rfl) ?_
  refine gk_nil (gk_sub (T' := [(0,_), (2,_), (3,_), (4,_)]) ⟨rfl, rfl, rfl, rfl, trivial⟩ ?_)
  refine gk_seq ?_
  refine gk_any 9 (fun _ => mixed) (by kernel_rfl) ?_
  refine ph_y (y_move rfl) ?_
  refine ph_y (y_move rfl) ?_
  refine ph_y (y_sliceLoL se31 rfl rfl (by omega) (by omega)) ?_
  refine ph_y (y_move rfl) ?_
  refine ph_y (y_move rfl) ?_
  refine ph_y (y_move rfl) ?_
  refine ph_y (y_slice3L se31 rfl rfl rfl (by omega) (by omega) (by omega) (by omega)) ?_
  refine ph_yx (yx_buildSlice rfl (bs156_2 _ _ _ _ _ _) encSli_ok rfl) ?_
  refine ph_yx (fun b20 => yx_call en120 rfl (fun w hw => concat2_c _ _ ⟨_, _, (l.drop (findI (eqB (minF lowerW l)) l).toNat)⟩ ⟨_, _, (l.take (findI (eqB (minF lowerW l)) l).toNat)⟩ w (has_row encSli_ok (hw.has (p := 0) rfl)) (elems_drop (Rd.has (Has.rd hl) hw) hcap (by omega)) (elems_take (Rd.has (Has.rd hl) hw) (by omega) (by omega)) (by simp only [List.length_drop, List.length_take]; omega))) ?_
  intro p21
  intro b20
  refine gk_sub (T' := [(2,_), (3,_), (21,_)]) ⟨rfl, rfl, rfl, trivial⟩ ?_
  refine gk_y rfl rfl (y_assign rfl) ?_
  refine gk_nil (gk_sub (T' := [(2,_), (3,_), (5,_)]) ⟨rfl, rfl, rfl, trivial⟩ ?_)
  refine gk_seq ?_
  refine gk_seq ?_
  refine gk_region ?_
  refine gk_y rfl rfl (y_move rfl) ?_
  refine gk_y rfl rfl (y_lenS (Tryd.underlying31) rfl) ?_
  refine gk_y rfl rfl (y_move rfl) ?_
  refine gk_nil (gk_sub (T' := [(2,_), (3,_), (5,_), (23,_), (24,_)]) ⟨rfl, rfl, rfl, rfl, rfl, trivial⟩ ?_)
  refine gk_block ?_
  refine gk_loop (X := Int × List Pt) (fun ⟨i, m⟩ => [(2, .slice none 0 0), (3, .pointer (some ⟨b3, 0, none⟩)), (5, .slice p21.1 (l.drop (findI (eqB (minF lowerW l)) l).toNat ++ l.take (findI (eqB (minF lowerW l)) l).toNat).length p21.2), (23, .int .i64 ((l.drop (findI (eqB (minF lowerW l)) l).toNat ++ l.take (findI (eqB (minF lowerW l)) l).toNat).length : Int)), (24, .int .i64 i)]) (fun ⟨i, m⟩ => [Row (some ⟨b20, 0, none⟩) 1 2 31 encSli [⟨(subA a 2 (findI (eqB (minF lowerW l)) l).toNat cap), (cap - (findI (eqB (minF lowerW l)) l).toNat), (l.drop (findI (eqB (minF lowerW l)) l).toNat)⟩, ⟨(subA a 2 0 (findI (eqB (minF lowerW l)) l).toNat), (findI (eqB (minF lowerW l)) l).toNat, (l.take (findI (eqB (minF lowerW l)) l).toNat)⟩], Row p21.1 2 p21.2 32 encPt m, Box b3 [.int .i64 ((leastL l).x), .int .i64 ((leastL l).z)] 32]) (fun ⟨i, m⟩ => (0 ≤ i ∧ i ≤ ((l.drop (findI (eqB (minF lowerW l)) l).toNat ++ l.take (findI (eqB (minF lowerW l)) l).toNat).length : Int) ∧ m.length = (l.drop (findI (eqB (minF lowerW l)) l).toNat ++ l.take (findI (eqB (minF lowerW l)) l).toNat).length ∧ m = ((l.drop (findI (eqB (minF lowerW l)) l).toNat ++ l.take (findI (eqB (minF lowerW l)) l).toNat).take i.toNat).map (fun p => subW p (leastL l)) ++ (l.drop (findI (eqB (minF lowerW l)) l).toNat ++ l.take (findI (eqB (minF lowerW l)) l).toNat).drop i.toNat)) (fun ⟨i, m⟩ => (((l.drop (findI (eqB (minF lowerW l)) l).toNat ++ l.take (findI (eqB (minF lowerW l)) l).toNat).length : Int) - i).toNat) (0, (l.drop (findI (eqB (minF lowerW l)) l).toNat ++ l.take (findI (eqB (minF lowerW l)) l).toNat)) ⟨rfl, rfl, rfl, rfl, rfl, trivial⟩ rfl ?_ ?_
  · exact ⟨by omega, by omega, rfl, rfl⟩
  · rintro ⟨i, m⟩ hI
    obtain ⟨g0, g1, g3, g2⟩ := hI
    refine gk_seq ?_
    refine gk_region ?_
    refine gk_y rfl rfl (y_lss rfl rfl) ?_
    refine gk_nil (gk_sub (T' := [(2,_), (3,_), (5,_), (23,_), (24,_), (25,_)]) ⟨rfl, rfl, rfl, rfl, rfl, rfl, trivial⟩ ?_)
    refine gk_seq ?_
    refine gk_cond rfl (fun hc25 => ?_) (fun hc25 => ?_)
    · simp only [decide_eq_true_eq] at hc25
      refine gk_skip ?_
      refine gk_seq ?_
      refine gk_block ?_
      refine gk_seq ?_
      refine gk_region ?_
      refine gk_y rfl rfl (y_move rfl) ?_
      refine gk_y rfl rfl (y_assign rfl) ?_
      refine gk_nil (gk_sub (T' := [(2,_), (3,_), (5,_), (6,_), (23,_), (24,_)]) ⟨rfl, rfl, rfl, rfl, rfl, rfl, trivial⟩ ?_)
      refine gk_any 9 (fun _ => mixed) (by kernel_rfl) ?_
      refine ph_y (y_move rfl) ?_
      refine ph_y (y_move rfl) ?_
      refine ph_y (y_move rfl) ?_
      refine ph_y (y_move rfl) ?_
      refine ph_y (y_indexN se31 rfl rfl (fun _ hw => (has_row encPt_ok (hw.has (p := 1) rfl))) g3 (by omega) (by omega)) ?_
      refine ph_y (y_loadE (vs := [_, _]) tf32 rfl (fun _ hw => (has_row encPt_ok (hw.has (p := 1) rfl))) (by omega) (by omega) rfl) ?_
      refine ph_y (y_loadBA 2 tf32 rfl rfl (vs := [_, _]) rfl rfl) ?_
      refine ph_y (y_call en89 rfl (fun w hw => sub_c ⟨_, _⟩ ⟨_, _⟩ w)) ?_
      refine ph_y (y_indexN se31 rfl rfl (fun _ hw => (has_row encPt_ok (hw.has (p := 1) rfl))) g3 (by omega) (by omega)) ?_
      refine gk_sub (T' := [(2,_), (3,_), (5,_), (23,_), (24,_), (34,_), (35,_)]) ⟨rfl, rfl, rfl, rfl, rfl, rfl, rfl, trivial⟩ ?_
      refine gk_storeE (x' := ⟨((subW (m.getD (i).toNat default) (leastL l)).x), ((subW (m.getD (i).toNat default) (leastL l)).z)⟩) 1 encPt_ok tf32 rfl rfl (vs := [_, _]) rfl rfl rfl (by omega) (by omega) ?_
      refine gk_nil (gk_sub (T' := [(2,_), (3,_), (5,_), (23,_), (24,_)]) ⟨rfl, rfl, rfl, rfl, rfl, trivial⟩ ?_)
      refine gk_region ?_
      refine gk_y rfl rfl (y_addI rfl rfl (by omega) (by omega)) ?_
      refine gk_y rfl rfl (y_move rfl) ?_
      refine gk_nil (gk_sub (T' := [(2,_), (3,_), (5,_), (23,_), (24,_)]) ⟨rfl, rfl, rfl, rfl, rfl, trivial⟩ ?_)
      exact gk_next (i + 1, _) ⟨rfl, rfl, rfl, rfl, rfl, trivial⟩ rfl ⟨by omega, by omega, by rw [List.length_set]; exact g3, map_step g0 (by omega) g2⟩ (by simp only []; omega)
    · simp only [decide_eq_false_iff_not] at hc25
      refine gk_exit rfl ?_
      refine gk_seq ?_
      refine gk_region ?_
      refine gk_y rfl rfl (y_move rfl) ?_
      refine gk_y rfl rfl (y_assign rfl) ?_
      refine gk_nil (gk_sub (T' := [(2,_)]) ⟨rfl, trivial⟩ ?_)
      obtain rfl : m = settledW l := setp_end (o := (l.drop (findI (eqB (minF lowerW l)) l).toNat ++ l.take (findI (eqB (minF lowerW l)) l).toNat)) g2 (by omega)
      refine gk_ret ?_
      refine gk_gives p21 1 (rv_one rfl (r1_tmp rfl)) ?_ rfl
      exact congrArg (fun n => Value.slice _ n _) g3.symm

end Go.Proofs.YtahahmelnaphjaaDoor
