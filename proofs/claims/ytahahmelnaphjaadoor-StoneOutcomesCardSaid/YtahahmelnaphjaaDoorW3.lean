/- Walks: names, stones, whether they are valid. No statement of the seat is proved in this text. -/
import Derived.Test.YtahahmelnaphjaaDoorW2
namespace Go.Proofs.YtahahmelnaphjaaDoor
open Go.K Go.Stn Go.RowKit
theorem tf9 : TF Tryd.prog 9 false 1 (.string ⟨#[]⟩) := ⟨by kernel_rfl, by kernel_rfl⟩
theorem tf22 : TF Tryd.prog 22 false 1 (.slice none 0 0) := ⟨by kernel_rfl, by kernel_rfl⟩
theorem tf31 : TF Tryd.prog 31 false 1 (.slice none 0 0) := ⟨by kernel_rfl, by kernel_rfl⟩
theorem fo26_0 : FO Tryd.prog 26 0 0 := ⟨by kernel_rfl⟩
theorem fo26_1 : FO Tryd.prog 26 1 1 := ⟨by kernel_rfl⟩
theorem fo26_2 : FO Tryd.prog 26 2 2 := ⟨by kernel_rfl⟩
theorem fo26_3 : FO Tryd.prog 26 3 3 := ⟨by kernel_rfl⟩
theorem fo26_4 : FO Tryd.prog 26 4 4 := ⟨by kernel_rfl⟩
theorem fo34_0 : FO Tryd.prog 34 0 0 := ⟨by kernel_rfl⟩
theorem fo34_1 : FO Tryd.prog 34 1 1 := ⟨by kernel_rfl⟩
theorem fo34_2 : FO Tryd.prog 34 2 2 := ⟨by kernel_rfl⟩
theorem fo34_3 : FO Tryd.prog 34 3 3 := ⟨by kernel_rfl⟩
theorem fo34_4 : FO Tryd.prog 34 4 4 := ⟨by kernel_rfl⟩
theorem en53 : En Tryd.prog 53 := en_of Tryd.func53 (by kernel_rfl) (by kernel_rfl)
theorem en54 : En Tryd.prog 54 := en_of Tryd.func54 (by kernel_rfl) (by kernel_rfl)
theorem en56 : En Tryd.prog 56 := en_of Tryd.func56 (by kernel_rfl) (by kernel_rfl)
theorem en57 : En Tryd.prog 57 := en_of Tryd.func57 (by kernel_rfl) (by kernel_rfl)
theorem en114 : En Tryd.prog 114 := en_of Tryd.func114 (by kernel_rfl) (by kernel_rfl)
theorem en115 : En Tryd.prog 115 := en_of Tryd.func115 (by kernel_rfl) (by kernel_rfl)
theorem en133 : En Tryd.prog 133 := en_of Tryd.func133 (by kernel_rfl) (by kernel_rfl)
theorem en139 : En Tryd.prog 139 := en_of Tryd.func139 (by kernel_rfl) (by kernel_rfl)

set_option maxRecDepth 100000 in
set_option maxHeartbeats 1000000 in
theorem sindexfunc_c (s : ByteArray) (f : Int → Bool) (gg : FuncId) (gcap : List Value) (w : World)  (M : World → Prop) (hM : ∀ w', Ext w w' → M w') (hen : En Tryd.prog gg) (hg : ∀ r w', M w' → Calls Tryd.prog gg ([Value.int .i32 r] ++ gcap).toArray w' (Pure (.bool (f r)) w')) :
    Calls Tryd.prog 139 #[.string s, .func (.func gg) #[] gcap.toArray, .bool true] w (Pure (.int .i64 (idxRune f s 0)) w) := by
  refine calls_of_gk (vs := [_, _, _]) Tryd.func139 rfl rfl (Nat.le_of_ble_eq_true rfl) ?_
  refine gk_seq ?_
  refine gk_region ?_
  refine gk_y rfl rfl (y_assign rfl) ?_
  refine gk_nil (gk_sub (T' := [(0,_), (1,_), (2,_), (6,_)]) ⟨rfl, rfl, rfl, rfl, trivial⟩ ?_)
  refine gk_seq ?_
  refine gk_seq ?_
  refine gk_region ?_
  refine gk_y rfl rfl (y_move rfl) ?_
  refine gk_yx rfl rfl (yx_rangeStr (Tryd.underlying9) rfl) fun b10 => ?_
  refine gk_nil (gk_sub (T' := [(1,_), (2,_), (6,_), (10,_)]) ⟨rfl, rfl, rfl, rfl, trivial⟩ ?_)
  refine gk_block ?_
  refine gk_loop (X := Nat) (fun (p : Nat) => [(1, .func (.func gg) #[] gcap.toArray), (2, .bool true), (6, .int .i64 0), (10, .pointer (some ⟨b10, 0, none⟩))]) (fun (p : Nat) => [Iter b10 s p]) (fun (p : Nat) => (idxRune f s p = idxRune f s 0)) (fun (p : Nat) => s.size - p) 0 ⟨rfl, rfl, rfl, rfl, trivial⟩ rfl ?_ ?_
  · exact rfl
  · rintro p hI
    refine gk_seq ?_
    refine gk_region ?_
    refine gk_nextStr 0 rfl rfl rfl (fun hnx => ?_) (fun hnx => ?_)
    ·
      refine gk_y rfl rfl (y_extract rfl rfl) ?_
      refine gk_nil (gk_sub (T' := [(1,_), (2,_), (6,_), (10,_), (11,_), (12,_)]) ⟨rfl, rfl, rfl, rfl, rfl, rfl, trivial⟩ ?_)
      refine gk_seq ?_
      refine gk_condT rfl ?_
      refine gk_skip ?_
      refine gk_block ?_
      refine gk_seq ?_
      refine gk_region ?_
      refine gk_y rfl rfl (y_extract rfl rfl) ?_
      refine gk_y rfl rfl (y_extract rfl rfl) ?_
      refine gk_y rfl rfl (y_assign rfl) ?_
      refine gk_y rfl rfl (y_assign rfl) ?_
      refine gk_nil (gk_sub (T' := [(1,_), (2,_), (6,_), (7,_), (8,_), (10,_)]) ⟨rfl, rfl, rfl, rfl, rfl, rfl, trivial⟩ ?_)
      refine gk_seq ?_
      refine gk_region ?_
      refine gk_y rfl rfl (y_move rfl) ?_
      refine gk_y rfl rfl (y_move rfl) ?_
      refine gk_y rfl rfl (y_callV (fs := []) (cap := gcap) hen rfl rfl (fun w hw => hg _ w (hM _ hw.base.ext0))) ?_
      refine gk_y rfl rfl (y_move rfl) ?_
      refine gk_y rfl rfl (y_boolEq (Tryd.underlying4) rfl rfl) ?_
      refine gk_nil (gk_sub (T' := [(1,_), (2,_), (6,_), (7,_), (10,_), (19,_)]) ⟨rfl, rfl, rfl, rfl, rfl, rfl, trivial⟩ ?_)
      refine gk_cond rfl (fun hc19 => ?_) (fun hc19 => ?_)
      · skip
        refine gk_seq ?_
        refine gk_region ?_
        refine gk_y rfl rfl (y_move rfl) ?_
        refine gk_y rfl rfl (y_assign rfl) ?_
        refine gk_nil (gk_sub (T' := [(1,_), (2,_), (6,_), (10,_)]) ⟨rfl, rfl, rfl, rfl, trivial⟩ ?_)
        refine gk_ret ?_
        refine gk_pure (rv_one rfl (r1_tmp rfl)) ?_
        exact congrArg _ ((idxRune_hit hnx (by simpa using hc19)).symm.trans hI)
      · skip
        refine gk_skip ?_
        exact gk_next _ ⟨rfl, rfl, rfl, rfl, trivial⟩ rfl ((idxRune_next hnx (by simpa using hc19)).symm.trans hI) (by have := decode_pos s p; omega)
    ·
      refine gk_y rfl rfl (y_extract rfl rfl) ?_
      refine gk_nil (gk_sub (T' := [(1,_), (2,_), (6,_), (10,_), (11,_), (12,_)]) ⟨rfl, rfl, rfl, rfl, rfl, rfl, trivial⟩ ?_)
      refine gk_seq ?_
      refine gk_condF rfl ?_
      refine gk_exit rfl ?_
      refine gk_seq ?_
      refine gk_region ?_
      refine gk_y rfl rfl (y_assign rfl) ?_
      refine gk_nil (gk_sub (T' := [(6,_)]) ⟨rfl, trivial⟩ ?_)
      refine gk_ret ?_
      refine gk_pure (rv_one rfl (r1_tmp rfl)) ?_
      exact congrArg _ ((idxRune_end hnx).symm.trans hI)

set_option maxRecDepth 100000 in
set_option maxHeartbeats 1000000 in
theorem sIndexFunc_c (s : ByteArray) (f : Int → Bool) (gg : FuncId) (gcap : List Value) (w : World)  (M : World → Prop) (hM : ∀ w', Ext w w' → M w') (hen : En Tryd.prog gg) (hg : ∀ r w', M w' → Calls Tryd.prog gg ([Value.int .i32 r] ++ gcap).toArray w' (Pure (.bool (f r)) w')) :
    Calls Tryd.prog 133 #[.string s, .func (.func gg) #[] gcap.toArray] w (Pure (.int .i64 (idxRune f s 0)) w) := by
  refine calls_of_gk (vs := [_, _]) Tryd.func133 rfl rfl (Nat.le_of_ble_eq_true rfl) ?_
  refine gk_seq ?_
  refine gk_region ?_
  refine gk_y rfl rfl (y_assign rfl) ?_
  refine gk_nil (gk_sub (T' := [(0,_), (1,_), (4,_)]) ⟨rfl, rfl, rfl, trivial⟩ ?_)
  refine gk_seq ?_
  refine gk_region ?_
  refine gk_y rfl rfl (y_move rfl) ?_
  refine gk_y rfl rfl (y_move rfl) ?_
  refine gk_y rfl rfl (y_call en139 rfl (fun w hw => sindexfunc_c s f _ _ w M (fun w' h => hM w' (hw.base.ext0.trans h)) hen hg)) ?_
  refine gk_y rfl rfl (y_assign rfl) ?_
  refine gk_nil (gk_sub (T' := [(4,_)]) ⟨rfl, trivial⟩ ?_)
  refine gk_ret ?_
  refine gk_pure (rv_one rfl (r1_tmp rfl)) ?_
  rfl

set_option maxRecDepth 100000 in
set_option maxHeartbeats 1000000 in
theorem scontains_c (s : ByteArray) (f : Int → Bool) (gg : FuncId) (gcap : List Value) (w : World)  (M : World → Prop) (hM : ∀ w', Ext w w' → M w') (hen : En Tryd.prog gg) (hg : ∀ r w', M w' → Calls Tryd.prog gg ([Value.int .i32 r] ++ gcap).toArray w' (Pure (.bool (f r)) w')) :
    Calls Tryd.prog 115 #[.string s, .func (.func gg) #[] gcap.toArray] w (Pure (.bool (decide (0 ≤ idxRune f s 0))) w) := by
  refine calls_of_gk (vs := [_, _]) Tryd.func115 rfl rfl (Nat.le_of_ble_eq_true rfl) ?_
  refine gk_seq ?_
  refine gk_region ?_
  refine gk_y rfl rfl (y_assign rfl) ?_
  refine gk_nil (gk_sub (T' := [(0,_), (1,_), (4,_)]) ⟨rfl, rfl, rfl, trivial⟩ ?_)
  refine gk_seq ?_
  refine gk_region ?_
  refine gk_y rfl rfl (y_move rfl) ?_
  refine gk_y rfl rfl (y_move rfl) ?_
  refine gk_y rfl rfl (y_call en133 rfl (fun w hw => sIndexFunc_c s f _ _ w M (fun w' h => hM w' (hw.base.ext0.trans h)) hen hg)) ?_
  refine gk_y rfl rfl (y_geq rfl rfl) ?_
  refine gk_y rfl rfl (y_assign rfl) ?_
  refine gk_nil (gk_sub (T' := [(4,_)]) ⟨rfl, trivial⟩ ?_)
  refine gk_ret ?_
  refine gk_pure (rv_one rfl (r1_tmp rfl)) ?_
  rfl

set_option maxRecDepth 100000 in
set_option maxHeartbeats 1000000 in
theorem named1_c (r : Int) (w : World)  :
    Calls Tryd.prog 114 #[.int .i32 r] w (Pure (.bool (oddR r)) w) := by
  refine calls_of_gk (vs := [_]) Tryd.func114 rfl rfl (Nat.le_of_ble_eq_true rfl) ?_
  refine gk_seq ?_
  refine gk_region ?_
  refine gk_y rfl rfl (y_assign rfl) ?_
  refine gk_nil (gk_sub (T' := [(0,_), (2,_)]) ⟨rfl, rfl, trivial⟩ ?_)
  refine gk_seq ?_
  refine gk_any 17 (fun _ => mixed) (by kernel_rfl) ?_
  refine ph_y (y_move rfl) ?_
  refine ph_y (y_geq rfl rfl) ?_
  refine ph_y (y_move rfl) ?_
  refine ph_gT rfl rfl (fun hgd => by (try rw [hgd]); exact (y_move rfl)) ?_
  refine ph_gT rfl rfl (fun hgd => by (try rw [hgd]); exact (y_leq rfl rfl)) ?_
  refine ph_y (y_pickAnd rfl rfl rfl) ?_
  refine ph_y (y_not rfl) ?_
  refine ph_y (y_move rfl) ?_
  refine ph_gT rfl rfl (fun hgd => by (try rw [hgd]); exact (y_move rfl)) ?_
  refine ph_gT rfl rfl (fun hgd => by (try rw [hgd]); exact (y_geq rfl rfl)) ?_
  refine ph_gT rfl rfl (fun hgd => by (try rw [hgd]); exact (y_move rfl)) ?_
  refine ph_gTT rfl rfl (fun hgd => by (try rw [hgd]); exact (y_move rfl)) ?_
  refine ph_gTT rfl rfl (fun hgd => by (try rw [hgd]); exact (y_leq rfl rfl)) ?_
  refine ph_gT rfl rfl (fun hgd => by (try rw [hgd]); exact (y_pickAnd rfl rfl rfl)) ?_
  refine ph_gT rfl rfl (fun hgd => by (try rw [hgd]); exact (y_not rfl)) ?_
  refine ph_y (y_pickAnd rfl rfl rfl) ?_
  refine ph_y (y_assign rfl) ?_
  refine gk_nil (gk_sub (T' := [(2,_)]) ⟨rfl, trivial⟩ ?_)
  refine gk_ret ?_
  refine gk_pure (rv_one rfl (r1_tmp rfl)) ?_
  rfl

set_option maxRecDepth 100000 in
set_option maxHeartbeats 1000000 in
theorem named_c (s : ByteArray) (w : World)  :
    Calls Tryd.prog 56 #[.string s] w (Pure (.bool (namedB s)) w) := by
  refine calls_of_gk (vs := [_]) Tryd.func56 rfl rfl (Nat.le_of_ble_eq_true rfl) ?_
  refine gk_seq ?_
  refine gk_region ?_
  refine gk_y rfl rfl (y_assign rfl) ?_
  refine gk_nil (gk_sub (T' := [(0,_), (2,_)]) ⟨rfl, rfl, trivial⟩ ?_)
  refine gk_seq ?_
  refine gk_region ?_
  refine gk_y rfl rfl (y_assign rfl) ?_
  refine gk_nil (gk_sub (T' := [(0,_), (2,_), (3,_)]) ⟨rfl, rfl, rfl, trivial⟩ ?_)
  refine gk_seq ?_
  refine gk_any 10 (fun _ => mixed) (by kernel_rfl) ?_
  refine ph_y (y_move rfl) ?_
  refine ph_y (y_lenStr (Tryd.underlying9) rfl) ?_
  refine ph_y (y_call en55 rfl (fun w hw => within_c _ _ _ w)) ?_
  refine ph_y (y_move rfl) ?_
  refine ph_gT rfl rfl (fun hgd => by (try rw [hgd]); exact (y_move rfl)) ?_
  refine ph_gT rfl rfl (fun hgd => by (try rw [hgd]); exact (y_move rfl)) ?_
  refine ph_gT rfl rfl (fun hgd => by (try rw [hgd]); exact (y_call (v := .bool (decide (0 ≤ idxRune oddR s 0))) en115 rfl (fun w hw => scontains_c s oddR _ [] w (fun _ => True) (fun _ _ => trivial) en114 (fun r w _ => named1_c r w)))) ?_
  refine ph_gT rfl rfl (fun hgd => by (try rw [hgd]); exact (y_not rfl)) ?_
  refine ph_y (y_pickAnd rfl rfl rfl) ?_
  refine ph_y (y_assign rfl) ?_
  refine gk_nil (gk_sub (T' := [(2,_)]) ⟨rfl, trivial⟩ ?_)
  refine gk_ret ?_
  refine gk_pure (rv_one rfl (r1_tmp rfl)) ?_
  rfl

set_option maxRecDepth 100000 in
set_option maxHeartbeats 1000000 in
theorem rnamed_c (s : ByteArray) (w : World) (hs : Fits s.size) :
    Calls Tryd.prog 53 #[.string s] w (Pure (.bool (rnamedB s)) w) := by
  refine calls_of_gk (vs := [_]) Tryd.func53 rfl rfl (Nat.le_of_ble_eq_true rfl) ?_
  refine gk_seq ?_
  refine gk_region ?_
  refine gk_y rfl rfl (y_assign rfl) ?_
  refine gk_nil (gk_sub (T' := [(0,_), (2,_)]) ⟨rfl, rfl, trivial⟩ ?_)
  refine gk_seq ?_
  refine gk_seq ?_
  refine gk_region ?_
  refine gk_y rfl rfl (y_assign rfl) ?_
  refine gk_nil (gk_sub (T' := [(0,_), (2,_), (3,_)]) ⟨rfl, rfl, rfl, trivial⟩ ?_)
  refine gk_block ?_
  refine gk_loop (X := Int) (fun (i : Int) => [(0, .string s), (2, .bool false), (3, .int .i64 i)]) (fun (i : Int) => []) (fun (i : Int) => (0 ≤ i ∧ i ≤ s.size ∧ ∀ j : Nat, (j : Int) < i → oddB (byteI s j) = false)) (fun (i : Int) => (s.size - i).toNat) 0 ⟨rfl, rfl, rfl, trivial⟩ rfl ?_ ?_
  · exact ⟨by omega, by omega, fun j hj => by omega⟩
  · rintro i hI
    obtain ⟨g0, g1, g2⟩ := hI
    refine gk_seq ?_
    refine gk_seq ?_
    refine gk_region ?_
    refine gk_y rfl rfl (y_move rfl) ?_
    refine gk_y rfl rfl (y_move rfl) ?_
    refine gk_y rfl rfl (y_lenStr (Tryd.underlying9) rfl) ?_
    refine gk_y rfl rfl (y_lss rfl rfl) ?_
    refine gk_nil (gk_sub (T' := [(0,_), (2,_), (3,_), (7,_)]) ⟨rfl, rfl, rfl, rfl, trivial⟩ ?_)
    refine gk_cond rfl (fun hc7 => ?_) (fun hc7 => ?_)
    · simp only [decide_eq_true_eq] at hc7
      refine gk_skip ?_
      refine gk_seq ?_
      refine gk_block ?_
      refine gk_seq ?_
      refine gk_any 22 (fun _ => mixed) (by kernel_rfl) ?_
      refine ph_y (y_move rfl) ?_
      refine ph_y (y_move rfl) ?_
      refine ph_y (y_strIndex (Tryd.underlying9) rfl rfl (by omega) (by omega)) ?_
      refine ph_y (y_lss rfl rfl) ?_
      refine ph_y (y_move rfl) ?_
      refine ph_gF rfl rfl (fun hgd => by (try rw [hgd]); exact (y_move rfl)) ?_
      refine ph_gF rfl rfl (fun hgd => by (try rw [hgd]); exact (y_move rfl)) ?_
      refine ph_gF rfl rfl (fun hgd => by (try rw [hgd]); exact (y_strIndex (Tryd.underlying9) rfl rfl (by omega) (by omega))) ?_
      refine ph_gF rfl rfl (fun hgd => by (try rw [hgd]); exact (y_gtr rfl rfl)) ?_
      refine ph_y (y_pickOr rfl rfl rfl) ?_
      refine ph_y (y_move rfl) ?_
      refine ph_gT rfl rfl (fun hgd => by (try rw [hgd]); exact (y_move rfl)) ?_
      refine ph_gT rfl rfl (fun hgd => by (try rw [hgd]); exact (y_move rfl)) ?_
      refine ph_gT rfl rfl (fun hgd => by (try rw [hgd]); exact (y_strIndex (Tryd.underlying9) rfl rfl (by omega) (by omega))) ?_
      refine ph_gT rfl rfl (fun hgd => by (try rw [hgd]); exact (y_lss rfl rfl)) ?_
      refine ph_gT rfl rfl (fun hgd => by (try rw [hgd]); exact (y_move rfl)) ?_
      refine ph_gTF rfl rfl (fun hgd => by (try rw [hgd]); exact (y_move rfl)) ?_
      refine ph_gTF rfl rfl (fun hgd => by (try rw [hgd]); exact (y_move rfl)) ?_
      refine ph_gTF rfl rfl (fun hgd => by (try rw [hgd]); exact (y_strIndex (Tryd.underlying9) rfl rfl (by omega) (by omega))) ?_
      refine ph_gTF rfl rfl (fun hgd => by (try rw [hgd]); exact (y_gtr rfl rfl)) ?_
      refine ph_gT rfl rfl (fun hgd => by (try rw [hgd]); exact (y_pickOr rfl rfl rfl)) ?_
      refine ph_y (y_pickAnd rfl rfl rfl) ?_
      refine gk_nil (gk_sub (T' := [(0,_), (2,_), (3,_), (31,_)]) ⟨rfl, rfl, rfl, rfl, trivial⟩ ?_)
      refine gk_cond rfl (fun hc31 => ?_) (fun hc31 => ?_)
      · skip
        refine gk_seq ?_
        refine gk_region ?_
        refine gk_y rfl rfl (y_assign rfl) ?_
        refine gk_nil (gk_sub (T' := [(0,_), (2,_), (3,_)]) ⟨rfl, rfl, rfl, trivial⟩ ?_)
        refine gk_ret ?_
        refine gk_pure (rv_one rfl (r1_tmp rfl)) ?_
        exact congrArg _ (rnamed_no g0 (by omega) hc31).symm
      · skip
        refine gk_skip ?_
        refine gk_region ?_
        refine gk_y rfl rfl (y_move rfl) ?_
        refine gk_y rfl rfl (y_addI rfl rfl (by omega) (by omega)) ?_
        refine gk_y rfl rfl (y_assign rfl) ?_
        refine gk_nil (gk_sub (T' := [(0,_), (2,_), (3,_)]) ⟨rfl, rfl, rfl, trivial⟩ ?_)
        exact gk_next _ ⟨rfl, rfl, rfl, trivial⟩ rfl ⟨by omega, by omega, fun j hj => if h : (j : Int) < i then g2 j h else (by rw [show (j : Int) = i from by omega]; exact hc31)⟩ (by omega)
    · simp only [decide_eq_false_iff_not] at hc7
      refine gk_exit rfl ?_
      refine gk_seq ?_
      refine gk_any 9 (fun _ => mixed) (by kernel_rfl) ?_
      refine ph_y (y_move rfl) ?_
      refine ph_y (y_lenStr (Tryd.underlying9) rfl) ?_
      refine ph_y (y_geq rfl rfl) ?_
      refine ph_y (y_move rfl) ?_
      refine ph_gT rfl rfl (fun hgd => by (try rw [hgd]); exact (y_move rfl)) ?_
      refine ph_gT rfl rfl (fun hgd => by (try rw [hgd]); exact (y_lenStr (Tryd.underlying9) rfl)) ?_
      refine ph_gT rfl rfl (fun hgd => by (try rw [hgd]); exact (y_leq rfl rfl)) ?_
      refine ph_y (y_pickAnd rfl rfl rfl) ?_
      refine ph_y (y_assign rfl) ?_
      refine gk_nil (gk_sub (T' := [(2,_)]) ⟨rfl, trivial⟩ ?_)
      refine gk_ret ?_
      refine gk_pure (rv_one rfl (r1_tmp rfl)) ?_
      exact congrArg _ (rnamed_yes g2 (by omega)).symm

set_option maxRecDepth 100000 in
set_option maxHeartbeats 1000000 in
theorem rvalid_c (a : Option Addr) (cap : Nat) (s : Stn) (w : World) (hl : Has w (Pts a s.shape)) (hs : Small s.shape.length) (hn : Fits s.name.size) :
    Calls Tryd.prog 16 #[.agg #[.string s.name, .slice a s.shape.length cap, .int .i64 s.depth, .int .i64 s.density, .int .i64 s.grain.x, .int .i64 s.grain.z]] w (Pure (.bool (rvalidB s)) w) := by
  refine calls_of_gk (vs := [_]) Tryd.func16 rfl rfl (Nat.le_of_ble_eq_true rfl) ?_
  refine gk_seq ?_
  refine gk_region ?_
  refine gk_yx rfl rfl (yx_box (vs := [_, _, _, _, _, _]) rfl rfl) fun b1 => ?_
  refine gk_y rfl rfl (y_assign rfl) ?_
  refine gk_nil (gk_sub (T' := [(1,_), (2,_)]) ⟨rfl, rfl, trivial⟩ ?_)
  refine gk_seq ?_
  refine gk_region ?_
  refine gk_y rfl rfl (y_fieldAddr fo26_4 rfl) ?_
  refine gk_y rfl rfl (y_loadBA 0 tf24 rfl rfl (vs := [_, _]) rfl rfl) ?_
  refine gk_yx rfl rfl (yx_alloc tf24 (zs := [_, _]) rfl) fun b3 => ?_
  refine gk_storeV 0 tf24 rfl rfl (vs := [_, _]) rfl rfl rfl rfl rfl ?_
  refine gk_nil (gk_sub (T' := [(1,_), (2,_), (3,_)]) ⟨rfl, rfl, rfl, trivial⟩ ?_)
  refine gk_seq ?_
  refine gk_any 39 (fun _ => mixed) (by kernel_rfl) ?_
  refine ph_y (y_fieldAddr fo26_0 rfl) ?_
  refine ph_y (y_loadB1 1 tf9 rfl rfl rfl) ?_
  refine ph_y (y_call en53 rfl (fun w hw => rnamed_c _ w (by assumption))) ?_
  refine ph_y (y_move rfl) ?_
  refine ph_gT rfl rfl (fun hgd => by (try rw [hgd]); exact (y_fieldAddr fo26_1 rfl)) ?_
  refine ph_gT rfl rfl (fun hgd => by (try rw [hgd]); exact (y_loadB1 1 tf22 rfl rfl rfl)) ?_
  refine ph_gT rfl rfl (fun hgd => by (try rw [hgd]); exact (y_call (v := .bool (rplacedB s.shape)) en54 rfl (fun w hw => rplaced_c _ _ s.shape w (Rd.has (Has.rd hl) hw) (by assumption)))) ?_
  refine ph_y (y_pickAnd rfl rfl rfl) ?_
  refine ph_y (y_move rfl) ?_
  refine ph_gT rfl rfl (fun hgd => by (try rw [hgd]); exact (y_fieldAddr fo26_2 rfl)) ?_
  refine ph_gT rfl rfl (fun hgd => by (try rw [hgd]); exact (y_loadB1 1 tf3 rfl rfl rfl)) ?_
  refine ph_gT rfl rfl (fun hgd => by (try rw [hgd]); exact (y_call (v := .bool (decide (1 ≤ s.depth) && decide (s.depth ≤ 2000))) en50 rfl (fun w hw => in_c _ _ _ w))) ?_
  refine ph_y (y_pickAnd rfl rfl rfl) ?_
  refine ph_y (y_move rfl) ?_
  refine ph_gT rfl rfl (fun hgd => by (try rw [hgd]); exact (y_fieldAddr fo26_3 rfl)) ?_
  refine ph_gT rfl rfl (fun hgd => by (try rw [hgd]); exact (y_loadB1 1 tf3 rfl rfl rfl)) ?_
  refine ph_gT rfl rfl (fun hgd => by (try rw [hgd]); exact (y_call (v := .bool (decide (1 ≤ s.density) && decide (s.density ≤ 10000))) en50 rfl (fun w hw => in_c _ _ _ w))) ?_
  refine ph_y (y_pickAnd rfl rfl rfl) ?_
  refine ph_y (y_move rfl) ?_
  refine ph_gT rfl rfl (fun hgd => by (try rw [hgd]); exact (y_fieldAddr fo24_0 rfl)) ?_
  refine ph_gT rfl rfl (fun hgd => by (try rw [hgd]); exact (y_loadB1 0 tf3 rfl rfl rfl)) ?_
  refine ph_gT rfl rfl (fun hgd => by (try rw [hgd]); exact (y_neq rfl rfl)) ?_
  refine ph_gT rfl rfl (fun hgd => by (try rw [hgd]); exact (y_move rfl)) ?_
  refine ph_gTF rfl rfl (fun hgd => by (try rw [hgd]); exact (y_fieldAddr fo24_1 rfl)) ?_
  refine ph_gTF rfl rfl (fun hgd => by (try rw [hgd]); exact (y_loadB1 0 tf3 rfl rfl rfl)) ?_
  refine ph_gTF rfl rfl (fun hgd => by (try rw [hgd]); exact (y_neq rfl rfl)) ?_
  refine ph_gT rfl rfl (fun hgd => by (try rw [hgd]); exact (y_pickOr rfl rfl rfl)) ?_
  refine ph_y (y_pickAnd rfl rfl rfl) ?_
  refine ph_y (y_move rfl) ?_
  refine ph_gT rfl rfl (fun hgd => by (try rw [hgd]); exact (y_fieldAddr fo24_0 rfl)) ?_
  refine ph_gT rfl rfl (fun hgd => by (try rw [hgd]); exact (y_loadB1 0 tf3 rfl rfl rfl)) ?_
  refine ph_gT rfl rfl (fun hgd => by (try rw [hgd]); exact (y_call (v := .bool (decide ((-100) ≤ s.grain.x) && decide (s.grain.x ≤ 100))) en50 rfl (fun w hw => in_c _ _ _ w))) ?_
  refine ph_y (y_pickAnd rfl rfl rfl) ?_
  refine ph_y (y_move rfl) ?_
  refine ph_gT rfl rfl (fun hgd => by (try rw [hgd]); exact (y_fieldAddr fo24_1 rfl)) ?_
  refine ph_gT rfl rfl (fun hgd => by (try rw [hgd]); exact (y_loadB1 0 tf3 rfl rfl rfl)) ?_
  refine ph_gT rfl rfl (fun hgd => by (try rw [hgd]); exact (y_call (v := .bool (decide ((-100) ≤ s.grain.z) && decide (s.grain.z ≤ 100))) en50 rfl (fun w hw => in_c _ _ _ w))) ?_
  refine ph_y (y_pickAnd rfl rfl rfl) ?_
  refine ph_y (y_assign rfl) ?_
  refine gk_nil (gk_sub (T' := [(2,_)]) ⟨rfl, trivial⟩ ?_)
  refine gk_ret ?_
  refine gk_pure (rv_one rfl (r1_tmp rfl)) ?_
  rfl

set_option maxRecDepth 100000 in
set_option maxHeartbeats 1000000 in
theorem check_c (a : Option Addr) (cap : Nat) (s : Stn) (w : World) (hl : Has w (Pts a s.shape)) (hs : Small s.shape.length) :
    Calls Tryd.prog 17 #[.agg #[.string s.name, .slice a s.shape.length cap, .int .i64 s.depth, .int .i64 s.density, .int .i64 s.grain.x, .int .i64 s.grain.z]] w (Pure (.int .i64 (checkI s)) w) := by
  refine calls_of_gk (vs := [_]) Tryd.func17 rfl rfl (Nat.le_of_ble_eq_true rfl) ?_
  refine gk_seq ?_
  refine gk_region ?_
  refine gk_yx rfl rfl (yx_box (vs := [_, _, _, _, _, _]) rfl rfl) fun b1 => ?_
  refine gk_y rfl rfl (y_assign rfl) ?_
  refine gk_nil (gk_sub (T' := [(1,_), (2,_)]) ⟨rfl, rfl, trivial⟩ ?_)
  refine gk_seq ?_
  refine gk_region ?_
  refine gk_y rfl rfl (y_fieldAddr fo34_4 rfl) ?_
  refine gk_y rfl rfl (y_loadBA 0 tf32 rfl rfl (vs := [_, _]) rfl rfl) ?_
  refine gk_yx rfl rfl (yx_alloc tf32 (zs := [_, _]) rfl) fun b3 => ?_
  refine gk_storeV 0 tf32 rfl rfl (vs := [_, _]) rfl rfl rfl rfl rfl ?_
  refine gk_nil (gk_sub (T' := [(1,_), (2,_), (3,_)]) ⟨rfl, rfl, rfl, trivial⟩ ?_)
  refine gk_seq ?_
  refine gk_any 14 (fun _ => mixed) (by kernel_rfl) ?_
  refine ph_y (y_loadBA 0 tf32 rfl rfl (vs := [_, _]) rfl rfl) ?_
  refine ph_y (y_buildL (parts := []) rfl bd32_) ?_
  refine ph_y (y_neq32 rfl rfl) ?_
  refine ph_y (y_move rfl) ?_
  refine ph_gT rfl rfl (fun hgd => by (try rw [hgd]); exact (y_fieldAddr fo32_0 rfl)) ?_
  refine ph_gT rfl rfl (fun hgd => by (try rw [hgd]); exact (y_loadB1 0 tf3 rfl rfl rfl)) ?_
  refine ph_gT rfl rfl (fun hgd => by (try rw [hgd]); exact (y_call (v := .bool (decide ((-100) ≤ s.grain.x) && decide (s.grain.x ≤ 100))) en55 rfl (fun w hw => within_c _ _ _ w))) ?_
  refine ph_y (y_pickAnd rfl rfl rfl) ?_
  refine ph_y (y_move rfl) ?_
  refine ph_gT rfl rfl (fun hgd => by (try rw [hgd]); exact (y_fieldAddr fo32_1 rfl)) ?_
  refine ph_gT rfl rfl (fun hgd => by (try rw [hgd]); exact (y_loadB1 0 tf3 rfl rfl rfl)) ?_
  refine ph_gT rfl rfl (fun hgd => by (try rw [hgd]); exact (y_call (v := .bool (decide ((-100) ≤ s.grain.z) && decide (s.grain.z ≤ 100))) en55 rfl (fun w hw => within_c _ _ _ w))) ?_
  refine ph_y (y_pickAnd rfl rfl rfl) ?_
  refine ph_y (y_assign rfl) ?_
  refine gk_nil (gk_sub (T' := [(1,_), (2,_), (4,_)]) ⟨rfl, rfl, rfl, trivial⟩ ?_)
  refine gk_seq ?_
  refine gk_seq ?_
  refine gk_any 26 (fun _ => mixed) (by kernel_rfl) ?_
  refine ph_y (y_fieldAddr fo34_0 rfl) ?_
  refine ph_y (y_loadB1 1 tf9 rfl rfl rfl) ?_
  refine ph_y (y_call en56 rfl (fun w hw => named_c _ w)) ?_
  refine ph_y (y_not rfl) ?_
  refine ph_y (y_move rfl) ?_
  refine ph_gF rfl rfl (fun hgd => by (try rw [hgd]); exact (y_fieldAddr fo34_1 rfl)) ?_
  refine ph_gF rfl rfl (fun hgd => by (try rw [hgd]); exact (y_loadB1 1 tf31 rfl rfl rfl)) ?_
  refine ph_gF rfl rfl (fun hgd => by (try rw [hgd]); exact (y_call (v := .bool (placedB s.shape)) en57 rfl (fun w hw => placed_c _ _ s.shape w (Rd.has (Has.rd hl) hw) (by assumption)))) ?_
  refine ph_gF rfl rfl (fun hgd => by (try rw [hgd]); exact (y_not rfl)) ?_
  refine ph_y (y_pickOr rfl rfl rfl) ?_
  refine ph_y (y_move rfl) ?_
  refine ph_gF rfl rfl (fun hgd => by (try rw [hgd]); exact (y_fieldAddr fo34_2 rfl)) ?_
  refine ph_gF rfl rfl (fun hgd => by (try rw [hgd]); exact (y_loadB1 1 tf3 rfl rfl rfl)) ?_
  refine ph_gF rfl rfl (fun hgd => by (try rw [hgd]); exact (y_call (v := .bool (decide (1 ≤ s.depth) && decide (s.depth ≤ 2000))) en55 rfl (fun w hw => within_c _ _ _ w))) ?_
  refine ph_gF rfl rfl (fun hgd => by (try rw [hgd]); exact (y_not rfl)) ?_
  refine ph_y (y_pickOr rfl rfl rfl) ?_
  refine ph_y (y_move rfl) ?_
  refine ph_gF rfl rfl (fun hgd => by (try rw [hgd]); exact (y_fieldAddr fo34_3 rfl)) ?_
  refine ph_gF rfl rfl (fun hgd => by (try rw [hgd]); exact (y_loadB1 1 tf3 rfl rfl rfl)) ?_
  refine ph_gF rfl rfl (fun hgd => by (try rw [hgd]); exact (y_call (v := .bool (decide (1 ≤ s.density) && decide (s.density ≤ 10000))) en55 rfl (fun w hw => within_c _ _ _ w))) ?_
  refine ph_gF rfl rfl (fun hgd => by (try rw [hgd]); exact (y_not rfl)) ?_
  refine ph_y (y_pickOr rfl rfl rfl) ?_
  refine ph_y (y_move rfl) ?_
  refine ph_gF rfl rfl (fun hgd => by (try rw [hgd]); exact (y_move rfl)) ?_
  refine ph_gF rfl rfl (fun hgd => by (try rw [hgd]); exact (y_not rfl)) ?_
  refine ph_y (y_pickOr rfl rfl rfl) ?_
  refine gk_nil (gk_sub (T' := [(2,_), (45,_)]) ⟨rfl, rfl, trivial⟩ ?_)
  refine gk_cond rfl (fun hc45 => ?_) (fun hc45 => ?_)
  · skip
    refine gk_seq ?_
    refine gk_region ?_
    refine gk_y rfl rfl (y_assign rfl) ?_
    refine gk_nil (gk_sub (T' := [(2,_)]) ⟨rfl, trivial⟩ ?_)
    refine gk_ret ?_
    refine gk_pure (rv_one rfl (r1_tmp rfl)) ?_
    exact congrArg _ (if_pos hc45).symm
  · skip
    refine gk_skip ?_
    refine gk_seq ?_
    refine gk_region ?_
    refine gk_y rfl rfl (y_assign rfl) ?_
    refine gk_nil (gk_sub (T' := [(2,_)]) ⟨rfl, trivial⟩ ?_)
    refine gk_ret ?_
    refine gk_pure (rv_one rfl (r1_tmp rfl)) ?_
    exact congrArg _ (if_neg (by rw [show badB s = false from hc45]; exact Bool.false_ne_true)).symm

end Go.Proofs.YtahahmelnaphjaaDoor
