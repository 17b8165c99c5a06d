/- What the proof of the root text leans on, part 3: the layer, plain facts and walks. No statement of the seat is proved in this text. -/
import Derived.Test.YtmpaebfjnjmmlaaGreatDoorRd2
namespace Go.Proofs.YtmpaebfjnjmmlaaGreatDoor
open Go.K Go.Stn Go.RowKit
theorem tf135 : TF Tryz.prog 135 false 1 (.nilFunc) := ⟨by kernel_rfl, by kernel_rfl⟩
theorem en53 : En Tryz.prog 53 := en_of Tryz.func53 (by kernel_rfl) (by kernel_rfl)
theorem en59 : En Tryz.prog 59 := en_of Tryz.func59 (by kernel_rfl) (by kernel_rfl)
theorem en60 : En Tryz.prog 60 := en_of Tryz.func60 (by kernel_rfl) (by kernel_rfl)
theorem en61 : En Tryz.prog 61 := en_of Tryz.func61 (by kernel_rfl) (by kernel_rfl)
theorem en89 : En Tryz.prog 89 := en_of Tryz.func89 (by kernel_rfl) (by kernel_rfl)
theorem en96 : En Tryz.prog 96 := en_of Tryz.func96 (by kernel_rfl) (by kernel_rfl)
theorem en97 : En Tryz.prog 97 := en_of Tryz.func97 (by kernel_rfl) (by kernel_rfl)
theorem en126 : En Tryz.prog 126 := en_of Tryz.func126 (by kernel_rfl) (by kernel_rfl)
set_option maxRecDepth 100000 in
set_option maxHeartbeats 1000000 in
theorem common_c (a b : Int) (w : World) (ha : -1000000 ≤ a) (ha2 : a ≤ 1000000) (hb : -1000000 ≤ b) (hb2 : b ≤ 1000000) :
    Calls Tryz.prog 126 #[.int .i64 a, .int .i64 b] w (Pure (.int .i64 ((Nat.gcd a.natAbs b.natAbs : Nat) : Int)) w) := by
  refine calls_of_gk (vs := [_, _]) Tryz.func126 rfl rfl (Nat.le_of_ble_eq_true rfl) ?_
  refine gk_seq ?_
  refine gk_region ?_
  refine gk_y rfl rfl (y_assign rfl) ?_
  refine gk_nil (gk_sub (T' := [(0,_), (1,_), (4,_)]) ⟨rfl, rfl, rfl, trivial⟩ ?_)
  refine gk_seq ?_
  refine gk_region ?_
  refine gk_y rfl rfl (y_move rfl) ?_
  refine gk_y rfl rfl (y_move rfl) ?_
  refine gk_y rfl rfl (y_negI rfl (by omega) (by omega)) ?_
  refine gk_y rfl rfl (y_max rfl rfl) ?_
  refine gk_y rfl rfl (y_move rfl) ?_
  refine gk_y rfl rfl (y_move rfl) ?_
  refine gk_y rfl rfl (y_negI rfl (by omega) (by omega)) ?_
  refine gk_y rfl rfl (y_max rfl rfl) ?_
  refine gk_y rfl rfl (y_assign rfl) ?_
  refine gk_y rfl rfl (y_assign rfl) ?_
  refine gk_nil (gk_sub (T' := [(0,_), (1,_), (4,_)]) ⟨rfl, rfl, rfl, trivial⟩ ?_)
  refine gk_seq ?_
  refine gk_block ?_
  refine gk_loop (X := Int × Int) (fun ⟨x, y⟩ => [(0, .int .i64 x), (1, .int .i64 y), (4, .int .i64 0)]) (fun ⟨x, y⟩ => []) (fun ⟨x, y⟩ => (0 ≤ x ∧ 0 ≤ y ∧ Nat.gcd x.toNat y.toNat = Nat.gcd a.natAbs b.natAbs)) (fun ⟨x, y⟩ => y.toNat) (max a (-a), max b (-b)) ⟨rfl, rfl, rfl, trivial⟩ rfl ?_ ?_
  · exact ⟨by omega, by omega, by rw [show (max a (-a)).toNat = a.natAbs from by omega, show (max b (-b)).toNat = b.natAbs from by omega]⟩
  · rintro ⟨x, y⟩ hI
    obtain ⟨g0, g1, g2⟩ := hI
    refine gk_seq ?_
    refine gk_seq ?_
    refine gk_region ?_
    refine gk_y rfl rfl (y_move rfl) ?_
    refine gk_y rfl rfl (y_neq rfl rfl) ?_
    refine gk_nil (gk_sub (T' := [(0,_), (1,_), (4,_), (14,_)]) ⟨rfl, rfl, rfl, rfl, trivial⟩ ?_)
    refine gk_cond rfl (fun hc14 => ?_) (fun hc14 => ?_)
    · simp only [Bool.not_eq_true', decide_eq_false_iff_not] at hc14
      refine gk_skip ?_
      refine gk_block ?_
      refine gk_any 6 (fun _ => mixed) (by kernel_rfl) ?_
      refine ph_y (y_move rfl) ?_
      refine ph_y (y_move rfl) ?_
      refine ph_y (y_move rfl) ?_
      refine ph_y (y_rem rfl rfl (by omega)) ?_
      refine ph_y (y_assign rfl) ?_
      refine ph_y (y_assign rfl) ?_
      refine gk_nil (gk_sub (T' := [(0,_), (1,_), (4,_)]) ⟨rfl, rfl, rfl, trivial⟩ ?_)
      exact gk_next (_, _) ⟨rfl, rfl, rfl, trivial⟩ rfl ⟨g1, Int.tmod_nonneg _ g0, (gcd_step g0 g1).trans g2⟩ (by have := Int.tmod_lt_of_pos x (show 0 < y by omega); have := Int.tmod_nonneg y g0; simp only []; omega)
    · simp only [Bool.not_eq_false', decide_eq_true_eq] at hc14
      refine gk_exit rfl ?_
      refine gk_seq ?_
      refine gk_region ?_
      refine gk_y rfl rfl (y_move rfl) ?_
      refine gk_y rfl rfl (y_assign rfl) ?_
      refine gk_nil (gk_sub (T' := [(4,_)]) ⟨rfl, trivial⟩ ?_)
      refine gk_ret ?_
      refine gk_pure (rv_one rfl (r1_tmp rfl)) ?_
      rw [← g2, show y.toNat = 0 from by omega, Nat.gcd_zero_right]; exact congrArg _ (by omega)
set_option maxRecDepth 100000 in
set_option maxHeartbeats 1000000 in
theorem steps_c (p q : Pt) (w : World) (hp : farB p = false) (hq : farB q = false) :
    Calls Tryz.prog 97 #[.agg #[.int .i64 p.x, .int .i64 p.z], .agg #[.int .i64 q.x, .int .i64 q.z]] w (Pure (.int .i64 (stepsI p q)) w) := by
  obtain ⟨hd, d0, d1, d2, d3⟩ := near_sub hp hq
  refine calls_of_gk (vs := [_, _]) Tryz.func97 rfl rfl (Nat.le_of_ble_eq_true rfl) ?_
  refine gk_seq ?_
  refine gk_region ?_
  refine gk_yx rfl rfl (yx_box (vs := [_, _]) rfl rfl) fun b2 => ?_
  refine gk_yx rfl rfl (yx_box (vs := [_, _]) rfl rfl) fun b3 => ?_
  refine gk_y rfl rfl (y_assign rfl) ?_
  refine gk_nil (gk_sub (T' := [(2,_), (3,_), (4,_)]) ⟨rfl, rfl, rfl, trivial⟩ ?_)
  refine gk_seq ?_
  refine gk_region ?_
  refine gk_y rfl rfl (y_loadBA 0 tf50 rfl rfl (vs := [_, _]) rfl rfl) ?_
  refine gk_y rfl rfl (y_loadBA 1 tf50 rfl rfl (vs := [_, _]) rfl rfl) ?_
  refine gk_y rfl rfl (y_call en84 rfl (fun w hw => sub_c ⟨_, _⟩ ⟨_, _⟩ w)) ?_
  refine gk_yx rfl rfl (yx_alloc tf50 (zs := [_, _]) rfl) fun b5 => ?_
  refine gk_storeV 0 tf50 rfl rfl (vs := [_, _]) rfl rfl rfl rfl rfl ?_
  refine gk_nil (gk_sub (T' := [(4,_), (5,_)]) ⟨rfl, rfl, trivial⟩ ?_)
  refine gk_seq ?_
  refine gk_region ?_
  refine gk_y rfl rfl (y_fieldAddr fo50_0 rfl) ?_
  refine gk_y rfl rfl (y_loadB1 0 tf3 rfl rfl rfl) ?_
  refine gk_y rfl rfl (y_fieldAddr fo50_1 rfl) ?_
  refine gk_y rfl rfl (y_loadB1 0 tf3 rfl rfl rfl) ?_
  refine gk_y rfl rfl (y_call en126 rfl (fun w hw => common_c ((subW q p).x) ((subW q p).z) w (by rw [hd]; dsimp only; omega) (by rw [hd]; dsimp only; omega) (by rw [hd]; dsimp only; omega) (by rw [hd]; dsimp only; omega))) ?_
  refine gk_y rfl rfl (y_assign rfl) ?_
  refine gk_nil (gk_sub (T' := [(4,_)]) ⟨rfl, trivial⟩ ?_)
  refine gk_ret ?_
  refine gk_pure (rv_one rfl (r1_tmp rfl)) ?_
  rw [hd]; rfl
set_option maxRecDepth 100000 in
set_option maxHeartbeats 1000000 in
theorem border_c (a : Option Addr) (cap : Nat) (s : Stn) (w : World)  :
    Calls Tryz.prog 61 #[.agg #[.string s.name, .slice a s.shape.length cap, .int .i64 s.depth, .int .i64 s.density, .int .i64 s.grain.x, .int .i64 s.grain.z]] w (Gives (fun b : Nat => .func (.func 96) #[] #[.pointer (some ⟨b, 0, none⟩)]) (fun b => Box b [.string s.name, .slice a s.shape.length cap, .int .i64 s.depth, .int .i64 s.density, .int .i64 s.grain.x, .int .i64 s.grain.z] 52) w) := by
  refine calls_of_gk (vs := [_]) Tryz.func61 rfl rfl (Nat.le_of_ble_eq_true rfl) ?_
  refine gk_seq ?_
  refine gk_region ?_
  refine gk_yx rfl rfl (yx_box (vs := [_, _, _, _, _, _]) rfl rfl) fun b1 => ?_
  refine gk_y rfl rfl (y_assign rfl) ?_
  refine gk_nil (gk_sub (T' := [(1,_), (2,_)]) ⟨rfl, rfl, trivial⟩ ?_)
  refine gk_seq ?_
  refine gk_region ?_
  refine gk_y rfl rfl (y_makeFunc («as» := []) (bs := [_]) rfl rfl) ?_
  refine gk_y rfl rfl (y_assign rfl) ?_
  refine gk_nil (gk_sub (T' := [(2,_)]) ⟨rfl, trivial⟩ ?_)
  refine gk_ret ?_
  refine gk_gives b1 0 (rv_one rfl (r1_tmp rfl)) ?_ rfl
  rfl
set_option maxRecDepth 100000 in
set_option maxHeartbeats 1000000 in
theorem border1_c (a : Option Addr) (cap : Nat) (s : Stn) (b : Nat) (hs : Small s.shape.length) (hnear : Near s.shape) :
    SeqC Tryz.prog 96 [.pointer (some ⟨b, 0, none⟩)] (borderVs s.shape) (fun w => Has w (Box b [.string s.name, .slice a s.shape.length cap, .int .i64 s.depth, .int .i64 s.density, .int .i64 s.grain.x, .int .i64 s.grain.z] 52) ∧ Has w (Pts a s.shape)) := by
  intro X J Rl D y w B x0 hB hA h0 hM hy
  refine calls_of_gkB hB hA (vs := [_, _]) Tryz.func96 rfl rfl (Nat.le_of_ble_eq_true rfl) ?_
  have hmem : ∀ {cz : Cx} {Hz : List Res} {xz : X} {pz : Nat} {w' : World}, Inside (fun k => k < w.heap.size ∧ ¬ B k) w cz → Hz[pz]? = some (J xz) → Hp cz.U cz.w0 Hz w' → (Has w' (Box b [.string s.name, .slice a s.shape.length cap, .int .i64 s.depth, .int .i64 s.density, .int .i64 s.grain.x, .int .i64 s.grain.z] 52) ∧ Has w' (Pts a s.shape)) := fun hin hp hw => by
    obtain ⟨B', q1, q2, q3, q4⟩ := own_of_in hin hp hw
    exact hM _ _ B' q4 q1 q2 q3
  have ins0 := insideB Tryz.prog Tryz.f96.ntmps w B
  refine gk_seq ?_
  refine gk_region ?_
  refine gk_yx rfl rfl (yx_box (vs := [_]) rfl rfl) fun b2 => ?_
  refine gk_nil (gk_sub (T' := [(1,_), (2,_)]) ⟨rfl, rfl, trivial⟩ ?_)
  refine gk_seq ?_
  refine gk_region ?_
  refine gk_y rfl rfl (y_fieldAddr fo52_1 rfl) ?_
  refine gk_y rfl rfl (y_load1 tf49 rfl (fun _ hw => has_box_cell (hmem ins0 (pz := 1) rfl hw).1 rfl)) ?_
  refine gk_yx rfl rfl (yx_call en83 rfl (fun w hw => edges_c _ _ s.shape w)) fun p10 => ?_
  refine gk_nil (gk_sub (T' := [(2,_), (10,_)]) ⟨rfl, rfl, trivial⟩ ?_)
  refine gk_block ?_
  refine gk_sub (T' := [(2,_), (10,_)]) ⟨rfl, rfl, trivial⟩ ?_
  refine gk_rangeFunc (X := X) (fun x => [Box p10 [.slice a s.shape.length cap] 49, Box b2 [.func (.yield y) #[] #[]] 135, J x]) (fun n x => Rl (preN s.shape n) x) (fun x => D x) [] x0 rfl en123 rfl rfl (by rw [preN_zero]; exact h0) (edges1_c _ _ s.shape _ (by assumption)) (fun x w hw => ⟨hw.has (p := 0) rfl, (hmem ins0 (pz := 2) rfl hw).2⟩) (edges_two _) rfl ?_ ?_ ?_ ?_
  · rintro R1 R2 rl U' w' n x args hget hR hrd hins hbeg
    obtain ⟨e, he, rfl⟩ := edge_inv hget
    refine gk_sub (T' := [(2,_), (11,_), (12,_)]) ⟨rfl, rfl, rfl, trivial⟩ ?_
    refine gk_seq ?_
    refine gk_region ?_
    refine gk_yx rfl rfl (yx_alloc tf50 (zs := [_, _]) rfl) fun b3 => ?_
    refine gk_storeV 0 tf50 rfl rfl (vs := [_, _]) rfl rfl rfl rfl rfl ?_
    refine gk_nil (gk_sub (T' := [(2,_), (3,_), (12,_)]) ⟨rfl, rfl, rfl, trivial⟩ ?_)
    refine gk_region ?_
    refine gk_yx rfl rfl (yx_alloc tf50 (zs := [_, _]) rfl) fun b4 => ?_
    refine gk_storeV 0 tf50 rfl rfl (vs := [_, _]) rfl rfl rfl rfl rfl ?_
    refine gk_nil (gk_sub (T' := [(2,_), (3,_), (4,_)]) ⟨rfl, rfl, rfl, trivial⟩ ?_)
    refine gk_front 2 rfl ?_
    refine hbeg _ _ _ ?_
    refine gk_block ?_
    refine gk_seq ?_
    refine gk_region ?_
    refine gk_y rfl rfl (y_loadBA 2 tf50 rfl rfl (vs := [_, _]) rfl rfl) ?_
    refine gk_y rfl rfl (y_loadBA 1 tf50 rfl rfl (vs := [_, _]) rfl rfl) ?_
    refine gk_y rfl rfl (y_call en97 rfl (fun w hw => steps_c ⟨_, _⟩ ⟨_, _⟩ w (near_edge hnear he).1 (near_edge hnear he).2)) ?_
    refine gk_y rfl rfl (y_assign rfl) ?_
    refine gk_nil (gk_sub (T' := [(2,_), (3,_), (4,_), (5,_)]) ⟨rfl, rfl, rfl, rfl, trivial⟩ ?_)
    refine gk_seq ?_
    refine gk_region ?_
    refine gk_y rfl rfl (y_loadBA 1 tf50 rfl rfl (vs := [_, _]) rfl rfl) ?_
    refine gk_y rfl rfl (y_loadBA 2 tf50 rfl rfl (vs := [_, _]) rfl rfl) ?_
    refine gk_y rfl rfl (y_call en84 rfl (fun w hw => sub_c ⟨_, _⟩ ⟨_, _⟩ w)) ?_
    refine gk_yx rfl rfl (yx_alloc tf50 (zs := [_, _]) rfl) fun b6 => ?_
    refine gk_storeV 0 tf50 rfl rfl (vs := [_, _]) rfl rfl rfl rfl rfl ?_
    refine gk_nil (gk_sub (T' := [(2,_), (3,_), (5,_), (6,_)]) ⟨rfl, rfl, rfl, rfl, trivial⟩ ?_)
    refine gk_seq ?_
    refine gk_region ?_
    refine gk_y rfl rfl (y_move rfl) ?_
    refine gk_y rfl rfl (y_move rfl) ?_
    refine gk_nil (gk_sub (T' := [(2,_), (3,_), (5,_), (6,_), (19,_), (20,_)]) ⟨rfl, rfl, rfl, rfl, rfl, rfl, trivial⟩ ?_)
    refine gk_block ?_
    refine gk_loop (X := Int × X) (fun ⟨k, x2⟩ => [(2, .pointer (some ⟨b2, 0, none⟩)), (3, .pointer (some ⟨b3, 0, none⟩)), (5, .int .i64 (stepsI e.1 e.2)), (6, .pointer (some ⟨b6, 0, none⟩)), (19, .int .i64 (stepsI e.1 e.2)), (20, .int .i64 k)]) (fun ⟨k, x2⟩ => [Box b6 [.int .i64 ((subW e.2 e.1).x), .int .i64 ((subW e.2 e.1).z)] 50, R2, Box b4 [.int .i64 e.2.x, .int .i64 e.2.z] 50, Box b3 [.int .i64 e.1.x, .int .i64 e.1.z] 50, Box p10 [.slice a s.shape.length cap] 49, Box b2 [.func (.yield y) #[] #[]] 135, J x2]) (fun ⟨k, x2⟩ => (0 ≤ k ∧ k ≤ stepsI e.1 e.2 ∧ Rl (preN s.shape n + k.toNat) x2)) (fun ⟨k, x2⟩ => (stepsI e.1 e.2 - k).toNat) (0, x) ⟨rfl, rfl, rfl, rfl, rfl, rfl, trivial⟩ rfl ?_ ?_
    · exact ⟨by omega, by unfold stepsI; omega, hR⟩
    · rintro ⟨k, x2⟩ hI
      obtain ⟨g0, g1, g2⟩ := hI
      have hst := steps_le (near_edge hnear he).1 (near_edge hnear he).2
      have hsi : stepsI e.1 e.2 = (stepsN e.1 e.2 : Int) := rfl
      refine gk_seq ?_
      refine gk_region ?_
      refine gk_y rfl rfl (y_lss rfl rfl) ?_
      refine gk_nil (gk_sub (T' := [(2,_), (3,_), (5,_), (6,_), (19,_), (20,_), (21,_)]) ⟨rfl, rfl, rfl, rfl, rfl, rfl, rfl, trivial⟩ ?_)
      refine gk_seq ?_
      refine gk_cond rfl (fun hc21 => ?_) (fun hc21 => ?_)
      · simp only [decide_eq_true_eq] at hc21
        refine gk_skip ?_
        refine gk_seq ?_
        refine gk_block ?_
        refine gk_seq ?_
        refine gk_region ?_
        refine gk_y rfl rfl (y_move rfl) ?_
        refine gk_y rfl rfl (y_assign rfl) ?_
        refine gk_nil (gk_sub (T' := [(2,_), (3,_), (5,_), (6,_), (7,_), (19,_), (20,_)]) ⟨rfl, rfl, rfl, rfl, rfl, rfl, rfl, trivial⟩ ?_)
        refine gk_seq ?_
        refine gk_any 20 (fun _ => mixed) (by kernel_rfl) ?_
        refine ph_y (y_loadB1 5 tf135 rfl rfl rfl) ?_
        refine ph_y (y_fieldAddr fo50_0 rfl) ?_
        refine ph_y (y_loadB1 3 tf3 rfl rfl rfl) ?_
        refine ph_y (y_fieldAddr fo50_0 rfl) ?_
        refine ph_y (y_loadB1 0 tf3 rfl rfl rfl) ?_
        refine ph_y (y_move rfl) ?_
        refine ph_y (y_quo rfl rfl (by omega)) ?_
        refine ph_y (y_move rfl) ?_
        refine ph_y (y_mul rfl rfl) ?_
        refine ph_y (y_add rfl rfl) ?_
        refine ph_y (y_fieldAddr fo50_1 rfl) ?_
        refine ph_y (y_loadB1 3 tf3 rfl rfl rfl) ?_
        refine ph_y (y_fieldAddr fo50_1 rfl) ?_
        refine ph_y (y_loadB1 0 tf3 rfl rfl rfl) ?_
        refine ph_y (y_move rfl) ?_
        refine ph_y (y_quo rfl rfl (by omega)) ?_
        refine ph_y (y_move rfl) ?_
        refine ph_y (y_mul rfl rfl) ?_
        refine ph_y (y_add rfl rfl) ?_
        refine ph_y (y_buildL rfl (bd50_0i_1i _ _)) ?_
        refine gk_sub (T' := [(2,_), (3,_), (5,_), (6,_), (19,_), (20,_), (23,_), (42,_)]) ⟨rfl, rfl, rfl, rfl, rfl, rfl, rfl, rfl, trivial⟩ ?_
        refine gk_yield 6 hins rfl rfl rfl rfl (hy _ _ _ (border_get he g0 (by omega)) g2) fun b43 x43 hp43 => ?_
        refine gk_y rfl rfl (y_not rfl) ?_
        refine gk_nil (gk_sub (T' := [(2,_), (3,_), (5,_), (6,_), (19,_), (20,_), (44,_)]) ⟨rfl, rfl, rfl, rfl, rfl, rfl, rfl, trivial⟩ ?_)
        refine gk_cond rfl (fun hc44 => ?_) (fun hc44 => ?_)
        · skip
          refine gk_ret ?_
          refine gk_dropAt 0 rfl ?_
          refine gk_dropAt 1 rfl ?_
          refine gk_dropAt 1 rfl ?_
          exact gk_joined x43 trivial rfl (by have := hp43; rwa [show b43 = false from by simpa using hc44, if_neg Bool.false_ne_true] at this)
        · skip
          refine gk_skip ?_
          refine gk_region ?_
          refine gk_y rfl rfl (y_addI rfl rfl (by omega) (by omega)) ?_
          refine gk_y rfl rfl (y_move rfl) ?_
          refine gk_nil (gk_sub (T' := [(2,_), (3,_), (5,_), (6,_), (19,_), (20,_)]) ⟨rfl, rfl, rfl, rfl, rfl, rfl, trivial⟩ ?_)
          exact gk_next (k + 1, x43) ⟨rfl, rfl, rfl, rfl, rfl, rfl, trivial⟩ rfl ⟨by omega, by omega, by have := hp43; rw [show b43 = true from by simpa using hc44, if_pos rfl] at this; rwa [show preN s.shape n + (k + 1).toNat = preN s.shape n + k.toNat + 1 from by omega]⟩ (by simp only []; omega)
      · simp only [decide_eq_false_iff_not] at hc21
        refine gk_exit rfl ?_
        refine gk_dropAt 0 rfl ?_
        refine gk_dropAt 1 rfl ?_
        refine gk_dropAt 1 rfl ?_
        exact gk_joined x2 trivial rfl (by rw [preN_succ he]; rwa [show k.toNat = stepsN e.1 e.2 from by unfold stepsI at *; omega] at g2)
  · intro Dm x hR
    refine gk_unmark 0 rfl ?_
    refine gk_turns x 2 (rv_none rfl) rfl rfl (.inl (by rw [← preN_all]; exact hR))
  · rintro Dm x hD
    refine gk_unmark 0 rfl ?_
    refine gk_turns x 2 (rv_none rfl) rfl rfl (.inr hD)
  · exact fun _ _ _ _ h => absurd h (by simp)
set_option maxRecDepth 100000 in
set_option maxHeartbeats 1000000 in
theorem appendseq_c (xs : List Pt) (gg : FuncId) (gcap : List Value) (w : World) (hs : Small xs.length) (M : World → Prop) (hM : ∀ w', Ext w w' → M w') (hen : En Tryz.prog gg) (hseq : SeqC Tryz.prog gg gcap (xs.map onePt) M) :
    Calls Tryz.prog 89 #[.slice none 0 0, .func (.func gg) #[] gcap.toArray] w (Gives (fun z : Option Addr × Nat => .slice z.1 xs.length z.2) (fun z => Row z.1 2 z.2 50 encPt xs) w) := by
  refine calls_of_gk (vs := [_, _]) Tryz.func89 rfl rfl (Nat.le_of_ble_eq_true rfl) ?_
  refine gk_seq ?_
  refine gk_region ?_
  refine gk_yx rfl rfl (yx_box (vs := [_]) rfl rfl) fun b2 => ?_
  refine gk_y rfl rfl (y_assign rfl) ?_
  refine gk_nil (gk_sub (T' := [(1,_), (2,_), (4,_)]) ⟨rfl, rfl, rfl, trivial⟩ ?_)
  refine gk_seq ?_
  refine gk_seq ?_
  refine gk_region ?_
  refine gk_y rfl rfl (y_move rfl) ?_
  refine gk_nil (gk_sub (T' := [(2,_), (4,_), (6,_)]) ⟨rfl, rfl, rfl, trivial⟩ ?_)
  refine gk_block ?_
  refine gk_newNil 50 encPt 2 ?_
  refine gk_sub (T' := [(2,_), (4,_), (6,_)]) ⟨rfl, rfl, rfl, trivial⟩ ?_
  refine gk_rangeFunc (X := Option Addr × Nat × List Pt) (fun ⟨b, bc, m⟩ => [Row b 2 bc 50 encPt m, Box b2 [.slice b m.length bc] 49]) (fun n ⟨b, bc, m⟩ => m = xs.take n) (fun ⟨b, bc, m⟩ => False) [] (none, 0, []) rfl hen rfl rfl rfl hseq (fun ⟨b, bc, m⟩ w hw => hM _ hw.base.ext0) (ones_one _) rfl ?_ ?_ ?_ ?_
  · rintro R1 R2 rl U' w' n ⟨b, bc, m⟩ args hget hR hrd hins hbeg
    obtain ⟨p, hp, rfl⟩ := ones_inv hget
    have hlen : m.length ≤ xs.length := by rw [hR, List.length_take]; omega
    refine gk_sub (T' := [(2,_), (7,_)]) ⟨rfl, rfl, trivial⟩ ?_
    refine gk_region ?_
    refine gk_yx rfl rfl (yx_alloc tf50 (zs := [_, _]) rfl) fun b5 => ?_
    refine gk_storeV 0 tf50 rfl rfl (vs := [_, _]) rfl rfl rfl rfl rfl ?_
    refine gk_nil (gk_sub (T' := [(2,_), (5,_)]) ⟨rfl, rfl, trivial⟩ ?_)
    refine gk_front 1 rfl ?_
    refine hbeg _ _ _ ?_
    refine gk_block ?_
    refine gk_region ?_
    refine gk_y rfl rfl (y_loadB1 3 tf49 rfl rfl rfl) ?_
    refine gk_y rfl rfl (y_loadBA 1 tf50 rfl rfl (vs := [_, _]) rfl rfl) ?_
    refine gk_yx rfl rfl (yx_buildSlice rfl (bs49_1 _ _) encPt_ok rfl) fun b10 => ?_
    refine gk_append (m := [⟨p.x, p.z⟩]) 3 af49 encPt_ok rfl rfl rfl rfl (fun _ hw => (has_row encPt_ok (hw.has (p := 0) rfl))) (by first | omega | (simp only [List.length_cons, List.length_nil]; omega)) (by first | (unfold maxLen; omega) | (simp only [List.length_cons, List.length_nil, maxLen]; omega)) fun a11 c11 => ?_
    refine gk_storeV 4 tf49 rfl rfl (vs := [_]) rfl rfl rfl rfl rfl ?_
    refine gk_nil (gk_sub (T' := []) trivial ?_)
    refine gk_dropAt 0 rfl ?_
    refine gk_dropAt 1 rfl ?_
    exact gk_joined (a11, c11, _) trivial rfl (by rw [take_snoc hp, ← hR])
  · rintro Dm ⟨b, bc, m⟩ hR
    obtain rfl : m = xs := by rw [hR]; simp
    refine gk_seq ?_
    refine gk_region ?_
    refine gk_y rfl rfl (y_loadB1 2 tf49 rfl rfl rfl) ?_
    refine gk_y rfl rfl (y_assign rfl) ?_
    refine gk_nil (gk_sub (T' := [(4,_)]) ⟨rfl, trivial⟩ ?_)
    refine gk_ret ?_
    refine gk_unmark 0 rfl ?_
    refine gk_gives (b, bc) 0 (rv_one rfl (r1_tmp rfl)) ?_ rfl
    rfl
  · exact fun _ _ h => h.elim
  · exact fun _ _ _ _ h => absurd h (by simp)
set_option maxRecDepth 100000 in
set_option maxHeartbeats 1000000 in
theorem collect_c (xs : List Pt) (gg : FuncId) (gcap : List Value) (w : World) (hs : Small xs.length) (M : World → Prop) (hM : ∀ w', Ext w w' → M w') (hen : En Tryz.prog gg) (hseq : SeqC Tryz.prog gg gcap (xs.map onePt) M) :
    Calls Tryz.prog 53 #[.func (.func gg) #[] gcap.toArray] w (Gives (fun z : Option Addr × Nat => .slice z.1 xs.length z.2) (fun z => Row z.1 2 z.2 50 encPt xs) w) := by
  refine calls_of_gk (vs := [_]) Tryz.func53 rfl rfl (Nat.le_of_ble_eq_true rfl) ?_
  refine gk_seq ?_
  refine gk_region ?_
  refine gk_y rfl rfl (y_assign rfl) ?_
  refine gk_nil (gk_sub (T' := [(0,_), (2,_)]) ⟨rfl, rfl, trivial⟩ ?_)
  refine gk_seq ?_
  refine gk_region ?_
  refine gk_y rfl rfl (y_move rfl) ?_
  refine gk_yx rfl rfl (yx_call en89 rfl (fun w hw => appendseq_c xs _ _ w (by assumption) M (fun w' hx => hM w' (hw.base.ext0.trans hx)) hen hseq)) fun p4 => ?_
  refine gk_y rfl rfl (y_assign rfl) ?_
  refine gk_nil (gk_sub (T' := [(2,_)]) ⟨rfl, trivial⟩ ?_)
  refine gk_ret ?_
  refine gk_gives p4 0 (rv_one rfl (r1_tmp rfl)) ?_ rfl
  rfl
set_option maxRecDepth 100000 in
set_option maxHeartbeats 1000000 in
theorem Border1_c (a : Option Addr) (cap : Nat) (s : Stn) (b : Nat) (w : World) (hb : Has w (Box b [.string s.name, .slice a s.shape.length cap, .int .i64 s.depth, .int .i64 s.density, .int .i64 s.grain.x, .int .i64 s.grain.z] 52)) (hl : Has w (Pts a s.shape)) (hv : checkI s = 0) :
    Calls Tryz.prog 60 #[.pointer (some ⟨b, 0, none⟩)] w (Gives (fun z : Option Addr × Nat => .slice z.1 (borderL s.shape).length z.2) (fun z => Row z.1 2 z.2 50 encPt (borderL s.shape)) w) := by
  refine calls_of_gk (vs := [_]) Tryz.func60 rfl rfl (Nat.le_of_ble_eq_true rfl) ?_
  refine gk_seq ?_
  refine gk_region ?_
  refine gk_y rfl rfl (y_assign rfl) ?_
  refine gk_nil (gk_sub (T' := [(0,_), (1,_)]) ⟨rfl, rfl, trivial⟩ ?_)
  refine gk_seq ?_
  refine gk_region ?_
  refine gk_y rfl rfl (y_loadA tf52 rfl rfl (fun _ hw => has_box_cells (o := 0) (k := 6) (Rd.has (Has.rd hb) hw) (vs := [_, _, _, _, _, _]) rfl)) ?_
  refine gk_yx rfl rfl (yx_call en61 rfl (fun w hw => border_c _ _ s w)) fun p3 => ?_
  refine gk_yx rfl rfl (yx_call en53 rfl (fun w hw => collect_c (borderL s.shape) _ [_] w (by have := border_len (check_near hv); have := check_len hv; unfold Small; omega) (fun w' => Has w' (Box p3 [.string s.name, .slice a s.shape.length cap, .int .i64 s.depth, .int .i64 s.density, .int .i64 s.grain.x, .int .i64 s.grain.z] 52) ∧ Has w' (Pts a s.shape)) (fun w' hx => ⟨Has.ext (hw.has (p := 0) rfl) hx, Has.ext (Rd.has (Has.rd hl) hw) hx⟩) en96 (border1_c _ _ s p3 (by have := check_len hv; unfold Small; omega) (check_near hv)))) fun p4 => ?_
  refine gk_y rfl rfl (y_assign rfl) ?_
  refine gk_nil (gk_sub (T' := [(1,_)]) ⟨rfl, trivial⟩ ?_)
  refine gk_ret ?_
  refine gk_gives p4 0 (rv_one rfl (r1_tmp rfl)) ?_ rfl
  rfl
set_option maxRecDepth 100000 in
set_option maxHeartbeats 1000000 in
theorem askL_c (a : Option Addr) (cap : Nat) (s : Stn) (gg : FuncId) (gfs gcap : List Value) (r : List Pt) (w : World) (hl : Has w (Pts a s.shape)) (hs : Small s.shape.length) (M : World → Prop) (hM : ∀ w', Ext w w' → M w') (hen : En Tryz.prog gg) (hg : checkI s = 0 → ∀ w', M w' → Calls Tryz.prog gg (gfs ++ [] ++ gcap).toArray w' (Gives (fun z : Option Addr × Nat => .slice z.1 r.length z.2) (fun z => Row z.1 2 z.2 50 encPt r) w')) :
    Calls Tryz.prog 59 #[.agg #[.string s.name, .slice a s.shape.length cap, .int .i64 s.depth, .int .i64 s.density, .int .i64 s.grain.x, .int .i64 s.grain.z], .func (.func gg) gfs.toArray gcap.toArray] w (Gives (fun z : Option Addr × Nat => .tuple #[.slice z.1 (askL s r).length z.2, .int .i64 (checkI s)]) (fun z => Row z.1 2 z.2 50 encPt (askL s r)) w) := by
  refine calls_of_gk (vs := [_, _]) Tryz.func59 rfl rfl (Nat.le_of_ble_eq_true rfl) ?_
  refine gk_seq ?_
  refine gk_region ?_
  refine gk_yx rfl rfl (yx_box (vs := [_, _, _, _, _, _]) rfl rfl) fun b2 => ?_
  refine gk_y rfl rfl (y_assign rfl) ?_
  refine gk_y rfl rfl (y_assign rfl) ?_
  refine gk_nil (gk_sub (T' := [(1,_), (2,_), (4,_), (5,_)]) ⟨rfl, rfl, rfl, rfl, trivial⟩ ?_)
  refine gk_seq ?_
  refine gk_seq ?_
  refine gk_region ?_
  refine gk_y rfl rfl (y_loadBA 0 tf52 rfl rfl (vs := [_, _, _, _, _, _]) rfl rfl) ?_
  refine gk_y rfl rfl (y_call en38 rfl (fun w hw => check_c _ _ s w (Rd.has (Has.rd hl) hw) (by assumption))) ?_
  refine gk_y rfl rfl (y_assign rfl) ?_
  refine gk_nil (gk_sub (T' := [(1,_), (4,_), (5,_), (6,_)]) ⟨rfl, rfl, rfl, rfl, trivial⟩ ?_)
  refine gk_seq ?_
  refine gk_region ?_
  refine gk_y rfl rfl (y_move rfl) ?_
  refine gk_y rfl rfl (y_neq rfl rfl) ?_
  refine gk_nil (gk_sub (T' := [(1,_), (4,_), (5,_), (6,_), (10,_)]) ⟨rfl, rfl, rfl, rfl, rfl, trivial⟩ ?_)
  refine gk_cond rfl (fun hc10 => ?_) (fun hc10 => ?_)
  · have hk : ¬ checkI s = 0 := by simpa using hc10
    refine gk_newNil 50 encPt 2 ?_
    refine gk_seq ?_
    refine gk_region ?_
    refine gk_y rfl rfl (y_move rfl) ?_
    refine gk_y rfl rfl (y_move rfl) ?_
    refine gk_y rfl rfl (y_assign rfl) ?_
    refine gk_y rfl rfl (y_assign rfl) ?_
    refine gk_nil (gk_sub (T' := [(1,_), (4,_), (5,_)]) ⟨rfl, rfl, rfl, trivial⟩ ?_)
    refine gk_ret ?_
    refine gk_gives (none, 0) 0 (rv_two rfl (r1_tmp rfl) (r1_tmp rfl)) ?_ (by simp only [askL, if_neg hk]; rfl)
    simp only [askL, if_neg hk]; rfl
  · have hk : checkI s = 0 := by simpa using hc10
    refine gk_skip ?_
    refine gk_seq ?_
    refine gk_region ?_
    refine gk_y rfl rfl (y_move rfl) ?_
    refine gk_yx rfl rfl (yx_callV (fs := gfs) (cap := gcap) hen rfl rfl (fun w hw => hg hk w (hM _ hw.base.ext0))) fun p14 => ?_
    refine gk_y rfl rfl (y_assign rfl) ?_
    refine gk_y rfl rfl (y_assign rfl) ?_
    refine gk_nil (gk_sub (T' := [(4,_), (5,_)]) ⟨rfl, rfl, trivial⟩ ?_)
    refine gk_ret ?_
    refine gk_gives p14 0 (rv_two rfl (r1_tmp rfl) (r1_tmp rfl)) ?_ (by simp only [askL, if_pos hk]; rfl)
    rw [hk]; simp only [askL, if_pos hk]
set_option maxRecDepth 100000 in
set_option maxHeartbeats 1000000 in
theorem Border_c (a : Option Addr) (cap : Nat) (s : Stn) (w : World) (hl : Has w (Pts a s.shape)) (hs : Small s.shape.length) :
    Calls Tryz.prog 24 #[.agg #[.string s.name, .slice a s.shape.length cap, .int .i64 s.depth, .int .i64 s.density, .int .i64 s.grain.x, .int .i64 s.grain.z]] w (Gives (fun z : Option Addr × Nat => .tuple #[.slice z.1 (askL s (borderL s.shape)).length z.2, .int .i64 (checkI s)]) (fun z => Row z.1 2 z.2 50 encPt (askL s (borderL s.shape))) w) := by
  refine calls_of_gk (vs := [_]) Tryz.func24 rfl rfl (Nat.le_of_ble_eq_true rfl) ?_
  refine gk_seq ?_
  refine gk_region ?_
  refine gk_yx rfl rfl (yx_box (vs := [_, _, _, _, _, _]) rfl rfl) fun b1 => ?_
  refine gk_y rfl rfl (y_assign rfl) ?_
  refine gk_y rfl rfl (y_assign rfl) ?_
  refine gk_nil (gk_sub (T' := [(1,_), (2,_), (3,_)]) ⟨rfl, rfl, rfl, trivial⟩ ?_)
  refine gk_seq ?_
  refine gk_region ?_
  refine gk_y rfl rfl (y_loadBA 0 tf52 rfl rfl (vs := [_, _, _, _, _, _]) rfl rfl) ?_
  refine gk_y rfl rfl (y_makeFunc («as» := []) (bs := [_]) rfl rfl) ?_
  refine gk_yx rfl rfl (yx_call en59 rfl (fun w hw => askL_c _ _ s 60 [] [.pointer (some ⟨b1, 0, none⟩)] (borderL s.shape) w (Rd.has (Has.rd hl) hw) (by assumption) (fun w' => Has w' (Box b1 [.string s.name, .slice a s.shape.length cap, .int .i64 s.depth, .int .i64 s.density, .int .i64 s.grain.x, .int .i64 s.grain.z] 52) ∧ Has w' (Pts a s.shape)) (fun w' hx => ⟨Has.ext (hw.has (p := 0) rfl) hx, Has.ext (Rd.has (Has.rd hl) hw) hx⟩) en60 (fun hv w' hm => Border1_c _ _ s _ w' hm.1 hm.2 hv))) fun p6 => ?_
  refine gk_y rfl rfl (y_extract rfl rfl) ?_
  refine gk_y rfl rfl (y_extract rfl rfl) ?_
  refine gk_y rfl rfl (y_assign rfl) ?_
  refine gk_y rfl rfl (y_assign rfl) ?_
  refine gk_nil (gk_sub (T' := [(2,_), (3,_)]) ⟨rfl, rfl, trivial⟩ ?_)
  refine gk_ret ?_
  refine gk_gives p6 0 (rv_two rfl (r1_tmp rfl) (r1_tmp rfl)) ?_ rfl
  rfl
end Go.Proofs.YtmpaebfjnjmmlaaGreatDoor

namespace Go.Stn
open Go Go.K Go.RowKit
theorem W_in {n : Int} (h1 : -9223372036854775808 ≤ n) (h2 : n ≤ 9223372036854775807) : W n = n := wrap64_in h1 h2
theorem byteI_get {s : ByteArray} {p : Nat} (h : p < s.size) : byteI s (p : Int) = ((s.get! p).toNat : Int) := by
  unfold byteI
  have h1 : s[((p : Nat) : Int).toNat]? = some (s[p]'h) := by
    rw [show ((p : Nat) : Int).toNat = p from by omega]
    exact getElem?_pos s p h
  rw [h1]
  simp only [Option.getD_some]
  have h2 : s.get! p = s[p]'h := by
    cases s with
    | mk d =>
      simp only [ByteArray.get!]
      exact getElem!_pos d p h
  rw [h2]
theorem odd_low {n : Nat} : oddR (n : Int) = oddB (n : Int) := by
  unfold oddR oddB
  rw [Bool.eq_iff_iff]
  simp <;> omega
theorem odd_high {n : Int} (h : 128 ≤ n) : oddR n = true ∧ oddB n = true := by
  unfold oddR oddB
  simp
  omega
theorem idxRune_iff (s : ByteArray) : ∀ (m p : Nat), s.size - p = m → (0 ≤ idxRune oddR s p ↔ ∃ j, p ≤ j ∧ j < s.size ∧ oddB (byteI s (j : Nat)) = true) := by
  intro m
  induction m using Nat.strongRecOn with
  | _ m ih =>
    intro p hm
    by_cases hp : p < s.size
    · by_cases hlow : (s.get! p).toNat < 128
      · have hd := decode_low hlow
        have hb := byteI_get hp
        cases ho : oddB (byteI s (p : Int)) with
        | true =>
          rw [idxRune_hit hp (by rw [hd]; rw [hb] at ho; rw [odd_low]; exact ho)]
          exact ⟨fun _ => ⟨p, Nat.le_refl _, hp, ho⟩, fun _ => by omega⟩
        | false =>
          rw [idxRune_next hp (by rw [hd]; rw [hb] at ho; rw [odd_low]; exact ho), hd]
          rw [ih (s.size - (p + 1)) (by omega) (p + 1) rfl]
          constructor
          · rintro ⟨j, h1, h2, h3⟩; exact ⟨j, by omega, h2, h3⟩
          · rintro ⟨j, h1, h2, h3⟩
            refine ⟨j, ?_, h2, h3⟩
            by_cases hj : j = p
            · subst hj; rw [ho] at h3; cases h3
            · omega
      · have hd := decode_high hlow
        rw [idxRune_hit hp (odd_high (by omega)).1]
        refine ⟨fun _ => ⟨p, Nat.le_refl _, hp, ?_⟩, fun _ => by omega⟩
        rw [byteI_get hp]
        exact (odd_high (by omega)).2
    · rw [idxRune_end hp]
      refine ⟨fun h => by omega, ?_⟩
      rintro ⟨j, h1, h2, _⟩; omega
theorem named_eq (s : ByteArray) : namedB s = rnamedB s := by
  unfold namedB rnamedB
  have h := idxRune_iff s s.size 0 (by omega)
  have : (!decide (0 ≤ idxRune oddR s 0)) = allI s.size (fun i => !oddB (byteI s i)) := by
    rw [Bool.eq_iff_iff, allI_iff]
    simp only [Bool.not_eq_true', decide_eq_false_iff_not, h]
    constructor
    · intro hn i hi
      cases ho : oddB (byteI s (i : Int)) with
      | false => rfl
      | true => exact absurd ⟨i, Nat.zero_le _, hi, ho⟩ hn
    · rintro ha ⟨j, _, h2, h3⟩
      have := ha j h2
      rw [h3] at this; cases this
  rw [this, Bool.and_comm]
def inR (b : Int) (p : Pt) : Prop := -b ≤ p.x ∧ p.x ≤ b ∧ -b ≤ p.z ∧ p.z ≤ b
theorem mul_bd {a b m n : Int} (h1 : -m ≤ a) (h2 : a ≤ m) (h3 : -n ≤ b) (h4 : b ≤ n) : -(m * n) ≤ a * b ∧ a * b ≤ m * n := by
  have hm : 0 ≤ m := by omega
  have hn : 0 ≤ n := by omega
  have h : a.natAbs * b.natAbs ≤ m.natAbs * n.natAbs := Nat.mul_le_mul (by omega) (by omega)
  have e1 : ((a * b).natAbs : Int) ≤ m * n := by
    rw [Int.natAbs_mul]
    have : ((m.natAbs * n.natAbs : Nat) : Int) = m * n := by rw [Int.natCast_mul, Int.natAbs_of_nonneg hm, Int.natAbs_of_nonneg hn]
    omega
  omega
def subZ (p q : Pt) : Pt := ⟨p.x - q.x, p.z - q.z⟩
def crossZ (p q : Pt) : Int := p.x * q.z - p.z * q.x
def dotZ (p q : Pt) : Int := p.x * q.x + p.z * q.z
def sideZ (p q r : Pt) : Int := (q.x - p.x) * (r.z - p.z) - (q.z - p.z) * (r.x - p.x)
theorem subW_eq {p q : Pt} {b : Int} (hb : b ≤ 1000000000) (hp : inR b p) (hq : inR b q) : subW p q = subZ p q := by
  unfold inR at hp hq
  unfold subW subZ
  rw [W_in (by omega) (by omega), W_in (by omega) (by omega)]
theorem subZ_in {p q : Pt} {b : Int} (hp : inR b p) (hq : inR b q) : inR (b + b) (subZ p q) := by
  unfold inR subZ at *
  dsimp only
  omega
theorem crossW_eq {p q : Pt} {b c : Int} (hb : b ≤ 1000000000) (hc : c ≤ 1000000000) (hp : inR b p) (hq : inR c q) : crossW p q = crossZ p q := by
  unfold inR at hp hq
  obtain ⟨a1, a2⟩ := mul_bd hp.1 hp.2.1 hq.2.2.1 hq.2.2.2
  obtain ⟨a3, a4⟩ := mul_bd hp.2.2.1 hp.2.2.2 hq.1 hq.2.1
  have hm : b * c ≤ 1000000000 * 1000000000 := Int.mul_le_mul hb hc (by omega) (by omega)
  unfold crossW crossZ
  rw [W_in (n := p.x * q.z) (by omega) (by omega), W_in (n := p.z * q.x) (by omega) (by omega), W_in (by omega) (by omega)]
theorem dotW_eq {p q : Pt} {b c : Int} (hb : b ≤ 1000000000) (hc : c ≤ 1000000000) (hp : inR b p) (hq : inR c q) : dotW p q = dotZ p q := by
  unfold inR at hp hq
  obtain ⟨a1, a2⟩ := mul_bd hp.1 hp.2.1 hq.1 hq.2.1
  obtain ⟨a3, a4⟩ := mul_bd hp.2.2.1 hp.2.2.2 hq.2.2.1 hq.2.2.2
  have hm : b * c ≤ 1000000000 * 1000000000 := Int.mul_le_mul hb hc (by omega) (by omega)
  unfold dotW dotZ
  rw [W_in (n := p.x * q.x) (by omega) (by omega), W_in (n := p.z * q.z) (by omega) (by omega), W_in (by omega) (by omega)]
theorem turn_ring (p q r : Pt) : crossZ (subZ q p) (subZ r q) = sideZ p q r := by
  unfold crossZ subZ sideZ
  dsimp only
  grind
theorem turnW_eq {p q r : Pt} {b : Int} (hb : b ≤ 100000000) (hp : inR b p) (hq : inR b q) (hr : inR b r) : turnW p q r = sideZ p q r := by
  unfold turnW
  rw [subW_eq (by omega) hq hp, subW_eq (by omega) hr hq, crossW_eq (b := b + b) (c := b + b) (by omega) (by omega) (subZ_in hq hp) (subZ_in hr hq), turn_ring]
theorem sideW_eq {p q r : Pt} {b : Int} (hb : b ≤ 100000000) (hp : inR b p) (hq : inR b q) (hr : inR b r) : sideW p q r = sideZ p q r := by
  unfold inR at hp hq hr
  unfold sideW sideZ
  have e1 : W (q.x - p.x) = q.x - p.x := W_in (by omega) (by omega)
  have e2 : W (r.z - p.z) = r.z - p.z := W_in (by omega) (by omega)
  have e3 : W (q.z - p.z) = q.z - p.z := W_in (by omega) (by omega)
  have e4 : W (r.x - p.x) = r.x - p.x := W_in (by omega) (by omega)
  rw [e1, e2, e3, e4]
  obtain ⟨a1, a2⟩ := mul_bd (a := q.x - p.x) (b := r.z - p.z) (m := b + b) (n := b + b) (by omega) (by omega) (by omega) (by omega)
  obtain ⟨a3, a4⟩ := mul_bd (a := q.z - p.z) (b := r.x - p.x) (m := b + b) (n := b + b) (by omega) (by omega) (by omega) (by omega)
  have hm : (b + b) * (b + b) ≤ 200000000 * 200000000 := Int.mul_le_mul (by omega) (by omega) (by omega) (by omega)
  rw [W_in (n := (q.x - p.x) * (r.z - p.z)) (by omega) (by omega), W_in (n := (q.z - p.z) * (r.x - p.x)) (by omega) (by omega), W_in (by omega) (by omega)]
theorem side_cyc (p q r : Pt) : sideZ p q r = sideZ q r p := by
  unfold sideZ
  grind
theorem far_in {p : Pt} (h : farB p = false) : 0 ≤ p.x ∧ p.x ≤ 2000 ∧ 0 ≤ p.z ∧ p.z ≤ 2000 := by
  unfold farB at h
  simp at h
  omega
theorem near {l : List Pt} (h : l.any farB = false) {p : Pt} (hp : p ∈ l) : farB p = false := by
  cases hf : farB p with
  | false => rfl
  | true => rw [List.any_eq_true.2 ⟨p, hp, hf⟩] at h; cases h
/-- corner number i, counted round and round -/
def cor (l : List Pt) (i : Nat) : Pt := l.getD (i % l.length) default
theorem cor_mem {l : List Pt} (h : 0 < l.length) (i : Nat) : cor l i ∈ l := by
  have : i % l.length < l.length := Nat.mod_lt _ h
  unfold cor
  simp [this]
theorem atL_cor {l : List Pt} {i : Int} {n : Nat} (h : i + (l.length : Int) = (n : Int)) : atL l i = cor l n := by
  unfold atL cor
  rw [h]
  rfl
theorem nextL_cor {l : List Pt} (i : Nat) : nextL l (i : Int) = cor l (i + 1) := by
  unfold nextL cor
  rfl
theorem ptAt_cor {l : List Pt} {i : Nat} (h : i < l.length) : ptAt l (i : Int) = cor l i := by
  unfold ptAt cor
  rw [Nat.mod_eq_of_lt h]
  rfl
theorem cor_add {l : List Pt} (i : Nat) : cor l (i + l.length) = cor l i := by
  unfold cor
  rw [Nat.add_mod_right]
/-- all other corners lie to the left of each edge -/
def Cvx (l : List Pt) : Prop := ∀ i k, i < l.length → 2 ≤ k → k < l.length → 0 < sideZ (cor l i) (cor l (i + 1)) (cor l (i + k))
theorem cor_in {l : List Pt} (hf : l.any farB = false) (h : 0 < l.length) (i : Nat) : inR 2000 (cor l i) := by
  have := far_in (near hf (cor_mem h i))
  unfold inR
  omega
theorem convex_iff {l : List Pt} (hf : l.any farB = false) (h3 : 3 ≤ l.length) (h12 : l.length ≤ 12) : convexB l = true ↔ Cvx l := by
  have hin := cor_in hf (by omega)
  have e1 : ∀ i : Nat, i < l.length → cvx1 l i = decide (0 < sideZ (cor l (i + (l.length - 1))) (cor l i) (cor l (i + 1))) := fun i hi => by
    unfold cvx1
    rw [atL_cor (n := i + (l.length - 1)) (by omega), ptAt_cor hi, atL_cor (i := (i : Int) + 1) (n := i + 1 + l.length) (by omega), cor_add]
    rw [turnW_eq (b := 2000) (by omega) (hin _) (hin _) (hin _)]
  have e2 : ∀ i k : Nat, i < l.length → cvx2 l i (k : Nat) = decide (0 < sideZ (cor l i) (cor l (i + 1)) (cor l (i + k))) := fun i k hi => by
    unfold cvx2
    rw [ptAt_cor hi, atL_cor (i := (i : Int) + 1) (n := i + 1 + l.length) (by omega), atL_cor (n := i + k + l.length) (by omega), cor_add, cor_add]
    rw [turnW_eq (b := 2000) (by omega) (hin _) (hin _) (hin _)]
  unfold convexB
  rw [decide_eq_true (by omega), decide_eq_true (by omega), Bool.and_self, Bool.true_and, allI_iff]
  constructor
  · intro h i k hi hk2 hk
    have hi2 := h i hi
    unfold cvxI at hi2
    rw [Bool.and_eq_true, allI_iff] at hi2
    by_cases hkn : k = l.length - 1
    · have := hi2.1
      rw [e1 i hi, decide_eq_true_eq, side_cyc] at this
      rw [hkn]
      exact this
    · have := hi2.2 (k - 2) (by omega)
      rw [show k - 2 + 2 = k from by omega, e2 i k hi, decide_eq_true_eq] at this
      exact this
  · intro h i hi
    unfold cvxI
    rw [Bool.and_eq_true, allI_iff]
    refine ⟨?_, fun k hk => ?_⟩
    · rw [e1 i hi, decide_eq_true_eq, side_cyc]
      exact h i (l.length - 1) hi (by omega) (by omega)
    · rw [e2 i (k + 2) hi, decide_eq_true_eq]
      exact h i (k + 2) hi (by omega) (by omega)
theorem rconvex_iff {l : List Pt} (hf : l.any farB = false) (h3 : 3 ≤ l.length) (h12 : l.length ≤ 12) : rconvexB l = true ↔ Cvx l := by
  have hin := cor_in hf (by omega)
  have e1 : ∀ i k : Nat, i < l.length → k < l.length → (rcv l i k = true ↔ (k = i ∨ k = (i + 1) % l.length ∨ 0 < sideZ (cor l i) (cor l (i + 1)) (cor l k))) := fun i k hi hk => by
    unfold rcv
    rw [ptAt_cor hi, nextL_cor, ptAt_cor hk, sideW_eq (b := 2000) (by omega) (hin _) (hin _) (hin _)]
    have e : ((i : Int) + 1).tmod (l.length : Int) = (((i + 1) % l.length : Nat) : Int) := rfl
    rw [e]
    simp only [Bool.or_eq_true, Bool.not_eq_true', Bool.and_eq_false_iff, Bool.not_eq_false', decide_eq_true_eq]
    omega
  unfold rconvexB
  have hz : (decide ((l.length : Int) < 3) || decide (12 < (l.length : Int))) = false := by
    rw [decide_eq_false (by omega), decide_eq_false (by omega)]; rfl
  rw [hz, Bool.not_false, Bool.true_and, allI_iff]
  unfold rcvI
  simp only [allI_iff]
  constructor
  · intro h i k hi hk2 hk
    have hlt : (i + k) % l.length < l.length := Nat.mod_lt _ (by omega)
    have := (e1 i ((i + k) % l.length) hi hlt).1 (h i hi _ hlt)
    have hc : cor l ((i + k) % l.length) = cor l (i + k) := by unfold cor; rw [Nat.mod_mod]
    rw [hc] at this
    rcases this with h1 | h1 | h1
    · exfalso
      rcases Nat.lt_or_ge (i + k) l.length with g | g
      · rw [Nat.mod_eq_of_lt g] at h1; omega
      · rw [Nat.mod_eq_sub_mod g, Nat.mod_eq_of_lt (by omega)] at h1; omega
    · exfalso
      rcases Nat.lt_or_ge (i + k) l.length with g | g
      · rw [Nat.mod_eq_of_lt g, Nat.mod_eq_of_lt (by omega)] at h1; omega
      · rw [Nat.mod_eq_sub_mod g, Nat.mod_eq_of_lt (by omega)] at h1
        rcases Nat.lt_or_ge (i + 1) l.length with g' | g'
        · rw [Nat.mod_eq_of_lt g'] at h1; omega
        · rw [Nat.mod_eq_sub_mod g', Nat.mod_eq_of_lt (by omega)] at h1; omega
    · exact h1
  · intro h i hi k hk
    rw [e1 i k hi hk]
    by_cases h1 : k = i
    · exact .inl h1
    · by_cases h2 : k = (i + 1) % l.length
      · exact .inr (.inl h2)
      · refine .inr (.inr ?_)
        rcases Nat.lt_or_ge i k with g | g
        · have : 2 ≤ k - i := by
            rw [Nat.mod_eq_of_lt (by omega)] at h2; omega
          have := h i (k - i) hi this (by omega)
          rwa [show i + (k - i) = k from by omega] at this
        · have h4 : 2 ≤ k + l.length - i := by
            rcases Nat.lt_or_ge (i + 1) l.length with g' | g'
            · omega
            · rw [Nat.mod_eq_sub_mod g', Nat.mod_eq_of_lt (by omega)] at h2; omega
          have := h i (k + l.length - i) hi h4 (by omega)
          rw [show i + (k + l.length - i) = k + l.length from by omega, cor_add] at this
          exact this
theorem convex_eq {l : List Pt} (hf : l.any farB = false) : convexB l = rconvexB l := by
  by_cases h : 3 ≤ l.length ∧ l.length ≤ 12
  · rw [Bool.eq_iff_iff, convex_iff hf h.1 h.2, rconvex_iff hf h.1 h.2]
  · have e1 : convexB l = false := by
      refine convex_no ?_
      rw [Bool.not_eq_true']
      by_cases h1 : 3 ≤ l.length
      · rw [decide_eq_false (p := (l.length : Int) ≤ 12) (by omega), Bool.and_false]
      · rw [decide_eq_false (p := 3 ≤ (l.length : Int)) (by omega), Bool.false_and]
    have e2 : rconvexB l = false := by
      refine rconvex_no ?_
      by_cases h1 : 3 ≤ l.length
      · rw [decide_eq_true (p := 12 < (l.length : Int)) (by omega), Bool.or_true]
      · rw [decide_eq_true (p := (l.length : Int) < 3) (by omega), Bool.true_or]
    rw [e1, e2]
def Lo (p q : Pt) : Prop := p.z < q.z ∨ (p.z = q.z ∧ p.x < q.x)
instance (p q : Pt) : Decidable (Lo p q) := by unfold Lo; exact inferInstance
theorem lower_lt {p q : Pt} : lowerW p q < 0 ↔ Lo p q := by
  unfold lowerW cmpI Lo
  simp only [orI]
  repeat' split
  all_goals omega
theorem Lo.trans {p q r : Pt} (h : Lo p q) (k : Lo q r) : Lo p r := by
  unfold Lo at *; omega
theorem Lo.irrefl {p : Pt} : ¬ Lo p p := by
  unfold Lo; omega
theorem Lo.total {p q : Pt} (h : ¬ Lo p q) (k : ¬ Lo q p) : p = q := by
  cases p; cases q
  unfold Lo at *
  simp only [Pt.mk.injEq]
  dsimp only at *
  omega
theorem Lo.of_not {p q r : Pt} (h : Lo p q) (k : ¬ Lo r q) : Lo p r := by
  unfold Lo at *; omega
theorem rfirst_test {p q : Pt} : (decide (p.z < q.z) || (decide (p.z = q.z) && decide (p.x < q.x))) = true ↔ Lo p q := by
  unfold Lo; simp
/-- the index of the first one of the lowest -/
theorem rfirstN_spec (l : List Pt) : ∀ n, n ≤ l.length → 0 < n → ∃ m : Nat, rfirstN l n = (m : Int) ∧ m < n ∧ (∀ j, j < n → ¬ Lo (l.getD j default) (l.getD m default)) ∧ ∀ j, j < m → Lo (l.getD m default) (l.getD j default) := by
  intro n
  induction n with
  | zero => intro _ h; omega
  | succ n ih =>
    intro hn _
    rw [rfirstN]
    by_cases h0 : n = 0
    · subst h0
      refine ⟨0, ?_, by omega, fun j hj => ?_, fun j hj => by omega⟩
      · simp [rfirstN]
      · have : j = 0 := by omega
        subst this; exact Lo.irrefl
    · obtain ⟨m, h1, h2, h3, h4⟩ := ih (by omega) (by omega)
      rw [h1]
      by_cases hlo : Lo (l.getD n default) (l.getD m default)
      · rw [if_pos (rfirst_test.2 (by simpa [ptAt] using hlo))]
        refine ⟨n, rfl, by omega, fun j hj => ?_, fun j hj => ?_⟩
        · by_cases hjn : j = n
          · subst hjn; exact Lo.irrefl
          · exact fun h => h3 j (by omega) (h.trans hlo)
        · exact hlo.of_not (h3 j hj)
      · rw [if_neg (fun h => hlo (by simpa [ptAt] using rfirst_test.1 h))]
        refine ⟨m, rfl, by omega, fun j hj => ?_, h4⟩
        by_cases hjn : j = n
        · subst hjn; exact hlo
        · exact h3 j (by omega)
theorem rfirst_spec {l : List Pt} (h : 0 < l.length) : ∃ m : Nat, rfirst l = (m : Int) ∧ m < l.length ∧ (∀ j, j < l.length → ¬ Lo (l.getD j default) (l.getD m default)) ∧ ∀ j, j < m → Lo (l.getD m default) (l.getD j default) :=
  rfirstN_spec l l.length (Nat.le_refl _) h
theorem minF_spec {l : List Pt} (h : 0 < l.length) : minF lowerW l ∈ l ∧ ∀ p ∈ l, ¬ Lo p (minF lowerW l) := by
  have key : ∀ (r : List Pt) (m : Pt), let x := r.foldl (fun m p => if lowerW p m < 0 then p else m) m; (x = m ∨ x ∈ r) ∧ ¬ Lo m x ∧ ∀ p ∈ r, ¬ Lo p x := by
    intro r
    induction r with
    | nil => intro m; exact ⟨.inl rfl, Lo.irrefl, fun p hp => by cases hp⟩
    | cons q r ih =>
      intro m
      simp only [List.foldl_cons]
      obtain ⟨h1, h2, h3⟩ := ih (if lowerW q m < 0 then q else m)
      by_cases hq : lowerW q m < 0
      · simp only [if_pos hq] at h1 h2 h3 ⊢
        have hlo := lower_lt.1 hq
        refine ⟨?_, fun hm => h2 ?_, fun p hp => ?_⟩
        · rcases h1 with h1 | h1
          · exact .inr (by rw [h1]; exact List.mem_cons_self ..)
          · exact .inr (List.mem_cons_of_mem _ h1)
        · exact hlo.trans hm
        · rcases List.mem_cons.1 hp with rfl | hp
          · exact h2
          · exact h3 p hp
      · simp only [if_neg hq] at h1 h2 h3 ⊢
        have hlo : ¬ Lo q m := fun h => hq (lower_lt.2 h)
        refine ⟨?_, h2, fun p hp => ?_⟩
        · rcases h1 with h1 | h1
          · exact .inl h1
          · exact .inr (List.mem_cons_of_mem _ h1)
        · rcases List.mem_cons.1 hp with rfl | hp
          · exact fun hpx => (by
              by_cases hmx : Lo p m
              · exact hlo hmx
              · exact h2 ((Classical.byContradiction fun hn => by
                  have := Lo.of_not hpx hn
                  exact hmx this) ))
          · exact h3 p hp
  cases l with
  | nil => simp at h
  | cons q r =>
    have := key r q
    unfold minF
    simp only [List.drop_succ_cons, List.drop_zero, List.getD_cons_zero]
    obtain ⟨h1, h2, h3⟩ := this
    refine ⟨?_, fun p hp => ?_⟩
    · rcases h1 with h1 | h1
      · rw [h1]; exact List.mem_cons_self ..
      · exact List.mem_cons_of_mem _ h1
    · rcases List.mem_cons.1 hp with rfl | hp
      · exact h2
      · exact h3 p hp
theorem getD_mem {l : List Pt} {i : Nat} (h : i < l.length) : l.getD i default ∈ l := by simp [h]
theorem minF_first {l : List Pt} (h : 0 < l.length) : ∃ m : Nat, rfirst l = (m : Int) ∧ m < l.length ∧ minF lowerW l = l.getD m default ∧ ∀ j, j < m → l.getD j default ≠ l.getD m default := by
  obtain ⟨m, h1, h2, h3, h4⟩ := rfirst_spec h
  obtain ⟨g1, g2⟩ := minF_spec h
  refine ⟨m, h1, h2, Lo.total (fun hl => ?_) (g2 _ (getD_mem h2)), fun j hj he => Lo.irrefl (he ▸ h4 j hj)⟩
  obtain ⟨j, hj, he⟩ := List.getElem_of_mem g1
  refine h3 j hj ?_
  rw [show l.getD j default = minF lowerW l from by simp [hj, he]]
  exact hl
theorem first_zero {l : List Pt} (h : 0 < l.length) : rfirst l = 0 ↔ minF lowerW l = l.getD 0 default := by
  obtain ⟨m, h1, h2, h3, h4⟩ := minF_first h
  rw [h1, h3]
  constructor
  · intro hm
    have : m = 0 := by omega
    rw [this]
  · intro hm
    have : ¬ 0 < m := fun h0 => h4 0 h0 hm.symm
    omega
theorem pt_eq {p q : Pt} : (decide (p.x = q.x) && decide (p.z = q.z)) = decide (p = q) := by
  cases p; cases q
  rw [Bool.eq_iff_iff]
  simp
theorem placed_eq (l : List Pt) : placedB l = rplacedB l := by
  cases hf : l.any farB with
  | true =>
    have e1 : placedB l = false := placed_no (by rw [hf]; rfl)
    obtain ⟨p, hp, hpf⟩ := List.any_eq_true.1 hf
    obtain ⟨i, hi, rfl⟩ := List.getElem_of_mem hp
    have e2 : rplacedB l = false := rplaced_no (i := (i : Int)) (by omega) (by omega) (by simpa [hi] using hpf)
    rw [e1, e2]
  | false =>
    have hall : allI l.length (fun i => !farB (l.getD i default)) = true := allI_true fun i hi => by
      rw [near hf (getD_mem hi)]; rfl
    unfold placedB rplacedB
    rw [hf, hall, Bool.false_or, Bool.not_not, Bool.true_and, convex_eq hf]
    cases hc : rconvexB l with
    | false => rfl
    | true =>
      have hpos := rconvex_pos hc
      rw [pt_eq]
      simp only [Bool.true_and]
      congr 1
      rw [Bool.eq_iff_iff, decide_eq_true_eq, decide_eq_true_eq, first_zero hpos]
theorem grained_eq (s : Stn) : grainedB s = ((((!decide (s.grain.x = 0)) || (!decide (s.grain.z = 0))) && (decide (-100 ≤ s.grain.x) && decide (s.grain.x ≤ 100))) && (decide (-100 ≤ s.grain.z) && decide (s.grain.z ≤ 100))) := by
  unfold grainedB
  rw [Bool.not_and]
/-- **the program's answer on a stone is the document's** -/
theorem check_valid (s : Stn) : checkI s = if rvalidB s = true then 0 else 2 := by
  have : badB s = !rvalidB s := by
    unfold badB rvalidB
    rw [named_eq, placed_eq, grained_eq]
    cases rnamedB s.name <;> cases rplacedB s.shape <;> simp [Bool.and_assoc, Bool.or_assoc]
  unfold checkI
  rw [this]
  cases rvalidB s <;> rfl
end Go.Stn

namespace Go.Stn
open Go Go.K Go.RowKit
theorem first_in {l : List Pt} (h : 0 < l.length) : 0 ≤ findI (eqB (minF lowerW l)) l ∧ findI (eqB (minF lowerW l)) l < (l.length : Int) := by
  have hm : l.any (eqB (minF lowerW l)) = true := List.any_eq_true.2 ⟨_, (minF_spec h).1, eqB_iff.2 rfl⟩
  have hlt : l.findIdx (eqB (minF lowerW l)) < l.length := List.findIdx_lt_length_of_exists (by simpa using hm)
  unfold findI
  rw [if_pos hm]
  omega
abbrev firstI (l : List Pt) : Int := findI (eqB (minF lowerW l)) l
def rotL (l : List Pt) (f : Int) : List Pt := l.drop f.toNat ++ l.take f.toNat
def settledW (l : List Pt) : List Pt := (rotL l (firstI l)).map fun p => subW p (leastL l)
theorem rotL_len {l : List Pt} {f : Int} (h1 : f ≤ (l.length : Int)) : (rotL l f).length = l.length := by
  unfold rotL
  simp
  omega
theorem map_step {o m : List Pt} {g : Pt → Pt} {i : Int} (h0 : 0 ≤ i) (h1 : i < (o.length : Int)) (hm : m = (o.take i.toNat).map g ++ o.drop i.toNat) : m.set i.toNat (g (m.getD i.toNat default)) = (o.take (i + 1).toNat).map g ++ o.drop (i + 1).toNat := by
  have hlt : i.toNat < o.length := by omega
  have hl : ((o.take i.toNat).map g).length = i.toNat := by simp; omega
  have hget : m.getD i.toNat default = o[i.toNat] := by
    rw [hm, List.getD_eq_getElem?_getD, List.getElem?_append_right (by omega), hl, Nat.sub_self, List.getElem?_drop]
    simp [hlt]
  rw [hget, hm, List.set_append_right _ _ (by omega), hl, Nat.sub_self, show (i + 1).toNat = i.toNat + 1 from by omega, List.drop_eq_getElem_cons hlt, List.set_cons_zero, List.take_add_one, show o[i.toNat]?.toList = [o[i.toNat]] from by simp [hlt], List.map_append]
  simp only [List.map_cons, List.map_nil, List.append_assoc, List.cons_append, List.nil_append]
theorem setp_end {o m : List Pt} {g : Pt → Pt} {i : Int} (hm : m = (o.take i.toNat).map g ++ o.drop i.toNat) (hi : (o.length : Int) ≤ i) : m = o.map g := by
  rw [hm, take_all hi, List.drop_of_length_le (by omega), List.append_nil]
/-- is a point on an edge, its end left out? -/
def onE (x : Pt) (e : Pt × Pt) : Bool := ((decide (crossW (subW e.2 e.1) (subW x e.1) = 0) && decide (0 ≤ dotW (subW x e.1) (subW e.2 e.1))) && decide (dotW (subW x e.1) (subW x e.1) < dotW (subW e.2 e.1) (subW e.2 e.1)))
def edgeI (l : List Pt) (x : Pt) : Int := if farB x = true then -1 else findI (onE x) (edgesL l)
theorem findI_at {α : Type} {p : α → Bool} {l : List α} {n : Nat} {e : α} (he : l[n]? = some e) (ha : ∀ j x, j < n → l[j]? = some x → p x = false) (hp : p e = true) : findI p l = (n : Int) := by
  have hlt : n < l.length := (List.getElem?_eq_some_iff.1 he).1
  have hle : l[n] = e := (List.getElem?_eq_some_iff.1 he).2
  have hany : l.any p = true := List.any_eq_true.2 ⟨l[n], List.getElem_mem hlt, by rw [hle]; exact hp⟩
  have hidx : l.findIdx p = n := (List.findIdx_eq hlt).2 ⟨by rw [hle]; exact hp, fun j hj => ha j _ hj (by simp)⟩
  rw [findI, if_pos hany, hidx]
theorem findI_no {α : Type} {p : α → Bool} {l : List α} (ha : ∀ j x, j < l.length → l[j]? = some x → p x = false) : findI p l = -1 := by
  have : ¬ l.any p = true := fun h => by
    obtain ⟨x, hx, hp⟩ := List.any_eq_true.1 h
    obtain ⟨j, hj, rfl⟩ := List.getElem_of_mem hx
    rw [ha j _ hj (by simp [hj])] at hp
    cases hp
  rw [findI, if_neg this]
theorem none_succ {α : Type} {p : α → Bool} {l : List α} {n : Nat} {e : α} (he : l[n]? = some e) (ha : ∀ j x, j < n → l[j]? = some x → p x = false) (hp : p e = false) : ∀ j x, j < n + 1 → l[j]? = some x → p x = false := fun j x hj hx => by
  rcases Nat.lt_or_ge j n with h | h
  · exact ha j x h hx
  · have : j = n := by omega
    subst this
    rw [he] at hx
    cases hx
    exact hp
theorem edge_lt {l : List Pt} {x : Pt} : edgeI l x < (l.length : Int) ∧ -1 ≤ edgeI l x := by
  unfold edgeI
  split
  · omega
  · unfold findI
    split
    · rename_i h
      have : (edgesL l).findIdx (onE x) < (edgesL l).length := List.findIdx_lt_length_of_exists (by simpa using h)
      rw [edges_len'] at this
      omega
    · omega
theorem edge_n {l : List Pt} {n : Nat} {e : Pt × Pt} (he : (edgesL l)[n]? = some e) : n < l.length := by
  have := (List.getElem?_eq_some_iff.1 he).1
  rwa [edges_len'] at this
def both0 (p q : Pt) (e : Pt × Pt) : Bool := decide (turnW e.1 e.2 p = 0) && decide (turnW e.1 e.2 q = 0)
def apartB (l : List Pt) (p q : Pt) : Bool := !(edgesL l).any (both0 p q)
theorem apart_no {l : List Pt} {p q : Pt} {n : Nat} {e : Pt × Pt} (he : (edgesL l)[n]? = some e) (h : both0 p q e = true) : apartB l p q = false := by
  rw [apartB, List.any_eq_true.2 ⟨e, List.mem_of_getElem? he, h⟩]; rfl
theorem apart_yes {l : List Pt} {p q : Pt} (h : ∀ j x, j < (edgesL l).length → (edgesL l)[j]? = some x → both0 p q x = false) : apartB l p q = true := by
  have : (edgesL l).any (both0 p q) = false := by
    cases hb : (edgesL l).any (both0 p q) with
    | false => rfl
    | true =>
      obtain ⟨x, hx, hp⟩ := List.any_eq_true.1 hb
      obtain ⟨j, hj, rfl⟩ := List.getElem_of_mem hx
      rw [h j _ hj (by simp [hj])] at hp
      cases hp
  rw [apartB, this]; rfl
/-- the corners from number i on, up to k of them, till q -/
def rightN (l : List Pt) (q : Pt) : Nat → Int → List Pt
  | 0, _ => [q]
  | k + 1, i => if eqB (atL l i) q = true then [q] else atL l i :: rightN l q k (i + 1)
def rightT (l : List Pt) (p q : Pt) : Nat := if edgeI l p ≤ edgeI l q then (edgeI l q - edgeI l p).toNat else (edgeI l q - edgeI l p + (l.length : Int)).toNat
def rightL (l : List Pt) (p q : Pt) : List Pt := p :: rightN l q (rightT l p q) (edgeI l p + 1)
theorem tmod_wrap {x n : Int} (h0 : 0 ≤ x) (h1 : x < n + n) : (x + n).tmod n = if x < n then x else x - n := by
  obtain ⟨a, rfl⟩ := Int.eq_ofNat_of_zero_le h0
  obtain ⟨m, rfl⟩ := Int.eq_ofNat_of_zero_le (show 0 ≤ n by omega)
  have : ((a : Int) + (m : Int)).tmod (m : Int) = (((a + m) % m : Nat) : Int) := rfl
  rw [this, Nat.add_mod_right]
  by_cases h : a < m
  · rw [Nat.mod_eq_of_lt h, if_pos (by omega)]
  · rw [Nat.mod_eq_sub_mod (by omega), Nat.mod_eq_of_lt (by omega), if_neg (by omega)]
    omega
theorem rightN_len (l : List Pt) (q : Pt) : ∀ (k : Nat) (i : Int), 1 ≤ (rightN l q k i).length ∧ (rightN l q k i).length ≤ k + 1
  | 0, i => by simp [rightN]
  | k + 1, i => by
    have := rightN_len l q k (i + 1)
    unfold rightN
    split
    · simp
    · simp; omega
theorem rightT_le {l : List Pt} {p q : Pt} (h1 : 0 ≤ edgeI l p) (h2 : 0 ≤ edgeI l q) : rightT l p q < l.length := by
  have := edge_lt (l := l) (x := p)
  have := edge_lt (l := l) (x := q)
  unfold rightT
  split <;> omega
theorem rightL_len {l : List Pt} {p q : Pt} (h1 : 0 ≤ edgeI l p) (h2 : 0 ≤ edgeI l q) : 2 ≤ (rightL l p q).length ∧ (rightL l p q).length ≤ l.length + 1 := by
  have := rightT_le h1 h2
  have := rightN_len l q (rightT l p q) (edgeI l p + 1)
  unfold rightL
  simp
  omega
/-- round number m is the last one -/
theorem right_last {l : List Pt} {p q : Pt} (h1 : 0 ≤ edgeI l p) (h2 : 0 ≤ edgeI l q) {m : Nat} (hm : m ≤ rightT l p q) : edgeI l q = ((edgeI l p + 1 + (m : Int)) - 1 + (l.length : Int)).tmod (l.length : Int) ↔ m = rightT l p q := by
  have a1 := edge_lt (l := l) (x := p)
  have a2 := edge_lt (l := l) (x := q)
  have a3 := rightT_le h1 h2
  rw [show edgeI l p + 1 + (m : Int) - 1 = edgeI l p + (m : Int) from by omega, tmod_wrap (by omega) (by omega)]
  unfold rightT at *
  split at hm <;> split <;> omega
theorem right_stop {l : List Pt} {p q : Pt} {m : Nat} {i : Int} {o : List Pt} (h1 : 0 ≤ edgeI l p) (h2 : 0 ≤ edgeI l q) (hm : m ≤ rightT l p q) (hi : i = edgeI l p + 1 + (m : Int)) (hr : rightL l p q = o ++ rightN l q (rightT l p q - m) i)
    (ht : (eqB (atL l i) q || decide (edgeI l q = (i - 1 + (l.length : Int)).tmod (l.length : Int))) = true) : o ++ [q] = rightL l p q := by
  rw [hr]
  cases hk : rightT l p q - m with
  | zero => rfl
  | succ k =>
    unfold rightN
    cases he : eqB (atL l i) q with
    | true => rfl
    | false =>
      rw [he, Bool.false_or, decide_eq_true_eq, hi, right_last h1 h2 hm] at ht
      omega
theorem right_go {l : List Pt} {p q : Pt} {m : Nat} {i : Int} {o : List Pt} (h1 : 0 ≤ edgeI l p) (h2 : 0 ≤ edgeI l q) (hm : m ≤ rightT l p q) (hi : i = edgeI l p + 1 + (m : Int)) (hr : rightL l p q = o ++ rightN l q (rightT l p q - m) i)
    (ht : (eqB (atL l i) q || decide (edgeI l q = (i - 1 + (l.length : Int)).tmod (l.length : Int))) = false) : m + 1 ≤ rightT l p q ∧ rightL l p q = (o ++ [atL l i]) ++ rightN l q (rightT l p q - (m + 1)) (i + 1) := by
  rw [Bool.or_eq_false_iff, decide_eq_false_iff_not, hi, right_last h1 h2 hm] at ht
  obtain ⟨k, hk⟩ : ∃ k, rightT l p q - m = k + 1 := ⟨rightT l p q - m - 1, by omega⟩
  refine ⟨by omega, ?_⟩
  rw [hr, hk, show rightT l p q - (m + 1) = k from by omega]
  unfold rightN
  rw [if_neg (by rw [hi, ht.1]; exact Bool.false_ne_true)]
  cases k <;> simp [rightN]
/-- a piece of a stone -/
def pieceW (s : Stn) (c : ByteArray) (l : List Pt) : Stn := ⟨s.name ++ c, settledW l, s.depth, s.density, s.grain⟩
def zeroS : Stn := ⟨⟨#[]⟩, [], 0, 0, ⟨0, 0⟩⟩
def splitE (s : Stn) (p q : Pt) : Int :=
  if checkI s ≠ 0 then checkI s else if (decide (edgeI s.shape p < 0) || decide (edgeI s.shape q < 0)) = true then 8 else if apartB s.shape p q = false then 2 else
  if (decide ((s.name.size : Int) = 16) || decide (12 < max ((rightL s.shape q p).length : Int) ((rightL s.shape p q).length : Int))) = true then 5 else 0
def splitA (s : Stn) (p q : Pt) : Stn := if splitE s p q = 0 then pieceW s ⟨#[97]⟩ (rightL s.shape q p) else zeroS
def splitB (s : Stn) (p q : Pt) : Stn := if splitE s p q = 0 then pieceW s ⟨#[98]⟩ (rightL s.shape p q) else zeroS
theorem split_bad {s : Stn} {p q : Pt} {e : Int} (hE : splitE s p q = e) (he : e ≠ 0) : splitA s p q = zeroS ∧ splitB s p q = zeroS := by
  unfold splitA splitB
  rw [hE, if_neg he, if_neg he]
  exact ⟨rfl, rfl⟩
theorem split_good {s : Stn} {p q : Pt} (hE : splitE s p q = 0) : splitA s p q = pieceW s ⟨#[97]⟩ (rightL s.shape q p) ∧ splitB s p q = pieceW s ⟨#[98]⟩ (rightL s.shape p q) := by
  unfold splitA splitB
  rw [hE, if_pos rfl, if_pos rfl]
  exact ⟨rfl, rfl⟩
theorem check_named {s : Stn} (h : checkI s = 0) : s.name.size ≤ 16 := by
  have := check_good h
  unfold badB at this
  simp only [Bool.or_eq_false_iff, Bool.not_eq_false'] at this
  have h2 := this.1.1.1.1
  unfold namedB at h2
  simp only [Bool.and_eq_true, decide_eq_true_eq] at h2
  omega
end Go.Stn

namespace Go.Proofs.YtmpaebfjnjmmlaaGreatDoor
open Go.K Go.Stn Go.RowKit
theorem se162 : SE Tryz.prog 162 49 1 := ⟨Tryz.underlying162, by kernel_rfl⟩
theorem en91 : En Tryz.prog 91 := en_of Tryz.func91 (by kernel_rfl) (by kernel_rfl)
theorem en92 : En Tryz.prog 92 := en_of Tryz.func92 (by kernel_rfl) (by kernel_rfl)
theorem en124 : En Tryz.prog 124 := en_of Tryz.func124 (by kernel_rfl) (by kernel_rfl)
theorem bs162_2 (x0a : Option Addr) (x0l : List Pt) (x0c : Nat) (x1a : Option Addr) (x1l : List Pt) (x1c : Nat) (w : World) : (Instr.buildSlice 162 2 #[(0, .slice x0a x0l.length x0c), (1, .slice x1a x1l.length x1c)]).run Tryz.prog w = .ok (.slice (some ⟨w.heap.size, 0, none⟩) 2 2) (w.alloc (.cells (([⟨x0a, x0c, x0l⟩, ⟨x1a, x1c, x1l⟩] : List (Sli)).flatMap encSli).toArray 49)) := by kernel_rfl
set_option maxRecDepth 100000 in
set_option maxHeartbeats 1000000 in
theorem index_c (a : Option Addr) (cap : Nat) (l : List Pt) (v : Pt) (w : World) (hl : Has w (Pts a l)) (hs : Small l.length) :
    Calls Tryz.prog 91 #[.slice a l.length cap, .agg #[.int .i64 v.x, .int .i64 v.z]] w (Pure (.int .i64 (findI (eqB v) l)) w) := by
  refine calls_of_gk (vs := [_, _]) Tryz.func91 rfl rfl (Nat.le_of_ble_eq_true rfl) ?_
  refine gk_seq ?_
  refine gk_region ?_
  refine gk_yx rfl rfl (yx_box (vs := [_, _]) rfl rfl) fun b3 => ?_
  refine gk_y rfl rfl (y_assign rfl) ?_
  refine gk_nil (gk_sub (T' := [(0,_), (3,_), (4,_)]) ⟨rfl, rfl, rfl, trivial⟩ ?_)
  refine gk_seq ?_
  refine gk_seq ?_
  refine gk_region ?_
  refine gk_y rfl rfl (y_move rfl) ?_
  refine gk_y rfl rfl (y_lenS (Tryz.underlying49) rfl) ?_
  refine gk_y rfl rfl (y_move rfl) ?_
  refine gk_nil (gk_sub (T' := [(0,_), (3,_), (4,_), (7,_), (8,_)]) ⟨rfl, rfl, rfl, rfl, rfl, trivial⟩ ?_)
  refine gk_block ?_
  refine gk_loop (X := Int) (fun (i : Int) => [(0, .slice a l.length cap), (3, .pointer (some ⟨b3, 0, none⟩)), (4, .int .i64 0), (7, .int .i64 (l.length : Int)), (8, .int .i64 i)]) (fun (i : Int) => [Box b3 [.int .i64 v.x, .int .i64 v.z] 50]) (fun (i : Int) => (0 ≤ i ∧ i ≤ l.length ∧ ∀ j : Nat, (j : Int) < i → eqB v (l.getD j default) = false)) (fun (i : Int) => (l.length - i).toNat) 0 ⟨rfl, rfl, rfl, rfl, rfl, trivial⟩ rfl ?_ ?_
  · exact ⟨by omega, by omega, fun j hj => by omega⟩
  · rintro i hI
    obtain ⟨g0, g1, g2⟩ := hI
    refine gk_seq ?_
    refine gk_region ?_
    refine gk_y rfl rfl (y_lss rfl rfl) ?_
    refine gk_nil (gk_sub (T' := [(0,_), (3,_), (4,_), (7,_), (8,_), (9,_)]) ⟨rfl, rfl, rfl, rfl, rfl, rfl, trivial⟩ ?_)
    refine gk_seq ?_
    refine gk_cond rfl (fun hc9 => ?_) (fun hc9 => ?_)
    · simp only [decide_eq_true_eq] at hc9
      refine gk_skip ?_
      refine gk_seq ?_
      refine gk_block ?_
      refine gk_seq ?_
      refine gk_region ?_
      refine gk_y rfl rfl (y_move rfl) ?_
      refine gk_y rfl rfl (y_assign rfl) ?_
      refine gk_nil (gk_sub (T' := [(0,_), (3,_), (4,_), (5,_), (7,_), (8,_)]) ⟨rfl, rfl, rfl, rfl, rfl, rfl, trivial⟩ ?_)
      refine gk_seq ?_
      refine gk_any 6 (fun _ => mixed) (by kernel_rfl) ?_
      refine ph_y (y_loadBA 0 tf50 rfl rfl (vs := [_, _]) rfl rfl) ?_
      refine ph_y (y_move rfl) ?_
      refine ph_y (y_move rfl) ?_
      refine ph_y (y_indexE se49 rfl rfl (fun _ hw => (Rd.has (Has.rd hl) hw)) (by omega) (by omega)) ?_
      refine ph_y (y_loadE (vs := [_, _]) tf50 rfl (fun _ hw => (Rd.has (Has.rd hl) hw)) (by omega) (by omega) rfl) ?_
      refine ph_y (y_eql50 rfl rfl) ?_
      refine gk_nil (gk_sub (T' := [(0,_), (3,_), (4,_), (5,_), (7,_), (8,_), (16,_)]) ⟨rfl, rfl, rfl, rfl, rfl, rfl, rfl, trivial⟩ ?_)
      refine gk_cond rfl (fun hc16 => ?_) (fun hc16 => ?_)
      · skip
        refine gk_seq ?_
        refine gk_region ?_
        refine gk_y rfl rfl (y_move rfl) ?_
        refine gk_y rfl rfl (y_assign rfl) ?_
        refine gk_nil (gk_sub (T' := [(0,_), (3,_), (4,_), (7,_), (8,_)]) ⟨rfl, rfl, rfl, rfl, rfl, trivial⟩ ?_)
        refine gk_ret ?_
        refine gk_pure (rv_one rfl (r1_tmp rfl)) ?_
        exact congrArg _ (findI_hit g0 (by omega) g2 hc16).symm
      · skip
        refine gk_skip ?_
        refine gk_region ?_
        refine gk_y rfl rfl (y_addI rfl rfl (by omega) (by omega)) ?_
        refine gk_y rfl rfl (y_move rfl) ?_
        refine gk_nil (gk_sub (T' := [(0,_), (3,_), (4,_), (7,_), (8,_)]) ⟨rfl, rfl, rfl, rfl, rfl, trivial⟩ ?_)
        exact gk_next _ ⟨rfl, rfl, rfl, rfl, rfl, trivial⟩ rfl ⟨by omega, by omega, fun j hj => if h : (j : Int) < i then g2 j h else (by rw [show j = i.toNat from by omega]; exact hc16)⟩ (by omega)
    · simp only [decide_eq_false_iff_not] at hc9
      refine gk_exit rfl ?_
      refine gk_seq ?_
      refine gk_region ?_
      refine gk_y rfl rfl (y_assign rfl) ?_
      refine gk_nil (gk_sub (T' := [(4,_)]) ⟨rfl, trivial⟩ ?_)
      refine gk_ret ?_
      refine gk_pure (rv_one rfl (r1_tmp rfl)) ?_
      exact congrArg _ (findI_none (fun j hj => g2 j (by omega))).symm
set_option maxRecDepth 100000 in
set_option maxHeartbeats 1000000 in
theorem growNil_c (n : Int) (w : World) (h0 : 0 ≤ n) (h1 : n ≤ 1099511627776) :
    Calls Tryz.prog 124 #[.slice none 0 0, .int .i64 n] w (Gives (fun z : Option Addr × Nat => .slice z.1 0 z.2) (fun z => Row z.1 2 z.2 50 encPt []) w) := by
  refine calls_of_gk (vs := [_, _]) Tryz.func124 rfl rfl (Nat.le_of_ble_eq_true rfl) ?_
  refine gk_seq ?_
  refine gk_region ?_
  refine gk_y rfl rfl (y_assign rfl) ?_
  refine gk_nil (gk_sub (T' := [(0,_), (1,_), (4,_)]) ⟨rfl, rfl, rfl, trivial⟩ ?_)
  refine gk_seq ?_
  refine gk_seq ?_
  refine gk_region ?_
  refine gk_y rfl rfl (y_move rfl) ?_
  refine gk_y rfl rfl (y_lss rfl rfl) ?_
  refine gk_nil (gk_sub (T' := [(0,_), (1,_), (4,_), (6,_)]) ⟨rfl, rfl, rfl, rfl, trivial⟩ ?_)
  refine gk_cond rfl (fun hc6 => ?_) (fun hc6 => ?_)
  · exfalso; simp at hc6; omega
  · simp only [decide_eq_false_iff_not] at hc6
    refine gk_skip ?_
    refine gk_seq ?_
    refine gk_seq ?_
    refine gk_region ?_
    refine gk_y rfl rfl (y_move rfl) ?_
    refine gk_y rfl rfl (y_move rfl) ?_
    refine gk_y rfl rfl (y_capS (Tryz.underlying49) rfl) ?_
    refine gk_y rfl rfl (y_move rfl) ?_
    refine gk_y rfl rfl (y_lenS (Tryz.underlying49) rfl) ?_
    refine gk_y rfl rfl (y_subI rfl rfl (by omega) (by omega)) ?_
    refine gk_y rfl rfl (y_subI rfl rfl (by omega) (by omega)) ?_
    refine gk_y rfl rfl (y_assign rfl) ?_
    refine gk_nil (gk_sub (T' := [(0,_), (1,_), (4,_)]) ⟨rfl, rfl, rfl, trivial⟩ ?_)
    refine gk_seq ?_
    refine gk_region ?_
    refine gk_y rfl rfl (y_move rfl) ?_
    refine gk_y rfl rfl (y_gtr rfl rfl) ?_
    refine gk_nil (gk_sub (T' := [(0,_), (1,_), (4,_), (16,_)]) ⟨rfl, rfl, rfl, rfl, trivial⟩ ?_)
    refine gk_cond rfl (fun hc16 => ?_) (fun hc16 => ?_)
    · simp only [decide_eq_true_eq] at hc16
      refine gk_region ?_
      refine gk_y rfl rfl (y_move rfl) ?_
      refine gk_y rfl rfl (y_move rfl) ?_
      refine gk_y rfl rfl (y_capS (Tryz.underlying49) rfl) ?_
      refine gk_y rfl rfl (y_sliceHi se49 rfl rfl (by decide) (by decide)) ?_
      refine gk_y rfl rfl (y_move rfl) ?_
      refine gk_yx rfl rfl (yx_appendZeros encPt af49 (by decide) (Tryz.underlying3) rfl rfl (by omega) (by omega) (by omega)) fun z22 => ?_
      refine gk_y rfl rfl (y_move rfl) ?_
      refine gk_y rfl rfl (y_lenS (Tryz.underlying49) rfl) ?_
      refine gk_y rfl rfl (y_sliceHi se49 rfl rfl (by omega) (by omega)) ?_
      refine gk_y rfl rfl (y_assign rfl) ?_
      refine gk_nil (gk_sub (T' := [(0,_), (4,_)]) ⟨rfl, rfl, trivial⟩ ?_)
      refine gk_seq ?_
      refine gk_region ?_
      refine gk_y rfl rfl (y_move rfl) ?_
      refine gk_y rfl rfl (y_assign rfl) ?_
      refine gk_nil (gk_sub (T' := [(4,_)]) ⟨rfl, trivial⟩ ?_)
      refine gk_ret ?_
      refine gk_gives (some ⟨z22.1, 0, none⟩, z22.2) 0 (rv_one rfl (r1_tmp rfl)) ?_ rfl
      exact congrArg (fun a => Value.slice a 0 _) subA_zero
    · simp only [decide_eq_false_iff_not] at hc16
      refine gk_newNil 50 encPt 2 ?_
      refine gk_skip ?_
      refine gk_seq ?_
      refine gk_region ?_
      refine gk_y rfl rfl (y_move rfl) ?_
      refine gk_y rfl rfl (y_assign rfl) ?_
      refine gk_nil (gk_sub (T' := [(4,_)]) ⟨rfl, trivial⟩ ?_)
      refine gk_ret ?_
      refine gk_gives (none, 0) 0 (rv_one rfl (r1_tmp rfl)) ?_ rfl
      rfl
set_option maxRecDepth 100000 in
set_option maxHeartbeats 1000000 in
theorem concat_c (a : Option Addr) (cap : Nat) (ls : List Sli) (w : World) (hl : Has w (Elems a 1 encSli ls)) (hin : ∀ i, i < ls.length → Has w (Pts (ls.getD i default).a (ls.getD i default).l)) (hs : Small ls.length) (ht : Small (ls.flatMap Sli.l).length) :
    Calls Tryz.prog 92 #[.slice a ls.length cap] w (Gives (fun z : Option Addr × Nat => .slice z.1 (ls.flatMap Sli.l).length z.2) (fun z => Row z.1 2 z.2 50 encPt (ls.flatMap Sli.l)) w) := by
  refine calls_of_gk (vs := [_]) Tryz.func92 rfl rfl (Nat.le_of_ble_eq_true rfl) ?_
  refine gk_seq ?_
  refine gk_region ?_
  refine gk_y rfl rfl (y_assign rfl) ?_
  refine gk_nil (gk_sub (T' := [(0,_), (2,_)]) ⟨rfl, rfl, trivial⟩ ?_)
  refine gk_seq ?_
  refine gk_region ?_
  refine gk_y rfl rfl (y_assign rfl) ?_
  refine gk_nil (gk_sub (T' := [(0,_), (2,_), (3,_)]) ⟨rfl, rfl, rfl, trivial⟩ ?_)
  refine gk_seq ?_
  refine gk_seq ?_
  refine gk_region ?_
  refine gk_y rfl rfl (y_move rfl) ?_
  refine gk_y rfl rfl (y_lenS (Tryz.underlying162) rfl) ?_
  refine gk_y rfl rfl (y_move rfl) ?_
  refine gk_nil (gk_sub (T' := [(0,_), (2,_), (3,_), (9,_), (10,_), (11,_)]) ⟨rfl, rfl, rfl, rfl, rfl, rfl, trivial⟩ ?_)
  refine gk_block ?_
  refine gk_loop (X := Int × Int) (fun ⟨i, z⟩ => [(0, .slice a ls.length cap), (2, .slice none 0 0), (3, .int .i64 z), (9, .slice a ls.length cap), (10, .int .i64 (ls.length : Int)), (11, .int .i64 i)]) (fun ⟨i, z⟩ => []) (fun ⟨i, z⟩ => (0 ≤ i ∧ i ≤ ls.length ∧ z = (((ls.take i.toNat).flatMap Sli.l).length : Int))) (fun ⟨i, z⟩ => (ls.length - i).toNat) (0, 0) ⟨rfl, rfl, rfl, rfl, rfl, rfl, trivial⟩ rfl ?_ ?_
  · exact ⟨by omega, by omega, rfl⟩
  · rintro ⟨i, z⟩ hI
    obtain ⟨g0, g1, g2⟩ := hI
    refine gk_seq ?_
    refine gk_region ?_
    refine gk_y rfl rfl (y_lss rfl rfl) ?_
    refine gk_nil (gk_sub (T' := [(0,_), (2,_), (3,_), (9,_), (10,_), (11,_), (12,_)]) ⟨rfl, rfl, rfl, rfl, rfl, rfl, rfl, trivial⟩ ?_)
    refine gk_seq ?_
    refine gk_cond rfl (fun hc12 => ?_) (fun hc12 => ?_)
    · have hc12 := of_decide_eq_true hc12
      have hsx := sum_succ (ls := ls) g0 hc12
      have hbx := sum_le ls (i + 1).toNat
      rw [hsx, List.length_append] at hbx
      refine gk_skip ?_
      refine gk_seq ?_
      refine gk_block ?_
      refine gk_seq ?_
      refine gk_region ?_
      refine gk_y rfl rfl (y_indexE se162 rfl rfl (fun _ hw => (Rd.has (Has.rd hl) hw)) (by omega) (by omega)) ?_
      refine gk_y rfl rfl (y_loadE1 tf49 rfl (fun _ hw => (Rd.has (Has.rd hl) hw)) (by omega) (by omega) rfl) ?_
      refine gk_y rfl rfl (y_assign rfl) ?_
      refine gk_nil (gk_sub (T' := [(0,_), (2,_), (3,_), (5,_), (9,_), (10,_), (11,_)]) ⟨rfl, rfl, rfl, rfl, rfl, rfl, rfl, trivial⟩ ?_)
      refine gk_seq ?_
      refine gk_region ?_
      refine gk_y rfl rfl (y_move rfl) ?_
      refine gk_y rfl rfl (y_move rfl) ?_
      refine gk_y rfl rfl (y_lenS (Tryz.underlying49) rfl) ?_
      refine gk_y rfl rfl (y_addI rfl rfl (by omega) (by omega)) ?_
      refine gk_y rfl rfl (y_assign rfl) ?_
      refine gk_nil (gk_sub (T' := [(0,_), (2,_), (3,_), (9,_), (10,_), (11,_)]) ⟨rfl, rfl, rfl, rfl, rfl, rfl, trivial⟩ ?_)
      refine gk_seq ?_
      refine gk_region ?_
      refine gk_y rfl rfl (y_move rfl) ?_
      refine gk_y rfl rfl (y_lss rfl rfl) ?_
      refine gk_nil (gk_sub (T' := [(0,_), (2,_), (3,_), (9,_), (10,_), (11,_), (20,_)]) ⟨rfl, rfl, rfl, rfl, rfl, rfl, rfl, trivial⟩ ?_)
      refine gk_cond rfl (fun hc20 => ?_) (fun hc20 => ?_)
      · exfalso; simp at hc20; omega
      · simp only [decide_eq_false_iff_not] at hc20
        refine gk_skip ?_
        refine gk_region ?_
        refine gk_y rfl rfl (y_addI rfl rfl (by omega) (by omega)) ?_
        refine gk_y rfl rfl (y_move rfl) ?_
        refine gk_nil (gk_sub (T' := [(0,_), (2,_), (3,_), (9,_), (10,_), (11,_)]) ⟨rfl, rfl, rfl, rfl, rfl, rfl, trivial⟩ ?_)
        exact gk_next (i + 1, _) ⟨rfl, rfl, rfl, rfl, rfl, rfl, trivial⟩ rfl ⟨by omega, by omega, by rw [hsx, List.length_append]; omega⟩ (by simp only []; omega)
    · have hc12 := of_decide_eq_false hc12
      have hbz := sum_le ls i.toNat
      refine gk_exit rfl ?_
      refine gk_seq ?_
      refine gk_region ?_
      refine gk_y rfl rfl (y_move rfl) ?_
      refine gk_yx rfl rfl (yx_call en124 rfl (fun w hw => growNil_c z w (by omega) (by omega))) fun p24 => ?_
      refine gk_y rfl rfl (y_assign rfl) ?_
      refine gk_nil (gk_sub (T' := [(0,_), (2,_), (6,_)]) ⟨rfl, rfl, rfl, trivial⟩ ?_)
      refine gk_seq ?_
      refine gk_seq ?_
      refine gk_region ?_
      refine gk_y rfl rfl (y_move rfl) ?_
      refine gk_y rfl rfl (y_lenS (Tryz.underlying162) rfl) ?_
      refine gk_y rfl rfl (y_move rfl) ?_
      refine gk_nil (gk_sub (T' := [(2,_), (6,_), (25,_), (26,_), (27,_)]) ⟨rfl, rfl, rfl, rfl, rfl, trivial⟩ ?_)
      refine gk_block ?_
      refine gk_loop (X := Int × Option Addr × Nat × List Pt) (fun ⟨i, b, bc, m⟩ => [(2, .slice none 0 0), (6, .slice b m.length bc), (25, .slice a ls.length cap), (26, .int .i64 (ls.length : Int)), (27, .int .i64 i)]) (fun ⟨i, b, bc, m⟩ => [Row b 2 bc 50 encPt m]) (fun ⟨i, b, bc, m⟩ => (0 ≤ i ∧ i ≤ ls.length ∧ m = (ls.take i.toNat).flatMap Sli.l)) (fun ⟨i, b, bc, m⟩ => (ls.length - i).toNat) (0, p24.1, p24.2, []) ⟨rfl, rfl, rfl, rfl, rfl, trivial⟩ rfl ?_ ?_
      · exact ⟨by omega, by omega, rfl⟩
      · rintro ⟨i, b, bc, m⟩ hI
        obtain ⟨g0, g1, g2⟩ := hI
        refine gk_seq ?_
        refine gk_region ?_
        refine gk_y rfl rfl (y_lss rfl rfl) ?_
        refine gk_nil (gk_sub (T' := [(2,_), (6,_), (25,_), (26,_), (27,_), (28,_)]) ⟨rfl, rfl, rfl, rfl, rfl, rfl, trivial⟩ ?_)
        refine gk_seq ?_
        refine gk_cond rfl (fun hc28 => ?_) (fun hc28 => ?_)
        · have hc28 := of_decide_eq_true hc28
          have hsx := sum_succ (ls := ls) g0 hc28
          have hbx := sum_le ls (i + 1).toNat
          rw [hsx, List.length_append, ← g2] at hbx
          refine gk_skip ?_
          refine gk_seq ?_
          refine gk_block ?_
          refine gk_seq ?_
          refine gk_region ?_
          refine gk_y rfl rfl (y_indexE se162 rfl rfl (fun _ hw => (Rd.has (Has.rd hl) hw)) (by omega) (by omega)) ?_
          refine gk_y rfl rfl (y_loadE1 tf49 rfl (fun _ hw => (Rd.has (Has.rd hl) hw)) (by omega) (by omega) rfl) ?_
          refine gk_y rfl rfl (y_assign rfl) ?_
          refine gk_nil (gk_sub (T' := [(2,_), (6,_), (8,_), (25,_), (26,_), (27,_)]) ⟨rfl, rfl, rfl, rfl, rfl, rfl, trivial⟩ ?_)
          refine gk_region ?_
          refine gk_y rfl rfl (y_move rfl) ?_
          refine gk_y rfl rfl (y_move rfl) ?_
          refine gk_append (m := (ls.getD (i).toNat default).l) 0 af49 encPt_ok rfl rfl rfl rfl (fun _ hw => (Rd.has (Has.rd (hin _ (by omega))) hw)) (by first | omega | (simp only [List.length_cons, List.length_nil]; omega)) (by first | (unfold maxLen; omega) | (simp only [List.length_cons, List.length_nil, maxLen]; omega)) fun a33 c33 => ?_
          refine gk_y rfl rfl (y_assign rfl) ?_
          refine gk_nil (gk_sub (T' := [(2,_), (6,_), (25,_), (26,_), (27,_)]) ⟨rfl, rfl, rfl, rfl, rfl, trivial⟩ ?_)
          refine gk_region ?_
          refine gk_y rfl rfl (y_addI rfl rfl (by omega) (by omega)) ?_
          refine gk_y rfl rfl (y_move rfl) ?_
          refine gk_nil (gk_sub (T' := [(2,_), (6,_), (25,_), (26,_), (27,_)]) ⟨rfl, rfl, rfl, rfl, rfl, trivial⟩ ?_)
          exact gk_next (i + 1, a33, c33, _) ⟨rfl, rfl, rfl, rfl, rfl, trivial⟩ rfl ⟨by omega, by omega, by rw [hsx, ← g2]⟩ (by simp only []; omega)
        · simp only [decide_eq_false_iff_not] at hc28
          refine gk_exit rfl ?_
          refine gk_seq ?_
          refine gk_region ?_
          refine gk_y rfl rfl (y_move rfl) ?_
          refine gk_y rfl rfl (y_assign rfl) ?_
          refine gk_nil (gk_sub (T' := [(2,_)]) ⟨rfl, trivial⟩ ?_)
          obtain rfl : m = ls.flatMap Sli.l := by rw [g2, take_all (by omega)]
          refine gk_ret ?_
          refine gk_gives (b, bc) 0 (rv_one rfl (r1_tmp rfl)) ?_ rfl
          rfl
theorem concat2_c (a : Option Addr) (cap : Nat) (x y : Sli) (w : World) (hl : Has w (Elems a 1 encSli [x, y])) (hx : Has w (Pts x.a x.l)) (hy : Has w (Pts y.a y.l)) (ht : Small (x.l.length + y.l.length)) :
    Calls Tryz.prog 92 #[.slice a 2 cap] w (Gives (fun z : Option Addr × Nat => .slice z.1 (x.l ++ y.l).length z.2) (fun z => Row z.1 2 z.2 50 encPt (x.l ++ y.l)) w) := by
  have h := concat_c a cap [x, y] w hl (two_in hx hy) (by simp [Small]) (by simpa using ht)
  have e : [x, y].flatMap Sli.l = x.l ++ y.l := by simp
  rw [e] at h
  exact h
set_option maxRecDepth 100000 in
set_option maxHeartbeats 1000000 in
theorem settled_c (a : Option Addr) (cap : Nat) (l : List Pt) (w : World) (hl : Has w (Pts a l)) (hs : Small l.length) (h0 : 0 < l.length) (hcap : l.length ≤ cap) :
    Calls Tryz.prog 58 #[.slice a l.length cap] w (Gives (fun z : Option Addr × Nat => .slice z.1 (settledW l).length z.2) (fun z => Row z.1 2 z.2 50 encPt (settledW l)) w) := by
  obtain ⟨f0, f1⟩ := first_in h0
  have f2 : (l.drop (findI (eqB (minF lowerW l)) l).toNat ++ l.take (findI (eqB (minF lowerW l)) l).toNat).length = l.length := rotL_len (Int.le_of_lt f1)
  refine calls_of_gk (vs := [_]) Tryz.func58 rfl rfl (Nat.le_of_ble_eq_true rfl) ?_
  refine gk_seq ?_
  refine gk_region ?_
  refine gk_y rfl rfl (y_assign rfl) ?_
  refine gk_nil (gk_sub (T' := [(0,_), (2,_)]) ⟨rfl, rfl, trivial⟩ ?_)
  refine gk_seq ?_
  refine gk_region ?_
  refine gk_y rfl rfl (y_move rfl) ?_
  refine gk_y rfl rfl (y_call en93 rfl (fun w hw => least_c _ _ l w (Rd.has (Has.rd hl) hw) (by assumption) (by omega))) ?_
  refine gk_yx rfl rfl (yx_alloc tf50 (zs := [_, _]) rfl) fun b3 => ?_
  refine gk_storeV 0 tf50 rfl rfl (vs := [_, _]) rfl rfl rfl rfl rfl ?_
  refine gk_nil (gk_sub (T' := [(0,_), (2,_), (3,_)]) ⟨rfl, rfl, rfl, trivial⟩ ?_)
  refine gk_seq ?_
  refine gk_region ?_
  refine gk_y rfl rfl (y_move rfl) ?_
  refine gk_y rfl rfl (y_move rfl) ?_
  refine gk_y rfl rfl (y_call en94 rfl (fun w hw => minfunc_c _ _ l lowerW _ [] w (Rd.has (Has.rd hl) hw) (by assumption) (by omega) (fun _ => True) (fun _ _ => trivial) en95 (fun p q w _ => lower_c p q w))) ?_
  refine gk_y rfl rfl (y_call en91 rfl (fun w hw => index_c _ _ l (minF lowerW l) w (Rd.has (Has.rd hl) hw) (by assumption))) ?_
  refine gk_y rfl rfl (y_assign rfl) ?_
  refine gk_nil (gk_sub (T' := [(0,_), (2,_), (3,_), (4,_)]) ⟨rfl, rfl, rfl, rfl, trivial⟩ ?_)
  refine gk_seq ?_
  refine gk_any 9 (fun _ => mixed) (by kernel_rfl) ?_
  refine ph_y (y_move rfl) ?_
  refine ph_y (y_move rfl) ?_
  refine ph_y (y_sliceLoL se49 rfl rfl (by omega) (by omega)) ?_
  refine ph_y (y_move rfl) ?_
  refine ph_y (y_move rfl) ?_
  refine ph_y (y_move rfl) ?_
  refine ph_y (y_slice3L se49 rfl rfl rfl (by omega) (by omega) (by omega) (by omega)) ?_
  refine ph_yx (yx_buildSlice rfl (bs162_2 _ _ _ _ _ _) encSli_ok rfl) ?_
  refine ph_yx (fun b20 => yx_call en92 rfl (fun w hw => concat2_c _ _ ⟨_, _, (l.drop (findI (eqB (minF lowerW l)) l).toNat)⟩ ⟨_, _, (l.take (findI (eqB (minF lowerW l)) l).toNat)⟩ w (has_row encSli_ok (hw.has (p := 0) rfl)) (elems_drop (Rd.has (Has.rd hl) hw) hcap (by omega)) (elems_take (Rd.has (Has.rd hl) hw) (by omega) (by omega)) (by simp only [List.length_drop, List.length_take]; omega))) ?_
  intro p21
  intro b20
  refine gk_sub (T' := [(2,_), (3,_), (21,_)]) ⟨rfl, rfl, rfl, trivial⟩ ?_
  refine gk_y rfl rfl (y_assign rfl) ?_
  refine gk_nil (gk_sub (T' := [(2,_), (3,_), (5,_)]) ⟨rfl, rfl, rfl, trivial⟩ ?_)
  refine gk_seq ?_
  refine gk_seq ?_
  refine gk_region ?_
  refine gk_y rfl rfl (y_move rfl) ?_
  refine gk_y rfl rfl (y_lenS (Tryz.underlying49) rfl) ?_
  refine gk_y rfl rfl (y_move rfl) ?_
  refine gk_nil (gk_sub (T' := [(2,_), (3,_), (5,_), (23,_), (24,_)]) ⟨rfl, rfl, rfl, rfl, rfl, trivial⟩ ?_)
  refine gk_block ?_
  refine gk_loop (X := Int × List Pt) (fun ⟨i, m⟩ => [(2, .slice none 0 0), (3, .pointer (some ⟨b3, 0, none⟩)), (5, .slice p21.1 (l.drop (findI (eqB (minF lowerW l)) l).toNat ++ l.take (findI (eqB (minF lowerW l)) l).toNat).length p21.2), (23, .int .i64 ((l.drop (findI (eqB (minF lowerW l)) l).toNat ++ l.take (findI (eqB (minF lowerW l)) l).toNat).length : Int)), (24, .int .i64 i)]) (fun ⟨i, m⟩ => [Row (some ⟨b20, 0, none⟩) 1 2 49 encSli [⟨(subA a 2 (findI (eqB (minF lowerW l)) l).toNat cap), (cap - (findI (eqB (minF lowerW l)) l).toNat), (l.drop (findI (eqB (minF lowerW l)) l).toNat)⟩, ⟨(subA a 2 0 (findI (eqB (minF lowerW l)) l).toNat), (findI (eqB (minF lowerW l)) l).toNat, (l.take (findI (eqB (minF lowerW l)) l).toNat)⟩], Row p21.1 2 p21.2 50 encPt m, Box b3 [.int .i64 ((leastL l).x), .int .i64 ((leastL l).z)] 50]) (fun ⟨i, m⟩ => (0 ≤ i ∧ i ≤ ((l.drop (findI (eqB (minF lowerW l)) l).toNat ++ l.take (findI (eqB (minF lowerW l)) l).toNat).length : Int) ∧ m.length = (l.drop (findI (eqB (minF lowerW l)) l).toNat ++ l.take (findI (eqB (minF lowerW l)) l).toNat).length ∧ m = ((l.drop (findI (eqB (minF lowerW l)) l).toNat ++ l.take (findI (eqB (minF lowerW l)) l).toNat).take i.toNat).map (fun p => subW p (leastL l)) ++ (l.drop (findI (eqB (minF lowerW l)) l).toNat ++ l.take (findI (eqB (minF lowerW l)) l).toNat).drop i.toNat)) (fun ⟨i, m⟩ => (((l.drop (findI (eqB (minF lowerW l)) l).toNat ++ l.take (findI (eqB (minF lowerW l)) l).toNat).length : Int) - i).toNat) (0, (l.drop (findI (eqB (minF lowerW l)) l).toNat ++ l.take (findI (eqB (minF lowerW l)) l).toNat)) ⟨rfl, rfl, rfl, rfl, rfl, trivial⟩ rfl ?_ ?_
  · exact ⟨by omega, by omega, rfl, rfl⟩
  · rintro ⟨i, m⟩ hI
    obtain ⟨g0, g1, g3, g2⟩ := hI
    refine gk_seq ?_
    refine gk_region ?_
    refine gk_y rfl rfl (y_lss rfl rfl) ?_
    refine gk_nil (gk_sub (T' := [(2,_), (3,_), (5,_), (23,_), (24,_), (25,_)]) ⟨rfl, rfl, rfl, rfl, rfl, rfl, trivial⟩ ?_)
    refine gk_seq ?_
    refine gk_cond rfl (fun hc25 => ?_) (fun hc25 => ?_)
    · simp only [decide_eq_true_eq] at hc25
      refine gk_skip ?_
      refine gk_seq ?_
      refine gk_block ?_
      refine gk_seq ?_
      refine gk_region ?_
      refine gk_y rfl rfl (y_move rfl) ?_
      refine gk_y rfl rfl (y_assign rfl) ?_
      refine gk_nil (gk_sub (T' := [(2,_), (3,_), (5,_), (6,_), (23,_), (24,_)]) ⟨rfl, rfl, rfl, rfl, rfl, rfl, trivial⟩ ?_)
      refine gk_any 9 (fun _ => mixed) (by kernel_rfl) ?_
      refine ph_y (y_move rfl) ?_
      refine ph_y (y_move rfl) ?_
      refine ph_y (y_move rfl) ?_
      refine ph_y (y_move rfl) ?_
      refine ph_y (y_indexN se49 rfl rfl (fun _ hw => (has_row encPt_ok (hw.has (p := 1) rfl))) g3 (by omega) (by omega)) ?_
      refine ph_y (y_loadE (vs := [_, _]) tf50 rfl (fun _ hw => (has_row encPt_ok (hw.has (p := 1) rfl))) (by omega) (by omega) rfl) ?_
      refine ph_y (y_loadBA 2 tf50 rfl rfl (vs := [_, _]) rfl rfl) ?_
      refine ph_y (y_call en84 rfl (fun w hw => sub_c ⟨_, _⟩ ⟨_, _⟩ w)) ?_
      refine ph_y (y_indexN se49 rfl rfl (fun _ hw => (has_row encPt_ok (hw.has (p := 1) rfl))) g3 (by omega) (by omega)) ?_
      refine gk_sub (T' := [(2,_), (3,_), (5,_), (23,_), (24,_), (34,_), (35,_)]) ⟨rfl, rfl, rfl, rfl, rfl, rfl, rfl, trivial⟩ ?_
      refine gk_storeE (x' := ⟨((subW (m.getD (i).toNat default) (leastL l)).x), ((subW (m.getD (i).toNat default) (leastL l)).z)⟩) 1 encPt_ok tf50 rfl rfl (vs := [_, _]) rfl rfl rfl (by omega) (by omega) ?_
      refine gk_nil (gk_sub (T' := [(2,_), (3,_), (5,_), (23,_), (24,_)]) ⟨rfl, rfl, rfl, rfl, rfl, trivial⟩ ?_)
      refine gk_region ?_
      refine gk_y rfl rfl (y_addI rfl rfl (by omega) (by omega)) ?_
      refine gk_y rfl rfl (y_move rfl) ?_
      refine gk_nil (gk_sub (T' := [(2,_), (3,_), (5,_), (23,_), (24,_)]) ⟨rfl, rfl, rfl, rfl, rfl, trivial⟩ ?_)
      exact gk_next (i + 1, _) ⟨rfl, rfl, rfl, rfl, rfl, trivial⟩ rfl ⟨by omega, by omega, by rw [List.length_set]; exact g3, map_step g0 (by omega) g2⟩ (by simp only []; omega)
    · simp only [decide_eq_false_iff_not] at hc25
      refine gk_exit rfl ?_
      refine gk_seq ?_
      refine gk_region ?_
      refine gk_y rfl rfl (y_move rfl) ?_
      refine gk_y rfl rfl (y_assign rfl) ?_
      refine gk_nil (gk_sub (T' := [(2,_)]) ⟨rfl, trivial⟩ ?_)
      obtain rfl : m = settledW l := setp_end (o := (l.drop (findI (eqB (minF lowerW l)) l).toNat ++ l.take (findI (eqB (minF lowerW l)) l).toNat)) g2 (by omega)
      refine gk_ret ?_
      refine gk_gives p21 1 (rv_one rfl (r1_tmp rfl)) ?_ rfl
      exact congrArg (fun n => Value.slice _ n _) g3.symm
end Go.Proofs.YtmpaebfjnjmmlaaGreatDoor

namespace Go.Proofs.YtmpaebfjnjmmlaaGreatDoor
open Go.K Go.Stn Go.RowKit
theorem tf4 : TF Tryz.prog 4 false 1 (.bool false) := ⟨by kernel_rfl, by kernel_rfl⟩
theorem en48 : En Tryz.prog 48 := en_of Tryz.func48 (by kernel_rfl) (by kernel_rfl)
theorem en49 : En Tryz.prog 49 := en_of Tryz.func49 (by kernel_rfl) (by kernel_rfl)
theorem en50 : En Tryz.prog 50 := en_of Tryz.func50 (by kernel_rfl) (by kernel_rfl)
theorem en51 : En Tryz.prog 51 := en_of Tryz.func51 (by kernel_rfl) (by kernel_rfl)
theorem en58 : En Tryz.prog 58 := en_of Tryz.func58 (by kernel_rfl) (by kernel_rfl)
theorem en86 : En Tryz.prog 86 := en_of Tryz.func86 (by kernel_rfl) (by kernel_rfl)
theorem bd52_  (w : World) : (Instr.build 52 #[]).run Tryz.prog w = .ok (.agg #[.string ⟨#[]⟩, .slice none 0 0, .int IntKind.i64 0, .int IntKind.i64 0, .int IntKind.i64 0, .int IntKind.i64 0]) w := by kernel_rfl
set_option maxRecDepth 100000 in
set_option maxHeartbeats 1000000 in
theorem edge_c (a : Option Addr) (cap : Nat) (s : Stn) (x : Pt) (w : World) (hl : Has w (Pts a s.shape)) (hs : Small s.shape.length) :
    Calls Tryz.prog 48 #[.agg #[.string s.name, .slice a s.shape.length cap, .int .i64 s.depth, .int .i64 s.density, .int .i64 s.grain.x, .int .i64 s.grain.z], .agg #[.int .i64 x.x, .int .i64 x.z]] w (Pure (.int .i64 (edgeI s.shape x)) w) := by
  refine calls_of_gk (vs := [_, _]) Tryz.func48 rfl rfl (Nat.le_of_ble_eq_true rfl) ?_
  refine gk_seq ?_
  refine gk_region ?_
  refine gk_yx rfl rfl (yx_box (vs := [_, _, _, _, _, _]) rfl rfl) fun b2 => ?_
  refine gk_yx rfl rfl (yx_box (vs := [_, _]) rfl rfl) fun b3 => ?_
  refine gk_yx rfl rfl (yx_alloc tf3 (zs := [_]) rfl) fun b4 => ?_
  refine gk_nil (gk_sub (T' := [(2,_), (3,_), (4,_)]) ⟨rfl, rfl, rfl, trivial⟩ ?_)
  refine gk_seq ?_
  refine gk_seq ?_
  refine gk_any 10 (fun _ => mixed) (by kernel_rfl) ?_
  refine ph_y (y_fieldAddr fo50_0 rfl) ?_
  refine ph_y (y_loadB1 1 tf3 rfl rfl rfl) ?_
  refine ph_y (y_call en55 rfl (fun w hw => within_c _ _ _ w)) ?_
  refine ph_y (y_not rfl) ?_
  refine ph_y (y_move rfl) ?_
  refine ph_gF rfl rfl (fun hgd => by (try rw [hgd]); exact (y_fieldAddr fo50_1 rfl)) ?_
  refine ph_gF rfl rfl (fun hgd => by (try rw [hgd]); exact (y_loadB1 1 tf3 rfl rfl rfl)) ?_
  refine ph_gF rfl rfl (fun hgd => by (try rw [hgd]); exact (y_call (v := .bool (decide (0 ≤ x.z) && decide (x.z ≤ 2000))) en55 rfl (fun w hw => within_c _ _ _ w))) ?_
  refine ph_gF rfl rfl (fun hgd => by (try rw [hgd]); exact (y_not rfl)) ?_
  refine ph_y (y_pickOr rfl rfl rfl) ?_
  refine gk_nil (gk_sub (T' := [(2,_), (3,_), (4,_), (18,_)]) ⟨rfl, rfl, rfl, rfl, trivial⟩ ?_)
  refine gk_cond rfl (fun hc18 => ?_) (fun hc18 => ?_)
  · skip
    refine gk_seq ?_
    refine gk_region ?_
    refine gk_storeV 0 tf3 rfl rfl (vs := [_]) rfl rfl rfl rfl rfl ?_
    refine gk_nil (gk_sub (T' := [(2,_), (3,_), (4,_)]) ⟨rfl, rfl, rfl, trivial⟩ ?_)
    refine gk_ret ?_
    refine gk_pure (rv_one rfl (r1_cell1 (i := 0) tf3 rfl rfl rfl)) ?_
    rw [edgeI, if_pos (show farB x = true from hc18)]
  · skip
    refine gk_skip ?_
    refine gk_seq ?_
    refine gk_region ?_
    refine gk_yx rfl rfl (yx_alloc tf3 (zs := [_]) rfl) fun b5 => ?_
    refine gk_storeV 0 tf3 rfl rfl (vs := [_]) rfl rfl rfl rfl rfl ?_
    refine gk_nil (gk_sub (T' := [(2,_), (3,_), (4,_), (5,_)]) ⟨rfl, rfl, rfl, rfl, trivial⟩ ?_)
    refine gk_seq ?_
    refine gk_seq ?_
    refine gk_region ?_
    refine gk_y rfl rfl (y_fieldAddr fo52_1 rfl) ?_
    refine gk_y rfl rfl (y_loadB1 3 tf49 rfl rfl rfl) ?_
    refine gk_yx rfl rfl (yx_call en83 rfl (fun w hw => edges_c _ _ s.shape w)) fun p21 => ?_
    refine gk_nil (gk_sub (T' := [(3,_), (4,_), (5,_), (21,_)]) ⟨rfl, rfl, rfl, rfl, trivial⟩ ?_)
    refine gk_block ?_
    refine gk_sub (T' := [(3,_), (4,_), (5,_), (21,_)]) ⟨rfl, rfl, rfl, rfl, trivial⟩ ?_
    refine gk_rangeFunc (X := Int × Int) (fun ⟨i, r⟩ => [Box p21 [.slice a s.shape.length cap] 49, Box b5 [.int .i64 i] 3, Box b4 [.int .i64 r] 3, Box b3 [.int .i64 x.x, .int .i64 x.z] 50, Box b2 [.string s.name, .slice a s.shape.length cap, .int .i64 s.depth, .int .i64 s.density, .int .i64 s.grain.x, .int .i64 s.grain.z] 52]) (fun n ⟨i, r⟩ => i = (n : Int) ∧ r = 0 ∧ ∀ j e, j < n → (edgesL s.shape)[j]? = some e → onE x e = false) (fun ⟨i, r⟩ => r = findI (onE x) (edgesL s.shape)) [] (0, 0) rfl en123 rfl rfl ⟨rfl, rfl, fun j e hj => absurd hj (by omega)⟩ (edges1_c _ _ s.shape _ (by assumption)) (fun ⟨i, r⟩ w hw => ⟨hw.has (p := 0) rfl, (Rd.has (Has.rd hl) hw)⟩) (edges_two _) rfl ?_ ?_ ?_ ?_
    · rintro R1 R2 rl U' w' n ⟨i, r⟩ args hget hR hrd hins hbeg
      obtain ⟨e, he, rfl⟩ := edge_inv hget
      obtain ⟨hi1, hr1, hN⟩ := hR
      have hn := edge_n he
      refine gk_sub (T' := [(3,_), (4,_), (5,_), (22,_), (23,_)]) ⟨rfl, rfl, rfl, rfl, rfl, trivial⟩ ?_
      refine gk_seq ?_
      refine gk_region ?_
      refine gk_yx rfl rfl (yx_alloc tf50 (zs := [_, _]) rfl) fun b6 => ?_
      refine gk_storeV 0 tf50 rfl rfl (vs := [_, _]) rfl rfl rfl rfl rfl ?_
      refine gk_nil (gk_sub (T' := [(3,_), (4,_), (5,_), (6,_), (23,_)]) ⟨rfl, rfl, rfl, rfl, rfl, trivial⟩ ?_)
      refine gk_region ?_
      refine gk_yx rfl rfl (yx_alloc tf50 (zs := [_, _]) rfl) fun b7 => ?_
      refine gk_storeV 0 tf50 rfl rfl (vs := [_, _]) rfl rfl rfl rfl rfl ?_
      refine gk_nil (gk_sub (T' := [(3,_), (4,_), (5,_), (6,_), (7,_)]) ⟨rfl, rfl, rfl, rfl, rfl, trivial⟩ ?_)
      refine gk_front 2 rfl ?_
      refine hbeg _ _ _ ?_
      refine gk_block ?_
      refine gk_seq ?_
      refine gk_region ?_
      refine gk_y rfl rfl (y_loadBA 6 tf50 rfl rfl (vs := [_, _]) rfl rfl) ?_
      refine gk_y rfl rfl (y_loadBA 2 tf50 rfl rfl (vs := [_, _]) rfl rfl) ?_
      refine gk_y rfl rfl (y_call en84 rfl (fun w hw => sub_c ⟨_, _⟩ ⟨_, _⟩ w)) ?_
      refine gk_yx rfl rfl (yx_alloc tf50 (zs := [_, _]) rfl) fun b8 => ?_
      refine gk_storeV 0 tf50 rfl rfl (vs := [_, _]) rfl rfl rfl rfl rfl ?_
      refine gk_nil (gk_sub (T' := [(4,_), (5,_), (6,_), (7,_), (8,_)]) ⟨rfl, rfl, rfl, rfl, rfl, trivial⟩ ?_)
      refine gk_seq ?_
      refine gk_seq ?_
      refine gk_any 27 (fun _ => mixed) (by kernel_rfl) ?_
      refine ph_y (y_loadBA 2 tf50 rfl rfl (vs := [_, _]) rfl rfl) ?_
      refine ph_y (y_loadBA 3 tf50 rfl rfl (vs := [_, _]) rfl rfl) ?_
      refine ph_y (y_call en84 rfl (fun w hw => sub_c ⟨_, _⟩ ⟨_, _⟩ w)) ?_
      refine ph_y (y_loadBA 0 tf50 rfl rfl (vs := [_, _]) rfl rfl) ?_
      refine ph_y (y_call en85 rfl (fun w hw => cross_c ⟨_, _⟩ ⟨_, _⟩ w)) ?_
      refine ph_y (y_eql rfl rfl) ?_
      refine ph_y (y_move rfl) ?_
      refine ph_gT rfl rfl (fun hgd => by (try rw [hgd]); exact (y_loadBA 0 tf50 rfl rfl (vs := [_, _]) rfl rfl)) ?_
      refine ph_gT rfl rfl (fun hgd => by (try rw [hgd]); exact (y_loadBA 2 tf50 rfl rfl (vs := [_, _]) rfl rfl)) ?_
      refine ph_gT rfl rfl (fun hgd => by (try rw [hgd]); exact (y_loadBA 3 tf50 rfl rfl (vs := [_, _]) rfl rfl)) ?_
      refine ph_gT rfl rfl (fun hgd => by (try rw [hgd]); exact (y_call (v := .agg #[.int .i64 ((subW e.2 e.1).x), .int .i64 ((subW e.2 e.1).z)]) en84 rfl (fun w hw => sub_c ⟨_, _⟩ ⟨_, _⟩ w))) ?_
      refine ph_gT rfl rfl (fun hgd => by (try rw [hgd]); exact (y_call (v := .int .i64 (dotW (subW x e.1) (subW e.2 e.1))) en86 rfl (fun w hw => dot_c ⟨_, _⟩ ⟨_, _⟩ w))) ?_
      refine ph_gT rfl rfl (fun hgd => by (try rw [hgd]); exact (y_geq rfl rfl)) ?_
      refine ph_y (y_pickAnd rfl rfl rfl) ?_
      refine ph_y (y_move rfl) ?_
      refine ph_gT rfl rfl (fun hgd => by (try rw [hgd]); exact (y_loadBA 0 tf50 rfl rfl (vs := [_, _]) rfl rfl)) ?_
      refine ph_gT rfl rfl (fun hgd => by (try rw [hgd]); exact (y_loadBA 0 tf50 rfl rfl (vs := [_, _]) rfl rfl)) ?_
      refine ph_gT rfl rfl (fun hgd => by (try rw [hgd]); exact (y_call (v := .int .i64 (dotW (subW x e.1) (subW x e.1))) en86 rfl (fun w hw => dot_c ⟨_, _⟩ ⟨_, _⟩ w))) ?_
      refine ph_gT rfl rfl (fun hgd => by (try rw [hgd]); exact (y_loadBA 2 tf50 rfl rfl (vs := [_, _]) rfl rfl)) ?_
      refine ph_gT rfl rfl (fun hgd => by (try rw [hgd]); exact (y_loadBA 3 tf50 rfl rfl (vs := [_, _]) rfl rfl)) ?_
      refine ph_gT rfl rfl (fun hgd => by (try rw [hgd]); exact (y_call (v := .agg #[.int .i64 ((subW e.2 e.1).x), .int .i64 ((subW e.2 e.1).z)]) en84 rfl (fun w hw => sub_c ⟨_, _⟩ ⟨_, _⟩ w))) ?_
      refine ph_gT rfl rfl (fun hgd => by (try rw [hgd]); exact (y_loadBA 2 tf50 rfl rfl (vs := [_, _]) rfl rfl)) ?_
      refine ph_gT rfl rfl (fun hgd => by (try rw [hgd]); exact (y_loadBA 3 tf50 rfl rfl (vs := [_, _]) rfl rfl)) ?_
      refine ph_gT rfl rfl (fun hgd => by (try rw [hgd]); exact (y_call (v := .agg #[.int .i64 ((subW e.2 e.1).x), .int .i64 ((subW e.2 e.1).z)]) en84 rfl (fun w hw => sub_c ⟨_, _⟩ ⟨_, _⟩ w))) ?_
      refine ph_gT rfl rfl (fun hgd => by (try rw [hgd]); exact (y_call (v := .int .i64 (dotW (subW e.2 e.1) (subW e.2 e.1))) en86 rfl (fun w hw => dot_c ⟨_, _⟩ ⟨_, _⟩ w))) ?_
      refine ph_gT rfl rfl (fun hgd => by (try rw [hgd]); exact (y_lss rfl rfl)) ?_
      refine ph_y (y_pickAnd rfl rfl rfl) ?_
      refine gk_nil (gk_sub (T' := [(4,_), (5,_), (53,_)]) ⟨rfl, rfl, rfl, trivial⟩ ?_)
      refine gk_cond rfl (fun hc53 => ?_) (fun hc53 => ?_)
      · skip
        refine gk_seq ?_
        refine gk_region ?_
        refine gk_y rfl rfl (y_loadB1 5 tf3 rfl rfl rfl) ?_
        refine gk_storeV 6 tf3 rfl rfl (vs := [_]) rfl rfl rfl rfl rfl ?_
        refine gk_nil (gk_sub (T' := [(4,_), (5,_)]) ⟨rfl, rfl, trivial⟩ ?_)
        refine gk_ret ?_
        refine gk_dropAt 0 rfl ?_
        refine gk_dropAt 1 rfl ?_
        refine gk_dropAt 1 rfl ?_
        exact gk_joined (i, i) trivial rfl (by show i = _; rw [hi1]; exact (findI_at he hN hc53).symm)
      · skip
        refine gk_skip ?_
        refine gk_region ?_
        refine gk_y rfl rfl (y_loadB1 5 tf3 rfl rfl rfl) ?_
        refine gk_y rfl rfl (y_addI rfl rfl (by omega) (by omega)) ?_
        refine gk_storeV 5 tf3 rfl rfl (vs := [_]) rfl rfl rfl rfl rfl ?_
        refine gk_nil (gk_sub (T' := [(4,_)]) ⟨rfl, trivial⟩ ?_)
        refine gk_dropAt 0 rfl ?_
        refine gk_dropAt 1 rfl ?_
        refine gk_dropAt 1 rfl ?_
        exact gk_joined (i + 1, r) trivial rfl ⟨by omega, hr1, none_succ he hN hc53⟩
    · rintro Dm ⟨i, r⟩ hR
      obtain ⟨hi1, hr1, hN⟩ := hR
      refine gk_seq ?_
      refine gk_region ?_
      refine gk_storeV 3 tf3 rfl rfl (vs := [_]) rfl rfl rfl rfl rfl ?_
      refine gk_nil (gk_sub (T' := [(4,_)]) ⟨rfl, trivial⟩ ?_)
      refine gk_ret ?_
      refine gk_unmark 0 rfl ?_
      refine gk_pure (rv_one rfl (r1_cell1 (i := 2) tf3 rfl rfl rfl)) ?_
      rw [edgeI, if_neg (show ¬ farB x = true by rw [show farB x = false from hc18]; exact Bool.false_ne_true), findI_no (fun j e hj => hN j e (by simpa [edgeVs] using hj))]
    · rintro Dm ⟨i, r⟩ hD
      refine gk_unmark 0 rfl ?_
      refine gk_pure (rv_one rfl (r1_cell1 (i := 2) tf3 rfl rfl rfl)) ?_
      rw [edgeI, if_neg (show ¬ farB x = true by rw [show farB x = false from hc18]; exact Bool.false_ne_true), hD]
    · exact fun _ _ _ _ h => absurd h (by simp)
set_option maxRecDepth 100000 in
set_option maxHeartbeats 1000000 in
theorem apart_c (a : Option Addr) (cap : Nat) (s : Stn) (p q : Pt) (w : World) (hl : Has w (Pts a s.shape)) (hs : Small s.shape.length) :
    Calls Tryz.prog 49 #[.agg #[.string s.name, .slice a s.shape.length cap, .int .i64 s.depth, .int .i64 s.density, .int .i64 s.grain.x, .int .i64 s.grain.z], .agg #[.int .i64 p.x, .int .i64 p.z], .agg #[.int .i64 q.x, .int .i64 q.z]] w (Pure (.bool (apartB s.shape p q)) w) := by
  refine calls_of_gk (vs := [_, _, _]) Tryz.func49 rfl rfl (Nat.le_of_ble_eq_true rfl) ?_
  refine gk_seq ?_
  refine gk_region ?_
  refine gk_yx rfl rfl (yx_box (vs := [_, _, _, _, _, _]) rfl rfl) fun b3 => ?_
  refine gk_yx rfl rfl (yx_box (vs := [_, _]) rfl rfl) fun b4 => ?_
  refine gk_yx rfl rfl (yx_box (vs := [_, _]) rfl rfl) fun b5 => ?_
  refine gk_yx rfl rfl (yx_alloc tf4 (zs := [_]) rfl) fun b6 => ?_
  refine gk_nil (gk_sub (T' := [(3,_), (4,_), (5,_), (6,_)]) ⟨rfl, rfl, rfl, rfl, trivial⟩ ?_)
  refine gk_seq ?_
  refine gk_seq ?_
  refine gk_region ?_
  refine gk_y rfl rfl (y_fieldAddr fo52_1 rfl) ?_
  refine gk_y rfl rfl (y_loadB1 3 tf49 rfl rfl rfl) ?_
  refine gk_yx rfl rfl (yx_call en83 rfl (fun w hw => edges_c _ _ s.shape w)) fun p11 => ?_
  refine gk_nil (gk_sub (T' := [(4,_), (5,_), (6,_), (11,_)]) ⟨rfl, rfl, rfl, rfl, trivial⟩ ?_)
  refine gk_block ?_
  refine gk_sub (T' := [(4,_), (5,_), (6,_), (11,_)]) ⟨rfl, rfl, rfl, rfl, trivial⟩ ?_
  refine gk_rangeFunc (X := Bool) (fun r => [Box p11 [.slice a s.shape.length cap] 49, Box b6 [.bool r] 4, Box b5 [.int .i64 q.x, .int .i64 q.z] 50, Box b4 [.int .i64 p.x, .int .i64 p.z] 50, Box b3 [.string s.name, .slice a s.shape.length cap, .int .i64 s.depth, .int .i64 s.density, .int .i64 s.grain.x, .int .i64 s.grain.z] 52]) (fun n r => r = false ∧ ∀ j e, j < n → (edgesL s.shape)[j]? = some e → both0 p q e = false) (fun r => r = false ∧ apartB s.shape p q = false) [] false rfl en123 rfl rfl ⟨rfl, fun j e hj => absurd hj (by omega)⟩ (edges1_c _ _ s.shape _ (by assumption)) (fun r w hw => ⟨hw.has (p := 0) rfl, (Rd.has (Has.rd hl) hw)⟩) (edges_two _) rfl ?_ ?_ ?_ ?_
  · rintro R1 R2 rl U' w' n r args hget hR hrd hins hbeg
    obtain ⟨e, he, rfl⟩ := edge_inv hget
    obtain ⟨hr1, hN⟩ := hR
    refine gk_sub (T' := [(4,_), (5,_), (6,_), (12,_), (13,_)]) ⟨rfl, rfl, rfl, rfl, rfl, trivial⟩ ?_
    refine gk_seq ?_
    refine gk_region ?_
    refine gk_yx rfl rfl (yx_alloc tf50 (zs := [_, _]) rfl) fun b7 => ?_
    refine gk_storeV 0 tf50 rfl rfl (vs := [_, _]) rfl rfl rfl rfl rfl ?_
    refine gk_nil (gk_sub (T' := [(4,_), (5,_), (6,_), (7,_), (13,_)]) ⟨rfl, rfl, rfl, rfl, rfl, trivial⟩ ?_)
    refine gk_region ?_
    refine gk_yx rfl rfl (yx_alloc tf50 (zs := [_, _]) rfl) fun b8 => ?_
    refine gk_storeV 0 tf50 rfl rfl (vs := [_, _]) rfl rfl rfl rfl rfl ?_
    refine gk_nil (gk_sub (T' := [(4,_), (5,_), (6,_), (7,_), (8,_)]) ⟨rfl, rfl, rfl, rfl, rfl, trivial⟩ ?_)
    refine gk_front 2 rfl ?_
    refine hbeg _ _ _ ?_
    refine gk_block ?_
    refine gk_seq ?_
    refine gk_any 12 (fun _ => mixed) (by kernel_rfl) ?_
    refine ph_y (y_loadBA 2 tf50 rfl rfl (vs := [_, _]) rfl rfl) ?_
    refine ph_y (y_loadBA 1 tf50 rfl rfl (vs := [_, _]) rfl rfl) ?_
    refine ph_y (y_loadBA 6 tf50 rfl rfl (vs := [_, _]) rfl rfl) ?_
    refine ph_y (y_call en87 rfl (fun w hw => turn_c ⟨_, _⟩ ⟨_, _⟩ ⟨_, _⟩ w)) ?_
    refine ph_y (y_eql rfl rfl) ?_
    refine ph_y (y_move rfl) ?_
    refine ph_gT rfl rfl (fun hgd => by (try rw [hgd]); exact (y_loadBA 2 tf50 rfl rfl (vs := [_, _]) rfl rfl)) ?_
    refine ph_gT rfl rfl (fun hgd => by (try rw [hgd]); exact (y_loadBA 1 tf50 rfl rfl (vs := [_, _]) rfl rfl)) ?_
    refine ph_gT rfl rfl (fun hgd => by (try rw [hgd]); exact (y_loadBA 5 tf50 rfl rfl (vs := [_, _]) rfl rfl)) ?_
    refine ph_gT rfl rfl (fun hgd => by (try rw [hgd]); exact (y_call (v := .int .i64 (turnW e.1 e.2 q)) en87 rfl (fun w hw => turn_c ⟨_, _⟩ ⟨_, _⟩ ⟨_, _⟩ w))) ?_
    refine ph_gT rfl rfl (fun hgd => by (try rw [hgd]); exact (y_eql rfl rfl)) ?_
    refine ph_y (y_pickAnd rfl rfl rfl) ?_
    refine gk_nil (gk_sub (T' := [(6,_), (25,_)]) ⟨rfl, rfl, trivial⟩ ?_)
    refine gk_cond rfl (fun hc25 => ?_) (fun hc25 => ?_)
    · skip
      refine gk_seq ?_
      refine gk_region ?_
      refine gk_storeV 4 tf4 rfl rfl (vs := [_]) rfl rfl rfl rfl rfl ?_
      refine gk_nil (gk_sub (T' := [(6,_)]) ⟨rfl, trivial⟩ ?_)
      refine gk_ret ?_
      refine gk_dropAt 1 rfl ?_
      refine gk_dropAt 1 rfl ?_
      exact gk_joined false trivial rfl ⟨rfl, apart_no he hc25⟩
    · skip
      refine gk_skip ?_
      refine gk_dropAt 1 rfl ?_
      refine gk_dropAt 1 rfl ?_
      exact gk_joined r trivial rfl ⟨hr1, none_succ he hN hc25⟩
  · intro Dm r hR
    obtain ⟨hr1, hN⟩ := hR
    refine gk_seq ?_
    refine gk_region ?_
    refine gk_storeV 2 tf4 rfl rfl (vs := [_]) rfl rfl rfl rfl rfl ?_
    refine gk_nil (gk_sub (T' := [(6,_)]) ⟨rfl, trivial⟩ ?_)
    refine gk_ret ?_
    refine gk_unmark 0 rfl ?_
    refine gk_pure (rv_one rfl (r1_cell1 (i := 1) tf4 rfl rfl rfl)) ?_
    rw [apart_yes (fun j e hj => hN j e (by simpa [edgeVs] using hj))]
  · rintro Dm r hD
    refine gk_unmark 0 rfl ?_
    refine gk_pure (rv_one rfl (r1_cell1 (i := 1) tf4 rfl rfl rfl)) ?_
    rw [hD.1, hD.2]
  · exact fun _ _ _ _ h => absurd h (by simp)
set_option maxRecDepth 100000 in
set_option maxHeartbeats 1000000 in
theorem right_c (a : Option Addr) (cap : Nat) (s : Stn) (p q : Pt) (w : World) (hl : Has w (Pts a s.shape)) (hs : Small s.shape.length) (h1 : 0 ≤ edgeI s.shape p) (h2 : 0 ≤ edgeI s.shape q) :
    Calls Tryz.prog 50 #[.agg #[.string s.name, .slice a s.shape.length cap, .int .i64 s.depth, .int .i64 s.density, .int .i64 s.grain.x, .int .i64 s.grain.z], .agg #[.int .i64 p.x, .int .i64 p.z], .agg #[.int .i64 q.x, .int .i64 q.z]] w (Gives (fun z : Option Addr × Nat => .slice z.1 (rightL s.shape p q).length z.2) (fun z => Row z.1 2 z.2 50 encPt (rightL s.shape p q)) w) := by
  have a1 := edge_lt (l := s.shape) (x := p)
  have a2 := edge_lt (l := s.shape) (x := q)
  have a3 := rightT_le h1 h2
  have a4 : 0 < s.shape.length := by omega
  refine calls_of_gk (vs := [_, _, _]) Tryz.func50 rfl rfl (Nat.le_of_ble_eq_true rfl) ?_
  refine gk_seq ?_
  refine gk_region ?_
  refine gk_yx rfl rfl (yx_box (vs := [_, _, _, _, _, _]) rfl rfl) fun b3 => ?_
  refine gk_yx rfl rfl (yx_box (vs := [_, _]) rfl rfl) fun b4 => ?_
  refine gk_yx rfl rfl (yx_box (vs := [_, _]) rfl rfl) fun b5 => ?_
  refine gk_y rfl rfl (y_assign rfl) ?_
  refine gk_nil (gk_sub (T' := [(3,_), (4,_), (5,_), (6,_)]) ⟨rfl, rfl, rfl, rfl, trivial⟩ ?_)
  refine gk_seq ?_
  refine gk_region ?_
  refine gk_y rfl rfl (y_loadBA 1 tf50 rfl rfl (vs := [_, _]) rfl rfl) ?_
  refine gk_yx rfl rfl (yx_buildSlice rfl (bs49_1 _ _) encPt_ok rfl) fun b11 => ?_
  refine gk_y rfl rfl (y_assign rfl) ?_
  refine gk_nil (gk_sub (T' := [(3,_), (4,_), (5,_), (6,_), (7,_)]) ⟨rfl, rfl, rfl, rfl, rfl, trivial⟩ ?_)
  refine gk_seq ?_
  refine gk_region ?_
  refine gk_y rfl rfl (y_loadBA 3 tf52 rfl rfl (vs := [_, _, _, _, _, _]) rfl rfl) ?_
  refine gk_y rfl rfl (y_loadBA 2 tf50 rfl rfl (vs := [_, _]) rfl rfl) ?_
  refine gk_y rfl rfl (y_call en48 rfl (fun w hw => edge_c _ _ s p w (Rd.has (Has.rd hl) hw) (by assumption))) ?_
  refine gk_y rfl rfl (y_addI rfl rfl (by omega) (by omega)) ?_
  refine gk_y rfl rfl (y_assign rfl) ?_
  refine gk_nil (gk_sub (T' := [(3,_), (5,_), (6,_), (7,_), (8,_)]) ⟨rfl, rfl, rfl, rfl, rfl, trivial⟩ ?_)
  refine gk_block ?_
  refine gk_loop (X := Nat × Int × Option Addr × Nat × List Pt) (fun ⟨m, i, b, bc, o⟩ => [(3, .pointer (some ⟨b3, 0, none⟩)), (5, .pointer (some ⟨b5, 0, none⟩)), (6, .slice none 0 0), (7, .slice b o.length bc), (8, .int .i64 i)]) (fun ⟨m, i, b, bc, o⟩ => [Row b 2 bc 50 encPt o, Box b5 [.int .i64 q.x, .int .i64 q.z] 50, Box b4 [.int .i64 p.x, .int .i64 p.z] 50, Box b3 [.string s.name, .slice a s.shape.length cap, .int .i64 s.depth, .int .i64 s.density, .int .i64 s.grain.x, .int .i64 s.grain.z] 52]) (fun ⟨m, i, b, bc, o⟩ => (m ≤ rightT s.shape p q ∧ i = edgeI s.shape p + 1 + (m : Int) ∧ o.length ≤ m + 1 ∧ rightL s.shape p q = o ++ rightN s.shape q (rightT s.shape p q - m) i)) (fun ⟨m, i, b, bc, o⟩ => rightT s.shape p q - m) (0, edgeI s.shape p + 1, (some ⟨b11, 0, none⟩), 1, [p]) ⟨rfl, rfl, rfl, rfl, rfl, trivial⟩ rfl ?_ ?_
  · exact ⟨by omega, by omega, by simp, rfl⟩
  · rintro ⟨m, i, b, bc, o⟩ hI
    obtain ⟨g0, g1, g2, g3⟩ := hI
    refine gk_seq ?_
    refine gk_block ?_
    refine gk_seq ?_
    refine gk_region ?_
    refine gk_y rfl rfl (y_fieldAddr fo52_1 rfl) ?_
    refine gk_y rfl rfl (y_loadB1 3 tf49 rfl rfl rfl) ?_
    refine gk_y rfl rfl (y_move rfl) ?_
    refine gk_y rfl rfl (y_call en88 rfl (fun w hw => at_c _ _ s.shape i w (Rd.has (Has.rd hl) hw) (by assumption) (by omega) (by omega) (by omega))) ?_
    refine gk_yx rfl rfl (yx_alloc tf50 (zs := [_, _]) rfl) fun b9 => ?_
    refine gk_storeV 0 tf50 rfl rfl (vs := [_, _]) rfl rfl rfl rfl rfl ?_
    refine gk_nil (gk_sub (T' := [(3,_), (5,_), (6,_), (7,_), (8,_), (9,_)]) ⟨rfl, rfl, rfl, rfl, rfl, rfl, trivial⟩ ?_)
    refine gk_seq ?_
    refine gk_seq ?_
    refine gk_any 19 (fun _ => mixed) (by kernel_rfl) ?_
    refine ph_y (y_loadBA 0 tf50 rfl rfl (vs := [_, _]) rfl rfl) ?_
    refine ph_y (y_loadBA 2 tf50 rfl rfl (vs := [_, _]) rfl rfl) ?_
    refine ph_y (y_eql50 rfl rfl) ?_
    refine ph_y (y_move rfl) ?_
    refine ph_gF rfl rfl (fun hgd => by (try rw [hgd]); exact (y_loadBA 4 tf52 rfl rfl (vs := [_, _, _, _, _, _]) rfl rfl)) ?_
    refine ph_gF rfl rfl (fun hgd => by (try rw [hgd]); exact (y_loadBA 2 tf50 rfl rfl (vs := [_, _]) rfl rfl)) ?_
    refine ph_gF rfl rfl (fun hgd => by (try rw [hgd]); exact (y_call (v := .int .i64 (edgeI s.shape q)) en48 rfl (fun w hw => edge_c _ _ s q w (Rd.has (Has.rd hl) hw) (by assumption)))) ?_
    refine ph_gF rfl rfl (fun hgd => by (try rw [hgd]); exact (y_move rfl)) ?_
    refine ph_gF rfl rfl (fun hgd => by (try rw [hgd]); exact (y_subI rfl rfl (by omega) (by omega))) ?_
    refine ph_gF rfl rfl (fun hgd => by (try rw [hgd]); exact (y_fieldAddr fo52_1 rfl)) ?_
    refine ph_gF rfl rfl (fun hgd => by (try rw [hgd]); exact (y_loadB1 4 tf49 rfl rfl rfl)) ?_
    refine ph_gF rfl rfl (fun hgd => by (try rw [hgd]); exact (y_lenS (Tryz.underlying49) rfl)) ?_
    refine ph_gF rfl rfl (fun hgd => by (try rw [hgd]); exact (y_addI rfl rfl (by omega) (by omega))) ?_
    refine ph_gF rfl rfl (fun hgd => by (try rw [hgd]); exact (y_fieldAddr fo52_1 rfl)) ?_
    refine ph_gF rfl rfl (fun hgd => by (try rw [hgd]); exact (y_loadB1 4 tf49 rfl rfl rfl)) ?_
    refine ph_gF rfl rfl (fun hgd => by (try rw [hgd]); exact (y_lenS (Tryz.underlying49) rfl)) ?_
    refine ph_gF rfl rfl (fun hgd => by (try rw [hgd]); exact (y_rem rfl rfl (by omega))) ?_
    refine ph_gF rfl rfl (fun hgd => by (try rw [hgd]); exact (y_eql rfl rfl)) ?_
    refine ph_y (y_pickOr rfl rfl rfl) ?_
    refine gk_nil (gk_sub (T' := [(3,_), (5,_), (6,_), (7,_), (8,_), (9,_), (40,_)]) ⟨rfl, rfl, rfl, rfl, rfl, rfl, rfl, trivial⟩ ?_)
    refine gk_cond rfl (fun hc40 => ?_) (fun hc40 => ?_)
    · have hfin := right_stop h1 h2 g0 g1 g3 hc40
      refine gk_seq ?_
      refine gk_region ?_
      refine gk_y rfl rfl (y_move rfl) ?_
      refine gk_y rfl rfl (y_loadBA 2 tf50 rfl rfl (vs := [_, _]) rfl rfl) ?_
      refine gk_yx rfl rfl (yx_buildSlice rfl (bs49_1 _ _) encPt_ok rfl) fun b43 => ?_
      refine gk_append (m := [⟨q.x, q.z⟩]) 2 af49 encPt_ok rfl rfl rfl rfl (fun _ hw => (has_row encPt_ok (hw.has (p := 0) rfl))) (by first | omega | (simp only [List.length_cons, List.length_nil]; omega)) (by first | (unfold maxLen; omega) | (simp only [List.length_cons, List.length_nil, maxLen]; omega)) fun a44 c44 => ?_
      refine gk_y rfl rfl (y_assign rfl) ?_
      refine gk_nil (gk_sub (T' := [(3,_), (5,_), (6,_), (7,_), (8,_), (9,_)]) ⟨rfl, rfl, rfl, rfl, rfl, rfl, trivial⟩ ?_)
      refine gk_ret ?_
      refine gk_gives (a44, c44) 2 (rv_one rfl (r1_tmp rfl)) ?_ (by rw [← hfin]; rfl)
      rw [← hfin]
    · have hgo := right_go h1 h2 g0 g1 g3 hc40
      refine gk_skip ?_
      refine gk_region ?_
      refine gk_y rfl rfl (y_move rfl) ?_
      refine gk_y rfl rfl (y_loadBA 0 tf50 rfl rfl (vs := [_, _]) rfl rfl) ?_
      refine gk_yx rfl rfl (yx_buildSlice rfl (bs49_1 _ _) encPt_ok rfl) fun b47 => ?_
      refine gk_append (m := [⟨((atL s.shape i).x), ((atL s.shape i).z)⟩]) 2 af49 encPt_ok rfl rfl rfl rfl (fun _ hw => (has_row encPt_ok (hw.has (p := 0) rfl))) (by first | omega | (simp only [List.length_cons, List.length_nil]; omega)) (by first | (unfold maxLen; omega) | (simp only [List.length_cons, List.length_nil, maxLen]; omega)) fun a48 c48 => ?_
      refine gk_y rfl rfl (y_assign rfl) ?_
      refine gk_nil (gk_sub (T' := [(3,_), (5,_), (6,_), (7,_), (8,_)]) ⟨rfl, rfl, rfl, rfl, rfl, trivial⟩ ?_)
      refine gk_region ?_
      refine gk_y rfl rfl (y_move rfl) ?_
      refine gk_y rfl rfl (y_addI rfl rfl (by omega) (by omega)) ?_
      refine gk_y rfl rfl (y_assign rfl) ?_
      refine gk_nil (gk_sub (T' := [(3,_), (5,_), (6,_), (7,_), (8,_)]) ⟨rfl, rfl, rfl, rfl, rfl, trivial⟩ ?_)
      refine gk_dropAt 0 rfl ?_
      refine gk_dropAt 0 rfl ?_
      exact gk_next (m + 1, i + 1, a48, c48, _) ⟨rfl, rfl, rfl, rfl, rfl, trivial⟩ rfl ⟨hgo.1, by omega, by rw [List.length_append]; simp only [List.length_cons, List.length_nil]; omega, hgo.2⟩ (by have := hgo.1; simp only []; omega)
set_option maxRecDepth 100000 in
set_option maxHeartbeats 1000000 in
theorem piece_c (a : Option Addr) (cap : Nat) (s : Stn) (c : ByteArray) (a2 : Option Addr) (cap2 : Nat) (l : List Pt) (w : World) (hl2 : Has w (Pts a2 l)) (hs2 : Small l.length) (h0 : 0 < l.length) (hcap : l.length ≤ cap2) (hn : s.name.size + c.size ≤ 4096) :
    Calls Tryz.prog 51 #[.agg #[.string s.name, .slice a s.shape.length cap, .int .i64 s.depth, .int .i64 s.density, .int .i64 s.grain.x, .int .i64 s.grain.z], .string c, .slice a2 l.length cap2] w (Gives (fun z : Option Addr × Nat => stnV (pieceW s c l) z.1 z.2) (fun z => Row z.1 2 z.2 50 encPt (pieceW s c l).shape) w) := by
  refine calls_of_gk (vs := [_, _, _]) Tryz.func51 rfl rfl (Nat.le_of_ble_eq_true rfl) ?_
  refine gk_seq ?_
  refine gk_region ?_
  refine gk_yx rfl rfl (yx_box (vs := [_, _, _, _, _, _]) rfl rfl) fun b3 => ?_
  refine gk_yx rfl rfl (yx_alloc tf52 (zs := [_, _, _, _, _, _]) rfl) fun b6 => ?_
  refine gk_nil (gk_sub (T' := [(1,_), (2,_), (3,_), (6,_)]) ⟨rfl, rfl, rfl, rfl, trivial⟩ ?_)
  refine gk_seq ?_
  refine gk_region ?_
  refine gk_y rfl rfl (y_fieldAddr fo52_0 rfl) ?_
  refine gk_y rfl rfl (y_loadB1 1 tf9 rfl rfl rfl) ?_
  refine gk_y rfl rfl (y_move rfl) ?_
  refine gk_y rfl rfl (y_strAdd rfl rfl (by omega)) ?_
  refine gk_y rfl rfl (y_fieldAddr fo52_0 rfl) ?_
  refine gk_storeV 1 tf9 rfl rfl (vs := [_]) rfl rfl rfl rfl rfl ?_
  refine gk_nil (gk_sub (T' := [(2,_), (3,_), (6,_)]) ⟨rfl, rfl, rfl, trivial⟩ ?_)
  refine gk_seq ?_
  refine gk_region ?_
  refine gk_y rfl rfl (y_move rfl) ?_
  refine gk_yx rfl rfl (yx_call en58 rfl (fun w hw => settled_c _ _ l w (Rd.has (Has.rd hl2) hw) (by assumption) (by assumption) hcap)) fun p13 => ?_
  refine gk_y rfl rfl (y_fieldAddr fo52_1 rfl) ?_
  refine gk_storeV 2 tf49 rfl rfl (vs := [_]) rfl rfl rfl rfl rfl ?_
  refine gk_nil (gk_sub (T' := [(3,_), (6,_)]) ⟨rfl, rfl, trivial⟩ ?_)
  refine gk_seq ?_
  refine gk_region ?_
  refine gk_y rfl rfl (y_loadBA 2 tf52 rfl rfl (vs := [_, _, _, _, _, _]) rfl rfl) ?_
  refine gk_storeV 1 tf52 rfl rfl (vs := [_, _, _, _, _, _]) rfl rfl rfl rfl rfl ?_
  refine gk_nil (gk_sub (T' := [(6,_)]) ⟨rfl, trivial⟩ ?_)
  refine gk_ret ?_
  refine gk_gives p13 0 (rv_one rfl (r1_cellA (i := 1) (vs := [_, _, _, _, _, _]) tf52 rfl rfl rfl rfl)) ?_ rfl
  rfl
set_option maxRecDepth 100000 in
set_option maxHeartbeats 1000000 in
theorem Split_c (a : Option Addr) (cap : Nat) (s : Stn) (p q : Pt) (w : World) (hl : Has w (Pts a s.shape)) (hs : Small s.shape.length) :
    Calls Tryz.prog 21 #[.agg #[.string s.name, .slice a s.shape.length cap, .int .i64 s.depth, .int .i64 s.density, .int .i64 s.grain.x, .int .i64 s.grain.z], .agg #[.int .i64 p.x, .int .i64 p.z], .agg #[.int .i64 q.x, .int .i64 q.z]] w (Gives (fun z : (Option Addr × Nat) × (Option Addr × Nat) => .tuple #[stnV (splitA s p q) z.1.1 z.1.2, stnV (splitB s p q) z.2.1 z.2.2, .int .i64 (splitE s p q)]) (fun z => SepR [Row z.1.1 2 z.1.2 50 encPt (splitA s p q).shape, Row z.2.1 2 z.2.2 50 encPt (splitB s p q).shape]) w) := by
  refine calls_of_gk (vs := [_, _, _]) Tryz.func21 rfl rfl (Nat.le_of_ble_eq_true rfl) ?_
  refine gk_seq ?_
  refine gk_region ?_
  refine gk_yx rfl rfl (yx_box (vs := [_, _, _, _, _, _]) rfl rfl) fun b3 => ?_
  refine gk_yx rfl rfl (yx_box (vs := [_, _]) rfl rfl) fun b4 => ?_
  refine gk_yx rfl rfl (yx_box (vs := [_, _]) rfl rfl) fun b5 => ?_
  refine gk_yx rfl rfl (yx_alloc tf52 (zs := [_, _, _, _, _, _]) rfl) fun b6 => ?_
  refine gk_yx rfl rfl (yx_alloc tf52 (zs := [_, _, _, _, _, _]) rfl) fun b7 => ?_
  refine gk_y rfl rfl (y_assign rfl) ?_
  refine gk_nil (gk_sub (T' := [(3,_), (4,_), (5,_), (6,_), (7,_), (8,_)]) ⟨rfl, rfl, rfl, rfl, rfl, rfl, trivial⟩ ?_)
  refine gk_seq ?_
  refine gk_seq ?_
  refine gk_region ?_
  refine gk_y rfl rfl (y_loadBA 4 tf52 rfl rfl (vs := [_, _, _, _, _, _]) rfl rfl) ?_
  refine gk_y rfl rfl (y_call en38 rfl (fun w hw => check_c _ _ s w (Rd.has (Has.rd hl) hw) (by assumption))) ?_
  refine gk_y rfl rfl (y_assign rfl) ?_
  refine gk_nil (gk_sub (T' := [(3,_), (4,_), (5,_), (6,_), (7,_), (8,_), (9,_)]) ⟨rfl, rfl, rfl, rfl, rfl, rfl, rfl, trivial⟩ ?_)
  refine gk_seq ?_
  refine gk_region ?_
  refine gk_y rfl rfl (y_move rfl) ?_
  refine gk_y rfl rfl (y_neq rfl rfl) ?_
  refine gk_nil (gk_sub (T' := [(3,_), (4,_), (5,_), (6,_), (7,_), (8,_), (9,_), (15,_)]) ⟨rfl, rfl, rfl, rfl, rfl, rfl, rfl, rfl, trivial⟩ ?_)
  refine gk_cond rfl (fun hc15 => ?_) (fun hc15 => ?_)
  · have hk : ¬ checkI s = 0 := by simpa using hc15
    have hE : splitE s p q = checkI s := by rw [splitE, if_pos hk]
    obtain ⟨hA, hB⟩ := split_bad hE hk
    refine gk_newNil 50 encPt 2 ?_
    refine gk_newNil 50 encPt 2 ?_
    refine gk_front 1 rfl ?_
    refine gk_front 1 rfl ?_
    refine gk_pack 2 ?_
    refine gk_seq ?_
    refine gk_region ?_
    refine gk_y rfl rfl (y_buildL (parts := []) rfl bd52_) ?_
    refine gk_y rfl rfl (y_buildL (parts := []) rfl bd52_) ?_
    refine gk_y rfl rfl (y_move rfl) ?_
    refine gk_storeV 2 tf52 rfl rfl (vs := [_, _, _, _, _, _]) rfl rfl rfl rfl rfl ?_
    refine gk_storeV 1 tf52 rfl rfl (vs := [_, _, _, _, _, _]) rfl rfl rfl rfl rfl ?_
    refine gk_y rfl rfl (y_assign rfl) ?_
    refine gk_nil (gk_sub (T' := [(3,_), (4,_), (5,_), (6,_), (7,_), (8,_)]) ⟨rfl, rfl, rfl, rfl, rfl, rfl, trivial⟩ ?_)
    refine gk_ret ?_
    refine gk_gives ((none, 0), (none, 0)) 0 (rv_three rfl (r1_cellA (i := 2) (vs := [_, _, _, _, _, _]) tf52 rfl rfl rfl rfl) (r1_cellA (i := 1) (vs := [_, _, _, _, _, _]) tf52 rfl rfl rfl rfl) (r1_tmp rfl)) ?_ (by rw [hA, hB]; rfl)
    rw [hA, hB, hE]; try rfl
  · have hk : checkI s = 0 := by simpa using hc15
    refine gk_skip ?_
    refine gk_seq ?_
    refine gk_block ?_
    refine gk_seq ?_
    refine gk_any 11 (fun _ => mixed) (by kernel_rfl) ?_
    refine ph_y (y_loadBA 4 tf52 rfl rfl (vs := [_, _, _, _, _, _]) rfl rfl) ?_
    refine ph_y (y_loadBA 3 tf50 rfl rfl (vs := [_, _]) rfl rfl) ?_
    refine ph_y (y_call en48 rfl (fun w hw => edge_c _ _ s p w (Rd.has (Has.rd hl) hw) (by assumption))) ?_
    refine ph_y (y_lss rfl rfl) ?_
    refine ph_y (y_move rfl) ?_
    refine ph_gF rfl rfl (fun hgd => by (try rw [hgd]); exact (y_loadBA 4 tf52 rfl rfl (vs := [_, _, _, _, _, _]) rfl rfl)) ?_
    refine ph_gF rfl rfl (fun hgd => by (try rw [hgd]); exact (y_loadBA 2 tf50 rfl rfl (vs := [_, _]) rfl rfl)) ?_
    refine ph_gF rfl rfl (fun hgd => by (try rw [hgd]); exact (y_call (v := .int .i64 (edgeI s.shape q)) en48 rfl (fun w hw => edge_c _ _ s q w (Rd.has (Has.rd hl) hw) (by assumption)))) ?_
    refine ph_gF rfl rfl (fun hgd => by (try rw [hgd]); exact (y_lss rfl rfl)) ?_
    refine ph_y (y_pickOr rfl rfl rfl) ?_
    refine ph_y (y_assign rfl) ?_
    refine gk_nil (gk_sub (T' := [(3,_), (4,_), (5,_), (6,_), (7,_), (8,_), (19,_)]) ⟨rfl, rfl, rfl, rfl, rfl, rfl, rfl, trivial⟩ ?_)
    refine gk_cond rfl (fun hc19 => ?_) (fun hc19 => ?_)
    · have hE : splitE s p q = 8 := by rw [splitE, if_neg (fun h => h hk), if_pos hc19]
      obtain ⟨hA, hB⟩ := split_bad hE (by decide)
      refine gk_newNil 50 encPt 2 ?_
      refine gk_newNil 50 encPt 2 ?_
      refine gk_front 1 rfl ?_
      refine gk_front 1 rfl ?_
      refine gk_pack 2 ?_
      refine gk_seq ?_
      refine gk_region ?_
      refine gk_y rfl rfl (y_buildL (parts := []) rfl bd52_) ?_
      refine gk_y rfl rfl (y_buildL (parts := []) rfl bd52_) ?_
      refine gk_storeV 2 tf52 rfl rfl (vs := [_, _, _, _, _, _]) rfl rfl rfl rfl rfl ?_
      refine gk_storeV 1 tf52 rfl rfl (vs := [_, _, _, _, _, _]) rfl rfl rfl rfl rfl ?_
      refine gk_y rfl rfl (y_assign rfl) ?_
      refine gk_nil (gk_sub (T' := [(3,_), (4,_), (5,_), (6,_), (7,_), (8,_)]) ⟨rfl, rfl, rfl, rfl, rfl, rfl, trivial⟩ ?_)
      refine gk_ret ?_
      refine gk_gives ((none, 0), (none, 0)) 0 (rv_three rfl (r1_cellA (i := 2) (vs := [_, _, _, _, _, _]) tf52 rfl rfl rfl rfl) (r1_cellA (i := 1) (vs := [_, _, _, _, _, _]) tf52 rfl rfl rfl rfl) (r1_tmp rfl)) ?_ (by rw [hA, hB]; rfl)
      rw [hA, hB, hE]; try rfl
    · have hed : 0 ≤ edgeI s.shape p ∧ 0 ≤ edgeI s.shape q := by simpa using hc19
      have hr1 := rightL_len hed.1 hed.2
      have hr2 := rightL_len hed.2 hed.1
      have hln := check_len hk
      have hnm := check_named hk
      refine gk_seq ?_
      refine gk_region ?_
      refine gk_y rfl rfl (y_loadBA 4 tf52 rfl rfl (vs := [_, _, _, _, _, _]) rfl rfl) ?_
      refine gk_y rfl rfl (y_loadBA 3 tf50 rfl rfl (vs := [_, _]) rfl rfl) ?_
      refine gk_y rfl rfl (y_loadBA 2 tf50 rfl rfl (vs := [_, _]) rfl rfl) ?_
      refine gk_y rfl rfl (y_call en49 rfl (fun w hw => apart_c _ _ s p q w (Rd.has (Has.rd hl) hw) (by assumption))) ?_
      refine gk_y rfl rfl (y_not rfl) ?_
      refine gk_y rfl rfl (y_assign rfl) ?_
      refine gk_nil (gk_sub (T' := [(3,_), (4,_), (5,_), (6,_), (7,_), (8,_), (32,_)]) ⟨rfl, rfl, rfl, rfl, rfl, rfl, rfl, trivial⟩ ?_)
      refine gk_cond rfl (fun hc32 => ?_) (fun hc32 => ?_)
      · have hap : apartB s.shape p q = false := by simpa using hc32
        have hE : splitE s p q = 2 := by rw [splitE, if_neg (fun h => h hk), if_neg (by rw [hc19]; exact Bool.false_ne_true), if_pos hap]
        obtain ⟨hA, hB⟩ := split_bad hE (by decide)
        refine gk_newNil 50 encPt 2 ?_
        refine gk_newNil 50 encPt 2 ?_
        refine gk_front 1 rfl ?_
        refine gk_front 1 rfl ?_
        refine gk_pack 2 ?_
        refine gk_seq ?_
        refine gk_region ?_
        refine gk_y rfl rfl (y_buildL (parts := []) rfl bd52_) ?_
        refine gk_y rfl rfl (y_buildL (parts := []) rfl bd52_) ?_
        refine gk_storeV 2 tf52 rfl rfl (vs := [_, _, _, _, _, _]) rfl rfl rfl rfl rfl ?_
        refine gk_storeV 1 tf52 rfl rfl (vs := [_, _, _, _, _, _]) rfl rfl rfl rfl rfl ?_
        refine gk_y rfl rfl (y_assign rfl) ?_
        refine gk_nil (gk_sub (T' := [(3,_), (4,_), (5,_), (6,_), (7,_), (8,_)]) ⟨rfl, rfl, rfl, rfl, rfl, rfl, trivial⟩ ?_)
        refine gk_ret ?_
        refine gk_gives ((none, 0), (none, 0)) 0 (rv_three rfl (r1_cellA (i := 2) (vs := [_, _, _, _, _, _]) tf52 rfl rfl rfl rfl) (r1_cellA (i := 1) (vs := [_, _, _, _, _, _]) tf52 rfl rfl rfl rfl) (r1_tmp rfl)) ?_ (by rw [hA, hB]; rfl)
        rw [hA, hB, hE]; try rfl
      · have hap : ¬ apartB s.shape p q = false := by simpa using hc32
        refine gk_skip ?_
        refine gk_seq ?_
        refine gk_any 8 (fun _ => mixed) (by kernel_rfl) ?_
        refine ph_y (y_loadBA 4 tf52 rfl rfl (vs := [_, _, _, _, _, _]) rfl rfl) ?_
        refine ph_y (y_loadBA 2 tf50 rfl rfl (vs := [_, _]) rfl rfl) ?_
        refine ph_y (y_loadBA 3 tf50 rfl rfl (vs := [_, _]) rfl rfl) ?_
        refine ph_yx (yx_call en50 rfl (fun w hw => right_c _ _ s q p w (Rd.has (Has.rd hl) hw) (by assumption) (by first | exact hed.1 | exact hed.2) (by first | exact hed.2 | exact hed.1))) ?_
        refine ph_y (y_loadBA 4 tf52 rfl rfl (vs := [_, _, _, _, _, _]) rfl rfl) ?_
        refine ph_y (y_loadBA 3 tf50 rfl rfl (vs := [_, _]) rfl rfl) ?_
        refine ph_y (y_loadBA 2 tf50 rfl rfl (vs := [_, _]) rfl rfl) ?_
        refine ph_yx (fun p43 => yx_call en50 rfl (fun w hw => right_c _ _ s p q w (Rd.has (Has.rd hl) hw) (by assumption) (by first | exact hed.1 | exact hed.2) (by first | exact hed.2 | exact hed.1))) ?_
        intro p47
        intro p43
        refine gk_sub (T' := [(3,_), (6,_), (7,_), (8,_), (43,_), (47,_)]) ⟨rfl, rfl, rfl, rfl, rfl, rfl, trivial⟩ ?_
        refine gk_y rfl rfl (y_assign rfl) ?_
        refine gk_y rfl rfl (y_assign rfl) ?_
        refine gk_nil (gk_sub (T' := [(3,_), (6,_), (7,_), (8,_), (10,_), (11,_)]) ⟨rfl, rfl, rfl, rfl, rfl, rfl, trivial⟩ ?_)
        refine gk_seq ?_
        refine gk_seq ?_
        refine gk_any 12 (fun _ => mixed) (by kernel_rfl) ?_
        refine ph_y (y_fieldAddr fo52_0 rfl) ?_
        refine ph_y (y_loadB1 6 tf9 rfl rfl rfl) ?_
        refine ph_y (y_lenStr (Tryz.underlying9) rfl) ?_
        refine ph_y (y_eql rfl rfl) ?_
        refine ph_y (y_move rfl) ?_
        refine ph_gF rfl rfl (fun hgd => by (try rw [hgd]); exact (y_move rfl)) ?_
        refine ph_gF rfl rfl (fun hgd => by (try rw [hgd]); exact (y_lenS (Tryz.underlying49) rfl)) ?_
        refine ph_gF rfl rfl (fun hgd => by (try rw [hgd]); exact (y_move rfl)) ?_
        refine ph_gF rfl rfl (fun hgd => by (try rw [hgd]); exact (y_lenS (Tryz.underlying49) rfl)) ?_
        refine ph_gF rfl rfl (fun hgd => by (try rw [hgd]); exact (y_max rfl rfl)) ?_
        refine ph_gF rfl rfl (fun hgd => by (try rw [hgd]); exact (y_gtr rfl rfl)) ?_
        refine ph_y (y_pickOr rfl rfl rfl) ?_
        refine gk_nil (gk_sub (T' := [(3,_), (6,_), (7,_), (8,_), (10,_), (11,_), (59,_)]) ⟨rfl, rfl, rfl, rfl, rfl, rfl, rfl, trivial⟩ ?_)
        refine gk_cond rfl (fun hc59 => ?_) (fun hc59 => ?_)
        · have hE : splitE s p q = 5 := by rw [splitE, if_neg (fun h => h hk), if_neg (by rw [hc19]; exact Bool.false_ne_true), if_neg hap, if_pos hc59]
          obtain ⟨hA, hB⟩ := split_bad hE (by decide)
          refine gk_newNil 50 encPt 2 ?_
          refine gk_newNil 50 encPt 2 ?_
          refine gk_front 1 rfl ?_
          refine gk_front 1 rfl ?_
          refine gk_pack 2 ?_
          refine gk_seq ?_
          refine gk_region ?_
          refine gk_y rfl rfl (y_buildL (parts := []) rfl bd52_) ?_
          refine gk_y rfl rfl (y_buildL (parts := []) rfl bd52_) ?_
          refine gk_storeV 4 tf52 rfl rfl (vs := [_, _, _, _, _, _]) rfl rfl rfl rfl rfl ?_
          refine gk_storeV 3 tf52 rfl rfl (vs := [_, _, _, _, _, _]) rfl rfl rfl rfl rfl ?_
          refine gk_y rfl rfl (y_assign rfl) ?_
          refine gk_nil (gk_sub (T' := [(3,_), (6,_), (7,_), (8,_), (10,_), (11,_)]) ⟨rfl, rfl, rfl, rfl, rfl, rfl, trivial⟩ ?_)
          refine gk_ret ?_
          refine gk_gives ((none, 0), (none, 0)) 0 (rv_three rfl (r1_cellA (i := 4) (vs := [_, _, _, _, _, _]) tf52 rfl rfl rfl rfl) (r1_cellA (i := 3) (vs := [_, _, _, _, _, _]) tf52 rfl rfl rfl rfl) (r1_tmp rfl)) ?_ (by rw [hA, hB]; rfl)
          rw [hA, hB, hE]; try rfl
        · have hE : splitE s p q = 0 := by rw [splitE, if_neg (fun h => h hk), if_neg (by rw [hc19]; exact Bool.false_ne_true), if_neg hap, if_neg (by rw [hc59]; exact Bool.false_ne_true)]
          obtain ⟨hA, hB⟩ := split_good hE
          refine gk_skip ?_
          refine gk_seq ?_
          refine gk_any 6 (fun _ => mixed) (by kernel_rfl) ?_
          refine ph_y (y_loadBA 6 tf52 rfl rfl (vs := [_, _, _, _, _, _]) rfl rfl) ?_
          refine ph_y (y_move rfl) ?_
          refine ph_yx (yx_call en51 rfl (fun w hw => piece_c _ _ s _ _ _ (rightL s.shape q p) w (has_row encPt_ok (hw.has (p := 0) rfl)) (by unfold Small; omega) (by omega) (row_cap (hw.has (p := 0) rfl)) (by change s.name.size + 1 ≤ _; omega))) ?_
          refine ph_y (y_loadBA 6 tf52 rfl rfl (vs := [_, _, _, _, _, _]) rfl rfl) ?_
          refine ph_y (y_move rfl) ?_
          refine ph_yx (fun p64 => yx_call en51 rfl (fun w hw => piece_c _ _ s _ _ _ (rightL s.shape p q) w (has_row encPt_ok (hw.has (p := 2) rfl)) (by unfold Small; omega) (by omega) (row_cap (hw.has (p := 2) rfl)) (by change s.name.size + 1 ≤ _; omega))) ?_
          intro p67
          intro p64
          refine gk_sub (T' := [(6,_), (7,_), (8,_), (64,_), (67,_)]) ⟨rfl, rfl, rfl, rfl, rfl, trivial⟩ ?_
          refine gk_storeV 5 tf52 rfl rfl (vs := [_, _, _, _, _, _]) rfl rfl rfl rfl rfl ?_
          refine gk_storeV 4 tf52 rfl rfl (vs := [_, _, _, _, _, _]) rfl rfl rfl rfl rfl ?_
          refine gk_y rfl rfl (y_assign rfl) ?_
          refine gk_nil (gk_sub (T' := [(6,_), (7,_), (8,_)]) ⟨rfl, rfl, rfl, trivial⟩ ?_)
          refine gk_front 1 rfl ?_
          refine gk_front 1 rfl ?_
          refine gk_pack 2 ?_
          refine gk_ret ?_
          refine gk_gives (p64, p67) 0 (rv_three rfl (r1_cellA (i := 4) (vs := [_, _, _, _, _, _]) tf52 rfl rfl rfl rfl) (r1_cellA (i := 3) (vs := [_, _, _, _, _, _]) tf52 rfl rfl rfl rfl) (r1_tmp rfl)) ?_ (by rw [hA, hB]; rfl)
          rw [hA, hB, hE]; try rfl
end Go.Proofs.YtmpaebfjnjmmlaaGreatDoor

namespace Go.Stn
open Go Go.K Go.RowKit
def outB (s : Stn) (p : Pt) (t : Int) (q : Pt) : Bool := apartB s.shape p q && decide (W (100 * max (crossW (subW q p) s.grain) (W (-(crossW (subW q p) s.grain)))) ≤ W (t * max (dotW (subW q p) s.grain) (W (-(dotW (subW q p) s.grain)))))
abbrev rotB (l : List Pt) (i : Int) : List Pt := l.drop (i + 1).toNat ++ l.take i.toNat
def outcomesL (s : Stn) (p : Pt) (t : Int) : List Pt := (rotB (borderL s.shape) (findI (eqB p) (borderL s.shape))).filter (outB s p t)
abbrev outVs (s : Stn) (p : Pt) (t : Int) : List (List Value) := (outcomesL s p t).map onePt
theorem findI_lt {α : Type} (p : α → Bool) {l : List α} (h : 0 ≤ findI p l) : findI p l < (l.length : Int) := by
  unfold findI at *
  split at h
  · rename_i h1
    rw [if_pos h1]
    have : l.findIdx p < l.length := List.findIdx_lt_length_of_exists (by simpa using h1)
    omega
  · omega
theorem rotB_len {l : List Pt} {i : Int} (h0 : 0 ≤ i) (h1 : i < (l.length : Int)) : (rotB l i).length + 1 = l.length := by
  unfold rotB
  simp
  omega
theorem filt_succ {l : List Pt} {f : Pt → Bool} {i : Int} (h0 : 0 ≤ i) (h1 : i < (l.length : Int)) : ((l.take (i + 1).toNat).filter f).length = ((l.take i.toNat).filter f).length + if f (l.getD i.toNat default) = true then 1 else 0 := by
  rw [take_succ h0 h1, List.filter_append, List.length_append]
  congr 1
  rw [List.filter_cons]
  split <;> rfl
theorem filt_get {l : List Pt} {f : Pt → Bool} {i : Int} (h0 : 0 ≤ i) (h1 : i < (l.length : Int)) (hf : f (l.getD i.toNat default) = true) : ((l.filter f).map onePt)[((l.take i.toNat).filter f).length]? = some [ptV (l.getD i.toNat default)] := by
  have hlt : i.toNat < l.length := by omega
  have hl : l.filter f = (l.take i.toNat).filter f ++ (l.getD i.toNat default :: (l.drop (i.toNat + 1)).filter f) := by
    conv => lhs; rw [← List.take_append_drop i.toNat l, List.drop_eq_getElem_cons hlt, List.filter_append]
    rw [List.filter_cons, if_pos (by simpa [hlt] using hf)]
    simp [hlt]
  rw [List.getElem?_map, hl, List.getElem?_append_right (Nat.le_refl _), Nat.sub_self]
  rfl
def struckE (s : Stn) (p : Pt) (t : Int) : Int := if checkI s ≠ 0 then checkI s else if edgeI s.shape p < 0 then 8 else if (decide (0 ≤ t) && decide (t ≤ 100)) = false then 3 else 0
def outL (s : Stn) (p : Pt) (t : Int) : List Pt := if struckE s p t = 0 then outcomesL s p t else []
def flipW (p : Pt) (way : Int) : Pt := if 3 < way then ⟨W (-p.x), p.z⟩ else p
def quartW (p : Pt) (k : Int) : Pt := if k = 0 then p else if k = 1 then ⟨W (-p.z), p.x⟩ else if k = 2 then ⟨W (-p.x), W (-p.z)⟩ else ⟨p.z, W (-p.x)⟩
def moveW (way : Int) (p : Pt) : Pt := quartW (flipW p way) (way.tmod 4)
def turnedL (s : Stn) (way : Int) : List Pt := if 3 < way then (s.shape.map (moveW way)).reverse else s.shape.map (moveW way)
def turnedE (s : Stn) (way : Int) : Int := if checkI s ≠ 0 then checkI s else if (decide (0 ≤ way) && decide (way ≤ 7)) = false then 3 else 0
def turnedS (s : Stn) (way : Int) : Stn := if turnedE s way = 0 then ⟨s.name, settledW (turnedL s way), s.depth, s.density, moveW way s.grain⟩ else zeroS
theorem turned_bad {s : Stn} {way e : Int} (hE : turnedE s way = e) (he : e ≠ 0) : turnedS s way = zeroS := by
  unfold turnedS
  rw [hE, if_neg he]
theorem turned_good {s : Stn} {way : Int} (hE : turnedE s way = 0) : turnedS s way = ⟨s.name, settledW (turnedL s way), s.depth, s.density, moveW way s.grain⟩ := by
  unfold turnedS
  rw [hE, if_pos rfl]
theorem map_take_succ {l : List Pt} {g : Pt → Pt} {i : Int} (h0 : 0 ≤ i) (h1 : i < (l.length : Int)) : (l.take (i + 1).toNat).map g = (l.take i.toNat).map g ++ [g (l.getD i.toNat default)] := by
  rw [take_succ h0 h1, List.map_append]; rfl
end Go.Stn

namespace Go.Proofs.YtmpaebfjnjmmlaaGreatDoor
open Go.K Go.Stn Go.RowKit
theorem en52 : En Tryz.prog 52 := en_of Tryz.func52 (by kernel_rfl) (by kernel_rfl)
theorem en54 : En Tryz.prog 54 := en_of Tryz.func54 (by kernel_rfl) (by kernel_rfl)
theorem en90 : En Tryz.prog 90 := en_of Tryz.func90 (by kernel_rfl) (by kernel_rfl)
set_option maxRecDepth 100000 in
set_option maxHeartbeats 1000000 in
theorem outcomes1_c (a : Option Addr) (cap : Nat) (s : Stn) (p : Pt) (t : Int) (b1 b2 b3 : Nat) (hv : checkI s = 0) (hi : 0 ≤ findI (eqB p) (borderL s.shape)) :
    SeqC Tryz.prog 90 [.pointer (some ⟨b1, 0, none⟩), .pointer (some ⟨b2, 0, none⟩), .pointer (some ⟨b3, 0, none⟩)] (outVs s p t) (fun w => Has w (Box b1 [.string s.name, .slice a s.shape.length cap, .int .i64 s.depth, .int .i64 s.density, .int .i64 s.grain.x, .int .i64 s.grain.z] 52) ∧ Has w (Box b2 [.int .i64 p.x, .int .i64 p.z] 50) ∧ Has w (Box b3 [.int .i64 t] 3) ∧ Has w (Pts a s.shape)) := by
  intro X J Rl D y w B x0 hB hA h0 hM hy
  have hnear := check_near hv
  have hlen := check_len hv
  have hbl := border_len hnear
  have hi2 := findI_lt _ hi
  have hrl : ((borderL s.shape).drop ((findI (eqB p) (borderL s.shape)) + 1).toNat ++ (borderL s.shape).take (findI (eqB p) (borderL s.shape)).toNat).length + 1 = (borderL s.shape).length := rotB_len hi hi2
  have hs : Small s.shape.length := by unfold Small; omega
  refine calls_of_gkB hB hA (vs := [_, _, _, _]) Tryz.func90 rfl rfl (Nat.le_of_ble_eq_true rfl) ?_
  have hmem : ∀ {cz : Cx} {Hz : List Res} {xz : X} {pz : Nat} {w' : World}, Inside (fun k => k < w.heap.size ∧ ¬ B k) w cz → Hz[pz]? = some (J xz) → Hp cz.U cz.w0 Hz w' → (Has w' (Box b1 [.string s.name, .slice a s.shape.length cap, .int .i64 s.depth, .int .i64 s.density, .int .i64 s.grain.x, .int .i64 s.grain.z] 52) ∧ Has w' (Box b2 [.int .i64 p.x, .int .i64 p.z] 50) ∧ Has w' (Box b3 [.int .i64 t] 3) ∧ Has w' (Pts a s.shape)) := fun hin hp hw => by
    obtain ⟨B', q1, q2, q3, q4⟩ := own_of_in hin hp hw
    exact hM _ _ B' q4 q1 q2 q3
  have ins0 := insideB Tryz.prog Tryz.f90.ntmps w B
  refine gk_seq ?_
  refine gk_region ?_
  refine gk_y rfl rfl (y_loadA tf52 rfl rfl (fun _ hw => has_box_cells (o := 0) (k := 6) (hmem ins0 (pz := 0) rfl hw).1 (vs := [_, _, _, _, _, _]) rfl)) ?_
  refine gk_yx rfl rfl (yx_call en61 rfl (fun w hw => border_c _ _ s w)) fun p13 => ?_
  refine gk_yx rfl rfl (yx_call en53 rfl (fun w hw => collect_c (borderL s.shape) _ [_] w (by unfold Small; omega) (fun w' => Has w' (Box p13 [.string s.name, .slice a s.shape.length cap, .int .i64 s.depth, .int .i64 s.density, .int .i64 s.grain.x, .int .i64 s.grain.z] 52) ∧ Has w' (Pts a s.shape)) (fun w' hx => ⟨Has.ext (hw.has (p := 0) rfl) hx, Has.ext (hmem ins0 (pz := 1) rfl hw).2.2.2 hx⟩) en96 (border1_c _ _ s p13 (by unfold Small; omega) hnear))) fun p14 => ?_
  refine gk_y rfl rfl (y_assign rfl) ?_
  refine gk_nil (gk_sub (T' := [(0,_), (1,_), (2,_), (3,_), (5,_)]) ⟨rfl, rfl, rfl, rfl, rfl, trivial⟩ ?_)
  refine gk_seq ?_
  refine gk_region ?_
  refine gk_y rfl rfl (y_move rfl) ?_
  refine gk_y rfl rfl (y_loadA tf50 rfl rfl (fun _ hw => has_box_cells (o := 0) (k := 2) (hmem ins0 (pz := 2) rfl hw).2.1 (vs := [_, _]) rfl)) ?_
  refine gk_y rfl rfl (y_call en91 rfl (fun w hw => index_c _ _ (borderL s.shape) p w (has_row encPt_ok (hw.has (p := 0) rfl)) (by unfold Small; omega))) ?_
  refine gk_y rfl rfl (y_assign rfl) ?_
  refine gk_nil (gk_sub (T' := [(0,_), (1,_), (2,_), (3,_), (5,_), (6,_)]) ⟨rfl, rfl, rfl, rfl, rfl, rfl, trivial⟩ ?_)
  refine gk_with (fun w hw => row_cap (hw.has (p := 0) rfl)) fun hcap => ?_
  refine gk_seq ?_
  refine gk_any 11 (fun _ => mixed) (by kernel_rfl) ?_
  refine ph_y (y_move rfl) ?_
  refine ph_y (y_move rfl) ?_
  refine ph_y (y_addI rfl rfl (by omega) (by omega)) ?_
  refine ph_y (y_sliceLoL se49 rfl rfl (by omega) (by omega)) ?_
  refine ph_y (y_move rfl) ?_
  refine ph_y (y_move rfl) ?_
  refine ph_y (y_sliceHiL se49 rfl rfl (by omega) (by omega) hcap) ?_
  refine ph_yx (yx_buildSlice rfl (bs162_2 _ _ _ _ _ _) encSli_ok rfl) ?_
  refine ph_yx (fun b25 => yx_call en92 rfl (fun w hw => concat2_c _ _ ⟨_, _, _⟩ ⟨_, _, _⟩ w (has_row encSli_ok (hw.has (p := 0) rfl)) (elems_drop (has_row encPt_ok (hw.has (p := 1) rfl)) hcap (by omega)) (elems_take (has_row encPt_ok (hw.has (p := 1) rfl)) (by omega) (by omega)) (by simp only [List.length_drop, List.length_take]; unfold Small; omega))) ?_
  refine ph_y (fun p26 => y_lenS (Tryz.underlying49) rfl) ?_
  refine ph_y (y_move rfl) ?_
  intro p26
  intro b25
  refine gk_nil (gk_sub (T' := [(0,_), (1,_), (2,_), (3,_), (26,_), (27,_), (28,_)]) ⟨rfl, rfl, rfl, rfl, rfl, rfl, rfl, trivial⟩ ?_)
  refine gk_block ?_
  refine gk_loop (X := Int × X) (fun ⟨i, x2⟩ => [(0, .func (.yield y) #[] #[]), (1, .pointer (some ⟨b1, 0, none⟩)), (2, .pointer (some ⟨b2, 0, none⟩)), (3, .pointer (some ⟨b3, 0, none⟩)), (26, .slice p26.1 ((borderL s.shape).drop ((findI (eqB p) (borderL s.shape)) + 1).toNat ++ (borderL s.shape).take (findI (eqB p) (borderL s.shape)).toNat).length p26.2), (27, .int .i64 (((borderL s.shape).drop ((findI (eqB p) (borderL s.shape)) + 1).toNat ++ (borderL s.shape).take (findI (eqB p) (borderL s.shape)).toNat).length : Int)), (28, .int .i64 i)]) (fun ⟨i, x2⟩ => [Row (some ⟨b25, 0, none⟩) 1 2 49 encSli [⟨(subA p14.1 2 ((findI (eqB p) (borderL s.shape)) + 1).toNat p14.2), (p14.2 - ((findI (eqB p) (borderL s.shape)) + 1).toNat), ((borderL s.shape).drop ((findI (eqB p) (borderL s.shape)) + 1).toNat)⟩, ⟨(subA p14.1 2 0 p14.2), p14.2, ((borderL s.shape).take (findI (eqB p) (borderL s.shape)).toNat)⟩], Row p26.1 2 p26.2 50 encPt ((borderL s.shape).drop ((findI (eqB p) (borderL s.shape)) + 1).toNat ++ (borderL s.shape).take (findI (eqB p) (borderL s.shape)).toNat), Row p14.1 2 p14.2 50 encPt (borderL s.shape), Box p13 [.string s.name, .slice a s.shape.length cap, .int .i64 s.depth, .int .i64 s.density, .int .i64 s.grain.x, .int .i64 s.grain.z] 52, J x2]) (fun ⟨i, x2⟩ => (0 ≤ i ∧ i ≤ (((borderL s.shape).drop ((findI (eqB p) (borderL s.shape)) + 1).toNat ++ (borderL s.shape).take (findI (eqB p) (borderL s.shape)).toNat).length : Int) ∧ Rl ((((borderL s.shape).drop ((findI (eqB p) (borderL s.shape)) + 1).toNat ++ (borderL s.shape).take (findI (eqB p) (borderL s.shape)).toNat).take i.toNat).filter (outB s p t)).length x2)) (fun ⟨i, x2⟩ => ((((borderL s.shape).drop ((findI (eqB p) (borderL s.shape)) + 1).toNat ++ (borderL s.shape).take (findI (eqB p) (borderL s.shape)).toNat).length : Int) - i).toNat) (0, x0) ⟨rfl, rfl, rfl, rfl, rfl, rfl, rfl, trivial⟩ rfl ?_ ?_
  · exact ⟨by omega, by omega, h0⟩
  · rintro ⟨i, x2⟩ hI
    obtain ⟨g0, g1, g2⟩ := hI
    refine gk_seq ?_
    refine gk_region ?_
    refine gk_y rfl rfl (y_lss rfl rfl) ?_
    refine gk_nil (gk_sub (T' := [(0,_), (1,_), (2,_), (3,_), (26,_), (27,_), (28,_), (29,_)]) ⟨rfl, rfl, rfl, rfl, rfl, rfl, rfl, rfl, trivial⟩ ?_)
    refine gk_seq ?_
    refine gk_cond rfl (fun hc29 => ?_) (fun hc29 => ?_)
    · simp only [decide_eq_true_eq] at hc29
      refine gk_skip ?_
      refine gk_seq ?_
      refine gk_block ?_
      refine gk_seq ?_
      refine gk_region ?_
      refine gk_y rfl rfl (y_indexE se49 rfl rfl (fun _ hw => (has_row encPt_ok (hw.has (p := 1) rfl))) (by omega) (by omega)) ?_
      refine gk_y rfl rfl (y_loadE (vs := [_, _]) tf50 rfl (fun _ hw => (has_row encPt_ok (hw.has (p := 1) rfl))) (by omega) (by omega) rfl) ?_
      refine gk_yx rfl rfl (yx_alloc tf50 (zs := [_, _]) rfl) fun b8 => ?_
      refine gk_storeV 0 tf50 rfl rfl (vs := [_, _]) rfl rfl rfl rfl rfl ?_
      refine gk_nil (gk_sub (T' := [(0,_), (1,_), (2,_), (3,_), (8,_), (26,_), (27,_), (28,_)]) ⟨rfl, rfl, rfl, rfl, rfl, rfl, rfl, rfl, trivial⟩ ?_)
      refine gk_seq ?_
      refine gk_region ?_
      refine gk_y rfl rfl (y_loadBA 0 tf50 rfl rfl (vs := [_, _]) rfl rfl) ?_
      refine gk_y rfl rfl (y_loadA tf50 rfl rfl (fun _ hw => has_box_cells (o := 0) (k := 2) (hmem ins0 (pz := 5) rfl hw).2.1 (vs := [_, _]) rfl)) ?_
      refine gk_y rfl rfl (y_call en84 rfl (fun w hw => sub_c ⟨_, _⟩ ⟨_, _⟩ w)) ?_
      refine gk_yx rfl rfl (yx_alloc tf50 (zs := [_, _]) rfl) fun b9 => ?_
      refine gk_storeV 0 tf50 rfl rfl (vs := [_, _]) rfl rfl rfl rfl rfl ?_
      refine gk_nil (gk_sub (T' := [(0,_), (1,_), (2,_), (3,_), (8,_), (9,_), (26,_), (27,_), (28,_)]) ⟨rfl, rfl, rfl, rfl, rfl, rfl, rfl, rfl, rfl, trivial⟩ ?_)
      refine gk_seq ?_
      refine gk_any 10 (fun _ => mixed) (by kernel_rfl) ?_
      refine ph_y (y_loadBA 0 tf50 rfl rfl (vs := [_, _]) rfl rfl) ?_
      refine ph_y (y_fieldAddr fo52_4 rfl) ?_
      refine ph_y (y_loadA tf50 rfl rfl (fun _ hw => has_box_cells (o := 4) (k := 2) (hmem ins0 (pz := 6) rfl hw).1 (vs := [_, _]) rfl)) ?_
      refine ph_y (y_call en85 rfl (fun w hw => cross_c ⟨_, _⟩ ⟨_, _⟩ w)) ?_
      refine ph_y (y_loadBA 0 tf50 rfl rfl (vs := [_, _]) rfl rfl) ?_
      refine ph_y (y_fieldAddr fo52_4 rfl) ?_
      refine ph_y (y_loadA tf50 rfl rfl (fun _ hw => has_box_cells (o := 4) (k := 2) (hmem ins0 (pz := 6) rfl hw).1 (vs := [_, _]) rfl)) ?_
      refine ph_y (y_call en86 rfl (fun w hw => dot_c ⟨_, _⟩ ⟨_, _⟩ w)) ?_
      refine ph_y (y_assign rfl) ?_
      refine ph_y (y_assign rfl) ?_
      refine gk_nil (gk_sub (T' := [(0,_), (1,_), (2,_), (3,_), (8,_), (10,_), (11,_), (26,_), (27,_), (28,_)]) ⟨rfl, rfl, rfl, rfl, rfl, rfl, rfl, rfl, rfl, rfl, trivial⟩ ?_)
      refine gk_seq ?_
      refine gk_any 21 (fun _ => mixed) (by kernel_rfl) ?_
      refine ph_y (y_loadA tf52 rfl rfl (fun _ hw => has_box_cells (o := 0) (k := 6) (hmem ins0 (pz := 6) rfl hw).1 (vs := [_, _, _, _, _, _]) rfl)) ?_
      refine ph_y (y_loadA tf50 rfl rfl (fun _ hw => has_box_cells (o := 0) (k := 2) (hmem ins0 (pz := 6) rfl hw).2.1 (vs := [_, _]) rfl)) ?_
      refine ph_y (y_loadBA 1 tf50 rfl rfl (vs := [_, _]) rfl rfl) ?_
      refine ph_y (y_call en49 rfl (fun w hw => apart_c _ _ s p (((borderL s.shape).drop ((findI (eqB p) (borderL s.shape)) + 1).toNat ++ (borderL s.shape).take (findI (eqB p) (borderL s.shape)).toNat).getD (i).toNat default) w (hmem ins0 (pz := 6) rfl hw).2.2.2 (by assumption))) ?_
      refine ph_y (y_move rfl) ?_
      refine ph_gT rfl rfl (fun hgd => by (try rw [hgd]); exact (y_move rfl)) ?_
      refine ph_gT rfl rfl (fun hgd => by (try rw [hgd]); exact (y_move rfl)) ?_
      refine ph_gT rfl rfl (fun hgd => by (try rw [hgd]); exact (y_neg rfl)) ?_
      refine ph_gT rfl rfl (fun hgd => by (try rw [hgd]); exact (y_max rfl rfl)) ?_
      refine ph_gT rfl rfl (fun hgd => by (try rw [hgd]); exact (y_mul rfl rfl)) ?_
      refine ph_gT rfl rfl (fun hgd => by (try rw [hgd]); exact (y_load1 tf3 rfl (fun _ hw => has_box_cell (hmem ins0 (pz := 6) rfl hw).2.2.1 rfl))) ?_
      refine ph_gT rfl rfl (fun hgd => by (try rw [hgd]); exact (y_move rfl)) ?_
      refine ph_gT rfl rfl (fun hgd => by (try rw [hgd]); exact (y_move rfl)) ?_
      refine ph_gT rfl rfl (fun hgd => by (try rw [hgd]); exact (y_neg rfl)) ?_
      refine ph_gT rfl rfl (fun hgd => by (try rw [hgd]); exact (y_max rfl rfl)) ?_
      refine ph_gT rfl rfl (fun hgd => by (try rw [hgd]); exact (y_mul rfl rfl)) ?_
      refine ph_gT rfl rfl (fun hgd => by (try rw [hgd]); exact (y_leq rfl rfl)) ?_
      refine ph_y (y_pickAnd rfl rfl rfl) ?_
      refine ph_y (y_move rfl) ?_
      refine ph_gT rfl rfl (fun hgd => by (try rw [hgd]); exact (y_move rfl)) ?_
      refine ph_gT rfl rfl (fun hgd => by (try rw [hgd]); exact (y_loadBA 1 tf50 rfl rfl (vs := [_, _]) rfl rfl)) ?_
      refine gk_sub (T' := [(0,_), (1,_), (2,_), (3,_), (26,_), (27,_), (28,_), (61,_), (62,_), (63,_)]) ⟨rfl, rfl, rfl, rfl, rfl, rfl, rfl, rfl, rfl, rfl, trivial⟩ ?_
      refine gk_guard rfl rfl rfl rfl (fun hg61 => ?_) (fun hg61 => ?_)
      · replace hg61 : _ = true := hg61
        try rw [hg61]
        refine gk_yield 6 ins0 rfl rfl rfl rfl (hy _ _ _ (filt_get g0 (by omega) (show outB s p t _ = true from hg61)) g2) fun b64 x64 hp64 => ?_
        refine gk_guard rfl rfl rfl rfl (fun _ => ?_) (fun h => absurd h (by decide))
        refine gk_y rfl rfl (y_not rfl) ?_
        refine gk_y rfl rfl (y_pick rfl rfl rfl) ?_
        refine gk_nil (gk_sub (T' := [(0,_), (1,_), (2,_), (3,_), (26,_), (27,_), (28,_), (66,_)]) ⟨rfl, rfl, rfl, rfl, rfl, rfl, rfl, rfl, trivial⟩ ?_)
        refine gk_cond rfl (fun hc66 => ?_) (fun hc66 => ?_)
        · skip
          refine gk_ret ?_
          refine gk_turns x64 6 (rv_none rfl) rfl rfl (.inr (by have := hp64; rwa [show b64 = false from by simpa using hc66, if_neg Bool.false_ne_true] at this))
        · skip
          refine gk_skip ?_
          refine gk_region ?_
          refine gk_y rfl rfl (y_addI rfl rfl (by omega) (by omega)) ?_
          refine gk_y rfl rfl (y_move rfl) ?_
          refine gk_nil (gk_sub (T' := [(0,_), (1,_), (2,_), (3,_), (26,_), (27,_), (28,_)]) ⟨rfl, rfl, rfl, rfl, rfl, rfl, rfl, trivial⟩ ?_)
          refine gk_dropAt 0 rfl ?_
          refine gk_dropAt 0 rfl ?_
          exact gk_next (i + 1, _) ⟨rfl, rfl, rfl, rfl, rfl, rfl, rfl, trivial⟩ rfl (by refine ⟨by omega, by omega, ?_⟩; rw [filt_succ g0 (by omega)]; first | (rw [if_pos (show outB s p t _ = true from hg61)]; have := hp64; rwa [show b64 = true from by simpa using hc66, if_pos rfl] at this) | (rw [if_neg (by rw [show outB s p t _ = false from hg61]; exact Bool.false_ne_true)]; exact g2)) (by simp only []; omega)
      · replace hg61 : _ = false := hg61
        try rw [hg61]
        refine gk_guard rfl rfl rfl rfl (fun h => absurd h (by decide)) (fun _ => ?_)
        refine gk_y rfl rfl (y_pick rfl rfl rfl) ?_
        refine gk_nil (gk_sub (T' := [(0,_), (1,_), (2,_), (3,_), (26,_), (27,_), (28,_), (66,_)]) ⟨rfl, rfl, rfl, rfl, rfl, rfl, rfl, rfl, trivial⟩ ?_)
        refine gk_condF rfl ?_
        refine gk_skip ?_
        refine gk_region ?_
        refine gk_y rfl rfl (y_addI rfl rfl (by omega) (by omega)) ?_
        refine gk_y rfl rfl (y_move rfl) ?_
        refine gk_nil (gk_sub (T' := [(0,_), (1,_), (2,_), (3,_), (26,_), (27,_), (28,_)]) ⟨rfl, rfl, rfl, rfl, rfl, rfl, rfl, trivial⟩ ?_)
        refine gk_dropAt 0 rfl ?_
        refine gk_dropAt 0 rfl ?_
        exact gk_next (i + 1, _) ⟨rfl, rfl, rfl, rfl, rfl, rfl, rfl, trivial⟩ rfl (by refine ⟨by omega, by omega, ?_⟩; rw [filt_succ g0 (by omega)]; first | (rw [if_pos (show outB s p t _ = true from hg61)]; have := hp64; rwa [show b64 = true from by simpa using hc66, if_pos rfl] at this) | (rw [if_neg (by rw [show outB s p t _ = false from hg61]; exact Bool.false_ne_true)]; exact g2)) (by simp only []; omega)
    · simp only [decide_eq_false_iff_not] at hc29
      refine gk_exit rfl ?_
      refine gk_turns x2 4 (rv_none rfl) rfl rfl (.inl (by rw [take_all (by omega)] at g2; rw [show (outVs s p t).length = (outcomesL s p t).length from List.length_map ..]; exact g2))
set_option maxRecDepth 100000 in
set_option maxHeartbeats 1000000 in
theorem outcomes_c (a : Option Addr) (cap : Nat) (s : Stn) (p : Pt) (t : Int) (w : World)  :
    Calls Tryz.prog 54 #[.agg #[.string s.name, .slice a s.shape.length cap, .int .i64 s.depth, .int .i64 s.density, .int .i64 s.grain.x, .int .i64 s.grain.z], .agg #[.int .i64 p.x, .int .i64 p.z], .int .i64 t] w (Gives (fun z : Nat × Nat × Nat => .func (.func 90) #[] #[.pointer (some ⟨z.1, 0, none⟩), .pointer (some ⟨z.2.1, 0, none⟩), .pointer (some ⟨z.2.2, 0, none⟩)]) (fun z => SepR [Box z.1 [.string s.name, .slice a s.shape.length cap, .int .i64 s.depth, .int .i64 s.density, .int .i64 s.grain.x, .int .i64 s.grain.z] 52, Box z.2.1 [.int .i64 p.x, .int .i64 p.z] 50, Box z.2.2 [.int .i64 t] 3]) w) := by
  refine calls_of_gk (vs := [_, _, _]) Tryz.func54 rfl rfl (Nat.le_of_ble_eq_true rfl) ?_
  refine gk_seq ?_
  refine gk_region ?_
  refine gk_yx rfl rfl (yx_box (vs := [_, _, _, _, _, _]) rfl rfl) fun b3 => ?_
  refine gk_yx rfl rfl (yx_box (vs := [_, _]) rfl rfl) fun b4 => ?_
  refine gk_yx rfl rfl (yx_box (vs := [_]) rfl rfl) fun b5 => ?_
  refine gk_y rfl rfl (y_assign rfl) ?_
  refine gk_nil (gk_sub (T' := [(3,_), (4,_), (5,_), (6,_)]) ⟨rfl, rfl, rfl, rfl, trivial⟩ ?_)
  refine gk_seq ?_
  refine gk_region ?_
  refine gk_y rfl rfl (y_makeFunc («as» := []) (bs := [_, _, _]) rfl rfl) ?_
  refine gk_y rfl rfl (y_assign rfl) ?_
  refine gk_nil (gk_sub (T' := [(6,_)]) ⟨rfl, trivial⟩ ?_)
  refine gk_front 1 rfl ?_
  refine gk_front 2 rfl ?_
  refine gk_pack 3 ?_
  refine gk_ret ?_
  refine gk_gives (b3, b4, b5) 0 (rv_one rfl (r1_tmp rfl)) ?_ rfl
  rfl
set_option maxRecDepth 100000 in
set_option maxHeartbeats 1000000 in
theorem struck_c (a : Option Addr) (cap : Nat) (s : Stn) (p : Pt) (t : Int) (w : World) (hl : Has w (Pts a s.shape)) (hs : Small s.shape.length) :
    Calls Tryz.prog 52 #[.agg #[.string s.name, .slice a s.shape.length cap, .int .i64 s.depth, .int .i64 s.density, .int .i64 s.grain.x, .int .i64 s.grain.z], .agg #[.int .i64 p.x, .int .i64 p.z], .int .i64 t] w (Pure (.int .i64 (struckE s p t)) w) := by
  refine calls_of_gk (vs := [_, _, _]) Tryz.func52 rfl rfl (Nat.le_of_ble_eq_true rfl) ?_
  refine gk_seq ?_
  refine gk_region ?_
  refine gk_yx rfl rfl (yx_box (vs := [_, _, _, _, _, _]) rfl rfl) fun b3 => ?_
  refine gk_yx rfl rfl (yx_box (vs := [_, _]) rfl rfl) fun b4 => ?_
  refine gk_y rfl rfl (y_assign rfl) ?_
  refine gk_nil (gk_sub (T' := [(2,_), (3,_), (4,_), (6,_)]) ⟨rfl, rfl, rfl, rfl, trivial⟩ ?_)
  refine gk_seq ?_
  refine gk_seq ?_
  refine gk_region ?_
  refine gk_y rfl rfl (y_loadBA 1 tf52 rfl rfl (vs := [_, _, _, _, _, _]) rfl rfl) ?_
  refine gk_y rfl rfl (y_call en38 rfl (fun w hw => check_c _ _ s w (Rd.has (Has.rd hl) hw) (by assumption))) ?_
  refine gk_y rfl rfl (y_assign rfl) ?_
  refine gk_nil (gk_sub (T' := [(2,_), (3,_), (4,_), (6,_), (7,_)]) ⟨rfl, rfl, rfl, rfl, rfl, trivial⟩ ?_)
  refine gk_seq ?_
  refine gk_region ?_
  refine gk_y rfl rfl (y_move rfl) ?_
  refine gk_y rfl rfl (y_neq rfl rfl) ?_
  refine gk_nil (gk_sub (T' := [(2,_), (3,_), (4,_), (6,_), (7,_), (11,_)]) ⟨rfl, rfl, rfl, rfl, rfl, rfl, trivial⟩ ?_)
  refine gk_cond rfl (fun hc11 => ?_) (fun hc11 => ?_)
  · have hk : ¬ checkI s = 0 := by simpa using hc11
    refine gk_seq ?_
    refine gk_region ?_
    refine gk_y rfl rfl (y_move rfl) ?_
    refine gk_y rfl rfl (y_assign rfl) ?_
    refine gk_nil (gk_sub (T' := [(2,_), (3,_), (4,_), (6,_)]) ⟨rfl, rfl, rfl, rfl, trivial⟩ ?_)
    refine gk_ret ?_
    refine gk_pure (rv_one rfl (r1_tmp rfl)) ?_
    rw [struckE, if_pos hk]
  · have hk : checkI s = 0 := by simpa using hc11
    refine gk_skip ?_
    refine gk_seq ?_
    refine gk_block ?_
    refine gk_seq ?_
    refine gk_region ?_
    refine gk_y rfl rfl (y_loadBA 1 tf52 rfl rfl (vs := [_, _, _, _, _, _]) rfl rfl) ?_
    refine gk_y rfl rfl (y_loadBA 0 tf50 rfl rfl (vs := [_, _]) rfl rfl) ?_
    refine gk_y rfl rfl (y_call en48 rfl (fun w hw => edge_c _ _ s p w (Rd.has (Has.rd hl) hw) (by assumption))) ?_
    refine gk_y rfl rfl (y_lss rfl rfl) ?_
    refine gk_y rfl rfl (y_assign rfl) ?_
    refine gk_nil (gk_sub (T' := [(2,_), (6,_), (13,_)]) ⟨rfl, rfl, rfl, trivial⟩ ?_)
    refine gk_cond rfl (fun hc13 => ?_) (fun hc13 => ?_)
    · have hc13 := of_decide_eq_true hc13
      refine gk_seq ?_
      refine gk_region ?_
      refine gk_y rfl rfl (y_assign rfl) ?_
      refine gk_nil (gk_sub (T' := [(6,_)]) ⟨rfl, trivial⟩ ?_)
      refine gk_ret ?_
      refine gk_pure (rv_one rfl (r1_tmp rfl)) ?_
      rw [struckE, if_neg (fun h => h hk), if_pos hc13]
    · have hc13 := of_decide_eq_false hc13
      refine gk_seq ?_
      refine gk_region ?_
      refine gk_y rfl rfl (y_move rfl) ?_
      refine gk_y rfl rfl (y_call en55 rfl (fun w hw => within_c _ _ _ w)) ?_
      refine gk_y rfl rfl (y_not rfl) ?_
      refine gk_y rfl rfl (y_assign rfl) ?_
      refine gk_nil (gk_sub (T' := [(6,_), (18,_)]) ⟨rfl, rfl, trivial⟩ ?_)
      refine gk_cond rfl (fun hc18 => ?_) (fun hc18 => ?_)
      · skip
        refine gk_seq ?_
        refine gk_region ?_
        refine gk_y rfl rfl (y_assign rfl) ?_
        refine gk_nil (gk_sub (T' := [(6,_)]) ⟨rfl, trivial⟩ ?_)
        refine gk_ret ?_
        refine gk_pure (rv_one rfl (r1_tmp rfl)) ?_
        rw [struckE, if_neg (fun h => h hk), if_neg hc13, if_pos (by simpa only [Bool.not_eq_true'] using hc18)]
      · skip
        refine gk_skip ?_
        refine gk_seq ?_
        refine gk_region ?_
        refine gk_y rfl rfl (y_assign rfl) ?_
        refine gk_nil (gk_sub (T' := [(6,_)]) ⟨rfl, trivial⟩ ?_)
        refine gk_ret ?_
        refine gk_pure (rv_one rfl (r1_tmp rfl)) ?_
        rw [struckE, if_neg (fun h => h hk), if_neg hc13, if_neg (by rw [show (decide (0 ≤ t) && decide (t ≤ 100)) = true from by simpa only [Bool.not_eq_false'] using hc18]; exact fun h => Bool.false_ne_true h.symm)]
theorem outcomes_len {s : Stn} {p : Pt} {t : Int} (hv : checkI s = 0) (hi : 0 ≤ findI (eqB p) (borderL s.shape)) : (outcomesL s p t).length ≤ 24000 := by
  have hnear := check_near hv
  have hlen := check_len hv
  have hbl := border_len hnear
  have h1 := rotB_len hi (findI_lt _ hi)
  have h2 := List.length_filter_le (outB s p t) (rotB (borderL s.shape) (findI (eqB p) (borderL s.shape)))
  unfold outcomesL
  omega
theorem struck_ok {s : Stn} {p : Pt} {t : Int} (h : struckE s p t = 0) : checkI s = 0 := by
  unfold struckE at h
  by_cases hk : checkI s = 0
  · exact hk
  · rw [if_pos hk] at h; exact absurd h hk
set_option maxRecDepth 100000 in
set_option maxHeartbeats 1000000 in
theorem Outcomes_c (a : Option Addr) (cap : Nat) (s : Stn) (p : Pt) (t : Int) (w : World) (hl : Has w (Pts a s.shape)) (hs : Small s.shape.length) (hin : struckE s p t = 0 → 0 ≤ findI (eqB p) (borderL s.shape)) :
    Calls Tryz.prog 22 #[.agg #[.string s.name, .slice a s.shape.length cap, .int .i64 s.depth, .int .i64 s.density, .int .i64 s.grain.x, .int .i64 s.grain.z], .agg #[.int .i64 p.x, .int .i64 p.z], .int .i64 t] w (Gives (fun z : Option Addr × Nat => .tuple #[.slice z.1 (outL s p t).length z.2, .int .i64 (struckE s p t)]) (fun z => Row z.1 2 z.2 50 encPt (outL s p t)) w) := by
  refine calls_of_gk (vs := [_, _, _]) Tryz.func22 rfl rfl (Nat.le_of_ble_eq_true rfl) ?_
  refine gk_seq ?_
  refine gk_region ?_
  refine gk_yx rfl rfl (yx_box (vs := [_, _, _, _, _, _]) rfl rfl) fun b3 => ?_
  refine gk_yx rfl rfl (yx_box (vs := [_, _]) rfl rfl) fun b4 => ?_
  refine gk_y rfl rfl (y_assign rfl) ?_
  refine gk_y rfl rfl (y_assign rfl) ?_
  refine gk_nil (gk_sub (T' := [(2,_), (3,_), (4,_), (6,_), (7,_)]) ⟨rfl, rfl, rfl, rfl, rfl, trivial⟩ ?_)
  refine gk_seq ?_
  refine gk_seq ?_
  refine gk_region ?_
  refine gk_y rfl rfl (y_loadBA 1 tf52 rfl rfl (vs := [_, _, _, _, _, _]) rfl rfl) ?_
  refine gk_y rfl rfl (y_loadBA 0 tf50 rfl rfl (vs := [_, _]) rfl rfl) ?_
  refine gk_y rfl rfl (y_move rfl) ?_
  refine gk_y rfl rfl (y_call en52 rfl (fun w hw => struck_c _ _ s p t w (Rd.has (Has.rd hl) hw) (by assumption))) ?_
  refine gk_y rfl rfl (y_assign rfl) ?_
  refine gk_nil (gk_sub (T' := [(2,_), (3,_), (4,_), (6,_), (7,_), (8,_)]) ⟨rfl, rfl, rfl, rfl, rfl, rfl, trivial⟩ ?_)
  refine gk_seq ?_
  refine gk_region ?_
  refine gk_y rfl rfl (y_move rfl) ?_
  refine gk_y rfl rfl (y_neq rfl rfl) ?_
  refine gk_nil (gk_sub (T' := [(2,_), (3,_), (4,_), (6,_), (7,_), (8,_), (14,_)]) ⟨rfl, rfl, rfl, rfl, rfl, rfl, rfl, trivial⟩ ?_)
  refine gk_cond rfl (fun hc14 => ?_) (fun hc14 => ?_)
  · have hk : ¬ struckE s p t = 0 := by simpa using hc14
    refine gk_newNil 50 encPt 2 ?_
    refine gk_seq ?_
    refine gk_region ?_
    refine gk_y rfl rfl (y_move rfl) ?_
    refine gk_y rfl rfl (y_assign rfl) ?_
    refine gk_y rfl rfl (y_assign rfl) ?_
    refine gk_nil (gk_sub (T' := [(2,_), (3,_), (4,_), (6,_), (7,_)]) ⟨rfl, rfl, rfl, rfl, rfl, trivial⟩ ?_)
    refine gk_ret ?_
    refine gk_gives (none, 0) 0 (rv_two rfl (r1_tmp rfl) (r1_tmp rfl)) ?_ (by simp only [outL, if_neg hk]; rfl)
    simp only [outL, if_neg hk]; rfl
  · have hk : struckE s p t = 0 := by simpa using hc14
    have hv := struck_ok hk
    refine gk_skip ?_
    refine gk_seq ?_
    refine gk_region ?_
    refine gk_y rfl rfl (y_loadBA 1 tf52 rfl rfl (vs := [_, _, _, _, _, _]) rfl rfl) ?_
    refine gk_y rfl rfl (y_loadBA 0 tf50 rfl rfl (vs := [_, _]) rfl rfl) ?_
    refine gk_y rfl rfl (y_move rfl) ?_
    refine gk_yx rfl rfl (yx_call en54 rfl (fun w hw => outcomes_c _ _ s p t w)) fun p19 => gk_split ?_
    refine gk_yx rfl rfl (yx_call en53 rfl (fun w hw => collect_c (outcomesL s p t) _ [_, _, _] w (by have := outcomes_len (t := t) hv (hin hk); unfold Small; omega) (fun w' => Has w' (Box p19.1 [.string s.name, .slice a s.shape.length cap, .int .i64 s.depth, .int .i64 s.density, .int .i64 s.grain.x, .int .i64 s.grain.z] 52) ∧ Has w' (Box p19.2.1 [.int .i64 p.x, .int .i64 p.z] 50) ∧ Has w' (Box p19.2.2 [.int .i64 t] 3) ∧ Has w' (Pts a s.shape)) (fun w' hx => ⟨Has.ext (hw.has (p := 0) rfl) hx, Has.ext (hw.has (p := 1) rfl) hx, Has.ext (hw.has (p := 2) rfl) hx, Has.ext (Rd.has (Has.rd hl) hw) hx⟩) en90 (outcomes1_c _ _ s p t _ _ _ hv (hin hk)))) fun p20 => ?_
    refine gk_y rfl rfl (y_assign rfl) ?_
    refine gk_y rfl rfl (y_assign rfl) ?_
    refine gk_nil (gk_sub (T' := [(6,_), (7,_)]) ⟨rfl, rfl, trivial⟩ ?_)
    refine gk_ret ?_
    refine gk_gives p20 0 (rv_two rfl (r1_tmp rfl) (r1_tmp rfl)) ?_ (by simp only [outL, if_pos hk]; rfl)
    rw [hk]; simp only [outL, if_pos hk]
end Go.Proofs.YtmpaebfjnjmmlaaGreatDoor

namespace Go.Proofs.YtmpaebfjnjmmlaaGreatDoor
open Go.K Go.Stn Go.RowKit
theorem tf108 : TF Tryz.prog 108 false 1 (.nilFunc) := ⟨by kernel_rfl, by kernel_rfl⟩
theorem en56 : En Tryz.prog 56 := en_of Tryz.func56 (by kernel_rfl) (by kernel_rfl)
theorem en57 : En Tryz.prog 57 := en_of Tryz.func57 (by kernel_rfl) (by kernel_rfl)
theorem en194 : En Tryz.prog 194 := en_of Tryz.func194 (by kernel_rfl) (by kernel_rfl)
theorem en195 : En Tryz.prog 195 := en_of Tryz.func195 (by kernel_rfl) (by kernel_rfl)
theorem en196 : En Tryz.prog 196 := en_of Tryz.func196 (by kernel_rfl) (by kernel_rfl)
theorem en197 : En Tryz.prog 197 := en_of Tryz.func197 (by kernel_rfl) (by kernel_rfl)
set_option maxRecDepth 100000 in
set_option maxHeartbeats 1000000 in
theorem ways1_c (p : Pt) (w : World)  :
    Calls Tryz.prog 194 #[.agg #[.int .i64 p.x, .int .i64 p.z]] w (Pure (ptV p) w) := by
  refine calls_of_gk (vs := [_]) Tryz.func194 rfl rfl (Nat.le_of_ble_eq_true rfl) ?_
  refine gk_seq ?_
  refine gk_region ?_
  refine gk_yx rfl rfl (yx_box (vs := [_, _]) rfl rfl) fun b1 => ?_
  refine gk_yx rfl rfl (yx_alloc tf50 (zs := [_, _]) rfl) fun b2 => ?_
  refine gk_nil (gk_sub (T' := [(1,_), (2,_)]) ⟨rfl, rfl, trivial⟩ ?_)
  refine gk_seq ?_
  refine gk_region ?_
  refine gk_y rfl rfl (y_loadBA 1 tf50 rfl rfl (vs := [_, _]) rfl rfl) ?_
  refine gk_storeV 0 tf50 rfl rfl (vs := [_, _]) rfl rfl rfl rfl rfl ?_
  refine gk_nil (gk_sub (T' := [(2,_)]) ⟨rfl, trivial⟩ ?_)
  refine gk_ret ?_
  refine gk_pure (rv_one rfl (r1_cellA (i := 0) (vs := [_, _]) tf50 rfl rfl rfl rfl)) ?_
  rfl
set_option maxRecDepth 100000 in
set_option maxHeartbeats 1000000 in
theorem ways2_c (p : Pt) (w : World)  :
    Calls Tryz.prog 195 #[.agg #[.int .i64 p.x, .int .i64 p.z]] w (Pure (ptV ⟨W (-p.z), p.x⟩) w) := by
  refine calls_of_gk (vs := [_]) Tryz.func195 rfl rfl (Nat.le_of_ble_eq_true rfl) ?_
  refine gk_seq ?_
  refine gk_region ?_
  refine gk_yx rfl rfl (yx_box (vs := [_, _]) rfl rfl) fun b1 => ?_
  refine gk_yx rfl rfl (yx_alloc tf50 (zs := [_, _]) rfl) fun b2 => ?_
  refine gk_nil (gk_sub (T' := [(1,_), (2,_)]) ⟨rfl, rfl, trivial⟩ ?_)
  refine gk_seq ?_
  refine gk_region ?_
  refine gk_y rfl rfl (y_fieldAddr fo50_1 rfl) ?_
  refine gk_y rfl rfl (y_loadB1 1 tf3 rfl rfl rfl) ?_
  refine gk_y rfl rfl (y_neg rfl) ?_
  refine gk_y rfl rfl (y_fieldAddr fo50_0 rfl) ?_
  refine gk_y rfl rfl (y_loadB1 1 tf3 rfl rfl rfl) ?_
  refine gk_y rfl rfl (y_buildL rfl (bd50_0i_1i _ _)) ?_
  refine gk_storeV 0 tf50 rfl rfl (vs := [_, _]) rfl rfl rfl rfl rfl ?_
  refine gk_nil (gk_sub (T' := [(2,_)]) ⟨rfl, trivial⟩ ?_)
  refine gk_ret ?_
  refine gk_pure (rv_one rfl (r1_cellA (i := 0) (vs := [_, _]) tf50 rfl rfl rfl rfl)) ?_
  rfl
set_option maxRecDepth 100000 in
set_option maxHeartbeats 1000000 in
theorem ways3_c (p : Pt) (w : World)  :
    Calls Tryz.prog 196 #[.agg #[.int .i64 p.x, .int .i64 p.z]] w (Pure (ptV ⟨W (-p.x), W (-p.z)⟩) w) := by
  refine calls_of_gk (vs := [_]) Tryz.func196 rfl rfl (Nat.le_of_ble_eq_true rfl) ?_
  refine gk_seq ?_
  refine gk_region ?_
  refine gk_yx rfl rfl (yx_box (vs := [_, _]) rfl rfl) fun b1 => ?_
  refine gk_yx rfl rfl (yx_alloc tf50 (zs := [_, _]) rfl) fun b2 => ?_
  refine gk_nil (gk_sub (T' := [(1,_), (2,_)]) ⟨rfl, rfl, trivial⟩ ?_)
  refine gk_seq ?_
  refine gk_region ?_
  refine gk_y rfl rfl (y_fieldAddr fo50_0 rfl) ?_
  refine gk_y rfl rfl (y_loadB1 1 tf3 rfl rfl rfl) ?_
  refine gk_y rfl rfl (y_neg rfl) ?_
  refine gk_y rfl rfl (y_fieldAddr fo50_1 rfl) ?_
  refine gk_y rfl rfl (y_loadB1 1 tf3 rfl rfl rfl) ?_
  refine gk_y rfl rfl (y_neg rfl) ?_
  refine gk_y rfl rfl (y_buildL rfl (bd50_0i_1i _ _)) ?_
  refine gk_storeV 0 tf50 rfl rfl (vs := [_, _]) rfl rfl rfl rfl rfl ?_
  refine gk_nil (gk_sub (T' := [(2,_)]) ⟨rfl, trivial⟩ ?_)
  refine gk_ret ?_
  refine gk_pure (rv_one rfl (r1_cellA (i := 0) (vs := [_, _]) tf50 rfl rfl rfl rfl)) ?_
  rfl
set_option maxRecDepth 100000 in
set_option maxHeartbeats 1000000 in
theorem ways4_c (p : Pt) (w : World)  :
    Calls Tryz.prog 197 #[.agg #[.int .i64 p.x, .int .i64 p.z]] w (Pure (ptV ⟨p.z, W (-p.x)⟩) w) := by
  refine calls_of_gk (vs := [_]) Tryz.func197 rfl rfl (Nat.le_of_ble_eq_true rfl) ?_
  refine gk_seq ?_
  refine gk_region ?_
  refine gk_yx rfl rfl (yx_box (vs := [_, _]) rfl rfl) fun b1 => ?_
  refine gk_yx rfl rfl (yx_alloc tf50 (zs := [_, _]) rfl) fun b2 => ?_
  refine gk_nil (gk_sub (T' := [(1,_), (2,_)]) ⟨rfl, rfl, trivial⟩ ?_)
  refine gk_seq ?_
  refine gk_region ?_
  refine gk_y rfl rfl (y_fieldAddr fo50_1 rfl) ?_
  refine gk_y rfl rfl (y_loadB1 1 tf3 rfl rfl rfl) ?_
  refine gk_y rfl rfl (y_fieldAddr fo50_0 rfl) ?_
  refine gk_y rfl rfl (y_loadB1 1 tf3 rfl rfl rfl) ?_
  refine gk_y rfl rfl (y_neg rfl) ?_
  refine gk_y rfl rfl (y_buildL rfl (bd50_0i_1i _ _)) ?_
  refine gk_storeV 0 tf50 rfl rfl (vs := [_, _]) rfl rfl rfl rfl rfl ?_
  refine gk_nil (gk_sub (T' := [(2,_)]) ⟨rfl, trivial⟩ ?_)
  refine gk_ret ?_
  refine gk_pure (rv_one rfl (r1_cellA (i := 0) (vs := [_, _]) tf50 rfl rfl rfl rfl)) ?_
  rfl
theorem ae109 : AE Tryz.prog 109 108 4 1 := ⟨Tryz.underlying109, by kernel_rfl⟩
set_option maxRecDepth 100000 in
set_option maxHeartbeats 1000000 in
theorem turned1_0 (p : Pt) (way : Int) (b : Nat) (w : World) (hb : Has w (Box b [.int .i64 way] 3)) (hways : Has w (Elems (some ⟨0, 0, none⟩) 1 encVal [.func (.func 194) #[] #[], .func (.func 195) #[] #[], .func (.func 196) #[] #[], .func (.func 197) #[] #[]])) (hk : way.tmod 4 = 0) :
    Calls Tryz.prog 56 #[.agg #[.int .i64 p.x, .int .i64 p.z], .pointer (some ⟨b, 0, none⟩)] w (Pure (ptV (moveW way p)) w) := by
  refine calls_of_gk (vs := [_, _]) Tryz.func56 rfl rfl (Nat.le_of_ble_eq_true rfl) ?_
  refine gk_seq ?_
  refine gk_region ?_
  refine gk_yx rfl rfl (yx_box (vs := [_, _]) rfl rfl) fun b2 => ?_
  refine gk_yx rfl rfl (yx_alloc tf50 (zs := [_, _]) rfl) fun b3 => ?_
  refine gk_nil (gk_sub (T' := [(1,_), (2,_), (3,_)]) ⟨rfl, rfl, rfl, trivial⟩ ?_)
  refine gk_seq ?_
  refine gk_seq ?_
  refine gk_region ?_
  refine gk_y rfl rfl (y_load1 tf3 rfl (fun _ hw => has_box_cell (Rd.has (Has.rd hb) hw) rfl)) ?_
  refine gk_y rfl rfl (y_gtr rfl rfl) ?_
  refine gk_nil (gk_sub (T' := [(1,_), (2,_), (3,_), (5,_)]) ⟨rfl, rfl, rfl, rfl, trivial⟩ ?_)
  refine gk_cond rfl (fun hc5 => ?_) (fun hc5 => ?_)
  · have hc5 := of_decide_eq_true hc5
    refine gk_region ?_
    refine gk_y rfl rfl (y_fieldAddr fo50_0 rfl) ?_
    refine gk_y rfl rfl (y_loadB1 1 tf3 rfl rfl rfl) ?_
    refine gk_y rfl rfl (y_neg rfl) ?_
    refine gk_y rfl rfl (y_fieldAddr fo50_0 rfl) ?_
    refine gk_storeV 1 tf3 rfl rfl (vs := [_]) rfl rfl rfl rfl rfl ?_
    refine gk_nil (gk_sub (T' := [(1,_), (2,_), (3,_)]) ⟨rfl, rfl, rfl, trivial⟩ ?_)
    refine gk_seq ?_
    refine gk_any 6 (fun _ => mixed) (by kernel_rfl) ?_
    refine ph_y (y_load1 tf3 rfl (fun _ hw => has_box_cell (Rd.has (Has.rd hb) hw) rfl)) ?_
    refine ph_y (y_rem rfl rfl (by decide)) ?_
    refine ph_y (y_indexA 0 ae109 rfl rfl hk (by decide)) ?_
    refine ph_y (y_load1 tf108 rfl (fun _ hw => elems_cell (i := 0) (Rd.has (Has.rd hways) hw) rfl)) ?_
    refine ph_y (y_loadBA 1 tf50 rfl rfl (vs := [_, _]) rfl rfl) ?_
    refine ph_y (y_callV (fs := []) (cap := []) en194 rfl rfl (fun w hw => ways1_c (⟨(IntKind.i64.wrap (-p.x)), p.z⟩ : Pt) w)) ?_
    refine gk_sub (T' := [(3,_), (15,_)]) ⟨rfl, rfl, trivial⟩ ?_
    refine gk_storeV 0 tf50 rfl rfl (vs := [_, _]) rfl rfl rfl rfl rfl ?_
    refine gk_nil (gk_sub (T' := [(3,_)]) ⟨rfl, trivial⟩ ?_)
    refine gk_ret ?_
    refine gk_pure (rv_one rfl (r1_cellA (i := 0) (vs := [_, _]) tf50 rfl rfl rfl rfl)) ?_
    simp only [moveW, flipW, quartW, hk, if_pos hc5]; rfl
  · have hc5 := of_decide_eq_false hc5
    refine gk_skip ?_
    refine gk_seq ?_
    refine gk_any 6 (fun _ => mixed) (by kernel_rfl) ?_
    refine ph_y (y_load1 tf3 rfl (fun _ hw => has_box_cell (Rd.has (Has.rd hb) hw) rfl)) ?_
    refine ph_y (y_rem rfl rfl (by decide)) ?_
    refine ph_y (y_indexA 0 ae109 rfl rfl hk (by decide)) ?_
    refine ph_y (y_load1 tf108 rfl (fun _ hw => elems_cell (i := 0) (Rd.has (Has.rd hways) hw) rfl)) ?_
    refine ph_y (y_loadBA 1 tf50 rfl rfl (vs := [_, _]) rfl rfl) ?_
    refine ph_y (y_callV (fs := []) (cap := []) en194 rfl rfl (fun w hw => ways1_c p w)) ?_
    refine gk_sub (T' := [(3,_), (15,_)]) ⟨rfl, rfl, trivial⟩ ?_
    refine gk_storeV 0 tf50 rfl rfl (vs := [_, _]) rfl rfl rfl rfl rfl ?_
    refine gk_nil (gk_sub (T' := [(3,_)]) ⟨rfl, trivial⟩ ?_)
    refine gk_ret ?_
    refine gk_pure (rv_one rfl (r1_cellA (i := 0) (vs := [_, _]) tf50 rfl rfl rfl rfl)) ?_
    simp only [moveW, flipW, quartW, hk, if_neg hc5]; rfl
set_option maxRecDepth 100000 in
set_option maxHeartbeats 1000000 in
theorem turned1_1 (p : Pt) (way : Int) (b : Nat) (w : World) (hb : Has w (Box b [.int .i64 way] 3)) (hways : Has w (Elems (some ⟨0, 0, none⟩) 1 encVal [.func (.func 194) #[] #[], .func (.func 195) #[] #[], .func (.func 196) #[] #[], .func (.func 197) #[] #[]])) (hk : way.tmod 4 = 1) :
    Calls Tryz.prog 56 #[.agg #[.int .i64 p.x, .int .i64 p.z], .pointer (some ⟨b, 0, none⟩)] w (Pure (ptV (moveW way p)) w) := by
  refine calls_of_gk (vs := [_, _]) Tryz.func56 rfl rfl (Nat.le_of_ble_eq_true rfl) ?_
  refine gk_seq ?_
  refine gk_region ?_
  refine gk_yx rfl rfl (yx_box (vs := [_, _]) rfl rfl) fun b2 => ?_
  refine gk_yx rfl rfl (yx_alloc tf50 (zs := [_, _]) rfl) fun b3 => ?_
  refine gk_nil (gk_sub (T' := [(1,_), (2,_), (3,_)]) ⟨rfl, rfl, rfl, trivial⟩ ?_)
  refine gk_seq ?_
  refine gk_seq ?_
  refine gk_region ?_
  refine gk_y rfl rfl (y_load1 tf3 rfl (fun _ hw => has_box_cell (Rd.has (Has.rd hb) hw) rfl)) ?_
  refine gk_y rfl rfl (y_gtr rfl rfl) ?_
  refine gk_nil (gk_sub (T' := [(1,_), (2,_), (3,_), (5,_)]) ⟨rfl, rfl, rfl, rfl, trivial⟩ ?_)
  refine gk_cond rfl (fun hc5 => ?_) (fun hc5 => ?_)
  · have hc5 := of_decide_eq_true hc5
    refine gk_region ?_
    refine gk_y rfl rfl (y_fieldAddr fo50_0 rfl) ?_
    refine gk_y rfl rfl (y_loadB1 1 tf3 rfl rfl rfl) ?_
    refine gk_y rfl rfl (y_neg rfl) ?_
    refine gk_y rfl rfl (y_fieldAddr fo50_0 rfl) ?_
    refine gk_storeV 1 tf3 rfl rfl (vs := [_]) rfl rfl rfl rfl rfl ?_
    refine gk_nil (gk_sub (T' := [(1,_), (2,_), (3,_)]) ⟨rfl, rfl, rfl, trivial⟩ ?_)
    refine gk_seq ?_
    refine gk_any 6 (fun _ => mixed) (by kernel_rfl) ?_
    refine ph_y (y_load1 tf3 rfl (fun _ hw => has_box_cell (Rd.has (Has.rd hb) hw) rfl)) ?_
    refine ph_y (y_rem rfl rfl (by decide)) ?_
    refine ph_y (y_indexA 1 ae109 rfl rfl hk (by decide)) ?_
    refine ph_y (y_load1 tf108 rfl (fun _ hw => elems_cell (i := 1) (Rd.has (Has.rd hways) hw) rfl)) ?_
    refine ph_y (y_loadBA 1 tf50 rfl rfl (vs := [_, _]) rfl rfl) ?_
    refine ph_y (y_callV (fs := []) (cap := []) en195 rfl rfl (fun w hw => ways2_c (⟨(IntKind.i64.wrap (-p.x)), p.z⟩ : Pt) w)) ?_
    refine gk_sub (T' := [(3,_), (15,_)]) ⟨rfl, rfl, trivial⟩ ?_
    refine gk_storeV 0 tf50 rfl rfl (vs := [_, _]) rfl rfl rfl rfl rfl ?_
    refine gk_nil (gk_sub (T' := [(3,_)]) ⟨rfl, trivial⟩ ?_)
    refine gk_ret ?_
    refine gk_pure (rv_one rfl (r1_cellA (i := 0) (vs := [_, _]) tf50 rfl rfl rfl rfl)) ?_
    simp only [moveW, flipW, quartW, hk, if_pos hc5]; rfl
  · have hc5 := of_decide_eq_false hc5
    refine gk_skip ?_
    refine gk_seq ?_
    refine gk_any 6 (fun _ => mixed) (by kernel_rfl) ?_
    refine ph_y (y_load1 tf3 rfl (fun _ hw => has_box_cell (Rd.has (Has.rd hb) hw) rfl)) ?_
    refine ph_y (y_rem rfl rfl (by decide)) ?_
    refine ph_y (y_indexA 1 ae109 rfl rfl hk (by decide)) ?_
    refine ph_y (y_load1 tf108 rfl (fun _ hw => elems_cell (i := 1) (Rd.has (Has.rd hways) hw) rfl)) ?_
    refine ph_y (y_loadBA 1 tf50 rfl rfl (vs := [_, _]) rfl rfl) ?_
    refine ph_y (y_callV (fs := []) (cap := []) en195 rfl rfl (fun w hw => ways2_c p w)) ?_
    refine gk_sub (T' := [(3,_), (15,_)]) ⟨rfl, rfl, trivial⟩ ?_
    refine gk_storeV 0 tf50 rfl rfl (vs := [_, _]) rfl rfl rfl rfl rfl ?_
    refine gk_nil (gk_sub (T' := [(3,_)]) ⟨rfl, trivial⟩ ?_)
    refine gk_ret ?_
    refine gk_pure (rv_one rfl (r1_cellA (i := 0) (vs := [_, _]) tf50 rfl rfl rfl rfl)) ?_
    simp only [moveW, flipW, quartW, hk, if_neg hc5]; rfl
set_option maxRecDepth 100000 in
set_option maxHeartbeats 1000000 in
theorem turned1_2 (p : Pt) (way : Int) (b : Nat) (w : World) (hb : Has w (Box b [.int .i64 way] 3)) (hways : Has w (Elems (some ⟨0, 0, none⟩) 1 encVal [.func (.func 194) #[] #[], .func (.func 195) #[] #[], .func (.func 196) #[] #[], .func (.func 197) #[] #[]])) (hk : way.tmod 4 = 2) :
    Calls Tryz.prog 56 #[.agg #[.int .i64 p.x, .int .i64 p.z], .pointer (some ⟨b, 0, none⟩)] w (Pure (ptV (moveW way p)) w) := by
  refine calls_of_gk (vs := [_, _]) Tryz.func56 rfl rfl (Nat.le_of_ble_eq_true rfl) ?_
  refine gk_seq ?_
  refine gk_region ?_
  refine gk_yx rfl rfl (yx_box (vs := [_, _]) rfl rfl) fun b2 => ?_
  refine gk_yx rfl rfl (yx_alloc tf50 (zs := [_, _]) rfl) fun b3 => ?_
  refine gk_nil (gk_sub (T' := [(1,_), (2,_), (3,_)]) ⟨rfl, rfl, rfl, trivial⟩ ?_)
  refine gk_seq ?_
  refine gk_seq ?_
  refine gk_region ?_
  refine gk_y rfl rfl (y_load1 tf3 rfl (fun _ hw => has_box_cell (Rd.has (Has.rd hb) hw) rfl)) ?_
  refine gk_y rfl rfl (y_gtr rfl rfl) ?_
  refine gk_nil (gk_sub (T' := [(1,_), (2,_), (3,_), (5,_)]) ⟨rfl, rfl, rfl, rfl, trivial⟩ ?_)
  refine gk_cond rfl (fun hc5 => ?_) (fun hc5 => ?_)
  · have hc5 := of_decide_eq_true hc5
    refine gk_region ?_
    refine gk_y rfl rfl (y_fieldAddr fo50_0 rfl) ?_
    refine gk_y rfl rfl (y_loadB1 1 tf3 rfl rfl rfl) ?_
    refine gk_y rfl rfl (y_neg rfl) ?_
    refine gk_y rfl rfl (y_fieldAddr fo50_0 rfl) ?_
    refine gk_storeV 1 tf3 rfl rfl (vs := [_]) rfl rfl rfl rfl rfl ?_
    refine gk_nil (gk_sub (T' := [(1,_), (2,_), (3,_)]) ⟨rfl, rfl, rfl, trivial⟩ ?_)
    refine gk_seq ?_
    refine gk_any 6 (fun _ => mixed) (by kernel_rfl) ?_
    refine ph_y (y_load1 tf3 rfl (fun _ hw => has_box_cell (Rd.has (Has.rd hb) hw) rfl)) ?_
    refine ph_y (y_rem rfl rfl (by decide)) ?_
    refine ph_y (y_indexA 2 ae109 rfl rfl hk (by decide)) ?_
    refine ph_y (y_load1 tf108 rfl (fun _ hw => elems_cell (i := 2) (Rd.has (Has.rd hways) hw) rfl)) ?_
    refine ph_y (y_loadBA 1 tf50 rfl rfl (vs := [_, _]) rfl rfl) ?_
    refine ph_y (y_callV (fs := []) (cap := []) en196 rfl rfl (fun w hw => ways3_c (⟨(IntKind.i64.wrap (-p.x)), p.z⟩ : Pt) w)) ?_
    refine gk_sub (T' := [(3,_), (15,_)]) ⟨rfl, rfl, trivial⟩ ?_
    refine gk_storeV 0 tf50 rfl rfl (vs := [_, _]) rfl rfl rfl rfl rfl ?_
    refine gk_nil (gk_sub (T' := [(3,_)]) ⟨rfl, trivial⟩ ?_)
    refine gk_ret ?_
    refine gk_pure (rv_one rfl (r1_cellA (i := 0) (vs := [_, _]) tf50 rfl rfl rfl rfl)) ?_
    simp only [moveW, flipW, quartW, hk, if_pos hc5]; rfl
  · have hc5 := of_decide_eq_false hc5
    refine gk_skip ?_
    refine gk_seq ?_
    refine gk_any 6 (fun _ => mixed) (by kernel_rfl) ?_
    refine ph_y (y_load1 tf3 rfl (fun _ hw => has_box_cell (Rd.has (Has.rd hb) hw) rfl)) ?_
    refine ph_y (y_rem rfl rfl (by decide)) ?_
    refine ph_y (y_indexA 2 ae109 rfl rfl hk (by decide)) ?_
    refine ph_y (y_load1 tf108 rfl (fun _ hw => elems_cell (i := 2) (Rd.has (Has.rd hways) hw) rfl)) ?_
    refine ph_y (y_loadBA 1 tf50 rfl rfl (vs := [_, _]) rfl rfl) ?_
    refine ph_y (y_callV (fs := []) (cap := []) en196 rfl rfl (fun w hw => ways3_c p w)) ?_
    refine gk_sub (T' := [(3,_), (15,_)]) ⟨rfl, rfl, trivial⟩ ?_
    refine gk_storeV 0 tf50 rfl rfl (vs := [_, _]) rfl rfl rfl rfl rfl ?_
    refine gk_nil (gk_sub (T' := [(3,_)]) ⟨rfl, trivial⟩ ?_)
    refine gk_ret ?_
    refine gk_pure (rv_one rfl (r1_cellA (i := 0) (vs := [_, _]) tf50 rfl rfl rfl rfl)) ?_
    simp only [moveW, flipW, quartW, hk, if_neg hc5]; rfl
set_option maxRecDepth 100000 in
set_option maxHeartbeats 1000000 in
theorem turned1_3 (p : Pt) (way : Int) (b : Nat) (w : World) (hb : Has w (Box b [.int .i64 way] 3)) (hways : Has w (Elems (some ⟨0, 0, none⟩) 1 encVal [.func (.func 194) #[] #[], .func (.func 195) #[] #[], .func (.func 196) #[] #[], .func (.func 197) #[] #[]])) (hk : way.tmod 4 = 3) :
    Calls Tryz.prog 56 #[.agg #[.int .i64 p.x, .int .i64 p.z], .pointer (some ⟨b, 0, none⟩)] w (Pure (ptV (moveW way p)) w) := by
  refine calls_of_gk (vs := [_, _]) Tryz.func56 rfl rfl (Nat.le_of_ble_eq_true rfl) ?_
  refine gk_seq ?_
  refine gk_region ?_
  refine gk_yx rfl rfl (yx_box (vs := [_, _]) rfl rfl) fun b2 => ?_
  refine gk_yx rfl rfl (yx_alloc tf50 (zs := [_, _]) rfl) fun b3 => ?_
  refine gk_nil (gk_sub (T' := [(1,_), (2,_), (3,_)]) ⟨rfl, rfl, rfl, trivial⟩ ?_)
  refine gk_seq ?_
  refine gk_seq ?_
  refine gk_region ?_
  refine gk_y rfl rfl (y_load1 tf3 rfl (fun _ hw => has_box_cell (Rd.has (Has.rd hb) hw) rfl)) ?_
  refine gk_y rfl rfl (y_gtr rfl rfl) ?_
  refine gk_nil (gk_sub (T' := [(1,_), (2,_), (3,_), (5,_)]) ⟨rfl, rfl, rfl, rfl, trivial⟩ ?_)
  refine gk_cond rfl (fun hc5 => ?_) (fun hc5 => ?_)
  · have hc5 := of_decide_eq_true hc5
    refine gk_region ?_
    refine gk_y rfl rfl (y_fieldAddr fo50_0 rfl) ?_
    refine gk_y rfl rfl (y_loadB1 1 tf3 rfl rfl rfl) ?_
    refine gk_y rfl rfl (y_neg rfl) ?_
    refine gk_y rfl rfl (y_fieldAddr fo50_0 rfl) ?_
    refine gk_storeV 1 tf3 rfl rfl (vs := [_]) rfl rfl rfl rfl rfl ?_
    refine gk_nil (gk_sub (T' := [(1,_), (2,_), (3,_)]) ⟨rfl, rfl, rfl, trivial⟩ ?_)
    refine gk_seq ?_
    refine gk_any 6 (fun _ => mixed) (by kernel_rfl) ?_
    refine ph_y (y_load1 tf3 rfl (fun _ hw => has_box_cell (Rd.has (Has.rd hb) hw) rfl)) ?_
    refine ph_y (y_rem rfl rfl (by decide)) ?_
    refine ph_y (y_indexA 3 ae109 rfl rfl hk (by decide)) ?_
    refine ph_y (y_load1 tf108 rfl (fun _ hw => elems_cell (i := 3) (Rd.has (Has.rd hways) hw) rfl)) ?_
    refine ph_y (y_loadBA 1 tf50 rfl rfl (vs := [_, _]) rfl rfl) ?_
    refine ph_y (y_callV (fs := []) (cap := []) en197 rfl rfl (fun w hw => ways4_c (⟨(IntKind.i64.wrap (-p.x)), p.z⟩ : Pt) w)) ?_
    refine gk_sub (T' := [(3,_), (15,_)]) ⟨rfl, rfl, trivial⟩ ?_
    refine gk_storeV 0 tf50 rfl rfl (vs := [_, _]) rfl rfl rfl rfl rfl ?_
    refine gk_nil (gk_sub (T' := [(3,_)]) ⟨rfl, trivial⟩ ?_)
    refine gk_ret ?_
    refine gk_pure (rv_one rfl (r1_cellA (i := 0) (vs := [_, _]) tf50 rfl rfl rfl rfl)) ?_
    simp only [moveW, flipW, quartW, hk, if_pos hc5]; rfl
  · have hc5 := of_decide_eq_false hc5
    refine gk_skip ?_
    refine gk_seq ?_
    refine gk_any 6 (fun _ => mixed) (by kernel_rfl) ?_
    refine ph_y (y_load1 tf3 rfl (fun _ hw => has_box_cell (Rd.has (Has.rd hb) hw) rfl)) ?_
    refine ph_y (y_rem rfl rfl (by decide)) ?_
    refine ph_y (y_indexA 3 ae109 rfl rfl hk (by decide)) ?_
    refine ph_y (y_load1 tf108 rfl (fun _ hw => elems_cell (i := 3) (Rd.has (Has.rd hways) hw) rfl)) ?_
    refine ph_y (y_loadBA 1 tf50 rfl rfl (vs := [_, _]) rfl rfl) ?_
    refine ph_y (y_callV (fs := []) (cap := []) en197 rfl rfl (fun w hw => ways4_c p w)) ?_
    refine gk_sub (T' := [(3,_), (15,_)]) ⟨rfl, rfl, trivial⟩ ?_
    refine gk_storeV 0 tf50 rfl rfl (vs := [_, _]) rfl rfl rfl rfl rfl ?_
    refine gk_nil (gk_sub (T' := [(3,_)]) ⟨rfl, trivial⟩ ?_)
    refine gk_ret ?_
    refine gk_pure (rv_one rfl (r1_cellA (i := 0) (vs := [_, _]) tf50 rfl rfl rfl rfl)) ?_
    simp only [moveW, flipW, quartW, hk, if_neg hc5]; rfl
theorem turned1_c (p : Pt) (way : Int) (b : Nat) (w : World) (hb : Has w (Box b [.int .i64 way] 3)) (hways : Has w (Elems (some ⟨0, 0, none⟩) 1 encVal [.func (.func 194) #[] #[], .func (.func 195) #[] #[], .func (.func 196) #[] #[], .func (.func 197) #[] #[]])) (h0 : 0 ≤ way) : Calls Tryz.prog 56 #[ptV p, .pointer (some ⟨b, 0, none⟩)] w (Pure (ptV (moveW way p)) w) := by
  have h1 : way.tmod 4 < 4 := Int.tmod_lt_of_pos _ (by decide)
  have h2 : 0 ≤ way.tmod 4 := Int.tmod_nonneg _ h0
  rcases (show way.tmod 4 = 0 ∨ way.tmod 4 = 1 ∨ way.tmod 4 = 2 ∨ way.tmod 4 = 3 by omega) with h | h | h | h
  · exact turned1_0 p way b w hb hways h
  · exact turned1_1 p way b w hb hways h
  · exact turned1_2 p way b w hb hways h
  · exact turned1_3 p way b w hb hways h
def RevI (l m : List Pt) (i : Int) : Prop := ∀ k : Nat, k < l.length → m.getD k default = if (k : Int) < i ∨ (l.length : Int) - 1 - i < (k : Int) then l.getD (l.length - 1 - k) default else l.getD k default
theorem rev_step {l m : List Pt} {i j : Int} (h0 : 0 ≤ i) (hj : j = (l.length : Int) - 1 - i) (hij : i < j) (hl : m.length = l.length) (h : RevI l m i) : RevI l ((m.set i.toNat (m.getD j.toNat default)).set j.toNat (m.getD i.toNat default)) (i + 1) := fun k hk => by
  have hm : ∀ (a : List Pt) (n : Nat) (x : Pt) (k : Nat), (a.set n x).getD k default = if k = n ∧ n < a.length then x else a.getD k default := fun a n x k => by
    simp only [List.getD_eq_getElem?_getD, List.getElem?_set]
    by_cases h1 : n = k
    · subst h1
      by_cases h2 : n < a.length
      · simp [h2]
      · simp [h2]
    · rw [if_neg h1, if_neg (fun h => h1 h.1.symm)]
  rw [hm, hm, List.length_set]
  have hi := h i.toNat (by omega)
  have hjj := h j.toNat (by omega)
  rw [if_neg (by omega)] at hi hjj
  by_cases hkj : k = j.toNat
  · rw [if_pos ⟨hkj, by omega⟩, if_pos (by omega), hi]
    congr 1
    omega
  · rw [if_neg (fun h => hkj h.1)]
    by_cases hki : k = i.toNat
    · rw [if_pos ⟨hki, by omega⟩, if_pos (by omega), hjj]
      congr 1
      omega
    · rw [if_neg (fun h => hki h.1), h k hk]
      by_cases hc : (k : Int) < i ∨ (l.length : Int) - 1 - i < (k : Int)
      · rw [if_pos hc, if_pos (by omega)]
      · rw [if_neg hc, if_neg (by omega)]
theorem rev_end {l m : List Pt} {i j : Int} (_h0 : 0 ≤ i) (hj : j = (l.length : Int) - 1 - i) (hij : ¬ i < j) (hl : m.length = l.length) (h : RevI l m i) : m = l.reverse := by
  apply List.ext_getElem
  · rw [List.length_reverse, hl]
  · intro k h1 h2
    have := h k (by omega)
    rw [List.getElem_reverse]
    have e1 : m.getD k default = m[k] := by simp [h1]
    rw [← e1, this]
    have hk : l.length - 1 - k < l.length := by omega
    split
    · simp [hk]
    · rename_i hc
      have : k = l.length - 1 - k := by omega
      have h4 : l.getD (l.length - 1 - k) default = l[l.length - 1 - k] := by simp [hk]
      rw [← h4]
      exact congrArg (fun n => l.getD n default) this
set_option maxRecDepth 100000 in
set_option maxHeartbeats 1000000 in
theorem reverse_c (a : Option Addr) (cap : Nat) (l : List Pt) (w : World) (B : Nat → Prop) (hB : ∀ k, B k → k < w.heap.size) (hA : (Row a 2 cap 50 encPt l).A B w) (hs : Small l.length) :
    Calls Tryz.prog 57 #[.slice a l.length cap] w (Turns (fun _ : Unit => .tuple #[]) (fun _ => Row a 2 cap 50 encPt l.reverse) (fun _ => True) B w) := by
  refine calls_of_gkB hB hA (vs := [_]) Tryz.func57 rfl rfl (Nat.le_of_ble_eq_true rfl) ?_
  refine gk_seq ?_
  refine gk_region ?_
  refine gk_y rfl rfl (y_move rfl) ?_
  refine gk_y rfl rfl (y_lenS (Tryz.underlying49) rfl) ?_
  refine gk_y rfl rfl (y_subI rfl rfl (by omega) (by omega)) ?_
  refine gk_y rfl rfl (y_assign rfl) ?_
  refine gk_y rfl rfl (y_assign rfl) ?_
  refine gk_nil (gk_sub (T' := [(0,_), (2,_), (3,_)]) ⟨rfl, rfl, rfl, trivial⟩ ?_)
  refine gk_block ?_
  refine gk_loop (X := Int × Int × List Pt) (fun ⟨i, j, m⟩ => [(0, .slice a l.length cap), (2, .int .i64 i), (3, .int .i64 j)]) (fun ⟨i, j, m⟩ => [Row a 2 cap 50 encPt m]) (fun ⟨i, j, m⟩ => (0 ≤ i ∧ j = (l.length : Int) - 1 - i ∧ (i ≤ j + 1 ∨ i = 0) ∧ m.length = l.length ∧ RevI l m i)) (fun ⟨i, j, m⟩ => (j - i + 1).toNat) (0, (l.length : Int) - 1, l) ⟨rfl, rfl, rfl, trivial⟩ rfl ?_ ?_
  · exact ⟨by omega, by omega, .inr rfl, rfl, fun k hk => by rw [if_neg (by omega)]⟩
  · rintro ⟨i, j, m⟩ hI
    obtain ⟨g0, g1, g5, g3, g2⟩ := hI
    refine gk_seq ?_
    refine gk_seq ?_
    refine gk_region ?_
    refine gk_y rfl rfl (y_move rfl) ?_
    refine gk_y rfl rfl (y_move rfl) ?_
    refine gk_y rfl rfl (y_lss rfl rfl) ?_
    refine gk_nil (gk_sub (T' := [(0,_), (2,_), (3,_), (9,_)]) ⟨rfl, rfl, rfl, rfl, trivial⟩ ?_)
    refine gk_cond rfl (fun hc9 => ?_) (fun hc9 => ?_)
    · have hc9 := of_decide_eq_true hc9
      refine gk_skip ?_
      refine gk_seq ?_
      refine gk_block ?_
      refine gk_anyS (R' := Row a 2 cap 50 encPt ((m).set (i).toNat ⟨((m.getD (j).toNat default).x), ((m.getD (j).toNat default).z)⟩)) 13 [2, 3] 0 (fun _ => mixed) rfl rfl (by kernel_rfl) rfl ?_
      refine phs_y (y_move rfl) ?_
      refine phs_y (y_move rfl) ?_
      refine phs_y (y_move rfl) ?_
      refine phs_y (y_move rfl) ?_
      refine phs_y (y_move rfl) ?_
      refine phs_y (y_move rfl) ?_
      refine phs_y (y_indexN se49 rfl rfl (fun _ hw => (has_row encPt_ok (hw.has (p := 0) rfl))) (by first | exact g3 | (rw [List.length_set]; exact g3)) (by omega) (by first | omega | (rw [List.length_set]; omega))) ?_
      refine phs_y (y_loadE (vs := [_, _]) tf50 rfl (fun _ hw => (has_row encPt_ok (hw.has (p := 0) rfl))) (by omega) (by omega) rfl) ?_
      refine phs_y (y_move rfl) ?_
      refine phs_y (y_move rfl) ?_
      refine phs_y (y_indexN se49 rfl rfl (fun _ hw => (has_row encPt_ok (hw.has (p := 0) rfl))) (by first | exact g3 | (rw [List.length_set]; exact g3)) (by omega) (by first | omega | (rw [List.length_set]; omega))) ?_
      refine phs_y (y_loadE (vs := [_, _]) tf50 rfl (fun _ hw => (has_row encPt_ok (hw.has (p := 0) rfl))) (by omega) (by omega) rfl) ?_
      refine phs_y (y_indexN se49 rfl rfl (fun _ hw => (has_row encPt_ok (hw.has (p := 0) rfl))) (by first | exact g3 | (rw [List.length_set]; exact g3)) (by omega) (by first | omega | (rw [List.length_set]; omega))) ?_
      refine ⟨so_elem encPt_ok tf50 rfl rfl rfl (by rfl) (by omega) (by first | omega | (rw [List.length_set]; omega)), ?_⟩
      refine gk_sub (T' := [(0,_), (2,_), (3,_), (16,_), (17,_), (25,_)]) ⟨rfl, rfl, rfl, rfl, rfl, rfl, trivial⟩ ?_
      refine gk_y rfl rfl (y_indexN se49 rfl rfl (fun _ hw => (has_row encPt_ok (hw.has (p := 0) rfl))) (by first | exact g3 | (rw [List.length_set]; exact g3)) (by omega) (by first | omega | (rw [List.length_set]; omega))) ?_
      refine gk_storeE (x' := ⟨((m.getD (i).toNat default).x), ((m.getD (i).toNat default).z)⟩) 0 encPt_ok tf50 rfl rfl (vs := [_, _]) rfl rfl rfl (by omega) (by first | omega | (rw [List.length_set]; omega)) ?_
      refine gk_nil (gk_sub (T' := [(0,_), (2,_), (3,_)]) ⟨rfl, rfl, rfl, trivial⟩ ?_)
      refine gk_region ?_
      refine gk_y rfl rfl (y_move rfl) ?_
      refine gk_y rfl rfl (y_addI rfl rfl (by omega) (by omega)) ?_
      refine gk_y rfl rfl (y_move rfl) ?_
      refine gk_y rfl rfl (y_subI rfl rfl (by omega) (by omega)) ?_
      refine gk_y rfl rfl (y_assign rfl) ?_
      refine gk_y rfl rfl (y_assign rfl) ?_
      refine gk_nil (gk_sub (T' := [(0,_), (2,_), (3,_)]) ⟨rfl, rfl, rfl, trivial⟩ ?_)
      exact gk_next (i + 1, j - 1, _) ⟨rfl, rfl, rfl, trivial⟩ rfl ⟨by omega, by omega, by omega, by rw [List.length_set, List.length_set]; exact g3, rev_step g0 g1 hc9 g3 g2⟩ (by simp only []; omega)
    · have hc9 := of_decide_eq_false hc9
      obtain rfl : m = l.reverse := rev_end g0 g1 hc9 g3 g2
      refine gk_exit rfl ?_
      refine gk_turns () 0 (rv_none rfl) rfl rfl trivial
set_option maxRecDepth 100000 in
set_option maxHeartbeats 1000000 in
theorem Turned_c (a : Option Addr) (cap : Nat) (s : Stn) (way : Int) (w : World) (hl : Has w (Pts a s.shape)) (hs : Small s.shape.length) (hways : Has w (Elems (some ⟨0, 0, none⟩) 1 encVal [.func (.func 194) #[] #[], .func (.func 195) #[] #[], .func (.func 196) #[] #[], .func (.func 197) #[] #[]])) :
    Calls Tryz.prog 23 #[.agg #[.string s.name, .slice a s.shape.length cap, .int .i64 s.depth, .int .i64 s.density, .int .i64 s.grain.x, .int .i64 s.grain.z], .int .i64 way] w (Gives (fun z : Option Addr × Nat => .tuple #[stnV (turnedS s way) z.1 z.2, .int .i64 (turnedE s way)]) (fun z => Row z.1 2 z.2 50 encPt (turnedS s way).shape) w) := by
  refine calls_of_gk (vs := [_, _]) Tryz.func23 rfl rfl (Nat.le_of_ble_eq_true rfl) ?_
  refine gk_seq ?_
  refine gk_region ?_
  refine gk_yx rfl rfl (yx_box (vs := [_, _, _, _, _, _]) rfl rfl) fun b2 => ?_
  refine gk_yx rfl rfl (yx_box (vs := [_]) rfl rfl) fun b3 => ?_
  refine gk_yx rfl rfl (yx_alloc tf52 (zs := [_, _, _, _, _, _]) rfl) fun b4 => ?_
  refine gk_y rfl rfl (y_assign rfl) ?_
  refine gk_nil (gk_sub (T' := [(2,_), (3,_), (4,_), (5,_)]) ⟨rfl, rfl, rfl, rfl, trivial⟩ ?_)
  refine gk_seq ?_
  refine gk_seq ?_
  refine gk_region ?_
  refine gk_y rfl rfl (y_loadBA 2 tf52 rfl rfl (vs := [_, _, _, _, _, _]) rfl rfl) ?_
  refine gk_y rfl rfl (y_call en38 rfl (fun w hw => check_c _ _ s w (Rd.has (Has.rd hl) hw) (by assumption))) ?_
  refine gk_y rfl rfl (y_assign rfl) ?_
  refine gk_nil (gk_sub (T' := [(2,_), (3,_), (4,_), (5,_), (6,_)]) ⟨rfl, rfl, rfl, rfl, rfl, trivial⟩ ?_)
  refine gk_seq ?_
  refine gk_region ?_
  refine gk_y rfl rfl (y_move rfl) ?_
  refine gk_y rfl rfl (y_neq rfl rfl) ?_
  refine gk_nil (gk_sub (T' := [(2,_), (3,_), (4,_), (5,_), (6,_), (14,_)]) ⟨rfl, rfl, rfl, rfl, rfl, rfl, trivial⟩ ?_)
  refine gk_cond rfl (fun hc14 => ?_) (fun hc14 => ?_)
  · have hk : ¬ checkI s = 0 := by simpa using hc14
    have hE : turnedE s way = checkI s := by rw [turnedE, if_pos hk]
    have hT := turned_bad hE hk
    refine gk_newNil 50 encPt 2 ?_
    refine gk_seq ?_
    refine gk_region ?_
    refine gk_y rfl rfl (y_buildL (parts := []) rfl bd52_) ?_
    refine gk_y rfl rfl (y_move rfl) ?_
    refine gk_storeV 1 tf52 rfl rfl (vs := [_, _, _, _, _, _]) rfl rfl rfl rfl rfl ?_
    refine gk_y rfl rfl (y_assign rfl) ?_
    refine gk_nil (gk_sub (T' := [(2,_), (3,_), (4,_), (5,_)]) ⟨rfl, rfl, rfl, rfl, trivial⟩ ?_)
    refine gk_ret ?_
    refine gk_gives (none, 0) 0 (rv_two rfl (r1_cellA (i := 1) (vs := [_, _, _, _, _, _]) tf52 rfl rfl rfl rfl) (r1_tmp rfl)) ?_ (by rw [hT]; rfl)
    rw [hT, hE]; try rfl
  · have hk : checkI s = 0 := by simpa using hc14
    have hlen := check_len hk
    refine gk_skip ?_
    refine gk_seq ?_
    refine gk_seq ?_
    refine gk_region ?_
    refine gk_y rfl rfl (y_loadB1 1 tf3 rfl rfl rfl) ?_
    refine gk_y rfl rfl (y_call en55 rfl (fun w hw => within_c _ _ _ w)) ?_
    refine gk_y rfl rfl (y_not rfl) ?_
    refine gk_nil (gk_sub (T' := [(2,_), (3,_), (4,_), (5,_), (19,_)]) ⟨rfl, rfl, rfl, rfl, rfl, trivial⟩ ?_)
    refine gk_cond rfl (fun hc19 => ?_) (fun hc19 => ?_)
    · have hE : turnedE s way = 3 := by rw [turnedE, if_neg (fun h => h hk), if_pos (by simpa only [Bool.not_eq_true'] using hc19)]
      have hT := turned_bad hE (by decide)
      refine gk_newNil 50 encPt 2 ?_
      refine gk_seq ?_
      refine gk_region ?_
      refine gk_y rfl rfl (y_buildL (parts := []) rfl bd52_) ?_
      refine gk_storeV 1 tf52 rfl rfl (vs := [_, _, _, _, _, _]) rfl rfl rfl rfl rfl ?_
      refine gk_y rfl rfl (y_assign rfl) ?_
      refine gk_nil (gk_sub (T' := [(2,_), (3,_), (4,_), (5,_)]) ⟨rfl, rfl, rfl, rfl, trivial⟩ ?_)
      refine gk_ret ?_
      refine gk_gives (none, 0) 0 (rv_two rfl (r1_cellA (i := 1) (vs := [_, _, _, _, _, _]) tf52 rfl rfl rfl rfl) (r1_tmp rfl)) ?_ (by rw [hT]; rfl)
      rw [hT, hE]; try rfl
    · have hw7 : (decide (0 ≤ way) && decide (way ≤ 7)) = true := by simpa only [Bool.not_eq_false'] using hc19
      have hE : turnedE s way = 0 := by rw [turnedE, if_neg (fun h => h hk), if_neg (by rw [hw7]; exact fun h => Bool.false_ne_true h.symm)]
      have hT := turned_good hE
      have h0 : 0 ≤ way := by simp at hw7; omega
      refine gk_skip ?_
      refine gk_seq ?_
      refine gk_region ?_
      refine gk_y rfl rfl (y_makeFunc («as» := []) (bs := [_]) rfl rfl) ?_
      refine gk_y rfl rfl (y_assign rfl) ?_
      refine gk_nil (gk_sub (T' := [(2,_), (3,_), (4,_), (5,_), (7,_)]) ⟨rfl, rfl, rfl, rfl, rfl, trivial⟩ ?_)
      refine gk_seq ?_
      refine gk_region ?_
      refine gk_y rfl rfl (y_loadBA 2 tf52 rfl rfl (vs := [_, _, _, _, _, _]) rfl rfl) ?_
      refine gk_yx rfl rfl (yx_alloc tf52 (zs := [_, _, _, _, _, _]) rfl) fun b8 => ?_
      refine gk_storeV 0 tf52 rfl rfl (vs := [_, _, _, _, _, _]) rfl rfl rfl rfl rfl ?_
      refine gk_nil (gk_sub (T' := [(2,_), (3,_), (4,_), (5,_), (7,_), (8,_)]) ⟨rfl, rfl, rfl, rfl, rfl, rfl, trivial⟩ ?_)
      refine gk_seq ?_
      refine gk_region ?_
      refine gk_y rfl rfl (y_fieldAddr fo52_1 rfl) ?_
      refine gk_storeV 0 tf49 rfl rfl (vs := [_]) rfl rfl rfl rfl rfl ?_
      refine gk_nil (gk_sub (T' := [(2,_), (3,_), (4,_), (5,_), (7,_), (8,_)]) ⟨rfl, rfl, rfl, rfl, rfl, rfl, trivial⟩ ?_)
      refine gk_seq ?_
      refine gk_seq ?_
      refine gk_region ?_
      refine gk_y rfl rfl (y_fieldAddr fo52_1 rfl) ?_
      refine gk_y rfl rfl (y_loadB1 3 tf49 rfl rfl rfl) ?_
      refine gk_y rfl rfl (y_lenS (Tryz.underlying49) rfl) ?_
      refine gk_y rfl rfl (y_move rfl) ?_
      refine gk_nil (gk_sub (T' := [(2,_), (3,_), (4,_), (5,_), (7,_), (8,_), (25,_), (26,_), (27,_)]) ⟨rfl, rfl, rfl, rfl, rfl, rfl, rfl, rfl, rfl, trivial⟩ ?_)
      refine gk_block ?_
      refine gk_newNil 50 encPt 2 ?_
      refine gk_loop (X := Int × Option Addr × Nat × List Pt) (fun ⟨i, b, bc, m⟩ => [(2, .pointer (some ⟨b2, 0, none⟩)), (3, .pointer (some ⟨b3, 0, none⟩)), (4, .pointer (some ⟨b4, 0, none⟩)), (5, .int .i64 0), (7, .func (.func 56) #[] #[.pointer (some ⟨b3, 0, none⟩)]), (8, .pointer (some ⟨b8, 0, none⟩)), (25, .slice a s.shape.length cap), (26, .int .i64 (s.shape.length : Int)), (27, .int .i64 i)]) (fun ⟨i, b, bc, m⟩ => [Row b 2 bc 50 encPt m, Box b8 [.string s.name, .slice b m.length bc, .int .i64 s.depth, .int .i64 s.density, .int .i64 s.grain.x, .int .i64 s.grain.z] 52, Box b4 [.string ⟨#[]⟩, .slice none 0 0, .int .i64 0, .int .i64 0, .int .i64 0, .int .i64 0] 52, Box b3 [.int .i64 way] 3, Box b2 [.string s.name, .slice a s.shape.length cap, .int .i64 s.depth, .int .i64 s.density, .int .i64 s.grain.x, .int .i64 s.grain.z] 52]) (fun ⟨i, b, bc, m⟩ => (0 ≤ i ∧ i ≤ s.shape.length ∧ m = (s.shape.take i.toNat).map (moveW way) ∧ m.length ≤ s.shape.length)) (fun ⟨i, b, bc, m⟩ => (s.shape.length - i).toNat) (0, none, 0, []) ⟨rfl, rfl, rfl, rfl, rfl, rfl, rfl, rfl, rfl, trivial⟩ rfl ?_ ?_
      · exact ⟨by omega, by omega, rfl, by simp⟩
      · rintro ⟨i, b, bc, m⟩ hI
        obtain ⟨g0, g1, g2, g3⟩ := hI
        refine gk_seq ?_
        refine gk_region ?_
        refine gk_y rfl rfl (y_lss rfl rfl) ?_
        refine gk_nil (gk_sub (T' := [(2,_), (3,_), (4,_), (5,_), (7,_), (8,_), (25,_), (26,_), (27,_), (28,_)]) ⟨rfl, rfl, rfl, rfl, rfl, rfl, rfl, rfl, rfl, rfl, trivial⟩ ?_)
        refine gk_seq ?_
        refine gk_cond rfl (fun hc28 => ?_) (fun hc28 => ?_)
        · simp only [decide_eq_true_eq] at hc28
          refine gk_skip ?_
          refine gk_seq ?_
          refine gk_block ?_
          refine gk_seq ?_
          refine gk_region ?_
          refine gk_y rfl rfl (y_indexE se49 rfl rfl (fun _ hw => (Rd.has (Has.rd hl) hw)) (by omega) (by omega)) ?_
          refine gk_y rfl rfl (y_loadE (vs := [_, _]) tf50 rfl (fun _ hw => (Rd.has (Has.rd hl) hw)) (by omega) (by omega) rfl) ?_
          refine gk_yx rfl rfl (yx_alloc tf50 (zs := [_, _]) rfl) fun b10 => ?_
          refine gk_storeV 0 tf50 rfl rfl (vs := [_, _]) rfl rfl rfl rfl rfl ?_
          refine gk_nil (gk_sub (T' := [(2,_), (3,_), (4,_), (5,_), (7,_), (8,_), (10,_), (25,_), (26,_), (27,_)]) ⟨rfl, rfl, rfl, rfl, rfl, rfl, rfl, rfl, rfl, rfl, trivial⟩ ?_)
          refine gk_any 6 (fun _ => mixed) (by kernel_rfl) ?_
          refine ph_y (y_fieldAddr fo52_1 rfl) ?_
          refine ph_y (y_loadB1 2 tf49 rfl rfl rfl) ?_
          refine ph_y (y_move rfl) ?_
          refine ph_y (y_loadBA 0 tf50 rfl rfl (vs := [_, _]) rfl rfl) ?_
          refine ph_y (y_callV (fs := []) (cap := [_]) en56 rfl rfl (fun w hw => turned1_c (s.shape.getD (i).toNat default) way _ w (hw.has (p := 4) rfl) (Rd.has (Has.rd hways) hw) h0)) ?_
          refine ph_yx (yx_buildSlice rfl (bs49_1 _ _) encPt_ok rfl) ?_
          intro b36
          refine gk_sub (T' := [(2,_), (3,_), (4,_), (5,_), (7,_), (8,_), (25,_), (26,_), (27,_), (32,_), (36,_)]) ⟨rfl, rfl, rfl, rfl, rfl, rfl, rfl, rfl, rfl, rfl, rfl, trivial⟩ ?_
          refine gk_append (m := [⟨((moveW way (s.shape.getD (i).toNat default)).x), ((moveW way (s.shape.getD (i).toNat default)).z)⟩]) 2 af49 encPt_ok rfl rfl rfl rfl (fun _ hw => (has_row encPt_ok (hw.has (p := 0) rfl))) (by first | omega | (simp only [List.length_cons, List.length_nil]; omega)) (by first | (unfold maxLen; omega) | (simp only [List.length_cons, List.length_nil, maxLen]; omega)) fun a37 c37 => ?_
          refine gk_y rfl rfl (y_fieldAddr fo52_1 rfl) ?_
          refine gk_storeV 3 tf49 rfl rfl (vs := [_]) rfl rfl rfl rfl rfl ?_
          refine gk_nil (gk_sub (T' := [(2,_), (3,_), (4,_), (5,_), (7,_), (8,_), (25,_), (26,_), (27,_)]) ⟨rfl, rfl, rfl, rfl, rfl, rfl, rfl, rfl, rfl, trivial⟩ ?_)
          refine gk_region ?_
          refine gk_y rfl rfl (y_addI rfl rfl (by omega) (by omega)) ?_
          refine gk_y rfl rfl (y_move rfl) ?_
          refine gk_nil (gk_sub (T' := [(2,_), (3,_), (4,_), (5,_), (7,_), (8,_), (25,_), (26,_), (27,_)]) ⟨rfl, rfl, rfl, rfl, rfl, rfl, rfl, rfl, rfl, trivial⟩ ?_)
          refine gk_dropAt 0 rfl ?_
          refine gk_dropAt 0 rfl ?_
          exact gk_next (i + 1, a37, c37, _) ⟨rfl, rfl, rfl, rfl, rfl, rfl, rfl, rfl, rfl, trivial⟩ rfl ⟨by omega, by omega, by rw [map_take_succ g0 (by omega), ← g2], by rw [List.length_append, g2, List.length_map, List.length_take]; simp; omega⟩ (by simp only []; omega)
        · simp only [decide_eq_false_iff_not] at hc28
          refine gk_exit rfl ?_
          refine gk_seq ?_
          refine gk_seq ?_
          refine gk_region ?_
          refine gk_y rfl rfl (y_loadB1 3 tf3 rfl rfl rfl) ?_
          refine gk_y rfl rfl (y_gtr rfl rfl) ?_
          refine gk_nil (gk_sub (T' := [(2,_), (4,_), (5,_), (7,_), (8,_), (41,_)]) ⟨rfl, rfl, rfl, rfl, rfl, rfl, trivial⟩ ?_)
          have hm : m = s.shape.map (moveW way) := by rw [g2, take_all (by omega)]
          have hml : m.length = s.shape.length := by rw [hm, List.length_map]
          have hsm : Small m.length := by unfold Small; omega
          refine gk_cond rfl (fun hc41 => ?_) (fun hc41 => ?_)
          · have hc41 := of_decide_eq_true hc41
            have hL : turnedL s way = m.reverse := by rw [turnedL, if_pos hc41, hm]
            rw [hL] at hT
            refine gk_region ?_
            refine gk_y rfl rfl (y_fieldAddr fo52_1 rfl) ?_
            refine gk_y rfl rfl (y_loadB1 1 tf49 rfl rfl rfl) ?_
            refine gk_callU 0 en57 rfl rfl rfl (fun w B hF => reverse_c _ _ m w B (fun k hk => (hF.own k hk).2) hF.A (by assumption)) fun u44 hq44 => ?_
            refine gk_nil (gk_sub (T' := [(2,_), (4,_), (5,_), (7,_), (8,_)]) ⟨rfl, rfl, rfl, rfl, rfl, trivial⟩ ?_)
            refine gk_conv (R' := Box b8 [.string s.name, .slice b (m.reverse).length bc, .int .i64 s.depth, .int .i64 s.density, .int .i64 s.grain.x, .int .i64 s.grain.z] 52) 1 rfl (fun B w hA => by rw [show m.reverse.length = m.length from List.length_reverse ..]; exact hA) ?_
            refine gk_seq ?_
            refine gk_any 8 (fun _ => mixed) (by kernel_rfl) ?_
            refine ph_y (y_fieldAddr fo52_1 rfl) ?_
            refine ph_y (y_loadB1 1 tf49 rfl rfl rfl) ?_
            refine ph_yx (yx_call en58 rfl (fun w hw => settled_c _ _ (m.reverse) w (has_row encPt_ok (hw.has (p := 0) rfl)) (by first | assumption | (rw [List.length_reverse]; assumption)) (by first | omega | (rw [List.length_reverse]; omega)) (row_cap (hw.has (p := 0) rfl)))) ?_
            refine ph_y (y_move rfl) ?_
            refine ph_y (y_fieldAddr fo52_4 rfl) ?_
            refine ph_y (y_loadBA 4 tf50 rfl rfl (vs := [_, _]) rfl rfl) ?_
            refine ph_y (fun p47 => y_callV (fs := []) (cap := [_]) en56 rfl rfl (fun w hw => turned1_c s.grain way _ w (hw.has (p := 4) rfl) (Rd.has (Has.rd hways) hw) h0)) ?_
            refine ph_y (fun p47 => y_fieldAddr fo52_1 rfl) ?_
            intro p47
            refine gk_sub (T' := [(4,_), (5,_), (8,_), (47,_), (51,_), (52,_)]) ⟨rfl, rfl, rfl, rfl, rfl, rfl, trivial⟩ ?_
            refine gk_storeV 2 tf49 rfl rfl (vs := [_]) rfl rfl rfl rfl rfl ?_
            refine gk_y rfl rfl (y_fieldAddr fo52_4 rfl) ?_
            refine gk_storeV 2 tf50 rfl rfl (vs := [_, _]) rfl rfl rfl rfl rfl ?_
            refine gk_nil (gk_sub (T' := [(4,_), (5,_), (8,_)]) ⟨rfl, rfl, rfl, trivial⟩ ?_)
            refine gk_seq ?_
            refine gk_region ?_
            refine gk_y rfl rfl (y_loadBA 2 tf52 rfl rfl (vs := [_, _, _, _, _, _]) rfl rfl) ?_
            refine gk_storeV 3 tf52 rfl rfl (vs := [_, _, _, _, _, _]) rfl rfl rfl rfl rfl ?_
            refine gk_y rfl rfl (y_assign rfl) ?_
            refine gk_nil (gk_sub (T' := [(4,_), (5,_)]) ⟨rfl, rfl, trivial⟩ ?_)
            refine gk_ret ?_
            refine gk_gives p47 0 (rv_two rfl (r1_cellA (i := 3) (vs := [_, _, _, _, _, _]) tf52 rfl rfl rfl rfl) (r1_tmp rfl)) ?_ (by rw [hT]; rfl)
            rw [hT, hE]; try rfl
          · have hc41 := of_decide_eq_false hc41
            have hL : turnedL s way = m := by rw [turnedL, if_neg hc41, hm]
            rw [hL] at hT
            refine gk_skip ?_
            refine gk_seq ?_
            refine gk_any 8 (fun _ => mixed) (by kernel_rfl) ?_
            refine ph_y (y_fieldAddr fo52_1 rfl) ?_
            refine ph_y (y_loadB1 1 tf49 rfl rfl rfl) ?_
            refine ph_yx (yx_call en58 rfl (fun w hw => settled_c _ _ m w (has_row encPt_ok (hw.has (p := 0) rfl)) (by first | assumption | (rw [List.length_reverse]; assumption)) (by first | omega | (rw [List.length_reverse]; omega)) (row_cap (hw.has (p := 0) rfl)))) ?_
            refine ph_y (y_move rfl) ?_
            refine ph_y (y_fieldAddr fo52_4 rfl) ?_
            refine ph_y (y_loadBA 4 tf50 rfl rfl (vs := [_, _]) rfl rfl) ?_
            refine ph_y (fun p47 => y_callV (fs := []) (cap := [_]) en56 rfl rfl (fun w hw => turned1_c s.grain way _ w (hw.has (p := 4) rfl) (Rd.has (Has.rd hways) hw) h0)) ?_
            refine ph_y (fun p47 => y_fieldAddr fo52_1 rfl) ?_
            intro p47
            refine gk_sub (T' := [(4,_), (5,_), (8,_), (47,_), (51,_), (52,_)]) ⟨rfl, rfl, rfl, rfl, rfl, rfl, trivial⟩ ?_
            refine gk_storeV 2 tf49 rfl rfl (vs := [_]) rfl rfl rfl rfl rfl ?_
            refine gk_y rfl rfl (y_fieldAddr fo52_4 rfl) ?_
            refine gk_storeV 2 tf50 rfl rfl (vs := [_, _]) rfl rfl rfl rfl rfl ?_
            refine gk_nil (gk_sub (T' := [(4,_), (5,_), (8,_)]) ⟨rfl, rfl, rfl, trivial⟩ ?_)
            refine gk_seq ?_
            refine gk_region ?_
            refine gk_y rfl rfl (y_loadBA 2 tf52 rfl rfl (vs := [_, _, _, _, _, _]) rfl rfl) ?_
            refine gk_storeV 3 tf52 rfl rfl (vs := [_, _, _, _, _, _]) rfl rfl rfl rfl rfl ?_
            refine gk_y rfl rfl (y_assign rfl) ?_
            refine gk_nil (gk_sub (T' := [(4,_), (5,_)]) ⟨rfl, rfl, trivial⟩ ?_)
            refine gk_ret ?_
            refine gk_gives p47 0 (rv_two rfl (r1_cellA (i := 3) (vs := [_, _, _, _, _, _]) tf52 rfl rfl rfl rfl) (r1_tmp rfl)) ?_ (by rw [hT]; rfl)
            rw [hT, hE]; try rfl
end Go.Proofs.YtmpaebfjnjmmlaaGreatDoor

namespace Go.Stn
open Go Go.K Go.RowKit
set_option maxRecDepth 100000
theorem brick_ok : checkI brickS = 0 := by decide +kernel
theorem brick_weight : weightW brickS = 7680000000 := by decide +kernel
def wA : Stn := ⟨⟨#[98, 114, 105, 99, 107, 97]⟩, [⟨0, 0⟩, ⟨50, 0⟩, ⟨50, 80⟩, ⟨0, 80⟩], 100, 2400, ⟨1, 0⟩⟩
def wB : Stn := ⟨⟨#[98, 114, 105, 99, 107, 98]⟩, [⟨0, 0⟩, ⟨150, 0⟩, ⟨150, 80⟩, ⟨0, 80⟩], 100, 2400, ⟨1, 0⟩⟩
theorem brick_splitE : splitE brickS ⟨50, 0⟩ ⟨50, 80⟩ = 0 := by decide +kernel
theorem brick_splitA : splitA brickS ⟨50, 0⟩ ⟨50, 80⟩ = wA := by decide +kernel
theorem brick_splitB : splitB brickS ⟨50, 0⟩ ⟨50, 80⟩ = wB := by decide +kernel
theorem brick_in : 0 ≤ findI (eqB ⟨0, 40⟩) (borderL brickS.shape) := by decide +kernel
theorem brick_struck : struckE brickS ⟨0, 40⟩ 0 = 0 := by decide +kernel
theorem brick_out : outL brickS ⟨0, 40⟩ 0 = [⟨200, 40⟩] := by decide +kernel
theorem brick_turnE : turnedE brickS 1 = 0 := by decide +kernel
theorem brick_turn : (turnedS brickS 1).grain = ⟨0, 1⟩ := by decide +kernel
theorem brick_border : (askL brickS (borderL brickS.shape)).length = 560 := by decide +kernel
end Go.Stn

namespace Go.Proofs.YtmpaebfjnjmmlaaGreatDoor
open Go.K Go.Stn Go.RowKit
theorem en19 : En Tryz.prog 19 := en_of Tryz.func19 (by kernel_rfl) (by kernel_rfl)
theorem en20 : En Tryz.prog 20 := en_of Tryz.func20 (by kernel_rfl) (by kernel_rfl)
theorem en21 : En Tryz.prog 21 := en_of Tryz.func21 (by kernel_rfl) (by kernel_rfl)
theorem en22 : En Tryz.prog 22 := en_of Tryz.func22 (by kernel_rfl) (by kernel_rfl)
theorem en23 : En Tryz.prog 23 := en_of Tryz.func23 (by kernel_rfl) (by kernel_rfl)
theorem en24 : En Tryz.prog 24 := en_of Tryz.func24 (by kernel_rfl) (by kernel_rfl)
set_option maxRecDepth 100000 in
set_option maxHeartbeats 1000000 in
theorem wakes_c  (w : World) (hways : Has w (Elems (some ⟨0, 0, none⟩) 1 encVal [.func (.func 194) #[] #[], .func (.func 195) #[] #[], .func (.func 196) #[] #[], .func (.func 197) #[] #[]])) :
    Calls Tryz.prog 6 #[] w (Pure (.bool true) w) := by
  have hs : Small brickS.shape.length := by decide
  have hA4 : (1 : Int) < ((splitA brickS (⟨50, 0⟩ : Pt) (⟨50, 80⟩ : Pt)).shape.length : Int) := by rw [brick_splitA]; decide
  have hO1 : (0 : Int) < ((outL brickS (⟨0, 40⟩ : Pt) 0).length : Int) := by rw [brick_out]; decide
  have hin : struckE brickS (⟨0, 40⟩ : Pt) 0 = 0 → 0 ≤ findI (eqB (⟨0, 40⟩ : Pt)) (borderL brickS.shape) := fun _ => brick_in
  refine calls_of_gk (vs := []) Tryz.func6 rfl rfl (Nat.le_of_ble_eq_true rfl) ?_
  refine gk_seq ?_
  refine gk_region ?_
  refine gk_y rfl rfl (y_assign rfl) ?_
  refine gk_nil (gk_sub (T' := [(0,_)]) ⟨rfl, trivial⟩ ?_)
  refine gk_seq ?_
  refine gk_region ?_
  refine gk_yx rfl rfl (yx_call en19 rfl (fun w hw => brick_c w)) fun p13 => ?_
  refine gk_yx rfl rfl (yx_alloc tf52 (zs := [_, _, _, _, _, _]) rfl) fun b1 => ?_
  refine gk_storeV 0 tf52 rfl rfl (vs := [_, _, _, _, _, _]) rfl rfl rfl rfl rfl ?_
  refine gk_nil (gk_sub (T' := [(0,_), (1,_)]) ⟨rfl, rfl, trivial⟩ ?_)
  refine gk_seq ?_
  refine gk_region ?_
  refine gk_y rfl rfl (y_loadBA 0 tf52 rfl rfl (vs := [_, _, _, _, _, _]) rfl rfl) ?_
  refine gk_y rfl rfl (y_call en20 rfl (fun w hw => weight_c _ _ brickS w (has_row encPt_ok (hw.has (p := 1) rfl)) (by assumption))) ?_
  refine gk_y rfl rfl (y_move rfl) ?_
  refine gk_y rfl rfl (y_extract rfl rfl) ?_
  refine gk_y rfl rfl (y_extract rfl rfl) ?_
  refine gk_y rfl rfl (y_assign rfl) ?_
  refine gk_y rfl rfl (y_assign rfl) ?_
  refine gk_nil (gk_sub (T' := [(0,_), (1,_), (2,_), (3,_)]) ⟨rfl, rfl, rfl, rfl, trivial⟩ ?_)
  refine gk_seq ?_
  refine gk_region ?_
  refine gk_y rfl rfl (y_loadBA 0 tf52 rfl rfl (vs := [_, _, _, _, _, _]) rfl rfl) ?_
  refine gk_y rfl rfl (y_buildL rfl (bd50_0i _)) ?_
  refine gk_y rfl rfl (y_buildL rfl (bd50_0i_1i _ _)) ?_
  refine gk_yx rfl rfl (yx_call en21 rfl (fun w hw => Split_c _ _ brickS (⟨50, 0⟩ : Pt) (⟨50, 80⟩ : Pt) w (has_row encPt_ok (hw.has (p := 1) rfl)) (by assumption))) fun p23 => gk_split ?_
  refine gk_y rfl rfl (y_move rfl) ?_
  refine gk_y rfl rfl (y_extract rfl rfl) ?_
  refine gk_y rfl rfl (y_extract rfl rfl) ?_
  refine gk_y rfl rfl (y_extract rfl rfl) ?_
  refine gk_yx rfl rfl (yx_alloc tf52 (zs := [_, _, _, _, _, _]) rfl) fun b4 => ?_
  refine gk_yx rfl rfl (yx_alloc tf52 (zs := [_, _, _, _, _, _]) rfl) fun b5 => ?_
  refine gk_storeV 1 tf52 rfl rfl (vs := [_, _, _, _, _, _]) rfl rfl rfl rfl rfl ?_
  refine gk_storeV 0 tf52 rfl rfl (vs := [_, _, _, _, _, _]) rfl rfl rfl rfl rfl ?_
  refine gk_y rfl rfl (y_assign rfl) ?_
  refine gk_nil (gk_sub (T' := [(0,_), (1,_), (2,_), (3,_), (4,_), (5,_), (6,_)]) ⟨rfl, rfl, rfl, rfl, rfl, rfl, rfl, trivial⟩ ?_)
  refine gk_seq ?_
  refine gk_region ?_
  refine gk_y rfl rfl (y_loadBA 4 tf52 rfl rfl (vs := [_, _, _, _, _, _]) rfl rfl) ?_
  refine gk_y rfl rfl (y_buildL rfl (bd50_1i _)) ?_
  refine gk_yx rfl rfl (yx_call en22 rfl (fun w hw => Outcomes_c _ _ brickS (⟨0, 40⟩ : Pt) 0 w (has_row encPt_ok (hw.has (p := 5) rfl)) (by assumption) (by assumption))) fun p30 => ?_
  refine gk_y rfl rfl (y_move rfl) ?_
  refine gk_y rfl rfl (y_extract rfl rfl) ?_
  refine gk_y rfl rfl (y_extract rfl rfl) ?_
  refine gk_y rfl rfl (y_assign rfl) ?_
  refine gk_y rfl rfl (y_assign rfl) ?_
  refine gk_nil (gk_sub (T' := [(0,_), (1,_), (2,_), (3,_), (4,_), (5,_), (6,_), (7,_), (8,_)]) ⟨rfl, rfl, rfl, rfl, rfl, rfl, rfl, rfl, rfl, trivial⟩ ?_)
  refine gk_seq ?_
  refine gk_region ?_
  refine gk_y rfl rfl (y_loadBA 5 tf52 rfl rfl (vs := [_, _, _, _, _, _]) rfl rfl) ?_
  refine gk_yx rfl rfl (yx_call en23 rfl (fun w hw => Turned_c _ _ brickS 1 w (has_row encPt_ok (hw.has (p := 6) rfl)) (by assumption) (Rd.has (Has.rd hways) hw))) fun p35 => ?_
  refine gk_y rfl rfl (y_move rfl) ?_
  refine gk_y rfl rfl (y_extract rfl rfl) ?_
  refine gk_y rfl rfl (y_extract rfl rfl) ?_
  refine gk_yx rfl rfl (yx_alloc tf52 (zs := [_, _, _, _, _, _]) rfl) fun b9 => ?_
  refine gk_storeV 0 tf52 rfl rfl (vs := [_, _, _, _, _, _]) rfl rfl rfl rfl rfl ?_
  refine gk_y rfl rfl (y_assign rfl) ?_
  refine gk_nil (gk_sub (T' := [(0,_), (1,_), (2,_), (3,_), (4,_), (5,_), (6,_), (7,_), (8,_), (9,_), (10,_)]) ⟨rfl, rfl, rfl, rfl, rfl, rfl, rfl, rfl, rfl, rfl, rfl, trivial⟩ ?_)
  refine gk_seq ?_
  refine gk_region ?_
  refine gk_y rfl rfl (y_loadBA 7 tf52 rfl rfl (vs := [_, _, _, _, _, _]) rfl rfl) ?_
  refine gk_yx rfl rfl (yx_call en24 rfl (fun w hw => Border_c _ _ brickS w (has_row encPt_ok (hw.has (p := 8) rfl)) (by assumption))) fun p40 => ?_
  refine gk_y rfl rfl (y_move rfl) ?_
  refine gk_y rfl rfl (y_extract rfl rfl) ?_
  refine gk_y rfl rfl (y_extract rfl rfl) ?_
  refine gk_y rfl rfl (y_assign rfl) ?_
  refine gk_y rfl rfl (y_assign rfl) ?_
  refine gk_nil (gk_sub (T' := [(0,_), (2,_), (3,_), (4,_), (5,_), (6,_), (7,_), (8,_), (9,_), (10,_), (11,_), (12,_)]) ⟨rfl, rfl, rfl, rfl, rfl, rfl, rfl, rfl, rfl, rfl, rfl, rfl, trivial⟩ ?_)
  refine gk_seq ?_
  refine gk_region ?_
  refine gk_y rfl rfl (y_move rfl) ?_
  refine gk_y rfl rfl (y_castT (y_eql rfl rfl) (by rw [brick_ok]; rfl)) ?_
  refine gk_y rfl rfl (y_move rfl) ?_
  refine gk_guard rfl rfl rfl rfl (fun _ => ?_) (fun h => absurd h (by decide))
  refine gk_y rfl rfl (y_move rfl) ?_
  refine gk_guard rfl rfl rfl rfl (fun _ => ?_) (fun h => absurd h (by decide))
  refine gk_y rfl rfl (y_castT (y_eql rfl rfl) (by rw [askI, if_pos brick_ok, brick_weight]; rfl)) ?_
  refine gk_y rfl rfl (y_pick rfl rfl rfl) ?_
  refine gk_y rfl rfl (y_move rfl) ?_
  refine gk_guard rfl rfl rfl rfl (fun _ => ?_) (fun h => absurd h (by decide))
  refine gk_y rfl rfl (y_move rfl) ?_
  refine gk_guard rfl rfl rfl rfl (fun _ => ?_) (fun h => absurd h (by decide))
  refine gk_y rfl rfl (y_castT (y_eql rfl rfl) (by rw [brick_splitE]; rfl)) ?_
  refine gk_y rfl rfl (y_pick rfl rfl rfl) ?_
  refine gk_y rfl rfl (y_move rfl) ?_
  refine gk_guard rfl rfl rfl rfl (fun _ => ?_) (fun h => absurd h (by decide))
  refine gk_y rfl rfl (y_fieldAddr fo52_0 rfl) ?_
  refine gk_guard rfl rfl rfl rfl (fun _ => ?_) (fun h => absurd h (by decide))
  refine gk_y rfl rfl (y_loadB1 5 tf9 rfl rfl rfl) ?_
  refine gk_guard rfl rfl rfl rfl (fun _ => ?_) (fun h => absurd h (by decide))
  refine gk_y rfl rfl (y_castT (y_strEq rfl rfl) (by rw [brick_splitA]; decide +kernel)) ?_
  refine gk_y rfl rfl (y_pick rfl rfl rfl) ?_
  refine gk_y rfl rfl (y_move rfl) ?_
  refine gk_guard rfl rfl rfl rfl (fun _ => ?_) (fun h => absurd h (by decide))
  refine gk_y rfl rfl (y_fieldAddr fo52_1 rfl) ?_
  refine gk_guard rfl rfl rfl rfl (fun _ => ?_) (fun h => absurd h (by decide))
  refine gk_y rfl rfl (y_loadB1 5 tf49 rfl rfl rfl) ?_
  refine gk_guard rfl rfl rfl rfl (fun _ => ?_) (fun h => absurd h (by decide))
  refine gk_y rfl rfl (y_lenS (Tryz.underlying49) rfl) ?_
  refine gk_guard rfl rfl rfl rfl (fun _ => ?_) (fun h => absurd h (by decide))
  refine gk_y rfl rfl (y_castT (y_eql rfl rfl) (by rw [brick_splitA]; rfl)) ?_
  refine gk_y rfl rfl (y_pick rfl rfl rfl) ?_
  refine gk_y rfl rfl (y_move rfl) ?_
  refine gk_guard rfl rfl rfl rfl (fun _ => ?_) (fun h => absurd h (by decide))
  refine gk_y rfl rfl (y_fieldAddr fo52_1 rfl) ?_
  refine gk_guard rfl rfl rfl rfl (fun _ => ?_) (fun h => absurd h (by decide))
  refine gk_y rfl rfl (y_loadB1 5 tf49 rfl rfl rfl) ?_
  refine gk_guard rfl rfl rfl rfl (fun _ => ?_) (fun h => absurd h (by decide))
  refine gk_y rfl rfl (y_indexE se49 rfl rfl (fun _ hw => (has_row encPt_ok (hw.has (p := 6) rfl))) (by omega) (by omega)) ?_
  refine gk_guard rfl rfl rfl rfl (fun _ => ?_) (fun h => absurd h (by decide))
  refine gk_y rfl rfl (y_fieldE fo50_0 rfl (fun w hw => elems_addr (i := 1) (has_row encPt_ok (hw.has (p := 6) rfl)) (by omega) (by omega))) ?_
  refine gk_guard rfl rfl rfl rfl (fun _ => ?_) (fun h => absurd h (by decide))
  refine gk_y rfl rfl (y_loadEF tf3 rfl (fun _ hw => (has_row encPt_ok (hw.has (p := 6) rfl))) (by omega) (by omega) rfl) ?_
  refine gk_guard rfl rfl rfl rfl (fun _ => ?_) (fun h => absurd h (by decide))
  refine gk_y rfl rfl (y_castT (y_eql rfl rfl) (by rw [brick_splitA]; rfl)) ?_
  refine gk_y rfl rfl (y_pick rfl rfl rfl) ?_
  refine gk_y rfl rfl (y_move rfl) ?_
  refine gk_guard rfl rfl rfl rfl (fun _ => ?_) (fun h => absurd h (by decide))
  refine gk_y rfl rfl (y_fieldAddr fo52_0 rfl) ?_
  refine gk_guard rfl rfl rfl rfl (fun _ => ?_) (fun h => absurd h (by decide))
  refine gk_y rfl rfl (y_loadB1 4 tf9 rfl rfl rfl) ?_
  refine gk_guard rfl rfl rfl rfl (fun _ => ?_) (fun h => absurd h (by decide))
  refine gk_y rfl rfl (y_castT (y_strEq rfl rfl) (by rw [brick_splitB]; decide +kernel)) ?_
  refine gk_y rfl rfl (y_pick rfl rfl rfl) ?_
  refine gk_y rfl rfl (y_move rfl) ?_
  refine gk_guard rfl rfl rfl rfl (fun _ => ?_) (fun h => absurd h (by decide))
  refine gk_y rfl rfl (y_move rfl) ?_
  refine gk_guard rfl rfl rfl rfl (fun _ => ?_) (fun h => absurd h (by decide))
  refine gk_y rfl rfl (y_castT (y_eql rfl rfl) (by rw [brick_struck]; rfl)) ?_
  refine gk_y rfl rfl (y_pick rfl rfl rfl) ?_
  refine gk_y rfl rfl (y_move rfl) ?_
  refine gk_guard rfl rfl rfl rfl (fun _ => ?_) (fun h => absurd h (by decide))
  refine gk_y rfl rfl (y_move rfl) ?_
  refine gk_guard rfl rfl rfl rfl (fun _ => ?_) (fun h => absurd h (by decide))
  refine gk_y rfl rfl (y_lenS (Tryz.underlying49) rfl) ?_
  refine gk_guard rfl rfl rfl rfl (fun _ => ?_) (fun h => absurd h (by decide))
  refine gk_y rfl rfl (y_castT (y_eql rfl rfl) (by rw [brick_out]; rfl)) ?_
  refine gk_y rfl rfl (y_pick rfl rfl rfl) ?_
  refine gk_y rfl rfl (y_move rfl) ?_
  refine gk_guard rfl rfl rfl rfl (fun _ => ?_) (fun h => absurd h (by decide))
  refine gk_y rfl rfl (y_move rfl) ?_
  refine gk_guard rfl rfl rfl rfl (fun _ => ?_) (fun h => absurd h (by decide))
  refine gk_y rfl rfl (y_indexE se49 rfl rfl (fun _ hw => (has_row encPt_ok (hw.has (p := 3) rfl))) (by omega) (by omega)) ?_
  refine gk_guard rfl rfl rfl rfl (fun _ => ?_) (fun h => absurd h (by decide))
  refine gk_y rfl rfl (y_loadE (vs := [_, _]) tf50 rfl (fun _ hw => (has_row encPt_ok (hw.has (p := 3) rfl))) (by omega) (by omega) rfl) ?_
  refine gk_guard rfl rfl rfl rfl (fun _ => ?_) (fun h => absurd h (by decide))
  refine gk_y rfl rfl (y_buildL rfl (bd50_0i_1i _ _)) ?_
  refine gk_guard rfl rfl rfl rfl (fun _ => ?_) (fun h => absurd h (by decide))
  refine gk_y rfl rfl (y_castT (y_eql50 rfl rfl) (by rw [brick_out]; rfl)) ?_
  refine gk_y rfl rfl (y_pick rfl rfl rfl) ?_
  refine gk_y rfl rfl (y_move rfl) ?_
  refine gk_guard rfl rfl rfl rfl (fun _ => ?_) (fun h => absurd h (by decide))
  refine gk_y rfl rfl (y_move rfl) ?_
  refine gk_guard rfl rfl rfl rfl (fun _ => ?_) (fun h => absurd h (by decide))
  refine gk_y rfl rfl (y_castT (y_eql rfl rfl) (by rw [brick_turnE]; rfl)) ?_
  refine gk_y rfl rfl (y_pick rfl rfl rfl) ?_
  refine gk_y rfl rfl (y_move rfl) ?_
  refine gk_guard rfl rfl rfl rfl (fun _ => ?_) (fun h => absurd h (by decide))
  refine gk_y rfl rfl (y_fieldAddr fo52_4 rfl) ?_
  refine gk_guard rfl rfl rfl rfl (fun _ => ?_) (fun h => absurd h (by decide))
  refine gk_y rfl rfl (y_loadBA 1 tf50 rfl rfl (vs := [_, _]) rfl rfl) ?_
  refine gk_guard rfl rfl rfl rfl (fun _ => ?_) (fun h => absurd h (by decide))
  refine gk_y rfl rfl (y_buildL rfl (bd50_1i _)) ?_
  refine gk_guard rfl rfl rfl rfl (fun _ => ?_) (fun h => absurd h (by decide))
  refine gk_y rfl rfl (y_castT (y_eql50 rfl rfl) (by rw [brick_turn]; rfl)) ?_
  refine gk_y rfl rfl (y_pick rfl rfl rfl) ?_
  refine gk_y rfl rfl (y_move rfl) ?_
  refine gk_guard rfl rfl rfl rfl (fun _ => ?_) (fun h => absurd h (by decide))
  refine gk_y rfl rfl (y_move rfl) ?_
  refine gk_guard rfl rfl rfl rfl (fun _ => ?_) (fun h => absurd h (by decide))
  refine gk_y rfl rfl (y_castT (y_eql rfl rfl) (by rw [brick_ok]; rfl)) ?_
  refine gk_y rfl rfl (y_pick rfl rfl rfl) ?_
  refine gk_y rfl rfl (y_move rfl) ?_
  refine gk_guard rfl rfl rfl rfl (fun _ => ?_) (fun h => absurd h (by decide))
  refine gk_y rfl rfl (y_move rfl) ?_
  refine gk_guard rfl rfl rfl rfl (fun _ => ?_) (fun h => absurd h (by decide))
  refine gk_y rfl rfl (y_lenS (Tryz.underlying49) rfl) ?_
  refine gk_guard rfl rfl rfl rfl (fun _ => ?_) (fun h => absurd h (by decide))
  refine gk_y rfl rfl (y_castT (y_eql rfl rfl) (by rw [brick_border]; rfl)) ?_
  refine gk_y rfl rfl (y_pick rfl rfl rfl) ?_
  refine gk_y rfl rfl (y_assign rfl) ?_
  refine gk_nil (gk_sub (T' := [(0,_)]) ⟨rfl, trivial⟩ ?_)
  refine gk_ret ?_
  refine gk_pure (rv_one rfl (r1_tmp rfl)) ?_
  rfl
end Go.Proofs.YtmpaebfjnjmmlaaGreatDoor

namespace Go.Stn
open Go Go.K Go.RowKit
def sameSB (a b : Stn) : Bool := (((((a.name.toList == b.name.toList) && decide (a.depth = b.depth)) && decide (a.density = b.density)) && decide (a.grain.x = b.grain.x)) && decide (a.grain.z = b.grain.z)) && decide (a.shape = b.shape)
theorem same_refl (a : Stn) : sameSB a a = true := by simp [sameSB]
theorem same_at {p q : Pt} (h : ((!decide (p.x = q.x)) || (!decide (p.z = q.z))) = false) : p = q := by
  cases p; cases q
  simpa using h
theorem same_no {p q : Pt} (h : ((!decide (p.x = q.x)) || (!decide (p.z = q.z))) = true) : p ≠ q := fun he => by
  rw [he] at h
  simp at h
theorem same_all {l m : List Pt} {i : Int} (hl : l.length = m.length) (hi : (l.length : Int) ≤ i) (h : ∀ j : Nat, (j : Int) < i → l.getD j default = m.getD j default) : l = m := by
  apply List.ext_getElem hl
  intro j h1 h2
  have := h j (by omega)
  simpa [h1, h2] using this
end Go.Stn

namespace Go.Proofs.YtmpaebfjnjmmlaaGreatDoor
open Go.K Go.Stn Go.RowKit
theorem en77 : En Tryz.prog 77 := en_of Tryz.func77 (by kernel_rfl) (by kernel_rfl)
set_option maxRecDepth 100000 in
set_option maxHeartbeats 1000000 in
theorem samepoints_c (a1 : Option Addr) (c1 : Nat) (l : List Pt) (a2 : Option Addr) (c2 : Nat) (m : List Pt) (w : World) (hl : Has w (Pts a1 l)) (hm : Has w (Pts a2 m)) (hs : Small l.length) :
    Calls Tryz.prog 77 #[.slice a1 l.length c1, .slice a2 m.length c2] w (Pure (.bool (decide (l = m))) w) := by
  refine calls_of_gk (vs := [_, _]) Tryz.func77 rfl rfl (Nat.le_of_ble_eq_true rfl) ?_
  refine gk_seq ?_
  refine gk_region ?_
  refine gk_y rfl rfl (y_assign rfl) ?_
  refine gk_nil (gk_sub (T' := [(0,_), (1,_), (4,_)]) ⟨rfl, rfl, rfl, trivial⟩ ?_)
  refine gk_seq ?_
  refine gk_seq ?_
  refine gk_region ?_
  refine gk_y rfl rfl (y_move rfl) ?_
  refine gk_y rfl rfl (y_lenS (Tryz.underlying49) rfl) ?_
  refine gk_y rfl rfl (y_move rfl) ?_
  refine gk_y rfl rfl (y_lenS (Tryz.underlying24) rfl) ?_
  refine gk_y rfl rfl (y_neq rfl rfl) ?_
  refine gk_nil (gk_sub (T' := [(0,_), (1,_), (4,_), (10,_)]) ⟨rfl, rfl, rfl, rfl, trivial⟩ ?_)
  refine gk_cond rfl (fun hc10 => ?_) (fun hc10 => ?_)
  · have hne : l.length ≠ m.length := by simp only [Bool.not_eq_true', decide_eq_false_iff_not] at hc10; omega
    refine gk_seq ?_
    refine gk_region ?_
    refine gk_y rfl rfl (y_assign rfl) ?_
    refine gk_nil (gk_sub (T' := [(0,_), (1,_), (4,_)]) ⟨rfl, rfl, rfl, trivial⟩ ?_)
    refine gk_ret ?_
    refine gk_pure (rv_one rfl (r1_tmp rfl)) ?_
    rw [decide_eq_false (fun h => hne (by rw [h]))]
  · have hlm : l.length = m.length := by simp only [Bool.not_eq_false', decide_eq_true_eq] at hc10; omega
    refine gk_skip ?_
    refine gk_seq ?_
    refine gk_seq ?_
    refine gk_region ?_
    refine gk_y rfl rfl (y_assign rfl) ?_
    refine gk_nil (gk_sub (T' := [(0,_), (1,_), (4,_), (5,_)]) ⟨rfl, rfl, rfl, rfl, trivial⟩ ?_)
    refine gk_block ?_
    refine gk_loop (X := Int) (fun (i : Int) => [(0, .slice a1 l.length c1), (1, .slice a2 m.length c2), (4, .bool false), (5, .int .i64 i)]) (fun (i : Int) => []) (fun (i : Int) => (0 ≤ i ∧ i ≤ l.length ∧ ∀ j : Nat, (j : Int) < i → l.getD j default = m.getD j default)) (fun (i : Int) => (l.length - i).toNat) 0 ⟨rfl, rfl, rfl, rfl, trivial⟩ rfl ?_ ?_
    · exact ⟨by omega, by omega, fun j hj => by omega⟩
    · rintro i hI
      obtain ⟨g0, g1, g2⟩ := hI
      refine gk_seq ?_
      refine gk_seq ?_
      refine gk_region ?_
      refine gk_y rfl rfl (y_move rfl) ?_
      refine gk_y rfl rfl (y_move rfl) ?_
      refine gk_y rfl rfl (y_lenS (Tryz.underlying49) rfl) ?_
      refine gk_y rfl rfl (y_lss rfl rfl) ?_
      refine gk_nil (gk_sub (T' := [(0,_), (1,_), (4,_), (5,_), (14,_)]) ⟨rfl, rfl, rfl, rfl, rfl, trivial⟩ ?_)
      refine gk_cond rfl (fun hc14 => ?_) (fun hc14 => ?_)
      · simp only [decide_eq_true_eq] at hc14
        refine gk_skip ?_
        refine gk_seq ?_
        refine gk_block ?_
        refine gk_seq ?_
        refine gk_any 24 (fun _ => mixed) (by kernel_rfl) ?_
        refine ph_y (y_move rfl) ?_
        refine ph_y (y_move rfl) ?_
        refine ph_y (y_indexE se49 rfl rfl (fun _ hw => (Rd.has (Has.rd hl) hw)) (by omega) (by omega)) ?_
        refine ph_y (y_fieldE fo50_0 rfl (fun w hw => elems_addr (i := i) (Rd.has (Has.rd hl) hw) (by omega) (by omega))) ?_
        refine ph_y (y_loadEF tf3 rfl (fun _ hw => (Rd.has (Has.rd hl) hw)) (by omega) (by omega) rfl) ?_
        refine ph_y (y_move rfl) ?_
        refine ph_y (y_move rfl) ?_
        refine ph_y (y_indexE se24 rfl rfl (fun _ hw => (Rd.has (Has.rd hm) hw)) (by omega) (by omega)) ?_
        refine ph_y (y_fieldE fo26_0 rfl (fun w hw => elems_addr (i := i) (Rd.has (Has.rd hm) hw) (by omega) (by omega))) ?_
        refine ph_y (y_loadEF tf3 rfl (fun _ hw => (Rd.has (Has.rd hm) hw)) (by omega) (by omega) rfl) ?_
        refine ph_y (y_neq rfl rfl) ?_
        refine ph_y (y_move rfl) ?_
        refine ph_gF rfl rfl (fun hgd => by (try rw [hgd]); exact (y_move rfl)) ?_
        refine ph_gF rfl rfl (fun hgd => by (try rw [hgd]); exact (y_move rfl)) ?_
        refine ph_gF rfl rfl (fun hgd => by (try rw [hgd]); exact (y_indexE se49 rfl rfl (fun _ hw => (Rd.has (Has.rd hl) hw)) (by omega) (by omega))) ?_
        refine ph_gF rfl rfl (fun hgd => by (try rw [hgd]); exact (y_fieldE fo50_1 rfl (fun w hw => elems_addr (i := i) (Rd.has (Has.rd hl) hw) (by omega) (by omega)))) ?_
        refine ph_gF rfl rfl (fun hgd => by (try rw [hgd]); exact (y_loadEF tf3 rfl (fun _ hw => (Rd.has (Has.rd hl) hw)) (by omega) (by omega) rfl)) ?_
        refine ph_gF rfl rfl (fun hgd => by (try rw [hgd]); exact (y_move rfl)) ?_
        refine ph_gF rfl rfl (fun hgd => by (try rw [hgd]); exact (y_move rfl)) ?_
        refine ph_gF rfl rfl (fun hgd => by (try rw [hgd]); exact (y_indexE se24 rfl rfl (fun _ hw => (Rd.has (Has.rd hm) hw)) (by omega) (by omega))) ?_
        refine ph_gF rfl rfl (fun hgd => by (try rw [hgd]); exact (y_fieldE fo26_1 rfl (fun w hw => elems_addr (i := i) (Rd.has (Has.rd hm) hw) (by omega) (by omega)))) ?_
        refine ph_gF rfl rfl (fun hgd => by (try rw [hgd]); exact (y_loadEF tf3 rfl (fun _ hw => (Rd.has (Has.rd hm) hw)) (by omega) (by omega) rfl)) ?_
        refine ph_gF rfl rfl (fun hgd => by (try rw [hgd]); exact (y_neq rfl rfl)) ?_
        refine ph_y (y_pickOr rfl rfl rfl) ?_
        refine gk_nil (gk_sub (T' := [(0,_), (1,_), (4,_), (5,_), (40,_)]) ⟨rfl, rfl, rfl, rfl, rfl, trivial⟩ ?_)
        refine gk_cond rfl (fun hc40 => ?_) (fun hc40 => ?_)
        · skip
          refine gk_seq ?_
          refine gk_region ?_
          refine gk_y rfl rfl (y_assign rfl) ?_
          refine gk_nil (gk_sub (T' := [(0,_), (1,_), (4,_), (5,_)]) ⟨rfl, rfl, rfl, rfl, trivial⟩ ?_)
          refine gk_ret ?_
          refine gk_pure (rv_one rfl (r1_tmp rfl)) ?_
          rw [decide_eq_false (fun h => same_no hc40 (by rw [h]))]
        · skip
          refine gk_skip ?_
          refine gk_region ?_
          refine gk_y rfl rfl (y_move rfl) ?_
          refine gk_y rfl rfl (y_addI rfl rfl (by omega) (by omega)) ?_
          refine gk_y rfl rfl (y_assign rfl) ?_
          refine gk_nil (gk_sub (T' := [(0,_), (1,_), (4,_), (5,_)]) ⟨rfl, rfl, rfl, rfl, trivial⟩ ?_)
          exact gk_next _ ⟨rfl, rfl, rfl, rfl, trivial⟩ rfl ⟨by omega, by omega, fun j hj => if h : (j : Int) < i then g2 j h else (by rw [show j = i.toNat from by omega]; exact same_at hc40)⟩ (by omega)
      · simp only [decide_eq_false_iff_not] at hc14
        refine gk_exit rfl ?_
        refine gk_seq ?_
        refine gk_region ?_
        refine gk_y rfl rfl (y_assign rfl) ?_
        refine gk_nil (gk_sub (T' := [(4,_)]) ⟨rfl, trivial⟩ ?_)
        refine gk_ret ?_
        refine gk_pure (rv_one rfl (r1_tmp rfl)) ?_
        rw [decide_eq_true (same_all hlm (by omega) g2)]
set_option maxRecDepth 100000 in
set_option maxHeartbeats 1000000 in
theorem same_c (a1 : Option Addr) (c1 : Nat) (a : Stn) (a2 : Option Addr) (c2 : Nat) (b : Stn) (w : World) (hl : Has w (Pts a1 a.shape)) (hm : Has w (Pts a2 b.shape)) (hs : Small a.shape.length) :
    Calls Tryz.prog 40 #[.agg #[.string a.name, .slice a1 a.shape.length c1, .int .i64 a.depth, .int .i64 a.density, .int .i64 a.grain.x, .int .i64 a.grain.z], .agg #[.string b.name, .slice a2 b.shape.length c2, .int .i64 b.depth, .int .i64 b.density, .int .i64 b.grain.x, .int .i64 b.grain.z]] w (Pure (.bool (sameSB a b)) w) := by
  refine calls_of_gk (vs := [_, _]) Tryz.func40 rfl rfl (Nat.le_of_ble_eq_true rfl) ?_
  refine gk_seq ?_
  refine gk_region ?_
  refine gk_yx rfl rfl (yx_box (vs := [_, _, _, _, _, _]) rfl rfl) fun b2 => ?_
  refine gk_yx rfl rfl (yx_box (vs := [_, _, _, _, _, _]) rfl rfl) fun b3 => ?_
  refine gk_y rfl rfl (y_assign rfl) ?_
  refine gk_nil (gk_sub (T' := [(2,_), (3,_), (4,_)]) ⟨rfl, rfl, rfl, trivial⟩ ?_)
  refine gk_seq ?_
  refine gk_any 45 (fun _ => mixed) (by kernel_rfl) ?_
  refine ph_y (y_fieldAddr fo52_0 rfl) ?_
  refine ph_y (y_loadB1 1 tf9 rfl rfl rfl) ?_
  refine ph_y (y_fieldAddr fo28_0 rfl) ?_
  refine ph_y (y_loadB1 0 tf9 rfl rfl rfl) ?_
  refine ph_y (y_strEq rfl rfl) ?_
  refine ph_y (y_move rfl) ?_
  refine ph_gT rfl rfl (fun hgd => by (try rw [hgd]); exact (y_fieldAddr fo52_2 rfl)) ?_
  refine ph_gT rfl rfl (fun hgd => by (try rw [hgd]); exact (y_loadB1 1 tf3 rfl rfl rfl)) ?_
  refine ph_gT rfl rfl (fun hgd => by (try rw [hgd]); exact (y_fieldAddr fo28_2 rfl)) ?_
  refine ph_gT rfl rfl (fun hgd => by (try rw [hgd]); exact (y_loadB1 0 tf3 rfl rfl rfl)) ?_
  refine ph_gT rfl rfl (fun hgd => by (try rw [hgd]); exact (y_eql rfl rfl)) ?_
  refine ph_y (y_pickAnd rfl rfl rfl) ?_
  refine ph_y (y_move rfl) ?_
  refine ph_gT rfl rfl (fun hgd => by (try rw [hgd]); exact (y_fieldAddr fo52_3 rfl)) ?_
  refine ph_gT rfl rfl (fun hgd => by (try rw [hgd]); exact (y_loadB1 1 tf3 rfl rfl rfl)) ?_
  refine ph_gT rfl rfl (fun hgd => by (try rw [hgd]); exact (y_fieldAddr fo28_3 rfl)) ?_
  refine ph_gT rfl rfl (fun hgd => by (try rw [hgd]); exact (y_loadB1 0 tf3 rfl rfl rfl)) ?_
  refine ph_gT rfl rfl (fun hgd => by (try rw [hgd]); exact (y_eql rfl rfl)) ?_
  refine ph_y (y_pickAnd rfl rfl rfl) ?_
  refine ph_y (y_move rfl) ?_
  refine ph_gT rfl rfl (fun hgd => by (try rw [hgd]); exact (y_fieldAddr fo52_4 rfl)) ?_
  refine ph_gT rfl rfl (fun hgd => by (try rw [hgd]); exact (y_fieldAddr fo50_0 rfl)) ?_
  refine ph_gT rfl rfl (fun hgd => by (try rw [hgd]); exact (y_loadB1 1 tf3 rfl rfl rfl)) ?_
  refine ph_gT rfl rfl (fun hgd => by (try rw [hgd]); exact (y_fieldAddr fo28_4 rfl)) ?_
  refine ph_gT rfl rfl (fun hgd => by (try rw [hgd]); exact (y_fieldAddr fo26_0 rfl)) ?_
  refine ph_gT rfl rfl (fun hgd => by (try rw [hgd]); exact (y_loadB1 0 tf3 rfl rfl rfl)) ?_
  refine ph_gT rfl rfl (fun hgd => by (try rw [hgd]); exact (y_eql rfl rfl)) ?_
  refine ph_y (y_pickAnd rfl rfl rfl) ?_
  refine ph_y (y_move rfl) ?_
  refine ph_gT rfl rfl (fun hgd => by (try rw [hgd]); exact (y_fieldAddr fo52_4 rfl)) ?_
  refine ph_gT rfl rfl (fun hgd => by (try rw [hgd]); exact (y_fieldAddr fo50_1 rfl)) ?_
  refine ph_gT rfl rfl (fun hgd => by (try rw [hgd]); exact (y_loadB1 1 tf3 rfl rfl rfl)) ?_
  refine ph_gT rfl rfl (fun hgd => by (try rw [hgd]); exact (y_fieldAddr fo28_4 rfl)) ?_
  refine ph_gT rfl rfl (fun hgd => by (try rw [hgd]); exact (y_fieldAddr fo26_1 rfl)) ?_
  refine ph_gT rfl rfl (fun hgd => by (try rw [hgd]); exact (y_loadB1 0 tf3 rfl rfl rfl)) ?_
  refine ph_gT rfl rfl (fun hgd => by (try rw [hgd]); exact (y_eql rfl rfl)) ?_
  refine ph_y (y_pickAnd rfl rfl rfl) ?_
  refine ph_y (y_move rfl) ?_
  refine ph_gT rfl rfl (fun hgd => by (try rw [hgd]); exact (y_fieldAddr fo52_1 rfl)) ?_
  refine ph_gT rfl rfl (fun hgd => by (try rw [hgd]); exact (y_loadB1 1 tf49 rfl rfl rfl)) ?_
  refine ph_gT rfl rfl (fun hgd => by (try rw [hgd]); exact (y_fieldAddr fo28_1 rfl)) ?_
  refine ph_gT rfl rfl (fun hgd => by (try rw [hgd]); exact (y_loadB1 0 tf24 rfl rfl rfl)) ?_
  refine ph_gT rfl rfl (fun hgd => by (try rw [hgd]); exact (y_call (v := .bool (decide (a.shape = b.shape))) en77 rfl (fun w hw => samepoints_c _ _ a.shape _ _ b.shape w (Rd.has (Has.rd hl) hw) (Rd.has (Has.rd hm) hw) (by assumption)))) ?_
  refine ph_y (y_pickAnd rfl rfl rfl) ?_
  refine ph_y (y_assign rfl) ?_
  refine gk_nil (gk_sub (T' := [(4,_)]) ⟨rfl, trivial⟩ ?_)
  refine gk_ret ?_
  refine gk_pure (rv_one rfl (r1_tmp rfl)) ?_
  rfl
end Go.Proofs.YtmpaebfjnjmmlaaGreatDoor

namespace Go.Stn
open Go Go.K Go.RowKit
/-- a stone, and where its corners lie -/
structure SC where
  s : Stn
  a : Option Addr
  cap : Nat
instance : Inhabited SC := ⟨⟨⟨⟨#[]⟩, [], 0, 0, ⟨0, 0⟩⟩, none, 0⟩⟩
abbrev encSC (z : SC) : List Value := [.string z.s.name, .slice z.a z.s.shape.length z.cap, .int .i64 z.s.depth, .int .i64 z.s.density, .int .i64 z.s.grain.x, .int .i64 z.s.grain.z]
theorem encSC_ok : Enc 6 encSC := ⟨fun _ => rfl, fun _ => rfl, by decide⟩
abbrev plainL (L : List SC) : List Stn := L.map (·.s)
/-- the same stones, one behind the other -/
def sameAllB (A B : List SC) : Bool := decide (A.length = B.length) && (List.range A.length).all fun i => sameSB (A.getD i default).s (B.getD i default).s
theorem sameAll_len {A B : List SC} (h : ¬ A.length = B.length) : sameAllB A B = false := by
  unfold sameAllB
  rw [decide_eq_false h]; rfl
theorem sameAll_no {A B : List SC} {i : Int} (h0 : 0 ≤ i) (h1 : i < (A.length : Int)) (h : sameSB (A.getD i.toNat default).s (B.getD i.toNat default).s = false) : sameAllB A B = false := by
  unfold sameAllB
  rw [Bool.and_eq_false_iff]
  right
  rw [Bool.eq_false_iff]
  intro ht
  rw [List.all_eq_true] at ht
  have := ht i.toNat (List.mem_range.2 (by omega))
  rw [h] at this
  cases this
theorem sameAll_yes {A B : List SC} {i : Int} (hl : A.length = B.length) (h0 : ¬ i < (A.length : Int)) (h : ∀ j : Nat, (j : Int) < i → (!sameSB (A.getD j default).s (B.getD j default).s) = false) : sameAllB A B = true := by
  unfold sameAllB
  rw [decide_eq_true hl, Bool.true_and, List.all_eq_true]
  intro j hj
  rw [List.mem_range] at hj
  simpa using h j (by omega)
end Go.Stn

namespace Go.Proofs.YtmpaebfjnjmmlaaGreatDoor
open Go.K Go.Stn Go.RowKit
theorem tf28 : TF Tryz.prog 28 true 6 (.agg #[.string ⟨#[]⟩, .slice none 0 0, .int IntKind.i64 0, .int IntKind.i64 0, .int IntKind.i64 0, .int IntKind.i64 0]) := ⟨by kernel_rfl, by kernel_rfl⟩
theorem se22 : SE Tryz.prog 22 28 6 := ⟨Tryz.underlying22, by kernel_rfl⟩
theorem se29 : SE Tryz.prog 29 52 6 := ⟨Tryz.underlying29, by kernel_rfl⟩
theorem en40 : En Tryz.prog 40 := en_of Tryz.func40 (by kernel_rfl) (by kernel_rfl)
theorem getD_memS {α : Type} [Inhabited α] {l : List α} {i : Nat} (h : i < l.length) : l.getD i default ∈ l := by simp [h]
theorem below_nat {f : Nat → Bool} {i : Int} (h0 : 0 ≤ i) (h : ∀ j : Nat, (j : Int) < i → f j = false) (hi : f i.toNat = false) : ∀ j : Nat, (j : Int) < i + 1 → f j = false := fun j hj => by
  rcases Int.lt_or_eq_of_le (show (j : Int) ≤ i by omega) with g | g
  · exact h j g
  · rw [show j = i.toNat from by omega]; exact hi
set_option maxRecDepth 100000 in
set_option maxHeartbeats 1000000 in
theorem sameall_c (a : Option Addr) (cap : Nat) (L : List SC) (b : Option Addr) (bcap : Nat) (M : List SC) (w : World) (hl : Has w (Elems a 6 encSC L)) (hsh : ∀ z ∈ L, Has w (Pts z.a z.s.shape)) (hs : Small L.length) (hss : ∀ z ∈ L, Small z.s.shape.length) (hm : Has w (Elems b 6 encSC M)) (hmh : ∀ z ∈ M, Has w (Pts z.a z.s.shape)) (hms : ∀ z ∈ M, Small z.s.shape.length) :
    Calls Tryz.prog 15 #[.slice a L.length cap, .slice b M.length bcap] w (Pure (.bool (sameAllB L M)) w) := by
  refine calls_of_gk (vs := [_, _]) Tryz.func15 rfl rfl (Nat.le_of_ble_eq_true rfl) ?_
  refine gk_seq ?_
  refine gk_region ?_
  refine gk_y rfl rfl (y_assign rfl) ?_
  refine gk_nil (gk_sub (T' := [(0,_), (1,_), (4,_)]) ⟨rfl, rfl, rfl, trivial⟩ ?_)
  refine gk_seq ?_
  refine gk_seq ?_
  refine gk_region ?_
  refine gk_y rfl rfl (y_move rfl) ?_
  refine gk_y rfl rfl (y_lenS (Tryz.underlying29) rfl) ?_
  refine gk_y rfl rfl (y_move rfl) ?_
  refine gk_y rfl rfl (y_lenS (Tryz.underlying22) rfl) ?_
  refine gk_y rfl rfl (y_neq rfl rfl) ?_
  refine gk_nil (gk_sub (T' := [(0,_), (1,_), (4,_), (10,_)]) ⟨rfl, rfl, rfl, rfl, trivial⟩ ?_)
  refine gk_cond rfl (fun hc10 => ?_) (fun hc10 => ?_)
  · have h10 : ¬ (L.length : Int) = M.length := by simpa using hc10
    have hl10 : ¬ L.length = M.length := by omega
    refine gk_seq ?_
    refine gk_region ?_
    refine gk_y rfl rfl (y_assign rfl) ?_
    refine gk_nil (gk_sub (T' := [(0,_), (1,_), (4,_)]) ⟨rfl, rfl, rfl, trivial⟩ ?_)
    refine gk_ret ?_
    refine gk_pure (rv_one rfl (r1_tmp rfl)) ?_
    rw [sameAll_len hl10]
  · have h10 : (L.length : Int) = M.length := by simpa using hc10
    have hl10 : L.length = M.length := by omega
    refine gk_skip ?_
    refine gk_seq ?_
    refine gk_seq ?_
    refine gk_region ?_
    refine gk_y rfl rfl (y_assign rfl) ?_
    refine gk_nil (gk_sub (T' := [(0,_), (1,_), (4,_), (5,_)]) ⟨rfl, rfl, rfl, rfl, trivial⟩ ?_)
    refine gk_block ?_
    refine gk_loop (X := Int) (fun (i : Int) => [(0, .slice a L.length cap), (1, .slice b M.length bcap), (4, .bool false), (5, .int .i64 i)]) (fun (i : Int) => []) (fun (i : Int) => (0 ≤ i ∧ i ≤ L.length ∧ ∀ j : Nat, (j : Int) < i → (!sameSB (L.getD j default).s (M.getD j default).s) = false)) (fun (i : Int) => (L.length - i).toNat) 0 ⟨rfl, rfl, rfl, rfl, trivial⟩ rfl ?_ ?_
    · exact ⟨by omega, by omega, fun j hj => by omega⟩
    · rintro i hI
      obtain ⟨g0, g1, g2⟩ := hI
      refine gk_seq ?_
      refine gk_seq ?_
      refine gk_region ?_
      refine gk_y rfl rfl (y_move rfl) ?_
      refine gk_y rfl rfl (y_move rfl) ?_
      refine gk_y rfl rfl (y_lenS (Tryz.underlying29) rfl) ?_
      refine gk_y rfl rfl (y_lss rfl rfl) ?_
      refine gk_nil (gk_sub (T' := [(0,_), (1,_), (4,_), (5,_), (14,_)]) ⟨rfl, rfl, rfl, rfl, rfl, trivial⟩ ?_)
      refine gk_cond rfl (fun hc14 => ?_) (fun hc14 => ?_)
      · have hc14 := of_decide_eq_true hc14
        refine gk_skip ?_
        refine gk_seq ?_
        refine gk_block ?_
        refine gk_seq ?_
        refine gk_any 10 (fun _ => mixed) (by kernel_rfl) ?_
        refine ph_y (y_move rfl) ?_
        refine ph_y (y_move rfl) ?_
        refine ph_y (y_indexE se29 rfl rfl (fun _ hw => (Rd.has (Has.rd hl) hw)) (by omega) (by omega)) ?_
        refine ph_y (y_loadE (vs := [_, _, _, _, _, _]) tf52 rfl (fun _ hw => (Rd.has (Has.rd hl) hw)) (by omega) (by omega) rfl) ?_
        refine ph_y (y_move rfl) ?_
        refine ph_y (y_move rfl) ?_
        refine ph_y (y_indexE se22 rfl rfl (fun _ hw => (Rd.has (Has.rd hm) hw)) (by omega) (by omega)) ?_
        refine ph_y (y_loadE (vs := [_, _, _, _, _, _]) tf28 rfl (fun _ hw => (Rd.has (Has.rd hm) hw)) (by omega) (by omega) rfl) ?_
        refine ph_y (y_call en40 rfl (fun w hw => same_c _ _ ((L.getD (i).toNat default).s) _ _ ((M.getD (i).toNat default).s) w (Rd.has (Has.rd (hsh _ (getD_memS (by omega)))) hw) (Rd.has (Has.rd (hmh _ (getD_memS (by omega)))) hw) (hss _ (getD_memS (by omega))))) ?_
        refine ph_y (y_not rfl) ?_
        refine gk_nil (gk_sub (T' := [(0,_), (1,_), (4,_), (5,_), (26,_)]) ⟨rfl, rfl, rfl, rfl, rfl, trivial⟩ ?_)
        refine gk_cond rfl (fun hc26 => ?_) (fun hc26 => ?_)
        · skip
          refine gk_seq ?_
          refine gk_region ?_
          refine gk_y rfl rfl (y_assign rfl) ?_
          refine gk_nil (gk_sub (T' := [(0,_), (1,_), (4,_), (5,_)]) ⟨rfl, rfl, rfl, rfl, trivial⟩ ?_)
          refine gk_ret ?_
          refine gk_pure (rv_one rfl (r1_tmp rfl)) ?_
          rw [sameAll_no g0 hc14 (by simpa using hc26)]
        · skip
          refine gk_skip ?_
          refine gk_region ?_
          refine gk_y rfl rfl (y_move rfl) ?_
          refine gk_y rfl rfl (y_addI rfl rfl (by omega) (by omega)) ?_
          refine gk_y rfl rfl (y_assign rfl) ?_
          refine gk_nil (gk_sub (T' := [(0,_), (1,_), (4,_), (5,_)]) ⟨rfl, rfl, rfl, rfl, trivial⟩ ?_)
          exact gk_next (i + 1) ⟨rfl, rfl, rfl, rfl, trivial⟩ rfl ⟨by omega, by omega, below_nat (f := fun j => !sameSB (L.getD j default).s (M.getD j default).s) g0 g2 hc26⟩ (by omega)
      · have hc14 := of_decide_eq_false hc14
        refine gk_exit rfl ?_
        refine gk_seq ?_
        refine gk_region ?_
        refine gk_y rfl rfl (y_assign rfl) ?_
        refine gk_nil (gk_sub (T' := [(4,_)]) ⟨rfl, trivial⟩ ?_)
        refine gk_ret ?_
        refine gk_pure (rv_one rfl (r1_tmp rfl)) ?_
        rw [sameAll_yes hl10 hc14 g2]
end Go.Proofs.YtmpaebfjnjmmlaaGreatDoor

namespace Go.Stn
open Go Go.K Go.RowKit
def ronB (a b p : Pt) : Bool := (decide (sideW a b p = 0) && (decide (min a.x b.x ≤ p.x) && decide (p.x ≤ max a.x b.x))) && (decide (min a.z b.z ≤ p.z) && decide (p.z ≤ max a.z b.z))
def rbordN (l : List Pt) (p : Pt) (n : Nat) : Bool := !allI n fun i => !ronB (ptAt l i) (nextL l i) p
def rbordB (l : List Pt) (p : Pt) : Bool := !farB p && rbordN l p l.length
def rboth (l : List Pt) (p q : Pt) (i : Int) : Bool := ronB (ptAt l i) (nextL l i) p && ronB (ptAt l i) (nextL l i) q
def rapartB (l : List Pt) (p q : Pt) : Bool := allI l.length fun i => !rboth l p q i
theorem rbord_yes {l : List Pt} {p : Pt} {i : Int} (hf : farB p = false) (h0 : 0 ≤ i) (h1 : i < (l.length : Int)) (h : ronB (ptAt l i) (nextL l i) p = true) : rbordB l p = true := by
  rw [rbordB, hf, rbordN, allI_false (i := i.toNat) (by omega) (by rw [show ((i.toNat : Nat) : Int) = i from by omega, h]; rfl)]; rfl
/-- is the corner the first one to the left? -/
def leftC (l : List Pt) (p q : Pt) (i : Int) : Bool := decide (0 < sideW p q (ptAt l i)) && decide (sideW p q (ptAt l ((i + (l.length : Int) - 1).tmod (l.length : Int))) ≤ 0)
def fromN (l : List Pt) (p q : Pt) : Nat → Int
  | 0 => 0
  | n + 1 => if leftC l p q (n : Int) = true then (n : Int) else fromN l p q n
def leftP (l : List Pt) (f : Int) (i : Int) : Pt := ptAt l ((f + i).tmod (l.length : Int))
def leftO (l : List Pt) (p q : Pt) (f : Int) (n : Nat) : List Pt := p :: q :: ((List.range n).map fun (j : Nat) => leftP l f (j : Int)).filter fun c => decide (0 < sideW p q c)
def leftL (l : List Pt) (p q : Pt) : List Pt := leftO l p q (fromN l p q l.length) l.length
end Go.Stn

namespace Go.Proofs.YtmpaebfjnjmmlaaGreatDoor
open Go.K Go.Stn Go.RowKit
theorem en37 : En Tryz.prog 37 := en_of Tryz.func37 (by kernel_rfl) (by kernel_rfl)
end Go.Proofs.YtmpaebfjnjmmlaaGreatDoor

namespace Go.Proofs.YtmpaebfjnjmmlaaGreatDoor
open Go.K Go.Stn Go.RowKit
theorem af22 : AF Tryz.prog 22 28 6 72 [.string ⟨#[]⟩, .slice none 0 0, .int IntKind.i64 0, .int IntKind.i64 0, .int IntKind.i64 0, .int IntKind.i64 0] := ⟨Tryz.underlying22, by kernel_rfl, rfl⟩
theorem bs22_1 (x0 : SC) (w : World) : (Instr.buildSlice 22 1 #[(0, .agg #[.string x0.s.name, .slice x0.a x0.s.shape.length x0.cap, .int .i64 x0.s.depth, .int .i64 x0.s.density, .int .i64 x0.s.grain.x, .int .i64 x0.s.grain.z])]).run Tryz.prog w = .ok (.slice (some ⟨w.heap.size, 0, none⟩) 1 1) (w.alloc (.cells (([x0] : List (SC)).flatMap encSC).toArray 28)) := by kernel_rfl
end Go.Proofs.YtmpaebfjnjmmlaaGreatDoor

namespace Go.Proofs.YtmpaebfjnjmmlaaGreatDoor
open Go.K Go.Stn Go.RowKit
theorem af29 : AF Tryz.prog 29 52 6 72 [.string ⟨#[]⟩, .slice none 0 0, .int IntKind.i64 0, .int IntKind.i64 0, .int IntKind.i64 0, .int IntKind.i64 0] := ⟨Tryz.underlying29, by kernel_rfl, rfl⟩
end Go.Proofs.YtmpaebfjnjmmlaaGreatDoor

namespace Go.Stn
open Go Go.K Go.RowKit
theorem all_snoc {R : Res} {w : World} : ∀ (X : List Res) (B C D : Nat → Prop), (∀ k, C k → B k) → (∀ k, D k → B k ∧ ¬ C k) → All X C w → R.A D w → All (X ++ [R]) B w
  | [], _, _, D, _, hD, _, hR => ⟨D, fun _ => False, fun k hk => (hD k hk).1, fun _ hk => hk.elim, hR, trivial⟩
  | _ :: r, _, _, D, hC, hD, ⟨C0, E0, h1, h2, hA, hr⟩, hR =>
    ⟨C0, fun k => E0 k ∨ D k, fun k hk => hC k (h1 k hk), fun k hk => hk.elim (fun h => ⟨hC k (h2 k h).1, (h2 k h).2⟩) (fun h => ⟨(hD k h).1, fun h0 => (hD k h).2 (h1 k h0)⟩), hA,
      all_snoc r _ E0 D (fun _ h => .inl h) (fun k h => ⟨.inr h, fun h0 => (hD k h).2 (h2 k h0).1⟩) hr hR⟩
theorem all_has {R : Res} {w : World} : ∀ (X : List Res) (B : Nat → Prop), (∀ k, B k → k < w.heap.size) → All X B w → R ∈ X → Has w R
  | _ :: r, _, hB, ⟨C0, E0, h1, h2, hA, hr⟩, hm => by
    rcases List.mem_cons.1 hm with rfl | hm
    · exact ⟨C0, fun k hk => hB k (h1 k hk), hA⟩
    · exact all_has r E0 (fun k hk => hB k (h2 k hk).1) hr hm
abbrev rowOf (e : TypeId) (z : SC) : Res := Row z.a 2 z.cap e encPt z.s.shape
/-- the corners of all -/
def Shps (e : TypeId) (L : List SC) : Res := SepR (L.map (rowOf e))
theorem shps_nil {e : TypeId} {B : Nat → Prop} {w : World} : (Shps e []).A B w := trivial
theorem shps_snoc {e : TypeId} {L : List SC} {z : SC} {B : Nat → Prop} {w : World} (h : (SepR [Shps e L, rowOf e z]).A B w) : (Shps e (L ++ [z])).A B w := by
  obtain ⟨C, E, h1, h2, hA, D, _, h3, _, hR, _⟩ := h
  show All ((L ++ [z]).map (rowOf e)) B w
  rw [List.map_append]
  exact all_snoc _ B C D h1 (fun k hk => h2 k (h3 k hk)) hA hR
theorem shps_has {e : TypeId} {L : List SC} {z : SC} {w : World} (h : Has w (Shps e L)) (hz : z ∈ L) : Has w (Pts z.a z.s.shape) := by
  obtain ⟨B, hB, hA⟩ := h
  obtain ⟨C, hC, hR⟩ := all_has (R := rowOf e z) _ B hB hA (List.mem_map.2 ⟨z, hz, rfl⟩)
  exact ⟨C, hC, Row.elems encPt_ok hR⟩
end Go.Stn

namespace Go.Proofs.YtmpaebfjnjmmlaaGreatDoor
open Go.K Go.Stn Go.RowKit
theorem bs29_1 (x0 : SC) (w : World) : (Instr.buildSlice 29 1 #[(0, .agg #[.string x0.s.name, .slice x0.a x0.s.shape.length x0.cap, .int .i64 x0.s.depth, .int .i64 x0.s.density, .int .i64 x0.s.grain.x, .int .i64 x0.s.grain.z])]).run Tryz.prog w = .ok (.slice (some ⟨w.heap.size, 0, none⟩) 1 1) (w.alloc (.cells (([x0] : List (SC)).flatMap encSC).toArray 52)) := by kernel_rfl
section
variable {c : Cx} {ds : List Deferred} {T : List (Nat × Value)} {H : List Res} {K : Act → World → Prop}
theorem gk_newShps (e : TypeId) (h : GK c ds K T (Shps e [] :: H)) : GK c ds K T H := fun a w ha hw =>
  h a w ha ⟨hw.base, fun _ => False, fun _ hk => hk.elim, shps_nil, Holds.anti H (fun _ hk => hk.elim id False.elim) hw.holds⟩
end
end Go.Proofs.YtmpaebfjnjmmlaaGreatDoor
