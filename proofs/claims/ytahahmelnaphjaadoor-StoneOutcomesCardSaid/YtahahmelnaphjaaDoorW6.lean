/- Walks: the border of a stone. No statement of the seat is proved in this text. -/
import Derived.Test.YtahahmelnaphjaaDoorW5
namespace Go.Proofs.YtahahmelnaphjaaDoor
open Go.K Go.Stn Go.RowKit
theorem tf132 : TF Tryd.prog 132 false 1 (.nilFunc) := ⟨by kernel_rfl, by kernel_rfl⟩
theorem en63 : En Tryd.prog 63 := en_of Tryd.func63 (by kernel_rfl) (by kernel_rfl)
theorem en64 : En Tryd.prog 64 := en_of Tryd.func64 (by kernel_rfl) (by kernel_rfl)
theorem en65 : En Tryd.prog 65 := en_of Tryd.func65 (by kernel_rfl) (by kernel_rfl)
theorem en66 : En Tryd.prog 66 := en_of Tryd.func66 (by kernel_rfl) (by kernel_rfl)
theorem en88 : En Tryd.prog 88 := en_of Tryd.func88 (by kernel_rfl) (by kernel_rfl)
theorem en121 : En Tryd.prog 121 := en_of Tryd.func121 (by kernel_rfl) (by kernel_rfl)
theorem en122 : En Tryd.prog 122 := en_of Tryd.func122 (by kernel_rfl) (by kernel_rfl)
theorem en126 : En Tryd.prog 126 := en_of Tryd.func126 (by kernel_rfl) (by kernel_rfl)

set_option maxRecDepth 100000 in
set_option maxHeartbeats 1000000 in
theorem common_c (a b : Int) (w : World) (ha : -1000000 ≤ a) (ha2 : a ≤ 1000000) (hb : -1000000 ≤ b) (hb2 : b ≤ 1000000) :
    Calls Tryd.prog 126 #[.int .i64 a, .int .i64 b] w (Pure (.int .i64 ((Nat.gcd a.natAbs b.natAbs : Nat) : Int)) w) := by
  refine calls_of_gk (vs := [_, _]) Tryd.func126 rfl rfl (Nat.le_of_ble_eq_true rfl) ?_
  refine gk_seq ?_
  refine gk_region ?_
  refine gk_y rfl rfl (y_assign rfl) ?_
  refine gk_nil (gk_sub (T' := [(0,_), (1,_), (4,_)]) ⟨rfl, rfl, rfl, trivial⟩ ?_)
  refine gk_seq ?_
  refine gk_region ?_
  refine gk_y rfl rfl (y_move rfl) ?_
  refine gk_y rfl rfl (y_move rfl) ?_
  refine gk_y rfl rfl (y_negI rfl (by omega) (by omega)) ?_
  refine gk_y rfl rfl (y_max rfl rfl) ?_
  refine gk_y rfl rfl (y_move rfl) ?_
  refine gk_y rfl rfl (y_move rfl) ?_
  refine gk_y rfl rfl (y_negI rfl (by omega) (by omega)) ?_
  refine gk_y rfl rfl (y_max rfl rfl) ?_
  refine gk_y rfl rfl (y_assign rfl) ?_
  refine gk_y rfl rfl (y_assign rfl) ?_
  refine gk_nil (gk_sub (T' := [(0,_), (1,_), (4,_)]) ⟨rfl, rfl, rfl, trivial⟩ ?_)
  refine gk_seq ?_
  refine gk_block ?_
  refine gk_loop (X := Int × Int) (fun ⟨x, y⟩ => [(0, .int .i64 x), (1, .int .i64 y), (4, .int .i64 0)]) (fun ⟨x, y⟩ => []) (fun ⟨x, y⟩ => (0 ≤ x ∧ 0 ≤ y ∧ Nat.gcd x.toNat y.toNat = Nat.gcd a.natAbs b.natAbs)) (fun ⟨x, y⟩ => y.toNat) (max a (-a), max b (-b)) ⟨rfl, rfl, rfl, trivial⟩ rfl ?_ ?_
  · exact ⟨by omega, by omega, by rw [show (max a (-a)).toNat = a.natAbs from by omega, show (max b (-b)).toNat = b.natAbs from by omega]⟩
  · rintro ⟨x, y⟩ hI
    obtain ⟨g0, g1, g2⟩ := hI
    refine gk_seq ?_
    refine gk_seq ?_
    refine gk_region ?_
    refine gk_y rfl rfl (y_move rfl) ?_
    refine gk_y rfl rfl (y_neq rfl rfl) ?_
    refine gk_nil (gk_sub (T' := [(0,_), (1,_), (4,_), (14,_)]) ⟨rfl, rfl, rfl, rfl, trivial⟩ ?_)
    refine gk_cond rfl (fun hc14 => ?_) (fun hc14 => ?_)
    · simp only [Bool.not_eq_true', decide_eq_false_iff_not] at hc14
      refine gk_skip ?_
      refine gk_block ?_
      refine gk_any 6 (fun _ => mixed) (by kernel_rfl) ?_
      refine ph_y (y_move rfl) ?_
      refine ph_y (y_move rfl) ?_
      refine ph_y (y_move rfl) ?_
      refine ph_y (y_rem rfl rfl (by omega)) ?_
      refine ph_y (y_assign rfl) ?_
      refine ph_y (y_assign rfl) ?_
      refine gk_nil (gk_sub (T' := [(0,_), (1,_), (4,_)]) ⟨rfl, rfl, rfl, trivial⟩ ?_)
      exact gk_next (_, _) ⟨rfl, rfl, rfl, trivial⟩ rfl ⟨g1, Int.tmod_nonneg _ g0, (gcd_step g0 g1).trans g2⟩ (by have := Int.tmod_lt_of_pos x (show 0 < y by omega); have := Int.tmod_nonneg y g0; simp only []; omega)
    · simp only [Bool.not_eq_false', decide_eq_true_eq] at hc14
      refine gk_exit rfl ?_
      refine gk_seq ?_
      refine gk_region ?_
      refine gk_y rfl rfl (y_move rfl) ?_
      refine gk_y rfl rfl (y_assign rfl) ?_
      refine gk_nil (gk_sub (T' := [(4,_)]) ⟨rfl, trivial⟩ ?_)
      refine gk_ret ?_
      refine gk_pure (rv_one rfl (r1_tmp rfl)) ?_
      rw [← g2, show y.toNat = 0 from by omega, Nat.gcd_zero_right]; exact congrArg _ (by omega)

set_option maxRecDepth 100000 in
set_option maxHeartbeats 1000000 in
theorem steps_c (p q : Pt) (w : World) (hp : farB p = false) (hq : farB q = false) :
    Calls Tryd.prog 88 #[.agg #[.int .i64 p.x, .int .i64 p.z], .agg #[.int .i64 q.x, .int .i64 q.z]] w (Pure (.int .i64 (stepsI p q)) w) := by
  obtain ⟨hd, d0, d1, d2, d3⟩ := near_sub hp hq
  refine calls_of_gk (vs := [_, _]) Tryd.func88 rfl rfl (Nat.le_of_ble_eq_true rfl) ?_
  refine gk_seq ?_
  refine gk_region ?_
  refine gk_yx rfl rfl (yx_box (vs := [_, _]) rfl rfl) fun b2 => ?_
  refine gk_yx rfl rfl (yx_box (vs := [_, _]) rfl rfl) fun b3 => ?_
  refine gk_y rfl rfl (y_assign rfl) ?_
  refine gk_nil (gk_sub (T' := [(2,_), (3,_), (4,_)]) ⟨rfl, rfl, rfl, trivial⟩ ?_)
  refine gk_seq ?_
  refine gk_region ?_
  refine gk_y rfl rfl (y_loadBA 0 tf32 rfl rfl (vs := [_, _]) rfl rfl) ?_
  refine gk_y rfl rfl (y_loadBA 1 tf32 rfl rfl (vs := [_, _]) rfl rfl) ?_
  refine gk_y rfl rfl (y_call en89 rfl (fun w hw => sub_c ⟨_, _⟩ ⟨_, _⟩ w)) ?_
  refine gk_yx rfl rfl (yx_alloc tf32 (zs := [_, _]) rfl) fun b5 => ?_
  refine gk_storeV 0 tf32 rfl rfl (vs := [_, _]) rfl rfl rfl rfl rfl ?_
  refine gk_nil (gk_sub (T' := [(4,_), (5,_)]) ⟨rfl, rfl, trivial⟩ ?_)
  refine gk_seq ?_
  refine gk_region ?_
  refine gk_y rfl rfl (y_fieldAddr fo32_0 rfl) ?_
  refine gk_y rfl rfl (y_loadB1 0 tf3 rfl rfl rfl) ?_
  refine gk_y rfl rfl (y_fieldAddr fo32_1 rfl) ?_
  refine gk_y rfl rfl (y_loadB1 0 tf3 rfl rfl rfl) ?_
  refine gk_y rfl rfl (y_call en126 rfl (fun w hw => common_c ((subW q p).x) ((subW q p).z) w (by rw [hd]; dsimp only; omega) (by rw [hd]; dsimp only; omega) (by rw [hd]; dsimp only; omega) (by rw [hd]; dsimp only; omega))) ?_
  refine gk_y rfl rfl (y_assign rfl) ?_
  refine gk_nil (gk_sub (T' := [(4,_)]) ⟨rfl, trivial⟩ ?_)
  refine gk_ret ?_
  refine gk_pure (rv_one rfl (r1_tmp rfl)) ?_
  rw [hd]; rfl

set_option maxRecDepth 100000 in
set_option maxHeartbeats 1000000 in
theorem border_c (a : Option Addr) (cap : Nat) (s : Stn) (w : World)  :
    Calls Tryd.prog 66 #[.agg #[.string s.name, .slice a s.shape.length cap, .int .i64 s.depth, .int .i64 s.density, .int .i64 s.grain.x, .int .i64 s.grain.z]] w (Gives (fun b : Nat => .func (.func 122) #[] #[.pointer (some ⟨b, 0, none⟩)]) (fun b => Box b [.string s.name, .slice a s.shape.length cap, .int .i64 s.depth, .int .i64 s.density, .int .i64 s.grain.x, .int .i64 s.grain.z] 34) w) := by
  refine calls_of_gk (vs := [_]) Tryd.func66 rfl rfl (Nat.le_of_ble_eq_true rfl) ?_
  refine gk_seq ?_
  refine gk_region ?_
  refine gk_yx rfl rfl (yx_box (vs := [_, _, _, _, _, _]) rfl rfl) fun b1 => ?_
  refine gk_y rfl rfl (y_assign rfl) ?_
  refine gk_nil (gk_sub (T' := [(1,_), (2,_)]) ⟨rfl, rfl, trivial⟩ ?_)
  refine gk_seq ?_
  refine gk_region ?_
  refine gk_y rfl rfl (y_makeFunc («as» := []) (bs := [_]) rfl rfl) ?_
  refine gk_y rfl rfl (y_assign rfl) ?_
  refine gk_nil (gk_sub (T' := [(2,_)]) ⟨rfl, trivial⟩ ?_)
  refine gk_ret ?_
  refine gk_gives b1 0 (rv_one rfl (r1_tmp rfl)) ?_ rfl
  rfl

set_option maxRecDepth 100000 in
set_option maxHeartbeats 1000000 in
theorem border1_c (a : Option Addr) (cap : Nat) (s : Stn) (b : Nat) (hs : Small s.shape.length) (hnear : Near s.shape) :
    SeqC Tryd.prog 122 [.pointer (some ⟨b, 0, none⟩)] (borderVs s.shape) (fun w => Has w (Box b [.string s.name, .slice a s.shape.length cap, .int .i64 s.depth, .int .i64 s.density, .int .i64 s.grain.x, .int .i64 s.grain.z] 34) ∧ Has w (Pts a s.shape)) := by
  intro X J Rl D y w B x0 hB hA h0 hM hy
  refine calls_of_gkB hB hA (vs := [_, _]) Tryd.func122 rfl rfl (Nat.le_of_ble_eq_true rfl) ?_
  have hmem : ∀ {cz : Cx} {Hz : List Res} {xz : X} {pz : Nat} {w' : World}, Inside (fun k => k < w.heap.size ∧ ¬ B k) w cz → Hz[pz]? = some (J xz) → Hp cz.U cz.w0 Hz w' → (Has w' (Box b [.string s.name, .slice a s.shape.length cap, .int .i64 s.depth, .int .i64 s.density, .int .i64 s.grain.x, .int .i64 s.grain.z] 34) ∧ Has w' (Pts a s.shape)) := fun hin hp hw => by
    obtain ⟨B', q1, q2, q3, q4⟩ := own_of_in hin hp hw
    exact hM _ _ B' q4 q1 q2 q3
  have ins0 := insideB Tryd.prog Tryd.f122.ntmps w B
  refine gk_seq ?_
  refine gk_region ?_
  refine gk_yx rfl rfl (yx_box (vs := [_]) rfl rfl) fun b2 => ?_
  refine gk_nil (gk_sub (T' := [(1,_), (2,_)]) ⟨rfl, rfl, trivial⟩ ?_)
  refine gk_seq ?_
  refine gk_region ?_
  refine gk_y rfl rfl (y_fieldAddr fo34_1 rfl) ?_
  refine gk_y rfl rfl (y_load1 tf31 rfl (fun _ hw => has_box_cell (hmem ins0 (pz := 1) rfl hw).1 rfl)) ?_
  refine gk_yx rfl rfl (yx_call en82 rfl (fun w hw => edges_c _ _ s.shape w)) fun p10 => ?_
  refine gk_nil (gk_sub (T' := [(2,_), (10,_)]) ⟨rfl, rfl, trivial⟩ ?_)
  refine gk_block ?_
  refine gk_sub (T' := [(2,_), (10,_)]) ⟨rfl, rfl, trivial⟩ ?_
  refine gk_rangeFunc (X := X) (fun x => [Box p10 [.slice a s.shape.length cap] 31, Box b2 [.func (.yield y) #[] #[]] 132, J x]) (fun n x => Rl (preN s.shape n) x) (fun x => D x) [] x0 rfl en124 rfl rfl (by rw [preN_zero]; exact h0) (edges1_c _ _ s.shape _ (by assumption)) (fun x w hw => ⟨hw.has (p := 0) rfl, (hmem ins0 (pz := 2) rfl hw).2⟩) (edges_two _) rfl ?_ ?_ ?_ ?_
  · rintro R1 R2 rl U' w' n x args hget hR hrd hins hbeg
    obtain ⟨e, he, rfl⟩ := edge_inv hget
    refine gk_sub (T' := [(2,_), (11,_), (12,_)]) ⟨rfl, rfl, rfl, trivial⟩ ?_
    refine gk_seq ?_
    refine gk_region ?_
    refine gk_yx rfl rfl (yx_alloc tf32 (zs := [_, _]) rfl) fun b3 => ?_
    refine gk_storeV 0 tf32 rfl rfl (vs := [_, _]) rfl rfl rfl rfl rfl ?_
    refine gk_nil (gk_sub (T' := [(2,_), (3,_), (12,_)]) ⟨rfl, rfl, rfl, trivial⟩ ?_)
    refine gk_region ?_
    refine gk_yx rfl rfl (yx_alloc tf32 (zs := [_, _]) rfl) fun b4 => ?_
    refine gk_storeV 0 tf32 rfl rfl (vs := [_, _]) rfl rfl rfl rfl rfl ?_
    refine gk_nil (gk_sub (T' := [(2,_), (3,_), (4,_)]) ⟨rfl, rfl, rfl, trivial⟩ ?_)
    refine gk_front 2 rfl ?_
    refine hbeg _ _ _ ?_
    refine gk_block ?_
    refine gk_seq ?_
    refine gk_region ?_
    refine gk_y rfl rfl (y_loadBA 2 tf32 rfl rfl (vs := [_, _]) rfl rfl) ?_
    refine gk_y rfl rfl (y_loadBA 1 tf32 rfl rfl (vs := [_, _]) rfl rfl) ?_
    refine gk_y rfl rfl (y_call en88 rfl (fun w hw => steps_c ⟨_, _⟩ ⟨_, _⟩ w (near_edge hnear he).1 (near_edge hnear he).2)) ?_
    refine gk_y rfl rfl (y_assign rfl) ?_
    refine gk_nil (gk_sub (T' := [(2,_), (3,_), (4,_), (5,_)]) ⟨rfl, rfl, rfl, rfl, trivial⟩ ?_)
    refine gk_seq ?_
    refine gk_region ?_
    refine gk_y rfl rfl (y_loadBA 1 tf32 rfl rfl (vs := [_, _]) rfl rfl) ?_
    refine gk_y rfl rfl (y_loadBA 2 tf32 rfl rfl (vs := [_, _]) rfl rfl) ?_
    refine gk_y rfl rfl (y_call en89 rfl (fun w hw => sub_c ⟨_, _⟩ ⟨_, _⟩ w)) ?_
    refine gk_yx rfl rfl (yx_alloc tf32 (zs := [_, _]) rfl) fun b6 => ?_
    refine gk_storeV 0 tf32 rfl rfl (vs := [_, _]) rfl rfl rfl rfl rfl ?_
    refine gk_nil (gk_sub (T' := [(2,_), (3,_), (5,_), (6,_)]) ⟨rfl, rfl, rfl, rfl, trivial⟩ ?_)
    refine gk_seq ?_
    refine gk_region ?_
    refine gk_y rfl rfl (y_move rfl) ?_
    refine gk_y rfl rfl (y_move rfl) ?_
    refine gk_nil (gk_sub (T' := [(2,_), (3,_), (5,_), (6,_), (19,_), (20,_)]) ⟨rfl, rfl, rfl, rfl, rfl, rfl, trivial⟩ ?_)
    refine gk_block ?_
    refine gk_loop (X := Int × X) (fun ⟨k, x2⟩ => [(2, .pointer (some ⟨b2, 0, none⟩)), (3, .pointer (some ⟨b3, 0, none⟩)), (5, .int .i64 (stepsI e.1 e.2)), (6, .pointer (some ⟨b6, 0, none⟩)), (19, .int .i64 (stepsI e.1 e.2)), (20, .int .i64 k)]) (fun ⟨k, x2⟩ => [Box b6 [.int .i64 ((subW e.2 e.1).x), .int .i64 ((subW e.2 e.1).z)] 32, R2, Box b4 [.int .i64 e.2.x, .int .i64 e.2.z] 32, Box b3 [.int .i64 e.1.x, .int .i64 e.1.z] 32, Box p10 [.slice a s.shape.length cap] 31, Box b2 [.func (.yield y) #[] #[]] 132, J x2]) (fun ⟨k, x2⟩ => (0 ≤ k ∧ k ≤ stepsI e.1 e.2 ∧ Rl (preN s.shape n + k.toNat) x2)) (fun ⟨k, x2⟩ => (stepsI e.1 e.2 - k).toNat) (0, x) ⟨rfl, rfl, rfl, rfl, rfl, rfl, trivial⟩ rfl ?_ ?_
    · exact ⟨by omega, by unfold stepsI; omega, hR⟩
    · rintro ⟨k, x2⟩ hI
      obtain ⟨g0, g1, g2⟩ := hI
      have hst := steps_le (near_edge hnear he).1 (near_edge hnear he).2
      have hsi : stepsI e.1 e.2 = (stepsN e.1 e.2 : Int) := rfl
      refine gk_seq ?_
      refine gk_region ?_
      refine gk_y rfl rfl (y_lss rfl rfl) ?_
      refine gk_nil (gk_sub (T' := [(2,_), (3,_), (5,_), (6,_), (19,_), (20,_), (21,_)]) ⟨rfl, rfl, rfl, rfl, rfl, rfl, rfl, trivial⟩ ?_)
      refine gk_seq ?_
      refine gk_cond rfl (fun hc21 => ?_) (fun hc21 => ?_)
      · simp only [decide_eq_true_eq] at hc21
        refine gk_skip ?_
        refine gk_seq ?_
        refine gk_block ?_
        refine gk_seq ?_
        refine gk_region ?_
        refine gk_y rfl rfl (y_move rfl) ?_
        refine gk_y rfl rfl (y_assign rfl) ?_
        refine gk_nil (gk_sub (T' := [(2,_), (3,_), (5,_), (6,_), (7,_), (19,_), (20,_)]) ⟨rfl, rfl, rfl, rfl, rfl, rfl, rfl, trivial⟩ ?_)
        refine gk_seq ?_
        refine gk_any 20 (fun _ => mixed) (by kernel_rfl) ?_
        refine ph_y (y_loadB1 5 tf132 rfl rfl rfl) ?_
        refine ph_y (y_fieldAddr fo32_0 rfl) ?_
        refine ph_y (y_loadB1 3 tf3 rfl rfl rfl) ?_
        refine ph_y (y_fieldAddr fo32_0 rfl) ?_
        refine ph_y (y_loadB1 0 tf3 rfl rfl rfl) ?_
        refine ph_y (y_move rfl) ?_
        refine ph_y (y_quo rfl rfl (by omega)) ?_
        refine ph_y (y_move rfl) ?_
        refine ph_y (y_mul rfl rfl) ?_
        refine ph_y (y_add rfl rfl) ?_
        refine ph_y (y_fieldAddr fo32_1 rfl) ?_
        refine ph_y (y_loadB1 3 tf3 rfl rfl rfl) ?_
        refine ph_y (y_fieldAddr fo32_1 rfl) ?_
        refine ph_y (y_loadB1 0 tf3 rfl rfl rfl) ?_
        refine ph_y (y_move rfl) ?_
        refine ph_y (y_quo rfl rfl (by omega)) ?_
        refine ph_y (y_move rfl) ?_
        refine ph_y (y_mul rfl rfl) ?_
        refine ph_y (y_add rfl rfl) ?_
        refine ph_y (y_buildL rfl (bd32_0i_1i _ _)) ?_
        refine gk_sub (T' := [(2,_), (3,_), (5,_), (6,_), (19,_), (20,_), (23,_), (42,_)]) ⟨rfl, rfl, rfl, rfl, rfl, rfl, rfl, rfl, trivial⟩ ?_
        refine gk_yield 6 hins rfl rfl rfl rfl (hy _ _ _ (border_get he g0 (by omega)) g2) fun b43 x43 hp43 => ?_
        refine gk_y rfl rfl (y_not rfl) ?_
        refine gk_nil (gk_sub (T' := [(2,_), (3,_), (5,_), (6,_), (19,_), (20,_), (44,_)]) ⟨rfl, rfl, rfl, rfl, rfl, rfl, rfl, trivial⟩ ?_)
        refine gk_cond rfl (fun hc44 => ?_) (fun hc44 => ?_)
        · skip
          refine gk_ret ?_
          refine gk_dropAt 0 rfl ?_
          refine gk_dropAt 1 rfl ?_
          refine gk_dropAt 1 rfl ?_
          exact gk_joined x43 trivial rfl (by have := hp43; rwa [show b43 = false from by simpa using hc44, if_neg Bool.false_ne_true] at this)
        · skip
          refine gk_skip ?_
          refine gk_region ?_
          refine gk_y rfl rfl (y_addI rfl rfl (by omega) (by omega)) ?_
          refine gk_y rfl rfl (y_move rfl) ?_
          refine gk_nil (gk_sub (T' := [(2,_), (3,_), (5,_), (6,_), (19,_), (20,_)]) ⟨rfl, rfl, rfl, rfl, rfl, rfl, trivial⟩ ?_)
          exact gk_next (k + 1, x43) ⟨rfl, rfl, rfl, rfl, rfl, rfl, trivial⟩ rfl ⟨by omega, by omega, by have := hp43; rw [show b43 = true from by simpa using hc44, if_pos rfl] at this; rwa [show preN s.shape n + (k + 1).toNat = preN s.shape n + k.toNat + 1 from by omega]⟩ (by simp only []; omega)
      · simp only [decide_eq_false_iff_not] at hc21
        refine gk_exit rfl ?_
        refine gk_dropAt 0 rfl ?_
        refine gk_dropAt 1 rfl ?_
        refine gk_dropAt 1 rfl ?_
        exact gk_joined x2 trivial rfl (by rw [preN_succ he]; rwa [show k.toNat = stepsN e.1 e.2 from by unfold stepsI at *; omega] at g2)
  · intro Dm x hR
    refine gk_unmark 0 rfl ?_
    refine gk_turns x 2 (rv_none rfl) rfl rfl (.inl (by rw [← preN_all]; exact hR))
  · rintro Dm x hD
    refine gk_unmark 0 rfl ?_
    refine gk_turns x 2 (rv_none rfl) rfl rfl (.inr hD)
  · exact fun _ _ _ _ h => absurd h (by simp)

set_option maxRecDepth 100000 in
set_option maxHeartbeats 1000000 in
theorem appendseq_c (xs : List Pt) (gg : FuncId) (gcap : List Value) (w : World) (hs : Small xs.length) (M : World → Prop) (hM : ∀ w', Ext w w' → M w') (hen : En Tryd.prog gg) (hseq : SeqC Tryd.prog gg gcap (xs.map onePt) M) :
    Calls Tryd.prog 121 #[.slice none 0 0, .func (.func gg) #[] gcap.toArray] w (Gives (fun z : Option Addr × Nat => .slice z.1 xs.length z.2) (fun z => Row z.1 2 z.2 32 encPt xs) w) := by
  refine calls_of_gk (vs := [_, _]) Tryd.func121 rfl rfl (Nat.le_of_ble_eq_true rfl) ?_
  refine gk_seq ?_
  refine gk_region ?_
  refine gk_yx rfl rfl (yx_box (vs := [_]) rfl rfl) fun b2 => ?_
  refine gk_y rfl rfl (y_assign rfl) ?_
  refine gk_nil (gk_sub (T' := [(1,_), (2,_), (4,_)]) ⟨rfl, rfl, rfl, trivial⟩ ?_)
  refine gk_seq ?_
  refine gk_seq ?_
  refine gk_region ?_
  refine gk_y rfl rfl (y_move rfl) ?_
  refine gk_nil (gk_sub (T' := [(2,_), (4,_), (6,_)]) ⟨rfl, rfl, rfl, trivial⟩ ?_)
  refine gk_block ?_
  refine gk_newNil 32 encPt 2 ?_
  refine gk_sub (T' := [(2,_), (4,_), (6,_)]) ⟨rfl, rfl, rfl, trivial⟩ ?_
  refine gk_rangeFunc (X := Option Addr × Nat × List Pt) (fun ⟨b, bc, m⟩ => [Row b 2 bc 32 encPt m, Box b2 [.slice b m.length bc] 31]) (fun n ⟨b, bc, m⟩ => m = xs.take n) (fun ⟨b, bc, m⟩ => False) [] (none, 0, []) rfl hen rfl rfl rfl hseq (fun ⟨b, bc, m⟩ w hw => hM _ hw.base.ext0) (ones_one _) rfl ?_ ?_ ?_ ?_
  · rintro R1 R2 rl U' w' n ⟨b, bc, m⟩ args hget hR hrd hins hbeg
    obtain ⟨p, hp, rfl⟩ := ones_inv hget
    have hlen : m.length ≤ xs.length := by rw [hR, List.length_take]; omega
    refine gk_sub (T' := [(2,_), (7,_)]) ⟨rfl, rfl, trivial⟩ ?_
    refine gk_region ?_
    refine gk_yx rfl rfl (yx_alloc tf32 (zs := [_, _]) rfl) fun b5 => ?_
    refine gk_storeV 0 tf32 rfl rfl (vs := [_, _]) rfl rfl rfl rfl rfl ?_
    refine gk_nil (gk_sub (T' := [(2,_), (5,_)]) ⟨rfl, rfl, trivial⟩ ?_)
    refine gk_front 1 rfl ?_
    refine hbeg _ _ _ ?_
    refine gk_block ?_
    refine gk_region ?_
    refine gk_y rfl rfl (y_loadB1 3 tf31 rfl rfl rfl) ?_
    refine gk_y rfl rfl (y_loadBA 1 tf32 rfl rfl (vs := [_, _]) rfl rfl) ?_
    refine gk_yx rfl rfl (yx_buildSlice rfl (bs31_1 _ _) encPt_ok rfl) fun b10 => ?_
    refine gk_append (m := [⟨p.x, p.z⟩]) 3 af31 encPt_ok rfl rfl rfl rfl (fun _ hw => (has_row encPt_ok (hw.has (p := 0) rfl))) (by first | omega | (simp only [List.length_cons, List.length_nil]; omega)) (by first | (unfold maxLen; omega) | (simp only [List.length_cons, List.length_nil, maxLen]; omega)) fun a11 c11 => ?_
    refine gk_storeV 4 tf31 rfl rfl (vs := [_]) rfl rfl rfl rfl rfl ?_
    refine gk_nil (gk_sub (T' := []) trivial ?_)
    refine gk_dropAt 0 rfl ?_
    refine gk_dropAt 1 rfl ?_
    exact gk_joined (a11, c11, _) trivial rfl (by rw [take_snoc hp, ← hR])
  · rintro Dm ⟨b, bc, m⟩ hR
    obtain rfl : m = xs := by rw [hR]; simp
    refine gk_seq ?_
    refine gk_region ?_
    refine gk_y rfl rfl (y_loadB1 2 tf31 rfl rfl rfl) ?_
    refine gk_y rfl rfl (y_assign rfl) ?_
    refine gk_nil (gk_sub (T' := [(4,_)]) ⟨rfl, trivial⟩ ?_)
    refine gk_ret ?_
    refine gk_unmark 0 rfl ?_
    refine gk_gives (b, bc) 0 (rv_one rfl (r1_tmp rfl)) ?_ rfl
    rfl
  · exact fun _ _ h => h.elim
  · exact fun _ _ _ _ h => absurd h (by simp)

set_option maxRecDepth 100000 in
set_option maxHeartbeats 1000000 in
theorem collect_c (xs : List Pt) (gg : FuncId) (gcap : List Value) (w : World) (hs : Small xs.length) (M : World → Prop) (hM : ∀ w', Ext w w' → M w') (hen : En Tryd.prog gg) (hseq : SeqC Tryd.prog gg gcap (xs.map onePt) M) :
    Calls Tryd.prog 65 #[.func (.func gg) #[] gcap.toArray] w (Gives (fun z : Option Addr × Nat => .slice z.1 xs.length z.2) (fun z => Row z.1 2 z.2 32 encPt xs) w) := by
  refine calls_of_gk (vs := [_]) Tryd.func65 rfl rfl (Nat.le_of_ble_eq_true rfl) ?_
  refine gk_seq ?_
  refine gk_region ?_
  refine gk_y rfl rfl (y_assign rfl) ?_
  refine gk_nil (gk_sub (T' := [(0,_), (2,_)]) ⟨rfl, rfl, trivial⟩ ?_)
  refine gk_seq ?_
  refine gk_region ?_
  refine gk_y rfl rfl (y_move rfl) ?_
  refine gk_yx rfl rfl (yx_call en121 rfl (fun w hw => appendseq_c xs _ _ w (by assumption) M (fun w' hx => hM w' (hw.base.ext0.trans hx)) hen hseq)) fun p4 => ?_
  refine gk_y rfl rfl (y_assign rfl) ?_
  refine gk_nil (gk_sub (T' := [(2,_)]) ⟨rfl, trivial⟩ ?_)
  refine gk_ret ?_
  refine gk_gives p4 0 (rv_one rfl (r1_tmp rfl)) ?_ rfl
  rfl

set_option maxRecDepth 100000 in
set_option maxHeartbeats 1000000 in
theorem Border1_c (a : Option Addr) (cap : Nat) (s : Stn) (b : Nat) (w : World) (hb : Has w (Box b [.string s.name, .slice a s.shape.length cap, .int .i64 s.depth, .int .i64 s.density, .int .i64 s.grain.x, .int .i64 s.grain.z] 34)) (hl : Has w (Pts a s.shape)) (hv : checkI s = 0) :
    Calls Tryd.prog 64 #[.pointer (some ⟨b, 0, none⟩)] w (Gives (fun z : Option Addr × Nat => .slice z.1 (borderL s.shape).length z.2) (fun z => Row z.1 2 z.2 32 encPt (borderL s.shape)) w) := by
  refine calls_of_gk (vs := [_]) Tryd.func64 rfl rfl (Nat.le_of_ble_eq_true rfl) ?_
  refine gk_seq ?_
  refine gk_region ?_
  refine gk_y rfl rfl (y_assign rfl) ?_
  refine gk_nil (gk_sub (T' := [(0,_), (1,_)]) ⟨rfl, rfl, trivial⟩ ?_)
  refine gk_seq ?_
  refine gk_region ?_
  refine gk_y rfl rfl (y_loadA tf34 rfl rfl (fun _ hw => has_box_cells (o := 0) (k := 6) (Rd.has (Has.rd hb) hw) (vs := [_, _, _, _, _, _]) rfl)) ?_
  refine gk_yx rfl rfl (yx_call en66 rfl (fun w hw => border_c _ _ s w)) fun p3 => ?_
  refine gk_yx rfl rfl (yx_call en65 rfl (fun w hw => collect_c (borderL s.shape) _ [_] w (by have := border_len (check_near hv); have := check_len hv; unfold Small; omega) (fun w' => Has w' (Box p3 [.string s.name, .slice a s.shape.length cap, .int .i64 s.depth, .int .i64 s.density, .int .i64 s.grain.x, .int .i64 s.grain.z] 34) ∧ Has w' (Pts a s.shape)) (fun w' hx => ⟨Has.ext (hw.has (p := 0) rfl) hx, Has.ext (Rd.has (Has.rd hl) hw) hx⟩) en122 (border1_c _ _ s p3 (by have := check_len hv; unfold Small; omega) (check_near hv)))) fun p4 => ?_
  refine gk_y rfl rfl (y_assign rfl) ?_
  refine gk_nil (gk_sub (T' := [(1,_)]) ⟨rfl, trivial⟩ ?_)
  refine gk_ret ?_
  refine gk_gives p4 0 (rv_one rfl (r1_tmp rfl)) ?_ rfl
  rfl

set_option maxRecDepth 100000 in
set_option maxHeartbeats 1000000 in
theorem askL_c (a : Option Addr) (cap : Nat) (s : Stn) (gg : FuncId) (gfs gcap : List Value) (r : List Pt) (w : World) (hl : Has w (Pts a s.shape)) (hs : Small s.shape.length) (M : World → Prop) (hM : ∀ w', Ext w w' → M w') (hen : En Tryd.prog gg) (hg : checkI s = 0 → ∀ w', M w' → Calls Tryd.prog gg (gfs ++ [] ++ gcap).toArray w' (Gives (fun z : Option Addr × Nat => .slice z.1 r.length z.2) (fun z => Row z.1 2 z.2 32 encPt r) w')) :
    Calls Tryd.prog 63 #[.agg #[.string s.name, .slice a s.shape.length cap, .int .i64 s.depth, .int .i64 s.density, .int .i64 s.grain.x, .int .i64 s.grain.z], .func (.func gg) gfs.toArray gcap.toArray] w (Gives (fun z : Option Addr × Nat => .tuple #[.slice z.1 (askL s r).length z.2, .int .i64 (checkI s)]) (fun z => Row z.1 2 z.2 32 encPt (askL s r)) w) := by
  refine calls_of_gk (vs := [_, _]) Tryd.func63 rfl rfl (Nat.le_of_ble_eq_true rfl) ?_
  refine gk_seq ?_
  refine gk_region ?_
  refine gk_yx rfl rfl (yx_box (vs := [_, _, _, _, _, _]) rfl rfl) fun b2 => ?_
  refine gk_y rfl rfl (y_assign rfl) ?_
  refine gk_y rfl rfl (y_assign rfl) ?_
  refine gk_nil (gk_sub (T' := [(1,_), (2,_), (4,_), (5,_)]) ⟨rfl, rfl, rfl, rfl, trivial⟩ ?_)
  refine gk_seq ?_
  refine gk_seq ?_
  refine gk_region ?_
  refine gk_y rfl rfl (y_loadBA 0 tf34 rfl rfl (vs := [_, _, _, _, _, _]) rfl rfl) ?_
  refine gk_y rfl rfl (y_call en17 rfl (fun w hw => check_c _ _ s w (Rd.has (Has.rd hl) hw) (by assumption))) ?_
  refine gk_y rfl rfl (y_assign rfl) ?_
  refine gk_nil (gk_sub (T' := [(1,_), (4,_), (5,_), (6,_)]) ⟨rfl, rfl, rfl, rfl, trivial⟩ ?_)
  refine gk_seq ?_
  refine gk_region ?_
  refine gk_y rfl rfl (y_move rfl) ?_
  refine gk_y rfl rfl (y_neq rfl rfl) ?_
  refine gk_nil (gk_sub (T' := [(1,_), (4,_), (5,_), (6,_), (10,_)]) ⟨rfl, rfl, rfl, rfl, rfl, trivial⟩ ?_)
  refine gk_cond rfl (fun hc10 => ?_) (fun hc10 => ?_)
  · have hk : ¬ checkI s = 0 := by simpa using hc10
    refine gk_newNil 32 encPt 2 ?_
    refine gk_seq ?_
    refine gk_region ?_
    refine gk_y rfl rfl (y_move rfl) ?_
    refine gk_y rfl rfl (y_move rfl) ?_
    refine gk_y rfl rfl (y_assign rfl) ?_
    refine gk_y rfl rfl (y_assign rfl) ?_
    refine gk_nil (gk_sub (T' := [(1,_), (4,_), (5,_)]) ⟨rfl, rfl, rfl, trivial⟩ ?_)
    refine gk_ret ?_
    refine gk_gives (none, 0) 0 (rv_two rfl (r1_tmp rfl) (r1_tmp rfl)) ?_ (by simp only [askL, if_neg hk]; rfl)
    simp only [askL, if_neg hk]; rfl
  · have hk : checkI s = 0 := by simpa using hc10
    refine gk_skip ?_
    refine gk_seq ?_
    refine gk_region ?_
    refine gk_y rfl rfl (y_move rfl) ?_
    refine gk_yx rfl rfl (yx_callV (fs := gfs) (cap := gcap) hen rfl rfl (fun w hw => hg hk w (hM _ hw.base.ext0))) fun p14 => ?_
    refine gk_y rfl rfl (y_assign rfl) ?_
    refine gk_y rfl rfl (y_assign rfl) ?_
    refine gk_nil (gk_sub (T' := [(4,_), (5,_)]) ⟨rfl, rfl, trivial⟩ ?_)
    refine gk_ret ?_
    refine gk_gives p14 0 (rv_two rfl (r1_tmp rfl) (r1_tmp rfl)) ?_ (by simp only [askL, if_pos hk]; rfl)
    rw [hk]; simp only [askL, if_pos hk]

set_option maxRecDepth 100000 in
set_option maxHeartbeats 1000000 in
theorem Border_c (a : Option Addr) (cap : Nat) (s : Stn) (w : World) (hl : Has w (Pts a s.shape)) (hs : Small s.shape.length) :
    Calls Tryd.prog 23 #[.agg #[.string s.name, .slice a s.shape.length cap, .int .i64 s.depth, .int .i64 s.density, .int .i64 s.grain.x, .int .i64 s.grain.z]] w (Gives (fun z : Option Addr × Nat => .tuple #[.slice z.1 (askL s (borderL s.shape)).length z.2, .int .i64 (checkI s)]) (fun z => Row z.1 2 z.2 32 encPt (askL s (borderL s.shape))) w) := by
  refine calls_of_gk (vs := [_]) Tryd.func23 rfl rfl (Nat.le_of_ble_eq_true rfl) ?_
  refine gk_seq ?_
  refine gk_region ?_
  refine gk_yx rfl rfl (yx_box (vs := [_, _, _, _, _, _]) rfl rfl) fun b1 => ?_
  refine gk_y rfl rfl (y_assign rfl) ?_
  refine gk_y rfl rfl (y_assign rfl) ?_
  refine gk_nil (gk_sub (T' := [(1,_), (2,_), (3,_)]) ⟨rfl, rfl, rfl, trivial⟩ ?_)
  refine gk_seq ?_
  refine gk_region ?_
  refine gk_y rfl rfl (y_loadBA 0 tf34 rfl rfl (vs := [_, _, _, _, _, _]) rfl rfl) ?_
  refine gk_y rfl rfl (y_makeFunc («as» := []) (bs := [_]) rfl rfl) ?_
  refine gk_yx rfl rfl (yx_call en63 rfl (fun w hw => askL_c _ _ s 64 [] [.pointer (some ⟨b1, 0, none⟩)] (borderL s.shape) w (Rd.has (Has.rd hl) hw) (by assumption) (fun w' => Has w' (Box b1 [.string s.name, .slice a s.shape.length cap, .int .i64 s.depth, .int .i64 s.density, .int .i64 s.grain.x, .int .i64 s.grain.z] 34) ∧ Has w' (Pts a s.shape)) (fun w' hx => ⟨Has.ext (hw.has (p := 0) rfl) hx, Has.ext (Rd.has (Has.rd hl) hw) hx⟩) en64 (fun hv w' hm => Border1_c _ _ s _ w' hm.1 hm.2 hv))) fun p6 => ?_
  refine gk_y rfl rfl (y_extract rfl rfl) ?_
  refine gk_y rfl rfl (y_extract rfl rfl) ?_
  refine gk_y rfl rfl (y_assign rfl) ?_
  refine gk_y rfl rfl (y_assign rfl) ?_
  refine gk_nil (gk_sub (T' := [(2,_), (3,_)]) ⟨rfl, rfl, trivial⟩ ?_)
  refine gk_ret ?_
  refine gk_gives p6 0 (rv_two rfl (r1_tmp rfl) (r1_tmp rfl)) ?_ rfl
  rfl

end Go.Proofs.YtahahmelnaphjaaDoor
