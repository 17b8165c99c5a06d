/- What the proof of the root text leans on, part 3: the layer, plain facts and walks. No statement of the seat is proved in this text. -/
import Derived.Test.YtahahmelnaphjaaDoorRows
import Derived.Test.YtahahmelnaphjaaDoorHl2
namespace Go.Proofs.YtahahmelnaphjaaDoor
open Go.K Go.Stn Go.RowKit
theorem tf4 : TF Tryd.prog 4 false 1 (.bool false) := ⟨by kernel_rfl, by kernel_rfl⟩
theorem en60 : En Tryd.prog 60 := en_of Tryd.func60 (by kernel_rfl) (by kernel_rfl)
theorem en68 : En Tryd.prog 68 := en_of Tryd.func68 (by kernel_rfl) (by kernel_rfl)
theorem en69 : En Tryd.prog 69 := en_of Tryd.func69 (by kernel_rfl) (by kernel_rfl)
theorem en70 : En Tryd.prog 70 := en_of Tryd.func70 (by kernel_rfl) (by kernel_rfl)
theorem en71 : En Tryd.prog 71 := en_of Tryd.func71 (by kernel_rfl) (by kernel_rfl)
theorem en123 : En Tryd.prog 123 := en_of Tryd.func123 (by kernel_rfl) (by kernel_rfl)
theorem bd34_  (w : World) : (Instr.build 34 #[]).run Tryd.prog w = .ok (.agg #[.string ⟨#[]⟩, .slice none 0 0, .int IntKind.i64 0, .int IntKind.i64 0, .int IntKind.i64 0, .int IntKind.i64 0]) w := by kernel_rfl
set_option maxRecDepth 100000 in
set_option maxHeartbeats 1000000 in
theorem edge_c (a : Option Addr) (cap : Nat) (s : Stn) (x : Pt) (w : World) (hl : Has w (Pts a s.shape)) (hs : Small s.shape.length) :
    Calls Tryd.prog 68 #[.agg #[.string s.name, .slice a s.shape.length cap, .int .i64 s.depth, .int .i64 s.density, .int .i64 s.grain.x, .int .i64 s.grain.z], .agg #[.int .i64 x.x, .int .i64 x.z]] w (Pure (.int .i64 (edgeI s.shape x)) w) := by
  refine calls_of_gk (vs := [_, _]) Tryd.func68 rfl rfl (Nat.le_of_ble_eq_true rfl) ?_
  refine gk_seq ?_
  refine gk_region ?_
  refine gk_yx rfl rfl (yx_box (vs := [_, _, _, _, _, _]) rfl rfl) fun b2 => ?_
  refine gk_yx rfl rfl (yx_box (vs := [_, _]) rfl rfl) fun b3 => ?_
  refine gk_yx rfl rfl (yx_alloc tf3 (zs := [_]) rfl) fun b4 => ?_
  refine gk_nil (gk_sub (T' := [(2,_), (3,_), (4,_)]) ⟨rfl, rfl, rfl, trivial⟩ ?_)
  refine gk_seq ?_
  refine gk_seq ?_
  refine gk_any 10 (fun _ => mixed) (by kernel_rfl) ?_
  refine ph_y (y_fieldAddr fo32_0 rfl) ?_
  refine ph_y (y_loadB1 1 tf3 rfl rfl rfl) ?_
  refine ph_y (y_call en55 rfl (fun w hw => within_c _ _ _ w)) ?_
  refine ph_y (y_not rfl) ?_
  refine ph_y (y_move rfl) ?_
  refine ph_gF rfl rfl (fun hgd => by (try rw [hgd]); exact (y_fieldAddr fo32_1 rfl)) ?_
  refine ph_gF rfl rfl (fun hgd => by (try rw [hgd]); exact (y_loadB1 1 tf3 rfl rfl rfl)) ?_
  refine ph_gF rfl rfl (fun hgd => by (try rw [hgd]); exact (y_call (v := .bool (decide (0 ≤ x.z) && decide (x.z ≤ 2000))) en55 rfl (fun w hw => within_c _ _ _ w))) ?_
  refine ph_gF rfl rfl (fun hgd => by (try rw [hgd]); exact (y_not rfl)) ?_
  refine ph_y (y_pickOr rfl rfl rfl) ?_
  refine gk_nil (gk_sub (T' := [(2,_), (3,_), (4,_), (18,_)]) ⟨rfl, rfl, rfl, rfl, trivial⟩ ?_)
  refine gk_cond rfl (fun hc18 => ?_) (fun hc18 => ?_)
  · skip
    refine gk_seq ?_
    refine gk_region ?_
    refine gk_storeV 0 tf3 rfl rfl (vs := [_]) rfl rfl rfl rfl rfl ?_
    refine gk_nil (gk_sub (T' := [(2,_), (3,_), (4,_)]) ⟨rfl, rfl, rfl, trivial⟩ ?_)
    refine gk_ret ?_
    refine gk_pure (rv_one rfl (r1_cell1 (i := 0) tf3 rfl rfl rfl)) ?_
    rw [edgeI, if_pos (show farB x = true from hc18)]
  · skip
    refine gk_skip ?_
    refine gk_seq ?_
    refine gk_region ?_
    refine gk_yx rfl rfl (yx_alloc tf3 (zs := [_]) rfl) fun b5 => ?_
    refine gk_storeV 0 tf3 rfl rfl (vs := [_]) rfl rfl rfl rfl rfl ?_
    refine gk_nil (gk_sub (T' := [(2,_), (3,_), (4,_), (5,_)]) ⟨rfl, rfl, rfl, rfl, trivial⟩ ?_)
    refine gk_seq ?_
    refine gk_seq ?_
    refine gk_region ?_
    refine gk_y rfl rfl (y_fieldAddr fo34_1 rfl) ?_
    refine gk_y rfl rfl (y_loadB1 3 tf31 rfl rfl rfl) ?_
    refine gk_yx rfl rfl (yx_call en82 rfl (fun w hw => edges_c _ _ s.shape w)) fun p21 => ?_
    refine gk_nil (gk_sub (T' := [(3,_), (4,_), (5,_), (21,_)]) ⟨rfl, rfl, rfl, rfl, trivial⟩ ?_)
    refine gk_block ?_
    refine gk_sub (T' := [(3,_), (4,_), (5,_), (21,_)]) ⟨rfl, rfl, rfl, rfl, trivial⟩ ?_
    refine gk_rangeFunc (X := Int × Int) (fun ⟨i, r⟩ => [Box p21 [.slice a s.shape.length cap] 31, Box b5 [.int .i64 i] 3, Box b4 [.int .i64 r] 3, Box b3 [.int .i64 x.x, .int .i64 x.z] 32, Box b2 [.string s.name, .slice a s.shape.length cap, .int .i64 s.depth, .int .i64 s.density, .int .i64 s.grain.x, .int .i64 s.grain.z] 34]) (fun n ⟨i, r⟩ => i = (n : Int) ∧ r = 0 ∧ ∀ j e, j < n → (edgesL s.shape)[j]? = some e → onE x e = false) (fun ⟨i, r⟩ => r = findI (onE x) (edgesL s.shape)) [] (0, 0) rfl en124 rfl rfl ⟨rfl, rfl, fun j e hj => absurd hj (by omega)⟩ (edges1_c _ _ s.shape _ (by assumption)) (fun ⟨i, r⟩ w hw => ⟨hw.has (p := 0) rfl, (Rd.has (Has.rd hl) hw)⟩) (edges_two _) rfl ?_ ?_ ?_ ?_
    · rintro R1 R2 rl U' w' n ⟨i, r⟩ args hget hR hrd hins hbeg
      obtain ⟨e, he, rfl⟩ := edge_inv hget
      obtain ⟨hi1, hr1, hN⟩ := hR
      have hn := edge_n he
      refine gk_sub (T' := [(3,_), (4,_), (5,_), (22,_), (23,_)]) ⟨rfl, rfl, rfl, rfl, rfl, trivial⟩ ?_
      refine gk_seq ?_
      refine gk_region ?_
      refine gk_yx rfl rfl (yx_alloc tf32 (zs := [_, _]) rfl) fun b6 => ?_
      refine gk_storeV 0 tf32 rfl rfl (vs := [_, _]) rfl rfl rfl rfl rfl ?_
      refine gk_nil (gk_sub (T' := [(3,_), (4,_), (5,_), (6,_), (23,_)]) ⟨rfl, rfl, rfl, rfl, rfl, trivial⟩ ?_)
      refine gk_region ?_
      refine gk_yx rfl rfl (yx_alloc tf32 (zs := [_, _]) rfl) fun b7 => ?_
      refine gk_storeV 0 tf32 rfl rfl (vs := [_, _]) rfl rfl rfl rfl rfl ?_
      refine gk_nil (gk_sub (T' := [(3,_), (4,_), (5,_), (6,_), (7,_)]) ⟨rfl, rfl, rfl, rfl, rfl, trivial⟩ ?_)
      refine gk_front 2 rfl ?_
      refine hbeg _ _ _ ?_
      refine gk_block ?_
      refine gk_seq ?_
      refine gk_region ?_
      refine gk_y rfl rfl (y_loadBA 6 tf32 rfl rfl (vs := [_, _]) rfl rfl) ?_
      refine gk_y rfl rfl (y_loadBA 2 tf32 rfl rfl (vs := [_, _]) rfl rfl) ?_
      refine gk_y rfl rfl (y_call en89 rfl (fun w hw => sub_c ⟨_, _⟩ ⟨_, _⟩ w)) ?_
      refine gk_yx rfl rfl (yx_alloc tf32 (zs := [_, _]) rfl) fun b8 => ?_
      refine gk_storeV 0 tf32 rfl rfl (vs := [_, _]) rfl rfl rfl rfl rfl ?_
      refine gk_nil (gk_sub (T' := [(4,_), (5,_), (6,_), (7,_), (8,_)]) ⟨rfl, rfl, rfl, rfl, rfl, trivial⟩ ?_)
      refine gk_seq ?_
      refine gk_seq ?_
      refine gk_any 27 (fun _ => mixed) (by kernel_rfl) ?_
      refine ph_y (y_loadBA 2 tf32 rfl rfl (vs := [_, _]) rfl rfl) ?_
      refine ph_y (y_loadBA 3 tf32 rfl rfl (vs := [_, _]) rfl rfl) ?_
      refine ph_y (y_call en89 rfl (fun w hw => sub_c ⟨_, _⟩ ⟨_, _⟩ w)) ?_
      refine ph_y (y_loadBA 0 tf32 rfl rfl (vs := [_, _]) rfl rfl) ?_
      refine ph_y (y_call en83 rfl (fun w hw => cross_c ⟨_, _⟩ ⟨_, _⟩ w)) ?_
      refine ph_y (y_eql rfl rfl) ?_
      refine ph_y (y_move rfl) ?_
      refine ph_gT rfl rfl (fun hgd => by (try rw [hgd]); exact (y_loadBA 0 tf32 rfl rfl (vs := [_, _]) rfl rfl)) ?_
      refine ph_gT rfl rfl (fun hgd => by (try rw [hgd]); exact (y_loadBA 2 tf32 rfl rfl (vs := [_, _]) rfl rfl)) ?_
      refine ph_gT rfl rfl (fun hgd => by (try rw [hgd]); exact (y_loadBA 3 tf32 rfl rfl (vs := [_, _]) rfl rfl)) ?_
      refine ph_gT rfl rfl (fun hgd => by (try rw [hgd]); exact (y_call (v := .agg #[.int .i64 ((subW e.2 e.1).x), .int .i64 ((subW e.2 e.1).z)]) en89 rfl (fun w hw => sub_c ⟨_, _⟩ ⟨_, _⟩ w))) ?_
      refine ph_gT rfl rfl (fun hgd => by (try rw [hgd]); exact (y_call (v := .int .i64 (dotW (subW x e.1) (subW e.2 e.1))) en123 rfl (fun w hw => dot_c ⟨_, _⟩ ⟨_, _⟩ w))) ?_
      refine ph_gT rfl rfl (fun hgd => by (try rw [hgd]); exact (y_geq rfl rfl)) ?_
      refine ph_y (y_pickAnd rfl rfl rfl) ?_
      refine ph_y (y_move rfl) ?_
      refine ph_gT rfl rfl (fun hgd => by (try rw [hgd]); exact (y_loadBA 0 tf32 rfl rfl (vs := [_, _]) rfl rfl)) ?_
      refine ph_gT rfl rfl (fun hgd => by (try rw [hgd]); exact (y_loadBA 0 tf32 rfl rfl (vs := [_, _]) rfl rfl)) ?_
      refine ph_gT rfl rfl (fun hgd => by (try rw [hgd]); exact (y_call (v := .int .i64 (dotW (subW x e.1) (subW x e.1))) en123 rfl (fun w hw => dot_c ⟨_, _⟩ ⟨_, _⟩ w))) ?_
      refine ph_gT rfl rfl (fun hgd => by (try rw [hgd]); exact (y_loadBA 2 tf32 rfl rfl (vs := [_, _]) rfl rfl)) ?_
      refine ph_gT rfl rfl (fun hgd => by (try rw [hgd]); exact (y_loadBA 3 tf32 rfl rfl (vs := [_, _]) rfl rfl)) ?_
      refine ph_gT rfl rfl (fun hgd => by (try rw [hgd]); exact (y_call (v := .agg #[.int .i64 ((subW e.2 e.1).x), .int .i64 ((subW e.2 e.1).z)]) en89 rfl (fun w hw => sub_c ⟨_, _⟩ ⟨_, _⟩ w))) ?_
      refine ph_gT rfl rfl (fun hgd => by (try rw [hgd]); exact (y_loadBA 2 tf32 rfl rfl (vs := [_, _]) rfl rfl)) ?_
      refine ph_gT rfl rfl (fun hgd => by (try rw [hgd]); exact (y_loadBA 3 tf32 rfl rfl (vs := [_, _]) rfl rfl)) ?_
      refine ph_gT rfl rfl (fun hgd => by (try rw [hgd]); exact (y_call (v := .agg #[.int .i64 ((subW e.2 e.1).x), .int .i64 ((subW e.2 e.1).z)]) en89 rfl (fun w hw => sub_c ⟨_, _⟩ ⟨_, _⟩ w))) ?_
      refine ph_gT rfl rfl (fun hgd => by (try rw [hgd]); exact (y_call (v := .int .i64 (dotW (subW e.2 e.1) (subW e.2 e.1))) en123 rfl (fun w hw => dot_c ⟨_, _⟩ ⟨_, _⟩ w))) ?_
      refine ph_gT rfl rfl (fun hgd => by (try rw [hgd]); exact (y_lss rfl rfl)) ?_
      refine ph_y (y_pickAnd rfl rfl rfl) ?_
      refine gk_nil (gk_sub (T' := [(4,_), (5,_), (53,_)]) ⟨rfl, rfl, rfl, trivial⟩ ?_)
      refine gk_cond rfl (fun hc53 => ?_) (fun hc53 => ?_)
      · skip
        refine gk_seq ?_
        refine gk_region ?_
        refine gk_y rfl rfl (y_loadB1 5 tf3 rfl rfl rfl) ?_
        refine gk_storeV 6 tf3 rfl rfl (vs := [_]) rfl rfl rfl rfl rfl ?_
        refine gk_nil (gk_sub (T' := [(4,_), (5,_)]) ⟨rfl, rfl, trivial⟩ ?_)
        refine gk_ret ?_
        refine gk_dropAt 0 rfl ?_
        refine gk_dropAt 1 rfl ?_
        refine gk_dropAt 1 rfl ?_
        exact gk_joined (i, i) trivial rfl (by show i = _; rw [hi1]; exact (findI_at he hN hc53).symm)
      · skip
        refine gk_skip ?_
        refine gk_region ?_
        refine gk_y rfl rfl (y_loadB1 5 tf3 rfl rfl rfl) ?_
        refine gk_y rfl rfl (y_addI rfl rfl (by omega) (by omega)) ?_
        refine gk_storeV 5 tf3 rfl rfl (vs := [_]) rfl rfl rfl rfl rfl ?_
        refine gk_nil (gk_sub (T' := [(4,_)]) ⟨rfl, trivial⟩ ?_)
        refine gk_dropAt 0 rfl ?_
        refine gk_dropAt 1 rfl ?_
        refine gk_dropAt 1 rfl ?_
        exact gk_joined (i + 1, r) trivial rfl ⟨by omega, hr1, none_succ he hN hc53⟩
    · rintro Dm ⟨i, r⟩ hR
      obtain ⟨hi1, hr1, hN⟩ := hR
      refine gk_seq ?_
      refine gk_region ?_
      refine gk_storeV 3 tf3 rfl rfl (vs := [_]) rfl rfl rfl rfl rfl ?_
      refine gk_nil (gk_sub (T' := [(4,_)]) ⟨rfl, trivial⟩ ?_)
      refine gk_ret ?_
      refine gk_unmark 0 rfl ?_
      refine gk_pure (rv_one rfl (r1_cell1 (i := 2) tf3 rfl rfl rfl)) ?_
      rw [edgeI, if_neg (show ¬ farB x = true by rw [show farB x = false from hc18]; exact Bool.false_ne_true), findI_no (fun j e hj => hN j e (by simpa [edgeVs] using hj))]
    · rintro Dm ⟨i, r⟩ hD
      refine gk_unmark 0 rfl ?_
      refine gk_pure (rv_one rfl (r1_cell1 (i := 2) tf3 rfl rfl rfl)) ?_
      rw [edgeI, if_neg (show ¬ farB x = true by rw [show farB x = false from hc18]; exact Bool.false_ne_true), hD]
    · exact fun _ _ _ _ h => absurd h (by simp)
set_option maxRecDepth 100000 in
set_option maxHeartbeats 1000000 in
theorem apart_c (a : Option Addr) (cap : Nat) (s : Stn) (p q : Pt) (w : World) (hl : Has w (Pts a s.shape)) (hs : Small s.shape.length) :
    Calls Tryd.prog 69 #[.agg #[.string s.name, .slice a s.shape.length cap, .int .i64 s.depth, .int .i64 s.density, .int .i64 s.grain.x, .int .i64 s.grain.z], .agg #[.int .i64 p.x, .int .i64 p.z], .agg #[.int .i64 q.x, .int .i64 q.z]] w (Pure (.bool (apartB s.shape p q)) w) := by
  refine calls_of_gk (vs := [_, _, _]) Tryd.func69 rfl rfl (Nat.le_of_ble_eq_true rfl) ?_
  refine gk_seq ?_
  refine gk_region ?_
  refine gk_yx rfl rfl (yx_box (vs := [_, _, _, _, _, _]) rfl rfl) fun b3 => ?_
  refine gk_yx rfl rfl (yx_box (vs := [_, _]) rfl rfl) fun b4 => ?_
  refine gk_yx rfl rfl (yx_box (vs := [_, _]) rfl rfl) fun b5 => ?_
  refine gk_yx rfl rfl (yx_alloc tf4 (zs := [_]) rfl) fun b6 => ?_
  refine gk_nil (gk_sub (T' := [(3,_), (4,_), (5,_), (6,_)]) ⟨rfl, rfl, rfl, rfl, trivial⟩ ?_)
  refine gk_seq ?_
  refine gk_seq ?_
  refine gk_region ?_
  refine gk_y rfl rfl (y_fieldAddr fo34_1 rfl) ?_
  refine gk_y rfl rfl (y_loadB1 3 tf31 rfl rfl rfl) ?_
  refine gk_yx rfl rfl (yx_call en82 rfl (fun w hw => edges_c _ _ s.shape w)) fun p11 => ?_
  refine gk_nil (gk_sub (T' := [(4,_), (5,_), (6,_), (11,_)]) ⟨rfl, rfl, rfl, rfl, trivial⟩ ?_)
  refine gk_block ?_
  refine gk_sub (T' := [(4,_), (5,_), (6,_), (11,_)]) ⟨rfl, rfl, rfl, rfl, trivial⟩ ?_
  refine gk_rangeFunc (X := Bool) (fun r => [Box p11 [.slice a s.shape.length cap] 31, Box b6 [.bool r] 4, Box b5 [.int .i64 q.x, .int .i64 q.z] 32, Box b4 [.int .i64 p.x, .int .i64 p.z] 32, Box b3 [.string s.name, .slice a s.shape.length cap, .int .i64 s.depth, .int .i64 s.density, .int .i64 s.grain.x, .int .i64 s.grain.z] 34]) (fun n r => r = false ∧ ∀ j e, j < n → (edgesL s.shape)[j]? = some e → both0 p q e = false) (fun r => r = false ∧ apartB s.shape p q = false) [] false rfl en124 rfl rfl ⟨rfl, fun j e hj => absurd hj (by omega)⟩ (edges1_c _ _ s.shape _ (by assumption)) (fun r w hw => ⟨hw.has (p := 0) rfl, (Rd.has (Has.rd hl) hw)⟩) (edges_two _) rfl ?_ ?_ ?_ ?_
  · rintro R1 R2 rl U' w' n r args hget hR hrd hins hbeg
    obtain ⟨e, he, rfl⟩ := edge_inv hget
    obtain ⟨hr1, hN⟩ := hR
    refine gk_sub (T' := [(4,_), (5,_), (6,_), (12,_), (13,_)]) ⟨rfl, rfl, rfl, rfl, rfl, trivial⟩ ?_
    refine gk_seq ?_
    refine gk_region ?_
    refine gk_yx rfl rfl (yx_alloc tf32 (zs := [_, _]) rfl) fun b7 => ?_
    refine gk_storeV 0 tf32 rfl rfl (vs := [_, _]) rfl rfl rfl rfl rfl ?_
    refine gk_nil (gk_sub (T' := [(4,_), (5,_), (6,_), (7,_), (13,_)]) ⟨rfl, rfl, rfl, rfl, rfl, trivial⟩ ?_)
    refine gk_region ?_
    refine gk_yx rfl rfl (yx_alloc tf32 (zs := [_, _]) rfl) fun b8 => ?_
    refine gk_storeV 0 tf32 rfl rfl (vs := [_, _]) rfl rfl rfl rfl rfl ?_
    refine gk_nil (gk_sub (T' := [(4,_), (5,_), (6,_), (7,_), (8,_)]) ⟨rfl, rfl, rfl, rfl, rfl, trivial⟩ ?_)
    refine gk_front 2 rfl ?_
    refine hbeg _ _ _ ?_
    refine gk_block ?_
    refine gk_seq ?_
    refine gk_any 12 (fun _ => mixed) (by kernel_rfl) ?_
    refine ph_y (y_loadBA 2 tf32 rfl rfl (vs := [_, _]) rfl rfl) ?_
    refine ph_y (y_loadBA 1 tf32 rfl rfl (vs := [_, _]) rfl rfl) ?_
    refine ph_y (y_loadBA 6 tf32 rfl rfl (vs := [_, _]) rfl rfl) ?_
    refine ph_y (y_call en108 rfl (fun w hw => turn_c ⟨_, _⟩ ⟨_, _⟩ ⟨_, _⟩ w)) ?_
    refine ph_y (y_eql rfl rfl) ?_
    refine ph_y (y_move rfl) ?_
    refine ph_gT rfl rfl (fun hgd => by (try rw [hgd]); exact (y_loadBA 2 tf32 rfl rfl (vs := [_, _]) rfl rfl)) ?_
    refine ph_gT rfl rfl (fun hgd => by (try rw [hgd]); exact (y_loadBA 1 tf32 rfl rfl (vs := [_, _]) rfl rfl)) ?_
    refine ph_gT rfl rfl (fun hgd => by (try rw [hgd]); exact (y_loadBA 5 tf32 rfl rfl (vs := [_, _]) rfl rfl)) ?_
    refine ph_gT rfl rfl (fun hgd => by (try rw [hgd]); exact (y_call (v := .int .i64 (turnW e.1 e.2 q)) en108 rfl (fun w hw => turn_c ⟨_, _⟩ ⟨_, _⟩ ⟨_, _⟩ w))) ?_
    refine ph_gT rfl rfl (fun hgd => by (try rw [hgd]); exact (y_eql rfl rfl)) ?_
    refine ph_y (y_pickAnd rfl rfl rfl) ?_
    refine gk_nil (gk_sub (T' := [(6,_), (25,_)]) ⟨rfl, rfl, trivial⟩ ?_)
    refine gk_cond rfl (fun hc25 => ?_) (fun hc25 => ?_)
    · skip
      refine gk_seq ?_
      refine gk_region ?_
      refine gk_storeV 4 tf4 rfl rfl (vs := [_]) rfl rfl rfl rfl rfl ?_
      refine gk_nil (gk_sub (T' := [(6,_)]) ⟨rfl, trivial⟩ ?_)
      refine gk_ret ?_
      refine gk_dropAt 1 rfl ?_
      refine gk_dropAt 1 rfl ?_
      exact gk_joined false trivial rfl ⟨rfl, apart_no he hc25⟩
    · skip
      refine gk_skip ?_
      refine gk_dropAt 1 rfl ?_
      refine gk_dropAt 1 rfl ?_
      exact gk_joined r trivial rfl ⟨hr1, none_succ he hN hc25⟩
  · intro Dm r hR
    obtain ⟨hr1, hN⟩ := hR
    refine gk_seq ?_
    refine gk_region ?_
    refine gk_storeV 2 tf4 rfl rfl (vs := [_]) rfl rfl rfl rfl rfl ?_
    refine gk_nil (gk_sub (T' := [(6,_)]) ⟨rfl, trivial⟩ ?_)
    refine gk_ret ?_
    refine gk_unmark 0 rfl ?_
    refine gk_pure (rv_one rfl (r1_cell1 (i := 1) tf4 rfl rfl rfl)) ?_
    rw [apart_yes (fun j e hj => hN j e (by simpa [edgeVs] using hj))]
  · rintro Dm r hD
    refine gk_unmark 0 rfl ?_
    refine gk_pure (rv_one rfl (r1_cell1 (i := 1) tf4 rfl rfl rfl)) ?_
    rw [hD.1, hD.2]
  · exact fun _ _ _ _ h => absurd h (by simp)
set_option maxRecDepth 100000 in
set_option maxHeartbeats 1000000 in
theorem right_c (a : Option Addr) (cap : Nat) (s : Stn) (p q : Pt) (w : World) (hl : Has w (Pts a s.shape)) (hs : Small s.shape.length) (h1 : 0 ≤ edgeI s.shape p) (h2 : 0 ≤ edgeI s.shape q) :
    Calls Tryd.prog 70 #[.agg #[.string s.name, .slice a s.shape.length cap, .int .i64 s.depth, .int .i64 s.density, .int .i64 s.grain.x, .int .i64 s.grain.z], .agg #[.int .i64 p.x, .int .i64 p.z], .agg #[.int .i64 q.x, .int .i64 q.z]] w (Gives (fun z : Option Addr × Nat => .slice z.1 (rightL s.shape p q).length z.2) (fun z => Row z.1 2 z.2 32 encPt (rightL s.shape p q)) w) := by
  have a1 := edge_lt (l := s.shape) (x := p)
  have a2 := edge_lt (l := s.shape) (x := q)
  have a3 := rightT_le h1 h2
  have a4 : 0 < s.shape.length := by omega
  refine calls_of_gk (vs := [_, _, _]) Tryd.func70 rfl rfl (Nat.le_of_ble_eq_true rfl) ?_
  refine gk_seq ?_
  refine gk_region ?_
  refine gk_yx rfl rfl (yx_box (vs := [_, _, _, _, _, _]) rfl rfl) fun b3 => ?_
  refine gk_yx rfl rfl (yx_box (vs := [_, _]) rfl rfl) fun b4 => ?_
  refine gk_yx rfl rfl (yx_box (vs := [_, _]) rfl rfl) fun b5 => ?_
  refine gk_y rfl rfl (y_assign rfl) ?_
  refine gk_nil (gk_sub (T' := [(3,_), (4,_), (5,_), (6,_)]) ⟨rfl, rfl, rfl, rfl, trivial⟩ ?_)
  refine gk_seq ?_
  refine gk_region ?_
  refine gk_y rfl rfl (y_loadBA 1 tf32 rfl rfl (vs := [_, _]) rfl rfl) ?_
  refine gk_yx rfl rfl (yx_buildSlice rfl (bs31_1 _ _) encPt_ok rfl) fun b11 => ?_
  refine gk_y rfl rfl (y_assign rfl) ?_
  refine gk_nil (gk_sub (T' := [(3,_), (4,_), (5,_), (6,_), (7,_)]) ⟨rfl, rfl, rfl, rfl, rfl, trivial⟩ ?_)
  refine gk_seq ?_
  refine gk_region ?_
  refine gk_y rfl rfl (y_loadBA 3 tf34 rfl rfl (vs := [_, _, _, _, _, _]) rfl rfl) ?_
  refine gk_y rfl rfl (y_loadBA 2 tf32 rfl rfl (vs := [_, _]) rfl rfl) ?_
  refine gk_y rfl rfl (y_call en68 rfl (fun w hw => edge_c _ _ s p w (Rd.has (Has.rd hl) hw) (by assumption))) ?_
  refine gk_y rfl rfl (y_addI rfl rfl (by omega) (by omega)) ?_
  refine gk_y rfl rfl (y_assign rfl) ?_
  refine gk_nil (gk_sub (T' := [(3,_), (5,_), (6,_), (7,_), (8,_)]) ⟨rfl, rfl, rfl, rfl, rfl, trivial⟩ ?_)
  refine gk_block ?_
  refine gk_loop (X := Nat × Int × Option Addr × Nat × List Pt) (fun ⟨m, i, b, bc, o⟩ => [(3, .pointer (some ⟨b3, 0, none⟩)), (5, .pointer (some ⟨b5, 0, none⟩)), (6, .slice none 0 0), (7, .slice b o.length bc), (8, .int .i64 i)]) (fun ⟨m, i, b, bc, o⟩ => [Row b 2 bc 32 encPt o, Box b5 [.int .i64 q.x, .int .i64 q.z] 32, Box b4 [.int .i64 p.x, .int .i64 p.z] 32, Box b3 [.string s.name, .slice a s.shape.length cap, .int .i64 s.depth, .int .i64 s.density, .int .i64 s.grain.x, .int .i64 s.grain.z] 34]) (fun ⟨m, i, b, bc, o⟩ => (m ≤ rightT s.shape p q ∧ i = edgeI s.shape p + 1 + (m : Int) ∧ o.length ≤ m + 1 ∧ rightL s.shape p q = o ++ rightN s.shape q (rightT s.shape p q - m) i)) (fun ⟨m, i, b, bc, o⟩ => rightT s.shape p q - m) (0, edgeI s.shape p + 1, (some ⟨b11, 0, none⟩), 1, [p]) ⟨rfl, rfl, rfl, rfl, rfl, trivial⟩ rfl ?_ ?_
  · exact ⟨by omega, by omega, by simp, rfl⟩
  · rintro ⟨m, i, b, bc, o⟩ hI
    obtain ⟨g0, g1, g2, g3⟩ := hI
    refine gk_seq ?_
    refine gk_block ?_
    refine gk_seq ?_
    refine gk_region ?_
    refine gk_y rfl rfl (y_fieldAddr fo34_1 rfl) ?_
    refine gk_y rfl rfl (y_loadB1 3 tf31 rfl rfl rfl) ?_
    refine gk_y rfl rfl (y_move rfl) ?_
    refine gk_y rfl rfl (y_call en90 rfl (fun w hw => at_c _ _ s.shape i w (Rd.has (Has.rd hl) hw) (by assumption) (by omega) (by omega) (by omega))) ?_
    refine gk_yx rfl rfl (yx_alloc tf32 (zs := [_, _]) rfl) fun b9 => ?_
    refine gk_storeV 0 tf32 rfl rfl (vs := [_, _]) rfl rfl rfl rfl rfl ?_
    refine gk_nil (gk_sub (T' := [(3,_), (5,_), (6,_), (7,_), (8,_), (9,_)]) ⟨rfl, rfl, rfl, rfl, rfl, rfl, trivial⟩ ?_)
    refine gk_seq ?_
    refine gk_seq ?_
    refine gk_any 19 (fun _ => mixed) (by kernel_rfl) ?_
    refine ph_y (y_loadBA 0 tf32 rfl rfl (vs := [_, _]) rfl rfl) ?_
    refine ph_y (y_loadBA 2 tf32 rfl rfl (vs := [_, _]) rfl rfl) ?_
    refine ph_y (y_eql32 rfl rfl) ?_
    refine ph_y (y_move rfl) ?_
    refine ph_gF rfl rfl (fun hgd => by (try rw [hgd]); exact (y_loadBA 4 tf34 rfl rfl (vs := [_, _, _, _, _, _]) rfl rfl)) ?_
    refine ph_gF rfl rfl (fun hgd => by (try rw [hgd]); exact (y_loadBA 2 tf32 rfl rfl (vs := [_, _]) rfl rfl)) ?_
    refine ph_gF rfl rfl (fun hgd => by (try rw [hgd]); exact (y_call (v := .int .i64 (edgeI s.shape q)) en68 rfl (fun w hw => edge_c _ _ s q w (Rd.has (Has.rd hl) hw) (by assumption)))) ?_
    refine ph_gF rfl rfl (fun hgd => by (try rw [hgd]); exact (y_move rfl)) ?_
    refine ph_gF rfl rfl (fun hgd => by (try rw [hgd]); exact (y_subI rfl rfl (by omega) (by omega))) ?_
    refine ph_gF rfl rfl (fun hgd => by (try rw [hgd]); exact (y_fieldAddr fo34_1 rfl)) ?_
    refine ph_gF rfl rfl (fun hgd => by (try rw [hgd]); exact (y_loadB1 4 tf31 rfl rfl rfl)) ?_
    refine ph_gF rfl rfl (fun hgd => by (try rw [hgd]); exact (y_lenS (Tryd.underlying31) rfl)) ?_
    refine ph_gF rfl rfl (fun hgd => by (try rw [hgd]); exact (y_addI rfl rfl (by omega) (by omega))) ?_
    refine ph_gF rfl rfl (fun hgd => by (try rw [hgd]); exact (y_fieldAddr fo34_1 rfl)) ?_
    refine ph_gF rfl rfl (fun hgd => by (try rw [hgd]); exact (y_loadB1 4 tf31 rfl rfl rfl)) ?_
    refine ph_gF rfl rfl (fun hgd => by (try rw [hgd]); exact (y_lenS (Tryd.underlying31) rfl)) ?_
    refine ph_gF rfl rfl (fun hgd => by (try rw [hgd]); exact (y_rem rfl rfl (by omega))) ?_
    refine ph_gF rfl rfl (fun hgd => by (try rw [hgd]); exact (y_eql rfl rfl)) ?_
    refine ph_y (y_pickOr rfl rfl rfl) ?_
    refine gk_nil (gk_sub (T' := [(3,_), (5,_), (6,_), (7,_), (8,_), (9,_), (40,_)]) ⟨rfl, rfl, rfl, rfl, rfl, rfl, rfl, trivial⟩ ?_)
    refine gk_cond rfl (fun hc40 => ?_) (fun hc40 => ?_)
    · have hfin := right_stop h1 h2 g0 g1 g3 hc40
      refine gk_seq ?_
      refine gk_region ?_
      refine gk_y rfl rfl (y_move rfl) ?_
      refine gk_y rfl rfl (y_loadBA 2 tf32 rfl rfl (vs := [_, _]) rfl rfl) ?_
      refine gk_yx rfl rfl (yx_buildSlice rfl (bs31_1 _ _) encPt_ok rfl) fun b43 => ?_
      refine gk_append (m := [⟨q.x, q.z⟩]) 2 af31 encPt_ok rfl rfl rfl rfl (fun _ hw => (has_row encPt_ok (hw.has (p := 0) rfl))) (by first | omega | (simp only [List.length_cons, List.length_nil]; omega)) (by first | (unfold maxLen; omega) | (simp only [List.length_cons, List.length_nil, maxLen]; omega)) fun a44 c44 => ?_
      refine gk_y rfl rfl (y_assign rfl) ?_
      refine gk_nil (gk_sub (T' := [(3,_), (5,_), (6,_), (7,_), (8,_), (9,_)]) ⟨rfl, rfl, rfl, rfl, rfl, rfl, trivial⟩ ?_)
      refine gk_ret ?_
      refine gk_gives (a44, c44) 2 (rv_one rfl (r1_tmp rfl)) ?_ (by rw [← hfin]; rfl)
      rw [← hfin]
    · have hgo := right_go h1 h2 g0 g1 g3 hc40
      refine gk_skip ?_
      refine gk_region ?_
      refine gk_y rfl rfl (y_move rfl) ?_
      refine gk_y rfl rfl (y_loadBA 0 tf32 rfl rfl (vs := [_, _]) rfl rfl) ?_
      refine gk_yx rfl rfl (yx_buildSlice rfl (bs31_1 _ _) encPt_ok rfl) fun b47 => ?_
      refine gk_append (m := [⟨((atL s.shape i).x), ((atL s.shape i).z)⟩]) 2 af31 encPt_ok rfl rfl rfl rfl (fun _ hw => (has_row encPt_ok (hw.has (p := 0) rfl))) (by first | omega | (simp only [List.length_cons, List.length_nil]; omega)) (by first | (unfold maxLen; omega) | (simp only [List.length_cons, List.length_nil, maxLen]; omega)) fun a48 c48 => ?_
      refine gk_y rfl rfl (y_assign rfl) ?_
      refine gk_nil (gk_sub (T' := [(3,_), (5,_), (6,_), (7,_), (8,_)]) ⟨rfl, rfl, rfl, rfl, rfl, trivial⟩ ?_)
      refine gk_region ?_
      refine gk_y rfl rfl (y_move rfl) ?_
      refine gk_y rfl rfl (y_addI rfl rfl (by omega) (by omega)) ?_
      refine gk_y rfl rfl (y_assign rfl) ?_
      refine gk_nil (gk_sub (T' := [(3,_), (5,_), (6,_), (7,_), (8,_)]) ⟨rfl, rfl, rfl, rfl, rfl, trivial⟩ ?_)
      refine gk_dropAt 0 rfl ?_
      refine gk_dropAt 0 rfl ?_
      exact gk_next (m + 1, i + 1, a48, c48, _) ⟨rfl, rfl, rfl, rfl, rfl, trivial⟩ rfl ⟨hgo.1, by omega, by rw [List.length_append]; simp only [List.length_cons, List.length_nil]; omega, hgo.2⟩ (by have := hgo.1; simp only []; omega)
set_option maxRecDepth 100000 in
set_option maxHeartbeats 1000000 in
theorem piece_c (a : Option Addr) (cap : Nat) (s : Stn) (c : ByteArray) (a2 : Option Addr) (cap2 : Nat) (l : List Pt) (w : World) (hl2 : Has w (Pts a2 l)) (hs2 : Small l.length) (h0 : 0 < l.length) (hcap : l.length ≤ cap2) (hn : s.name.size + c.size ≤ 4096) :
    Calls Tryd.prog 71 #[.agg #[.string s.name, .slice a s.shape.length cap, .int .i64 s.depth, .int .i64 s.density, .int .i64 s.grain.x, .int .i64 s.grain.z], .string c, .slice a2 l.length cap2] w (Gives (fun z : Option Addr × Nat => stnV (pieceW s c l) z.1 z.2) (fun z => Row z.1 2 z.2 32 encPt (pieceW s c l).shape) w) := by
  refine calls_of_gk (vs := [_, _, _]) Tryd.func71 rfl rfl (Nat.le_of_ble_eq_true rfl) ?_
  refine gk_seq ?_
  refine gk_region ?_
  refine gk_yx rfl rfl (yx_box (vs := [_, _, _, _, _, _]) rfl rfl) fun b3 => ?_
  refine gk_yx rfl rfl (yx_alloc tf34 (zs := [_, _, _, _, _, _]) rfl) fun b6 => ?_
  refine gk_nil (gk_sub (T' := [(1,_), (2,_), (3,_), (6,_)]) ⟨rfl, rfl, rfl, rfl, trivial⟩ ?_)
  refine gk_seq ?_
  refine gk_region ?_
  refine gk_y rfl rfl (y_fieldAddr fo34_0 rfl) ?_
  refine gk_y rfl rfl (y_loadB1 1 tf9 rfl rfl rfl) ?_
  refine gk_y rfl rfl (y_move rfl) ?_
  refine gk_y rfl rfl (y_strAdd rfl rfl (by omega)) ?_
  refine gk_y rfl rfl (y_fieldAddr fo34_0 rfl) ?_
  refine gk_storeV 1 tf9 rfl rfl (vs := [_]) rfl rfl rfl rfl rfl ?_
  refine gk_nil (gk_sub (T' := [(2,_), (3,_), (6,_)]) ⟨rfl, rfl, rfl, trivial⟩ ?_)
  refine gk_seq ?_
  refine gk_region ?_
  refine gk_y rfl rfl (y_move rfl) ?_
  refine gk_yx rfl rfl (yx_call en60 rfl (fun w hw => settled_c _ _ l w (Rd.has (Has.rd hl2) hw) (by assumption) (by assumption) hcap)) fun p13 => ?_
  refine gk_y rfl rfl (y_fieldAddr fo34_1 rfl) ?_
  refine gk_storeV 2 tf31 rfl rfl (vs := [_]) rfl rfl rfl rfl rfl ?_
  refine gk_nil (gk_sub (T' := [(3,_), (6,_)]) ⟨rfl, rfl, trivial⟩ ?_)
  refine gk_seq ?_
  refine gk_region ?_
  refine gk_y rfl rfl (y_loadBA 2 tf34 rfl rfl (vs := [_, _, _, _, _, _]) rfl rfl) ?_
  refine gk_storeV 1 tf34 rfl rfl (vs := [_, _, _, _, _, _]) rfl rfl rfl rfl rfl ?_
  refine gk_nil (gk_sub (T' := [(6,_)]) ⟨rfl, trivial⟩ ?_)
  refine gk_ret ?_
  refine gk_gives p13 0 (rv_one rfl (r1_cellA (i := 1) (vs := [_, _, _, _, _, _]) tf34 rfl rfl rfl rfl)) ?_ rfl
  rfl
set_option maxRecDepth 100000 in
set_option maxHeartbeats 1000000 in
theorem Split_c (a : Option Addr) (cap : Nat) (s : Stn) (p q : Pt) (w : World) (hl : Has w (Pts a s.shape)) (hs : Small s.shape.length) :
    Calls Tryd.prog 26 #[.agg #[.string s.name, .slice a s.shape.length cap, .int .i64 s.depth, .int .i64 s.density, .int .i64 s.grain.x, .int .i64 s.grain.z], .agg #[.int .i64 p.x, .int .i64 p.z], .agg #[.int .i64 q.x, .int .i64 q.z]] w (Gives (fun z : (Option Addr × Nat) × (Option Addr × Nat) => .tuple #[stnV (splitA s p q) z.1.1 z.1.2, stnV (splitB s p q) z.2.1 z.2.2, .int .i64 (splitE s p q)]) (fun z => SepR [Row z.1.1 2 z.1.2 32 encPt (splitA s p q).shape, Row z.2.1 2 z.2.2 32 encPt (splitB s p q).shape]) w) := by
  refine calls_of_gk (vs := [_, _, _]) Tryd.func26 rfl rfl (Nat.le_of_ble_eq_true rfl) ?_
  refine gk_seq ?_
  refine gk_region ?_
  refine gk_yx rfl rfl (yx_box (vs := [_, _, _, _, _, _]) rfl rfl) fun b3 => ?_
  refine gk_yx rfl rfl (yx_box (vs := [_, _]) rfl rfl) fun b4 => ?_
  refine gk_yx rfl rfl (yx_box (vs := [_, _]) rfl rfl) fun b5 => ?_
  refine gk_yx rfl rfl (yx_alloc tf34 (zs := [_, _, _, _, _, _]) rfl) fun b6 => ?_
  refine gk_yx rfl rfl (yx_alloc tf34 (zs := [_, _, _, _, _, _]) rfl) fun b7 => ?_
  refine gk_y rfl rfl (y_assign rfl) ?_
  refine gk_nil (gk_sub (T' := [(3,_), (4,_), (5,_), (6,_), (7,_), (8,_)]) ⟨rfl, rfl, rfl, rfl, rfl, rfl, trivial⟩ ?_)
  refine gk_seq ?_
  refine gk_seq ?_
  refine gk_region ?_
  refine gk_y rfl rfl (y_loadBA 4 tf34 rfl rfl (vs := [_, _, _, _, _, _]) rfl rfl) ?_
  refine gk_y rfl rfl (y_call en17 rfl (fun w hw => check_c _ _ s w (Rd.has (Has.rd hl) hw) (by assumption))) ?_
  refine gk_y rfl rfl (y_assign rfl) ?_
  refine gk_nil (gk_sub (T' := [(3,_), (4,_), (5,_), (6,_), (7,_), (8,_), (9,_)]) ⟨rfl, rfl, rfl, rfl, rfl, rfl, rfl, trivial⟩ ?_)
  refine gk_seq ?_
  refine gk_region ?_
  refine gk_y rfl rfl (y_move rfl) ?_
  refine gk_y rfl rfl (y_neq rfl rfl) ?_
  refine gk_nil (gk_sub (T' := [(3,_), (4,_), (5,_), (6,_), (7,_), (8,_), (9,_), (15,_)]) ⟨rfl, rfl, rfl, rfl, rfl, rfl, rfl, rfl, trivial⟩ ?_)
  refine gk_cond rfl (fun hc15 => ?_) (fun hc15 => ?_)
  · have hk : ¬ checkI s = 0 := by simpa using hc15
    have hE : splitE s p q = checkI s := by rw [splitE, if_pos hk]
    obtain ⟨hA, hB⟩ := split_bad hE hk
    refine gk_newNil 32 encPt 2 ?_
    refine gk_newNil 32 encPt 2 ?_
    refine gk_front 1 rfl ?_
    refine gk_front 1 rfl ?_
    refine gk_pack 2 ?_
    refine gk_seq ?_
    refine gk_region ?_
    refine gk_y rfl rfl (y_buildL (parts := []) rfl bd34_) ?_
    refine gk_y rfl rfl (y_buildL (parts := []) rfl bd34_) ?_
    refine gk_y rfl rfl (y_move rfl) ?_
    refine gk_storeV 2 tf34 rfl rfl (vs := [_, _, _, _, _, _]) rfl rfl rfl rfl rfl ?_
    refine gk_storeV 1 tf34 rfl rfl (vs := [_, _, _, _, _, _]) rfl rfl rfl rfl rfl ?_
    refine gk_y rfl rfl (y_assign rfl) ?_
    refine gk_nil (gk_sub (T' := [(3,_), (4,_), (5,_), (6,_), (7,_), (8,_)]) ⟨rfl, rfl, rfl, rfl, rfl, rfl, trivial⟩ ?_)
    refine gk_ret ?_
    refine gk_gives ((none, 0), (none, 0)) 0 (rv_three rfl (r1_cellA (i := 2) (vs := [_, _, _, _, _, _]) tf34 rfl rfl rfl rfl) (r1_cellA (i := 1) (vs := [_, _, _, _, _, _]) tf34 rfl rfl rfl rfl) (r1_tmp rfl)) ?_ (by rw [hA, hB]; rfl)
    rw [hA, hB, hE]; try rfl
  · have hk : checkI s = 0 := by simpa using hc15
    refine gk_skip ?_
    refine gk_seq ?_
    refine gk_block ?_
    refine gk_seq ?_
    refine gk_any 11 (fun _ => mixed) (by kernel_rfl) ?_
    refine ph_y (y_loadBA 4 tf34 rfl rfl (vs := [_, _, _, _, _, _]) rfl rfl) ?_
    refine ph_y (y_loadBA 3 tf32 rfl rfl (vs := [_, _]) rfl rfl) ?_
    refine ph_y (y_call en68 rfl (fun w hw => edge_c _ _ s p w (Rd.has (Has.rd hl) hw) (by assumption))) ?_
    refine ph_y (y_lss rfl rfl) ?_
    refine ph_y (y_move rfl) ?_
    refine ph_gF rfl rfl (fun hgd => by (try rw [hgd]); exact (y_loadBA 4 tf34 rfl rfl (vs := [_, _, _, _, _, _]) rfl rfl)) ?_
    refine ph_gF rfl rfl (fun hgd => by (try rw [hgd]); exact (y_loadBA 2 tf32 rfl rfl (vs := [_, _]) rfl rfl)) ?_
    refine ph_gF rfl rfl (fun hgd => by (try rw [hgd]); exact (y_call (v := .int .i64 (edgeI s.shape q)) en68 rfl (fun w hw => edge_c _ _ s q w (Rd.has (Has.rd hl) hw) (by assumption)))) ?_
    refine ph_gF rfl rfl (fun hgd => by (try rw [hgd]); exact (y_lss rfl rfl)) ?_
    refine ph_y (y_pickOr rfl rfl rfl) ?_
    refine ph_y (y_assign rfl) ?_
    refine gk_nil (gk_sub (T' := [(3,_), (4,_), (5,_), (6,_), (7,_), (8,_), (19,_)]) ⟨rfl, rfl, rfl, rfl, rfl, rfl, rfl, trivial⟩ ?_)
    refine gk_cond rfl (fun hc19 => ?_) (fun hc19 => ?_)
    · have hE : splitE s p q = 8 := by rw [splitE, if_neg (fun h => h hk), if_pos hc19]
      obtain ⟨hA, hB⟩ := split_bad hE (by decide)
      refine gk_newNil 32 encPt 2 ?_
      refine gk_newNil 32 encPt 2 ?_
      refine gk_front 1 rfl ?_
      refine gk_front 1 rfl ?_
      refine gk_pack 2 ?_
      refine gk_seq ?_
      refine gk_region ?_
      refine gk_y rfl rfl (y_buildL (parts := []) rfl bd34_) ?_
      refine gk_y rfl rfl (y_buildL (parts := []) rfl bd34_) ?_
      refine gk_storeV 2 tf34 rfl rfl (vs := [_, _, _, _, _, _]) rfl rfl rfl rfl rfl ?_
      refine gk_storeV 1 tf34 rfl rfl (vs := [_, _, _, _, _, _]) rfl rfl rfl rfl rfl ?_
      refine gk_y rfl rfl (y_assign rfl) ?_
      refine gk_nil (gk_sub (T' := [(3,_), (4,_), (5,_), (6,_), (7,_), (8,_)]) ⟨rfl, rfl, rfl, rfl, rfl, rfl, trivial⟩ ?_)
      refine gk_ret ?_
      refine gk_gives ((none, 0), (none, 0)) 0 (rv_three rfl (r1_cellA (i := 2) (vs := [_, _, _, _, _, _]) tf34 rfl rfl rfl rfl) (r1_cellA (i := 1) (vs := [_, _, _, _, _, _]) tf34 rfl rfl rfl rfl) (r1_tmp rfl)) ?_ (by rw [hA, hB]; rfl)
      rw [hA, hB, hE]; try rfl
    · have hed : 0 ≤ edgeI s.shape p ∧ 0 ≤ edgeI s.shape q := by simpa using hc19
      have hr1 := rightL_len hed.1 hed.2
      have hr2 := rightL_len hed.2 hed.1
      have hln := check_len hk
      have hnm := check_named hk
      refine gk_seq ?_
      refine gk_region ?_
      refine gk_y rfl rfl (y_loadBA 4 tf34 rfl rfl (vs := [_, _, _, _, _, _]) rfl rfl) ?_
      refine gk_y rfl rfl (y_loadBA 3 tf32 rfl rfl (vs := [_, _]) rfl rfl) ?_
      refine gk_y rfl rfl (y_loadBA 2 tf32 rfl rfl (vs := [_, _]) rfl rfl) ?_
      refine gk_y rfl rfl (y_call en69 rfl (fun w hw => apart_c _ _ s p q w (Rd.has (Has.rd hl) hw) (by assumption))) ?_
      refine gk_y rfl rfl (y_not rfl) ?_
      refine gk_y rfl rfl (y_assign rfl) ?_
      refine gk_nil (gk_sub (T' := [(3,_), (4,_), (5,_), (6,_), (7,_), (8,_), (32,_)]) ⟨rfl, rfl, rfl, rfl, rfl, rfl, rfl, trivial⟩ ?_)
      refine gk_cond rfl (fun hc32 => ?_) (fun hc32 => ?_)
      · have hap : apartB s.shape p q = false := by simpa using hc32
        have hE : splitE s p q = 2 := by rw [splitE, if_neg (fun h => h hk), if_neg (by rw [hc19]; exact Bool.false_ne_true), if_pos hap]
        obtain ⟨hA, hB⟩ := split_bad hE (by decide)
        refine gk_newNil 32 encPt 2 ?_
        refine gk_newNil 32 encPt 2 ?_
        refine gk_front 1 rfl ?_
        refine gk_front 1 rfl ?_
        refine gk_pack 2 ?_
        refine gk_seq ?_
        refine gk_region ?_
        refine gk_y rfl rfl (y_buildL (parts := []) rfl bd34_) ?_
        refine gk_y rfl rfl (y_buildL (parts := []) rfl bd34_) ?_
        refine gk_storeV 2 tf34 rfl rfl (vs := [_, _, _, _, _, _]) rfl rfl rfl rfl rfl ?_
        refine gk_storeV 1 tf34 rfl rfl (vs := [_, _, _, _, _, _]) rfl rfl rfl rfl rfl ?_
        refine gk_y rfl rfl (y_assign rfl) ?_
        refine gk_nil (gk_sub (T' := [(3,_), (4,_), (5,_), (6,_), (7,_), (8,_)]) ⟨rfl, rfl, rfl, rfl, rfl, rfl, trivial⟩ ?_)
        refine gk_ret ?_
        refine gk_gives ((none, 0), (none, 0)) 0 (rv_three rfl (r1_cellA (i := 2) (vs := [_, _, _, _, _, _]) tf34 rfl rfl rfl rfl) (r1_cellA (i := 1) (vs := [_, _, _, _, _, _]) tf34 rfl rfl rfl rfl) (r1_tmp rfl)) ?_ (by rw [hA, hB]; rfl)
        rw [hA, hB, hE]; try rfl
      · have hap : ¬ apartB s.shape p q = false := by simpa using hc32
        refine gk_skip ?_
        refine gk_seq ?_
        refine gk_any 8 (fun _ => mixed) (by kernel_rfl) ?_
        refine ph_y (y_loadBA 4 tf34 rfl rfl (vs := [_, _, _, _, _, _]) rfl rfl) ?_
        refine ph_y (y_loadBA 2 tf32 rfl rfl (vs := [_, _]) rfl rfl) ?_
        refine ph_y (y_loadBA 3 tf32 rfl rfl (vs := [_, _]) rfl rfl) ?_
        refine ph_yx (yx_call en70 rfl (fun w hw => right_c _ _ s q p w (Rd.has (Has.rd hl) hw) (by assumption) (by first | exact hed.1 | exact hed.2) (by first | exact hed.2 | exact hed.1))) ?_
        refine ph_y (y_loadBA 4 tf34 rfl rfl (vs := [_, _, _, _, _, _]) rfl rfl) ?_
        refine ph_y (y_loadBA 3 tf32 rfl rfl (vs := [_, _]) rfl rfl) ?_
        refine ph_y (y_loadBA 2 tf32 rfl rfl (vs := [_, _]) rfl rfl) ?_
        refine ph_yx (fun p43 => yx_call en70 rfl (fun w hw => right_c _ _ s p q w (Rd.has (Has.rd hl) hw) (by assumption) (by first | exact hed.1 | exact hed.2) (by first | exact hed.2 | exact hed.1))) ?_
        intro p47
        intro p43
        refine gk_sub (T' := [(3,_), (6,_), (7,_), (8,_), (43,_), (47,_)]) ⟨rfl, rfl, rfl, rfl, rfl, rfl, trivial⟩ ?_
        refine gk_y rfl rfl (y_assign rfl) ?_
        refine gk_y rfl rfl (y_assign rfl) ?_
        refine gk_nil (gk_sub (T' := [(3,_), (6,_), (7,_), (8,_), (10,_), (11,_)]) ⟨rfl, rfl, rfl, rfl, rfl, rfl, trivial⟩ ?_)
        refine gk_seq ?_
        refine gk_seq ?_
        refine gk_any 12 (fun _ => mixed) (by kernel_rfl) ?_
        refine ph_y (y_fieldAddr fo34_0 rfl) ?_
        refine ph_y (y_loadB1 6 tf9 rfl rfl rfl) ?_
        refine ph_y (y_lenStr (Tryd.underlying9) rfl) ?_
        refine ph_y (y_eql rfl rfl) ?_
        refine ph_y (y_move rfl) ?_
        refine ph_gF rfl rfl (fun hgd => by (try rw [hgd]); exact (y_move rfl)) ?_
        refine ph_gF rfl rfl (fun hgd => by (try rw [hgd]); exact (y_lenS (Tryd.underlying31) rfl)) ?_
        refine ph_gF rfl rfl (fun hgd => by (try rw [hgd]); exact (y_move rfl)) ?_
        refine ph_gF rfl rfl (fun hgd => by (try rw [hgd]); exact (y_lenS (Tryd.underlying31) rfl)) ?_
        refine ph_gF rfl rfl (fun hgd => by (try rw [hgd]); exact (y_max rfl rfl)) ?_
        refine ph_gF rfl rfl (fun hgd => by (try rw [hgd]); exact (y_gtr rfl rfl)) ?_
        refine ph_y (y_pickOr rfl rfl rfl) ?_
        refine gk_nil (gk_sub (T' := [(3,_), (6,_), (7,_), (8,_), (10,_), (11,_), (59,_)]) ⟨rfl, rfl, rfl, rfl, rfl, rfl, rfl, trivial⟩ ?_)
        refine gk_cond rfl (fun hc59 => ?_) (fun hc59 => ?_)
        · have hE : splitE s p q = 5 := by rw [splitE, if_neg (fun h => h hk), if_neg (by rw [hc19]; exact Bool.false_ne_true), if_neg hap, if_pos hc59]
          obtain ⟨hA, hB⟩ := split_bad hE (by decide)
          refine gk_newNil 32 encPt 2 ?_
          refine gk_newNil 32 encPt 2 ?_
          refine gk_front 1 rfl ?_
          refine gk_front 1 rfl ?_
          refine gk_pack 2 ?_
          refine gk_seq ?_
          refine gk_region ?_
          refine gk_y rfl rfl (y_buildL (parts := []) rfl bd34_) ?_
          refine gk_y rfl rfl (y_buildL (parts := []) rfl bd34_) ?_
          refine gk_storeV 4 tf34 rfl rfl (vs := [_, _, _, _, _, _]) rfl rfl rfl rfl rfl ?_
          refine gk_storeV 3 tf34 rfl rfl (vs := [_, _, _, _, _, _]) rfl rfl rfl rfl rfl ?_
          refine gk_y rfl rfl (y_assign rfl) ?_
          refine gk_nil (gk_sub (T' := [(3,_), (6,_), (7,_), (8,_), (10,_), (11,_)]) ⟨rfl, rfl, rfl, rfl, rfl, rfl, trivial⟩ ?_)
          refine gk_ret ?_
          refine gk_gives ((none, 0), (none, 0)) 0 (rv_three rfl (r1_cellA (i := 4) (vs := [_, _, _, _, _, _]) tf34 rfl rfl rfl rfl) (r1_cellA (i := 3) (vs := [_, _, _, _, _, _]) tf34 rfl rfl rfl rfl) (r1_tmp rfl)) ?_ (by rw [hA, hB]; rfl)
          rw [hA, hB, hE]; try rfl
        · have hE : splitE s p q = 0 := by rw [splitE, if_neg (fun h => h hk), if_neg (by rw [hc19]; exact Bool.false_ne_true), if_neg hap, if_neg (by rw [hc59]; exact Bool.false_ne_true)]
          obtain ⟨hA, hB⟩ := split_good hE
          refine gk_skip ?_
          refine gk_seq ?_
          refine gk_any 6 (fun _ => mixed) (by kernel_rfl) ?_
          refine ph_y (y_loadBA 6 tf34 rfl rfl (vs := [_, _, _, _, _, _]) rfl rfl) ?_
          refine ph_y (y_move rfl) ?_
          refine ph_yx (yx_call en71 rfl (fun w hw => piece_c _ _ s _ _ _ (rightL s.shape q p) w (has_row encPt_ok (hw.has (p := 0) rfl)) (by unfold Small; omega) (by omega) (row_cap (hw.has (p := 0) rfl)) (by change s.name.size + 1 ≤ _; omega))) ?_
          refine ph_y (y_loadBA 6 tf34 rfl rfl (vs := [_, _, _, _, _, _]) rfl rfl) ?_
          refine ph_y (y_move rfl) ?_
          refine ph_yx (fun p64 => yx_call en71 rfl (fun w hw => piece_c _ _ s _ _ _ (rightL s.shape p q) w (has_row encPt_ok (hw.has (p := 2) rfl)) (by unfold Small; omega) (by omega) (row_cap (hw.has (p := 2) rfl)) (by change s.name.size + 1 ≤ _; omega))) ?_
          intro p67
          intro p64
          refine gk_sub (T' := [(6,_), (7,_), (8,_), (64,_), (67,_)]) ⟨rfl, rfl, rfl, rfl, rfl, trivial⟩ ?_
          refine gk_storeV 5 tf34 rfl rfl (vs := [_, _, _, _, _, _]) rfl rfl rfl rfl rfl ?_
          refine gk_storeV 4 tf34 rfl rfl (vs := [_, _, _, _, _, _]) rfl rfl rfl rfl rfl ?_
          refine gk_y rfl rfl (y_assign rfl) ?_
          refine gk_nil (gk_sub (T' := [(6,_), (7,_), (8,_)]) ⟨rfl, rfl, rfl, trivial⟩ ?_)
          refine gk_front 1 rfl ?_
          refine gk_front 1 rfl ?_
          refine gk_pack 2 ?_
          refine gk_ret ?_
          refine gk_gives (p64, p67) 0 (rv_three rfl (r1_cellA (i := 4) (vs := [_, _, _, _, _, _]) tf34 rfl rfl rfl rfl) (r1_cellA (i := 3) (vs := [_, _, _, _, _, _]) tf34 rfl rfl rfl rfl) (r1_tmp rfl)) ?_ (by rw [hA, hB]; rfl)
          rw [hA, hB, hE]; try rfl
end Go.Proofs.YtahahmelnaphjaaDoor

namespace Go.Stn
open Go Go.K Go.RowKit
def outB (s : Stn) (p : Pt) (t : Int) (q : Pt) : Bool := apartB s.shape p q && decide (W (100 * max (crossW (subW q p) s.grain) (W (-(crossW (subW q p) s.grain)))) ≤ W (t * max (dotW (subW q p) s.grain) (W (-(dotW (subW q p) s.grain)))))
abbrev rotB (l : List Pt) (i : Int) : List Pt := l.drop (i + 1).toNat ++ l.take i.toNat
def outcomesL (s : Stn) (p : Pt) (t : Int) : List Pt := (rotB (borderL s.shape) (findI (eqB p) (borderL s.shape))).filter (outB s p t)
abbrev outVs (s : Stn) (p : Pt) (t : Int) : List (List Value) := (outcomesL s p t).map onePt
theorem findI_lt {α : Type} (p : α → Bool) {l : List α} (h : 0 ≤ findI p l) : findI p l < (l.length : Int) := by
  unfold findI at *
  split at h
  · rename_i h1
    rw [if_pos h1]
    have : l.findIdx p < l.length := List.findIdx_lt_length_of_exists (by simpa using h1)
    omega
  · omega
theorem rotB_len {l : List Pt} {i : Int} (h0 : 0 ≤ i) (h1 : i < (l.length : Int)) : (rotB l i).length + 1 = l.length := by
  unfold rotB
  simp
  omega
theorem filt_succ {l : List Pt} {f : Pt → Bool} {i : Int} (h0 : 0 ≤ i) (h1 : i < (l.length : Int)) : ((l.take (i + 1).toNat).filter f).length = ((l.take i.toNat).filter f).length + if f (l.getD i.toNat default) = true then 1 else 0 := by
  rw [take_succ h0 h1, List.filter_append, List.length_append]
  congr 1
  rw [List.filter_cons]
  split <;> rfl
theorem filt_get {l : List Pt} {f : Pt → Bool} {i : Int} (h0 : 0 ≤ i) (h1 : i < (l.length : Int)) (hf : f (l.getD i.toNat default) = true) : ((l.filter f).map onePt)[((l.take i.toNat).filter f).length]? = some [ptV (l.getD i.toNat default)] := by
  have hlt : i.toNat < l.length := by omega
  have hl : l.filter f = (l.take i.toNat).filter f ++ (l.getD i.toNat default :: (l.drop (i.toNat + 1)).filter f) := by
    conv => lhs; rw [← List.take_append_drop i.toNat l, List.drop_eq_getElem_cons hlt, List.filter_append]
    rw [List.filter_cons, if_pos (by simpa [hlt] using hf)]
    simp [hlt]
  rw [List.getElem?_map, hl, List.getElem?_append_right (Nat.le_refl _), Nat.sub_self]
  rfl
def struckE (s : Stn) (p : Pt) (t : Int) : Int := if checkI s ≠ 0 then checkI s else if edgeI s.shape p < 0 then 8 else if (decide (0 ≤ t) && decide (t ≤ 100)) = false then 3 else 0
def outL (s : Stn) (p : Pt) (t : Int) : List Pt := if struckE s p t = 0 then outcomesL s p t else []
def flipW (p : Pt) (way : Int) : Pt := if 3 < way then ⟨W (-p.x), p.z⟩ else p
def quartW (p : Pt) (k : Int) : Pt := if k = 0 then p else if k = 1 then ⟨W (-p.z), p.x⟩ else if k = 2 then ⟨W (-p.x), W (-p.z)⟩ else ⟨p.z, W (-p.x)⟩
def moveW (way : Int) (p : Pt) : Pt := quartW (flipW p way) (way.tmod 4)
def turnedL (s : Stn) (way : Int) : List Pt := if 3 < way then (s.shape.map (moveW way)).reverse else s.shape.map (moveW way)
def turnedE (s : Stn) (way : Int) : Int := if checkI s ≠ 0 then checkI s else if (decide (0 ≤ way) && decide (way ≤ 7)) = false then 3 else 0
def turnedS (s : Stn) (way : Int) : Stn := if turnedE s way = 0 then ⟨s.name, settledW (turnedL s way), s.depth, s.density, moveW way s.grain⟩ else zeroS
theorem turned_bad {s : Stn} {way e : Int} (hE : turnedE s way = e) (he : e ≠ 0) : turnedS s way = zeroS := by
  unfold turnedS
  rw [hE, if_neg he]
theorem turned_good {s : Stn} {way : Int} (hE : turnedE s way = 0) : turnedS s way = ⟨s.name, settledW (turnedL s way), s.depth, s.density, moveW way s.grain⟩ := by
  unfold turnedS
  rw [hE, if_pos rfl]
theorem map_take_succ {l : List Pt} {g : Pt → Pt} {i : Int} (h0 : 0 ≤ i) (h1 : i < (l.length : Int)) : (l.take (i + 1).toNat).map g = (l.take i.toNat).map g ++ [g (l.getD i.toNat default)] := by
  rw [take_succ h0 h1, List.map_append]; rfl
end Go.Stn

namespace Go.Proofs.YtahahmelnaphjaaDoor
open Go.K Go.Stn Go.RowKit
theorem en84 : En Tryd.prog 84 := en_of Tryd.func84 (by kernel_rfl) (by kernel_rfl)
theorem en85 : En Tryd.prog 85 := en_of Tryd.func85 (by kernel_rfl) (by kernel_rfl)
theorem en125 : En Tryd.prog 125 := en_of Tryd.func125 (by kernel_rfl) (by kernel_rfl)
set_option maxRecDepth 100000 in
set_option maxHeartbeats 1000000 in
theorem outcomes1_c (a : Option Addr) (cap : Nat) (s : Stn) (p : Pt) (t : Int) (b1 b2 b3 : Nat) (hv : checkI s = 0) (hi : 0 ≤ findI (eqB p) (borderL s.shape)) :
    SeqC Tryd.prog 125 [.pointer (some ⟨b1, 0, none⟩), .pointer (some ⟨b2, 0, none⟩), .pointer (some ⟨b3, 0, none⟩)] (outVs s p t) (fun w => Has w (Box b1 [.string s.name, .slice a s.shape.length cap, .int .i64 s.depth, .int .i64 s.density, .int .i64 s.grain.x, .int .i64 s.grain.z] 34) ∧ Has w (Box b2 [.int .i64 p.x, .int .i64 p.z] 32) ∧ Has w (Box b3 [.int .i64 t] 3) ∧ Has w (Pts a s.shape)) := by
  intro X J Rl D y w B x0 hB hA h0 hM hy
  have hnear := check_near hv
  have hlen := check_len hv
  have hbl := border_len hnear
  have hi2 := findI_lt _ hi
  have hrl : ((borderL s.shape).drop ((findI (eqB p) (borderL s.shape)) + 1).toNat ++ (borderL s.shape).take (findI (eqB p) (borderL s.shape)).toNat).length + 1 = (borderL s.shape).length := rotB_len hi hi2
  have hs : Small s.shape.length := by unfold Small; omega
  refine calls_of_gkB hB hA (vs := [_, _, _, _]) Tryd.func125 rfl rfl (Nat.le_of_ble_eq_true rfl) ?_
  have hmem : ∀ {cz : Cx} {Hz : List Res} {xz : X} {pz : Nat} {w' : World}, Inside (fun k => k < w.heap.size ∧ ¬ B k) w cz → Hz[pz]? = some (J xz) → Hp cz.U cz.w0 Hz w' → (Has w' (Box b1 [.string s.name, .slice a s.shape.length cap, .int .i64 s.depth, .int .i64 s.density, .int .i64 s.grain.x, .int .i64 s.grain.z] 34) ∧ Has w' (Box b2 [.int .i64 p.x, .int .i64 p.z] 32) ∧ Has w' (Box b3 [.int .i64 t] 3) ∧ Has w' (Pts a s.shape)) := fun hin hp hw => by
    obtain ⟨B', q1, q2, q3, q4⟩ := own_of_in hin hp hw
    exact hM _ _ B' q4 q1 q2 q3
  have ins0 := insideB Tryd.prog Tryd.f125.ntmps w B
  refine gk_seq ?_
  refine gk_region ?_
  refine gk_y rfl rfl (y_loadA tf34 rfl rfl (fun _ hw => has_box_cells (o := 0) (k := 6) (hmem ins0 (pz := 0) rfl hw).1 (vs := [_, _, _, _, _, _]) rfl)) ?_
  refine gk_yx rfl rfl (yx_call en66 rfl (fun w hw => border_c _ _ s w)) fun p13 => ?_
  refine gk_yx rfl rfl (yx_call en65 rfl (fun w hw => collect_c (borderL s.shape) _ [_] w (by unfold Small; omega) (fun w' => Has w' (Box p13 [.string s.name, .slice a s.shape.length cap, .int .i64 s.depth, .int .i64 s.density, .int .i64 s.grain.x, .int .i64 s.grain.z] 34) ∧ Has w' (Pts a s.shape)) (fun w' hx => ⟨Has.ext (hw.has (p := 0) rfl) hx, Has.ext (hmem ins0 (pz := 1) rfl hw).2.2.2 hx⟩) en122 (border1_c _ _ s p13 (by unfold Small; omega) hnear))) fun p14 => ?_
  refine gk_y rfl rfl (y_assign rfl) ?_
  refine gk_nil (gk_sub (T' := [(0,_), (1,_), (2,_), (3,_), (5,_)]) ⟨rfl, rfl, rfl, rfl, rfl, trivial⟩ ?_)
  refine gk_seq ?_
  refine gk_region ?_
  refine gk_y rfl rfl (y_move rfl) ?_
  refine gk_y rfl rfl (y_loadA tf32 rfl rfl (fun _ hw => has_box_cells (o := 0) (k := 2) (hmem ins0 (pz := 2) rfl hw).2.1 (vs := [_, _]) rfl)) ?_
  refine gk_y rfl rfl (y_call en119 rfl (fun w hw => index_c _ _ (borderL s.shape) p w (has_row encPt_ok (hw.has (p := 0) rfl)) (by unfold Small; omega))) ?_
  refine gk_y rfl rfl (y_assign rfl) ?_
  refine gk_nil (gk_sub (T' := [(0,_), (1,_), (2,_), (3,_), (5,_), (6,_)]) ⟨rfl, rfl, rfl, rfl, rfl, rfl, trivial⟩ ?_)
  refine gk_with (fun w hw => row_cap (hw.has (p := 0) rfl)) fun hcap => ?_
  refine gk_seq ?_
  refine gk_any 11 (fun _ => mixed) (by kernel_rfl) ?_
  refine ph_y (y_move rfl) ?_
  refine ph_y (y_move rfl) ?_
  refine ph_y (y_addI rfl rfl (by omega) (by omega)) ?_
  refine ph_y (y_sliceLoL se31 rfl rfl (by omega) (by omega)) ?_
  refine ph_y (y_move rfl) ?_
  refine ph_y (y_move rfl) ?_
  refine ph_y (y_sliceHiL se31 rfl rfl (by omega) (by omega) hcap) ?_
  refine ph_yx (yx_buildSlice rfl (bs156_2 _ _ _ _ _ _) encSli_ok rfl) ?_
  refine ph_yx (fun b25 => yx_call en120 rfl (fun w hw => concat2_c _ _ ⟨_, _, _⟩ ⟨_, _, _⟩ w (has_row encSli_ok (hw.has (p := 0) rfl)) (elems_drop (has_row encPt_ok (hw.has (p := 1) rfl)) hcap (by omega)) (elems_take (has_row encPt_ok (hw.has (p := 1) rfl)) (by omega) (by omega)) (by simp only [List.length_drop, List.length_take]; unfold Small; omega))) ?_
  refine ph_y (fun p26 => y_lenS (Tryd.underlying31) rfl) ?_
  refine ph_y (y_move rfl) ?_
  intro p26
  intro b25
  refine gk_nil (gk_sub (T' := [(0,_), (1,_), (2,_), (3,_), (26,_), (27,_), (28,_)]) ⟨rfl, rfl, rfl, rfl, rfl, rfl, rfl, trivial⟩ ?_)
  refine gk_block ?_
  refine gk_loop (X := Int × X) (fun ⟨i, x2⟩ => [(0, .func (.yield y) #[] #[]), (1, .pointer (some ⟨b1, 0, none⟩)), (2, .pointer (some ⟨b2, 0, none⟩)), (3, .pointer (some ⟨b3, 0, none⟩)), (26, .slice p26.1 ((borderL s.shape).drop ((findI (eqB p) (borderL s.shape)) + 1).toNat ++ (borderL s.shape).take (findI (eqB p) (borderL s.shape)).toNat).length p26.2), (27, .int .i64 (((borderL s.shape).drop ((findI (eqB p) (borderL s.shape)) + 1).toNat ++ (borderL s.shape).take (findI (eqB p) (borderL s.shape)).toNat).length : Int)), (28, .int .i64 i)]) (fun ⟨i, x2⟩ => [Row (some ⟨b25, 0, none⟩) 1 2 31 encSli [⟨(subA p14.1 2 ((findI (eqB p) (borderL s.shape)) + 1).toNat p14.2), (p14.2 - ((findI (eqB p) (borderL s.shape)) + 1).toNat), ((borderL s.shape).drop ((findI (eqB p) (borderL s.shape)) + 1).toNat)⟩, ⟨(subA p14.1 2 0 p14.2), p14.2, ((borderL s.shape).take (findI (eqB p) (borderL s.shape)).toNat)⟩], Row p26.1 2 p26.2 32 encPt ((borderL s.shape).drop ((findI (eqB p) (borderL s.shape)) + 1).toNat ++ (borderL s.shape).take (findI (eqB p) (borderL s.shape)).toNat), Row p14.1 2 p14.2 32 encPt (borderL s.shape), Box p13 [.string s.name, .slice a s.shape.length cap, .int .i64 s.depth, .int .i64 s.density, .int .i64 s.grain.x, .int .i64 s.grain.z] 34, J x2]) (fun ⟨i, x2⟩ => (0 ≤ i ∧ i ≤ (((borderL s.shape).drop ((findI (eqB p) (borderL s.shape)) + 1).toNat ++ (borderL s.shape).take (findI (eqB p) (borderL s.shape)).toNat).length : Int) ∧ Rl ((((borderL s.shape).drop ((findI (eqB p) (borderL s.shape)) + 1).toNat ++ (borderL s.shape).take (findI (eqB p) (borderL s.shape)).toNat).take i.toNat).filter (outB s p t)).length x2)) (fun ⟨i, x2⟩ => ((((borderL s.shape).drop ((findI (eqB p) (borderL s.shape)) + 1).toNat ++ (borderL s.shape).take (findI (eqB p) (borderL s.shape)).toNat).length : Int) - i).toNat) (0, x0) ⟨rfl, rfl, rfl, rfl, rfl, rfl, rfl, trivial⟩ rfl ?_ ?_
  · exact ⟨by omega, by omega, h0⟩
  · rintro ⟨i, x2⟩ hI
    obtain ⟨g0, g1, g2⟩ := hI
    refine gk_seq ?_
    refine gk_region ?_
    refine gk_y rfl rfl (y_lss rfl rfl) ?_
    refine gk_nil (gk_sub (T' := [(0,_), (1,_), (2,_), (3,_), (26,_), (27,_), (28,_), (29,_)]) ⟨rfl, rfl, rfl, rfl, rfl, rfl, rfl, rfl, trivial⟩ ?_)
    refine gk_seq ?_
    refine gk_cond rfl (fun hc29 => ?_) (fun hc29 => ?_)
    · simp only [decide_eq_true_eq] at hc29
      refine gk_skip ?_
      refine gk_seq ?_
      refine gk_block ?_
      refine gk_seq ?_
      refine gk_region ?_
      refine gk_y rfl rfl (y_indexE se31 rfl rfl (fun _ hw => (has_row encPt_ok (hw.has (p := 1) rfl))) (by omega) (by omega)) ?_
      refine gk_y rfl rfl (y_loadE (vs := [_, _]) tf32 rfl (fun _ hw => (has_row encPt_ok (hw.has (p := 1) rfl))) (by omega) (by omega) rfl) ?_
      refine gk_yx rfl rfl (yx_alloc tf32 (zs := [_, _]) rfl) fun b8 => ?_
      refine gk_storeV 0 tf32 rfl rfl (vs := [_, _]) rfl rfl rfl rfl rfl ?_
      refine gk_nil (gk_sub (T' := [(0,_), (1,_), (2,_), (3,_), (8,_), (26,_), (27,_), (28,_)]) ⟨rfl, rfl, rfl, rfl, rfl, rfl, rfl, rfl, trivial⟩ ?_)
      refine gk_seq ?_
      refine gk_region ?_
      refine gk_y rfl rfl (y_loadBA 0 tf32 rfl rfl (vs := [_, _]) rfl rfl) ?_
      refine gk_y rfl rfl (y_loadA tf32 rfl rfl (fun _ hw => has_box_cells (o := 0) (k := 2) (hmem ins0 (pz := 5) rfl hw).2.1 (vs := [_, _]) rfl)) ?_
      refine gk_y rfl rfl (y_call en89 rfl (fun w hw => sub_c ⟨_, _⟩ ⟨_, _⟩ w)) ?_
      refine gk_yx rfl rfl (yx_alloc tf32 (zs := [_, _]) rfl) fun b9 => ?_
      refine gk_storeV 0 tf32 rfl rfl (vs := [_, _]) rfl rfl rfl rfl rfl ?_
      refine gk_nil (gk_sub (T' := [(0,_), (1,_), (2,_), (3,_), (8,_), (9,_), (26,_), (27,_), (28,_)]) ⟨rfl, rfl, rfl, rfl, rfl, rfl, rfl, rfl, rfl, trivial⟩ ?_)
      refine gk_seq ?_
      refine gk_any 10 (fun _ => mixed) (by kernel_rfl) ?_
      refine ph_y (y_loadBA 0 tf32 rfl rfl (vs := [_, _]) rfl rfl) ?_
      refine ph_y (y_fieldAddr fo34_4 rfl) ?_
      refine ph_y (y_loadA tf32 rfl rfl (fun _ hw => has_box_cells (o := 4) (k := 2) (hmem ins0 (pz := 6) rfl hw).1 (vs := [_, _]) rfl)) ?_
      refine ph_y (y_call en83 rfl (fun w hw => cross_c ⟨_, _⟩ ⟨_, _⟩ w)) ?_
      refine ph_y (y_loadBA 0 tf32 rfl rfl (vs := [_, _]) rfl rfl) ?_
      refine ph_y (y_fieldAddr fo34_4 rfl) ?_
      refine ph_y (y_loadA tf32 rfl rfl (fun _ hw => has_box_cells (o := 4) (k := 2) (hmem ins0 (pz := 6) rfl hw).1 (vs := [_, _]) rfl)) ?_
      refine ph_y (y_call en123 rfl (fun w hw => dot_c ⟨_, _⟩ ⟨_, _⟩ w)) ?_
      refine ph_y (y_assign rfl) ?_
      refine ph_y (y_assign rfl) ?_
      refine gk_nil (gk_sub (T' := [(0,_), (1,_), (2,_), (3,_), (8,_), (10,_), (11,_), (26,_), (27,_), (28,_)]) ⟨rfl, rfl, rfl, rfl, rfl, rfl, rfl, rfl, rfl, rfl, trivial⟩ ?_)
      refine gk_seq ?_
      refine gk_any 21 (fun _ => mixed) (by kernel_rfl) ?_
      refine ph_y (y_loadA tf34 rfl rfl (fun _ hw => has_box_cells (o := 0) (k := 6) (hmem ins0 (pz := 6) rfl hw).1 (vs := [_, _, _, _, _, _]) rfl)) ?_
      refine ph_y (y_loadA tf32 rfl rfl (fun _ hw => has_box_cells (o := 0) (k := 2) (hmem ins0 (pz := 6) rfl hw).2.1 (vs := [_, _]) rfl)) ?_
      refine ph_y (y_loadBA 1 tf32 rfl rfl (vs := [_, _]) rfl rfl) ?_
      refine ph_y (y_call en69 rfl (fun w hw => apart_c _ _ s p (((borderL s.shape).drop ((findI (eqB p) (borderL s.shape)) + 1).toNat ++ (borderL s.shape).take (findI (eqB p) (borderL s.shape)).toNat).getD (i).toNat default) w (hmem ins0 (pz := 6) rfl hw).2.2.2 (by assumption))) ?_
      refine ph_y (y_move rfl) ?_
      refine ph_gT rfl rfl (fun hgd => by (try rw [hgd]); exact (y_move rfl)) ?_
      refine ph_gT rfl rfl (fun hgd => by (try rw [hgd]); exact (y_move rfl)) ?_
      refine ph_gT rfl rfl (fun hgd => by (try rw [hgd]); exact (y_neg rfl)) ?_
      refine ph_gT rfl rfl (fun hgd => by (try rw [hgd]); exact (y_max rfl rfl)) ?_
      refine ph_gT rfl rfl (fun hgd => by (try rw [hgd]); exact (y_mul rfl rfl)) ?_
      refine ph_gT rfl rfl (fun hgd => by (try rw [hgd]); exact (y_load1 tf3 rfl (fun _ hw => has_box_cell (hmem ins0 (pz := 6) rfl hw).2.2.1 rfl))) ?_
      refine ph_gT rfl rfl (fun hgd => by (try rw [hgd]); exact (y_move rfl)) ?_
      refine ph_gT rfl rfl (fun hgd => by (try rw [hgd]); exact (y_move rfl)) ?_
      refine ph_gT rfl rfl (fun hgd => by (try rw [hgd]); exact (y_neg rfl)) ?_
      refine ph_gT rfl rfl (fun hgd => by (try rw [hgd]); exact (y_max rfl rfl)) ?_
      refine ph_gT rfl rfl (fun hgd => by (try rw [hgd]); exact (y_mul rfl rfl)) ?_
      refine ph_gT rfl rfl (fun hgd => by (try rw [hgd]); exact (y_leq rfl rfl)) ?_
      refine ph_y (y_pickAnd rfl rfl rfl) ?_
      refine ph_y (y_move rfl) ?_
      refine ph_gT rfl rfl (fun hgd => by (try rw [hgd]); exact (y_move rfl)) ?_
      refine ph_gT rfl rfl (fun hgd => by (try rw [hgd]); exact (y_loadBA 1 tf32 rfl rfl (vs := [_, _]) rfl rfl)) ?_
      refine gk_sub (T' := [(0,_), (1,_), (2,_), (3,_), (26,_), (27,_), (28,_), (61,_), (62,_), (63,_)]) ⟨rfl, rfl, rfl, rfl, rfl, rfl, rfl, rfl, rfl, rfl, trivial⟩ ?_
      refine gk_guard rfl rfl rfl rfl (fun hg61 => ?_) (fun hg61 => ?_)
      · replace hg61 : _ = true := hg61
        try rw [hg61]
        refine gk_yield 6 ins0 rfl rfl rfl rfl (hy _ _ _ (filt_get g0 (by omega) (show outB s p t _ = true from hg61)) g2) fun b64 x64 hp64 => ?_
        refine gk_guard rfl rfl rfl rfl (fun _ => ?_) (fun h => absurd h (by decide))
        refine gk_y rfl rfl (y_not rfl) ?_
        refine gk_y rfl rfl (y_pick rfl rfl rfl) ?_
        refine gk_nil (gk_sub (T' := [(0,_), (1,_), (2,_), (3,_), (26,_), (27,_), (28,_), (66,_)]) ⟨rfl, rfl, rfl, rfl, rfl, rfl, rfl, rfl, trivial⟩ ?_)
        refine gk_cond rfl (fun hc66 => ?_) (fun hc66 => ?_)
        · skip
          refine gk_ret ?_
          refine gk_turns x64 6 (rv_none rfl) rfl rfl (.inr (by have := hp64; rwa [show b64 = false from by simpa using hc66, if_neg Bool.false_ne_true] at this))
        · skip
          refine gk_skip ?_
          refine gk_region ?_
          refine gk_y rfl rfl (y_addI rfl rfl (by omega) (by omega)) ?_
          refine gk_y rfl rfl (y_move rfl) ?_
          refine gk_nil (gk_sub (T' := [(0,_), (1,_), (2,_), (3,_), (26,_), (27,_), (28,_)]) ⟨rfl, rfl, rfl, rfl, rfl, rfl, rfl, trivial⟩ ?_)
          refine gk_dropAt 0 rfl ?_
          refine gk_dropAt 0 rfl ?_
          exact gk_next (i + 1, _) ⟨rfl, rfl, rfl, rfl, rfl, rfl, rfl, trivial⟩ rfl (by refine ⟨by omega, by omega, ?_⟩; rw [filt_succ g0 (by omega)]; first | (rw [if_pos (show outB s p t _ = true from hg61)]; have := hp64; rwa [show b64 = true from by simpa using hc66, if_pos rfl] at this) | (rw [if_neg (by rw [show outB s p t _ = false from hg61]; exact Bool.false_ne_true)]; exact g2)) (by simp only []; omega)
      · replace hg61 : _ = false := hg61
        try rw [hg61]
        refine gk_guard rfl rfl rfl rfl (fun h => absurd h (by decide)) (fun _ => ?_)
        refine gk_y rfl rfl (y_pick rfl rfl rfl) ?_
        refine gk_nil (gk_sub (T' := [(0,_), (1,_), (2,_), (3,_), (26,_), (27,_), (28,_), (66,_)]) ⟨rfl, rfl, rfl, rfl, rfl, rfl, rfl, rfl, trivial⟩ ?_)
        refine gk_condF rfl ?_
        refine gk_skip ?_
        refine gk_region ?_
        refine gk_y rfl rfl (y_addI rfl rfl (by omega) (by omega)) ?_
        refine gk_y rfl rfl (y_move rfl) ?_
        refine gk_nil (gk_sub (T' := [(0,_), (1,_), (2,_), (3,_), (26,_), (27,_), (28,_)]) ⟨rfl, rfl, rfl, rfl, rfl, rfl, rfl, trivial⟩ ?_)
        refine gk_dropAt 0 rfl ?_
        refine gk_dropAt 0 rfl ?_
        exact gk_next (i + 1, _) ⟨rfl, rfl, rfl, rfl, rfl, rfl, rfl, trivial⟩ rfl (by refine ⟨by omega, by omega, ?_⟩; rw [filt_succ g0 (by omega)]; first | (rw [if_pos (show outB s p t _ = true from hg61)]; have := hp64; rwa [show b64 = true from by simpa using hc66, if_pos rfl] at this) | (rw [if_neg (by rw [show outB s p t _ = false from hg61]; exact Bool.false_ne_true)]; exact g2)) (by simp only []; omega)
    · simp only [decide_eq_false_iff_not] at hc29
      refine gk_exit rfl ?_
      refine gk_turns x2 4 (rv_none rfl) rfl rfl (.inl (by rw [take_all (by omega)] at g2; rw [show (outVs s p t).length = (outcomesL s p t).length from List.length_map ..]; exact g2))
set_option maxRecDepth 100000 in
set_option maxHeartbeats 1000000 in
theorem outcomes_c (a : Option Addr) (cap : Nat) (s : Stn) (p : Pt) (t : Int) (w : World)  :
    Calls Tryd.prog 85 #[.agg #[.string s.name, .slice a s.shape.length cap, .int .i64 s.depth, .int .i64 s.density, .int .i64 s.grain.x, .int .i64 s.grain.z], .agg #[.int .i64 p.x, .int .i64 p.z], .int .i64 t] w (Gives (fun z : Nat × Nat × Nat => .func (.func 125) #[] #[.pointer (some ⟨z.1, 0, none⟩), .pointer (some ⟨z.2.1, 0, none⟩), .pointer (some ⟨z.2.2, 0, none⟩)]) (fun z => SepR [Box z.1 [.string s.name, .slice a s.shape.length cap, .int .i64 s.depth, .int .i64 s.density, .int .i64 s.grain.x, .int .i64 s.grain.z] 34, Box z.2.1 [.int .i64 p.x, .int .i64 p.z] 32, Box z.2.2 [.int .i64 t] 3]) w) := by
  refine calls_of_gk (vs := [_, _, _]) Tryd.func85 rfl rfl (Nat.le_of_ble_eq_true rfl) ?_
  refine gk_seq ?_
  refine gk_region ?_
  refine gk_yx rfl rfl (yx_box (vs := [_, _, _, _, _, _]) rfl rfl) fun b3 => ?_
  refine gk_yx rfl rfl (yx_box (vs := [_, _]) rfl rfl) fun b4 => ?_
  refine gk_yx rfl rfl (yx_box (vs := [_]) rfl rfl) fun b5 => ?_
  refine gk_y rfl rfl (y_assign rfl) ?_
  refine gk_nil (gk_sub (T' := [(3,_), (4,_), (5,_), (6,_)]) ⟨rfl, rfl, rfl, rfl, trivial⟩ ?_)
  refine gk_seq ?_
  refine gk_region ?_
  refine gk_y rfl rfl (y_makeFunc («as» := []) (bs := [_, _, _]) rfl rfl) ?_
  refine gk_y rfl rfl (y_assign rfl) ?_
  refine gk_nil (gk_sub (T' := [(6,_)]) ⟨rfl, trivial⟩ ?_)
  refine gk_front 1 rfl ?_
  refine gk_front 2 rfl ?_
  refine gk_pack 3 ?_
  refine gk_ret ?_
  refine gk_gives (b3, b4, b5) 0 (rv_one rfl (r1_tmp rfl)) ?_ rfl
  rfl
set_option maxRecDepth 100000 in
set_option maxHeartbeats 1000000 in
theorem struck_c (a : Option Addr) (cap : Nat) (s : Stn) (p : Pt) (t : Int) (w : World) (hl : Has w (Pts a s.shape)) (hs : Small s.shape.length) :
    Calls Tryd.prog 84 #[.agg #[.string s.name, .slice a s.shape.length cap, .int .i64 s.depth, .int .i64 s.density, .int .i64 s.grain.x, .int .i64 s.grain.z], .agg #[.int .i64 p.x, .int .i64 p.z], .int .i64 t] w (Pure (.int .i64 (struckE s p t)) w) := by
  refine calls_of_gk (vs := [_, _, _]) Tryd.func84 rfl rfl (Nat.le_of_ble_eq_true rfl) ?_
  refine gk_seq ?_
  refine gk_region ?_
  refine gk_yx rfl rfl (yx_box (vs := [_, _, _, _, _, _]) rfl rfl) fun b3 => ?_
  refine gk_yx rfl rfl (yx_box (vs := [_, _]) rfl rfl) fun b4 => ?_
  refine gk_y rfl rfl (y_assign rfl) ?_
  refine gk_nil (gk_sub (T' := [(2,_), (3,_), (4,_), (6,_)]) ⟨rfl, rfl, rfl, rfl, trivial⟩ ?_)
  refine gk_seq ?_
  refine gk_seq ?_
  refine gk_region ?_
  refine gk_y rfl rfl (y_loadBA 1 tf34 rfl rfl (vs := [_, _, _, _, _, _]) rfl rfl) ?_
  refine gk_y rfl rfl (y_call en17 rfl (fun w hw => check_c _ _ s w (Rd.has (Has.rd hl) hw) (by assumption))) ?_
  refine gk_y rfl rfl (y_assign rfl) ?_
  refine gk_nil (gk_sub (T' := [(2,_), (3,_), (4,_), (6,_), (7,_)]) ⟨rfl, rfl, rfl, rfl, rfl, trivial⟩ ?_)
  refine gk_seq ?_
  refine gk_region ?_
  refine gk_y rfl rfl (y_move rfl) ?_
  refine gk_y rfl rfl (y_neq rfl rfl) ?_
  refine gk_nil (gk_sub (T' := [(2,_), (3,_), (4,_), (6,_), (7,_), (11,_)]) ⟨rfl, rfl, rfl, rfl, rfl, rfl, trivial⟩ ?_)
  refine gk_cond rfl (fun hc11 => ?_) (fun hc11 => ?_)
  · have hk : ¬ checkI s = 0 := by simpa using hc11
    refine gk_seq ?_
    refine gk_region ?_
    refine gk_y rfl rfl (y_move rfl) ?_
    refine gk_y rfl rfl (y_assign rfl) ?_
    refine gk_nil (gk_sub (T' := [(2,_), (3,_), (4,_), (6,_)]) ⟨rfl, rfl, rfl, rfl, trivial⟩ ?_)
    refine gk_ret ?_
    refine gk_pure (rv_one rfl (r1_tmp rfl)) ?_
    rw [struckE, if_pos hk]
  · have hk : checkI s = 0 := by simpa using hc11
    refine gk_skip ?_
    refine gk_seq ?_
    refine gk_block ?_
    refine gk_seq ?_
    refine gk_region ?_
    refine gk_y rfl rfl (y_loadBA 1 tf34 rfl rfl (vs := [_, _, _, _, _, _]) rfl rfl) ?_
    refine gk_y rfl rfl (y_loadBA 0 tf32 rfl rfl (vs := [_, _]) rfl rfl) ?_
    refine gk_y rfl rfl (y_call en68 rfl (fun w hw => edge_c _ _ s p w (Rd.has (Has.rd hl) hw) (by assumption))) ?_
    refine gk_y rfl rfl (y_lss rfl rfl) ?_
    refine gk_y rfl rfl (y_assign rfl) ?_
    refine gk_nil (gk_sub (T' := [(2,_), (6,_), (13,_)]) ⟨rfl, rfl, rfl, trivial⟩ ?_)
    refine gk_cond rfl (fun hc13 => ?_) (fun hc13 => ?_)
    · have hc13 := of_decide_eq_true hc13
      refine gk_seq ?_
      refine gk_region ?_
      refine gk_y rfl rfl (y_assign rfl) ?_
      refine gk_nil (gk_sub (T' := [(6,_)]) ⟨rfl, trivial⟩ ?_)
      refine gk_ret ?_
      refine gk_pure (rv_one rfl (r1_tmp rfl)) ?_
      rw [struckE, if_neg (fun h => h hk), if_pos hc13]
    · have hc13 := of_decide_eq_false hc13
      refine gk_seq ?_
      refine gk_region ?_
      refine gk_y rfl rfl (y_move rfl) ?_
      refine gk_y rfl rfl (y_call en55 rfl (fun w hw => within_c _ _ _ w)) ?_
      refine gk_y rfl rfl (y_not rfl) ?_
      refine gk_y rfl rfl (y_assign rfl) ?_
      refine gk_nil (gk_sub (T' := [(6,_), (18,_)]) ⟨rfl, rfl, trivial⟩ ?_)
      refine gk_cond rfl (fun hc18 => ?_) (fun hc18 => ?_)
      · skip
        refine gk_seq ?_
        refine gk_region ?_
        refine gk_y rfl rfl (y_assign rfl) ?_
        refine gk_nil (gk_sub (T' := [(6,_)]) ⟨rfl, trivial⟩ ?_)
        refine gk_ret ?_
        refine gk_pure (rv_one rfl (r1_tmp rfl)) ?_
        rw [struckE, if_neg (fun h => h hk), if_neg hc13, if_pos (by simpa only [Bool.not_eq_true'] using hc18)]
      · skip
        refine gk_skip ?_
        refine gk_seq ?_
        refine gk_region ?_
        refine gk_y rfl rfl (y_assign rfl) ?_
        refine gk_nil (gk_sub (T' := [(6,_)]) ⟨rfl, trivial⟩ ?_)
        refine gk_ret ?_
        refine gk_pure (rv_one rfl (r1_tmp rfl)) ?_
        rw [struckE, if_neg (fun h => h hk), if_neg hc13, if_neg (by rw [show (decide (0 ≤ t) && decide (t ≤ 100)) = true from by simpa only [Bool.not_eq_false'] using hc18]; exact fun h => Bool.false_ne_true h.symm)]
theorem outcomes_len {s : Stn} {p : Pt} {t : Int} (hv : checkI s = 0) (hi : 0 ≤ findI (eqB p) (borderL s.shape)) : (outcomesL s p t).length ≤ 24000 := by
  have hnear := check_near hv
  have hlen := check_len hv
  have hbl := border_len hnear
  have h1 := rotB_len hi (findI_lt _ hi)
  have h2 := List.length_filter_le (outB s p t) (rotB (borderL s.shape) (findI (eqB p) (borderL s.shape)))
  unfold outcomesL
  omega
theorem struck_ok {s : Stn} {p : Pt} {t : Int} (h : struckE s p t = 0) : checkI s = 0 := by
  unfold struckE at h
  by_cases hk : checkI s = 0
  · exact hk
  · rw [if_pos hk] at h; exact absurd h hk
set_option maxRecDepth 100000 in
set_option maxHeartbeats 1000000 in
theorem Outcomes_c (a : Option Addr) (cap : Nat) (s : Stn) (p : Pt) (t : Int) (w : World) (hl : Has w (Pts a s.shape)) (hs : Small s.shape.length) (hin : struckE s p t = 0 → 0 ≤ findI (eqB p) (borderL s.shape)) :
    Calls Tryd.prog 35 #[.agg #[.string s.name, .slice a s.shape.length cap, .int .i64 s.depth, .int .i64 s.density, .int .i64 s.grain.x, .int .i64 s.grain.z], .agg #[.int .i64 p.x, .int .i64 p.z], .int .i64 t] w (Gives (fun z : Option Addr × Nat => .tuple #[.slice z.1 (outL s p t).length z.2, .int .i64 (struckE s p t)]) (fun z => Row z.1 2 z.2 32 encPt (outL s p t)) w) := by
  refine calls_of_gk (vs := [_, _, _]) Tryd.func35 rfl rfl (Nat.le_of_ble_eq_true rfl) ?_
  refine gk_seq ?_
  refine gk_region ?_
  refine gk_yx rfl rfl (yx_box (vs := [_, _, _, _, _, _]) rfl rfl) fun b3 => ?_
  refine gk_yx rfl rfl (yx_box (vs := [_, _]) rfl rfl) fun b4 => ?_
  refine gk_y rfl rfl (y_assign rfl) ?_
  refine gk_y rfl rfl (y_assign rfl) ?_
  refine gk_nil (gk_sub (T' := [(2,_), (3,_), (4,_), (6,_), (7,_)]) ⟨rfl, rfl, rfl, rfl, rfl, trivial⟩ ?_)
  refine gk_seq ?_
  refine gk_seq ?_
  refine gk_region ?_
  refine gk_y rfl rfl (y_loadBA 1 tf34 rfl rfl (vs := [_, _, _, _, _, _]) rfl rfl) ?_
  refine gk_y rfl rfl (y_loadBA 0 tf32 rfl rfl (vs := [_, _]) rfl rfl) ?_
  refine gk_y rfl rfl (y_move rfl) ?_
  refine gk_y rfl rfl (y_call en84 rfl (fun w hw => struck_c _ _ s p t w (Rd.has (Has.rd hl) hw) (by assumption))) ?_
  refine gk_y rfl rfl (y_assign rfl) ?_
  refine gk_nil (gk_sub (T' := [(2,_), (3,_), (4,_), (6,_), (7,_), (8,_)]) ⟨rfl, rfl, rfl, rfl, rfl, rfl, trivial⟩ ?_)
  refine gk_seq ?_
  refine gk_region ?_
  refine gk_y rfl rfl (y_move rfl) ?_
  refine gk_y rfl rfl (y_neq rfl rfl) ?_
  refine gk_nil (gk_sub (T' := [(2,_), (3,_), (4,_), (6,_), (7,_), (8,_), (14,_)]) ⟨rfl, rfl, rfl, rfl, rfl, rfl, rfl, trivial⟩ ?_)
  refine gk_cond rfl (fun hc14 => ?_) (fun hc14 => ?_)
  · have hk : ¬ struckE s p t = 0 := by simpa using hc14
    refine gk_newNil 32 encPt 2 ?_
    refine gk_seq ?_
    refine gk_region ?_
    refine gk_y rfl rfl (y_move rfl) ?_
    refine gk_y rfl rfl (y_assign rfl) ?_
    refine gk_y rfl rfl (y_assign rfl) ?_
    refine gk_nil (gk_sub (T' := [(2,_), (3,_), (4,_), (6,_), (7,_)]) ⟨rfl, rfl, rfl, rfl, rfl, trivial⟩ ?_)
    refine gk_ret ?_
    refine gk_gives (none, 0) 0 (rv_two rfl (r1_tmp rfl) (r1_tmp rfl)) ?_ (by simp only [outL, if_neg hk]; rfl)
    simp only [outL, if_neg hk]; rfl
  · have hk : struckE s p t = 0 := by simpa using hc14
    have hv := struck_ok hk
    refine gk_skip ?_
    refine gk_seq ?_
    refine gk_region ?_
    refine gk_y rfl rfl (y_loadBA 1 tf34 rfl rfl (vs := [_, _, _, _, _, _]) rfl rfl) ?_
    refine gk_y rfl rfl (y_loadBA 0 tf32 rfl rfl (vs := [_, _]) rfl rfl) ?_
    refine gk_y rfl rfl (y_move rfl) ?_
    refine gk_yx rfl rfl (yx_call en85 rfl (fun w hw => outcomes_c _ _ s p t w)) fun p19 => gk_split ?_
    refine gk_yx rfl rfl (yx_call en65 rfl (fun w hw => collect_c (outcomesL s p t) _ [_, _, _] w (by have := outcomes_len (t := t) hv (hin hk); unfold Small; omega) (fun w' => Has w' (Box p19.1 [.string s.name, .slice a s.shape.length cap, .int .i64 s.depth, .int .i64 s.density, .int .i64 s.grain.x, .int .i64 s.grain.z] 34) ∧ Has w' (Box p19.2.1 [.int .i64 p.x, .int .i64 p.z] 32) ∧ Has w' (Box p19.2.2 [.int .i64 t] 3) ∧ Has w' (Pts a s.shape)) (fun w' hx => ⟨Has.ext (hw.has (p := 0) rfl) hx, Has.ext (hw.has (p := 1) rfl) hx, Has.ext (hw.has (p := 2) rfl) hx, Has.ext (Rd.has (Has.rd hl) hw) hx⟩) en125 (outcomes1_c _ _ s p t _ _ _ hv (hin hk)))) fun p20 => ?_
    refine gk_y rfl rfl (y_assign rfl) ?_
    refine gk_y rfl rfl (y_assign rfl) ?_
    refine gk_nil (gk_sub (T' := [(6,_), (7,_)]) ⟨rfl, rfl, trivial⟩ ?_)
    refine gk_ret ?_
    refine gk_gives p20 0 (rv_two rfl (r1_tmp rfl) (r1_tmp rfl)) ?_ (by simp only [outL, if_pos hk]; rfl)
    rw [hk]; simp only [outL, if_pos hk]
end Go.Proofs.YtahahmelnaphjaaDoor

namespace Go.Proofs.YtahahmelnaphjaaDoor
open Go.K Go.Stn Go.RowKit
theorem tf90 : TF Tryd.prog 90 false 1 (.nilFunc) := ⟨by kernel_rfl, by kernel_rfl⟩
theorem en58 : En Tryd.prog 58 := en_of Tryd.func58 (by kernel_rfl) (by kernel_rfl)
theorem en59 : En Tryd.prog 59 := en_of Tryd.func59 (by kernel_rfl) (by kernel_rfl)
theorem en173 : En Tryd.prog 173 := en_of Tryd.func173 (by kernel_rfl) (by kernel_rfl)
theorem en174 : En Tryd.prog 174 := en_of Tryd.func174 (by kernel_rfl) (by kernel_rfl)
theorem en175 : En Tryd.prog 175 := en_of Tryd.func175 (by kernel_rfl) (by kernel_rfl)
theorem en176 : En Tryd.prog 176 := en_of Tryd.func176 (by kernel_rfl) (by kernel_rfl)
set_option maxRecDepth 100000 in
set_option maxHeartbeats 1000000 in
theorem ways1_c (p : Pt) (w : World)  :
    Calls Tryd.prog 173 #[.agg #[.int .i64 p.x, .int .i64 p.z]] w (Pure (ptV p) w) := by
  refine calls_of_gk (vs := [_]) Tryd.func173 rfl rfl (Nat.le_of_ble_eq_true rfl) ?_
  refine gk_seq ?_
  refine gk_region ?_
  refine gk_yx rfl rfl (yx_box (vs := [_, _]) rfl rfl) fun b1 => ?_
  refine gk_yx rfl rfl (yx_alloc tf32 (zs := [_, _]) rfl) fun b2 => ?_
  refine gk_nil (gk_sub (T' := [(1,_), (2,_)]) ⟨rfl, rfl, trivial⟩ ?_)
  refine gk_seq ?_
  refine gk_region ?_
  refine gk_y rfl rfl (y_loadBA 1 tf32 rfl rfl (vs := [_, _]) rfl rfl) ?_
  refine gk_storeV 0 tf32 rfl rfl (vs := [_, _]) rfl rfl rfl rfl rfl ?_
  refine gk_nil (gk_sub (T' := [(2,_)]) ⟨rfl, trivial⟩ ?_)
  refine gk_ret ?_
  refine gk_pure (rv_one rfl (r1_cellA (i := 0) (vs := [_, _]) tf32 rfl rfl rfl rfl)) ?_
  rfl
set_option maxRecDepth 100000 in
set_option maxHeartbeats 1000000 in
theorem ways2_c (p : Pt) (w : World)  :
    Calls Tryd.prog 174 #[.agg #[.int .i64 p.x, .int .i64 p.z]] w (Pure (ptV ⟨W (-p.z), p.x⟩) w) := by
  refine calls_of_gk (vs := [_]) Tryd.func174 rfl rfl (Nat.le_of_ble_eq_true rfl) ?_
  refine gk_seq ?_
  refine gk_region ?_
  refine gk_yx rfl rfl (yx_box (vs := [_, _]) rfl rfl) fun b1 => ?_
  refine gk_yx rfl rfl (yx_alloc tf32 (zs := [_, _]) rfl) fun b2 => ?_
  refine gk_nil (gk_sub (T' := [(1,_), (2,_)]) ⟨rfl, rfl, trivial⟩ ?_)
  refine gk_seq ?_
  refine gk_region ?_
  refine gk_y rfl rfl (y_fieldAddr fo32_1 rfl) ?_
  refine gk_y rfl rfl (y_loadB1 1 tf3 rfl rfl rfl) ?_
  refine gk_y rfl rfl (y_neg rfl) ?_
  refine gk_y rfl rfl (y_fieldAddr fo32_0 rfl) ?_
  refine gk_y rfl rfl (y_loadB1 1 tf3 rfl rfl rfl) ?_
  refine gk_y rfl rfl (y_buildL rfl (bd32_0i_1i _ _)) ?_
  refine gk_storeV 0 tf32 rfl rfl (vs := [_, _]) rfl rfl rfl rfl rfl ?_
  refine gk_nil (gk_sub (T' := [(2,_)]) ⟨rfl, trivial⟩ ?_)
  refine gk_ret ?_
  refine gk_pure (rv_one rfl (r1_cellA (i := 0) (vs := [_, _]) tf32 rfl rfl rfl rfl)) ?_
  rfl
set_option maxRecDepth 100000 in
set_option maxHeartbeats 1000000 in
theorem ways3_c (p : Pt) (w : World)  :
    Calls Tryd.prog 175 #[.agg #[.int .i64 p.x, .int .i64 p.z]] w (Pure (ptV ⟨W (-p.x), W (-p.z)⟩) w) := by
  refine calls_of_gk (vs := [_]) Tryd.func175 rfl rfl (Nat.le_of_ble_eq_true rfl) ?_
  refine gk_seq ?_
  refine gk_region ?_
  refine gk_yx rfl rfl (yx_box (vs := [_, _]) rfl rfl) fun b1 => ?_
  refine gk_yx rfl rfl (yx_alloc tf32 (zs := [_, _]) rfl) fun b2 => ?_
  refine gk_nil (gk_sub (T' := [(1,_), (2,_)]) ⟨rfl, rfl, trivial⟩ ?_)
  refine gk_seq ?_
  refine gk_region ?_
  refine gk_y rfl rfl (y_fieldAddr fo32_0 rfl) ?_
  refine gk_y rfl rfl (y_loadB1 1 tf3 rfl rfl rfl) ?_
  refine gk_y rfl rfl (y_neg rfl) ?_
  refine gk_y rfl rfl (y_fieldAddr fo32_1 rfl) ?_
  refine gk_y rfl rfl (y_loadB1 1 tf3 rfl rfl rfl) ?_
  refine gk_y rfl rfl (y_neg rfl) ?_
  refine gk_y rfl rfl (y_buildL rfl (bd32_0i_1i _ _)) ?_
  refine gk_storeV 0 tf32 rfl rfl (vs := [_, _]) rfl rfl rfl rfl rfl ?_
  refine gk_nil (gk_sub (T' := [(2,_)]) ⟨rfl, trivial⟩ ?_)
  refine gk_ret ?_
  refine gk_pure (rv_one rfl (r1_cellA (i := 0) (vs := [_, _]) tf32 rfl rfl rfl rfl)) ?_
  rfl
set_option maxRecDepth 100000 in
set_option maxHeartbeats 1000000 in
theorem ways4_c (p : Pt) (w : World)  :
    Calls Tryd.prog 176 #[.agg #[.int .i64 p.x, .int .i64 p.z]] w (Pure (ptV ⟨p.z, W (-p.x)⟩) w) := by
  refine calls_of_gk (vs := [_]) Tryd.func176 rfl rfl (Nat.le_of_ble_eq_true rfl) ?_
  refine gk_seq ?_
  refine gk_region ?_
  refine gk_yx rfl rfl (yx_box (vs := [_, _]) rfl rfl) fun b1 => ?_
  refine gk_yx rfl rfl (yx_alloc tf32 (zs := [_, _]) rfl) fun b2 => ?_
  refine gk_nil (gk_sub (T' := [(1,_), (2,_)]) ⟨rfl, rfl, trivial⟩ ?_)
  refine gk_seq ?_
  refine gk_region ?_
  refine gk_y rfl rfl (y_fieldAddr fo32_1 rfl) ?_
  refine gk_y rfl rfl (y_loadB1 1 tf3 rfl rfl rfl) ?_
  refine gk_y rfl rfl (y_fieldAddr fo32_0 rfl) ?_
  refine gk_y rfl rfl (y_loadB1 1 tf3 rfl rfl rfl) ?_
  refine gk_y rfl rfl (y_neg rfl) ?_
  refine gk_y rfl rfl (y_buildL rfl (bd32_0i_1i _ _)) ?_
  refine gk_storeV 0 tf32 rfl rfl (vs := [_, _]) rfl rfl rfl rfl rfl ?_
  refine gk_nil (gk_sub (T' := [(2,_)]) ⟨rfl, trivial⟩ ?_)
  refine gk_ret ?_
  refine gk_pure (rv_one rfl (r1_cellA (i := 0) (vs := [_, _]) tf32 rfl rfl rfl rfl)) ?_
  rfl
theorem ae91 : AE Tryd.prog 91 90 4 1 := ⟨Tryd.underlying91, by kernel_rfl⟩
set_option maxRecDepth 100000 in
set_option maxHeartbeats 1000000 in
theorem turned1_0 (p : Pt) (way : Int) (b : Nat) (w : World) (hb : Has w (Box b [.int .i64 way] 3)) (hways : Has w (Elems (some ⟨0, 0, none⟩) 1 encVal [.func (.func 173) #[] #[], .func (.func 174) #[] #[], .func (.func 175) #[] #[], .func (.func 176) #[] #[]])) (hk : way.tmod 4 = 0) :
    Calls Tryd.prog 58 #[.agg #[.int .i64 p.x, .int .i64 p.z], .pointer (some ⟨b, 0, none⟩)] w (Pure (ptV (moveW way p)) w) := by
  refine calls_of_gk (vs := [_, _]) Tryd.func58 rfl rfl (Nat.le_of_ble_eq_true rfl) ?_
  refine gk_seq ?_
  refine gk_region ?_
  refine gk_yx rfl rfl (yx_box (vs := [_, _]) rfl rfl) fun b2 => ?_
  refine gk_yx rfl rfl (yx_alloc tf32 (zs := [_, _]) rfl) fun b3 => ?_
  refine gk_nil (gk_sub (T' := [(1,_), (2,_), (3,_)]) ⟨rfl, rfl, rfl, trivial⟩ ?_)
  refine gk_seq ?_
  refine gk_seq ?_
  refine gk_region ?_
  refine gk_y rfl rfl (y_load1 tf3 rfl (fun _ hw => has_box_cell (Rd.has (Has.rd hb) hw) rfl)) ?_
  refine gk_y rfl rfl (y_gtr rfl rfl) ?_
  refine gk_nil (gk_sub (T' := [(1,_), (2,_), (3,_), (5,_)]) ⟨rfl, rfl, rfl, rfl, trivial⟩ ?_)
  refine gk_cond rfl (fun hc5 => ?_) (fun hc5 => ?_)
  · have hc5 := of_decide_eq_true hc5
    refine gk_region ?_
    refine gk_y rfl rfl (y_fieldAddr fo32_0 rfl) ?_
    refine gk_y rfl rfl (y_loadB1 1 tf3 rfl rfl rfl) ?_
    refine gk_y rfl rfl (y_neg rfl) ?_
    refine gk_y rfl rfl (y_fieldAddr fo32_0 rfl) ?_
    refine gk_storeV 1 tf3 rfl rfl (vs := [_]) rfl rfl rfl rfl rfl ?_
    refine gk_nil (gk_sub (T' := [(1,_), (2,_), (3,_)]) ⟨rfl, rfl, rfl, trivial⟩ ?_)
    refine gk_seq ?_
    refine gk_any 6 (fun _ => mixed) (by kernel_rfl) ?_
    refine ph_y (y_load1 tf3 rfl (fun _ hw => has_box_cell (Rd.has (Has.rd hb) hw) rfl)) ?_
    refine ph_y (y_rem rfl rfl (by decide)) ?_
    refine ph_y (y_indexA 0 ae91 rfl rfl hk (by decide)) ?_
    refine ph_y (y_load1 tf90 rfl (fun _ hw => elems_cell (i := 0) (Rd.has (Has.rd hways) hw) rfl)) ?_
    refine ph_y (y_loadBA 1 tf32 rfl rfl (vs := [_, _]) rfl rfl) ?_
    refine ph_y (y_callV (fs := []) (cap := []) en173 rfl rfl (fun w hw => ways1_c (⟨(IntKind.i64.wrap (-p.x)), p.z⟩ : Pt) w)) ?_
    refine gk_sub (T' := [(3,_), (15,_)]) ⟨rfl, rfl, trivial⟩ ?_
    refine gk_storeV 0 tf32 rfl rfl (vs := [_, _]) rfl rfl rfl rfl rfl ?_
    refine gk_nil (gk_sub (T' := [(3,_)]) ⟨rfl, trivial⟩ ?_)
    refine gk_ret ?_
    refine gk_pure (rv_one rfl (r1_cellA (i := 0) (vs := [_, _]) tf32 rfl rfl rfl rfl)) ?_
    simp only [moveW, flipW, quartW, hk, if_pos hc5]; rfl
  · have hc5 := of_decide_eq_false hc5
    refine gk_skip ?_
    refine gk_seq ?_
    refine gk_any 6 (fun _ => mixed) (by kernel_rfl) ?_
    refine ph_y (y_load1 tf3 rfl (fun _ hw => has_box_cell (Rd.has (Has.rd hb) hw) rfl)) ?_
    refine ph_y (y_rem rfl rfl (by decide)) ?_
    refine ph_y (y_indexA 0 ae91 rfl rfl hk (by decide)) ?_
    refine ph_y (y_load1 tf90 rfl (fun _ hw => elems_cell (i := 0) (Rd.has (Has.rd hways) hw) rfl)) ?_
    refine ph_y (y_loadBA 1 tf32 rfl rfl (vs := [_, _]) rfl rfl) ?_
    refine ph_y (y_callV (fs := []) (cap := []) en173 rfl rfl (fun w hw => ways1_c p w)) ?_
    refine gk_sub (T' := [(3,_), (15,_)]) ⟨rfl, rfl, trivial⟩ ?_
    refine gk_storeV 0 tf32 rfl rfl (vs := [_, _]) rfl rfl rfl rfl rfl ?_
    refine gk_nil (gk_sub (T' := [(3,_)]) ⟨rfl, trivial⟩ ?_)
    refine gk_ret ?_
    refine gk_pure (rv_one rfl (r1_cellA (i := 0) (vs := [_, _]) tf32 rfl rfl rfl rfl)) ?_
    simp only [moveW, flipW, quartW, hk, if_neg hc5]; rfl
set_option maxRecDepth 100000 in
set_option maxHeartbeats 1000000 in
theorem turned1_1 (p : Pt) (way : Int) (b : Nat) (w : World) (hb : Has w (Box b [.int .i64 way] 3)) (hways : Has w (Elems (some ⟨0, 0, none⟩) 1 encVal [.func (.func 173) #[] #[], .func (.func 174) #[] #[], .func (.func 175) #[] #[], .func (.func 176) #[] #[]])) (hk : way.tmod 4 = 1) :
    Calls Tryd.prog 58 #[.agg #[.int .i64 p.x, .int .i64 p.z], .pointer (some ⟨b, 0, none⟩)] w (Pure (ptV (moveW way p)) w) := by
  refine calls_of_gk (vs := [_, _]) Tryd.func58 rfl rfl (Nat.le_of_ble_eq_true rfl) ?_
  refine gk_seq ?_
  refine gk_region ?_
  refine gk_yx rfl rfl (yx_box (vs := [_, _]) rfl rfl) fun b2 => ?_
  refine gk_yx rfl rfl (yx_alloc tf32 (zs := [_, _]) rfl) fun b3 => ?_
  refine gk_nil (gk_sub (T' := [(1,_), (2,_), (3,_)]) ⟨rfl, rfl, rfl, trivial⟩ ?_)
  refine gk_seq ?_
  refine gk_seq ?_
  refine gk_region ?_
  refine gk_y rfl rfl (y_load1 tf3 rfl (fun _ hw => has_box_cell (Rd.has (Has.rd hb) hw) rfl)) ?_
  refine gk_y rfl rfl (y_gtr rfl rfl) ?_
  refine gk_nil (gk_sub (T' := [(1,_), (2,_), (3,_), (5,_)]) ⟨rfl, rfl, rfl, rfl, trivial⟩ ?_)
  refine gk_cond rfl (fun hc5 => ?_) (fun hc5 => ?_)
  · have hc5 := of_decide_eq_true hc5
    refine gk_region ?_
    refine gk_y rfl rfl (y_fieldAddr fo32_0 rfl) ?_
    refine gk_y rfl rfl (y_loadB1 1 tf3 rfl rfl rfl) ?_
    refine gk_y rfl rfl (y_neg rfl) ?_
    refine gk_y rfl rfl (y_fieldAddr fo32_0 rfl) ?_
    refine gk_storeV 1 tf3 rfl rfl (vs := [_]) rfl rfl rfl rfl rfl ?_
    refine gk_nil (gk_sub (T' := [(1,_), (2,_), (3,_)]) ⟨rfl, rfl, rfl, trivial⟩ ?_)
    refine gk_seq ?_
    refine gk_any 6 (fun _ => mixed) (by kernel_rfl) ?_
    refine ph_y (y_load1 tf3 rfl (fun _ hw => has_box_cell (Rd.has (Has.rd hb) hw) rfl)) ?_
    refine ph_y (y_rem rfl rfl (by decide)) ?_
    refine ph_y (y_indexA 1 ae91 rfl rfl hk (by decide)) ?_
    refine ph_y (y_load1 tf90 rfl (fun _ hw => elems_cell (i := 1) (Rd.has (Has.rd hways) hw) rfl)) ?_
    refine ph_y (y_loadBA 1 tf32 rfl rfl (vs := [_, _]) rfl rfl) ?_
    refine ph_y (y_callV (fs := []) (cap := []) en174 rfl rfl (fun w hw => ways2_c (⟨(IntKind.i64.wrap (-p.x)), p.z⟩ : Pt) w)) ?_
    refine gk_sub (T' := [(3,_), (15,_)]) ⟨rfl, rfl, trivial⟩ ?_
    refine gk_storeV 0 tf32 rfl rfl (vs := [_, _]) rfl rfl rfl rfl rfl ?_
    refine gk_nil (gk_sub (T' := [(3,_)]) ⟨rfl, trivial⟩ ?_)
    refine gk_ret ?_
    refine gk_pure (rv_one rfl (r1_cellA (i := 0) (vs := [_, _]) tf32 rfl rfl rfl rfl)) ?_
    simp only [moveW, flipW, quartW, hk, if_pos hc5]; rfl
  · have hc5 := of_decide_eq_false hc5
    refine gk_skip ?_
    refine gk_seq ?_
    refine gk_any 6 (fun _ => mixed) (by kernel_rfl) ?_
    refine ph_y (y_load1 tf3 rfl (fun _ hw => has_box_cell (Rd.has (Has.rd hb) hw) rfl)) ?_
    refine ph_y (y_rem rfl rfl (by decide)) ?_
    refine ph_y (y_indexA 1 ae91 rfl rfl hk (by decide)) ?_
    refine ph_y (y_load1 tf90 rfl (fun _ hw => elems_cell (i := 1) (Rd.has (Has.rd hways) hw) rfl)) ?_
    refine ph_y (y_loadBA 1 tf32 rfl rfl (vs := [_, _]) rfl rfl) ?_
    refine ph_y (y_callV (fs := []) (cap := []) en174 rfl rfl (fun w hw => ways2_c p w)) ?_
    refine gk_sub (T' := [(3,_), (15,_)]) ⟨rfl, rfl, trivial⟩ ?_
    refine gk_storeV 0 tf32 rfl rfl (vs := [_, _]) rfl rfl rfl rfl rfl ?_
    refine gk_nil (gk_sub (T' := [(3,_)]) ⟨rfl, trivial⟩ ?_)
    refine gk_ret ?_
    refine gk_pure (rv_one rfl (r1_cellA (i := 0) (vs := [_, _]) tf32 rfl rfl rfl rfl)) ?_
    simp only [moveW, flipW, quartW, hk, if_neg hc5]; rfl
set_option maxRecDepth 100000 in
set_option maxHeartbeats 1000000 in
theorem turned1_2 (p : Pt) (way : Int) (b : Nat) (w : World) (hb : Has w (Box b [.int .i64 way] 3)) (hways : Has w (Elems (some ⟨0, 0, none⟩) 1 encVal [.func (.func 173) #[] #[], .func (.func 174) #[] #[], .func (.func 175) #[] #[], .func (.func 176) #[] #[]])) (hk : way.tmod 4 = 2) :
    Calls Tryd.prog 58 #[.agg #[.int .i64 p.x, .int .i64 p.z], .pointer (some ⟨b, 0, none⟩)] w (Pure (ptV (moveW way p)) w) := by
  refine calls_of_gk (vs := [_, _]) Tryd.func58 rfl rfl (Nat.le_of_ble_eq_true rfl) ?_
  refine gk_seq ?_
  refine gk_region ?_
  refine gk_yx rfl rfl (yx_box (vs := [_, _]) rfl rfl) fun b2 => ?_
  refine gk_yx rfl rfl (yx_alloc tf32 (zs := [_, _]) rfl) fun b3 => ?_
  refine gk_nil (gk_sub (T' := [(1,_), (2,_), (3,_)]) ⟨rfl, rfl, rfl, trivial⟩ ?_)
  refine gk_seq ?_
  refine gk_seq ?_
  refine gk_region ?_
  refine gk_y rfl rfl (y_load1 tf3 rfl (fun _ hw => has_box_cell (Rd.has (Has.rd hb) hw) rfl)) ?_
  refine gk_y rfl rfl (y_gtr rfl rfl) ?_
  refine gk_nil (gk_sub (T' := [(1,_), (2,_), (3,_), (5,_)]) ⟨rfl, rfl, rfl, rfl, trivial⟩ ?_)
  refine gk_cond rfl (fun hc5 => ?_) (fun hc5 => ?_)
  · have hc5 := of_decide_eq_true hc5
    refine gk_region ?_
    refine gk_y rfl rfl (y_fieldAddr fo32_0 rfl) ?_
    refine gk_y rfl rfl (y_loadB1 1 tf3 rfl rfl rfl) ?_
    refine gk_y rfl rfl (y_neg rfl) ?_
    refine gk_y rfl rfl (y_fieldAddr fo32_0 rfl) ?_
    refine gk_storeV 1 tf3 rfl rfl (vs := [_]) rfl rfl rfl rfl rfl ?_
    refine gk_nil (gk_sub (T' := [(1,_), (2,_), (3,_)]) ⟨rfl, rfl, rfl, trivial⟩ ?_)
    refine gk_seq ?_
    refine gk_any 6 (fun _ => mixed) (by kernel_rfl) ?_
    refine ph_y (y_load1 tf3 rfl (fun _ hw => has_box_cell (Rd.has (Has.rd hb) hw) rfl)) ?_
    refine ph_y (y_rem rfl rfl (by decide)) ?_
    refine ph_y (y_indexA 2 ae91 rfl rfl hk (by decide)) ?_
    refine ph_y (y_load1 tf90 rfl (fun _ hw => elems_cell (i := 2) (Rd.has (Has.rd hways) hw) rfl)) ?_
    refine ph_y (y_loadBA 1 tf32 rfl rfl (vs := [_, _]) rfl rfl) ?_
    refine ph_y (y_callV (fs := []) (cap := []) en175 rfl rfl (fun w hw => ways3_c (⟨(IntKind.i64.wrap (-p.x)), p.z⟩ : Pt) w)) ?_
    refine gk_sub (T' := [(3,_), (15,_)]) ⟨rfl, rfl, trivial⟩ ?_
    refine gk_storeV 0 tf32 rfl rfl (vs := [_, _]) rfl rfl rfl rfl rfl ?_
    refine gk_nil (gk_sub (T' := [(3,_)]) ⟨rfl, trivial⟩ ?_)
    refine gk_ret ?_
    refine gk_pure (rv_one rfl (r1_cellA (i := 0) (vs := [_, _]) tf32 rfl rfl rfl rfl)) ?_
    simp only [moveW, flipW, quartW, hk, if_pos hc5]; rfl
  · have hc5 := of_decide_eq_false hc5
    refine gk_skip ?_
    refine gk_seq ?_
    refine gk_any 6 (fun _ => mixed) (by kernel_rfl) ?_
    refine ph_y (y_load1 tf3 rfl (fun _ hw => has_box_cell (Rd.has (Has.rd hb) hw) rfl)) ?_
    refine ph_y (y_rem rfl rfl (by decide)) ?_
    refine ph_y (y_indexA 2 ae91 rfl rfl hk (by decide)) ?_
    refine ph_y (y_load1 tf90 rfl (fun _ hw => elems_cell (i := 2) (Rd.has (Has.rd hways) hw) rfl)) ?_
    refine ph_y (y_loadBA 1 tf32 rfl rfl (vs := [_, _]) rfl rfl) ?_
    refine ph_y (y_callV (fs := []) (cap := []) en175 rfl rfl (fun w hw => ways3_c p w)) ?_
    refine gk_sub (T' := [(3,_), (15,_)]) ⟨rfl, rfl, trivial⟩ ?_
    refine gk_storeV 0 tf32 rfl rfl (vs := [_, _]) rfl rfl rfl rfl rfl ?_
    refine gk_nil (gk_sub (T' := [(3,_)]) ⟨rfl, trivial⟩ ?_)
    refine gk_ret ?_
    refine gk_pure (rv_one rfl (r1_cellA (i := 0) (vs := [_, _]) tf32 rfl rfl rfl rfl)) ?_
    simp only [moveW, flipW, quartW, hk, if_neg hc5]; rfl
set_option maxRecDepth 100000 in
set_option maxHeartbeats 1000000 in
theorem turned1_3 (p : Pt) (way : Int) (b : Nat) (w : World) (hb : Has w (Box b [.int .i64 way] 3)) (hways : Has w (Elems (some ⟨0, 0, none⟩) 1 encVal [.func (.func 173) #[] #[], .func (.func 174) #[] #[], .func (.func 175) #[] #[], .func (.func 176) #[] #[]])) (hk : way.tmod 4 = 3) :
    Calls Tryd.prog 58 #[.agg #[.int .i64 p.x, .int .i64 p.z], .pointer (some ⟨b, 0, none⟩)] w (Pure (ptV (moveW way p)) w) := by
  refine calls_of_gk (vs := [_, _]) Tryd.func58 rfl rfl (Nat.le_of_ble_eq_true rfl) ?_
  refine gk_seq ?_
  refine gk_region ?_
  refine gk_yx rfl rfl (yx_box (vs := [_, _]) rfl rfl) fun b2 => ?_
  refine gk_yx rfl rfl (yx_alloc tf32 (zs := [_, _]) rfl) fun b3 => ?_
  refine gk_nil (gk_sub (T' := [(1,_), (2,_), (3,_)]) ⟨rfl, rfl, rfl, trivial⟩ ?_)
  refine gk_seq ?_
  refine gk_seq ?_
  refine gk_region ?_
  refine gk_y rfl rfl (y_load1 tf3 rfl (fun _ hw => has_box_cell (Rd.has (Has.rd hb) hw) rfl)) ?_
  refine gk_y rfl rfl (y_gtr rfl rfl) ?_
  refine gk_nil (gk_sub (T' := [(1,_), (2,_), (3,_), (5,_)]) ⟨rfl, rfl, rfl, rfl, trivial⟩ ?_)
  refine gk_cond rfl (fun hc5 => ?_) (fun hc5 => ?_)
  · have hc5 := of_decide_eq_true hc5
    refine gk_region ?_
    refine gk_y rfl rfl (y_fieldAddr fo32_0 rfl) ?_
    refine gk_y rfl rfl (y_loadB1 1 tf3 rfl rfl rfl) ?_
    refine gk_y rfl rfl (y_neg rfl) ?_
    refine gk_y rfl rfl (y_fieldAddr fo32_0 rfl) ?_
    refine gk_storeV 1 tf3 rfl rfl (vs := [_]) rfl rfl rfl rfl rfl ?_
    refine gk_nil (gk_sub (T' := [(1,_), (2,_), (3,_)]) ⟨rfl, rfl, rfl, trivial⟩ ?_)
    refine gk_seq ?_
    refine gk_any 6 (fun _ => mixed) (by kernel_rfl) ?_
    refine ph_y (y_load1 tf3 rfl (fun _ hw => has_box_cell (Rd.has (Has.rd hb) hw) rfl)) ?_
    refine ph_y (y_rem rfl rfl (by decide)) ?_
    refine ph_y (y_indexA 3 ae91 rfl rfl hk (by decide)) ?_
    refine ph_y (y_load1 tf90 rfl (fun _ hw => elems_cell (i := 3) (Rd.has (Has.rd hways) hw) rfl)) ?_
    refine ph_y (y_loadBA 1 tf32 rfl rfl (vs := [_, _]) rfl rfl) ?_
    refine ph_y (y_callV (fs := []) (cap := []) en176 rfl rfl (fun w hw => ways4_c (⟨(IntKind.i64.wrap (-p.x)), p.z⟩ : Pt) w)) ?_
    refine gk_sub (T' := [(3,_), (15,_)]) ⟨rfl, rfl, trivial⟩ ?_
    refine gk_storeV 0 tf32 rfl rfl (vs := [_, _]) rfl rfl rfl rfl rfl ?_
    refine gk_nil (gk_sub (T' := [(3,_)]) ⟨rfl, trivial⟩ ?_)
    refine gk_ret ?_
    refine gk_pure (rv_one rfl (r1_cellA (i := 0) (vs := [_, _]) tf32 rfl rfl rfl rfl)) ?_
    simp only [moveW, flipW, quartW, hk, if_pos hc5]; rfl
  · have hc5 := of_decide_eq_false hc5
    refine gk_skip ?_
    refine gk_seq ?_
    refine gk_any 6 (fun _ => mixed) (by kernel_rfl) ?_
    refine ph_y (y_load1 tf3 rfl (fun _ hw => has_box_cell (Rd.has (Has.rd hb) hw) rfl)) ?_
    refine ph_y (y_rem rfl rfl (by decide)) ?_
    refine ph_y (y_indexA 3 ae91 rfl rfl hk (by decide)) ?_
    refine ph_y (y_load1 tf90 rfl (fun _ hw => elems_cell (i := 3) (Rd.has (Has.rd hways) hw) rfl)) ?_
    refine ph_y (y_loadBA 1 tf32 rfl rfl (vs := [_, _]) rfl rfl) ?_
    refine ph_y (y_callV (fs := []) (cap := []) en176 rfl rfl (fun w hw => ways4_c p w)) ?_
    refine gk_sub (T' := [(3,_), (15,_)]) ⟨rfl, rfl, trivial⟩ ?_
    refine gk_storeV 0 tf32 rfl rfl (vs := [_, _]) rfl rfl rfl rfl rfl ?_
    refine gk_nil (gk_sub (T' := [(3,_)]) ⟨rfl, trivial⟩ ?_)
    refine gk_ret ?_
    refine gk_pure (rv_one rfl (r1_cellA (i := 0) (vs := [_, _]) tf32 rfl rfl rfl rfl)) ?_
    simp only [moveW, flipW, quartW, hk, if_neg hc5]; rfl
theorem turned1_c (p : Pt) (way : Int) (b : Nat) (w : World) (hb : Has w (Box b [.int .i64 way] 3)) (hways : Has w (Elems (some ⟨0, 0, none⟩) 1 encVal [.func (.func 173) #[] #[], .func (.func 174) #[] #[], .func (.func 175) #[] #[], .func (.func 176) #[] #[]])) (h0 : 0 ≤ way) : Calls Tryd.prog 58 #[ptV p, .pointer (some ⟨b, 0, none⟩)] w (Pure (ptV (moveW way p)) w) := by
  have h1 : way.tmod 4 < 4 := Int.tmod_lt_of_pos _ (by decide)
  have h2 : 0 ≤ way.tmod 4 := Int.tmod_nonneg _ h0
  rcases (show way.tmod 4 = 0 ∨ way.tmod 4 = 1 ∨ way.tmod 4 = 2 ∨ way.tmod 4 = 3 by omega) with h | h | h | h
  · exact turned1_0 p way b w hb hways h
  · exact turned1_1 p way b w hb hways h
  · exact turned1_2 p way b w hb hways h
  · exact turned1_3 p way b w hb hways h
def RevI (l m : List Pt) (i : Int) : Prop := ∀ k : Nat, k < l.length → m.getD k default = if (k : Int) < i ∨ (l.length : Int) - 1 - i < (k : Int) then l.getD (l.length - 1 - k) default else l.getD k default
theorem rev_step {l m : List Pt} {i j : Int} (h0 : 0 ≤ i) (hj : j = (l.length : Int) - 1 - i) (hij : i < j) (hl : m.length = l.length) (h : RevI l m i) : RevI l ((m.set i.toNat (m.getD j.toNat default)).set j.toNat (m.getD i.toNat default)) (i + 1) := fun k hk => by
  have hm : ∀ (a : List Pt) (n : Nat) (x : Pt) (k : Nat), (a.set n x).getD k default = if k = n ∧ n < a.length then x else a.getD k default := fun a n x k => by
    simp only [List.getD_eq_getElem?_getD, List.getElem?_set]
    by_cases h1 : n = k
    · subst h1
      by_cases h2 : n < a.length
      · simp [h2]
      · simp [h2]
    · rw [if_neg h1, if_neg (fun h => h1 h.1.symm)]
  rw [hm, hm, List.length_set]
  have hi := h i.toNat (by omega)
  have hjj := h j.toNat (by omega)
  rw [if_neg (by omega)] at hi hjj
  by_cases hkj : k = j.toNat
  · rw [if_pos ⟨hkj, by omega⟩, if_pos (by omega), hi]
    congr 1
    omega
  · rw [if_neg (fun h => hkj h.1)]
    by_cases hki : k = i.toNat
    · rw [if_pos ⟨hki, by omega⟩, if_pos (by omega), hjj]
      congr 1
      omega
    · rw [if_neg (fun h => hki h.1), h k hk]
      by_cases hc : (k : Int) < i ∨ (l.length : Int) - 1 - i < (k : Int)
      · rw [if_pos hc, if_pos (by omega)]
      · rw [if_neg hc, if_neg (by omega)]
theorem rev_end {l m : List Pt} {i j : Int} (_h0 : 0 ≤ i) (hj : j = (l.length : Int) - 1 - i) (hij : ¬ i < j) (hl : m.length = l.length) (h : RevI l m i) : m = l.reverse := by
  apply List.ext_getElem
  · rw [List.length_reverse, hl]
  · intro k h1 h2
    have := h k (by omega)
    rw [List.getElem_reverse]
    have e1 : m.getD k default = m[k] := by simp [h1]
    rw [← e1, this]
    have hk : l.length - 1 - k < l.length := by omega
    split
    · simp [hk]
    · rename_i hc
      have : k = l.length - 1 - k := by omega
      have h4 : l.getD (l.length - 1 - k) default = l[l.length - 1 - k] := by simp [hk]
      rw [← h4]
      exact congrArg (fun n => l.getD n default) this
set_option maxRecDepth 100000 in
set_option maxHeartbeats 1000000 in
theorem reverse_c (a : Option Addr) (cap : Nat) (l : List Pt) (w : World) (B : Nat → Prop) (hB : ∀ k, B k → k < w.heap.size) (hA : (Row a 2 cap 32 encPt l).A B w) (hs : Small l.length) :
    Calls Tryd.prog 59 #[.slice a l.length cap] w (Turns (fun _ : Unit => .tuple #[]) (fun _ => Row a 2 cap 32 encPt l.reverse) (fun _ => True) B w) := by
  refine calls_of_gkB hB hA (vs := [_]) Tryd.func59 rfl rfl (Nat.le_of_ble_eq_true rfl) ?_
  refine gk_seq ?_
  refine gk_region ?_
  refine gk_y rfl rfl (y_move rfl) ?_
  refine gk_y rfl rfl (y_lenS (Tryd.underlying31) rfl) ?_
  refine gk_y rfl rfl (y_subI rfl rfl (by omega) (by omega)) ?_
  refine gk_y rfl rfl (y_assign rfl) ?_
  refine gk_y rfl rfl (y_assign rfl) ?_
  refine gk_nil (gk_sub (T' := [(0,_), (2,_), (3,_)]) ⟨rfl, rfl, rfl, trivial⟩ ?_)
  refine gk_block ?_
  refine gk_loop (X := Int × Int × List Pt) (fun ⟨i, j, m⟩ => [(0, .slice a l.length cap), (2, .int .i64 i), (3, .int .i64 j)]) (fun ⟨i, j, m⟩ => [Row a 2 cap 32 encPt m]) (fun ⟨i, j, m⟩ => (0 ≤ i ∧ j = (l.length : Int) - 1 - i ∧ (i ≤ j + 1 ∨ i = 0) ∧ m.length = l.length ∧ RevI l m i)) (fun ⟨i, j, m⟩ => (j - i + 1).toNat) (0, (l.length : Int) - 1, l) ⟨rfl, rfl, rfl, trivial⟩ rfl ?_ ?_
  · exact ⟨by omega, by omega, .inr rfl, rfl, fun k hk => by rw [if_neg (by omega)]⟩
  · rintro ⟨i, j, m⟩ hI
    obtain ⟨g0, g1, g5, g3, g2⟩ := hI
    refine gk_seq ?_
    refine gk_seq ?_
    refine gk_region ?_
    refine gk_y rfl rfl (y_move rfl) ?_
    refine gk_y rfl rfl (y_move rfl) ?_
    refine gk_y rfl rfl (y_lss rfl rfl) ?_
    refine gk_nil (gk_sub (T' := [(0,_), (2,_), (3,_), (9,_)]) ⟨rfl, rfl, rfl, rfl, trivial⟩ ?_)
    refine gk_cond rfl (fun hc9 => ?_) (fun hc9 => ?_)
    · have hc9 := of_decide_eq_true hc9
      refine gk_skip ?_
      refine gk_seq ?_
      refine gk_block ?_
      refine gk_anyS (R' := Row a 2 cap 32 encPt ((m).set (i).toNat ⟨((m.getD (j).toNat default).x), ((m.getD (j).toNat default).z)⟩)) 13 [2, 3] 0 (fun _ => mixed) rfl rfl (by kernel_rfl) rfl ?_
      refine phs_y (y_move rfl) ?_
      refine phs_y (y_move rfl) ?_
      refine phs_y (y_move rfl) ?_
      refine phs_y (y_move rfl) ?_
      refine phs_y (y_move rfl) ?_
      refine phs_y (y_move rfl) ?_
      refine phs_y (y_indexN se31 rfl rfl (fun _ hw => (has_row encPt_ok (hw.has (p := 0) rfl))) (by first | exact g3 | (rw [List.length_set]; exact g3)) (by omega) (by first | omega | (rw [List.length_set]; omega))) ?_
      refine phs_y (y_loadE (vs := [_, _]) tf32 rfl (fun _ hw => (has_row encPt_ok (hw.has (p := 0) rfl))) (by omega) (by omega) rfl) ?_
      refine phs_y (y_move rfl) ?_
      refine phs_y (y_move rfl) ?_
      refine phs_y (y_indexN se31 rfl rfl (fun _ hw => (has_row encPt_ok (hw.has (p := 0) rfl))) (by first | exact g3 | (rw [List.length_set]; exact g3)) (by omega) (by first | omega | (rw [List.length_set]; omega))) ?_
      refine phs_y (y_loadE (vs := [_, _]) tf32 rfl (fun _ hw => (has_row encPt_ok (hw.has (p := 0) rfl))) (by omega) (by omega) rfl) ?_
      refine phs_y (y_indexN se31 rfl rfl (fun _ hw => (has_row encPt_ok (hw.has (p := 0) rfl))) (by first | exact g3 | (rw [List.length_set]; exact g3)) (by omega) (by first | omega | (rw [List.length_set]; omega))) ?_
      refine ⟨so_elem encPt_ok tf32 rfl rfl rfl (by rfl) (by omega) (by first | omega | (rw [List.length_set]; omega)), ?_⟩
      refine gk_sub (T' := [(0,_), (2,_), (3,_), (16,_), (17,_), (25,_)]) ⟨rfl, rfl, rfl, rfl, rfl, rfl, trivial⟩ ?_
      refine gk_y rfl rfl (y_indexN se31 rfl rfl (fun _ hw => (has_row encPt_ok (hw.has (p := 0) rfl))) (by first | exact g3 | (rw [List.length_set]; exact g3)) (by omega) (by first | omega | (rw [List.length_set]; omega))) ?_
      refine gk_storeE (x' := ⟨((m.getD (i).toNat default).x), ((m.getD (i).toNat default).z)⟩) 0 encPt_ok tf32 rfl rfl (vs := [_, _]) rfl rfl rfl (by omega) (by first | omega | (rw [List.length_set]; omega)) ?_
      refine gk_nil (gk_sub (T' := [(0,_), (2,_), (3,_)]) ⟨rfl, rfl, rfl, trivial⟩ ?_)
      refine gk_region ?_
      refine gk_y rfl rfl (y_move rfl) ?_
      refine gk_y rfl rfl (y_addI rfl rfl (by omega) (by omega)) ?_
      refine gk_y rfl rfl (y_move rfl) ?_
      refine gk_y rfl rfl (y_subI rfl rfl (by omega) (by omega)) ?_
      refine gk_y rfl rfl (y_assign rfl) ?_
      refine gk_y rfl rfl (y_assign rfl) ?_
      refine gk_nil (gk_sub (T' := [(0,_), (2,_), (3,_)]) ⟨rfl, rfl, rfl, trivial⟩ ?_)
      exact gk_next (i + 1, j - 1, _) ⟨rfl, rfl, rfl, trivial⟩ rfl ⟨by omega, by omega, by omega, by rw [List.length_set, List.length_set]; exact g3, rev_step g0 g1 hc9 g3 g2⟩ (by simp only []; omega)
    · have hc9 := of_decide_eq_false hc9
      obtain rfl : m = l.reverse := rev_end g0 g1 hc9 g3 g2
      refine gk_exit rfl ?_
      refine gk_turns () 0 (rv_none rfl) rfl rfl trivial
set_option maxRecDepth 100000 in
set_option maxHeartbeats 1000000 in
theorem Turned_c (a : Option Addr) (cap : Nat) (s : Stn) (way : Int) (w : World) (hl : Has w (Pts a s.shape)) (hs : Small s.shape.length) (hways : Has w (Elems (some ⟨0, 0, none⟩) 1 encVal [.func (.func 173) #[] #[], .func (.func 174) #[] #[], .func (.func 175) #[] #[], .func (.func 176) #[] #[]])) :
    Calls Tryd.prog 19 #[.agg #[.string s.name, .slice a s.shape.length cap, .int .i64 s.depth, .int .i64 s.density, .int .i64 s.grain.x, .int .i64 s.grain.z], .int .i64 way] w (Gives (fun z : Option Addr × Nat => .tuple #[stnV (turnedS s way) z.1 z.2, .int .i64 (turnedE s way)]) (fun z => Row z.1 2 z.2 32 encPt (turnedS s way).shape) w) := by
  refine calls_of_gk (vs := [_, _]) Tryd.func19 rfl rfl (Nat.le_of_ble_eq_true rfl) ?_
  refine gk_seq ?_
  refine gk_region ?_
  refine gk_yx rfl rfl (yx_box (vs := [_, _, _, _, _, _]) rfl rfl) fun b2 => ?_
  refine gk_yx rfl rfl (yx_box (vs := [_]) rfl rfl) fun b3 => ?_
  refine gk_yx rfl rfl (yx_alloc tf34 (zs := [_, _, _, _, _, _]) rfl) fun b4 => ?_
  refine gk_y rfl rfl (y_assign rfl) ?_
  refine gk_nil (gk_sub (T' := [(2,_), (3,_), (4,_), (5,_)]) ⟨rfl, rfl, rfl, rfl, trivial⟩ ?_)
  refine gk_seq ?_
  refine gk_seq ?_
  refine gk_region ?_
  refine gk_y rfl rfl (y_loadBA 2 tf34 rfl rfl (vs := [_, _, _, _, _, _]) rfl rfl) ?_
  refine gk_y rfl rfl (y_call en17 rfl (fun w hw => check_c _ _ s w (Rd.has (Has.rd hl) hw) (by assumption))) ?_
  refine gk_y rfl rfl (y_assign rfl) ?_
  refine gk_nil (gk_sub (T' := [(2,_), (3,_), (4,_), (5,_), (6,_)]) ⟨rfl, rfl, rfl, rfl, rfl, trivial⟩ ?_)
  refine gk_seq ?_
  refine gk_region ?_
  refine gk_y rfl rfl (y_move rfl) ?_
  refine gk_y rfl rfl (y_neq rfl rfl) ?_
  refine gk_nil (gk_sub (T' := [(2,_), (3,_), (4,_), (5,_), (6,_), (14,_)]) ⟨rfl, rfl, rfl, rfl, rfl, rfl, trivial⟩ ?_)
  refine gk_cond rfl (fun hc14 => ?_) (fun hc14 => ?_)
  · have hk : ¬ checkI s = 0 := by simpa using hc14
    have hE : turnedE s way = checkI s := by rw [turnedE, if_pos hk]
    have hT := turned_bad hE hk
    refine gk_newNil 32 encPt 2 ?_
    refine gk_seq ?_
    refine gk_region ?_
    refine gk_y rfl rfl (y_buildL (parts := []) rfl bd34_) ?_
    refine gk_y rfl rfl (y_move rfl) ?_
    refine gk_storeV 1 tf34 rfl rfl (vs := [_, _, _, _, _, _]) rfl rfl rfl rfl rfl ?_
    refine gk_y rfl rfl (y_assign rfl) ?_
    refine gk_nil (gk_sub (T' := [(2,_), (3,_), (4,_), (5,_)]) ⟨rfl, rfl, rfl, rfl, trivial⟩ ?_)
    refine gk_ret ?_
    refine gk_gives (none, 0) 0 (rv_two rfl (r1_cellA (i := 1) (vs := [_, _, _, _, _, _]) tf34 rfl rfl rfl rfl) (r1_tmp rfl)) ?_ (by rw [hT]; rfl)
    rw [hT, hE]; try rfl
  · have hk : checkI s = 0 := by simpa using hc14
    have hlen := check_len hk
    refine gk_skip ?_
    refine gk_seq ?_
    refine gk_seq ?_
    refine gk_region ?_
    refine gk_y rfl rfl (y_loadB1 1 tf3 rfl rfl rfl) ?_
    refine gk_y rfl rfl (y_call en55 rfl (fun w hw => within_c _ _ _ w)) ?_
    refine gk_y rfl rfl (y_not rfl) ?_
    refine gk_nil (gk_sub (T' := [(2,_), (3,_), (4,_), (5,_), (19,_)]) ⟨rfl, rfl, rfl, rfl, rfl, trivial⟩ ?_)
    refine gk_cond rfl (fun hc19 => ?_) (fun hc19 => ?_)
    · have hE : turnedE s way = 3 := by rw [turnedE, if_neg (fun h => h hk), if_pos (by simpa only [Bool.not_eq_true'] using hc19)]
      have hT := turned_bad hE (by decide)
      refine gk_newNil 32 encPt 2 ?_
      refine gk_seq ?_
      refine gk_region ?_
      refine gk_y rfl rfl (y_buildL (parts := []) rfl bd34_) ?_
      refine gk_storeV 1 tf34 rfl rfl (vs := [_, _, _, _, _, _]) rfl rfl rfl rfl rfl ?_
      refine gk_y rfl rfl (y_assign rfl) ?_
      refine gk_nil (gk_sub (T' := [(2,_), (3,_), (4,_), (5,_)]) ⟨rfl, rfl, rfl, rfl, trivial⟩ ?_)
      refine gk_ret ?_
      refine gk_gives (none, 0) 0 (rv_two rfl (r1_cellA (i := 1) (vs := [_, _, _, _, _, _]) tf34 rfl rfl rfl rfl) (r1_tmp rfl)) ?_ (by rw [hT]; rfl)
      rw [hT, hE]; try rfl
    · have hw7 : (decide (0 ≤ way) && decide (way ≤ 7)) = true := by simpa only [Bool.not_eq_false'] using hc19
      have hE : turnedE s way = 0 := by rw [turnedE, if_neg (fun h => h hk), if_neg (by rw [hw7]; exact fun h => Bool.false_ne_true h.symm)]
      have hT := turned_good hE
      have h0 : 0 ≤ way := by simp at hw7; omega
      refine gk_skip ?_
      refine gk_seq ?_
      refine gk_region ?_
      refine gk_y rfl rfl (y_makeFunc («as» := []) (bs := [_]) rfl rfl) ?_
      refine gk_y rfl rfl (y_assign rfl) ?_
      refine gk_nil (gk_sub (T' := [(2,_), (3,_), (4,_), (5,_), (7,_)]) ⟨rfl, rfl, rfl, rfl, rfl, trivial⟩ ?_)
      refine gk_seq ?_
      refine gk_region ?_
      refine gk_y rfl rfl (y_loadBA 2 tf34 rfl rfl (vs := [_, _, _, _, _, _]) rfl rfl) ?_
      refine gk_yx rfl rfl (yx_alloc tf34 (zs := [_, _, _, _, _, _]) rfl) fun b8 => ?_
      refine gk_storeV 0 tf34 rfl rfl (vs := [_, _, _, _, _, _]) rfl rfl rfl rfl rfl ?_
      refine gk_nil (gk_sub (T' := [(2,_), (3,_), (4,_), (5,_), (7,_), (8,_)]) ⟨rfl, rfl, rfl, rfl, rfl, rfl, trivial⟩ ?_)
      refine gk_seq ?_
      refine gk_region ?_
      refine gk_y rfl rfl (y_fieldAddr fo34_1 rfl) ?_
      refine gk_storeV 0 tf31 rfl rfl (vs := [_]) rfl rfl rfl rfl rfl ?_
      refine gk_nil (gk_sub (T' := [(2,_), (3,_), (4,_), (5,_), (7,_), (8,_)]) ⟨rfl, rfl, rfl, rfl, rfl, rfl, trivial⟩ ?_)
      refine gk_seq ?_
      refine gk_seq ?_
      refine gk_region ?_
      refine gk_y rfl rfl (y_fieldAddr fo34_1 rfl) ?_
      refine gk_y rfl rfl (y_loadB1 3 tf31 rfl rfl rfl) ?_
      refine gk_y rfl rfl (y_lenS (Tryd.underlying31) rfl) ?_
      refine gk_y rfl rfl (y_move rfl) ?_
      refine gk_nil (gk_sub (T' := [(2,_), (3,_), (4,_), (5,_), (7,_), (8,_), (25,_), (26,_), (27,_)]) ⟨rfl, rfl, rfl, rfl, rfl, rfl, rfl, rfl, rfl, trivial⟩ ?_)
      refine gk_block ?_
      refine gk_newNil 32 encPt 2 ?_
      refine gk_loop (X := Int × Option Addr × Nat × List Pt) (fun ⟨i, b, bc, m⟩ => [(2, .pointer (some ⟨b2, 0, none⟩)), (3, .pointer (some ⟨b3, 0, none⟩)), (4, .pointer (some ⟨b4, 0, none⟩)), (5, .int .i64 0), (7, .func (.func 58) #[] #[.pointer (some ⟨b3, 0, none⟩)]), (8, .pointer (some ⟨b8, 0, none⟩)), (25, .slice a s.shape.length cap), (26, .int .i64 (s.shape.length : Int)), (27, .int .i64 i)]) (fun ⟨i, b, bc, m⟩ => [Row b 2 bc 32 encPt m, Box b8 [.string s.name, .slice b m.length bc, .int .i64 s.depth, .int .i64 s.density, .int .i64 s.grain.x, .int .i64 s.grain.z] 34, Box b4 [.string ⟨#[]⟩, .slice none 0 0, .int .i64 0, .int .i64 0, .int .i64 0, .int .i64 0] 34, Box b3 [.int .i64 way] 3, Box b2 [.string s.name, .slice a s.shape.length cap, .int .i64 s.depth, .int .i64 s.density, .int .i64 s.grain.x, .int .i64 s.grain.z] 34]) (fun ⟨i, b, bc, m⟩ => (0 ≤ i ∧ i ≤ s.shape.length ∧ m = (s.shape.take i.toNat).map (moveW way) ∧ m.length ≤ s.shape.length)) (fun ⟨i, b, bc, m⟩ => (s.shape.length - i).toNat) (0, none, 0, []) ⟨rfl, rfl, rfl, rfl, rfl, rfl, rfl, rfl, rfl, trivial⟩ rfl ?_ ?_
      · exact ⟨by omega, by omega, rfl, by simp⟩
      · rintro ⟨i, b, bc, m⟩ hI
        obtain ⟨g0, g1, g2, g3⟩ := hI
        refine gk_seq ?_
        refine gk_region ?_
        refine gk_y rfl rfl (y_lss rfl rfl) ?_
        refine gk_nil (gk_sub (T' := [(2,_), (3,_), (4,_), (5,_), (7,_), (8,_), (25,_), (26,_), (27,_), (28,_)]) ⟨rfl, rfl, rfl, rfl, rfl, rfl, rfl, rfl, rfl, rfl, trivial⟩ ?_)
        refine gk_seq ?_
        refine gk_cond rfl (fun hc28 => ?_) (fun hc28 => ?_)
        · simp only [decide_eq_true_eq] at hc28
          refine gk_skip ?_
          refine gk_seq ?_
          refine gk_block ?_
          refine gk_seq ?_
          refine gk_region ?_
          refine gk_y rfl rfl (y_indexE se31 rfl rfl (fun _ hw => (Rd.has (Has.rd hl) hw)) (by omega) (by omega)) ?_
          refine gk_y rfl rfl (y_loadE (vs := [_, _]) tf32 rfl (fun _ hw => (Rd.has (Has.rd hl) hw)) (by omega) (by omega) rfl) ?_
          refine gk_yx rfl rfl (yx_alloc tf32 (zs := [_, _]) rfl) fun b10 => ?_
          refine gk_storeV 0 tf32 rfl rfl (vs := [_, _]) rfl rfl rfl rfl rfl ?_
          refine gk_nil (gk_sub (T' := [(2,_), (3,_), (4,_), (5,_), (7,_), (8,_), (10,_), (25,_), (26,_), (27,_)]) ⟨rfl, rfl, rfl, rfl, rfl, rfl, rfl, rfl, rfl, rfl, trivial⟩ ?_)
          refine gk_any 6 (fun _ => mixed) (by kernel_rfl) ?_
          refine ph_y (y_fieldAddr fo34_1 rfl) ?_
          refine ph_y (y_loadB1 2 tf31 rfl rfl rfl) ?_
          refine ph_y (y_move rfl) ?_
          refine ph_y (y_loadBA 0 tf32 rfl rfl (vs := [_, _]) rfl rfl) ?_
          refine ph_y (y_callV (fs := []) (cap := [_]) en58 rfl rfl (fun w hw => turned1_c (s.shape.getD (i).toNat default) way _ w (hw.has (p := 4) rfl) (Rd.has (Has.rd hways) hw) h0)) ?_
          refine ph_yx (yx_buildSlice rfl (bs31_1 _ _) encPt_ok rfl) ?_
          intro b36
          refine gk_sub (T' := [(2,_), (3,_), (4,_), (5,_), (7,_), (8,_), (25,_), (26,_), (27,_), (32,_), (36,_)]) ⟨rfl, rfl, rfl, rfl, rfl, rfl, rfl, rfl, rfl, rfl, rfl, trivial⟩ ?_
          refine gk_append (m := [⟨((moveW way (s.shape.getD (i).toNat default)).x), ((moveW way (s.shape.getD (i).toNat default)).z)⟩]) 2 af31 encPt_ok rfl rfl rfl rfl (fun _ hw => (has_row encPt_ok (hw.has (p := 0) rfl))) (by first | omega | (simp only [List.length_cons, List.length_nil]; omega)) (by first | (unfold maxLen; omega) | (simp only [List.length_cons, List.length_nil, maxLen]; omega)) fun a37 c37 => ?_
          refine gk_y rfl rfl (y_fieldAddr fo34_1 rfl) ?_
          refine gk_storeV 3 tf31 rfl rfl (vs := [_]) rfl rfl rfl rfl rfl ?_
          refine gk_nil (gk_sub (T' := [(2,_), (3,_), (4,_), (5,_), (7,_), (8,_), (25,_), (26,_), (27,_)]) ⟨rfl, rfl, rfl, rfl, rfl, rfl, rfl, rfl, rfl, trivial⟩ ?_)
          refine gk_region ?_
          refine gk_y rfl rfl (y_addI rfl rfl (by omega) (by omega)) ?_
          refine gk_y rfl rfl (y_move rfl) ?_
          refine gk_nil (gk_sub (T' := [(2,_), (3,_), (4,_), (5,_), (7,_), (8,_), (25,_), (26,_), (27,_)]) ⟨rfl, rfl, rfl, rfl, rfl, rfl, rfl, rfl, rfl, trivial⟩ ?_)
          refine gk_dropAt 0 rfl ?_
          refine gk_dropAt 0 rfl ?_
          exact gk_next (i + 1, a37, c37, _) ⟨rfl, rfl, rfl, rfl, rfl, rfl, rfl, rfl, rfl, trivial⟩ rfl ⟨by omega, by omega, by rw [map_take_succ g0 (by omega), ← g2], by rw [List.length_append, g2, List.length_map, List.length_take]; simp; omega⟩ (by simp only []; omega)
        · simp only [decide_eq_false_iff_not] at hc28
          refine gk_exit rfl ?_
          refine gk_seq ?_
          refine gk_seq ?_
          refine gk_region ?_
          refine gk_y rfl rfl (y_loadB1 3 tf3 rfl rfl rfl) ?_
          refine gk_y rfl rfl (y_gtr rfl rfl) ?_
          refine gk_nil (gk_sub (T' := [(2,_), (4,_), (5,_), (7,_), (8,_), (41,_)]) ⟨rfl, rfl, rfl, rfl, rfl, rfl, trivial⟩ ?_)
          have hm : m = s.shape.map (moveW way) := by rw [g2, take_all (by omega)]
          have hml : m.length = s.shape.length := by rw [hm, List.length_map]
          have hsm : Small m.length := by unfold Small; omega
          refine gk_cond rfl (fun hc41 => ?_) (fun hc41 => ?_)
          · have hc41 := of_decide_eq_true hc41
            have hL : turnedL s way = m.reverse := by rw [turnedL, if_pos hc41, hm]
            rw [hL] at hT
            refine gk_region ?_
            refine gk_y rfl rfl (y_fieldAddr fo34_1 rfl) ?_
            refine gk_y rfl rfl (y_loadB1 1 tf31 rfl rfl rfl) ?_
            refine gk_callU 0 en59 rfl rfl rfl (fun w B hF => reverse_c _ _ m w B (fun k hk => (hF.own k hk).2) hF.A (by assumption)) fun u44 hq44 => ?_
            refine gk_nil (gk_sub (T' := [(2,_), (4,_), (5,_), (7,_), (8,_)]) ⟨rfl, rfl, rfl, rfl, rfl, trivial⟩ ?_)
            refine gk_conv (R' := Box b8 [.string s.name, .slice b (m.reverse).length bc, .int .i64 s.depth, .int .i64 s.density, .int .i64 s.grain.x, .int .i64 s.grain.z] 34) 1 rfl (fun B w hA => by rw [show m.reverse.length = m.length from List.length_reverse ..]; exact hA) ?_
            refine gk_seq ?_
            refine gk_any 8 (fun _ => mixed) (by kernel_rfl) ?_
            refine ph_y (y_fieldAddr fo34_1 rfl) ?_
            refine ph_y (y_loadB1 1 tf31 rfl rfl rfl) ?_
            refine ph_yx (yx_call en60 rfl (fun w hw => settled_c _ _ (m.reverse) w (has_row encPt_ok (hw.has (p := 0) rfl)) (by first | assumption | (rw [List.length_reverse]; assumption)) (by first | omega | (rw [List.length_reverse]; omega)) (row_cap (hw.has (p := 0) rfl)))) ?_
            refine ph_y (y_move rfl) ?_
            refine ph_y (y_fieldAddr fo34_4 rfl) ?_
            refine ph_y (y_loadBA 4 tf32 rfl rfl (vs := [_, _]) rfl rfl) ?_
            refine ph_y (fun p47 => y_callV (fs := []) (cap := [_]) en58 rfl rfl (fun w hw => turned1_c s.grain way _ w (hw.has (p := 4) rfl) (Rd.has (Has.rd hways) hw) h0)) ?_
            refine ph_y (fun p47 => y_fieldAddr fo34_1 rfl) ?_
            intro p47
            refine gk_sub (T' := [(4,_), (5,_), (8,_), (47,_), (51,_), (52,_)]) ⟨rfl, rfl, rfl, rfl, rfl, rfl, trivial⟩ ?_
            refine gk_storeV 2 tf31 rfl rfl (vs := [_]) rfl rfl rfl rfl rfl ?_
            refine gk_y rfl rfl (y_fieldAddr fo34_4 rfl) ?_
            refine gk_storeV 2 tf32 rfl rfl (vs := [_, _]) rfl rfl rfl rfl rfl ?_
            refine gk_nil (gk_sub (T' := [(4,_), (5,_), (8,_)]) ⟨rfl, rfl, rfl, trivial⟩ ?_)
            refine gk_seq ?_
            refine gk_region ?_
            refine gk_y rfl rfl (y_loadBA 2 tf34 rfl rfl (vs := [_, _, _, _, _, _]) rfl rfl) ?_
            refine gk_storeV 3 tf34 rfl rfl (vs := [_, _, _, _, _, _]) rfl rfl rfl rfl rfl ?_
            refine gk_y rfl rfl (y_assign rfl) ?_
            refine gk_nil (gk_sub (T' := [(4,_), (5,_)]) ⟨rfl, rfl, trivial⟩ ?_)
            refine gk_ret ?_
            refine gk_gives p47 0 (rv_two rfl (r1_cellA (i := 3) (vs := [_, _, _, _, _, _]) tf34 rfl rfl rfl rfl) (r1_tmp rfl)) ?_ (by rw [hT]; rfl)
            rw [hT, hE]; try rfl
          · have hc41 := of_decide_eq_false hc41
            have hL : turnedL s way = m := by rw [turnedL, if_neg hc41, hm]
            rw [hL] at hT
            refine gk_skip ?_
            refine gk_seq ?_
            refine gk_any 8 (fun _ => mixed) (by kernel_rfl) ?_
            refine ph_y (y_fieldAddr fo34_1 rfl) ?_
            refine ph_y (y_loadB1 1 tf31 rfl rfl rfl) ?_
            refine ph_yx (yx_call en60 rfl (fun w hw => settled_c _ _ m w (has_row encPt_ok (hw.has (p := 0) rfl)) (by first | assumption | (rw [List.length_reverse]; assumption)) (by first | omega | (rw [List.length_reverse]; omega)) (row_cap (hw.has (p := 0) rfl)))) ?_
            refine ph_y (y_move rfl) ?_
            refine ph_y (y_fieldAddr fo34_4 rfl) ?_
            refine ph_y (y_loadBA 4 tf32 rfl rfl (vs := [_, _]) rfl rfl) ?_
            refine ph_y (fun p47 => y_callV (fs := []) (cap := [_]) en58 rfl rfl (fun w hw => turned1_c s.grain way _ w (hw.has (p := 4) rfl) (Rd.has (Has.rd hways) hw) h0)) ?_
            refine ph_y (fun p47 => y_fieldAddr fo34_1 rfl) ?_
            intro p47
            refine gk_sub (T' := [(4,_), (5,_), (8,_), (47,_), (51,_), (52,_)]) ⟨rfl, rfl, rfl, rfl, rfl, rfl, trivial⟩ ?_
            refine gk_storeV 2 tf31 rfl rfl (vs := [_]) rfl rfl rfl rfl rfl ?_
            refine gk_y rfl rfl (y_fieldAddr fo34_4 rfl) ?_
            refine gk_storeV 2 tf32 rfl rfl (vs := [_, _]) rfl rfl rfl rfl rfl ?_
            refine gk_nil (gk_sub (T' := [(4,_), (5,_), (8,_)]) ⟨rfl, rfl, rfl, trivial⟩ ?_)
            refine gk_seq ?_
            refine gk_region ?_
            refine gk_y rfl rfl (y_loadBA 2 tf34 rfl rfl (vs := [_, _, _, _, _, _]) rfl rfl) ?_
            refine gk_storeV 3 tf34 rfl rfl (vs := [_, _, _, _, _, _]) rfl rfl rfl rfl rfl ?_
            refine gk_y rfl rfl (y_assign rfl) ?_
            refine gk_nil (gk_sub (T' := [(4,_), (5,_)]) ⟨rfl, rfl, trivial⟩ ?_)
            refine gk_ret ?_
            refine gk_gives p47 0 (rv_two rfl (r1_cellA (i := 3) (vs := [_, _, _, _, _, _]) tf34 rfl rfl rfl rfl) (r1_tmp rfl)) ?_ (by rw [hT]; rfl)
            rw [hT, hE]; try rfl
end Go.Proofs.YtahahmelnaphjaaDoor

namespace Go.Stn
open Go Go.K Go.RowKit
set_option maxRecDepth 100000
theorem brick_ok : checkI brickS = 0 := by decide +kernel
theorem brick_weight : weightW brickS = 7680000000 := by decide +kernel
def wA : Stn := ⟨⟨#[98, 114, 105, 99, 107, 97]⟩, [⟨0, 0⟩, ⟨50, 0⟩, ⟨50, 80⟩, ⟨0, 80⟩], 100, 2400, ⟨1, 0⟩⟩
def wB : Stn := ⟨⟨#[98, 114, 105, 99, 107, 98]⟩, [⟨0, 0⟩, ⟨150, 0⟩, ⟨150, 80⟩, ⟨0, 80⟩], 100, 2400, ⟨1, 0⟩⟩
theorem brick_splitE : splitE brickS ⟨50, 0⟩ ⟨50, 80⟩ = 0 := by decide +kernel
theorem brick_splitA : splitA brickS ⟨50, 0⟩ ⟨50, 80⟩ = wA := by decide +kernel
theorem brick_splitB : splitB brickS ⟨50, 0⟩ ⟨50, 80⟩ = wB := by decide +kernel
theorem brick_in : 0 ≤ findI (eqB ⟨0, 40⟩) (borderL brickS.shape) := by decide +kernel
theorem brick_struck : struckE brickS ⟨0, 40⟩ 0 = 0 := by decide +kernel
theorem brick_out : outL brickS ⟨0, 40⟩ 0 = [⟨200, 40⟩] := by decide +kernel
theorem brick_turnE : turnedE brickS 1 = 0 := by decide +kernel
theorem brick_turn : (turnedS brickS 1).grain = ⟨0, 1⟩ := by decide +kernel
theorem brick_border : (askL brickS (borderL brickS.shape)).length = 560 := by decide +kernel
end Go.Stn

namespace Go.Proofs.YtahahmelnaphjaaDoor
open Go.K Go.Stn Go.RowKit
theorem en19 : En Tryd.prog 19 := en_of Tryd.func19 (by kernel_rfl) (by kernel_rfl)
theorem en23 : En Tryd.prog 23 := en_of Tryd.func23 (by kernel_rfl) (by kernel_rfl)
theorem en26 : En Tryd.prog 26 := en_of Tryd.func26 (by kernel_rfl) (by kernel_rfl)
theorem en28 : En Tryd.prog 28 := en_of Tryd.func28 (by kernel_rfl) (by kernel_rfl)
theorem en35 : En Tryd.prog 35 := en_of Tryd.func35 (by kernel_rfl) (by kernel_rfl)
theorem en52 : En Tryd.prog 52 := en_of Tryd.func52 (by kernel_rfl) (by kernel_rfl)
set_option maxRecDepth 100000 in
set_option maxHeartbeats 1000000 in
theorem wakes_c  (w : World) (hways : Has w (Elems (some ⟨0, 0, none⟩) 1 encVal [.func (.func 173) #[] #[], .func (.func 174) #[] #[], .func (.func 175) #[] #[], .func (.func 176) #[] #[]])) :
    Calls Tryd.prog 15 #[] w (Pure (.bool true) w) := by
  have hs : Small brickS.shape.length := by decide
  have hA4 : (1 : Int) < ((splitA brickS (⟨50, 0⟩ : Pt) (⟨50, 80⟩ : Pt)).shape.length : Int) := by rw [brick_splitA]; decide
  have hO1 : (0 : Int) < ((outL brickS (⟨0, 40⟩ : Pt) 0).length : Int) := by rw [brick_out]; decide
  have hin : struckE brickS (⟨0, 40⟩ : Pt) 0 = 0 → 0 ≤ findI (eqB (⟨0, 40⟩ : Pt)) (borderL brickS.shape) := fun _ => brick_in
  refine calls_of_gk (vs := []) Tryd.func15 rfl rfl (Nat.le_of_ble_eq_true rfl) ?_
  refine gk_seq ?_
  refine gk_region ?_
  refine gk_y rfl rfl (y_assign rfl) ?_
  refine gk_nil (gk_sub (T' := [(0,_)]) ⟨rfl, trivial⟩ ?_)
  refine gk_seq ?_
  refine gk_region ?_
  refine gk_yx rfl rfl (yx_call en52 rfl (fun w hw => brick_c w)) fun p13 => ?_
  refine gk_yx rfl rfl (yx_alloc tf34 (zs := [_, _, _, _, _, _]) rfl) fun b1 => ?_
  refine gk_storeV 0 tf34 rfl rfl (vs := [_, _, _, _, _, _]) rfl rfl rfl rfl rfl ?_
  refine gk_nil (gk_sub (T' := [(0,_), (1,_)]) ⟨rfl, rfl, trivial⟩ ?_)
  refine gk_seq ?_
  refine gk_region ?_
  refine gk_y rfl rfl (y_loadBA 0 tf34 rfl rfl (vs := [_, _, _, _, _, _]) rfl rfl) ?_
  refine gk_y rfl rfl (y_call en28 rfl (fun w hw => weight_c _ _ brickS w (has_row encPt_ok (hw.has (p := 1) rfl)) (by assumption))) ?_
  refine gk_y rfl rfl (y_move rfl) ?_
  refine gk_y rfl rfl (y_extract rfl rfl) ?_
  refine gk_y rfl rfl (y_extract rfl rfl) ?_
  refine gk_y rfl rfl (y_assign rfl) ?_
  refine gk_y rfl rfl (y_assign rfl) ?_
  refine gk_nil (gk_sub (T' := [(0,_), (1,_), (2,_), (3,_)]) ⟨rfl, rfl, rfl, rfl, trivial⟩ ?_)
  refine gk_seq ?_
  refine gk_region ?_
  refine gk_y rfl rfl (y_loadBA 0 tf34 rfl rfl (vs := [_, _, _, _, _, _]) rfl rfl) ?_
  refine gk_y rfl rfl (y_buildL rfl (bd32_0i _)) ?_
  refine gk_y rfl rfl (y_buildL rfl (bd32_0i_1i _ _)) ?_
  refine gk_yx rfl rfl (yx_call en26 rfl (fun w hw => Split_c _ _ brickS (⟨50, 0⟩ : Pt) (⟨50, 80⟩ : Pt) w (has_row encPt_ok (hw.has (p := 1) rfl)) (by assumption))) fun p23 => gk_split ?_
  refine gk_y rfl rfl (y_move rfl) ?_
  refine gk_y rfl rfl (y_extract rfl rfl) ?_
  refine gk_y rfl rfl (y_extract rfl rfl) ?_
  refine gk_y rfl rfl (y_extract rfl rfl) ?_
  refine gk_yx rfl rfl (yx_alloc tf34 (zs := [_, _, _, _, _, _]) rfl) fun b4 => ?_
  refine gk_yx rfl rfl (yx_alloc tf34 (zs := [_, _, _, _, _, _]) rfl) fun b5 => ?_
  refine gk_storeV 1 tf34 rfl rfl (vs := [_, _, _, _, _, _]) rfl rfl rfl rfl rfl ?_
  refine gk_storeV 0 tf34 rfl rfl (vs := [_, _, _, _, _, _]) rfl rfl rfl rfl rfl ?_
  refine gk_y rfl rfl (y_assign rfl) ?_
  refine gk_nil (gk_sub (T' := [(0,_), (1,_), (2,_), (3,_), (4,_), (5,_), (6,_)]) ⟨rfl, rfl, rfl, rfl, rfl, rfl, rfl, trivial⟩ ?_)
  refine gk_seq ?_
  refine gk_region ?_
  refine gk_y rfl rfl (y_loadBA 4 tf34 rfl rfl (vs := [_, _, _, _, _, _]) rfl rfl) ?_
  refine gk_y rfl rfl (y_buildL rfl (bd32_1i _)) ?_
  refine gk_yx rfl rfl (yx_call en35 rfl (fun w hw => Outcomes_c _ _ brickS (⟨0, 40⟩ : Pt) 0 w (has_row encPt_ok (hw.has (p := 5) rfl)) (by assumption) (by assumption))) fun p30 => ?_
  refine gk_y rfl rfl (y_move rfl) ?_
  refine gk_y rfl rfl (y_extract rfl rfl) ?_
  refine gk_y rfl rfl (y_extract rfl rfl) ?_
  refine gk_y rfl rfl (y_assign rfl) ?_
  refine gk_y rfl rfl (y_assign rfl) ?_
  refine gk_nil (gk_sub (T' := [(0,_), (1,_), (2,_), (3,_), (4,_), (5,_), (6,_), (7,_), (8,_)]) ⟨rfl, rfl, rfl, rfl, rfl, rfl, rfl, rfl, rfl, trivial⟩ ?_)
  refine gk_seq ?_
  refine gk_region ?_
  refine gk_y rfl rfl (y_loadBA 5 tf34 rfl rfl (vs := [_, _, _, _, _, _]) rfl rfl) ?_
  refine gk_yx rfl rfl (yx_call en19 rfl (fun w hw => Turned_c _ _ brickS 1 w (has_row encPt_ok (hw.has (p := 6) rfl)) (by assumption) (Rd.has (Has.rd hways) hw))) fun p35 => ?_
  refine gk_y rfl rfl (y_move rfl) ?_
  refine gk_y rfl rfl (y_extract rfl rfl) ?_
  refine gk_y rfl rfl (y_extract rfl rfl) ?_
  refine gk_yx rfl rfl (yx_alloc tf34 (zs := [_, _, _, _, _, _]) rfl) fun b9 => ?_
  refine gk_storeV 0 tf34 rfl rfl (vs := [_, _, _, _, _, _]) rfl rfl rfl rfl rfl ?_
  refine gk_y rfl rfl (y_assign rfl) ?_
  refine gk_nil (gk_sub (T' := [(0,_), (1,_), (2,_), (3,_), (4,_), (5,_), (6,_), (7,_), (8,_), (9,_), (10,_)]) ⟨rfl, rfl, rfl, rfl, rfl, rfl, rfl, rfl, rfl, rfl, rfl, trivial⟩ ?_)
  refine gk_seq ?_
  refine gk_region ?_
  refine gk_y rfl rfl (y_loadBA 7 tf34 rfl rfl (vs := [_, _, _, _, _, _]) rfl rfl) ?_
  refine gk_yx rfl rfl (yx_call en23 rfl (fun w hw => Border_c _ _ brickS w (has_row encPt_ok (hw.has (p := 8) rfl)) (by assumption))) fun p40 => ?_
  refine gk_y rfl rfl (y_move rfl) ?_
  refine gk_y rfl rfl (y_extract rfl rfl) ?_
  refine gk_y rfl rfl (y_extract rfl rfl) ?_
  refine gk_y rfl rfl (y_assign rfl) ?_
  refine gk_y rfl rfl (y_assign rfl) ?_
  refine gk_nil (gk_sub (T' := [(0,_), (2,_), (3,_), (4,_), (5,_), (6,_), (7,_), (8,_), (9,_), (10,_), (11,_), (12,_)]) ⟨rfl, rfl, rfl, rfl, rfl, rfl, rfl, rfl, rfl, rfl, rfl, rfl, trivial⟩ ?_)
  refine gk_seq ?_
  refine gk_region ?_
  refine gk_y rfl rfl (y_move rfl) ?_
  refine gk_y rfl rfl (y_castT (y_eql rfl rfl) (by rw [brick_ok]; rfl)) ?_
  refine gk_y rfl rfl (y_move rfl) ?_
  refine gk_guard rfl rfl rfl rfl (fun _ => ?_) (fun h => absurd h (by decide))
  refine gk_y rfl rfl (y_move rfl) ?_
  refine gk_guard rfl rfl rfl rfl (fun _ => ?_) (fun h => absurd h (by decide))
  refine gk_y rfl rfl (y_castT (y_eql rfl rfl) (by rw [askI, if_pos brick_ok, brick_weight]; rfl)) ?_
  refine gk_y rfl rfl (y_pick rfl rfl rfl) ?_
  refine gk_y rfl rfl (y_move rfl) ?_
  refine gk_guard rfl rfl rfl rfl (fun _ => ?_) (fun h => absurd h (by decide))
  refine gk_y rfl rfl (y_move rfl) ?_
  refine gk_guard rfl rfl rfl rfl (fun _ => ?_) (fun h => absurd h (by decide))
  refine gk_y rfl rfl (y_castT (y_eql rfl rfl) (by rw [brick_splitE]; rfl)) ?_
  refine gk_y rfl rfl (y_pick rfl rfl rfl) ?_
  refine gk_y rfl rfl (y_move rfl) ?_
  refine gk_guard rfl rfl rfl rfl (fun _ => ?_) (fun h => absurd h (by decide))
  refine gk_y rfl rfl (y_fieldAddr fo34_0 rfl) ?_
  refine gk_guard rfl rfl rfl rfl (fun _ => ?_) (fun h => absurd h (by decide))
  refine gk_y rfl rfl (y_loadB1 5 tf9 rfl rfl rfl) ?_
  refine gk_guard rfl rfl rfl rfl (fun _ => ?_) (fun h => absurd h (by decide))
  refine gk_y rfl rfl (y_castT (y_strEq rfl rfl) (by rw [brick_splitA]; decide +kernel)) ?_
  refine gk_y rfl rfl (y_pick rfl rfl rfl) ?_
  refine gk_y rfl rfl (y_move rfl) ?_
  refine gk_guard rfl rfl rfl rfl (fun _ => ?_) (fun h => absurd h (by decide))
  refine gk_y rfl rfl (y_fieldAddr fo34_1 rfl) ?_
  refine gk_guard rfl rfl rfl rfl (fun _ => ?_) (fun h => absurd h (by decide))
  refine gk_y rfl rfl (y_loadB1 5 tf31 rfl rfl rfl) ?_
  refine gk_guard rfl rfl rfl rfl (fun _ => ?_) (fun h => absurd h (by decide))
  refine gk_y rfl rfl (y_lenS (Tryd.underlying31) rfl) ?_
  refine gk_guard rfl rfl rfl rfl (fun _ => ?_) (fun h => absurd h (by decide))
  refine gk_y rfl rfl (y_castT (y_eql rfl rfl) (by rw [brick_splitA]; rfl)) ?_
  refine gk_y rfl rfl (y_pick rfl rfl rfl) ?_
  refine gk_y rfl rfl (y_move rfl) ?_
  refine gk_guard rfl rfl rfl rfl (fun _ => ?_) (fun h => absurd h (by decide))
  refine gk_y rfl rfl (y_fieldAddr fo34_1 rfl) ?_
  refine gk_guard rfl rfl rfl rfl (fun _ => ?_) (fun h => absurd h (by decide))
  refine gk_y rfl rfl (y_loadB1 5 tf31 rfl rfl rfl) ?_
  refine gk_guard rfl rfl rfl rfl (fun _ => ?_) (fun h => absurd h (by decide))
  refine gk_y rfl rfl (y_indexE se31 rfl rfl (fun _ hw => (has_row encPt_ok (hw.has (p := 6) rfl))) (by omega) (by omega)) ?_
  refine gk_guard rfl rfl rfl rfl (fun _ => ?_) (fun h => absurd h (by decide))
  refine gk_y rfl rfl (y_fieldE fo32_0 rfl (fun w hw => elems_addr (i := 1) (has_row encPt_ok (hw.has (p := 6) rfl)) (by omega) (by omega))) ?_
  refine gk_guard rfl rfl rfl rfl (fun _ => ?_) (fun h => absurd h (by decide))
  refine gk_y rfl rfl (y_loadEF tf3 rfl (fun _ hw => (has_row encPt_ok (hw.has (p := 6) rfl))) (by omega) (by omega) rfl) ?_
  refine gk_guard rfl rfl rfl rfl (fun _ => ?_) (fun h => absurd h (by decide))
  refine gk_y rfl rfl (y_castT (y_eql rfl rfl) (by rw [brick_splitA]; rfl)) ?_
  refine gk_y rfl rfl (y_pick rfl rfl rfl) ?_
  refine gk_y rfl rfl (y_move rfl) ?_
  refine gk_guard rfl rfl rfl rfl (fun _ => ?_) (fun h => absurd h (by decide))
  refine gk_y rfl rfl (y_fieldAddr fo34_0 rfl) ?_
  refine gk_guard rfl rfl rfl rfl (fun _ => ?_) (fun h => absurd h (by decide))
  refine gk_y rfl rfl (y_loadB1 4 tf9 rfl rfl rfl) ?_
  refine gk_guard rfl rfl rfl rfl (fun _ => ?_) (fun h => absurd h (by decide))
  refine gk_y rfl rfl (y_castT (y_strEq rfl rfl) (by rw [brick_splitB]; decide +kernel)) ?_
  refine gk_y rfl rfl (y_pick rfl rfl rfl) ?_
  refine gk_y rfl rfl (y_move rfl) ?_
  refine gk_guard rfl rfl rfl rfl (fun _ => ?_) (fun h => absurd h (by decide))
  refine gk_y rfl rfl (y_move rfl) ?_
  refine gk_guard rfl rfl rfl rfl (fun _ => ?_) (fun h => absurd h (by decide))
  refine gk_y rfl rfl (y_castT (y_eql rfl rfl) (by rw [brick_struck]; rfl)) ?_
  refine gk_y rfl rfl (y_pick rfl rfl rfl) ?_
  refine gk_y rfl rfl (y_move rfl) ?_
  refine gk_guard rfl rfl rfl rfl (fun _ => ?_) (fun h => absurd h (by decide))
  refine gk_y rfl rfl (y_move rfl) ?_
  refine gk_guard rfl rfl rfl rfl (fun _ => ?_) (fun h => absurd h (by decide))
  refine gk_y rfl rfl (y_lenS (Tryd.underlying31) rfl) ?_
  refine gk_guard rfl rfl rfl rfl (fun _ => ?_) (fun h => absurd h (by decide))
  refine gk_y rfl rfl (y_castT (y_eql rfl rfl) (by rw [brick_out]; rfl)) ?_
  refine gk_y rfl rfl (y_pick rfl rfl rfl) ?_
  refine gk_y rfl rfl (y_move rfl) ?_
  refine gk_guard rfl rfl rfl rfl (fun _ => ?_) (fun h => absurd h (by decide))
  refine gk_y rfl rfl (y_move rfl) ?_
  refine gk_guard rfl rfl rfl rfl (fun _ => ?_) (fun h => absurd h (by decide))
  refine gk_y rfl rfl (y_indexE se31 rfl rfl (fun _ hw => (has_row encPt_ok (hw.has (p := 3) rfl))) (by omega) (by omega)) ?_
  refine gk_guard rfl rfl rfl rfl (fun _ => ?_) (fun h => absurd h (by decide))
  refine gk_y rfl rfl (y_loadE (vs := [_, _]) tf32 rfl (fun _ hw => (has_row encPt_ok (hw.has (p := 3) rfl))) (by omega) (by omega) rfl) ?_
  refine gk_guard rfl rfl rfl rfl (fun _ => ?_) (fun h => absurd h (by decide))
  refine gk_y rfl rfl (y_buildL rfl (bd32_0i_1i _ _)) ?_
  refine gk_guard rfl rfl rfl rfl (fun _ => ?_) (fun h => absurd h (by decide))
  refine gk_y rfl rfl (y_castT (y_eql32 rfl rfl) (by rw [brick_out]; rfl)) ?_
  refine gk_y rfl rfl (y_pick rfl rfl rfl) ?_
  refine gk_y rfl rfl (y_move rfl) ?_
  refine gk_guard rfl rfl rfl rfl (fun _ => ?_) (fun h => absurd h (by decide))
  refine gk_y rfl rfl (y_move rfl) ?_
  refine gk_guard rfl rfl rfl rfl (fun _ => ?_) (fun h => absurd h (by decide))
  refine gk_y rfl rfl (y_castT (y_eql rfl rfl) (by rw [brick_turnE]; rfl)) ?_
  refine gk_y rfl rfl (y_pick rfl rfl rfl) ?_
  refine gk_y rfl rfl (y_move rfl) ?_
  refine gk_guard rfl rfl rfl rfl (fun _ => ?_) (fun h => absurd h (by decide))
  refine gk_y rfl rfl (y_fieldAddr fo34_4 rfl) ?_
  refine gk_guard rfl rfl rfl rfl (fun _ => ?_) (fun h => absurd h (by decide))
  refine gk_y rfl rfl (y_loadBA 1 tf32 rfl rfl (vs := [_, _]) rfl rfl) ?_
  refine gk_guard rfl rfl rfl rfl (fun _ => ?_) (fun h => absurd h (by decide))
  refine gk_y rfl rfl (y_buildL rfl (bd32_1i _)) ?_
  refine gk_guard rfl rfl rfl rfl (fun _ => ?_) (fun h => absurd h (by decide))
  refine gk_y rfl rfl (y_castT (y_eql32 rfl rfl) (by rw [brick_turn]; rfl)) ?_
  refine gk_y rfl rfl (y_pick rfl rfl rfl) ?_
  refine gk_y rfl rfl (y_move rfl) ?_
  refine gk_guard rfl rfl rfl rfl (fun _ => ?_) (fun h => absurd h (by decide))
  refine gk_y rfl rfl (y_move rfl) ?_
  refine gk_guard rfl rfl rfl rfl (fun _ => ?_) (fun h => absurd h (by decide))
  refine gk_y rfl rfl (y_castT (y_eql rfl rfl) (by rw [brick_ok]; rfl)) ?_
  refine gk_y rfl rfl (y_pick rfl rfl rfl) ?_
  refine gk_y rfl rfl (y_move rfl) ?_
  refine gk_guard rfl rfl rfl rfl (fun _ => ?_) (fun h => absurd h (by decide))
  refine gk_y rfl rfl (y_move rfl) ?_
  refine gk_guard rfl rfl rfl rfl (fun _ => ?_) (fun h => absurd h (by decide))
  refine gk_y rfl rfl (y_lenS (Tryd.underlying31) rfl) ?_
  refine gk_guard rfl rfl rfl rfl (fun _ => ?_) (fun h => absurd h (by decide))
  refine gk_y rfl rfl (y_castT (y_eql rfl rfl) (by rw [brick_border]; rfl)) ?_
  refine gk_y rfl rfl (y_pick rfl rfl rfl) ?_
  refine gk_y rfl rfl (y_assign rfl) ?_
  refine gk_nil (gk_sub (T' := [(0,_)]) ⟨rfl, trivial⟩ ?_)
  refine gk_ret ?_
  refine gk_pure (rv_one rfl (r1_tmp rfl)) ?_
  rfl
end Go.Proofs.YtahahmelnaphjaaDoor

namespace Go.Proofs.YtahahmelnaphjaaDoor
open Go Go.K Go.Stn Go.ChangeShapes Go.WideShapes Go.ChangeAt Go.RowKit
theorem own : ownKnob Tryd.prog.godebug = none := by kernel_rfl
theorem laidOut : laidOutB Tryd.prog = true := by kernel_rfl
theorem gWays : Tryd.prog.globalNamed "copestone/stone.ways" = some 0 := by kernel_rfl
theorem tWays : (Tryd.prog.globals[0]?).map (·.type) = some 91 := by kernel_rfl
abbrev laid1 : List (String × DataW Unit) := [("copestone/stone.ways", Rows.laid_copestone_stone_ways)]
abbrev wayFns : List Value := [.func (.func 173) #[] #[], .func (.func 174) #[] #[], .func (.func 175) #[] #[], .func (.func 176) #[] #[]]
theorem door_met (os : Os) (args : Array Value) : laidMetH Tryd.prog laid1 ((World.doorLaid Tryd.prog 400 os).forCall (fun _ _ => 0) ⟨#[], args, []⟩).memory :=
  laidMetH_of_parts3 (fuel := 8) (laidMet_of_run' 8 (by kernel_rfl) (by kernel_rfl)) (by kernel_rfl) (by kernel_rfl)
set_option maxRecDepth 100000 in
theorem of_laid {W : World} (h : laidMetH Tryd.prog laid1 W) : Has W (Elems (some ⟨0, 0, none⟩) 1 encVal wayFns) := by
  obtain ⟨g, t, cs, fuel, p, hg, ht, hv, hd⟩ := funcs_at h (List.mem_cons_self ..) rfl rfl
  obtain rfl := Option.some.inj (gWays.symm.trans hg)
  obtain rfl := Option.some.inj (tWays.symm.trans ht)
  obtain ⟨xs, m, _, hx, hlen, hn, hel⟩ := DataW.trod_array Tryd.underlying91 hd
  have c90 : Tryd.prog.cellsOf 90 = 1 := by kernel_rfl
  have c91 : Tryd.prog.cellsOf 91 = 4 := by kernel_rfl
  rw [c91] at hlen
  rw [c90] at hel
  simp only [Prod.mk.injEq] at hx
  have hx1 := hx.1
  obtain ⟨l⟩ := cs
  match l, hlen, xs, hn with
  | [v0, v1, v2, v3], _, [x0, x1, x2, x3], _ =>
    have hx2 : DataW.agg [DataW.held _, DataW.held _, DataW.held _, DataW.held _] = DataW.agg [x0.1, x1.1, x2.1, x3.1] := hx1
    simp only [DataW.agg.injEq, List.cons.injEq, and_true] at hx2
    obtain ⟨y0, y1, y2, y3⟩ := hx2
    have f0 : v0 = .func (.func 173) #[] #[] := func_of_trod (q := x0.2) Tryd.underlying90 (by kernel_rfl) (by have := hel 0 (by decide); rw [show x0 = (x0.1, x0.2) from rfl, ← y0] at this; exact this)
    have f1 : v1 = .func (.func 174) #[] #[] := func_of_trod (q := x1.2) Tryd.underlying90 (by kernel_rfl) (by have := hel 1 (by decide); rw [show x1 = (x1.1, x1.2) from rfl, ← y1] at this; exact this)
    have f2 : v2 = .func (.func 175) #[] #[] := func_of_trod (q := x2.2) Tryd.underlying90 (by kernel_rfl) (by have := hel 2 (by decide); rw [show x2 = (x2.1, x2.2) from rfl, ← y2] at this; exact this)
    have f3 : v3 = .func (.func 176) #[] #[] := func_of_trod (q := x3.2) Tryd.underlying90 (by kernel_rfl) (by have := hel 3 (by decide); rw [show x3 = (x3.1, x3.2) from rfl, ← y3] at this; exact this)
    subst f0; subst f1; subst f2; subst f3
    have hc := World.var?_cell hg hv
    have hb : 0 < W.heap.size := by
      rcases Nat.lt_or_ge 0 W.heap.size with h | h
      · exact h
      · exfalso
        have := hc 0
        simp [World.cell?, Array.getElem?_eq_none h] at this
    refine ⟨(· = 0), fun k hk => by rw [hk]; exact hb, .inr ⟨0, 0, rfl, fun _ => Iff.rfl, fun i x hi => ?_⟩⟩
    refine ⟨?_, trivial⟩
    have := hc i
    rw [show 0 + i * 1 = i from by omega, this]
    simpa using hi
theorem ptT : ∃ fx fz, PtT Tryd.prog 24 fx fz := ⟨_, _, Tryd.underlying24, rfl, rfl, by kernel_rfl, by kernel_rfl, by kernel_rfl, by kernel_rfl, by kernel_rfl⟩
end Go.Proofs.YtahahmelnaphjaaDoor

namespace Go.Proofs.YtahahmelnaphjaaDoor
open Go.K Go.Stn Go.RowKit
theorem en15 : En Tryd.prog 15 := en_of Tryd.func15 (by kernel_rfl) (by kernel_rfl)
end Go.Proofs.YtahahmelnaphjaaDoor

namespace Go.Stn
open Go Go.K Go.RowKit
theorem same_at {p q : Pt} (h : ((!decide (p.x = q.x)) || (!decide (p.z = q.z))) = false) : p = q := by
  cases p; cases q
  simpa using h
theorem same_no {p q : Pt} (h : ((!decide (p.x = q.x)) || (!decide (p.z = q.z))) = true) : p ≠ q := fun he => by
  rw [he] at h
  simp at h
theorem same_all {l m : List Pt} {i : Int} (hl : l.length = m.length) (hi : (l.length : Int) ≤ i) (h : ∀ j : Nat, (j : Int) < i → l.getD j default = m.getD j default) : l = m := by
  apply List.ext_getElem hl
  intro j h1 h2
  have := h j (by omega)
  simpa [h1, h2] using this
/-- in its place -/
def settleI (l : List Pt) (i : Nat) : Pt := subW (ptAt l ((rfirst l + (i : Int)).tmod (l.length : Int))) (leastL l)
def settleW (l : List Pt) : List Pt := (List.range l.length).map (settleI l)
theorem rfirst_in {l : List Pt} (h : 0 < l.length) : 0 ≤ rfirst l ∧ rfirst l < (l.length : Int) := by
  obtain ⟨m, h1, h2, _⟩ := rfirst_spec h
  omega
theorem range_snoc {α : Type} (f : Nat → α) {i : Int} (h0 : 0 ≤ i) : (List.range (i + 1).toNat).map f = (List.range i.toNat).map f ++ [f i.toNat] := by
  rw [show (i + 1).toNat = i.toNat + 1 from by omega, List.range_succ, List.map_append]; rfl
end Go.Stn

namespace Go.Stn
open Go Go.K Go.RowKit
def ronB (a b p : Pt) : Bool := (decide (sideW a b p = 0) && (decide (min a.x b.x ≤ p.x) && decide (p.x ≤ max a.x b.x))) && (decide (min a.z b.z ≤ p.z) && decide (p.z ≤ max a.z b.z))
def rbordN (l : List Pt) (p : Pt) (n : Nat) : Bool := !allI n fun i => !ronB (ptAt l i) (nextL l i) p
def rbordB (l : List Pt) (p : Pt) : Bool := !farB p && rbordN l p l.length
theorem rbord_yes {l : List Pt} {p : Pt} {i : Int} (hf : farB p = false) (h0 : 0 ≤ i) (h1 : i < (l.length : Int)) (h : ronB (ptAt l i) (nextL l i) p = true) : rbordB l p = true := by
  rw [rbordB, hf, rbordN, allI_false (i := i.toNat) (by omega) (by rw [show ((i.toNat : Nat) : Int) = i from by omega, h]; rfl)]; rfl
end Go.Stn

namespace Go.Proofs.YtahahmelnaphjaaDoor
open Go.K Go.Stn Go.RowKit
theorem af22 : AF Tryd.prog 22 24 2 16 [.int IntKind.i64 0, .int IntKind.i64 0] := ⟨Tryd.underlying22, by kernel_rfl, rfl⟩
theorem en24 : En Tryd.prog 24 := en_of Tryd.func24 (by kernel_rfl) (by kernel_rfl)
theorem en62 : En Tryd.prog 62 := en_of Tryd.func62 (by kernel_rfl) (by kernel_rfl)
theorem bd24_0i_1i (x0 : Int) (x1 : Int) (w : World) : (Instr.build 24 #[(0, .int .i64 x0), (1, .int .i64 x1)]).run Tryd.prog w = .ok (.agg #[.int .i64 x0, .int .i64 x1]) w := by kernel_rfl
theorem bs22_1 (x0_0 : Int) (x0_1 : Int) (w : World) : (Instr.buildSlice 22 1 #[(0, .agg #[.int .i64 x0_0, .int .i64 x0_1])]).run Tryd.prog w = .ok (.slice (some ⟨w.heap.size, 0, none⟩) 1 1) (w.alloc (.cells (([(⟨x0_0, x0_1⟩ : Pt)] : List (Pt)).flatMap encPt).toArray 24)) := by kernel_rfl
set_option maxRecDepth 100000 in
set_option maxHeartbeats 1000000 in
theorem samepoints_c (a1 : Option Addr) (c1 : Nat) (l : List Pt) (a2 : Option Addr) (c2 : Nat) (m : List Pt) (w : World) (hl : Has w (Pts a1 l)) (hm : Has w (Pts a2 m)) (hs : Small l.length) :
    Calls Tryd.prog 24 #[.slice a1 l.length c1, .slice a2 m.length c2] w (Pure (.bool (decide (l = m))) w) := by
  refine calls_of_gk (vs := [_, _]) Tryd.func24 rfl rfl (Nat.le_of_ble_eq_true rfl) ?_
  refine gk_seq ?_
  refine gk_region ?_
  refine gk_y rfl rfl (y_assign rfl) ?_
  refine gk_nil (gk_sub (T' := [(0,_), (1,_), (4,_)]) ⟨rfl, rfl, rfl, trivial⟩ ?_)
  refine gk_seq ?_
  refine gk_seq ?_
  refine gk_region ?_
  refine gk_y rfl rfl (y_move rfl) ?_
  refine gk_y rfl rfl (y_lenS (Tryd.underlying31) rfl) ?_
  refine gk_y rfl rfl (y_move rfl) ?_
  refine gk_y rfl rfl (y_lenS (Tryd.underlying22) rfl) ?_
  refine gk_y rfl rfl (y_neq rfl rfl) ?_
  refine gk_nil (gk_sub (T' := [(0,_), (1,_), (4,_), (10,_)]) ⟨rfl, rfl, rfl, rfl, trivial⟩ ?_)
  refine gk_cond rfl (fun hc10 => ?_) (fun hc10 => ?_)
  · have hne : l.length ≠ m.length := by simp only [Bool.not_eq_true', decide_eq_false_iff_not] at hc10; omega
    refine gk_seq ?_
    refine gk_region ?_
    refine gk_y rfl rfl (y_assign rfl) ?_
    refine gk_nil (gk_sub (T' := [(0,_), (1,_), (4,_)]) ⟨rfl, rfl, rfl, trivial⟩ ?_)
    refine gk_ret ?_
    refine gk_pure (rv_one rfl (r1_tmp rfl)) ?_
    rw [decide_eq_false (fun h => hne (by rw [h]))]
  · have hlm : l.length = m.length := by simp only [Bool.not_eq_false', decide_eq_true_eq] at hc10; omega
    refine gk_skip ?_
    refine gk_seq ?_
    refine gk_seq ?_
    refine gk_region ?_
    refine gk_y rfl rfl (y_assign rfl) ?_
    refine gk_nil (gk_sub (T' := [(0,_), (1,_), (4,_), (5,_)]) ⟨rfl, rfl, rfl, rfl, trivial⟩ ?_)
    refine gk_block ?_
    refine gk_loop (X := Int) (fun (i : Int) => [(0, .slice a1 l.length c1), (1, .slice a2 m.length c2), (4, .bool false), (5, .int .i64 i)]) (fun (i : Int) => []) (fun (i : Int) => (0 ≤ i ∧ i ≤ l.length ∧ ∀ j : Nat, (j : Int) < i → l.getD j default = m.getD j default)) (fun (i : Int) => (l.length - i).toNat) 0 ⟨rfl, rfl, rfl, rfl, trivial⟩ rfl ?_ ?_
    · exact ⟨by omega, by omega, fun j hj => by omega⟩
    · rintro i hI
      obtain ⟨g0, g1, g2⟩ := hI
      refine gk_seq ?_
      refine gk_seq ?_
      refine gk_region ?_
      refine gk_y rfl rfl (y_move rfl) ?_
      refine gk_y rfl rfl (y_move rfl) ?_
      refine gk_y rfl rfl (y_lenS (Tryd.underlying31) rfl) ?_
      refine gk_y rfl rfl (y_lss rfl rfl) ?_
      refine gk_nil (gk_sub (T' := [(0,_), (1,_), (4,_), (5,_), (14,_)]) ⟨rfl, rfl, rfl, rfl, rfl, trivial⟩ ?_)
      refine gk_cond rfl (fun hc14 => ?_) (fun hc14 => ?_)
      · simp only [decide_eq_true_eq] at hc14
        refine gk_skip ?_
        refine gk_seq ?_
        refine gk_block ?_
        refine gk_seq ?_
        refine gk_any 24 (fun _ => mixed) (by kernel_rfl) ?_
        refine ph_y (y_move rfl) ?_
        refine ph_y (y_move rfl) ?_
        refine ph_y (y_indexE se31 rfl rfl (fun _ hw => (Rd.has (Has.rd hl) hw)) (by omega) (by omega)) ?_
        refine ph_y (y_fieldE fo32_0 rfl (fun w hw => elems_addr (i := i) (Rd.has (Has.rd hl) hw) (by omega) (by omega))) ?_
        refine ph_y (y_loadEF tf3 rfl (fun _ hw => (Rd.has (Has.rd hl) hw)) (by omega) (by omega) rfl) ?_
        refine ph_y (y_move rfl) ?_
        refine ph_y (y_move rfl) ?_
        refine ph_y (y_indexE se22 rfl rfl (fun _ hw => (Rd.has (Has.rd hm) hw)) (by omega) (by omega)) ?_
        refine ph_y (y_fieldE fo24_0 rfl (fun w hw => elems_addr (i := i) (Rd.has (Has.rd hm) hw) (by omega) (by omega))) ?_
        refine ph_y (y_loadEF tf3 rfl (fun _ hw => (Rd.has (Has.rd hm) hw)) (by omega) (by omega) rfl) ?_
        refine ph_y (y_neq rfl rfl) ?_
        refine ph_y (y_move rfl) ?_
        refine ph_gF rfl rfl (fun hgd => by (try rw [hgd]); exact (y_move rfl)) ?_
        refine ph_gF rfl rfl (fun hgd => by (try rw [hgd]); exact (y_move rfl)) ?_
        refine ph_gF rfl rfl (fun hgd => by (try rw [hgd]); exact (y_indexE se31 rfl rfl (fun _ hw => (Rd.has (Has.rd hl) hw)) (by omega) (by omega))) ?_
        refine ph_gF rfl rfl (fun hgd => by (try rw [hgd]); exact (y_fieldE fo32_1 rfl (fun w hw => elems_addr (i := i) (Rd.has (Has.rd hl) hw) (by omega) (by omega)))) ?_
        refine ph_gF rfl rfl (fun hgd => by (try rw [hgd]); exact (y_loadEF tf3 rfl (fun _ hw => (Rd.has (Has.rd hl) hw)) (by omega) (by omega) rfl)) ?_
        refine ph_gF rfl rfl (fun hgd => by (try rw [hgd]); exact (y_move rfl)) ?_
        refine ph_gF rfl rfl (fun hgd => by (try rw [hgd]); exact (y_move rfl)) ?_
        refine ph_gF rfl rfl (fun hgd => by (try rw [hgd]); exact (y_indexE se22 rfl rfl (fun _ hw => (Rd.has (Has.rd hm) hw)) (by omega) (by omega))) ?_
        refine ph_gF rfl rfl (fun hgd => by (try rw [hgd]); exact (y_fieldE fo24_1 rfl (fun w hw => elems_addr (i := i) (Rd.has (Has.rd hm) hw) (by omega) (by omega)))) ?_
        refine ph_gF rfl rfl (fun hgd => by (try rw [hgd]); exact (y_loadEF tf3 rfl (fun _ hw => (Rd.has (Has.rd hm) hw)) (by omega) (by omega) rfl)) ?_
        refine ph_gF rfl rfl (fun hgd => by (try rw [hgd]); exact (y_neq rfl rfl)) ?_
        refine ph_y (y_pickOr rfl rfl rfl) ?_
        refine gk_nil (gk_sub (T' := [(0,_), (1,_), (4,_), (5,_), (40,_)]) ⟨rfl, rfl, rfl, rfl, rfl, trivial⟩ ?_)
        refine gk_cond rfl (fun hc40 => ?_) (fun hc40 => ?_)
        · skip
          refine gk_seq ?_
          refine gk_region ?_
          refine gk_y rfl rfl (y_assign rfl) ?_
          refine gk_nil (gk_sub (T' := [(0,_), (1,_), (4,_), (5,_)]) ⟨rfl, rfl, rfl, rfl, trivial⟩ ?_)
          refine gk_ret ?_
          refine gk_pure (rv_one rfl (r1_tmp rfl)) ?_
          rw [decide_eq_false (fun h => same_no hc40 (by rw [h]))]
        · skip
          refine gk_skip ?_
          refine gk_region ?_
          refine gk_y rfl rfl (y_move rfl) ?_
          refine gk_y rfl rfl (y_addI rfl rfl (by omega) (by omega)) ?_
          refine gk_y rfl rfl (y_assign rfl) ?_
          refine gk_nil (gk_sub (T' := [(0,_), (1,_), (4,_), (5,_)]) ⟨rfl, rfl, rfl, rfl, trivial⟩ ?_)
          exact gk_next _ ⟨rfl, rfl, rfl, rfl, trivial⟩ rfl ⟨by omega, by omega, fun j hj => if h : (j : Int) < i then g2 j h else (by rw [show j = i.toNat from by omega]; exact same_at hc40)⟩ (by omega)
      · simp only [decide_eq_false_iff_not] at hc14
        refine gk_exit rfl ?_
        refine gk_seq ?_
        refine gk_region ?_
        refine gk_y rfl rfl (y_assign rfl) ?_
        refine gk_nil (gk_sub (T' := [(4,_)]) ⟨rfl, trivial⟩ ?_)
        refine gk_ret ?_
        refine gk_pure (rv_one rfl (r1_tmp rfl)) ?_
        rw [decide_eq_true (same_all hlm (by omega) g2)]
set_option maxRecDepth 100000 in
set_option maxHeartbeats 1000000 in
theorem settle_c (a : Option Addr) (cap : Nat) (l : List Pt) (w : World) (hl : Has w (Pts a l)) (hs : Small l.length) (h0 : 0 < l.length) :
    Calls Tryd.prog 62 #[.slice a l.length cap] w (Gives (fun z : Option Addr × Nat => .slice z.1 (settleW l).length z.2) (fun z => Row z.1 2 z.2 24 encPt (settleW l)) w) := by
  obtain ⟨f0, f1⟩ := rfirst_in h0
  refine calls_of_gk (vs := [_]) Tryd.func62 rfl rfl (Nat.le_of_ble_eq_true rfl) ?_
  refine gk_seq ?_
  refine gk_region ?_
  refine gk_y rfl rfl (y_assign rfl) ?_
  refine gk_nil (gk_sub (T' := [(0,_), (2,_)]) ⟨rfl, rfl, trivial⟩ ?_)
  refine gk_seq ?_
  refine gk_region ?_
  refine gk_y rfl rfl (y_assign rfl) ?_
  refine gk_nil (gk_sub (T' := [(0,_), (2,_), (3,_)]) ⟨rfl, rfl, rfl, trivial⟩ ?_)
  refine gk_seq ?_
  refine gk_region ?_
  refine gk_y rfl rfl (y_move rfl) ?_
  refine gk_y rfl rfl (y_call en78 rfl (fun w hw => low_c _ _ l w (Rd.has (Has.rd hl) hw) (by assumption) (by assumption))) ?_
  refine gk_y rfl rfl (y_move rfl) ?_
  refine gk_y rfl rfl (y_call en110 rfl (fun w hw => rfirst_c _ _ l w (Rd.has (Has.rd hl) hw) (by assumption))) ?_
  refine gk_yx rfl rfl (yx_alloc tf24 (zs := [_, _]) rfl) fun b4 => ?_
  refine gk_storeV 0 tf24 rfl rfl (vs := [_, _]) rfl rfl rfl rfl rfl ?_
  refine gk_y rfl rfl (y_assign rfl) ?_
  refine gk_nil (gk_sub (T' := [(0,_), (2,_), (3,_), (4,_), (5,_)]) ⟨rfl, rfl, rfl, rfl, rfl, trivial⟩ ?_)
  refine gk_seq ?_
  refine gk_seq ?_
  refine gk_region ?_
  refine gk_y rfl rfl (y_assign rfl) ?_
  refine gk_nil (gk_sub (T' := [(0,_), (2,_), (3,_), (4,_), (5,_), (6,_)]) ⟨rfl, rfl, rfl, rfl, rfl, rfl, trivial⟩ ?_)
  refine gk_block ?_
  refine gk_newNil 24 encPt 2 ?_
  refine gk_loop (X := Int × Option Addr × Nat × List Pt) (fun ⟨i, b, bc, m⟩ => [(0, .slice a l.length cap), (2, .slice none 0 0), (3, .slice b m.length bc), (4, .pointer (some ⟨b4, 0, none⟩)), (5, .int .i64 (rfirst l)), (6, .int .i64 i)]) (fun ⟨i, b, bc, m⟩ => [Row b 2 bc 24 encPt m, Box b4 [.int .i64 ((leastL l).x), .int .i64 ((leastL l).z)] 24]) (fun ⟨i, b, bc, m⟩ => (0 ≤ i ∧ i ≤ l.length ∧ m = (List.range i.toNat).map (settleI l) ∧ m.length ≤ l.length)) (fun ⟨i, b, bc, m⟩ => (l.length - i).toNat) (0, none, 0, []) ⟨rfl, rfl, rfl, rfl, rfl, rfl, trivial⟩ rfl ?_ ?_
  · exact ⟨by omega, by omega, rfl, by simp⟩
  · rintro ⟨i, b, bc, m⟩ hI
    obtain ⟨g0, g1, g2, g3⟩ := hI
    have q0 : 0 ≤ (rfirst l + i).tmod (l.length : Int) := Int.tmod_nonneg _ (by omega)
    have q1 : (rfirst l + i).tmod (l.length : Int) < (l.length : Int) := Int.tmod_lt_of_pos _ (by omega)
    refine gk_seq ?_
    refine gk_seq ?_
    refine gk_region ?_
    refine gk_y rfl rfl (y_move rfl) ?_
    refine gk_y rfl rfl (y_move rfl) ?_
    refine gk_y rfl rfl (y_lenS (Tryd.underlying22) rfl) ?_
    refine gk_y rfl rfl (y_lss rfl rfl) ?_
    refine gk_nil (gk_sub (T' := [(0,_), (2,_), (3,_), (4,_), (5,_), (6,_), (15,_)]) ⟨rfl, rfl, rfl, rfl, rfl, rfl, rfl, trivial⟩ ?_)
    refine gk_cond rfl (fun hc15 => ?_) (fun hc15 => ?_)
    · simp only [decide_eq_true_eq] at hc15
      refine gk_skip ?_
      refine gk_seq ?_
      refine gk_block ?_
      refine gk_seq ?_
      refine gk_region ?_
      refine gk_y rfl rfl (y_move rfl) ?_
      refine gk_y rfl rfl (y_move rfl) ?_
      refine gk_y rfl rfl (y_move rfl) ?_
      refine gk_y rfl rfl (y_addI rfl rfl (by omega) (by omega)) ?_
      refine gk_y rfl rfl (y_move rfl) ?_
      refine gk_y rfl rfl (y_lenS (Tryd.underlying22) rfl) ?_
      refine gk_y rfl rfl (y_rem rfl rfl (by omega)) ?_
      refine gk_y rfl rfl (y_indexE se22 rfl rfl (fun _ hw => (Rd.has (Has.rd hl) hw)) (by omega) (by omega)) ?_
      refine gk_y rfl rfl (y_loadE (vs := [_, _]) tf24 rfl (fun _ hw => (Rd.has (Has.rd hl) hw)) (by omega) (by omega) rfl) ?_
      refine gk_yx rfl rfl (yx_alloc tf24 (zs := [_, _]) rfl) fun b7 => ?_
      refine gk_storeV 0 tf24 rfl rfl (vs := [_, _]) rfl rfl rfl rfl rfl ?_
      refine gk_nil (gk_sub (T' := [(0,_), (2,_), (3,_), (4,_), (5,_), (6,_), (7,_)]) ⟨rfl, rfl, rfl, rfl, rfl, rfl, rfl, trivial⟩ ?_)
      refine gk_region ?_
      refine gk_y rfl rfl (y_move rfl) ?_
      refine gk_y rfl rfl (y_fieldAddr fo24_0 rfl) ?_
      refine gk_y rfl rfl (y_loadB1 0 tf3 rfl rfl rfl) ?_
      refine gk_y rfl rfl (y_fieldAddr fo24_0 rfl) ?_
      refine gk_y rfl rfl (y_loadB1 2 tf3 rfl rfl rfl) ?_
      refine gk_y rfl rfl (y_sub rfl rfl) ?_
      refine gk_y rfl rfl (y_fieldAddr fo24_1 rfl) ?_
      refine gk_y rfl rfl (y_loadB1 0 tf3 rfl rfl rfl) ?_
      refine gk_y rfl rfl (y_fieldAddr fo24_1 rfl) ?_
      refine gk_y rfl rfl (y_loadB1 2 tf3 rfl rfl rfl) ?_
      refine gk_y rfl rfl (y_sub rfl rfl) ?_
      refine gk_y rfl rfl (y_buildL rfl (bd24_0i_1i _ _)) ?_
      refine gk_yx rfl rfl (yx_buildSlice rfl (bs22_1 _ _) encPt_ok rfl) fun b39 => ?_
      refine gk_append (m := [⟨(IntKind.i64.wrap (((l.getD ((Int.tmod ((rfirst l) + i) (l.length : Int))).toNat default).x) - ((leastL l).x))), (IntKind.i64.wrap (((l.getD ((Int.tmod ((rfirst l) + i) (l.length : Int))).toNat default).z) - ((leastL l).z)))⟩]) 2 af22 encPt_ok rfl rfl rfl rfl (fun _ hw => (has_row encPt_ok (hw.has (p := 0) rfl))) (by first | omega | (simp only [List.length_cons, List.length_nil]; omega)) (by first | (unfold maxLen; omega) | (simp only [List.length_cons, List.length_nil, maxLen]; omega)) fun a40 c40 => ?_
      refine gk_y rfl rfl (y_assign rfl) ?_
      refine gk_nil (gk_sub (T' := [(0,_), (2,_), (3,_), (4,_), (5,_), (6,_)]) ⟨rfl, rfl, rfl, rfl, rfl, rfl, trivial⟩ ?_)
      refine gk_region ?_
      refine gk_y rfl rfl (y_move rfl) ?_
      refine gk_y rfl rfl (y_addI rfl rfl (by omega) (by omega)) ?_
      refine gk_y rfl rfl (y_assign rfl) ?_
      refine gk_nil (gk_sub (T' := [(0,_), (2,_), (3,_), (4,_), (5,_), (6,_)]) ⟨rfl, rfl, rfl, rfl, rfl, rfl, trivial⟩ ?_)
      refine gk_dropAt 0 rfl ?_
      refine gk_dropAt 0 rfl ?_
      exact gk_next (i + 1, a40, c40, _) ⟨rfl, rfl, rfl, rfl, rfl, rfl, trivial⟩ rfl ⟨by omega, by omega, by rw [range_snoc _ g0, ← g2]; unfold settleI; rw [show ((i.toNat : Nat) : Int) = i from by omega]; rfl, by rw [List.length_append, g2, List.length_map, List.length_range]; simp only [List.length_cons, List.length_nil]; omega⟩ (by simp only []; omega)
    · simp only [decide_eq_false_iff_not] at hc15
      refine gk_exit rfl ?_
      refine gk_seq ?_
      refine gk_region ?_
      refine gk_y rfl rfl (y_move rfl) ?_
      refine gk_y rfl rfl (y_assign rfl) ?_
      refine gk_nil (gk_sub (T' := [(2,_)]) ⟨rfl, trivial⟩ ?_)
      obtain rfl : m = settleW l := by rw [g2, show i.toNat = l.length from by omega]; rfl
      refine gk_ret ?_
      refine gk_gives (b, bc) 0 (rv_one rfl (r1_tmp rfl)) ?_ rfl
      rfl
end Go.Proofs.YtahahmelnaphjaaDoor

namespace Go.Stn
open Go Go.K Go.RowKit
theorem firstI_eq {l : List Pt} (h : 0 < l.length) : firstI l = rfirst l := by
  obtain ⟨m, h1, h2, h3, h4⟩ := minF_first h
  rw [h1]
  refine findI_at (e := l.getD m default) (by simp [h2]) (fun j x hj hx => ?_) (eqB_iff.2 h3)
  cases he : eqB (minF lowerW l) x with
  | false => rfl
  | true =>
    have := eqB_iff.1 he
    have hxx : l.getD j default = x := by simp [hx]
    exact absurd (hxx.trans (this.symm.trans h3)) (h4 j hj)
theorem rot_get {l : List Pt} {m i : Nat} (hm : m < l.length) (hi : i < l.length) : (l.drop m ++ l.take m)[i]? = some (l.getD ((m + i) % l.length) default) := by
  by_cases h : m + i < l.length
  · rw [List.getElem?_append_left (by simp; omega), List.getElem?_drop, Nat.mod_eq_of_lt h]
    simp [h]
  · have h2 : (m + i) % l.length = m + i - l.length := by rw [Nat.mod_eq_sub_mod (by omega), Nat.mod_eq_of_lt (by omega)]
    rw [List.getElem?_append_right (by simp; omega), h2, List.length_drop, List.getElem?_take, if_pos (by omega)]
    have h3 : i - (l.length - m) = m + i - l.length := by omega
    rw [h3]
    simp [show m + i - l.length < l.length from by omega]
theorem settle_eq {l : List Pt} (h : 0 < l.length) : settleW l = settledW l := by
  have hr := rfirst_in h
  unfold settledW settleW
  rw [firstI_eq h]
  apply List.ext_getElem?
  intro i
  rw [List.getElem?_map, List.getElem?_map]
  unfold rotL
  by_cases hi : i < l.length
  · rw [List.getElem?_range hi, rot_get (by omega) hi]
    simp only [Option.map_some]
    unfold settleI ptAt
    obtain ⟨m, hm⟩ := Int.eq_ofNat_of_zero_le hr.1
    rw [hm]
    have : (((m : Int) + (i : Int)).tmod (l.length : Int)) = (((m + i) % l.length : Nat) : Int) := rfl
    rw [this, Int.toNat_natCast, Int.toNat_natCast]
  · rw [List.getElem?_eq_none (by simp; omega), List.getElem?_eq_none (by simp; omega)]
    rfl
end Go.Stn

namespace Go.Stn
open Go Go.K Go.RowKit
theorem coprime_parts {x z : Nat} (h : 0 < Nat.gcd x z) : Nat.Coprime (x / Nat.gcd x z) (z / Nat.gcd x z) := Nat.coprime_div_gcd_div_gcd h
end Go.Stn

namespace Go.Stn
open Go Go.K Go.RowKit
/-- x = a + t / D (b - a), with 0 <= t < D -/
structure OnH (x a b : Pt) (D t : Int) : Prop where
  pos : 0 < D
  t0 : 0 ≤ t
  t1 : t < D
  ex : D * (x.x - a.x) = t * (b.x - a.x)
  ez : D * (x.z - a.z) = t * (b.z - a.z)
theorem OnH.lin {x a b : Pt} {D t : Int} (h : OnH x a b D t) (u v : Pt) : D * sideZ u v x = (D - t) * sideZ u v a + t * sideZ u v b := by
  have e1 := h.ex
  have e2 := h.ez
  unfold sideZ
  have f1 : D * (x.x - u.x) = t * (b.x - a.x) + D * (a.x - u.x) := by rw [← e1]; grind
  have f2 : D * (x.z - u.z) = t * (b.z - a.z) + D * (a.z - u.z) := by rw [← e2]; grind
  calc D * ((v.x - u.x) * (x.z - u.z) - (v.z - u.z) * (x.x - u.x)) = (v.x - u.x) * (D * (x.z - u.z)) - (v.z - u.z) * (D * (x.x - u.x)) := by grind
    _ = _ := by rw [f1, f2]; grind
theorem OnH.start {x a b : Pt} {D : Int} (h : OnH x a b D 0) : x = a := by
  have e1 := h.ex
  have e2 := h.ez
  have hp := h.pos
  rw [Int.zero_mul, Int.mul_eq_zero] at e1 e2
  cases x; cases a
  simp only [Pt.mk.injEq]
  dsimp only at *
  omega
theorem OnH.at {a b : Pt} (D : Int) (h : 0 < D) : OnH a a b D 0 := ⟨h, Int.le_refl _, h, by simp, by simp⟩
theorem side_same1 (u v : Pt) : sideZ u u v = 0 := by unfold sideZ; grind
theorem side_same2 (u v : Pt) : sideZ u v v = 0 := by unfold sideZ; grind
theorem side_same3 (u v : Pt) : sideZ u v u = 0 := by unfold sideZ; grind
theorem side_swap (u v w : Pt) : sideZ u v w = -sideZ u w v := by unfold sideZ; grind
theorem side_cyc2 (u v w : Pt) : sideZ u v w = sideZ w u v := by unfold sideZ; grind
theorem plucker (o e u v w : Pt) : sideZ o e v * sideZ o u w = sideZ o e u * sideZ o v w + sideZ o e w * sideZ o u v := by unfold sideZ; grind
theorem cor_mod (l : List Pt) (i : Nat) : cor l (i % l.length) = cor l i := by unfold cor; rw [Nat.mod_mod]
theorem cor_congr {l : List Pt} {i j : Nat} (h : i % l.length = j % l.length) : cor l i = cor l j := by unfold cor; rw [h]
theorem cor_add_mod (l : List Pt) (i k : Nat) : cor l (i % l.length + k) = cor l (i + k) := by unfold cor; rw [Nat.mod_add_mod]
theorem Cvx.edge {l : List Pt} (h : Cvx l) (i k : Nat) (h2 : 2 ≤ k) (hk : k < l.length) : 0 < sideZ (cor l i) (cor l (i + 1)) (cor l (i + k)) := by
  have := h (i % l.length) k (Nat.mod_lt _ (by omega)) h2 hk
  rwa [cor_mod, cor_add_mod, cor_add_mod] at this
/-- any three corners, in order, turn to the left -/
theorem Cvx.tri {l : List Pt} (h : Cvx l) (a i : Nat) (hi : 0 < i) : ∀ j, i < j → j < l.length → 0 < sideZ (cor l a) (cor l (a + i)) (cor l (a + j)) := by
  intro j
  induction j with
  | zero => intro hj; omega
  | succ j ih =>
    intro hj hn
    have hnext : ∀ i, 0 < i → i + 1 < l.length → 0 < sideZ (cor l a) (cor l (a + i)) (cor l (a + (i + 1))) := fun i h0 h1 => by
      have := h.edge (a + i) (l.length - i) (by omega) (by omega)
      rw [show a + i + (l.length - i) = a + l.length from by omega, cor_add, Nat.add_assoc] at this
      rw [side_cyc]
      exact this
    by_cases hij : i = j
    · subst hij; exact hnext i hi hn
    · have h1 := ih (by omega) (by omega)
      have h2 := hnext j (by omega) hn
      have e0 : 0 ≤ sideZ (cor l a) (cor l (a + 1)) (cor l (a + i)) := by
        by_cases h1 : i = 1
        · subst h1; rw [side_same2]; omega
        · exact Int.le_of_lt (h.edge a i (by omega) (by omega))
      have e1 := h.edge a j (by omega) (by omega)
      have e2 := h.edge a (j + 1) (by omega) (by omega)
      have hp := plucker (cor l a) (cor l (a + 1)) (cor l (a + i)) (cor l (a + j)) (cor l (a + (j + 1)))
      have p1 : 0 ≤ sideZ (cor l a) (cor l (a + 1)) (cor l (a + i)) * sideZ (cor l a) (cor l (a + j)) (cor l (a + (j + 1))) := Int.mul_nonneg e0 (Int.le_of_lt h2)
      have p2 : 0 < sideZ (cor l a) (cor l (a + 1)) (cor l (a + (j + 1))) * sideZ (cor l a) (cor l (a + i)) (cor l (a + j)) := Int.mul_pos e2 h1
      have p3 : 0 < sideZ (cor l a) (cor l (a + 1)) (cor l (a + j)) * sideZ (cor l a) (cor l (a + i)) (cor l (a + (j + 1))) := by omega
      exact Int.pos_of_mul_pos_right p3 e1
theorem Cvx.tri3 {l : List Pt} (h : Cvx l) {i j k : Nat} (hij : i < j) (hjk : j < k) (hk : k < i + l.length) : 0 < sideZ (cor l i) (cor l j) (cor l k) := by
  have := h.tri i (j - i) (by omega) (k - i) (by omega) (by omega)
  rwa [show i + (j - i) = j from by omega, show i + (k - i) = k from by omega] at this
theorem Cvx.tri0 {l : List Pt} (h : Cvx l) {i j k : Nat} (hij : i ≤ j) (hjk : j ≤ k) (hk : k ≤ i + l.length) : 0 ≤ sideZ (cor l i) (cor l j) (cor l k) := by
  by_cases h1 : i = j
  · subst h1; rw [side_same1]; omega
  · by_cases h2 : j = k
    · subst h2; rw [side_same2]; omega
    · by_cases h3 : k = i + l.length
      · subst h3; rw [cor_add, side_same3]; omega
      · exact Int.le_of_lt (h.tri3 (by omega) (by omega) (by omega))
theorem nn2 {a b c d : Int} (h1 : 0 ≤ a) (h2 : 0 ≤ b) (h3 : 0 ≤ c) (h4 : 0 ≤ d) : 0 ≤ a * b + c * d := Int.add_nonneg (Int.mul_nonneg h1 h2) (Int.mul_nonneg h3 h4)
theorem pos2l {a b c d : Int} (h1 : 0 < a) (h2 : 0 < b) (h3 : 0 ≤ c) (h4 : 0 ≤ d) : 0 < a * b + c * d := by
  have := Int.mul_pos h1 h2
  have := Int.mul_nonneg h3 h4
  omega
theorem pos2r {a b c d : Int} (h1 : 0 ≤ a) (h2 : 0 ≤ b) (h3 : 0 < c) (h4 : 0 < d) : 0 < a * b + c * d := by
  have := Int.mul_nonneg h1 h2
  have := Int.mul_pos h3 h4
  omega
theorem nonpos_of {a b : Int} (h1 : 0 < a) (h2 : a * b ≤ 0) : b ≤ 0 := Classical.byContradiction fun h => by
  have := Int.mul_pos h1 (show 0 < b by omega)
  omega
theorem nonneg_of {a b : Int} (h1 : 0 < a) (h2 : 0 ≤ a * b) : 0 ≤ b := Classical.byContradiction fun h => by
  have := Int.mul_pos h1 (show 0 < -b by omega)
  rw [Int.mul_neg] at this
  omega
theorem pos_of {a b : Int} (h1 : 0 < a) (h2 : 0 < a * b) : 0 < b := Int.pos_of_mul_pos_right h2 h1
section
variable {l : List Pt} {p q : Pt} {a m : Nat} {D s E t : Int}
/-- the way from p to a corner -/
theorem side_pc (hp : OnH p (cor l a) (cor l (a + 1)) D s) (x y : Pt) : D * sideZ p x y = (D - s) * sideZ (cor l a) x y + s * sideZ (cor l (a + 1)) x y := by
  have := hp.lin x y
  rw [side_cyc2 x y p, side_cyc2 x y (cor l a), side_cyc2 x y (cor l (a + 1))] at this
  exact this
theorem side_qc {b : Nat} (hq : OnH q (cor l b) (cor l (b + 1)) E t) (x y : Pt) : E * sideZ x q y = (E - t) * sideZ x (cor l b) y + t * sideZ x (cor l (b + 1)) y := by
  have := hq.lin y x
  rw [side_cyc y x q, side_cyc y x (cor l b), side_cyc y x (cor l (b + 1))] at this
  exact this
theorem arc_pos (h : Cvx l) (hp : OnH p (cor l a) (cor l (a + 1)) D s) (hq : OnH q (cor l (a + m)) (cor l (a + m + 1)) E t) (hm : 1 ≤ m) {k : Nat} (h1 : m < k) (h2 : k < l.length) : 0 < sideZ p q (cor l (a + k)) := by
  refine pos_of hp.pos ?_
  rw [side_pc hp]
  have f1 : 0 < sideZ (cor l a) q (cor l (a + k)) := by
    refine pos_of hq.pos ?_
    rw [side_qc hq]
    exact pos2l (by have := hq.t1; omega) (h.tri3 (by omega) (by omega) (by omega)) hq.t0 (h.tri0 (by omega) (by omega) (by omega))
  have f2 : 0 ≤ sideZ (cor l (a + 1)) q (cor l (a + k)) := by
    refine nonneg_of hq.pos ?_
    rw [side_qc hq]
    exact nn2 (by have := hq.t1; omega) (h.tri0 (by omega) (by omega) (by omega)) hq.t0 (h.tri0 (by omega) (by omega) (by omega))
  exact pos2l (by have := hp.t1; omega) f1 hp.t0 f2
theorem arc_end (h : Cvx l) (hp : OnH p (cor l a) (cor l (a + 1)) D s) (hq : OnH q (cor l (a + m)) (cor l (a + m + 1)) E t) (hm : 1 ≤ m) (hn : m < l.length) (h3 : 3 ≤ l.length) (hs : 0 < s) (ht : m = 1 → 0 < t) : 0 < sideZ p q (cor l (a + l.length)) := by
  refine pos_of hp.pos ?_
  rw [side_pc hp]
  have f1 : 0 ≤ sideZ (cor l a) q (cor l (a + l.length)) := by rw [cor_add, side_same3]; omega
  have f2 : 0 < sideZ (cor l (a + 1)) q (cor l (a + l.length)) := by
    refine pos_of hq.pos ?_
    rw [side_qc hq]
    by_cases h1 : m = 1
    · exact pos2r (by have := hq.t1; omega) (h.tri0 (by omega) (by omega) (by omega)) (ht h1) (h.tri3 (by omega) (by omega) (by omega))
    · exact pos2l (by have := hq.t1; omega) (h.tri3 (by omega) (by omega) (by omega)) hq.t0 (h.tri0 (by omega) (by omega) (by omega))
  exact pos2r (by have := hp.t1; omega) f1 hs f2
/-- the one edge whose line a border point lies on -/
theorem edge_zero (h : Cvx l) (h3 : 3 ≤ l.length) {i : Nat} {k : Nat} (hk : k < l.length) (hq : OnH q (cor l (i + k)) (cor l (i + k + 1)) E t) (h0 : sideZ (cor l i) (cor l (i + 1)) q = 0) : k = 0 ∨ (k = 1 ∧ t = 0) := by
  have hl := hq.lin (cor l i) (cor l (i + 1))
  rw [h0, Int.mul_zero] at hl
  have a1 := hq.t0
  have a2 := hq.t1
  by_cases c0 : k = 0
  · exact .inl c0
  · by_cases c1 : k = 1
    · subst c1
      refine .inr ⟨rfl, ?_⟩
      rw [side_same2, Int.mul_zero, Int.zero_add] at hl
      have := h.tri3 (i := i) (j := i + 1) (k := i + 1 + 1) (by omega) (by omega) (by omega)
      rcases Int.mul_eq_zero.1 hl.symm with h5 | h5
      · exact h5
      · omega
    · exfalso
      have := h.tri3 (i := i) (j := i + 1) (k := i + k) (by omega) (by omega) (by omega)
      have g2 := h.tri0 (i := i) (j := i + 1) (k := i + k + 1) (by omega) (by omega) (by omega)
      have := pos2l (a := E - t) (c := t) (by omega) this a1 g2
      omega
end
end Go.Stn

namespace Go.Stn
open Go Go.K Go.RowKit
theorem edgesL_get {l : List Pt} {i : Nat} (h : i < l.length) : (edgesL l)[i]? = some (cor l i, cor l (i + 1)) := by
  unfold edgesL
  rw [List.getElem?_map, List.getElem?_range h]
  simp only [Option.map_some]
  rw [ptAt_cor h, atL_cor (i := (i : Int) + 1) (n := i + 1 + l.length) (by omega), cor_add]
theorem sq_nn (a : Int) : 0 ≤ a * a := by
  rcases Int.le_total 0 a with h | h
  · exact Int.mul_nonneg h h
  · have := Int.mul_nonneg (show 0 ≤ -a by omega) (show 0 ≤ -a by omega)
    rw [Int.neg_mul_neg] at this
    exact this
theorem sq_lt {a b : Int} (h : a * a < b * b) (hb : 0 ≤ b) : a < b := Classical.byContradiction fun hn => by
  have : b * b ≤ a * a := Int.mul_le_mul (by omega) (by omega) hb (by omega)
  omega
theorem mul_zero_of {a b : Int} (h : 0 < a) (hz : a * b = 0) : b = 0 := by
  rcases Int.mul_eq_zero.1 hz with h1 | h1
  · omega
  · exact h1
theorem le_of_mul {a b c : Int} (h : 0 < a) (hz : a * b ≤ a * c) : b ≤ c := Int.le_of_mul_le_mul_left hz h
/-- from a to b, as a pair -/
theorem onH_id (a b x : Pt) : dotZ (subZ b a) (subZ b a) * (x.x - a.x) = dotZ (subZ x a) (subZ b a) * (b.x - a.x) - (b.z - a.z) * sideZ a b x ∧
    dotZ (subZ b a) (subZ b a) * (x.z - a.z) = dotZ (subZ x a) (subZ b a) * (b.z - a.z) + (b.x - a.x) * sideZ a b x := by
  unfold dotZ subZ sideZ
  dsimp only
  constructor <;> grind
theorem lagrange (a b x : Pt) : dotZ (subZ x a) (subZ b a) * dotZ (subZ x a) (subZ b a) = dotZ (subZ x a) (subZ x a) * dotZ (subZ b a) (subZ b a) - sideZ a b x * sideZ a b x := by
  unfold dotZ subZ sideZ
  dsimp only
  grind
theorem dot_pos {a b : Pt} (h : a ≠ b) : 0 < dotZ (subZ b a) (subZ b a) := by
  unfold dotZ subZ
  dsimp only
  have h1 := sq_nn (b.x - a.x)
  have h2 := sq_nn (b.z - a.z)
  rcases Int.lt_or_eq_of_le (Int.add_nonneg h1 h2) with h3 | h3
  · exact h3
  · exfalso
    have e1 : (b.x - a.x) * (b.x - a.x) = 0 := by omega
    have e2 : (b.z - a.z) * (b.z - a.z) = 0 := by omega
    have e1 : b.x - a.x = 0 := by rcases Int.mul_eq_zero.1 e1 with h | h <;> exact h
    have e2 : b.z - a.z = 0 := by rcases Int.mul_eq_zero.1 e2 with h | h <;> exact h
    apply h
    cases a; cases b
    simp only [Pt.mk.injEq]
    dsimp only at *
    omega
def OnS (x a b : Pt) : Prop := ∃ D t, OnH x a b D t
theorem onS_of {a b x : Pt} (h0 : sideZ a b x = 0) (h1 : 0 ≤ dotZ (subZ x a) (subZ b a)) (h2 : dotZ (subZ x a) (subZ b a) < dotZ (subZ b a) (subZ b a)) : OnS x a b := by
  obtain ⟨e1, e2⟩ := onH_id a b x
  rw [h0] at e1 e2
  exact ⟨_, _, by omega, h1, h2, by rw [e1]; omega, by rw [e2]; omega⟩
theorem onS_dot {a b x : Pt} {D t : Int} (h : OnH x a b D t) : D * dotZ (subZ x a) (subZ b a) = t * dotZ (subZ b a) (subZ b a) ∧ D * (D * dotZ (subZ x a) (subZ x a)) = t * t * dotZ (subZ b a) (subZ b a) := by
  have e1 := h.ex
  have e2 := h.ez
  unfold dotZ subZ
  dsimp only
  generalize x.x - a.x = u at *
  generalize x.z - a.z = v at *
  generalize b.x - a.x = d at *
  generalize b.z - a.z = f at *
  constructor
  · calc D * (u * d + v * f) = (D * u) * d + (D * v) * f := by grind
      _ = _ := by rw [e1, e2]; grind
  · calc D * (D * (u * u + v * v)) = (D * u) * (D * u) + (D * v) * (D * v) := by grind
      _ = _ := by rw [e1, e2]; grind
theorem onS_side {a b x : Pt} {D t : Int} (h : OnH x a b D t) : sideZ a b x = 0 := by
  have := h.lin a b
  rw [side_same3, side_same2, Int.mul_zero, Int.mul_zero, Int.add_zero] at this
  exact mul_zero_of h.pos this
theorem onE_iff {a b x : Pt} (ha : farB a = false) (hb : farB b = false) (hx : farB x = false) (hab : a ≠ b) : onE x (a, b) = true ↔ OnS x a b := by
  have i1 : inR 2000 a := by have := far_in ha; unfold inR; omega
  have i2 : inR 2000 b := by have := far_in hb; unfold inR; omega
  have i3 : inR 2000 x := by have := far_in hx; unfold inR; omega
  have hd := dot_pos hab
  unfold onE
  dsimp only
  rw [subW_eq (by omega) i2 i1, subW_eq (by omega) i3 i1]
  have j1 := subZ_in i2 i1
  have j2 := subZ_in i3 i1
  rw [crossW_eq (by omega) (by omega) j1 j2, dotW_eq (by omega) (by omega) j2 j1, dotW_eq (by omega) (by omega) j2 j2, dotW_eq (by omega) (by omega) j1 j1]
  have hc : crossZ (subZ b a) (subZ x a) = sideZ a b x := by
    unfold crossZ subZ sideZ
    dsimp only
  rw [hc]
  simp only [Bool.and_eq_true, decide_eq_true_eq]
  constructor
  · rintro ⟨⟨h0, h1⟩, h2⟩
    refine onS_of h0 h1 (sq_lt ?_ (by omega))
    have hl := lagrange a b x
    rw [h0] at hl
    have := Int.mul_lt_mul_of_pos_right h2 hd
    omega
  · rintro ⟨D, t, h⟩
    obtain ⟨e1, e2⟩ := onS_dot h
    refine ⟨⟨onS_side h, ?_⟩, ?_⟩
    · refine nonneg_of h.pos ?_
      rw [e1]
      exact Int.mul_nonneg h.t0 (by omega)
    · have hp := h.pos
      refine Classical.byContradiction fun hn => ?_
      have a1 : D * D * dotZ (subZ b a) (subZ b a) ≤ D * (D * dotZ (subZ x a) (subZ x a)) := by
        rw [Int.mul_assoc]
        exact Int.mul_le_mul_of_nonneg_left (Int.mul_le_mul_of_nonneg_left (by omega) (by omega)) (by omega)
      rw [e2] at a1
      have a2 : t * t < D * D := by
        have := Int.mul_le_mul (show t ≤ D - 1 by have := h.t1; omega) (show t ≤ D - 1 by have := h.t1; omega) h.t0 (by omega)
        have h3 : (D - 1) * (D - 1) = D * D - D - D + 1 := by grind
        omega
      have := Int.mul_lt_mul_of_pos_right a2 hd
      omega
theorem between1 {u d : Int} (h1 : min 0 d ≤ u) (h2 : u ≤ max 0 d) : 0 ≤ u * d ∧ u * d ≤ d * d := by
  rcases Int.le_total 0 d with h | h
  · exact ⟨Int.mul_nonneg (by omega) h, Int.mul_le_mul_of_nonneg_right (by omega) h⟩
  · have a := Int.mul_nonneg (show 0 ≤ -u by omega) (show 0 ≤ -d by omega)
    have b := Int.mul_le_mul_of_nonneg_right (show -u ≤ -d by omega) (show 0 ≤ -d by omega)
    rw [Int.neg_mul_neg] at a b
    rw [Int.neg_mul_neg] at b
    exact ⟨a, b⟩
theorem between2 {D t u d : Int} (hD : 0 < D) (h0 : 0 ≤ t) (h1 : t ≤ D) (h : D * u = t * d) : min 0 d ≤ u ∧ u ≤ max 0 d := by
  rcases Int.le_total 0 d with hd | hd
  · have a : 0 ≤ u := nonneg_of hD (by rw [h]; exact Int.mul_nonneg h0 hd)
    have b : u ≤ d := le_of_mul hD (by rw [h]; exact Int.mul_le_mul_of_nonneg_right h1 hd)
    omega
  · have a : u ≤ 0 := nonpos_of hD (by rw [h]; exact Int.mul_nonpos_of_nonneg_of_nonpos h0 hd)
    have b : d ≤ u := le_of_mul hD (by rw [h]; exact Int.mul_le_mul_of_nonpos_right h1 hd)
    omega
theorem ron_iff {a b x : Pt} (ha : farB a = false) (hb : farB b = false) (hx : farB x = false) (hab : a ≠ b) : ronB a b x = true ↔ OnS x a b ∨ x = b := by
  have i1 : inR 2000 a := by have := far_in ha; unfold inR; omega
  have i2 : inR 2000 b := by have := far_in hb; unfold inR; omega
  have i3 : inR 2000 x := by have := far_in hx; unfold inR; omega
  have hd := dot_pos hab
  unfold ronB
  rw [sideW_eq (by omega) i1 i2 i3]
  simp only [Bool.and_eq_true, decide_eq_true_eq]
  constructor
  · rintro ⟨⟨h0, h1, h2⟩, h3, h4⟩
    obtain ⟨c1, c2⟩ := between1 (u := x.x - a.x) (d := b.x - a.x) (by omega) (by omega)
    obtain ⟨c3, c4⟩ := between1 (u := x.z - a.z) (d := b.z - a.z) (by omega) (by omega)
    have d1 : 0 ≤ dotZ (subZ x a) (subZ b a) := by
      unfold dotZ subZ; dsimp only; omega
    have d2 : dotZ (subZ x a) (subZ b a) ≤ dotZ (subZ b a) (subZ b a) := by
      unfold dotZ subZ; dsimp only; omega
    rcases Int.lt_or_eq_of_le d2 with d3 | d3
    · exact .inl (onS_of h0 d1 d3)
    · refine .inr ?_
      obtain ⟨e1, e2⟩ := onH_id a b x
      rw [h0, d3, Int.mul_zero] at e1 e2
      have f1 := Int.eq_of_mul_eq_mul_left (by omega) (show dotZ (subZ b a) (subZ b a) * (x.x - a.x) = dotZ (subZ b a) (subZ b a) * (b.x - a.x) by omega)
      have f2 := Int.eq_of_mul_eq_mul_left (by omega) (show dotZ (subZ b a) (subZ b a) * (x.z - a.z) = dotZ (subZ b a) (subZ b a) * (b.z - a.z) by omega)
      cases x; cases b
      simp only [Pt.mk.injEq]
      dsimp only at *
      omega
  · rintro (⟨D, t, h⟩ | rfl)
    · obtain ⟨c1, c2⟩ := between2 h.pos h.t0 (by have := h.t1; omega) h.ex
      obtain ⟨c3, c4⟩ := between2 h.pos h.t0 (by have := h.t1; omega) h.ez
      exact ⟨⟨onS_side h, by omega, by omega⟩, by omega, by omega⟩
    · rw [side_same2]
      omega
/-- all that a border needs of a shape -/
structure Good (l : List Pt) : Prop where
  near : Near l
  cvx : Cvx l
  len : 3 ≤ l.length
section
variable {l : List Pt} (g : Good l)
include g
theorem Good.far (i : Nat) : farB (cor l i) = false := g.near _ (cor_mem (by have := g.len; omega) i)
theorem Good.ne (i : Nat) : cor l i ≠ cor l (i + 1) := fun h => by
  have := g.cvx.edge i 2 (by omega) (by have := g.len; omega)
  rw [h, side_same1] at this
  omega
/-- a point on edge number i -/
abbrev BP (l : List Pt) (x : Pt) (i : Nat) : Prop := OnS x (cor l i) (cor l (i + 1))
omit g in
theorem BP.congr {x : Pt} {i j : Nat} (h : BP l x i) (hij : i % l.length = j % l.length) : BP l x j := by
  have e1 : cor l i = cor l j := cor_congr hij
  have e2 : cor l (i + 1) = cor l (j + 1) := cor_congr (by rw [← Nat.mod_add_mod, hij, Nat.mod_add_mod])
  unfold BP at *
  rw [← e1, ← e2]
  exact h
theorem Good.zero {x : Pt} {i k : Nat} (hk : k < l.length) (h : BP l x (i + k)) (h0 : sideZ (cor l i) (cor l (i + 1)) x = 0) : k = 0 ∨ (k = 1 ∧ x = cor l (i + 1)) := by
  obtain ⟨D, t, h⟩ := h
  rcases edge_zero g.cvx g.len hk h h0 with h1 | ⟨h1, h2⟩
  · exact .inl h1
  · subst h1; subst h2; exact .inr ⟨rfl, h.start⟩
omit g in
theorem off_mod {n i j : Nat} (hi : i < n) (_ : j < n) : j % n = (i + (if i ≤ j then j - i else j + n - i)) % n := by
  split
  · rw [show i + (j - i) = j from by omega]
  · rw [show i + (j + n - i) = j + n from by omega, Nat.add_mod_right]
theorem Good.uniq {x : Pt} {i j : Nat} (hi : i < l.length) (hj : j < l.length) (h1 : BP l x i) (h2 : BP l x j) : i = j := by
  have s1 : sideZ (cor l i) (cor l (i + 1)) x = 0 := by obtain ⟨D, t, h⟩ := h1; exact onS_side h
  have s2 : sideZ (cor l j) (cor l (j + 1)) x = 0 := by obtain ⟨D, t, h⟩ := h2; exact onS_side h
  have a := g.zero (by split <;> omega) (h2.congr (off_mod hi hj)) s1
  have b := g.zero (by split <;> omega) (h1.congr (off_mod hj hi)) s2
  have := g.len
  rcases a with a | ⟨a, _⟩ <;> rcases b with b | ⟨b, _⟩ <;> (split at a <;> split at b <;> omega)
theorem Good.edge {x : Pt} (h : 0 ≤ edgeI l x) : ∃ i : Nat, edgeI l x = (i : Int) ∧ i < l.length ∧ BP l x i ∧ farB x = false := by
  have hf : farB x = false := by
    cases hf : farB x with
    | false => rfl
    | true => rw [edgeI, if_pos hf] at h; omega
  have hl := (edge_lt (l := l) (x := x)).1
  rw [edgeI, if_neg (by rw [hf]; exact Bool.false_ne_true)] at h hl ⊢
  unfold findI at h hl ⊢
  split at h
  · rename_i ha
    rw [if_pos ha] at hl
    rw [if_pos ha]
    refine ⟨_, rfl, by omega, ?_, hf⟩
    have hlt : (edgesL l).findIdx (onE x) < (edgesL l).length := List.findIdx_lt_length_of_exists (by simpa using ha)
    have hp : onE x (edgesL l)[(edgesL l).findIdx (onE x)] = true := List.findIdx_getElem
    have hg := edgesL_get (l := l) (i := (edgesL l).findIdx (onE x)) (by omega)
    have he : (edgesL l)[(edgesL l).findIdx (onE x)] = (cor l ((edgesL l).findIdx (onE x)), cor l ((edgesL l).findIdx (onE x) + 1)) := (List.getElem?_eq_some_iff.1 hg).2
    rw [he] at hp
    exact (onE_iff (g.far _) (g.far _) hf (g.ne _)).1 hp
  · omega
theorem Good.edge_at {x : Pt} {i : Nat} (hf : farB x = false) (hi : i < l.length) (h : BP l x i) : edgeI l x = (i : Int) := by
  rw [edgeI, if_neg (by rw [hf]; exact Bool.false_ne_true)]
  refine findI_at (edgesL_get hi) (fun j y hj hy => ?_) ((onE_iff (g.far _) (g.far _) hf (g.ne _)).2 h)
  rw [edgesL_get (by omega)] at hy
  cases hy
  cases ho : onE x (cor l j, cor l (j + 1)) with
  | false => rfl
  | true =>
    have := g.uniq hi (by omega) h ((onE_iff (g.far _) (g.far _) hf (g.ne _)).1 ho)
    omega
omit g in
theorem corners {i : Nat} (hi : i < l.length) : ptAt l (i : Int) = cor l i ∧ nextL l (i : Int) = cor l (i + 1) := ⟨ptAt_cor hi, nextL_cor i⟩
theorem Good.border {x : Pt} : rbordB l x = decide (0 ≤ edgeI l x) := by
  rw [Bool.eq_iff_iff, decide_eq_true_eq]
  constructor
  · intro h
    unfold rbordB rbordN at h
    rw [Bool.and_eq_true, Bool.not_eq_true', Bool.not_eq_true'] at h
    obtain ⟨hf, ha⟩ := h
    have hex : ∃ i, i < l.length ∧ ronB (ptAt l (i : Nat)) (nextL l (i : Nat)) x = true := Classical.byContradiction fun hn => by
      rw [allI_true (fun i hi => ?_)] at ha
      · cases ha
      · cases hr : ronB (ptAt l (i : Nat)) (nextL l (i : Nat)) x with
        | false => rfl
        | true => exact absurd ⟨i, hi, hr⟩ hn
    obtain ⟨i, hi, hr⟩ := hex
    rw [(corners hi).1, (corners hi).2, ron_iff (g.far _) (g.far _) hf (g.ne _)] at hr
    rcases hr with hr | hr
    · rw [g.edge_at hf hi hr]; omega
    · have hlt : (i + 1) % l.length < l.length := Nat.mod_lt _ (by omega)
      have : BP l x (i + 1) := ⟨1, 0, by rw [hr]; exact OnH.at 1 (by omega)⟩
      rw [g.edge_at hf hlt (this.congr (Nat.mod_mod _ _).symm)]; omega
  · intro h
    obtain ⟨i, _, hi, hb, hf⟩ := g.edge h
    refine rbord_yes (i := (i : Int)) hf (by omega) (by omega) ?_
    rw [(corners hi).1, (corners hi).2, ron_iff (g.far _) (g.far _) hf (g.ne _)]
    exact .inl hb
/-- a border point lies on an edge's line only on that edge -/
theorem Good.line {x : Pt} {a i : Nat} (hf : farB x = false) (ha : a < l.length) (hb : BP l x a) (hi : i < l.length) : sideZ (cor l i) (cor l (i + 1)) x = 0 ↔ ronB (cor l i) (cor l (i + 1)) x = true := by
  rw [ron_iff (g.far _) (g.far _) hf (g.ne _)]
  constructor
  · intro h0
    rcases g.zero (by split <;> omega) (hb.congr (off_mod hi ha)) h0 with h1 | ⟨_, h2⟩
    · have : a = i := by split at h1 <;> omega
      subst this; exact .inl hb
    · exact .inr h2
  · rintro (⟨D, t, h⟩ | rfl)
    · exact onS_side h
    · rw [side_same2]
end
end Go.Stn

namespace Go.Stn
open Go Go.K Go.RowKit
section
variable {l : List Pt} (g : Good l)
include g
structure Cut (l : List Pt) (p q : Pt) (a m : Nat) (D s E t : Int) : Prop where
  fp : farB p = false
  fq : farB q = false
  ha : a < l.length
  hp : OnH p (cor l a) (cor l (a + 1)) D s
  hq : OnH q (cor l (a + m)) (cor l (a + m + 1)) E t
  m1 : 1 ≤ m
  mn : m < l.length
  hs : m + 1 = l.length → 0 < s
  ht : m = 1 → 0 < t
  ep : edgeI l p = (a : Int)
  eq : edgeI l q = (((a + m) % l.length : Nat) : Int)
variable {p q : Pt} {a m : Nat} {D s E t : Int} (c : Cut l p q a m D s E t)
include c
theorem Good.left (k : Nat) (h1 : m < k) (h2 : k < l.length ∨ (k = l.length ∧ 0 < s)) : 0 < sideZ p q (cor l (a + k)) := by
  rcases h2 with h2 | ⟨rfl, h2⟩
  · exact arc_pos g.cvx c.hp c.hq c.m1 h1 h2
  · exact arc_end g.cvx c.hp c.hq c.m1 c.mn g.len h2 c.ht
omit g in
theorem Cut.first (h : s = 0) : cor l (a + l.length) = p := by
  have := c.hp
  rw [h] at this
  rw [cor_add]
  exact this.start.symm
theorem Good.side (i : Nat) : sideW p q (cor l i) = sideZ p q (cor l i) := by
  have i1 : inR 2000 p := by have := far_in c.fp; unfold inR; omega
  have i2 : inR 2000 q := by have := far_in c.fq; unfold inR; omega
  have ic : inR 2000 (cor l i) := by have := far_in (g.far i); unfold inR; omega
  exact sideW_eq (by omega) i1 i2 ic
/-- the corners to the left, in order -/
def arcL (l : List Pt) (p q : Pt) (a m : Nat) : List Pt := ((List.range (l.length - m)).map fun j => cor l (a + m + 1 + j)).filter fun c => decide (0 < sideW p q c)
/-- the program's part -/
theorem Good.rn : ∀ (k j : Nat), j + k + m = l.length → rightN l p k (((a + m) % l.length : Nat) + 1 + (j : Int)) = (((List.range k).map fun i => cor l (a + m + 1 + j + i)).filter fun c => decide (0 < sideW p q c)) ++ [p]
  | 0, j, _ => rfl
  | k + 1, j, hk => by
    have hat : atL l (((a + m) % l.length : Nat) + 1 + (j : Int)) = cor l (a + m + 1 + j) := by
      rw [atL_cor (n := (a + m) % l.length + (1 + j) + l.length) (by omega), cor_add, cor_add_mod]
      congr 1
      omega
    have hcor : cor l (a + m + 1 + j) = cor l (a + (m + 1 + j)) := by congr 1; omega
    have hrec := Good.rn k (j + 1) (by omega)
    rw [show (((a + m) % l.length : Nat) : Int) + 1 + ((j + 1 : Nat) : Int) = (((a + m) % l.length : Nat) : Int) + 1 + (j : Int) + 1 from by omega] at hrec
    have hmap : (List.range (k + 1)).map (fun i => cor l (a + m + 1 + j + i)) = cor l (a + m + 1 + j) :: (List.range k).map (fun i => cor l (a + m + 1 + (j + 1) + i)) := by
      rw [List.range_succ_eq_map, List.map_cons, List.map_map]
      congr 1
      apply List.map_congr_left
      intro i _
      show cor l (a + m + 1 + j + (i + 1)) = _
      congr 1
      omega
    unfold rightN
    rw [hat, hmap]
    by_cases hlast : m + 1 + j = l.length ∧ s = 0
    · have hk0 : k = 0 := by omega
      subst hk0
      have he : cor l (a + m + 1 + j) = p := by rw [hcor, hlast.1]; exact c.first hlast.2
      rw [he, if_pos (eqB_iff.2 rfl)]
      have hz : ¬ 0 < sideW p q p := by
        have := g.side c (a + l.length)
        rw [c.first hlast.2, side_same3] at this
        omega
      simp [hz]
    · have hpos : 0 < sideW p q (cor l (a + m + 1 + j)) := by
        rw [g.side c, hcor]
        refine g.left c _ (by omega) ?_
        by_cases h : m + 1 + j = l.length
        · refine .inr ⟨h, ?_⟩
          have := c.hp.t0
          have : s ≠ 0 := fun h0 => hlast ⟨h, h0⟩
          omega
        · exact .inl (by omega)
      have hne : ¬ eqB (cor l (a + m + 1 + j)) p = true := fun he => by
        have := eqB_iff.1 he
        rw [g.side c, this, side_same3] at hpos
        omega
      rw [if_neg hne, hrec]
      simp [hpos]
omit g in
theorem Cut.rt : rightT l q p = l.length - m := by
  have := c.ha
  have := c.mn
  have := c.m1
  have hlt := Nat.mod_lt (a + m) (show l.length > 0 by omega)
  unfold rightT
  rw [c.ep, c.eq]
  rcases Nat.lt_or_ge (a + m) l.length with h | h
  · rw [Nat.mod_eq_of_lt h, if_neg (by omega)]; omega
  · rw [Nat.mod_eq_sub_mod h, Nat.mod_eq_of_lt (by omega), if_pos (by omega)]; omega
theorem Good.rl : rightL l q p = q :: (arcL l p q a m ++ [p]) := by
  unfold rightL arcL
  rw [c.rt, c.eq]
  have := g.rn c (l.length - m) 0 (by have := c.mn; omega)
  rw [show (((a + m) % l.length : Nat) : Int) + 1 + ((0 : Nat) : Int) = (((a + m) % l.length : Nat) : Int) + 1 from by omega] at this
  rw [this]
end
end Go.Stn

namespace Go.Stn
open Go Go.K Go.RowKit
theorem cor_map {l : List Pt} (h : 0 < l.length) (f : Pt → Pt) (i : Nat) : cor (l.map f) i = f (cor l i) := by
  have hi : i % l.length < l.length := Nat.mod_lt _ h
  unfold cor
  rw [List.length_map]
  simp [hi]
theorem cor_rev {l : List Pt} {i k : Nat} (hi : i < l.length) (hk : k ≤ l.length) : cor l.reverse (i + k) = cor l (l.length - 1 - i + (l.length - k)) := by
  have hn : 0 < l.length := by omega
  have h1 : (i + k) % l.length < l.length := Nat.mod_lt _ hn
  unfold cor
  rw [List.length_reverse, List.getD_eq_getElem?_getD, List.getElem?_reverse h1, ← List.getD_eq_getElem?_getD]
  congr 1
  rcases Nat.lt_or_ge (i + k) l.length with h | h
  · rw [Nat.mod_eq_of_lt h, Nat.mod_eq_sub_mod (by omega), Nat.mod_eq_of_lt (by omega)]; omega
  · rw [Nat.mod_eq_sub_mod h]
    rcases Nat.lt_or_ge (i + k - l.length) l.length with h2 | h2
    · rw [Nat.mod_eq_of_lt h2, Nat.mod_eq_of_lt (by omega)]; omega
    · omega
def flipZ (p : Pt) (way : Int) : Pt := if 3 < way then ⟨-p.x, p.z⟩ else p
def quartZ (p : Pt) (k : Int) : Pt := if k = 0 then p else if k = 1 then ⟨-p.z, p.x⟩ else if k = 2 then ⟨-p.x, -p.z⟩ else ⟨p.z, -p.x⟩
def moveZ (way : Int) (p : Pt) : Pt := quartZ (flipZ p way) (way.tmod 4)
theorem move_sub (way : Int) (p q : Pt) : moveZ way (subZ p q) = subZ (moveZ way p) (moveZ way q) := by
  have hf : flipZ (subZ p q) way = subZ (flipZ p way) (flipZ q way) := by
    unfold flipZ
    by_cases hw : 3 < way
    · rw [if_pos hw, if_pos hw, if_pos hw]
      unfold subZ
      simp only [Pt.mk.injEq, and_true]
      omega
    · rw [if_neg hw, if_neg hw, if_neg hw]
  unfold moveZ
  rw [hf]
  generalize flipZ p way = p
  generalize flipZ q way = q
  generalize way.tmod 4 = k
  unfold quartZ subZ
  by_cases h0 : k = 0
  · simp only [if_pos h0]
  · by_cases h1 : k = 1
    · simp only [if_neg h0, if_pos h1, Pt.mk.injEq, and_true]
      omega
    · by_cases h2 : k = 2
      · simp only [if_neg h0, if_neg h1, if_pos h2, Pt.mk.injEq]
        omega
      · simp only [if_neg h0, if_neg h1, if_neg h2, Pt.mk.injEq, true_and]
        omega
theorem move_cross (way : Int) (p q : Pt) : crossZ (moveZ way p) (moveZ way q) = if 3 < way then -(crossZ p q) else crossZ p q := by
  have hq : ∀ (k : Int) (p q : Pt), crossZ (quartZ p k) (quartZ q k) = crossZ p q := fun k p q => by
    unfold quartZ crossZ
    repeat' split
    all_goals (first | rfl | (dsimp only; grind))
  unfold moveZ
  rw [hq]
  unfold flipZ
  split
  · unfold crossZ; dsimp only; grind
  · rfl
theorem side_cross (p q r : Pt) : sideZ p q r = crossZ (subZ q p) (subZ r p) := by
  unfold sideZ crossZ subZ
  rfl
theorem move_side (way : Int) (p q r : Pt) : sideZ (moveZ way p) (moveZ way q) (moveZ way r) = if 3 < way then -(sideZ p q r) else sideZ p q r := by
  rw [side_cross, side_cross, ← move_sub, ← move_sub, move_cross]
/-- a list of corners laid in a way -/
def turnL (way : Int) (l : List Pt) : List Pt := if 3 < way then (l.map (moveZ way)).reverse else l.map (moveZ way)
theorem turnL_len (way : Int) (l : List Pt) : (turnL way l).length = l.length := by unfold turnL; split <;> simp
theorem Cvx.turn {l : List Pt} (h : Cvx l) (h3 : 3 ≤ l.length) (way : Int) : Cvx (turnL way l) := by
  intro i k hi h2 hk
  rw [turnL_len] at hi hk
  unfold turnL
  split
  · rename_i hw
    rw [← List.map_reverse]
    have hr : 0 < l.reverse.length := by simp; omega
    rw [cor_map hr, cor_map hr, cor_map hr, move_side, if_pos hw]
    have e1 := cor_rev (l := l) (i := i) (k := 0) hi (by omega)
    have e2 := cor_rev (l := l) (i := i) (k := 1) hi (by omega)
    have e3 := cor_rev (l := l) (i := i) (k := k) hi (by omega)
    rw [Nat.add_zero, Nat.sub_zero] at e1
    rw [e1, e2, e3]
    have he := h.edge (l.length - 1 - i + (l.length - 1)) (l.length - k + 1) (by omega) (by omega)
    rw [show l.length - 1 - i + (l.length - 1) + 1 = l.length - 1 - i + l.length from by omega, show l.length - 1 - i + (l.length - 1) + (l.length - k + 1) = l.length - 1 - i + (l.length - k) + l.length from by omega, cor_add _ , cor_add] at he
    rw [cor_add]
    unfold sideZ at *
    grind
  · rename_i hw
    rw [cor_map (by omega), cor_map (by omega), cor_map (by omega), move_side, if_neg hw]
    exact h i k hi h2 hk
theorem Cvx.sub {l : List Pt} (h : Cvx l) (h0 : 0 < l.length) (o : Pt) : Cvx (l.map fun p => subZ p o) := by
  intro i k hi h2 hk
  rw [List.length_map] at hi hk
  rw [cor_map h0, cor_map h0, cor_map h0]
  have := h i k hi h2 hk
  unfold sideZ subZ at *
  dsimp only
  grind
end Go.Stn

namespace Go.Stn
open Go Go.K Go.RowKit
theorem edge_steps_pos {p q : Pt} (h : p ≠ q) : 0 < stepsI p q := by
  unfold stepsI stepsN
  have : ¬ (q.x = p.x ∧ q.z = p.z) := fun hh => h (by cases p; cases q; simp_all)
  have h2 : 0 < Nat.gcd (q.x - p.x).natAbs (q.z - p.z).natAbs := by
    rcases Nat.eq_zero_or_pos (q.x - p.x).natAbs with hx | hx
    · rw [hx, Nat.gcd_zero_left]; omega
    · exact Nat.gcd_pos_of_pos_left _ hx
  omega
theorem edge_steps_le {p q : Pt} (hp : farB p = false) (hq : farB q = false) (h : p ≠ q) : stepsI p q ≤ 2000 := by
  have a := near_in hp
  have b := near_in hq
  unfold stepsI stepsN
  have : ¬ (q.x = p.x ∧ q.z = p.z) := fun hh => h (by cases p; cases q; simp_all)
  rcases Nat.eq_zero_or_pos (q.x - p.x).natAbs with hx | hx
  · rw [hx, Nat.gcd_zero_left]; omega
  · have := Nat.gcd_le_left (q.z - p.z).natAbs hx
    omega
theorem whole_step {dx dz ux uz : Int} (hne : ¬ (dx = 0 ∧ dz = 0)) (h : dx * uz = dz * ux) :
    ∃ k : Int, ux = dx.tdiv (Nat.gcd dx.natAbs dz.natAbs : Nat) * k ∧ uz = dz.tdiv (Nat.gcd dx.natAbs dz.natAbs : Nat) * k := by
  have hg : 0 < Nat.gcd dx.natAbs dz.natAbs := by
    rcases Nat.eq_zero_or_pos dx.natAbs with hx | hx
    · rw [hx, Nat.gcd_zero_left]; omega
    · exact Nat.gcd_pos_of_pos_left _ hx
  have hgx : ((Nat.gcd dx.natAbs dz.natAbs : Nat) : Int) ∣ dx := Int.ofNat_dvd_left.2 (Nat.gcd_dvd_left _ _)
  have hgz : ((Nat.gcd dx.natAbs dz.natAbs : Nat) : Int) ∣ dz := Int.ofNat_dvd_left.2 (Nat.gcd_dvd_right _ _)
  have hco := coprime_parts (x := dx.natAbs) (z := dz.natAbs) hg
  generalize hgg : Nat.gcd dx.natAbs dz.natAbs = g at *
  obtain ⟨a, ha⟩ := hgx
  obtain ⟨b, hb⟩ := hgz
  have hg0 : (g : Int) ≠ 0 := by omega
  have e1 : dx.tdiv (g : Int) = a := by rw [ha]; exact Int.mul_tdiv_cancel_left _ hg0
  have e2 : dz.tdiv (g : Int) = b := by rw [hb]; exact Int.mul_tdiv_cancel_left _ hg0
  have f1 : dx.natAbs / g = a.natAbs := by
    rw [ha, Int.natAbs_mul, Int.natAbs_natCast]; exact Nat.mul_div_cancel_left _ (by omega)
  have f2 : dz.natAbs / g = b.natAbs := by
    rw [hb, Int.natAbs_mul, Int.natAbs_natCast]; exact Nat.mul_div_cancel_left _ (by omega)
  rw [f1, f2] at hco
  rw [e1, e2]
  have hk : a * uz = b * ux := by
    have : (g : Int) * (a * uz) = (g : Int) * (b * ux) := by
      rw [← Int.mul_assoc, ← Int.mul_assoc, ← ha, ← hb]; exact h
    exact Int.eq_of_mul_eq_mul_left hg0 this
  by_cases ha0 : a = 0
  · subst ha0
    rw [Int.natAbs_zero, Nat.coprime_zero_left] at hco
    have hbz : b = 1 ∨ b = -1 := by omega
    rw [Int.zero_mul] at hk
    rcases hbz with rfl | rfl
    · exact ⟨uz, by omega, by omega⟩
    · exact ⟨-uz, by omega, by omega⟩
  · have hd : a.natAbs ∣ ux.natAbs := by
      refine hco.dvd_of_dvd_mul_left ?_
      rw [← Int.natAbs_mul, ← hk, Int.natAbs_mul]
      exact Nat.dvd_mul_right _ _
    obtain ⟨k, hk2⟩ := Int.natAbs_dvd_natAbs.1 hd
    refine ⟨k, hk2, ?_⟩
    rw [hk2] at hk
    have : a * uz = a * (b * k) := by rw [hk]; grind
    exact Int.eq_of_mul_eq_mul_left ha0 this
theorem bp_eq {p q : Pt} (hp : farB p = false) (hq : farB q = false) (hne : p ≠ q) {k : Int} (h0 : 0 ≤ k) (h1 : k ≤ stepsI p q) :
    bpW p q k = ⟨p.x + (q.x - p.x).tdiv (stepsI p q) * k, p.z + (q.z - p.z).tdiv (stepsI p q) * k⟩ := by
  have hsub := near_sub hp hq
  have ha := near_in hp
  have hs := edge_steps_le hp hq hne
  have hqx : -2000 ≤ (q.x - p.x).tdiv (stepsI p q) ∧ (q.x - p.x).tdiv (stepsI p q) ≤ 2000 := by
    have := Int.natAbs_tdiv_le_natAbs (q.x - p.x) (stepsI p q)
    omega
  have hqz : -2000 ≤ (q.z - p.z).tdiv (stepsI p q) ∧ (q.z - p.z).tdiv (stepsI p q) ≤ 2000 := by
    have := Int.natAbs_tdiv_le_natAbs (q.z - p.z) (stepsI p q)
    omega
  obtain ⟨m1, m2⟩ := mul_bd hqx.1 hqx.2 (show -2000 ≤ k by omega) (show k ≤ 2000 by omega)
  obtain ⟨m3, m4⟩ := mul_bd hqz.1 hqz.2 (show -2000 ≤ k by omega) (show k ≤ 2000 by omega)
  unfold bpW
  rw [hsub.1]
  dsimp only
  rw [show W ((q.x - p.x).tdiv (stepsI p q)) = (q.x - p.x).tdiv (stepsI p q) from W_in (by omega) (by omega), show W ((q.z - p.z).tdiv (stepsI p q)) = (q.z - p.z).tdiv (stepsI p q) from W_in (by omega) (by omega),
    show W ((q.x - p.x).tdiv (stepsI p q) * k) = (q.x - p.x).tdiv (stepsI p q) * k from W_in (by omega) (by omega), show W ((q.z - p.z).tdiv (stepsI p q) * k) = (q.z - p.z).tdiv (stepsI p q) * k from W_in (by omega) (by omega)]
  rw [W_in (by omega) (by omega), W_in (by omega) (by omega)]
theorem step_mul (p q : Pt) : (q.x - p.x).tdiv (stepsI p q) * stepsI p q = q.x - p.x ∧ (q.z - p.z).tdiv (stepsI p q) * stepsI p q = q.z - p.z :=
  ⟨Int.tdiv_mul_cancel (Int.ofNat_dvd_left.2 (Nat.gcd_dvd_left _ _)), Int.tdiv_mul_cancel (Int.ofNat_dvd_left.2 (Nat.gcd_dvd_right _ _))⟩
/-- the points that the program names lie on the edge -/
theorem bp_on {p q : Pt} (hp : farB p = false) (hq : farB q = false) (hne : p ≠ q) {k : Int} (h0 : 0 ≤ k) (h1 : k < stepsI p q) : OnH (bpW p q k) p q (stepsI p q) k := by
  obtain ⟨e1, e2⟩ := step_mul p q
  refine ⟨edge_steps_pos hne, h0, h1, ?_, ?_⟩
  · rw [bp_eq hp hq hne h0 (by omega)]
    show stepsI p q * (p.x + (q.x - p.x).tdiv (stepsI p q) * k - p.x) = k * (q.x - p.x)
    rw [← e1]
    grind
  · rw [bp_eq hp hq hne h0 (by omega)]
    show stepsI p q * (p.z + (q.z - p.z).tdiv (stepsI p q) * k - p.z) = k * (q.z - p.z)
    rw [← e2]
    grind
/-- each whole point on the edge is one of them -/
theorem on_bp {p q x : Pt} (hp : farB p = false) (hq : farB q = false) (hne : p ≠ q) (h : OnS x p q) : ∃ k : Int, 0 ≤ k ∧ k < stepsI p q ∧ x = bpW p q k := by
  obtain ⟨D, t, h⟩ := h
  have hd : ¬ (q.x - p.x = 0 ∧ q.z - p.z = 0) := fun hh => hne (by cases p; cases q; simp only [Pt.mk.injEq]; dsimp only at hh; omega)
  have hc : (q.x - p.x) * (x.z - p.z) = (q.z - p.z) * (x.x - p.x) := by
    have := onS_side h
    unfold sideZ at this
    omega
  obtain ⟨k, k1, k2⟩ := whole_step hd hc
  have hs := edge_steps_pos hne
  have k1' : x.x - p.x = (q.x - p.x).tdiv (stepsI p q) * k := k1
  have k2' : x.z - p.z = (q.z - p.z).tdiv (stepsI p q) * k := k2
  obtain ⟨e1, e2⟩ := step_mul p q
  have hex := h.ex
  have hez := h.ez
  rw [k1', ← e1] at hex
  rw [k2', ← e2] at hez
  have hDk : D * k = t * stepsI p q := by
    by_cases h5 : (q.x - p.x).tdiv (stepsI p q) = 0
    · by_cases h6 : (q.z - p.z).tdiv (stepsI p q) = 0
      · exfalso
        rw [h5, Int.zero_mul] at e1
        rw [h6, Int.zero_mul] at e2
        exact hd ⟨e1.symm, e2.symm⟩
      · refine Int.eq_of_mul_eq_mul_left h6 ?_
        calc (q.z - p.z).tdiv (stepsI p q) * (D * k) = D * ((q.z - p.z).tdiv (stepsI p q) * k) := by grind
          _ = t * ((q.z - p.z).tdiv (stepsI p q) * stepsI p q) := by
            have e2' : (q.z - p.z).tdiv (stepsI p q) * stepsI p q = q.z - p.z := e2
            have := h.ez
            rw [k2'] at this
            rw [this, e2']
          _ = _ := by grind
    · refine Int.eq_of_mul_eq_mul_left h5 ?_
      calc (q.x - p.x).tdiv (stepsI p q) * (D * k) = D * ((q.x - p.x).tdiv (stepsI p q) * k) := by grind
        _ = t * ((q.x - p.x).tdiv (stepsI p q) * stepsI p q) := by
          have e1' : (q.x - p.x).tdiv (stepsI p q) * stepsI p q = q.x - p.x := e1
          have := h.ex
          rw [k1'] at this
          rw [this, e1']
        _ = _ := by grind
  have hk0 : 0 ≤ k := nonneg_of h.pos (by rw [hDk]; exact Int.mul_nonneg h.t0 (by omega))
  have hk1 : k < stepsI p q := Classical.byContradiction fun hn => by
    have a := Int.mul_le_mul_of_nonneg_left (show stepsI p q ≤ k by omega) (show 0 ≤ D by have := h.pos; omega)
    have b := Int.mul_lt_mul_of_pos_right h.t1 hs
    omega
  refine ⟨k, hk0, hk1, ?_⟩
  rw [bp_eq hp hq hne hk0 (by omega)]
  cases x
  simp only [Pt.mk.injEq]
  dsimp only at *
  omega
section
variable {l : List Pt} (g : Good l)
include g
/-- **the border points are what lies on an edge** -/
theorem Good.mem {x : Pt} : x ∈ borderL l ↔ farB x = false ∧ ∃ i, i < l.length ∧ BP l x i := by
  unfold borderL
  rw [List.mem_flatMap]
  constructor
  · rintro ⟨e, he, hx⟩
    obtain ⟨i, hi, rfl⟩ := List.getElem_of_mem he
    rw [edges_len'] at hi
    have hg := (List.getElem?_eq_some_iff.1 (edgesL_get hi)).2
    rw [hg] at hx
    unfold borderE at hx
    obtain ⟨k, hk, rfl⟩ := List.mem_map.1 hx
    rw [List.mem_range] at hk
    dsimp only at hk ⊢
    have hon := bp_on (g.far i) (g.far (i + 1)) (g.ne i) (k := (k : Int)) (by omega) (by unfold stepsI; omega)
    refine ⟨?_, i, hi, _, _, hon⟩
    have a := near_in (g.far i)
    have b := near_in (g.far (i + 1))
    obtain ⟨c1, c2⟩ := between2 hon.pos hon.t0 (by have := hon.t1; omega) hon.ex
    obtain ⟨c3, c4⟩ := between2 hon.pos hon.t0 (by have := hon.t1; omega) hon.ez
    unfold farB
    simp
    omega
  · rintro ⟨hf, i, hi, h⟩
    obtain ⟨k, k0, k1, rfl⟩ := on_bp (g.far i) (g.far (i + 1)) (g.ne i) h
    refine ⟨_, List.mem_of_getElem? (edgesL_get hi), ?_⟩
    unfold borderE
    refine List.mem_map.2 ⟨k.toNat, ?_, by rw [show ((k.toNat : Nat) : Int) = k from by omega]⟩
    rw [List.mem_range]
    show k.toNat < stepsN (cor l i) (cor l (i + 1))
    unfold stepsI at k1
    omega
end
end Go.Stn

namespace Go.Proofs.YtahahmelnaphjaaDoor
open Go.K Go.Stn Go.RowKit
theorem en30 : En Tryd.prog 30 := en_of Tryd.func30 (by kernel_rfl) (by kernel_rfl)
set_option maxRecDepth 100000 in
theorem y_eql24 {c : Cx} {ds : List Deferred} {H : List Res} {T : List (Nat × Value)} {d : Option Nat} {ty : TypeId} {ps : String} {af : Array Edge} {g : Option (Nat × Bool)} {x y : Operand} {t' : TypeId} {a0 a1 c0 c1 : Int}
    (hx : evo T x = some (.agg #[.int .i64 a0, .int .i64 a1])) (hy : evo T y = some (.agg #[.int .i64 c0, .int .i64 c1])) (hP : c.P = Tryd.prog := by rfl) : Y c ds H T ⟨d, .binOp .eql 24 x y t', ty, ps, af, g⟩ (.bool ((decide (a0 = c0) && decide (a1 = c1)))) := by
  refine ⟨fun a w ha _ => ?_⟩
  unfold Yld
  simp only [execOp, ha.eval hx, ha.eval hy]
  rw [hP]
  by_cases h0 : a0 = c0
  · subst h0
    by_cases h1 : a1 = c1
    · subst h1
      (go_simp; try exact Ext.rfl)
    · (go_simp; try exact Ext.rfl)
  · (go_simp; try exact Ext.rfl)
end Go.Proofs.YtahahmelnaphjaaDoor

namespace Go.Proofs.YtahahmelnaphjaaDoor
open Go.K Go.Stn Go.RowKit
theorem en94 : En Tryd.prog 94 := en_of Tryd.func94 (by kernel_rfl) (by kernel_rfl)
end Go.Proofs.YtahahmelnaphjaaDoor

namespace Go.Stn
open Go Go.K Go.RowKit
structure EdgeF (f : Pt → Pt → Int) : Prop where
  anti : ∀ u v, f u v = -f v u
  sub : ∀ u v x, sideZ u v x = 0 → f u v = f u x + f x v
theorem EdgeF.same {f : Pt → Pt → Int} (h : EdgeF f) (u : Pt) : f u u = 0 := by have := h.anti u u; omega
end Go.Stn

namespace Go.Stn
open Go Go.K Go.RowKit
/-- does a corner lie above the bed? -/
def upB (p : Pt) : Bool := decide (0 < p.z)
def lowL (l : List Pt) : List Pt := l.filter fun p => !upB p
end Go.Stn

namespace Go.Stn
open Go Go.K Go.RowKit
/-- deleting: of the first j the low ones lie in front, what is to come lies as it lay -/
structure DelI (l m : List Pt) (i j : Int) : Prop where
  i0 : 0 ≤ i
  ij : i < j
  jl : j ≤ (l.length : Int)
  len : m.length = l.length
  front : m.take i.toNat = lowL (l.take j.toNat)
  back : m.drop j.toNat = l.drop j.toNat
theorem DelI.get {l m : List Pt} {i j : Int} (h : DelI l m i j) : m.getD j.toNat default = l.getD j.toNat default := by
  have hb := congrArg (fun x : List Pt => x[0]?) h.back
  simp only [List.getElem?_drop, Nat.add_zero] at hb
  simp only [List.getD_eq_getElem?_getD, hb]
theorem DelI.keep {l m : List Pt} {i j : Int} (h : DelI l m i j) (hj : j < (l.length : Int)) (hu : upB (m.getD j.toNat default) = false) : DelI l (m.set i.toNat (m.getD j.toNat default)) (i + 1) (j + 1) := by
  have hi0 := h.i0; have hij := h.ij; have hl := h.len
  have hg := h.get
  refine ⟨by omega, by omega, by omega, by rw [List.length_set]; exact hl, ?_, ?_⟩
  · rw [take_succ (l := l) (by omega) (by omega), take_succ (l := m.set _ _) hi0 (by rw [List.length_set]; omega)]
    unfold lowL
    rw [List.filter_append, List.filter_cons, if_pos (by rw [← hg, hu]; rfl), List.filter_nil]
    have h2 := h.front
    unfold lowL at h2
    rw [← h2, List.take_set_of_le (Nat.le_refl _), hg]
    congr 1
    rw [List.getD_eq_getElem?_getD, List.getElem?_set_self (by omega)]
    rfl
  · rw [List.drop_set_of_lt (by omega), show (j + 1).toNat = j.toNat + 1 from by omega, ← List.drop_drop, h.back, List.drop_drop]
theorem DelI.skip {l m : List Pt} {i j : Int} (h : DelI l m i j) (hj : j < (l.length : Int)) (hu : upB (m.getD j.toNat default) = true) : DelI l m i (j + 1) := by
  have hi0 := h.i0; have hij := h.ij; have hl := h.len
  have hg := h.get
  refine ⟨by omega, by omega, by omega, hl, ?_, ?_⟩
  · rw [take_succ (l := l) (by omega) (by omega)]
    unfold lowL
    rw [List.filter_append, List.filter_cons, if_neg (by rw [← hg, hu]; decide), List.filter_nil, List.append_nil]
    exact h.front
  · rw [show (j + 1).toNat = j.toNat + 1 from by omega, ← List.drop_drop, h.back, List.drop_drop]
theorem DelI.done {l m : List Pt} {i j : Int} (h : DelI l m i j) (hj : ¬ j < (l.length : Int)) : m.take i.toNat = lowL l ∧ i.toNat = (lowL l).length ∧ m.length = l.length := by
  have hi0 := h.i0; have hij := h.ij; have hl := h.len; have hjl := h.jl
  have hf := h.front
  rw [take_all (l := l) (by omega)] at hf
  have := congrArg List.length hf
  rw [List.length_take] at this
  exact ⟨hf, by omega, hl⟩
end Go.Stn

namespace Go.K
open Go Go.RowKit
section
variable {α : Type} {k : Nat} {enc : α → List Value}
theorem row_over (he : Enc k enc) {l m : List α} {lo cap off : Nat} {cs : List Value} (h : lo + m.length ≤ l.length) (g1 : l.length ≤ cap) (g2 : off + cap * k ≤ cs.length) (g3 : (cs.drop off).take (l.length * k) = l.flatMap enc) :
    ((over cs (off + lo * k) (m.flatMap enc)).drop off).take (l.length * k) = (l.take lo ++ (m ++ l.drop (lo + m.length))).flatMap enc := by
  have hm : (m.flatMap enc).length = m.length * k := flat_len he m
  have hll : l.length * k ≤ cap * k := Nat.mul_le_mul_right _ g1
  have hik : lo * k + m.length * k ≤ l.length * k := by rw [← Nat.add_mul]; exact Nat.mul_le_mul_right _ h
  rw [over_eq _ _ _ (by omega), hm]
  have e1 : (cs.take (off + lo * k)).drop off = (l.take lo).flatMap enc := by
    rw [List.drop_take, Nat.add_sub_cancel_left, ← flat_take he (by omega), ← g3, List.take_take, Nat.min_eq_left (by omega)]
  have hAl : ((l.take lo).flatMap enc).length = lo * k := by rw [flat_len he, List.length_take, Nat.min_eq_left (by omega)]
  have e2 : (cs.take (off + lo * k) ++ m.flatMap enc ++ cs.drop (off + lo * k + m.length * k)).drop off = (l.take lo).flatMap enc ++ (m.flatMap enc ++ cs.drop (off + lo * k + m.length * k)) := by
    rw [List.append_assoc, List.drop_append_of_le_length (by rw [List.length_take]; omega), e1]
  rw [e2, List.take_append, hAl, List.take_of_length_le (l := (l.take lo).flatMap enc) (by rw [hAl]; omega), List.take_append, hm, List.take_of_length_le (l := m.flatMap enc) (by rw [hm]; omega)]
  have e3 : (cs.drop (off + lo * k + m.length * k)).take (l.length * k - lo * k - m.length * k) = (l.drop (lo + m.length)).flatMap enc := by
    rw [← flat_drop he (by omega), ← g3, List.drop_take, List.drop_drop, Nat.add_mul]
    congr 1
    · omega
    · rw [Nat.add_assoc]
  rw [e3, List.flatMap_append, List.flatMap_append]
theorem zeros_flat (he : Enc k enc) (z0 : α) (n : Nat) : (Builtin.zeroCells (enc z0).toArray n).toList = (List.replicate n z0).flatMap enc := by
  have hl := he.len z0
  have hp := he.pos
  unfold Builtin.zeroCells
  apply List.ext_getElem
  · rw [flat_len he]; simp [hl]
  · intro i h1 h2
    have hi : i < n * k := by simpa [hl] using h1
    have hk : i % k < k := Nat.mod_lt _ hp
    have hd : i / k < n := Nat.div_lt_of_lt_mul (by rw [Nat.mul_comm]; exact hi)
    have hg := flat_get he (List.replicate n z0) (i / k) z0 (by simp [hd])
    have e : ((List.replicate n z0).flatMap enc)[i]? = (enc z0)[i % k]? := by
      rw [← hg, List.getElem?_take, if_pos hk, List.getElem?_drop]
      congr 1
      rw [Nat.mul_comm]
      exact (Nat.div_add_mod i k).symm
    have e2 : ((List.replicate n z0).flatMap enc)[i] = (enc z0)[i % k]'(by omega) := by
      have h3 : ((List.replicate n z0).flatMap enc)[i]? = some (((List.replicate n z0).flatMap enc)[i]) := by simp
      rw [h3, List.getElem?_eq_getElem (by omega)] at e
      exact Option.some.inj e
    rw [e2]
    simp [hl]
    rw [List.getElem?_eq_getElem (by omega)]; rfl
end
section
variable {c : Cx} {ds : List Deferred} {p : Post} {T : List (Nat × Value)} {H : List Res} {ops : Array Oper} {rest : List Oper} {dst : Option Nat} {ty : TypeId} {ps : String} {af : Array Edge} {x : Operand} {α : Type} {k : Nat} {enc : α → List Value}
/-- the part of a row from a place on is cleared -/
theorem gk_clear {t e : TypeId} {gg : Bool} {zz : Value} {a : Option Addr} {cap lo c2 n : Nat} (l : List α) (z0 : α) (i : Nat) (he : Enc k enc) (ht : c.P.underlying t = some (.slice e)) (hz : TF c.P e gg k zz) (hzc : zz.cells = (enc z0).toArray)
    (hx : evo T x = some (.slice (subA a k lo cap) n c2)) (hnl : n = (l.drop lo).length) (hi : H[i]? = some (Row a k cap e enc l)) (hlo : lo ≤ l.length) (hn : dstOk dst c.n = true)
    (kk : GK c ds (KL c ops p rest) (putT dst (.tuple #[]) T) (H.set i (Row a k cap e enc (l.take lo ++ List.replicate (l.length - lo) z0)))) :
    GK c ds (KL c ops p (⟨dst, .call ⟨.builtin .clear, #[x], #[t]⟩, ty, ps, af, none⟩ :: rest)) T H := by
  subst hnl
  refine gk_gen (X := Unit) (fun _ => .tuple #[]) (fun _ => H.set i (Row a k cap e enc (l.take lo ++ List.replicate (l.length - lo) z0))) rfl rfl hn ?_ (fun _ => kk)
  intro A w ha hw
  obtain ⟨B, hF⟩ := hw.foc hi
  have hrun : (execOp A.eval ⟨dst, .call ⟨.builtin .clear, #[x], #[t]⟩, ty, ps, af, none⟩).run c.P w = (Next.value <$> Builtin.clear_ #[t] ty #[.slice (subA a k lo cap) (l.drop lo).length c2] : Sem Next).run c.P w := by
    rw [run_builtin («as» := [x]) (vs := [.slice (subA a k lo cap) (l.drop lo).length c2]) (by simp [evs, hx]) ha w]
    rfl
  unfold Yld
  rw [hrun]
  have hb : (Next.value <$> Builtin.clear_ #[t] ty #[.slice (subA a k lo cap) (l.drop lo).length c2] : Sem Next) = (Builtin.clear_ #[t] ty #[.slice (subA a k lo cap) (l.drop lo).length c2] >>= fun v => pure (Next.value v)) := rfl
  rw [hb]
  by_cases hl : l.length = lo
  · have h0 : (l.drop lo).length = 0 := by simp [hl]
    have hr : (Builtin.clear_ #[t] ty #[.slice (subA a k lo cap) (l.drop lo).length c2]).run c.P w = .ok (.tuple #[]) w := by
      rw [h0]
      unfold Builtin.clear_
      show (underlying t >>= _).run c.P w = _
      rw [run_bind_ok (run_underlying' ht)]
      cases subA a k lo cap <;> rfl
    rw [run_bind_ok hr]
    refine ⟨(), rfl, ?_⟩
    have hll : l.take lo ++ List.replicate (l.length - lo) z0 = l := by rw [hl, Nat.sub_self, ← hl, List.take_length]; simp
    rw [hll]
    have : H.set i (Row a k cap e enc l) = H := by
      obtain ⟨h1, h2⟩ := List.getElem?_eq_some_iff.1 hi
      rw [← h2]
      exact List.set_getElem_self h1
    rw [this]
    exact hw
  · rcases hF.A with ⟨_, _, rfl⟩ | ⟨b, off, cs, hab, hB, hbk, g1, g2, g3⟩
    · simp at hlo; exact absurd (by simp [hlo]) hl
    subst hab
    have hn0 : (l.drop lo).length = l.length - lo := by simp
    have hll : l.length * k ≤ cap * k := Nat.mul_le_mul_right _ g1
    have hlk : lo * k + (l.length - lo) * k = l.length * k := by rw [← Nat.add_mul]; congr 1; omega
    have hsub : subA (some ⟨b, off, none⟩) k lo cap = some ⟨b, off + lo * k, none⟩ := by
      unfold subA
      rw [if_neg (by omega)]
      simp [addr_add]
    have hzl : ((List.replicate (l.length - lo) z0).flatMap enc).length = (l.length - lo) * k := by rw [flat_len he]; simp
    obtain ⟨w', hr, hm, hb'⟩ := run_storeCells (P := c.P) (o := off + lo * k) ((List.replicate (l.length - lo) z0).flatMap enc) cs 0 w hbk (by rw [hzl]; omega) (flat_all he _)
    have hrc : (Builtin.clear_ #[t] ty #[.slice (subA (some ⟨b, off, none⟩) k lo cap) (l.drop lo).length c2]).run c.P w = .ok (.tuple #[]) w' := by
      rw [hsub, hn0]
      obtain ⟨m, hm'⟩ : ∃ m, l.length - lo = m + 1 := ⟨l.length - lo - 1, by omega⟩
      rw [hm'] at hr ⊢
      unfold Builtin.clear_
      show (underlying t >>= _).run c.P w = _
      rw [run_bind_ok (run_underlying' ht)]
      show (zeroValue e >>= _).run c.P w = _
      rw [run_bind_ok hz.zero, hzc, zeros_flat he, run_bind_ok hr]
      rfl
    rw [run_bind_ok hrc]
    refine ⟨(), rfl, ?_⟩
    refine hF.upd hi ⟨hm.os, hm.tape, hm.output, hm.size, fun j hj hbj => hm.same j hj (fun h => hbj ((hB j).2 h))⟩ (fun j hj => .inl hj) (.inr ⟨b, off, over cs (off + lo * k) ((List.replicate (l.length - lo) z0).flatMap enc), rfl, hB, hb', ?_, by rw [over_length]; exact g2, ?_⟩)
    · simp; omega
    · have h4 := row_over he (m := List.replicate (l.length - lo) z0) (lo := lo) (by simp; omega) g1 g2 g3
      have h5 : l.drop (lo + (List.replicate (l.length - lo) z0).length) = [] := by
        apply List.drop_of_length_le
        simp; omega
      rw [h5, List.append_nil] at h4
      have h6 : (l.take lo ++ List.replicate (l.length - lo) z0).length = l.length := by simp; omega
      rw [h6]
      exact h4
end
theorem elems_front {α : Type} {w : World} {a : Option Addr} {k : Nat} {enc : α → List Value} {l z : List α} (h : Has w (Elems a k enc (l ++ z))) : Has w (Elems a k enc l) := by
  obtain ⟨B, hB, hA⟩ := h
  refine ⟨B, hB, ?_⟩
  rcases hA with hA | ⟨b, off, ha, hb, hc⟩
  · exact .inl (List.append_eq_nil_iff.1 hA).1
  · refine .inr ⟨b, off, ha, hb, fun i x hi => hc i x ?_⟩
    rw [List.getElem?_append_left (List.getElem?_eq_some_iff.1 hi).1]
    exact hi
theorem row_sub0 {α : Type} {w : World} {B : Nat → Prop} {a : Option Addr} {k cap m : Nat} {e : TypeId} {enc : α → List Value} {l : List α} (h : (Row a k cap e enc l).A B w) : subA a k 0 m = a := by
  rcases h with ⟨ha, _, _⟩ | ⟨b, off, _, ha, _⟩
  · subst ha; unfold subA; split <;> rfl
  · subst ha
    unfold subA
    split
    · rfl
    · simp [addr_add]
end Go.K

namespace Go.Stn
open Go Go.K Go.RowKit
def PosV (x z : Int) : Prop := 0 < z ∨ (z = 0 ∧ 0 < x)
theorem vec_weak {wx wz ux uz yx yz : Int} (hw : PosV wx wz) (hu : PosV ux uz) (hy : PosV yx yz) (h1 : 0 ≤ wx * uz - wz * ux) (h2 : 0 ≤ ux * yz - uz * yx) : 0 ≤ wx * yz - wz * yx := by
  have id : uz * (wx * yz - wz * yx) = yz * (wx * uz - wz * ux) + wz * (ux * yz - uz * yx) := by grind
  unfold PosV at *
  have hwz : 0 ≤ wz := by omega
  have hyz : 0 ≤ yz := by omega
  rcases hu with hu | ⟨hu, hux⟩
  · have a1 := Int.mul_nonneg hyz h1
    have a2 := Int.mul_nonneg hwz h2
    exact nonneg_of hu (by omega)
  · subst hu
    have hz : wz = 0 := by
      rcases Int.lt_or_eq_of_le hwz with h | h
      · have := Int.mul_pos h hux
        omega
      · exact h.symm
    subst hz
    have hwx : 0 < wx := by omega
    have := Int.mul_nonneg (show 0 ≤ wx by omega) hyz
    omega
theorem vec_strict {ux uz vx vz wx wz : Int} (hu : PosV ux uz) (hv : PosV vx vz) (hw : PosV wx wz) (h1 : 0 < ux * vz - uz * vx) (h2 : 0 < vx * wz - vz * wx) : 0 < ux * wz - uz * wx := by
  have id : vz * (ux * wz - uz * wx) = wz * (ux * vz - uz * vx) + uz * (vx * wz - vz * wx) := by grind
  have hn := vec_weak hu hv hw (Int.le_of_lt h1) (Int.le_of_lt h2)
  unfold PosV at *
  rcases Int.lt_or_eq_of_le hn with h | h
  · exact h
  · exfalso
    rw [← h, Int.mul_zero] at id
    have hwz : 0 ≤ wz := by omega
    have huz : 0 ≤ uz := by omega
    have a1 := Int.mul_nonneg hwz (Int.le_of_lt h1)
    have a2 := Int.mul_nonneg huz (Int.le_of_lt h2)
    have e1 : (ux * vz - uz * vx) * wz = 0 := by rw [Int.mul_comm]; omega
    have e2 : (vx * wz - vz * wx) * uz = 0 := by rw [Int.mul_comm]; omega
    have z1 := mul_zero_of h1 e1
    have z2 := mul_zero_of h2 e2
    subst z1; subst z2
    have hwx : 0 < wx := by omega
    have hvz : 0 ≤ vz := by omega
    have := Int.mul_nonneg hvz (Int.le_of_lt hwx)
    omega
/-- an order of points that suits turns -/
structure Ord3 (lt : Pt → Pt → Prop) : Prop where
  trans : ∀ a b c, lt a b → lt b c → lt a c
  irr : ∀ a, ¬ lt a a
  tot : ∀ a b, a ≠ b → lt a b ∨ lt b a
  tA : ∀ e u w y, lt e u → lt e w → lt e y → 0 ≤ sideZ e w u → 0 ≤ sideZ e u y → 0 ≤ sideZ e w y
  tB : ∀ a e p r, lt a e → lt e p → lt r e → 0 ≤ sideZ a e r → 0 < sideZ a e p → 0 ≤ sideZ e p r
  tC : ∀ a b c d, lt a b → lt b c → lt c d → 0 < sideZ a b c → 0 < sideZ b c d → 0 < sideZ a b d
theorem lo_pos {p q : Pt} (h : Lo p q) : PosV (q.x - p.x) (q.z - p.z) := by
  unfold Lo at h
  unfold PosV
  omega
theorem lo_ord : Ord3 Lo where
  trans _ _ _ := Lo.trans
  irr _ := Lo.irrefl
  tot a b h := by
    rcases Classical.em (Lo a b) with h1 | h1
    · exact .inl h1
    · rcases Classical.em (Lo b a) with h2 | h2
      · exact .inr h2
      · exact absurd (Lo.total h1 h2) h
  tA e u w y h1 h2 h3 h4 h5 := by
    unfold sideZ at *
    exact vec_weak (lo_pos h2) (lo_pos h1) (lo_pos h3) h4 h5
  tB a e p r h1 h2 h3 h4 h5 := by
    have := vec_weak (lo_pos h3) (lo_pos h1) (lo_pos h2) (by unfold sideZ at h4; grind) (by unfold sideZ at h5; grind)
    unfold sideZ
    grind
  tC a b c d h1 h2 h3 h4 h5 := by
    have := vec_strict (lo_pos h1) (lo_pos h2) (lo_pos h3) (by unfold sideZ at h4; grind) (by unfold sideZ at h5; grind)
    unfold sideZ at *
    grind
def ngP (p : Pt) : Pt := ⟨-p.x, -p.z⟩
theorem side_ng (a b c : Pt) : sideZ (ngP a) (ngP b) (ngP c) = sideZ a b c := by unfold sideZ ngP; dsimp only; grind
theorem lo_ng {a b : Pt} : Lo (ngP a) (ngP b) ↔ Lo b a := by unfold Lo ngP; dsimp only; omega
abbrev Hi (p q : Pt) : Prop := Lo q p
theorem hi_ord : Ord3 Hi where
  trans _ _ _ h1 h2 := Lo.trans h2 h1
  irr _ := Lo.irrefl
  tot a b h := (lo_ord.tot a b h).symm
  tA e u w y h1 h2 h3 h4 h5 := by
    have := lo_ord.tA (ngP e) (ngP u) (ngP w) (ngP y) (lo_ng.2 h1) (lo_ng.2 h2) (lo_ng.2 h3) (by rw [side_ng]; exact h4) (by rw [side_ng]; exact h5)
    rwa [side_ng] at this
  tB a e p r h1 h2 h3 h4 h5 := by
    have := lo_ord.tB (ngP a) (ngP e) (ngP p) (ngP r) (lo_ng.2 h1) (lo_ng.2 h2) (lo_ng.2 h3) (by rw [side_ng]; exact h4) (by rw [side_ng]; exact h5)
    rwa [side_ng] at this
  tC a b c d h1 h2 h3 h4 h5 := by
    have := lo_ord.tC (ngP a) (ngP b) (ngP c) (ngP d) (lo_ng.2 h1) (lo_ng.2 h2) (lo_ng.2 h3) (by rw [side_ng]; exact h4) (by rw [side_ng]; exact h5)
    rwa [side_ng] at this
def addR : List Pt → Pt → List Pt
  | b :: a :: r, p => if sideZ a b p ≤ 0 then addR (a :: r) p else p :: b :: a :: r
  | S, p => p :: S
def Stk (lt : Pt → Pt → Prop) (P : List Pt) : List Pt → Prop
  | b :: a :: r => lt a b ∧ (∀ q ∈ P, 0 ≤ sideZ a b q) ∧ (∀ z, r.head? = some z → 0 < sideZ z a b) ∧ Stk lt P (a :: r)
  | _ => True
section
variable {lt : Pt → Pt → Prop} (o : Ord3 lt)
include o
theorem stk_ext {P : List Pt} {p : Pt} : ∀ (r : List Pt) (a b : Pt), Stk lt P (b :: a :: r) → lt b p → 0 < sideZ a b p → Stk lt (p :: P) (b :: a :: r)
  | [], a, b, h, _, hs => ⟨h.1, fun q hq => by
      rcases List.mem_cons.1 hq with rfl | hq
      · omega
      · exact h.2.1 q hq, h.2.2.1, trivial⟩
  | z :: r, a, b, h, hb, hs => by
    obtain ⟨h1, h2, h3, h4⟩ := h
    have ht := h3 z rfl
    have hza : lt z a := h4.1
    refine ⟨h1, fun q hq => ?_, h3, stk_ext r z a h4 (o.trans _ _ _ h1 hb) (o.tC z a b p hza h1 hb ht hs)⟩
    rcases List.mem_cons.1 hq with rfl | hq
    · omega
    · exact h2 q hq
/-- what may lie above a corner while it is at the top: nothing; or all lies to the left of a corner that has gone, and the new point to its right -/
def Pend (lt : Pt → Pt → Prop) (P : List Pt) (p e : Pt) : Prop := (∀ q ∈ P, q = e ∨ lt q e) ∨ ∃ s, lt e s ∧ (∀ q ∈ P, 0 ≤ sideZ e s q) ∧ sideZ e s p ≤ 0
theorem pend_up {P : List Pt} {p e q : Pt} (h : Pend lt P p e) (hq : q ∈ P) (hqe : lt e q) (hp : lt e p) : 0 ≤ sideZ e p q := by
  rcases h with h | ⟨s, h1, h2, h3⟩
  · rcases h q hq with rfl | h
    · exact absurd hqe (o.irr _)
    · exact absurd (o.trans _ _ _ hqe h) (o.irr _)
  · have e1 : 0 ≤ sideZ e p s := by rw [side_swap]; omega
    exact o.tA e s p q h1 hp hqe e1 (h2 q hq)
theorem add_stk {P : List Pt} {p bot : Pt} (hp : ∀ q ∈ P, lt q p) (hb : ∀ q ∈ P, q = bot ∨ lt bot q) : ∀ (r : List Pt) (e : Pt), (∀ x ∈ e :: r, x ∈ P) → (e :: r).getLast? = some bot → Stk lt P (e :: r) → Pend lt P p e → Stk lt (p :: P) (addR (e :: r) p)
  | [], e, hm, hl, _, hpe => by
    have he : e = bot := by simpa using hl
    have hep := hp e (hm e (List.mem_cons_self ..))
    refine ⟨hep, fun q hq => ?_, fun z hz => by simp at hz, trivial⟩
    rcases List.mem_cons.1 hq with rfl | hq
    · rw [side_same2]; omega
    · rcases hb q hq with h | h
      · rw [h, ← he, side_same3]; omega
      · exact pend_up o hpe hq (he ▸ h) hep
  | a :: r, e, hm, hl, hs, hpe => by
    have hep := hp e (hm e (List.mem_cons_self ..))
    obtain ⟨h1, h2, h3, h4⟩ := hs
    unfold addR
    by_cases hc : sideZ a e p ≤ 0
    · rw [if_pos hc]
      exact add_stk hp hb r a (fun x hx => hm x (List.mem_cons_of_mem _ hx)) (by simpa using hl) h4 (.inr ⟨e, h1, h2, hc⟩)
    · rw [if_neg hc]
      refine ⟨hep, fun q hq => ?_, fun z hz => ?_, stk_ext o r a e ⟨h1, h2, h3, h4⟩ hep (by omega)⟩
      · rcases List.mem_cons.1 hq with rfl | hq
        · rw [side_same2]; omega
        · rcases Classical.em (q = e) with rfl | hne
          · rw [side_same3]; omega
          · rcases o.tot q e hne with h | h
            · exact o.tB a e p q h1 hep h (h2 q hq) (by omega)
            · exact pend_up o hpe hq h hep
      · simp only [List.head?_cons, Option.some.injEq] at hz
        subst hz
        omega
omit o in
theorem add_mem {p x : Pt} : ∀ (S : List Pt), x ∈ addR S p → x = p ∨ x ∈ S
  | [], h => by simpa [addR] using h
  | [e], h => by simpa [addR] using h
  | b :: a :: r, h => by
    unfold addR at h
    split at h
    · rcases add_mem (a :: r) h with h | h
      · exact .inl h
      · exact .inr (List.mem_cons_of_mem _ h)
    · rcases List.mem_cons.1 h with h | h
      · exact .inl h
      · exact .inr h
omit o in
theorem add_last {p : Pt} : ∀ (S : List Pt), S ≠ [] → (addR S p).getLast? = S.getLast?
  | [], h => absurd rfl h
  | [e], _ => rfl
  | b :: a :: r, _ => by
    unfold addR
    split
    · rw [add_last (a :: r) (by simp)]; simp
    · simp
omit o in
theorem add_head {p : Pt} : ∀ (S : List Pt), (addR S p).head? = some p
  | [] => rfl
  | [e] => rfl
  | b :: a :: r => by
    unfold addR
    split
    · exact add_head (a :: r)
    · rfl
/-- the stack when the points P are in -/
structure StkI (lt : Pt → Pt → Prop) (P S : List Pt) (bot : Pt) : Prop where
  stk : Stk lt P S
  top : ∃ e, S.head? = some e ∧ ∀ q ∈ P, q = e ∨ lt q e
  last : S.getLast? = some bot
  low : ∀ q ∈ P, q = bot ∨ lt bot q
  mem : ∀ x ∈ S, x ∈ P
theorem StkI.add {P S : List Pt} {bot p : Pt} (h : StkI lt P S bot) (hp : ∀ q ∈ P, lt q p) : StkI lt (p :: P) (addR S p) bot := by
  obtain ⟨e, he, htop⟩ := h.top
  cases S with
  | nil => simp at he
  | cons x r =>
    simp only [List.head?_cons, Option.some.injEq] at he
    subst he
    have hbm : bot ∈ P := h.mem _ (List.mem_of_getLast? h.last)
    refine ⟨add_stk o hp h.low r x h.mem h.last h.stk (.inl htop), ⟨p, add_head _, fun q hq => ?_⟩, ?_, fun q hq => ?_, fun q hq => ?_⟩
    · rcases List.mem_cons.1 hq with rfl | hq
      · exact .inl rfl
      · exact .inr (hp q hq)
    · rw [add_last _ (by simp)]; exact h.last
    · rcases List.mem_cons.1 hq with rfl | hq
      · exact .inr (hp bot hbm)
      · exact h.low q hq
    · rcases add_mem _ hq with rfl | hq
      · exact List.mem_cons_self ..
      · exact List.mem_cons_of_mem _ (h.mem q hq)
theorem StkI.fold {bot : Pt} : ∀ (R P S : List Pt), StkI lt P S bot → (∀ x ∈ P, ∀ y ∈ R, lt x y) → R.Pairwise lt → StkI lt (R.reverse ++ P) (R.foldl addR S) bot
  | [], _, _, h, _, _ => h
  | p :: R, P, S, h, hPR, hR => by
    rw [List.pairwise_cons] at hR
    have h1 := h.add o (fun q hq => hPR q hq p (List.mem_cons_self ..))
    have h2 := StkI.fold R (p :: P) (addR S p) h1 (fun x hx y hy => by
      rcases List.mem_cons.1 hx with rfl | hx
      · exact hR.1 y hy
      · exact hPR x hx y (List.mem_cons_of_mem _ hy)) hR.2
    simpa using h2
omit o in
theorem stk_one (x : Pt) : StkI lt [x] [x] x :=
  ⟨trivial, ⟨x, rfl, fun _ hq => .inl (List.mem_singleton.1 hq)⟩, rfl, fun _ hq => .inl (List.mem_singleton.1 hq), fun _ h => h⟩
end
/-- by number, the bottom first -/
theorem stk_index {lt : Pt → Pt → Prop} {P : List Pt} : ∀ (S : List Pt), Stk lt P S → ∀ i, i + 1 < S.length →
    lt (S.reverse.getD i default) (S.reverse.getD (i + 1) default) ∧ (∀ q ∈ P, 0 ≤ sideZ (S.reverse.getD i default) (S.reverse.getD (i + 1) default) q) ∧
    (i + 2 < S.length → 0 < sideZ (S.reverse.getD i default) (S.reverse.getD (i + 1) default) (S.reverse.getD (i + 2) default))
  | [], _, i, hi => by simp at hi
  | [x], _, i, hi => by simp at hi
  | b :: a :: r, h, i, hi => by
    obtain ⟨h1, h2, h3, h4⟩ := h
    have ih := stk_index (a :: r) h4
    have hrev : (b :: a :: r).reverse = (a :: r).reverse ++ [b] := by simp
    have hlen : (a :: r).reverse.length = r.length + 1 := by simp
    have g0 : ∀ j, j < r.length + 1 → (b :: a :: r).reverse.getD j default = (a :: r).reverse.getD j default := fun j hj => by
      rw [hrev, List.getD_eq_getElem?_getD, List.getElem?_append_left (by omega), ← List.getD_eq_getElem?_getD]
    have g1 : (b :: a :: r).reverse.getD (r.length + 1) default = b := by
      rw [hrev, List.getD_eq_getElem?_getD, List.getElem?_append_right (by omega), hlen]; simp
    have g2 : (a :: r).reverse.getD r.length default = a := by
      rw [List.reverse_cons, List.getD_eq_getElem?_getD, List.getElem?_append_right (by simp)]; simp
    simp only [List.length_cons] at hi ⊢
    by_cases hc : i + 1 < r.length + 1
    · obtain ⟨k1, k2, k3⟩ := ih i (by simpa using hc)
      rw [g0 i (by omega), g0 (i + 1) hc]
      refine ⟨k1, k2, fun hi2 => ?_⟩
      by_cases hc2 : i + 2 < r.length + 1
      · rw [g0 (i + 2) hc2]; exact k3 (by simpa using hc2)
      · rw [show i + 2 = r.length + 1 from by omega, g1, show i + 1 = r.length from by omega, g2]
        cases r with
        | nil => simp at hc
        | cons z r =>
          have g3 : (a :: z :: r).reverse.getD i default = z := by
            rw [List.length_cons] at *
            rw [show (a :: z :: r).reverse = (r.reverse ++ [z]) ++ [a] from by simp, List.getD_eq_getElem?_getD, List.getElem?_append_left (by simp; omega), List.getElem?_append_right (by simp; omega)]
            simp only [List.length_reverse]
            rw [show i - r.length = 0 from by omega]
            simp
          rw [g3]
          exact h3 z rfl
    · rw [show i = r.length from by omega, g0 r.length (by omega), g1, g2]
      exact ⟨h1, h2, fun h => by omega⟩
end Go.Stn

namespace Go.Stn
open Go Go.K Go.RowKit
def lowS (R : List Pt) : List Pt := R.foldl addR []
def upS (R : List Pt) : List Pt := R.reverse.tail.foldl addR [R.getLastD default]
def fullL (R : List Pt) : List Pt := (lowS R).reverse.dropLast ++ (upS R).reverse
abbrev gD (l : List Pt) (i : Nat) : Pt := l.getD i default
/-- all on a line -/
def FlatL (R : List Pt) : Prop := ∀ x ∈ R, ∀ y ∈ R, ∀ z ∈ R, sideZ x y z = 0
theorem col3 {a b x y z : Pt} (hab : a ≠ b) (hx : sideZ a b x = 0) (hy : sideZ a b y = 0) (hz : sideZ a b z = 0) : sideZ x y z = 0 := by
  have id1 : (b.x - a.x) * sideZ x y z = (y.x - x.x) * (sideZ a b z - sideZ a b x) - (z.x - x.x) * (sideZ a b y - sideZ a b x) := by unfold sideZ; grind
  have id2 : (b.z - a.z) * sideZ x y z = (y.z - x.z) * (sideZ a b z - sideZ a b x) - (z.z - x.z) * (sideZ a b y - sideZ a b x) := by unfold sideZ; grind
  rw [hx, hy, hz] at id1 id2
  simp only [Int.sub_self, Int.mul_zero] at id1 id2
  rcases Int.mul_eq_zero.1 id1 with h1 | h1
  · rcases Int.mul_eq_zero.1 id2 with h2 | h2
    · exfalso
      apply hab
      cases a; cases b
      simp only [Pt.mk.injEq] at *
      omega
    · exact h2
  · exact h1
theorem flat_of {R : List Pt} {a b : Pt} (hab : a ≠ b) (h : ∀ q ∈ R, sideZ a b q = 0) : FlatL R := fun x hx y hy z hz => col3 hab (h x hx) (h y hy) (h z hz)
theorem vec_joint {ux uz vx vz yx yz : Int} (hu : PosV ux uz) (hv : PosV vx vz) (h0 : ux * vz - uz * vx = 0) (h1 : 0 ≤ ux * yz - uz * yx) (h2 : vx * yz - vz * yx ≤ 0) : ux * yz - uz * yx = 0 := by
  have idx : vx * (ux * yz - uz * yx) = ux * (vx * yz - vz * yx) + yx * (ux * vz - uz * vx) := by grind
  have idz : vz * (ux * yz - uz * yx) = uz * (vx * yz - vz * yx) + yz * (ux * vz - uz * vx) := by grind
  rw [h0, Int.mul_zero, Int.add_zero] at idx idz
  unfold PosV at *
  have hn : 0 ≤ -(vx * yz - vz * yx) := by omega
  rcases hv with hv | ⟨hv, hvx⟩
  · have a1 := Int.mul_nonneg (show 0 ≤ uz by omega) hn
    have e : uz * -(vx * yz - vz * yx) = -(uz * (vx * yz - vz * yx)) := by grind
    have a2 := Int.mul_nonneg (show 0 ≤ vz by omega) h1
    exact mul_zero_of hv (by omega)
  · subst hv
    have hu2 : uz = 0 ∧ 0 < ux := by
      rcases hu with h | h
      · exfalso
        have := Int.mul_pos h hvx
        omega
      · exact h
    have a1 := Int.mul_nonneg (show 0 ≤ ux by omega) hn
    have e : ux * -(vx * yz - 0 * yx) = -(ux * (vx * yz - 0 * yx)) := by grind
    have a2 := Int.mul_nonneg (show 0 ≤ vx by omega) h1
    exact mul_zero_of hvx (by omega)
theorem joint {a b c q : Pt} (hab : Lo a b) (hcb : Lo c b) (h3 : sideZ a b c = 0) (h1 : 0 ≤ sideZ a b q) (h2 : 0 ≤ sideZ b c q) : sideZ a b q = 0 := by
  have := vec_joint (yx := q.x - b.x) (yz := q.z - b.z) (lo_pos hab) (lo_pos hcb) (by unfold sideZ at h3; grind) (by unfold sideZ at h1; grind) (by unfold sideZ at h2; grind)
  unfold sideZ
  grind
theorem joint2 {a b c q : Pt} (hab : Lo b a) (hcb : Lo b c) (h3 : sideZ a b c = 0) (h1 : 0 ≤ sideZ a b q) (h2 : 0 ≤ sideZ b c q) : sideZ a b q = 0 := by
  have := joint (a := ngP a) (b := ngP b) (c := ngP c) (q := ngP q) (lo_ng.2 hab) (lo_ng.2 hcb) (by rw [side_ng]; exact h3) (by rw [side_ng]; exact h1) (by rw [side_ng]; exact h2)
  rwa [side_ng] at this
theorem getD_last {l : List Pt} {x : Pt} (h : l.getLast? = some x) : gD l (l.length - 1) = x := by
  rw [List.getLast?_eq_getElem?] at h
  unfold gD
  rw [List.getD_eq_getElem?_getD, h]; rfl
theorem getD_head {l : List Pt} {x : Pt} (h : l.head? = some x) : gD l 0 = x := by
  cases l with
  | nil => simp at h
  | cons a r => simp only [List.head?_cons, Option.some.injEq] at h; subst h; rfl
/-- both chains of the points R, which rise -/
structure Two (R : List Pt) (r0 rt : Pt) (hl hu : List Pt) : Prop where
  lIdx : ∀ i, i + 1 < hl.length → Lo (gD hl i) (gD hl (i + 1)) ∧ (∀ q ∈ R, 0 ≤ sideZ (gD hl i) (gD hl (i + 1)) q) ∧ (i + 2 < hl.length → 0 < sideZ (gD hl i) (gD hl (i + 1)) (gD hl (i + 2)))
  uIdx : ∀ i, i + 1 < hu.length → Lo (gD hu (i + 1)) (gD hu i) ∧ (∀ q ∈ R, 0 ≤ sideZ (gD hu i) (gD hu (i + 1)) q) ∧ (i + 2 < hu.length → 0 < sideZ (gD hu i) (gD hu (i + 1)) (gD hu (i + 2)))
  l0 : gD hl 0 = r0
  lt : gD hl (hl.length - 1) = rt
  u0 : gD hu 0 = rt
  ut : gD hu (hu.length - 1) = r0
  l2 : 2 ≤ hl.length
  u2 : 2 ≤ hu.length
  lm : ∀ x ∈ hl, x ∈ R
  um : ∀ x ∈ hu, x ∈ R
  low : ∀ q ∈ R, q = r0 ∨ Lo r0 q
theorem two_of {R : List Pt} (hR : R.Pairwise Lo) (h2 : 2 ≤ R.length) : Two R (gD R 0) (R.getLastD default) (lowS R).reverse (upS R).reverse := by
  match R, h2 with
  | r0 :: r1 :: rs, _ =>
    have hp := hR
    rw [List.pairwise_cons] at hp
    -- from below
    have hlow := StkI.fold lo_ord (r1 :: rs) [r0] [r0] (stk_one r0) (fun x hx y hy => by rw [List.mem_singleton.1 hx]; exact hp.1 y hy) hp.2
    have hlm : ∀ q, q ∈ (r1 :: rs).reverse ++ [r0] ↔ q ∈ r0 :: r1 :: rs := fun q => by
      rw [List.mem_append, List.mem_reverse, List.mem_singleton, List.mem_cons (a := q) (b := r0)]
      exact Or.comm
    have elow : lowS (r0 :: r1 :: rs) = (r1 :: rs).foldl addR [r0] := rfl
    -- from above
    obtain ⟨t, ts, hts⟩ : ∃ t ts, (r0 :: r1 :: rs).reverse = t :: ts := by
      cases h : (r0 :: r1 :: rs).reverse with
      | nil => simp at h
      | cons t ts => exact ⟨t, ts, rfl⟩
    have hrp : (t :: ts).Pairwise Hi := by rw [← hts, List.pairwise_reverse]; exact hR
    rw [List.pairwise_cons] at hrp
    have hup := StkI.fold hi_ord ts [t] [t] (stk_one t) (fun x hx y hy => by rw [List.mem_singleton.1 hx]; exact hrp.1 y hy) hrp.2
    have hlast : (r0 :: r1 :: rs).getLastD default = t := by
      have : (r0 :: r1 :: rs).getLast? = some t := by rw [← List.head?_reverse, hts]; rfl
      rw [List.getLastD_eq_getLast?, this]; rfl
    have eup : upS (r0 :: r1 :: rs) = ts.foldl addR [t] := by
      unfold upS
      rw [hts, hlast]; rfl
    have hum : ∀ q, q ∈ ts.reverse ++ [t] ↔ q ∈ r0 :: r1 :: rs := fun q => by
      rw [← List.mem_reverse («as» := r0 :: r1 :: rs), hts, List.mem_append, List.mem_reverse, List.mem_singleton, List.mem_cons]
      exact Or.comm
    have htr : Lo r0 t := by
      have : t ∈ r1 :: rs := by
        have h1 : (r0 :: r1 :: rs).getLast? = some t := by rw [← List.head?_reverse, hts]; rfl
        have h2 : (r1 :: rs).getLast? = some t := by simpa using h1
        exact List.mem_of_getLast? h2
      exact hp.1 t this
    have tin : t ∈ r0 :: r1 :: rs := (hum t).1 (by simp)
    -- their ends
    obtain ⟨e, he, het⟩ := hlow.top
    have het' : e = t := by
      have hem : e ∈ r0 :: r1 :: rs := (hlm e).1 (hlow.mem e (List.mem_of_mem_head? he))
      rcases het t ((hlm t).2 tin) with h | h
      · exact h.symm
      · have := (hum e).2 hem
        rcases List.mem_append.1 this with h1 | h1
        · exact absurd (Lo.trans h (hrp.1 e (List.mem_reverse.1 h1))) Lo.irrefl
        · exact List.mem_singleton.1 h1
    obtain ⟨f, hf, hft⟩ := hup.top
    have hft' : f = r0 := by
      have hfm : f ∈ r0 :: r1 :: rs := (hum f).1 (hup.mem f (List.mem_of_mem_head? hf))
      rcases hft r0 ((hum r0).2 (List.mem_cons_self ..)) with h | h
      · exact h.symm
      · rcases List.mem_cons.1 hfm with h1 | h1
        · exact h1
        · exact absurd (Lo.trans h (hp.1 f h1)) Lo.irrefl
    rw [hlast, elow, eup]
    have hne : r0 ≠ t := fun h => by rw [h] at htr; exact Lo.irrefl htr
    have len2 : ∀ (S : List Pt) (x y : Pt), S.head? = some x → S.getLast? = some y → x ≠ y → 2 ≤ S.length := fun S x y h1 h2 hn => by
      match S, h1, h2 with
      | [a], h1, h2 => simp at h1 h2; exact absurd (h1.symm.trans h2) hn
      | _ :: _ :: _, _, _ => simp
    refine ⟨fun i hi => ?_, fun i hi => ?_, ?_, ?_, ?_, ?_, ?_, ?_, fun x hx => ?_, fun x hx => ?_, fun q hq => ?_⟩
    · rw [List.length_reverse] at hi ⊢
      obtain ⟨k1, k2, k3⟩ := stk_index _ hlow.stk i hi
      exact ⟨k1, fun q hq => k2 q ((hlm q).2 hq), k3⟩
    · rw [List.length_reverse] at hi ⊢
      obtain ⟨k1, k2, k3⟩ := stk_index _ hup.stk i hi
      exact ⟨k1, fun q hq => k2 q ((hum q).2 hq), k3⟩
    · exact getD_head (by rw [List.head?_reverse]; exact hlow.last)
    · exact getD_last (by rw [List.getLast?_reverse, he, het'])
    · exact getD_head (by rw [List.head?_reverse]; exact hup.last)
    · exact getD_last (by rw [List.getLast?_reverse, hf, hft']; rfl)
    · rw [List.length_reverse]; exact len2 _ e r0 he hlow.last (by rw [het']; exact hne.symm)
    · rw [List.length_reverse]; exact len2 _ f t hf hup.last (by rw [hft']; exact hne)
    · exact (hlm x).1 (hlow.mem x (List.mem_reverse.1 hx))
    · exact (hum x).1 (hup.mem x (List.mem_reverse.1 hx))
    · rcases List.mem_cons.1 hq with h | h
      · exact .inl h
      · exact .inr (hp.1 q h)
section
variable {R hl hu : List Pt} {r0 rt : Pt} (t : Two R r0 rt hl hu)
include t
def joinL (hl hu : List Pt) : List Pt := hl.dropLast ++ hu
omit t in
theorem join_len : (joinL hl hu).length = hl.length - 1 + hu.length := by unfold joinL; simp
theorem Two.atl {i : Nat} (hi : i < hl.length) : gD (joinL hl hu) i = gD hl i := by
  have h2 := t.l2
  unfold joinL gD
  by_cases hc : i < hl.length - 1
  · rw [List.getD_eq_getElem?_getD, List.getElem?_append_left (by simpa using hc), List.getElem?_dropLast, if_pos hc, ← List.getD_eq_getElem?_getD]
  · have hie : i = hl.length - 1 := by omega
    rw [List.getD_eq_getElem?_getD, List.getElem?_append_right (by simp; omega), ← List.getD_eq_getElem?_getD]
    simp only [List.length_dropLast]
    rw [hie, Nat.sub_self]
    exact t.u0.trans t.lt.symm
omit t in
theorem atu (j : Nat) : gD (joinL hl hu) (hl.length - 1 + j) = gD hu j := by
  unfold joinL gD
  rw [List.getD_eq_getElem?_getD, List.getElem?_append_right (by simp), ← List.getD_eq_getElem?_getD]
  congr 1
  simp
theorem Two.edge {i : Nat} (hi : i + 1 < (joinL hl hu).length) : (∀ q ∈ R, 0 ≤ sideZ (gD (joinL hl hu) i) (gD (joinL hl hu) (i + 1)) q) ∧ gD (joinL hl hu) i ≠ gD (joinL hl hu) (i + 1) := by
  have h2 := t.l2
  rw [join_len] at hi
  by_cases hc : i + 1 < hl.length
  · rw [t.atl (by omega), t.atl hc]
    obtain ⟨k1, k2, _⟩ := t.lIdx i hc
    exact ⟨k2, fun h => by rw [h] at k1; exact Lo.irrefl k1⟩
  · obtain ⟨j, rfl⟩ : ∃ j, i = hl.length - 1 + j := ⟨i - (hl.length - 1), by omega⟩
    rw [show hl.length - 1 + j + 1 = hl.length - 1 + (j + 1) from by omega, atu, atu]
    obtain ⟨k1, k2, _⟩ := t.uIdx j (by omega)
    exact ⟨k2, fun h => by rw [h] at k1; exact Lo.irrefl k1⟩
theorem Two.memJ {i : Nat} (hi : i < (joinL hl hu).length) : gD (joinL hl hu) i ∈ R := by
  have h2 := t.l2
  rw [join_len] at hi
  by_cases hc : i < hl.length
  · rw [t.atl hc]
    exact t.lm _ (getD_mem hc)
  · obtain ⟨j, rfl⟩ : ∃ j, i = hl.length - 1 + j := ⟨i - (hl.length - 1), by omega⟩
    rw [atu]
    exact t.um _ (getD_mem (by omega))
theorem Two.first : gD (joinL hl hu) 0 = r0 := by rw [t.atl (by have := t.l2; omega)]; exact t.l0
theorem Two.final : gD (joinL hl hu) ((joinL hl hu).length - 1) = r0 := by
  have h1 := t.l2; have h2 := t.u2
  rw [join_len, show hl.length - 1 + hu.length - 1 = hl.length - 1 + (hu.length - 1) from by omega, atu]
  exact t.ut
theorem Two.turn (hf : ¬ FlatL R) {i : Nat} (hi : i + 2 < (joinL hl hu).length) : 0 < sideZ (gD (joinL hl hu) i) (gD (joinL hl hu) (i + 1)) (gD (joinL hl hu) (i + 2)) := by
  have h2 := t.l2; have hu2 := t.u2
  rw [join_len] at hi
  by_cases hc : i + 2 < hl.length
  · rw [t.atl (by omega), t.atl (by omega), t.atl hc]
    exact (t.lIdx i (by omega)).2.2 hc
  · by_cases hd : i + 2 = hl.length
    · -- at the top
      rw [t.atl (by omega), t.atl (by omega), show i + 2 = hl.length - 1 + 1 from by omega, atu]
      obtain ⟨k1, k2, _⟩ := t.lIdx i (by omega)
      obtain ⟨m1, m2, _⟩ := t.uIdx 0 (by omega)
      have e1 : gD hl (i + 1) = rt := by rw [show i + 1 = hl.length - 1 from by omega]; exact t.lt
      rw [t.u0] at m1 m2
      rw [e1] at k1 k2 ⊢
      have hm : gD hu 1 ∈ R := t.um _ (getD_mem (by omega))
      have h0 := k2 _ hm
      rcases Int.lt_or_eq_of_le h0 with h | h
      · exact h
      · exact absurd (flat_of (fun he => by rw [he] at k1; exact Lo.irrefl k1) (fun q hq => joint k1 m1 h.symm (k2 q hq) (m2 q hq))) hf
    · obtain ⟨j, rfl⟩ : ∃ j, i = hl.length - 1 + j := ⟨i - (hl.length - 1), by omega⟩
      rw [show hl.length - 1 + j + 1 = hl.length - 1 + (j + 1) from by omega, show hl.length - 1 + j + 2 = hl.length - 1 + (j + 2) from by omega, atu, atu, atu]
      exact (t.uIdx j (by omega)).2.2 (by omega)
theorem Two.turn0 (hf : ¬ FlatL R) : 0 < sideZ (gD (joinL hl hu) ((joinL hl hu).length - 2)) r0 (gD (joinL hl hu) 1) := by
  have h2 := t.l2; have hu2 := t.u2
  rw [t.atl (i := 1) (by omega), join_len, show hl.length - 1 + hu.length - 2 = hl.length - 1 + (hu.length - 2) from by omega, atu]
  obtain ⟨k1, k2, _⟩ := t.uIdx (hu.length - 2) (by omega)
  rw [show hu.length - 2 + 1 = hu.length - 1 from by omega, t.ut] at k1 k2
  obtain ⟨m1, m2, _⟩ := t.lIdx 0 (by omega)
  rw [t.l0] at m1 m2
  have hm : gD hl 1 ∈ R := t.lm _ (getD_mem (by omega))
  have h0 := k2 _ hm
  rcases Int.lt_or_eq_of_le h0 with h | h
  · exact h
  · exact absurd (flat_of (fun he => by rw [he] at k1; exact Lo.irrefl k1) (fun q hq => joint2 k1 m1 h.symm (k2 q hq) (m2 q hq))) hf
theorem Two.len_flat (hf : FlatL R) : (joinL hl hu).length = 3 := by
  have h2 := t.l2; have hu2 := t.u2
  rw [join_len]
  have a : hl.length = 2 := Classical.byContradiction fun h => by
    have := (t.lIdx 0 (by omega)).2.2 (by omega)
    rw [hf _ (t.lm _ (getD_mem (by omega))) _ (t.lm _ (getD_mem (by omega))) _ (t.lm _ (getD_mem (by omega)))] at this
    omega
  have b : hu.length = 2 := Classical.byContradiction fun h => by
    have := (t.uIdx 0 (by omega)).2.2 (by omega)
    rw [hf _ (t.um _ (getD_mem (by omega))) _ (t.um _ (getD_mem (by omega))) _ (t.um _ (getD_mem (by omega)))] at this
    omega
  omega
theorem Two.len_round (hf : ¬ FlatL R) : 4 ≤ (joinL hl hu).length := by
  have h2 := t.l2; have hu2 := t.u2
  rw [join_len]
  refine Classical.byContradiction fun h => hf ?_
  have a : hl.length = 2 := by omega
  have b : hu.length = 2 := by omega
  obtain ⟨k1, k2, _⟩ := t.lIdx 0 (by omega)
  obtain ⟨m1, m2, _⟩ := t.uIdx 0 (by omega)
  have e1 := t.l0
  have e2 := t.lt
  have e3 := t.u0
  have e4 := t.ut
  rw [a] at e2
  rw [b] at e4
  change gD hl 1 = rt at e2
  change gD hu 1 = r0 at e4
  change Lo (gD hl 0) (gD hl 1) at k1
  change ∀ q ∈ R, 0 ≤ sideZ (gD hl 0) (gD hl 1) q at k2
  change ∀ q ∈ R, 0 ≤ sideZ (gD hu 0) (gD hu 1) q at m2
  rw [e1, e2] at k1 k2
  rw [e3, e4] at m2
  refine flat_of (a := r0) (b := rt) (fun he => by rw [he] at k1; exact Lo.irrefl k1) fun q hq => ?_
  have h3 := k2 q hq
  have h4 := m2 q hq
  have : sideZ rt r0 q = -sideZ r0 rt q := by unfold sideZ; grind
  omega
theorem Two.mono {i j : Nat} (hij : i < j) (hj : j < hl.length) : Lo (gD hl i) (gD hl j) := by
  induction j with
  | zero => omega
  | succ j ih =>
    have h1 := (t.lIdx j (by omega)).1
    by_cases he : i = j
    · subst he; exact h1
    · exact Lo.trans (ih (by omega) (by omega)) h1
theorem Two.monu {i j : Nat} (hij : i < j) (hj : j < hu.length) : Lo (gD hu j) (gD hu i) := by
  induction j with
  | zero => omega
  | succ j ih =>
    have h1 := (t.uIdx j (by omega)).1
    by_cases he : i = j
    · subst he; exact h1
    · exact Lo.trans h1 (ih (by omega) (by omega))
theorem Two.inj (hf : ¬ FlatL R) {i j : Nat} (hij : i < j) (hj : j + 1 < (joinL hl hu).length) : gD (joinL hl hu) i ≠ gD (joinL hl hu) j := by
  have h2 := t.l2; have hu2 := t.u2
  rw [join_len] at hj
  intro he
  by_cases hc : j < hl.length
  · rw [t.atl (by omega), t.atl hc] at he
    have := t.mono hij hc
    rw [he] at this
    exact Lo.irrefl this
  · obtain ⟨j, rfl⟩ : ∃ j', j = hl.length - 1 + j' := ⟨j - (hl.length - 1), by omega⟩
    rw [atu] at he
    by_cases hd : hl.length - 1 ≤ i
    · obtain ⟨i, rfl⟩ : ∃ i', i = hl.length - 1 + i' := ⟨i - (hl.length - 1), by omega⟩
      rw [atu] at he
      have := t.monu (show i < j by omega) (by omega)
      rw [he] at this
      exact Lo.irrefl this
    · rw [t.atl (by omega)] at he
      obtain ⟨k1, k2, _⟩ := t.lIdx i (by omega)
      obtain ⟨m1, m2, _⟩ := t.uIdx j (by omega)
      rw [← he] at m1 m2
      have ha := m2 _ (t.lm _ (getD_mem (l := hl) (i := i + 1) (by omega)))
      have hb := k2 _ (t.um _ (getD_mem (l := hu) (i := j + 1) (by omega)))
      have hs : sideZ (gD hl i) (gD hl (i + 1)) (gD hu (j + 1)) = 0 := by
        have : sideZ (gD hl i) (gD hu (j + 1)) (gD hl (i + 1)) = -sideZ (gD hl i) (gD hl (i + 1)) (gD hu (j + 1)) := side_swap _ _ _
        have e1 : gD hu (j + 1) = hu.getD (j + 1) default := rfl
        have e2 : gD hl (i + 1) = hl.getD (i + 1) default := rfl
        rw [← e1] at hb
        rw [← e2] at ha
        omega
      refine hf (flat_of (a := gD hl i) (b := gD hl (i + 1)) (fun h => by rw [h] at k1; exact Lo.irrefl k1) fun q hq => ?_)
      have := vec_joint (ux := (gD hl (i + 1)).x - (gD hl i).x) (uz := (gD hl (i + 1)).z - (gD hl i).z) (vx := (gD hl i).x - (gD hu (j + 1)).x) (vz := (gD hl i).z - (gD hu (j + 1)).z) (yx := q.x - (gD hl i).x) (yz := q.z - (gD hl i).z) (lo_pos k1) (lo_pos m1)
        (by have h1 := hs; unfold sideZ at h1; grind) (by have h1 := k2 q hq; unfold sideZ at h1; grind) (by have h1 := m2 q hq; unfold sideZ at h1; grind)
      unfold sideZ
      grind
end
end Go.Stn
