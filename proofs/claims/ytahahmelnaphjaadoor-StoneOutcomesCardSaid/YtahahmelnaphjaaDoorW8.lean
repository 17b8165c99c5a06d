/- Walks: cuts. No statement of the seat is proved in this text. -/
import Derived.Test.YtahahmelnaphjaaDoorW7
namespace Go.Proofs.YtahahmelnaphjaaDoor
open Go.K Go.Stn Go.RowKit
theorem tf4 : TF Tryd.prog 4 false 1 (.bool false) := ⟨by kernel_rfl, by kernel_rfl⟩
theorem en60 : En Tryd.prog 60 := en_of Tryd.func60 (by kernel_rfl) (by kernel_rfl)
theorem en68 : En Tryd.prog 68 := en_of Tryd.func68 (by kernel_rfl) (by kernel_rfl)
theorem en69 : En Tryd.prog 69 := en_of Tryd.func69 (by kernel_rfl) (by kernel_rfl)
theorem en70 : En Tryd.prog 70 := en_of Tryd.func70 (by kernel_rfl) (by kernel_rfl)
theorem en71 : En Tryd.prog 71 := en_of Tryd.func71 (by kernel_rfl) (by kernel_rfl)
theorem en123 : En Tryd.prog 123 := en_of Tryd.func123 (by kernel_rfl) (by kernel_rfl)
theorem bd34_  (w : World) : (Instr.build 34 #[]).run Tryd.prog w = .ok (.agg #[.string ⟨#[]⟩, .slice none 0 0, .int IntKind.i64 0, .int IntKind.i64 0, .int IntKind.i64 0, .int IntKind.i64 0]) w := by kernel_rfl

set_option maxRecDepth 100000 in
set_option maxHeartbeats 1000000 in
theorem edge_c (a : Option Addr) (cap : Nat) (s : Stn) (x : Pt) (w : World) (hl : Has w (Pts a s.shape)) (hs : Small s.shape.length) :
    Calls Tryd.prog 68 #[.agg #[.string s.name, .slice a s.shape.length cap, .int .i64 s.depth, .int .i64 s.density, .int .i64 s.grain.x, .int .i64 s.grain.z], .agg #[.int .i64 x.x, .int .i64 x.z]] w (Pure (.int .i64 (edgeI s.shape x)) w) := by
  refine calls_of_gk (vs := [_, _]) Tryd.func68 rfl rfl (Nat.le_of_ble_eq_true rfl) ?_
  refine gk_seq ?_
  refine gk_region ?_
  refine gk_yx rfl rfl (yx_box (vs := [_, _, _, _, _, _]) rfl rfl) fun b2 => ?_
  refine gk_yx rfl rfl (yx_box (vs := [_, _]) rfl rfl) fun b3 => ?_
  refine gk_yx rfl rfl (yx_alloc tf3 (zs := [_]) rfl) fun b4 => ?_
  refine gk_nil (gk_sub (T' := [(2,_), (3,_), (4,_)]) ⟨rfl, rfl, rfl, trivial⟩ ?_)
  refine gk_seq ?_
  refine gk_seq ?_
  refine gk_any 10 (fun _ => mixed) (by kernel_rfl) ?_
  refine ph_y (y_fieldAddr fo32_0 rfl) ?_
  refine ph_y (y_loadB1 1 tf3 rfl rfl rfl) ?_
  refine ph_y (y_call en55 rfl (fun w hw => within_c _ _ _ w)) ?_
  refine ph_y (y_not rfl) ?_
  refine ph_y (y_move rfl) ?_
  refine ph_gF rfl rfl (fun hgd => by (try rw [hgd]); exact (y_fieldAddr fo32_1 rfl)) ?_
  refine ph_gF rfl rfl (fun hgd => by (try rw [hgd]); exact (y_loadB1 1 tf3 rfl rfl rfl)) ?_
  refine ph_gF rfl rfl (fun hgd => by (try rw [hgd]); exact (y_call (v := .bool (decide (0 ≤ x.z) && decide (x.z ≤ 2000))) en55 rfl (fun w hw => within_c _ _ _ w))) ?_
  refine ph_gF rfl rfl (fun hgd => by (try rw [hgd]); exact (y_not rfl)) ?_
  refine ph_y (y_pickOr rfl rfl rfl) ?_
  refine gk_nil (gk_sub (T' := [(2,_), (3,_), (4,_), (18,_)]) ⟨rfl, rfl, rfl, rfl, trivial⟩ ?_)
  refine gk_cond rfl (fun hc18 => ?_) (fun hc18 => ?_)
  · skip
    refine gk_seq ?_
    refine gk_region ?_
    refine gk_storeV 0 tf3 rfl rfl (vs := [_]) rfl rfl rfl rfl rfl ?_
    refine gk_nil (gk_sub (T' := [(2,_), (3,_), (4,_)]) ⟨rfl, rfl, rfl, trivial⟩ ?_)
    refine gk_ret ?_
    refine gk_pure (rv_one rfl (r1_cell1 (i := 0) tf3 rfl rfl rfl)) ?_
    rw [edgeI, if_pos (show farB x = true from hc18)]
  · skip
    refine gk_skip ?_
    refine gk_seq ?_
    refine gk_region ?_
    refine gk_yx rfl rfl (yx_alloc tf3 (zs := [_]) rfl) fun b5 => ?_
    refine gk_storeV 0 tf3 rfl rfl (vs := [_]) rfl rfl rfl rfl rfl ?_
    refine gk_nil (gk_sub (T' := [(2,_), (3,_), (4,_), (5,_)]) ⟨rfl, rfl, rfl, rfl, trivial⟩ ?_)
    refine gk_seq ?_
    refine gk_seq ?_
    refine gk_region ?_
    refine gk_y rfl rfl (y_fieldAddr fo34_1 rfl) ?_
    refine gk_y rfl rfl (y_loadB1 3 tf31 rfl rfl rfl) ?_
    refine gk_yx rfl rfl (yx_call en82 rfl (fun w hw => edges_c _ _ s.shape w)) fun p21 => ?_
    refine gk_nil (gk_sub (T' := [(3,_), (4,_), (5,_), (21,_)]) ⟨rfl, rfl, rfl, rfl, trivial⟩ ?_)
    refine gk_block ?_
    refine gk_sub (T' := [(3,_), (4,_), (5,_), (21,_)]) ⟨rfl, rfl, rfl, rfl, trivial⟩ ?_
    refine gk_rangeFunc (X := Int × Int) (fun ⟨i, r⟩ => [Box p21 [.slice a s.shape.length cap] 31, Box b5 [.int .i64 i] 3, Box b4 [.int .i64 r] 3, Box b3 [.int .i64 x.x, .int .i64 x.z] 32, Box b2 [.string s.name, .slice a s.shape.length cap, .int .i64 s.depth, .int .i64 s.density, .int .i64 s.grain.x, .int .i64 s.grain.z] 34]) (fun n ⟨i, r⟩ => i = (n : Int) ∧ r = 0 ∧ ∀ j e, j < n → (edgesL s.shape)[j]? = some e → onE x e = false) (fun ⟨i, r⟩ => r = findI (onE x) (edgesL s.shape)) [] (0, 0) rfl en124 rfl rfl ⟨rfl, rfl, fun j e hj => absurd hj (by omega)⟩ (edges1_c _ _ s.shape _ (by assumption)) (fun ⟨i, r⟩ w hw => ⟨hw.has (p := 0) rfl, (Rd.has (Has.rd hl) hw)⟩) (edges_two _) rfl ?_ ?_ ?_ ?_
    · rintro R1 R2 rl U' w' n ⟨i, r⟩ args hget hR hrd hins hbeg
      obtain ⟨e, he, rfl⟩ := edge_inv hget
      obtain ⟨hi1, hr1, hN⟩ := hR
      have hn := edge_n he
      refine gk_sub (T' := [(3,_), (4,_), (5,_), (22,_), (23,_)]) ⟨rfl, rfl, rfl, rfl, rfl, trivial⟩ ?_
      refine gk_seq ?_
      refine gk_region ?_
      refine gk_yx rfl rfl (yx_alloc tf32 (zs := [_, _]) rfl) fun b6 => ?_
      refine gk_storeV 0 tf32 rfl rfl (vs := [_, _]) rfl rfl rfl rfl rfl ?_
      refine gk_nil (gk_sub (T' := [(3,_), (4,_), (5,_), (6,_), (23,_)]) ⟨rfl, rfl, rfl, rfl, rfl, trivial⟩ ?_)
      refine gk_region ?_
      refine gk_yx rfl rfl (yx_alloc tf32 (zs := [_, _]) rfl) fun b7 => ?_
      refine gk_storeV 0 tf32 rfl rfl (vs := [_, _]) rfl rfl rfl rfl rfl ?_
      refine gk_nil (gk_sub (T' := [(3,_), (4,_), (5,_), (6,_), (7,_)]) ⟨rfl, rfl, rfl, rfl, rfl, trivial⟩ ?_)
      refine gk_front 2 rfl ?_
      refine hbeg _ _ _ ?_
      refine gk_block ?_
      refine gk_seq ?_
      refine gk_region ?_
      refine gk_y rfl rfl (y_loadBA 6 tf32 rfl rfl (vs := [_, _]) rfl rfl) ?_
      refine gk_y rfl rfl (y_loadBA 2 tf32 rfl rfl (vs := [_, _]) rfl rfl) ?_
      refine gk_y rfl rfl (y_call en89 rfl (fun w hw => sub_c ⟨_, _⟩ ⟨_, _⟩ w)) ?_
      refine gk_yx rfl rfl (yx_alloc tf32 (zs := [_, _]) rfl) fun b8 => ?_
      refine gk_storeV 0 tf32 rfl rfl (vs := [_, _]) rfl rfl rfl rfl rfl ?_
      refine gk_nil (gk_sub (T' := [(4,_), (5,_), (6,_), (7,_), (8,_)]) ⟨rfl, rfl, rfl, rfl, rfl, trivial⟩ ?_)
      refine gk_seq ?_
      refine gk_seq ?_
      refine gk_any 27 (fun _ => mixed) (by kernel_rfl) ?_
      refine ph_y (y_loadBA 2 tf32 rfl rfl (vs := [_, _]) rfl rfl) ?_
      refine ph_y (y_loadBA 3 tf32 rfl rfl (vs := [_, _]) rfl rfl) ?_
      refine ph_y (y_call en89 rfl (fun w hw => sub_c ⟨_, _⟩ ⟨_, _⟩ w)) ?_
      refine ph_y (y_loadBA 0 tf32 rfl rfl (vs := [_, _]) rfl rfl) ?_
      refine ph_y (y_call en83 rfl (fun w hw => cross_c ⟨_, _⟩ ⟨_, _⟩ w)) ?_
      refine ph_y (y_eql rfl rfl) ?_
      refine ph_y (y_move rfl) ?_
      refine ph_gT rfl rfl (fun hgd => by (try rw [hgd]); exact (y_loadBA 0 tf32 rfl rfl (vs := [_, _]) rfl rfl)) ?_
      refine ph_gT rfl rfl (fun hgd => by (try rw [hgd]); exact (y_loadBA 2 tf32 rfl rfl (vs := [_, _]) rfl rfl)) ?_
      refine ph_gT rfl rfl (fun hgd => by (try rw [hgd]); exact (y_loadBA 3 tf32 rfl rfl (vs := [_, _]) rfl rfl)) ?_
      refine ph_gT rfl rfl (fun hgd => by (try rw [hgd]); exact (y_call (v := .agg #[.int .i64 ((subW e.2 e.1).x), .int .i64 ((subW e.2 e.1).z)]) en89 rfl (fun w hw => sub_c ⟨_, _⟩ ⟨_, _⟩ w))) ?_
      refine ph_gT rfl rfl (fun hgd => by (try rw [hgd]); exact (y_call (v := .int .i64 (dotW (subW x e.1) (subW e.2 e.1))) en123 rfl (fun w hw => dot_c ⟨_, _⟩ ⟨_, _⟩ w))) ?_
      refine ph_gT rfl rfl (fun hgd => by (try rw [hgd]); exact (y_geq rfl rfl)) ?_
      refine ph_y (y_pickAnd rfl rfl rfl) ?_
      refine ph_y (y_move rfl) ?_
      refine ph_gT rfl rfl (fun hgd => by (try rw [hgd]); exact (y_loadBA 0 tf32 rfl rfl (vs := [_, _]) rfl rfl)) ?_
      refine ph_gT rfl rfl (fun hgd => by (try rw [hgd]); exact (y_loadBA 0 tf32 rfl rfl (vs := [_, _]) rfl rfl)) ?_
      refine ph_gT rfl rfl (fun hgd => by (try rw [hgd]); exact (y_call (v := .int .i64 (dotW (subW x e.1) (subW x e.1))) en123 rfl (fun w hw => dot_c ⟨_, _⟩ ⟨_, _⟩ w))) ?_
      refine ph_gT rfl rfl (fun hgd => by (try rw [hgd]); exact (y_loadBA 2 tf32 rfl rfl (vs := [_, _]) rfl rfl)) ?_
      refine ph_gT rfl rfl (fun hgd => by (try rw [hgd]); exact (y_loadBA 3 tf32 rfl rfl (vs := [_, _]) rfl rfl)) ?_
      refine ph_gT rfl rfl (fun hgd => by (try rw [hgd]); exact (y_call (v := .agg #[.int .i64 ((subW e.2 e.1).x), .int .i64 ((subW e.2 e.1).z)]) en89 rfl (fun w hw => sub_c ⟨_, _⟩ ⟨_, _⟩ w))) ?_
      refine ph_gT rfl rfl (fun hgd => by (try rw [hgd]); exact (y_loadBA 2 tf32 rfl rfl (vs := [_, _]) rfl rfl)) ?_
      refine ph_gT rfl rfl (fun hgd => by (try rw [hgd]); exact (y_loadBA 3 tf32 rfl rfl (vs := [_, _]) rfl rfl)) ?_
      refine ph_gT rfl rfl (fun hgd => by (try rw [hgd]); exact (y_call (v := .agg #[.int .i64 ((subW e.2 e.1).x), .int .i64 ((subW e.2 e.1).z)]) en89 rfl (fun w hw => sub_c ⟨_, _⟩ ⟨_, _⟩ w))) ?_
      refine ph_gT rfl rfl (fun hgd => by (try rw [hgd]); exact (y_call (v := .int .i64 (dotW (subW e.2 e.1) (subW e.2 e.1))) en123 rfl (fun w hw => dot_c ⟨_, _⟩ ⟨_, _⟩ w))) ?_
      refine ph_gT rfl rfl (fun hgd => by (try rw [hgd]); exact (y_lss rfl rfl)) ?_
      refine ph_y (y_pickAnd rfl rfl rfl) ?_
      refine gk_nil (gk_sub (T' := [(4,_), (5,_), (53,_)]) ⟨rfl, rfl, rfl, trivial⟩ ?_)
      refine gk_cond rfl (fun hc53 => ?_) (fun hc53 => ?_)
      · skip
        refine gk_seq ?_
        refine gk_region ?_
        refine gk_y rfl rfl (y_loadB1 5 tf3 rfl rfl rfl) ?_
        refine gk_storeV 6 tf3 rfl rfl (vs := [_]) rfl rfl rfl rfl rfl ?_
        refine gk_nil (gk_sub (T' := [(4,_), (5,_)]) ⟨rfl, rfl, trivial⟩ ?_)
        refine gk_ret ?_
        refine gk_dropAt 0 rfl ?_
        refine gk_dropAt 1 rfl ?_
        refine gk_dropAt 1 rfl ?_
        exact gk_joined (i, i) trivial rfl (by show i = _; rw [hi1]; exact (findI_at he hN hc53).symm)
      · skip
        refine gk_skip ?_
        refine gk_region ?_
        refine gk_y rfl rfl (y_loadB1 5 tf3 rfl rfl rfl) ?_
        refine gk_y rfl rfl (y_addI rfl rfl (by omega) (by omega)) ?_
        refine gk_storeV 5 tf3 rfl rfl (vs := [_]) rfl rfl rfl rfl rfl ?_
        refine gk_nil (gk_sub (T' := [(4,_)]) ⟨rfl, trivial⟩ ?_)
        refine gk_dropAt 0 rfl ?_
        refine gk_dropAt 1 rfl ?_
        refine gk_dropAt 1 rfl ?_
        exact gk_joined (i + 1, r) trivial rfl ⟨by omega, hr1, none_succ he hN hc53⟩
    · rintro Dm ⟨i, r⟩ hR
      obtain ⟨hi1, hr1, hN⟩ := hR
      refine gk_seq ?_
      refine gk_region ?_
      refine gk_storeV 3 tf3 rfl rfl (vs := [_]) rfl rfl rfl rfl rfl ?_
      refine gk_nil (gk_sub (T' := [(4,_)]) ⟨rfl, trivial⟩ ?_)
      refine gk_ret ?_
      refine gk_unmark 0 rfl ?_
      refine gk_pure (rv_one rfl (r1_cell1 (i := 2) tf3 rfl rfl rfl)) ?_
      rw [edgeI, if_neg (show ¬ farB x = true by rw [show farB x = false from hc18]; exact Bool.false_ne_true), findI_no (fun j e hj => hN j e (by simpa [edgeVs] using hj))]
    · rintro Dm ⟨i, r⟩ hD
      refine gk_unmark 0 rfl ?_
      refine gk_pure (rv_one rfl (r1_cell1 (i := 2) tf3 rfl rfl rfl)) ?_
      rw [edgeI, if_neg (show ¬ farB x = true by rw [show farB x = false from hc18]; exact Bool.false_ne_true), hD]
    · exact fun _ _ _ _ h => absurd h (by simp)

set_option maxRecDepth 100000 in
set_option maxHeartbeats 1000000 in
theorem apart_c (a : Option Addr) (cap : Nat) (s : Stn) (p q : Pt) (w : World) (hl : Has w (Pts a s.shape)) (hs : Small s.shape.length) :
    Calls Tryd.prog 69 #[.agg #[.string s.name, .slice a s.shape.length cap, .int .i64 s.depth, .int .i64 s.density, .int .i64 s.grain.x, .int .i64 s.grain.z], .agg #[.int .i64 p.x, .int .i64 p.z], .agg #[.int .i64 q.x, .int .i64 q.z]] w (Pure (.bool (apartB s.shape p q)) w) := by
  refine calls_of_gk (vs := [_, _, _]) Tryd.func69 rfl rfl (Nat.le_of_ble_eq_true rfl) ?_
  refine gk_seq ?_
  refine gk_region ?_
  refine gk_yx rfl rfl (yx_box (vs := [_, _, _, _, _, _]) rfl rfl) fun b3 => ?_
  refine gk_yx rfl rfl (yx_box (vs := [_, _]) rfl rfl) fun b4 => ?_
  refine gk_yx rfl rfl (yx_box (vs := [_, _]) rfl rfl) fun b5 => ?_
  refine gk_yx rfl rfl (yx_alloc tf4 (zs := [_]) rfl) fun b6 => ?_
  refine gk_nil (gk_sub (T' := [(3,_), (4,_), (5,_), (6,_)]) ⟨rfl, rfl, rfl, rfl, trivial⟩ ?_)
  refine gk_seq ?_
  refine gk_seq ?_
  refine gk_region ?_
  refine gk_y rfl rfl (y_fieldAddr fo34_1 rfl) ?_
  refine gk_y rfl rfl (y_loadB1 3 tf31 rfl rfl rfl) ?_
  refine gk_yx rfl rfl (yx_call en82 rfl (fun w hw => edges_c _ _ s.shape w)) fun p11 => ?_
  refine gk_nil (gk_sub (T' := [(4,_), (5,_), (6,_), (11,_)]) ⟨rfl, rfl, rfl, rfl, trivial⟩ ?_)
  refine gk_block ?_
  refine gk_sub (T' := [(4,_), (5,_), (6,_), (11,_)]) ⟨rfl, rfl, rfl, rfl, trivial⟩ ?_
  refine gk_rangeFunc (X := Bool) (fun r => [Box p11 [.slice a s.shape.length cap] 31, Box b6 [.bool r] 4, Box b5 [.int .i64 q.x, .int .i64 q.z] 32, Box b4 [.int .i64 p.x, .int .i64 p.z] 32, Box b3 [.string s.name, .slice a s.shape.length cap, .int .i64 s.depth, .int .i64 s.density, .int .i64 s.grain.x, .int .i64 s.grain.z] 34]) (fun n r => r = false ∧ ∀ j e, j < n → (edgesL s.shape)[j]? = some e → both0 p q e = false) (fun r => r = false ∧ apartB s.shape p q = false) [] false rfl en124 rfl rfl ⟨rfl, fun j e hj => absurd hj (by omega)⟩ (edges1_c _ _ s.shape _ (by assumption)) (fun r w hw => ⟨hw.has (p := 0) rfl, (Rd.has (Has.rd hl) hw)⟩) (edges_two _) rfl ?_ ?_ ?_ ?_
  · rintro R1 R2 rl U' w' n r args hget hR hrd hins hbeg
    obtain ⟨e, he, rfl⟩ := edge_inv hget
    obtain ⟨hr1, hN⟩ := hR
    refine gk_sub (T' := [(4,_), (5,_), (6,_), (12,_), (13,_)]) ⟨rfl, rfl, rfl, rfl, rfl, trivial⟩ ?_
    refine gk_seq ?_
    refine gk_region ?_
    refine gk_yx rfl rfl (yx_alloc tf32 (zs := [_, _]) rfl) fun b7 => ?_
    refine gk_storeV 0 tf32 rfl rfl (vs := [_, _]) rfl rfl rfl rfl rfl ?_
    refine gk_nil (gk_sub (T' := [(4,_), (5,_), (6,_), (7,_), (13,_)]) ⟨rfl, rfl, rfl, rfl, rfl, trivial⟩ ?_)
    refine gk_region ?_
    refine gk_yx rfl rfl (yx_alloc tf32 (zs := [_, _]) rfl) fun b8 => ?_
    refine gk_storeV 0 tf32 rfl rfl (vs := [_, _]) rfl rfl rfl rfl rfl ?_
    refine gk_nil (gk_sub (T' := [(4,_), (5,_), (6,_), (7,_), (8,_)]) ⟨rfl, rfl, rfl, rfl, rfl, trivial⟩ ?_)
    refine gk_front 2 rfl ?_
    refine hbeg _ _ _ ?_
    refine gk_block ?_
    refine gk_seq ?_
    refine gk_any 12 (fun _ => mixed) (by kernel_rfl) ?_
    refine ph_y (y_loadBA 2 tf32 rfl rfl (vs := [_, _]) rfl rfl) ?_
    refine ph_y (y_loadBA 1 tf32 rfl rfl (vs := [_, _]) rfl rfl) ?_
    refine ph_y (y_loadBA 6 tf32 rfl rfl (vs := [_, _]) rfl rfl) ?_
    refine ph_y (y_call en108 rfl (fun w hw => turn_c ⟨_, _⟩ ⟨_, _⟩ ⟨_, _⟩ w)) ?_
    refine ph_y (y_eql rfl rfl) ?_
    refine ph_y (y_move rfl) ?_
    refine ph_gT rfl rfl (fun hgd => by (try rw [hgd]); exact (y_loadBA 2 tf32 rfl rfl (vs := [_, _]) rfl rfl)) ?_
    refine ph_gT rfl rfl (fun hgd => by (try rw [hgd]); exact (y_loadBA 1 tf32 rfl rfl (vs := [_, _]) rfl rfl)) ?_
    refine ph_gT rfl rfl (fun hgd => by (try rw [hgd]); exact (y_loadBA 5 tf32 rfl rfl (vs := [_, _]) rfl rfl)) ?_
    refine ph_gT rfl rfl (fun hgd => by (try rw [hgd]); exact (y_call (v := .int .i64 (turnW e.1 e.2 q)) en108 rfl (fun w hw => turn_c ⟨_, _⟩ ⟨_, _⟩ ⟨_, _⟩ w))) ?_
    refine ph_gT rfl rfl (fun hgd => by (try rw [hgd]); exact (y_eql rfl rfl)) ?_
    refine ph_y (y_pickAnd rfl rfl rfl) ?_
    refine gk_nil (gk_sub (T' := [(6,_), (25,_)]) ⟨rfl, rfl, trivial⟩ ?_)
    refine gk_cond rfl (fun hc25 => ?_) (fun hc25 => ?_)
    · skip
      refine gk_seq ?_
      refine gk_region ?_
      refine gk_storeV 4 tf4 rfl rfl (vs := [_]) rfl rfl rfl rfl rfl ?_
      refine gk_nil (gk_sub (T' := [(6,_)]) ⟨rfl, trivial⟩ ?_)
      refine gk_ret ?_
      refine gk_dropAt 1 rfl ?_
      refine gk_dropAt 1 rfl ?_
      exact gk_joined false trivial rfl ⟨rfl, apart_no he hc25⟩
    · skip
      refine gk_skip ?_
      refine gk_dropAt 1 rfl ?_
      refine gk_dropAt 1 rfl ?_
      exact gk_joined r trivial rfl ⟨hr1, none_succ he hN hc25⟩
  · intro Dm r hR
    obtain ⟨hr1, hN⟩ := hR
    refine gk_seq ?_
    refine gk_region ?_
    refine gk_storeV 2 tf4 rfl rfl (vs := [_]) rfl rfl rfl rfl rfl ?_
    refine gk_nil (gk_sub (T' := [(6,_)]) ⟨rfl, trivial⟩ ?_)
    refine gk_ret ?_
    refine gk_unmark 0 rfl ?_
    refine gk_pure (rv_one rfl (r1_cell1 (i := 1) tf4 rfl rfl rfl)) ?_
    rw [apart_yes (fun j e hj => hN j e (by simpa [edgeVs] using hj))]
  · rintro Dm r hD
    refine gk_unmark 0 rfl ?_
    refine gk_pure (rv_one rfl (r1_cell1 (i := 1) tf4 rfl rfl rfl)) ?_
    rw [hD.1, hD.2]
  · exact fun _ _ _ _ h => absurd h (by simp)

set_option maxRecDepth 100000 in
set_option maxHeartbeats 1000000 in
theorem right_c (a : Option Addr) (cap : Nat) (s : Stn) (p q : Pt) (w : World) (hl : Has w (Pts a s.shape)) (hs : Small s.shape.length) (h1 : 0 ≤ edgeI s.shape p) (h2 : 0 ≤ edgeI s.shape q) :
    Calls Tryd.prog 70 #[.agg #[.string s.name, .slice a s.shape.length cap, .int .i64 s.depth, .int .i64 s.density, .int .i64 s.grain.x, .int .i64 s.grain.z], .agg #[.int .i64 p.x, .int .i64 p.z], .agg #[.int .i64 q.x, .int .i64 q.z]] w (Gives (fun z : Option Addr × Nat => .slice z.1 (rightL s.shape p q).length z.2) (fun z => Row z.1 2 z.2 32 encPt (rightL s.shape p q)) w) := by
  have a1 := edge_lt (l := s.shape) (x := p)
  have a2 := edge_lt (l := s.shape) (x := q)
  have a3 := rightT_le h1 h2
  have a4 : 0 < s.shape.length := by omega
  refine calls_of_gk (vs := [_, _, _]) Tryd.func70 rfl rfl (Nat.le_of_ble_eq_true rfl) ?_
  refine gk_seq ?_
  refine gk_region ?_
  refine gk_yx rfl rfl (yx_box (vs := [_, _, _, _, _, _]) rfl rfl) fun b3 => ?_
  refine gk_yx rfl rfl (yx_box (vs := [_, _]) rfl rfl) fun b4 => ?_
  refine gk_yx rfl rfl (yx_box (vs := [_, _]) rfl rfl) fun b5 => ?_
  refine gk_y rfl rfl (y_assign rfl) ?_
  refine gk_nil (gk_sub (T' := [(3,_), (4,_), (5,_), (6,_)]) ⟨rfl, rfl, rfl, rfl, trivial⟩ ?_)
  refine gk_seq ?_
  refine gk_region ?_
  refine gk_y rfl rfl (y_loadBA 1 tf32 rfl rfl (vs := [_, _]) rfl rfl) ?_
  refine gk_yx rfl rfl (yx_buildSlice rfl (bs31_1 _ _) encPt_ok rfl) fun b11 => ?_
  refine gk_y rfl rfl (y_assign rfl) ?_
  refine gk_nil (gk_sub (T' := [(3,_), (4,_), (5,_), (6,_), (7,_)]) ⟨rfl, rfl, rfl, rfl, rfl, trivial⟩ ?_)
  refine gk_seq ?_
  refine gk_region ?_
  refine gk_y rfl rfl (y_loadBA 3 tf34 rfl rfl (vs := [_, _, _, _, _, _]) rfl rfl) ?_
  refine gk_y rfl rfl (y_loadBA 2 tf32 rfl rfl (vs := [_, _]) rfl rfl) ?_
  refine gk_y rfl rfl (y_call en68 rfl (fun w hw => edge_c _ _ s p w (Rd.has (Has.rd hl) hw) (by assumption))) ?_
  refine gk_y rfl rfl (y_addI rfl rfl (by omega) (by omega)) ?_
  refine gk_y rfl rfl (y_assign rfl) ?_
  refine gk_nil (gk_sub (T' := [(3,_), (5,_), (6,_), (7,_), (8,_)]) ⟨rfl, rfl, rfl, rfl, rfl, trivial⟩ ?_)
  refine gk_block ?_
  refine gk_loop (X := Nat × Int × Option Addr × Nat × List Pt) (fun ⟨m, i, b, bc, o⟩ => [(3, .pointer (some ⟨b3, 0, none⟩)), (5, .pointer (some ⟨b5, 0, none⟩)), (6, .slice none 0 0), (7, .slice b o.length bc), (8, .int .i64 i)]) (fun ⟨m, i, b, bc, o⟩ => [Row b 2 bc 32 encPt o, Box b5 [.int .i64 q.x, .int .i64 q.z] 32, Box b4 [.int .i64 p.x, .int .i64 p.z] 32, Box b3 [.string s.name, .slice a s.shape.length cap, .int .i64 s.depth, .int .i64 s.density, .int .i64 s.grain.x, .int .i64 s.grain.z] 34]) (fun ⟨m, i, b, bc, o⟩ => (m ≤ rightT s.shape p q ∧ i = edgeI s.shape p + 1 + (m : Int) ∧ o.length ≤ m + 1 ∧ rightL s.shape p q = o ++ rightN s.shape q (rightT s.shape p q - m) i)) (fun ⟨m, i, b, bc, o⟩ => rightT s.shape p q - m) (0, edgeI s.shape p + 1, (some ⟨b11, 0, none⟩), 1, [p]) ⟨rfl, rfl, rfl, rfl, rfl, trivial⟩ rfl ?_ ?_
  · exact ⟨by omega, by omega, by simp, rfl⟩
  · rintro ⟨m, i, b, bc, o⟩ hI
    obtain ⟨g0, g1, g2, g3⟩ := hI
    refine gk_seq ?_
    refine gk_block ?_
    refine gk_seq ?_
    refine gk_region ?_
    refine gk_y rfl rfl (y_fieldAddr fo34_1 rfl) ?_
    refine gk_y rfl rfl (y_loadB1 3 tf31 rfl rfl rfl) ?_
    refine gk_y rfl rfl (y_move rfl) ?_
    refine gk_y rfl rfl (y_call en90 rfl (fun w hw => at_c _ _ s.shape i w (Rd.has (Has.rd hl) hw) (by assumption) (by omega) (by omega) (by omega))) ?_
    refine gk_yx rfl rfl (yx_alloc tf32 (zs := [_, _]) rfl) fun b9 => ?_
    refine gk_storeV 0 tf32 rfl rfl (vs := [_, _]) rfl rfl rfl rfl rfl ?_
    refine gk_nil (gk_sub (T' := [(3,_), (5,_), (6,_), (7,_), (8,_), (9,_)]) ⟨rfl, rfl, rfl, rfl, rfl, rfl, trivial⟩ ?_)
    refine gk_seq ?_
    refine gk_seq ?_
    refine gk_any 19 (fun _ => mixed) (by kernel_rfl) ?_
    refine ph_y (y_loadBA 0 tf32 rfl rfl (vs := [_, _]) rfl rfl) ?_
    refine ph_y (y_loadBA 2 tf32 rfl rfl (vs := [_, _]) rfl rfl) ?_
    refine ph_y (y_eql32 rfl rfl) ?_
    refine ph_y (y_move rfl) ?_
    refine ph_gF rfl rfl (fun hgd => by (try rw [hgd]); exact (y_loadBA 4 tf34 rfl rfl (vs := [_, _, _, _, _, _]) rfl rfl)) ?_
    refine ph_gF rfl rfl (fun hgd => by (try rw [hgd]); exact (y_loadBA 2 tf32 rfl rfl (vs := [_, _]) rfl rfl)) ?_
    refine ph_gF rfl rfl (fun hgd => by (try rw [hgd]); exact (y_call (v := .int .i64 (edgeI s.shape q)) en68 rfl (fun w hw => edge_c _ _ s q w (Rd.has (Has.rd hl) hw) (by assumption)))) ?_
    refine ph_gF rfl rfl (fun hgd => by (try rw [hgd]); exact (y_move rfl)) ?_
    refine ph_gF rfl rfl (fun hgd => by (try rw [hgd]); exact (y_subI rfl rfl (by omega) (by omega))) ?_
    refine ph_gF rfl rfl (fun hgd => by (try rw [hgd]); exact (y_fieldAddr fo34_1 rfl)) ?_
    refine ph_gF rfl rfl (fun hgd => by (try rw [hgd]); exact (y_loadB1 4 tf31 rfl rfl rfl)) ?_
    refine ph_gF rfl rfl (fun hgd => by (try rw [hgd]); exact (y_lenS (Tryd.underlying31) rfl)) ?_
    refine ph_gF rfl rfl (fun hgd => by (try rw [hgd]); exact (y_addI rfl rfl (by omega) (by omega))) ?_
    refine ph_gF rfl rfl (fun hgd => by (try rw [hgd]); exact (y_fieldAddr fo34_1 rfl)) ?_
    refine ph_gF rfl rfl (fun hgd => by (try rw [hgd]); exact (y_loadB1 4 tf31 rfl rfl rfl)) ?_
    refine ph_gF rfl rfl (fun hgd => by (try rw [hgd]); exact (y_lenS (Tryd.underlying31) rfl)) ?_
    refine ph_gF rfl rfl (fun hgd => by (try rw [hgd]); exact (y_rem rfl rfl (by omega))) ?_
    refine ph_gF rfl rfl (fun hgd => by (try rw [hgd]); exact (y_eql rfl rfl)) ?_
    refine ph_y (y_pickOr rfl rfl rfl) ?_
    refine gk_nil (gk_sub (T' := [(3,_), (5,_), (6,_), (7,_), (8,_), (9,_), (40,_)]) ⟨rfl, rfl, rfl, rfl, rfl, rfl, rfl, trivial⟩ ?_)
    refine gk_cond rfl (fun hc40 => ?_) (fun hc40 => ?_)
    · have hfin := right_stop h1 h2 g0 g1 g3 hc40
      refine gk_seq ?_
      refine gk_region ?_
      refine gk_y rfl rfl (y_move rfl) ?_
      refine gk_y rfl rfl (y_loadBA 2 tf32 rfl rfl (vs := [_, _]) rfl rfl) ?_
      refine gk_yx rfl rfl (yx_buildSlice rfl (bs31_1 _ _) encPt_ok rfl) fun b43 => ?_
      refine gk_append (m := [⟨q.x, q.z⟩]) 2 af31 encPt_ok rfl rfl rfl rfl (fun _ hw => (has_row encPt_ok (hw.has (p := 0) rfl))) (by first | omega | (simp only [List.length_cons, List.length_nil]; omega)) (by first | (unfold maxLen; omega) | (simp only [List.length_cons, List.length_nil, maxLen]; omega)) fun a44 c44 => ?_
      refine gk_y rfl rfl (y_assign rfl) ?_
      refine gk_nil (gk_sub (T' := [(3,_), (5,_), (6,_), (7,_), (8,_), (9,_)]) ⟨rfl, rfl, rfl, rfl, rfl, rfl, trivial⟩ ?_)
      refine gk_ret ?_
      refine gk_gives (a44, c44) 2 (rv_one rfl (r1_tmp rfl)) ?_ (by rw [← hfin]; rfl)
      rw [← hfin]
    · have hgo := right_go h1 h2 g0 g1 g3 hc40
      refine gk_skip ?_
      refine gk_region ?_
      refine gk_y rfl rfl (y_move rfl) ?_
      refine gk_y rfl rfl (y_loadBA 0 tf32 rfl rfl (vs := [_, _]) rfl rfl) ?_
      refine gk_yx rfl rfl (yx_buildSlice rfl (bs31_1 _ _) encPt_ok rfl) fun b47 => ?_
      refine gk_append (m := [⟨((atL s.shape i).x), ((atL s.shape i).z)⟩]) 2 af31 encPt_ok rfl rfl rfl rfl (fun _ hw => (has_row encPt_ok (hw.has (p := 0) rfl))) (by first | omega | (simp only [List.length_cons, List.length_nil]; omega)) (by first | (unfold maxLen; omega) | (simp only [List.length_cons, List.length_nil, maxLen]; omega)) fun a48 c48 => ?_
      refine gk_y rfl rfl (y_assign rfl) ?_
      refine gk_nil (gk_sub (T' := [(3,_), (5,_), (6,_), (7,_), (8,_)]) ⟨rfl, rfl, rfl, rfl, rfl, trivial⟩ ?_)
      refine gk_region ?_
      refine gk_y rfl rfl (y_move rfl) ?_
      refine gk_y rfl rfl (y_addI rfl rfl (by omega) (by omega)) ?_
      refine gk_y rfl rfl (y_assign rfl) ?_
      refine gk_nil (gk_sub (T' := [(3,_), (5,_), (6,_), (7,_), (8,_)]) ⟨rfl, rfl, rfl, rfl, rfl, trivial⟩ ?_)
      refine gk_dropAt 0 rfl ?_
      refine gk_dropAt 0 rfl ?_
      exact gk_next (m + 1, i + 1, a48, c48, _) ⟨rfl, rfl, rfl, rfl, rfl, trivial⟩ rfl ⟨hgo.1, by omega, by rw [List.length_append]; simp only [List.length_cons, List.length_nil]; omega, hgo.2⟩ (by have := hgo.1; simp only []; omega)

set_option maxRecDepth 100000 in
set_option maxHeartbeats 1000000 in
theorem piece_c (a : Option Addr) (cap : Nat) (s : Stn) (c : ByteArray) (a2 : Option Addr) (cap2 : Nat) (l : List Pt) (w : World) (hl2 : Has w (Pts a2 l)) (hs2 : Small l.length) (h0 : 0 < l.length) (hcap : l.length ≤ cap2) (hn : s.name.size + c.size ≤ 4096) :
    Calls Tryd.prog 71 #[.agg #[.string s.name, .slice a s.shape.length cap, .int .i64 s.depth, .int .i64 s.density, .int .i64 s.grain.x, .int .i64 s.grain.z], .string c, .slice a2 l.length cap2] w (Gives (fun z : Option Addr × Nat => stnV (pieceW s c l) z.1 z.2) (fun z => Row z.1 2 z.2 32 encPt (pieceW s c l).shape) w) := by
  refine calls_of_gk (vs := [_, _, _]) Tryd.func71 rfl rfl (Nat.le_of_ble_eq_true rfl) ?_
  refine gk_seq ?_
  refine gk_region ?_
  refine gk_yx rfl rfl (yx_box (vs := [_, _, _, _, _, _]) rfl rfl) fun b3 => ?_
  refine gk_yx rfl rfl (yx_alloc tf34 (zs := [_, _, _, _, _, _]) rfl) fun b6 => ?_
  refine gk_nil (gk_sub (T' := [(1,_), (2,_), (3,_), (6,_)]) ⟨rfl, rfl, rfl, rfl, trivial⟩ ?_)
  refine gk_seq ?_
  refine gk_region ?_
  refine gk_y rfl rfl (y_fieldAddr fo34_0 rfl) ?_
  refine gk_y rfl rfl (y_loadB1 1 tf9 rfl rfl rfl) ?_
  refine gk_y rfl rfl (y_move rfl) ?_
  refine gk_y rfl rfl (y_strAdd rfl rfl (by omega)) ?_
  refine gk_y rfl rfl (y_fieldAddr fo34_0 rfl) ?_
  refine gk_storeV 1 tf9 rfl rfl (vs := [_]) rfl rfl rfl rfl rfl ?_
  refine gk_nil (gk_sub (T' := [(2,_), (3,_), (6,_)]) ⟨rfl, rfl, rfl, trivial⟩ ?_)
  refine gk_seq ?_
  refine gk_region ?_
  refine gk_y rfl rfl (y_move rfl) ?_
  refine gk_yx rfl rfl (yx_call en60 rfl (fun w hw => settled_c _ _ l w (Rd.has (Has.rd hl2) hw) (by assumption) (by assumption) hcap)) fun p13 => ?_
  refine gk_y rfl rfl (y_fieldAddr fo34_1 rfl) ?_
  refine gk_storeV 2 tf31 rfl rfl (vs := [_]) rfl rfl rfl rfl rfl ?_
  refine gk_nil (gk_sub (T' := [(3,_), (6,_)]) ⟨rfl, rfl, trivial⟩ ?_)
  refine gk_seq ?_
  refine gk_region ?_
  refine gk_y rfl rfl (y_loadBA 2 tf34 rfl rfl (vs := [_, _, _, _, _, _]) rfl rfl) ?_
  refine gk_storeV 1 tf34 rfl rfl (vs := [_, _, _, _, _, _]) rfl rfl rfl rfl rfl ?_
  refine gk_nil (gk_sub (T' := [(6,_)]) ⟨rfl, trivial⟩ ?_)
  refine gk_ret ?_
  refine gk_gives p13 0 (rv_one rfl (r1_cellA (i := 1) (vs := [_, _, _, _, _, _]) tf34 rfl rfl rfl rfl)) ?_ rfl
  rfl

set_option maxRecDepth 100000 in
set_option maxHeartbeats 1000000 in
theorem Split_c (a : Option Addr) (cap : Nat) (s : Stn) (p q : Pt) (w : World) (hl : Has w (Pts a s.shape)) (hs : Small s.shape.length) :
    Calls Tryd.prog 26 #[.agg #[.string s.name, .slice a s.shape.length cap, .int .i64 s.depth, .int .i64 s.density, .int .i64 s.grain.x, .int .i64 s.grain.z], .agg #[.int .i64 p.x, .int .i64 p.z], .agg #[.int .i64 q.x, .int .i64 q.z]] w (Gives (fun z : (Option Addr × Nat) × (Option Addr × Nat) => .tuple #[stnV (splitA s p q) z.1.1 z.1.2, stnV (splitB s p q) z.2.1 z.2.2, .int .i64 (splitE s p q)]) (fun z => SepR [Row z.1.1 2 z.1.2 32 encPt (splitA s p q).shape, Row z.2.1 2 z.2.2 32 encPt (splitB s p q).shape]) w) := by
  refine calls_of_gk (vs := [_, _, _]) Tryd.func26 rfl rfl (Nat.le_of_ble_eq_true rfl) ?_
  refine gk_seq ?_
  refine gk_region ?_
  refine gk_yx rfl rfl (yx_box (vs := [_, _, _, _, _, _]) rfl rfl) fun b3 => ?_
  refine gk_yx rfl rfl (yx_box (vs := [_, _]) rfl rfl) fun b4 => ?_
  refine gk_yx rfl rfl (yx_box (vs := [_, _]) rfl rfl) fun b5 => ?_
  refine gk_yx rfl rfl (yx_alloc tf34 (zs := [_, _, _, _, _, _]) rfl) fun b6 => ?_
  refine gk_yx rfl rfl (yx_alloc tf34 (zs := [_, _, _, _, _, _]) rfl) fun b7 => ?_
  refine gk_y rfl rfl (y_assign rfl) ?_
  refine gk_nil (gk_sub (T' := [(3,_), (4,_), (5,_), (6,_), (7,_), (8,_)]) ⟨rfl, rfl, rfl, rfl, rfl, rfl, trivial⟩ ?_)
  refine gk_seq ?_
  refine gk_seq ?_
  refine gk_region ?_
  refine gk_y rfl rfl (y_loadBA 4 tf34 rfl rfl (vs := [_, _, _, _, _, _]) rfl rfl) ?_
  refine gk_y rfl rfl (y_call en17 rfl (fun w hw => check_c _ _ s w (Rd.has (Has.rd hl) hw) (by assumption))) ?_
  refine gk_y rfl rfl (y_assign rfl) ?_
  refine gk_nil (gk_sub (T' := [(3,_), (4,_), (5,_), (6,_), (7,_), (8,_), (9,_)]) ⟨rfl, rfl, rfl, rfl, rfl, rfl, rfl, trivial⟩ ?_)
  refine gk_seq ?_
  refine gk_region ?_
  refine gk_y rfl rfl (y_move rfl) ?_
  refine gk_y rfl rfl (y_neq rfl rfl) ?_
  refine gk_nil (gk_sub (T' := [(3,_), (4,_), (5,_), (6,_), (7,_), (8,_), (9,_), (15,_)]) ⟨rfl, rfl, rfl, rfl, rfl, rfl, rfl, rfl, trivial⟩ ?_)
  refine gk_cond rfl (fun hc15 => ?_) (fun hc15 => ?_)
  · have hk : ¬ checkI s = 0 := by simpa using hc15
    have hE : splitE s p q = checkI s := by rw [splitE, if_pos hk]
    obtain ⟨hA, hB⟩ := split_bad hE hk
    refine gk_newNil 32 encPt 2 ?_
    refine gk_newNil 32 encPt 2 ?_
    refine gk_front 1 rfl ?_
    refine gk_front 1 rfl ?_
    refine gk_pack 2 ?_
    refine gk_seq ?_
    refine gk_region ?_
    refine gk_y rfl rfl (y_buildL (parts := []) rfl bd34_) ?_
    refine gk_y rfl rfl (y_buildL (parts := []) rfl bd34_) ?_
    refine gk_y rfl rfl (y_move rfl) ?_
    refine gk_storeV 2 tf34 rfl rfl (vs := [_, _, _, _, _, _]) rfl rfl rfl rfl rfl ?_
    refine gk_storeV 1 tf34 rfl rfl (vs := [_, _, _, _, _, _]) rfl rfl rfl rfl rfl ?_
    refine gk_y rfl rfl (y_assign rfl) ?_
    refine gk_nil (gk_sub (T' := [(3,_), (4,_), (5,_), (6,_), (7,_), (8,_)]) ⟨rfl, rfl, rfl, rfl, rfl, rfl, trivial⟩ ?_)
    refine gk_ret ?_
    refine gk_gives ((none, 0), (none, 0)) 0 (rv_three rfl (r1_cellA (i := 2) (vs := [_, _, _, _, _, _]) tf34 rfl rfl rfl rfl) (r1_cellA (i := 1) (vs := [_, _, _, _, _, _]) tf34 rfl rfl rfl rfl) (r1_tmp rfl)) ?_ (by rw [hA, hB]; rfl)
    rw [hA, hB, hE]; try rfl
  · have hk : checkI s = 0 := by simpa using hc15
    refine gk_skip ?_
    refine gk_seq ?_
    refine gk_block ?_
    refine gk_seq ?_
    refine gk_any 11 (fun _ => mixed) (by kernel_rfl) ?_
    refine ph_y (y_loadBA 4 tf34 rfl rfl (vs := [_, _, _, _, _, _]) rfl rfl) ?_
    refine ph_y (y_loadBA 3 tf32 rfl rfl (vs := [_, _]) rfl rfl) ?_
    refine ph_y (y_call en68 rfl (fun w hw => edge_c _ _ s p w (Rd.has (Has.rd hl) hw) (by assumption))) ?_
    refine ph_y (y_lss rfl rfl) ?_
    refine ph_y (y_move rfl) ?_
    refine ph_gF rfl rfl (fun hgd => by (try rw [hgd]); exact (y_loadBA 4 tf34 rfl rfl (vs := [_, _, _, _, _, _]) rfl rfl)) ?_
    refine ph_gF rfl rfl (fun hgd => by (try rw [hgd]); exact (y_loadBA 2 tf32 rfl rfl (vs := [_, _]) rfl rfl)) ?_
    refine ph_gF rfl rfl (fun hgd => by (try rw [hgd]); exact (y_call (v := .int .i64 (edgeI s.shape q)) en68 rfl (fun w hw => edge_c _ _ s q w (Rd.has (Has.rd hl) hw) (by assumption)))) ?_
    refine ph_gF rfl rfl (fun hgd => by (try rw [hgd]); exact (y_lss rfl rfl)) ?_
    refine ph_y (y_pickOr rfl rfl rfl) ?_
    refine ph_y (y_assign rfl) ?_
    refine gk_nil (gk_sub (T' := [(3,_), (4,_), (5,_), (6,_), (7,_), (8,_), (19,_)]) ⟨rfl, rfl, rfl, rfl, rfl, rfl, rfl, trivial⟩ ?_)
    refine gk_cond rfl (fun hc19 => ?_) (fun hc19 => ?_)
    · have hE : splitE s p q = 8 := by rw [splitE, if_neg (fun h => h hk), if_pos hc19]
      obtain ⟨hA, hB⟩ := split_bad hE (by decide)
      refine gk_newNil 32 encPt 2 ?_
      refine gk_newNil 32 encPt 2 ?_
      refine gk_front 1 rfl ?_
      refine gk_front 1 rfl ?_
      refine gk_pack 2 ?_
      refine gk_seq ?_
      refine gk_region ?_
      refine gk_y rfl rfl (y_buildL (parts := []) rfl bd34_) ?_
      refine gk_y rfl rfl (y_buildL (parts := []) rfl bd34_) ?_
      refine gk_storeV 2 tf34 rfl rfl (vs := [_, _, _, _, _, _]) rfl rfl rfl rfl rfl ?_
      refine gk_storeV 1 tf34 rfl rfl (vs := [_, _, _, _, _, _]) rfl rfl rfl rfl rfl ?_
      refine gk_y rfl rfl (y_assign rfl) ?_
      refine gk_nil (gk_sub (T' := [(3,_), (4,_), (5,_), (6,_), (7,_), (8,_)]) ⟨rfl, rfl, rfl, rfl, rfl, rfl, trivial⟩ ?_)
      refine gk_ret ?_
      refine gk_gives ((none, 0), (none, 0)) 0 (rv_three rfl (r1_cellA (i := 2) (vs := [_, _, _, _, _, _]) tf34 rfl rfl rfl rfl) (r1_cellA (i := 1) (vs := [_, _, _, _, _, _]) tf34 rfl rfl rfl rfl) (r1_tmp rfl)) ?_ (by rw [hA, hB]; rfl)
      rw [hA, hB, hE]; try rfl
    · have hed : 0 ≤ edgeI s.shape p ∧ 0 ≤ edgeI s.shape q := by simpa using hc19
      have hr1 := rightL_len hed.1 hed.2
      have hr2 := rightL_len hed.2 hed.1
      have hln := check_len hk
      have hnm := check_named hk
      refine gk_seq ?_
      refine gk_region ?_
      refine gk_y rfl rfl (y_loadBA 4 tf34 rfl rfl (vs := [_, _, _, _, _, _]) rfl rfl) ?_
      refine gk_y rfl rfl (y_loadBA 3 tf32 rfl rfl (vs := [_, _]) rfl rfl) ?_
      refine gk_y rfl rfl (y_loadBA 2 tf32 rfl rfl (vs := [_, _]) rfl rfl) ?_
      refine gk_y rfl rfl (y_call en69 rfl (fun w hw => apart_c _ _ s p q w (Rd.has (Has.rd hl) hw) (by assumption))) ?_
      refine gk_y rfl rfl (y_not rfl) ?_
      refine gk_y rfl rfl (y_assign rfl) ?_
      refine gk_nil (gk_sub (T' := [(3,_), (4,_), (5,_), (6,_), (7,_), (8,_), (32,_)]) ⟨rfl, rfl, rfl, rfl, rfl, rfl, rfl, trivial⟩ ?_)
      refine gk_cond rfl (fun hc32 => ?_) (fun hc32 => ?_)
      · have hap : apartB s.shape p q = false := by simpa using hc32
        have hE : splitE s p q = 2 := by rw [splitE, if_neg (fun h => h hk), if_neg (by rw [hc19]; exact Bool.false_ne_true), if_pos hap]
        obtain ⟨hA, hB⟩ := split_bad hE (by decide)
        refine gk_newNil 32 encPt 2 ?_
        refine gk_newNil 32 encPt 2 ?_
        refine gk_front 1 rfl ?_
        refine gk_front 1 rfl ?_
        refine gk_pack 2 ?_
        refine gk_seq ?_
        refine gk_region ?_
        refine gk_y rfl rfl (y_buildL (parts := []) rfl bd34_) ?_
        refine gk_y rfl rfl (y_buildL (parts := []) rfl bd34_) ?_
        refine gk_storeV 2 tf34 rfl rfl (vs := [_, _, _, _, _, _]) rfl rfl rfl rfl rfl ?_
        refine gk_storeV 1 tf34 rfl rfl (vs := [_, _, _, _, _, _]) rfl rfl rfl rfl rfl ?_
        refine gk_y rfl rfl (y_assign rfl) ?_
        refine gk_nil (gk_sub (T' := [(3,_), (4,_), (5,_), (6,_), (7,_), (8,_)]) ⟨rfl, rfl, rfl, rfl, rfl, rfl, trivial⟩ ?_)
        refine gk_ret ?_
        refine gk_gives ((none, 0), (none, 0)) 0 (rv_three rfl (r1_cellA (i := 2) (vs := [_, _, _, _, _, _]) tf34 rfl rfl rfl rfl) (r1_cellA (i := 1) (vs := [_, _, _, _, _, _]) tf34 rfl rfl rfl rfl) (r1_tmp rfl)) ?_ (by rw [hA, hB]; rfl)
        rw [hA, hB, hE]; try rfl
      · have hap : ¬ apartB s.shape p q = false := by simpa using hc32
        refine gk_skip ?_
        refine gk_seq ?_
        refine gk_any 8 (fun _ => mixed) (by kernel_rfl) ?_
        refine ph_y (y_loadBA 4 tf34 rfl rfl (vs := [_, _, _, _, _, _]) rfl rfl) ?_
        refine ph_y (y_loadBA 2 tf32 rfl rfl (vs := [_, _]) rfl rfl) ?_
        refine ph_y (y_loadBA 3 tf32 rfl rfl (vs := [_, _]) rfl rfl) ?_
        refine ph_yx (yx_call en70 rfl (fun w hw => right_c _ _ s q p w (Rd.has (Has.rd hl) hw) (by assumption) (by first | exact hed.1 | exact hed.2) (by first | exact hed.2 | exact hed.1))) ?_
        refine ph_y (y_loadBA 4 tf34 rfl rfl (vs := [_, _, _, _, _, _]) rfl rfl) ?_
        refine ph_y (y_loadBA 3 tf32 rfl rfl (vs := [_, _]) rfl rfl) ?_
        refine ph_y (y_loadBA 2 tf32 rfl rfl (vs := [_, _]) rfl rfl) ?_
        refine ph_yx (fun p43 => yx_call en70 rfl (fun w hw => right_c _ _ s p q w (Rd.has (Has.rd hl) hw) (by assumption) (by first | exact hed.1 | exact hed.2) (by first | exact hed.2 | exact hed.1))) ?_
        intro p47
        intro p43
        refine gk_sub (T' := [(3,_), (6,_), (7,_), (8,_), (43,_), (47,_)]) ⟨rfl, rfl, rfl, rfl, rfl, rfl, trivial⟩ ?_
        refine gk_y rfl rfl (y_assign rfl) ?_
        refine gk_y rfl rfl (y_assign rfl) ?_
        refine gk_nil (gk_sub (T' := [(3,_), (6,_), (7,_), (8,_), (10,_), (11,_)]) ⟨rfl, rfl, rfl, rfl, rfl, rfl, trivial⟩ ?_)
        refine gk_seq ?_
        refine gk_seq ?_
        refine gk_any 12 (fun _ => mixed) (by kernel_rfl) ?_
        refine ph_y (y_fieldAddr fo34_0 rfl) ?_
        refine ph_y (y_loadB1 6 tf9 rfl rfl rfl) ?_
        refine ph_y (y_lenStr (Tryd.underlying9) rfl) ?_
        refine ph_y (y_eql rfl rfl) ?_
        refine ph_y (y_move rfl) ?_
        refine ph_gF rfl rfl (fun hgd => by (try rw [hgd]); exact (y_move rfl)) ?_
        refine ph_gF rfl rfl (fun hgd => by (try rw [hgd]); exact (y_lenS (Tryd.underlying31) rfl)) ?_
        refine ph_gF rfl rfl (fun hgd => by (try rw [hgd]); exact (y_move rfl)) ?_
        refine ph_gF rfl rfl (fun hgd => by (try rw [hgd]); exact (y_lenS (Tryd.underlying31) rfl)) ?_
        refine ph_gF rfl rfl (fun hgd => by (try rw [hgd]); exact (y_max rfl rfl)) ?_
        refine ph_gF rfl rfl (fun hgd => by (try rw [hgd]); exact (y_gtr rfl rfl)) ?_
        refine ph_y (y_pickOr rfl rfl rfl) ?_
        refine gk_nil (gk_sub (T' := [(3,_), (6,_), (7,_), (8,_), (10,_), (11,_), (59,_)]) ⟨rfl, rfl, rfl, rfl, rfl, rfl, rfl, trivial⟩ ?_)
        refine gk_cond rfl (fun hc59 => ?_) (fun hc59 => ?_)
        · have hE : splitE s p q = 5 := by rw [splitE, if_neg (fun h => h hk), if_neg (by rw [hc19]; exact Bool.false_ne_true), if_neg hap, if_pos hc59]
          obtain ⟨hA, hB⟩ := split_bad hE (by decide)
          refine gk_newNil 32 encPt 2 ?_
          refine gk_newNil 32 encPt 2 ?_
          refine gk_front 1 rfl ?_
          refine gk_front 1 rfl ?_
          refine gk_pack 2 ?_
          refine gk_seq ?_
          refine gk_region ?_
          refine gk_y rfl rfl (y_buildL (parts := []) rfl bd34_) ?_
          refine gk_y rfl rfl (y_buildL (parts := []) rfl bd34_) ?_
          refine gk_storeV 4 tf34 rfl rfl (vs := [_, _, _, _, _, _]) rfl rfl rfl rfl rfl ?_
          refine gk_storeV 3 tf34 rfl rfl (vs := [_, _, _, _, _, _]) rfl rfl rfl rfl rfl ?_
          refine gk_y rfl rfl (y_assign rfl) ?_
          refine gk_nil (gk_sub (T' := [(3,_), (6,_), (7,_), (8,_), (10,_), (11,_)]) ⟨rfl, rfl, rfl, rfl, rfl, rfl, trivial⟩ ?_)
          refine gk_ret ?_
          refine gk_gives ((none, 0), (none, 0)) 0 (rv_three rfl (r1_cellA (i := 4) (vs := [_, _, _, _, _, _]) tf34 rfl rfl rfl rfl) (r1_cellA (i := 3) (vs := [_, _, _, _, _, _]) tf34 rfl rfl rfl rfl) (r1_tmp rfl)) ?_ (by rw [hA, hB]; rfl)
          rw [hA, hB, hE]; try rfl
        · have hE : splitE s p q = 0 := by rw [splitE, if_neg (fun h => h hk), if_neg (by rw [hc19]; exact Bool.false_ne_true), if_neg hap, if_neg (by rw [hc59]; exact Bool.false_ne_true)]
          obtain ⟨hA, hB⟩ := split_good hE
          refine gk_skip ?_
          refine gk_seq ?_
          refine gk_any 6 (fun _ => mixed) (by kernel_rfl) ?_
          refine ph_y (y_loadBA 6 tf34 rfl rfl (vs := [_, _, _, _, _, _]) rfl rfl) ?_
          refine ph_y (y_move rfl) ?_
          refine ph_yx (yx_call en71 rfl (fun w hw => piece_c _ _ s _ _ _ (rightL s.shape q p) w (has_row encPt_ok (hw.has (p := 0) rfl)) (by unfold Small; omega) (by omega) (row_cap (hw.has (p := 0) rfl)) (by change s.name.size + 1 ≤ _; omega))) ?_
          refine ph_y (y_loadBA 6 tf34 rfl rfl (vs := [_, _, _, _, _, _]) rfl rfl) ?_
          refine ph_y (y_move rfl) ?_
          refine ph_yx (fun p64 => yx_call en71 rfl (fun w hw => piece_c _ _ s _ _ _ (rightL s.shape p q) w (has_row encPt_ok (hw.has (p := 2) rfl)) (by unfold Small; omega) (by omega) (row_cap (hw.has (p := 2) rfl)) (by change s.name.size + 1 ≤ _; omega))) ?_
          intro p67
          intro p64
          refine gk_sub (T' := [(6,_), (7,_), (8,_), (64,_), (67,_)]) ⟨rfl, rfl, rfl, rfl, rfl, trivial⟩ ?_
          refine gk_storeV 5 tf34 rfl rfl (vs := [_, _, _, _, _, _]) rfl rfl rfl rfl rfl ?_
          refine gk_storeV 4 tf34 rfl rfl (vs := [_, _, _, _, _, _]) rfl rfl rfl rfl rfl ?_
          refine gk_y rfl rfl (y_assign rfl) ?_
          refine gk_nil (gk_sub (T' := [(6,_), (7,_), (8,_)]) ⟨rfl, rfl, rfl, trivial⟩ ?_)
          refine gk_front 1 rfl ?_
          refine gk_front 1 rfl ?_
          refine gk_pack 2 ?_
          refine gk_ret ?_
          refine gk_gives (p64, p67) 0 (rv_three rfl (r1_cellA (i := 4) (vs := [_, _, _, _, _, _]) tf34 rfl rfl rfl rfl) (r1_cellA (i := 3) (vs := [_, _, _, _, _, _]) tf34 rfl rfl rfl rfl) (r1_tmp rfl)) ?_ (by rw [hA, hB]; rfl)
          rw [hA, hB, hE]; try rfl

end Go.Proofs.YtahahmelnaphjaaDoor
