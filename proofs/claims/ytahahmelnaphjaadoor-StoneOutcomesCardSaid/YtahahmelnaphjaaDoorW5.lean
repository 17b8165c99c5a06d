/- Walks: edges, areas, weights. No statement of the seat is proved in this text. -/
import Derived.Test.YtahahmelnaphjaaDoorW4
import Derived.Test.YtahahmelnaphjaaDoorD2
import Derived.Test.YtahahmelnaphjaaDoorK15
namespace Go.Proofs.YtahahmelnaphjaaDoor
open Go.K Go.Stn Go.RowKit
theorem en17 : En Tryd.prog 17 := en_of Tryd.func17 (by kernel_rfl) (by kernel_rfl)
theorem en74 : En Tryd.prog 74 := en_of Tryd.func74 (by kernel_rfl) (by kernel_rfl)
theorem en75 : En Tryd.prog 75 := en_of Tryd.func75 (by kernel_rfl) (by kernel_rfl)
theorem en77 : En Tryd.prog 77 := en_of Tryd.func77 (by kernel_rfl) (by kernel_rfl)
theorem en82 : En Tryd.prog 82 := en_of Tryd.func82 (by kernel_rfl) (by kernel_rfl)
theorem en124 : En Tryd.prog 124 := en_of Tryd.func124 (by kernel_rfl) (by kernel_rfl)

set_option maxRecDepth 100000 in
set_option maxHeartbeats 1000000 in
theorem edges_c (a : Option Addr) (cap : Nat) (l : List Pt) (w : World)  :
    Calls Tryd.prog 82 #[.slice a l.length cap] w (Gives (fun b : Nat => .func (.func 124) #[] #[.pointer (some ⟨b, 0, none⟩)]) (fun b => Box b [.slice a l.length cap] 31) w) := by
  refine calls_of_gk (vs := [_]) Tryd.func82 rfl rfl (Nat.le_of_ble_eq_true rfl) ?_
  refine gk_seq ?_
  refine gk_region ?_
  refine gk_yx rfl rfl (yx_box (vs := [_]) rfl rfl) fun b1 => ?_
  refine gk_y rfl rfl (y_assign rfl) ?_
  refine gk_nil (gk_sub (T' := [(1,_), (2,_)]) ⟨rfl, rfl, trivial⟩ ?_)
  refine gk_seq ?_
  refine gk_region ?_
  refine gk_y rfl rfl (y_makeFunc («as» := []) (bs := [_]) rfl rfl) ?_
  refine gk_y rfl rfl (y_assign rfl) ?_
  refine gk_nil (gk_sub (T' := [(2,_)]) ⟨rfl, trivial⟩ ?_)
  refine gk_ret ?_
  refine gk_gives b1 0 (rv_one rfl (r1_tmp rfl)) ?_ rfl
  rfl

set_option maxRecDepth 100000 in
set_option maxHeartbeats 1000000 in
theorem edges1_c (a : Option Addr) (cap : Nat) (l : List Pt) (b : Nat) (hs : Small l.length) :
    SeqC Tryd.prog 124 [.pointer (some ⟨b, 0, none⟩)] (edgeVs l) (fun w => Has w (Box b [.slice a l.length cap] 31) ∧ Has w (Pts a l)) := by
  intro X J Rl D y w B x0 hB hA h0 hM hy
  refine calls_of_gkB hB hA (vs := [_, _]) Tryd.func124 rfl rfl (Nat.le_of_ble_eq_true rfl) ?_
  have hmem : ∀ {cz : Cx} {Hz : List Res} {xz : X} {pz : Nat} {w' : World}, Inside (fun k => k < w.heap.size ∧ ¬ B k) w cz → Hz[pz]? = some (J xz) → Hp cz.U cz.w0 Hz w' → (Has w' (Box b [.slice a l.length cap] 31) ∧ Has w' (Pts a l)) := fun hin hp hw => by
    obtain ⟨B', q1, q2, q3, q4⟩ := own_of_in hin hp hw
    exact hM _ _ B' q4 q1 q2 q3
  have ins0 := insideB Tryd.prog Tryd.f124.ntmps w B
  refine gk_seq ?_
  refine gk_region ?_
  refine gk_y rfl rfl (y_load1 tf31 rfl (fun _ hw => has_box_cell (hmem ins0 (pz := 0) rfl hw).1 rfl)) ?_
  refine gk_y rfl rfl (y_lenS (Tryd.underlying31) rfl) ?_
  refine gk_y rfl rfl (y_move rfl) ?_
  refine gk_nil (gk_sub (T' := [(0,_), (1,_), (5,_), (6,_)]) ⟨rfl, rfl, rfl, rfl, trivial⟩ ?_)
  refine gk_block ?_
  refine gk_loop (X := Int × X) (fun ⟨i, x⟩ => [(0, .func (.yield y) #[] #[]), (1, .pointer (some ⟨b, 0, none⟩)), (5, .int .i64 (l.length : Int)), (6, .int .i64 i)]) (fun ⟨i, x⟩ => [J x]) (fun ⟨i, x⟩ => (0 ≤ i ∧ i ≤ l.length ∧ Rl i.toNat x)) (fun ⟨i, x⟩ => (l.length - i).toNat) (0, x0) ⟨rfl, rfl, rfl, rfl, trivial⟩ rfl ?_ ?_
  · exact ⟨by omega, by omega, h0⟩
  · rintro ⟨i, x⟩ hI
    obtain ⟨g0, g1, g2⟩ := hI
    refine gk_seq ?_
    refine gk_region ?_
    refine gk_y rfl rfl (y_lss rfl rfl) ?_
    refine gk_nil (gk_sub (T' := [(0,_), (1,_), (5,_), (6,_), (7,_)]) ⟨rfl, rfl, rfl, rfl, rfl, trivial⟩ ?_)
    refine gk_seq ?_
    refine gk_cond rfl (fun hc7 => ?_) (fun hc7 => ?_)
    · have hc7 := of_decide_eq_true hc7
      have hpos : 0 < l.length := by omega
      refine gk_skip ?_
      refine gk_seq ?_
      refine gk_block ?_
      refine gk_seq ?_
      refine gk_region ?_
      refine gk_y rfl rfl (y_move rfl) ?_
      refine gk_y rfl rfl (y_assign rfl) ?_
      refine gk_nil (gk_sub (T' := [(0,_), (1,_), (3,_), (5,_), (6,_)]) ⟨rfl, rfl, rfl, rfl, rfl, trivial⟩ ?_)
      refine gk_seq ?_
      refine gk_any 9 (fun _ => mixed) (by kernel_rfl) ?_
      refine ph_y (y_move rfl) ?_
      refine ph_y (y_load1 tf31 rfl (fun _ hw => has_box_cell (hmem ins0 (pz := 0) rfl hw).1 rfl)) ?_
      refine ph_y (y_move rfl) ?_
      refine ph_y (y_indexE se31 rfl rfl (fun _ hw => (hmem ins0 (pz := 0) rfl hw).2) (by omega) (by omega)) ?_
      refine ph_y (y_loadE (vs := [_, _]) tf32 rfl (fun _ hw => (hmem ins0 (pz := 0) rfl hw).2) (by omega) (by omega) rfl) ?_
      refine ph_y (y_load1 tf31 rfl (fun _ hw => has_box_cell (hmem ins0 (pz := 0) rfl hw).1 rfl)) ?_
      refine ph_y (y_move rfl) ?_
      refine ph_y (y_addI rfl rfl (by omega) (by omega)) ?_
      refine ph_y (y_call en90 rfl (fun w hw => at_c _ _ l (i + 1) w (hmem ins0 (pz := 0) rfl hw).2 (by assumption) (by omega) (by omega) (by omega))) ?_
      refine gk_sub (T' := [(0,_), (1,_), (5,_), (6,_), (9,_), (13,_), (17,_)]) ⟨rfl, rfl, rfl, rfl, rfl, rfl, rfl, trivial⟩ ?_
      refine gk_yield 0 ins0 rfl rfl rfl rfl (hy _ _ _ (edge_get g0 (by omega)) g2) fun b18 x18 hp18 => ?_
      refine gk_y rfl rfl (y_not rfl) ?_
      refine gk_nil (gk_sub (T' := [(0,_), (1,_), (5,_), (6,_), (19,_)]) ⟨rfl, rfl, rfl, rfl, rfl, trivial⟩ ?_)
      refine gk_cond rfl (fun hc19 => ?_) (fun hc19 => ?_)
      · skip
        refine gk_ret ?_
        refine gk_turns x18 0 (rv_none rfl) rfl rfl (.inr (by have := hp18; rwa [show b18 = false from by simpa using hc19, if_neg Bool.false_ne_true] at this))
      · skip
        refine gk_skip ?_
        refine gk_region ?_
        refine gk_y rfl rfl (y_addI rfl rfl (by omega) (by omega)) ?_
        refine gk_y rfl rfl (y_move rfl) ?_
        refine gk_nil (gk_sub (T' := [(0,_), (1,_), (5,_), (6,_)]) ⟨rfl, rfl, rfl, rfl, trivial⟩ ?_)
        exact gk_next (i + 1, x18) ⟨rfl, rfl, rfl, rfl, trivial⟩ rfl ⟨by omega, by omega, by have := hp18; rw [show b18 = true from by simpa using hc19, if_pos rfl] at this; rwa [show (i + 1).toNat = i.toNat + 1 from by omega]⟩ (by simp only []; omega)
    · have hc7 := of_decide_eq_false hc7
      refine gk_exit rfl ?_
      refine gk_turns x 0 (rv_none rfl) rfl rfl (.inl (by rw [edges_len]; rwa [show i.toNat = l.length from by omega] at g2))

set_option maxRecDepth 100000 in
set_option maxHeartbeats 1000000 in
theorem twice_c (a : Option Addr) (cap : Nat) (l : List Pt) (w : World) (hl : Has w (Pts a l)) (hs : Small l.length) :
    Calls Tryd.prog 77 #[.slice a l.length cap] w (Pure (.int .i64 (twiceW l)) w) := by
  refine calls_of_gk (vs := [_]) Tryd.func77 rfl rfl (Nat.le_of_ble_eq_true rfl) ?_
  refine gk_seq ?_
  refine gk_region ?_
  refine gk_y rfl rfl (y_assign rfl) ?_
  refine gk_nil (gk_sub (T' := [(0,_), (2,_)]) ⟨rfl, rfl, trivial⟩ ?_)
  refine gk_seq ?_
  refine gk_region ?_
  refine gk_yx rfl rfl (yx_alloc tf3 (zs := [_]) rfl) fun b3 => ?_
  refine gk_storeV 0 tf3 rfl rfl (vs := [_]) rfl rfl rfl rfl rfl ?_
  refine gk_nil (gk_sub (T' := [(0,_), (2,_), (3,_)]) ⟨rfl, rfl, rfl, trivial⟩ ?_)
  refine gk_seq ?_
  refine gk_seq ?_
  refine gk_region ?_
  refine gk_y rfl rfl (y_move rfl) ?_
  refine gk_yx rfl rfl (yx_call en82 rfl (fun w hw => edges_c _ _ l w)) fun p7 => ?_
  refine gk_nil (gk_sub (T' := [(2,_), (3,_), (7,_)]) ⟨rfl, rfl, rfl, trivial⟩ ?_)
  refine gk_block ?_
  refine gk_sub (T' := [(2,_), (3,_), (7,_)]) ⟨rfl, rfl, rfl, trivial⟩ ?_
  refine gk_rangeFunc (X := Int) (fun s => [Box p7 [.slice a l.length cap] 31, Box b3 [.int .i64 s] 3]) (fun n s => s = ((edgesL l).take n).foldl (fun s e => W (s + crossW e.1 e.2)) 0) (fun s => False) [] 0 rfl en124 rfl rfl rfl (edges1_c _ _ l _ (by assumption)) (fun s w hw => ⟨hw.has (p := 0) rfl, (Rd.has (Has.rd hl) hw)⟩) (edges_two _) rfl ?_ ?_ ?_ ?_
  · rintro R1 R2 rl U' w' n s args hget hR hrd hins hbeg
    obtain ⟨e, he, rfl⟩ := edge_inv hget
    refine gk_sub (T' := [(3,_), (8,_), (9,_)]) ⟨rfl, rfl, rfl, trivial⟩ ?_
    refine gk_seq ?_
    refine gk_region ?_
    refine gk_yx rfl rfl (yx_alloc tf32 (zs := [_, _]) rfl) fun b4 => ?_
    refine gk_storeV 0 tf32 rfl rfl (vs := [_, _]) rfl rfl rfl rfl rfl ?_
    refine gk_nil (gk_sub (T' := [(3,_), (4,_), (9,_)]) ⟨rfl, rfl, rfl, trivial⟩ ?_)
    refine gk_region ?_
    refine gk_yx rfl rfl (yx_alloc tf32 (zs := [_, _]) rfl) fun b5 => ?_
    refine gk_storeV 0 tf32 rfl rfl (vs := [_, _]) rfl rfl rfl rfl rfl ?_
    refine gk_nil (gk_sub (T' := [(3,_), (4,_), (5,_)]) ⟨rfl, rfl, rfl, trivial⟩ ?_)
    refine gk_front 2 rfl ?_
    refine hbeg _ _ _ ?_
    refine gk_block ?_
    refine gk_any 5 (fun _ => mixed) (by kernel_rfl) ?_
    refine ph_y (y_loadB1 4 tf3 rfl rfl rfl) ?_
    refine ph_y (y_loadBA 2 tf32 rfl rfl (vs := [_, _]) rfl rfl) ?_
    refine ph_y (y_loadBA 1 tf32 rfl rfl (vs := [_, _]) rfl rfl) ?_
    refine ph_y (y_call en83 rfl (fun w hw => cross_c ⟨_, _⟩ ⟨_, _⟩ w)) ?_
    refine ph_y (y_add rfl rfl) ?_
    refine gk_sub (T' := [(3,_), (14,_)]) ⟨rfl, rfl, trivial⟩ ?_
    refine gk_storeV 4 tf3 rfl rfl (vs := [_]) rfl rfl rfl rfl rfl ?_
    refine gk_nil (gk_sub (T' := []) trivial ?_)
    refine gk_dropAt 1 rfl ?_
    refine gk_dropAt 1 rfl ?_
    exact gk_joined (W (s + crossW e.1 e.2)) trivial rfl (by rw [fold_succ _ _ he, ← hR])
  · intro Dm s hR
    have hR := hR.trans (fold_all _ _ (by simp [edgeVs]))
    refine gk_seq ?_
    refine gk_region ?_
    refine gk_y rfl rfl (y_loadB1 2 tf3 rfl rfl rfl) ?_
    refine gk_y rfl rfl (y_assign rfl) ?_
    refine gk_nil (gk_sub (T' := [(2,_)]) ⟨rfl, trivial⟩ ?_)
    refine gk_ret ?_
    refine gk_unmark 0 rfl ?_
    refine gk_pure (rv_one rfl (r1_tmp rfl)) ?_
    rw [hR]; rfl
  · exact fun _ _ h => h.elim
  · exact fun _ _ _ _ h => absurd h (by simp)

set_option maxRecDepth 100000 in
set_option maxHeartbeats 1000000 in
theorem weight0_c (a : Option Addr) (cap : Nat) (s : Stn) (w : World) (hl : Has w (Pts a s.shape)) (hs : Small s.shape.length) :
    Calls Tryd.prog 75 #[.agg #[.string s.name, .slice a s.shape.length cap, .int .i64 s.depth, .int .i64 s.density, .int .i64 s.grain.x, .int .i64 s.grain.z]] w (Pure (.int .i64 (weightW s)) w) := by
  refine calls_of_gk (vs := [_]) Tryd.func75 rfl rfl (Nat.le_of_ble_eq_true rfl) ?_
  refine gk_seq ?_
  refine gk_region ?_
  refine gk_yx rfl rfl (yx_box (vs := [_, _, _, _, _, _]) rfl rfl) fun b1 => ?_
  refine gk_y rfl rfl (y_assign rfl) ?_
  refine gk_nil (gk_sub (T' := [(1,_), (2,_)]) ⟨rfl, rfl, trivial⟩ ?_)
  refine gk_seq ?_
  refine gk_any 10 (fun _ => mixed) (by kernel_rfl) ?_
  refine ph_y (y_fieldAddr fo34_1 rfl) ?_
  refine ph_y (y_loadB1 0 tf31 rfl rfl rfl) ?_
  refine ph_y (y_call en77 rfl (fun w hw => twice_c _ _ s.shape w (Rd.has (Has.rd hl) hw) (by assumption))) ?_
  refine ph_y (y_fieldAddr fo34_2 rfl) ?_
  refine ph_y (y_loadB1 0 tf3 rfl rfl rfl) ?_
  refine ph_y (y_mul rfl rfl) ?_
  refine ph_y (y_fieldAddr fo34_3 rfl) ?_
  refine ph_y (y_loadB1 0 tf3 rfl rfl rfl) ?_
  refine ph_y (y_mul rfl rfl) ?_
  refine ph_y (y_assign rfl) ?_
  refine gk_nil (gk_sub (T' := [(2,_)]) ⟨rfl, trivial⟩ ?_)
  refine gk_ret ?_
  refine gk_pure (rv_one rfl (r1_tmp rfl)) ?_
  rfl

set_option maxRecDepth 100000 in
set_option maxHeartbeats 1000000 in
theorem ask64_c (a : Option Addr) (cap : Nat) (s : Stn) (gg : FuncId) (gfs gcap : List Value) (v : Int) (w : World) (hl : Has w (Pts a s.shape)) (hs : Small s.shape.length) (M : World → Prop) (hM : ∀ w', Ext w w' → M w') (hen : En Tryd.prog gg) (hg : checkI s = 0 → ∀ w', M w' → Calls Tryd.prog gg (gfs ++ [] ++ gcap).toArray w' (Pure (.int .i64 v) w')) :
    Calls Tryd.prog 74 #[.agg #[.string s.name, .slice a s.shape.length cap, .int .i64 s.depth, .int .i64 s.density, .int .i64 s.grain.x, .int .i64 s.grain.z], .func (.func gg) gfs.toArray gcap.toArray] w (Pure (.tuple #[.int .i64 (askI s v), .int .i64 (checkI s)]) w) := by
  refine calls_of_gk (vs := [_, _]) Tryd.func74 rfl rfl (Nat.le_of_ble_eq_true rfl) ?_
  refine gk_seq ?_
  refine gk_region ?_
  refine gk_yx rfl rfl (yx_box (vs := [_, _, _, _, _, _]) rfl rfl) fun b2 => ?_
  refine gk_y rfl rfl (y_assign rfl) ?_
  refine gk_y rfl rfl (y_assign rfl) ?_
  refine gk_nil (gk_sub (T' := [(1,_), (2,_), (4,_), (5,_)]) ⟨rfl, rfl, rfl, rfl, trivial⟩ ?_)
  refine gk_seq ?_
  refine gk_seq ?_
  refine gk_region ?_
  refine gk_y rfl rfl (y_loadBA 0 tf34 rfl rfl (vs := [_, _, _, _, _, _]) rfl rfl) ?_
  refine gk_y rfl rfl (y_call en17 rfl (fun w hw => check_c _ _ s w (Rd.has (Has.rd hl) hw) (by assumption))) ?_
  refine gk_y rfl rfl (y_assign rfl) ?_
  refine gk_nil (gk_sub (T' := [(1,_), (4,_), (5,_), (6,_)]) ⟨rfl, rfl, rfl, rfl, trivial⟩ ?_)
  refine gk_seq ?_
  refine gk_region ?_
  refine gk_y rfl rfl (y_move rfl) ?_
  refine gk_y rfl rfl (y_neq rfl rfl) ?_
  refine gk_nil (gk_sub (T' := [(1,_), (4,_), (5,_), (6,_), (10,_)]) ⟨rfl, rfl, rfl, rfl, rfl, trivial⟩ ?_)
  refine gk_cond rfl (fun hc10 => ?_) (fun hc10 => ?_)
  · skip
    refine gk_seq ?_
    refine gk_region ?_
    refine gk_y rfl rfl (y_move rfl) ?_
    refine gk_y rfl rfl (y_move rfl) ?_
    refine gk_y rfl rfl (y_assign rfl) ?_
    refine gk_y rfl rfl (y_assign rfl) ?_
    refine gk_nil (gk_sub (T' := [(1,_), (4,_), (5,_)]) ⟨rfl, rfl, rfl, trivial⟩ ?_)
    refine gk_ret ?_
    refine gk_pure (rv_two rfl (r1_tmp rfl) (r1_tmp rfl)) ?_
    have hk : ¬ checkI s = 0 := by simpa using hc10
    rw [askI, if_neg hk]
  · have hk : checkI s = 0 := by simpa using hc10
    refine gk_skip ?_
    refine gk_seq ?_
    refine gk_region ?_
    refine gk_y rfl rfl (y_move rfl) ?_
    refine gk_y rfl rfl (y_callV (fs := gfs) (cap := gcap) hen rfl rfl (fun w hw => hg hk w (hM _ hw.base.ext0))) ?_
    refine gk_y rfl rfl (y_assign rfl) ?_
    refine gk_y rfl rfl (y_assign rfl) ?_
    refine gk_nil (gk_sub (T' := [(4,_), (5,_)]) ⟨rfl, rfl, trivial⟩ ?_)
    refine gk_ret ?_
    refine gk_pure (rv_two rfl (r1_tmp rfl) (r1_tmp rfl)) ?_
    rw [askI, if_pos hk, hk]

set_option maxRecDepth 100000 in
set_option maxHeartbeats 1000000 in
theorem weight_c (a : Option Addr) (cap : Nat) (s : Stn) (w : World) (hl : Has w (Pts a s.shape)) (hs : Small s.shape.length) :
    Calls Tryd.prog 28 #[.agg #[.string s.name, .slice a s.shape.length cap, .int .i64 s.depth, .int .i64 s.density, .int .i64 s.grain.x, .int .i64 s.grain.z]] w (Pure (.tuple #[.int .i64 (askI s (weightW s)), .int .i64 (checkI s)]) w) := by
  refine calls_of_gk (vs := [_]) Tryd.func28 rfl rfl (Nat.le_of_ble_eq_true rfl) ?_
  refine gk_seq ?_
  refine gk_region ?_
  refine gk_yx rfl rfl (yx_box (vs := [_, _, _, _, _, _]) rfl rfl) fun b1 => ?_
  refine gk_y rfl rfl (y_assign rfl) ?_
  refine gk_y rfl rfl (y_assign rfl) ?_
  refine gk_nil (gk_sub (T' := [(1,_), (2,_), (3,_)]) ⟨rfl, rfl, rfl, trivial⟩ ?_)
  refine gk_seq ?_
  refine gk_region ?_
  refine gk_y rfl rfl (y_loadBA 0 tf34 rfl rfl (vs := [_, _, _, _, _, _]) rfl rfl) ?_
  refine gk_y rfl rfl (y_loadBA 0 tf34 rfl rfl (vs := [_, _, _, _, _, _]) rfl rfl) ?_
  refine gk_y rfl rfl (y_makeFunc («as» := [_]) (bs := []) rfl rfl) ?_
  refine gk_y rfl rfl (y_call en74 rfl (fun w hw => ask64_c _ _ s 75 [stnV s a cap] [] (weightW s) w (Rd.has (Has.rd hl) hw) (by assumption) (fun w' => Has w' (Pts a s.shape)) (fun w' hx => Has.ext (Rd.has (Has.rd hl) hw) hx) en75 (fun _ w' hp => weight0_c _ _ s w' hp (by assumption)))) ?_
  refine gk_y rfl rfl (y_extract rfl rfl) ?_
  refine gk_y rfl rfl (y_extract rfl rfl) ?_
  refine gk_y rfl rfl (y_assign rfl) ?_
  refine gk_y rfl rfl (y_assign rfl) ?_
  refine gk_nil (gk_sub (T' := [(2,_), (3,_)]) ⟨rfl, rfl, trivial⟩ ?_)
  refine gk_ret ?_
  refine gk_pure (rv_two rfl (r1_tmp rfl) (r1_tmp rfl)) ?_
  rfl

end Go.Proofs.YtahahmelnaphjaaDoor
