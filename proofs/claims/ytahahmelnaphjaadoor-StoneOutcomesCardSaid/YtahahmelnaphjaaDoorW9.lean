/- Walks: blows. No statement of the seat is proved in this text. -/
import Derived.Test.YtahahmelnaphjaaDoorW8
import Derived.Test.YtahahmelnaphjaaDoorD4
namespace Go.Proofs.YtahahmelnaphjaaDoor
open Go.K Go.Stn Go.RowKit
theorem en84 : En Tryd.prog 84 := en_of Tryd.func84 (by kernel_rfl) (by kernel_rfl)
theorem en85 : En Tryd.prog 85 := en_of Tryd.func85 (by kernel_rfl) (by kernel_rfl)
theorem en125 : En Tryd.prog 125 := en_of Tryd.func125 (by kernel_rfl) (by kernel_rfl)

set_option maxRecDepth 100000 in
set_option maxHeartbeats 1000000 in
theorem outcomes1_c (a : Option Addr) (cap : Nat) (s : Stn) (p : Pt) (t : Int) (b1 b2 b3 : Nat) (hv : checkI s = 0) (hi : 0 ≤ findI (eqB p) (borderL s.shape)) :
    SeqC Tryd.prog 125 [.pointer (some ⟨b1, 0, none⟩), .pointer (some ⟨b2, 0, none⟩), .pointer (some ⟨b3, 0, none⟩)] (outVs s p t) (fun w => Has w (Box b1 [.string s.name, .slice a s.shape.length cap, .int .i64 s.depth, .int .i64 s.density, .int .i64 s.grain.x, .int .i64 s.grain.z] 34) ∧ Has w (Box b2 [.int .i64 p.x, .int .i64 p.z] 32) ∧ Has w (Box b3 [.int .i64 t] 3) ∧ Has w (Pts a s.shape)) := by
  intro X J Rl D y w B x0 hB hA h0 hM hy
  have hnear := check_near hv
  have hlen := check_len hv
  have hbl := border_len hnear
  have hi2 := findI_lt _ hi
  have hrl : ((borderL s.shape).drop ((findI (eqB p) (borderL s.shape)) + 1).toNat ++ (borderL s.shape).take (findI (eqB p) (borderL s.shape)).toNat).length + 1 = (borderL s.shape).length := rotB_len hi hi2
  have hs : Small s.shape.length := by unfold Small; omega
  refine calls_of_gkB hB hA (vs := [_, _, _, _]) Tryd.func125 rfl rfl (Nat.le_of_ble_eq_true rfl) ?_
  have hmem : ∀ {cz : Cx} {Hz : List Res} {xz : X} {pz : Nat} {w' : World}, Inside (fun k => k < w.heap.size ∧ ¬ B k) w cz → Hz[pz]? = some (J xz) → Hp cz.U cz.w0 Hz w' → (Has w' (Box b1 [.string s.name, .slice a s.shape.length cap, .int .i64 s.depth, .int .i64 s.density, .int .i64 s.grain.x, .int .i64 s.grain.z] 34) ∧ Has w' (Box b2 [.int .i64 p.x, .int .i64 p.z] 32) ∧ Has w' (Box b3 [.int .i64 t] 3) ∧ Has w' (Pts a s.shape)) := fun hin hp hw => by
    obtain ⟨B', q1, q2, q3, q4⟩ := own_of_in hin hp hw
    exact hM _ _ B' q4 q1 q2 q3
  have ins0 := insideB Tryd.prog Tryd.f125.ntmps w B
  refine gk_seq ?_
  refine gk_region ?_
  refine gk_y rfl rfl (y_loadA tf34 rfl rfl (fun _ hw => has_box_cells (o := 0) (k := 6) (hmem ins0 (pz := 0) rfl hw).1 (vs := [_, _, _, _, _, _]) rfl)) ?_
  refine gk_yx rfl rfl (yx_call en66 rfl (fun w hw => border_c _ _ s w)) fun p13 => ?_
  refine gk_yx rfl rfl (yx_call en65 rfl (fun w hw => collect_c (borderL s.shape) _ [_] w (by unfold Small; omega) (fun w' => Has w' (Box p13 [.string s.name, .slice a s.shape.length cap, .int .i64 s.depth, .int .i64 s.density, .int .i64 s.grain.x, .int .i64 s.grain.z] 34) ∧ Has w' (Pts a s.shape)) (fun w' hx => ⟨Has.ext (hw.has (p := 0) rfl) hx, Has.ext (hmem ins0 (pz := 1) rfl hw).2.2.2 hx⟩) en122 (border1_c _ _ s p13 (by unfold Small; omega) hnear))) fun p14 => ?_
  refine gk_y rfl rfl (y_assign rfl) ?_
  refine gk_nil (gk_sub (T' := [(0,_), (1,_), (2,_), (3,_), (5,_)]) ⟨rfl, rfl, rfl, rfl, rfl, trivial⟩ ?_)
  refine gk_seq ?_
  refine gk_region ?_
  refine gk_y rfl rfl (y_move rfl) ?_
  refine gk_y rfl rfl (y_loadA tf32 rfl rfl (fun _ hw => has_box_cells (o := 0) (k := 2) (hmem ins0 (pz := 2) rfl hw).2.1 (vs := [_, _]) rfl)) ?_
  refine gk_y rfl rfl (y_call en119 rfl (fun w hw => index_c _ _ (borderL s.shape) p w (has_row encPt_ok (hw.has (p := 0) rfl)) (by unfold Small; omega))) ?_
  refine gk_y rfl rfl (y_assign rfl) ?_
  refine gk_nil (gk_sub (T' := [(0,_), (1,_), (2,_), (3,_), (5,_), (6,_)]) ⟨rfl, rfl, rfl, rfl, rfl, rfl, trivial⟩ ?_)
  refine gk_with (fun w hw => row_cap (hw.has (p := 0) rfl)) fun hcap => ?_
  refine gk_seq ?_
  refine gk_any 11 (fun _ => mixed) (by kernel_rfl) ?_
  refine ph_y (y_move rfl) ?_
  refine ph_y (y_move rfl) ?_
  refine ph_y (y_addI rfl rfl (by omega) (by omega)) ?_
  refine ph_y (y_sliceLoL se31 rfl rfl (by omega) (by omega)) ?_
  refine ph_y (y_move rfl) ?_
  refine ph_y (y_move rfl) ?_
  refine ph_y (y_sliceHiL se31 rfl rfl (by omega) (by omega) hcap) ?_
  refine ph_yx (yx_buildSlice rfl (bs156_2 _ _ _ _ _ _) encSli_ok rfl) ?_
  refine ph_yx (fun b25 => yx_call en120 rfl (fun w hw => concat2_c _ _ ⟨_, _, _⟩ ⟨_, _, _⟩ w (has_row encSli_ok (hw.has (p := 0) rfl)) (elems_drop (has_row encPt_ok (hw.has (p := 1) rfl)) hcap (by omega)) (elems_take (has_row encPt_ok (hw.has (p := 1) rfl)) (by omega) (by omega)) (by simp only [List.length_drop, List.length_take]; unfold Small; omega))) ?_
  refine ph_y (fun p26 => y_lenS (Tryd.underlying31) rfl) ?_
  refine ph_y (y_move rfl) ?_
  intro p26
  intro b25
  refine gk_nil (gk_sub (T' := [(0,_), (1,_), (2,_), (3,_), (26,_), (27,_), (28,_)]) ⟨rfl, rfl, rfl, rfl, rfl, rfl, rfl, trivial⟩ ?_)
  refine gk_block ?_
  refine gk_loop (X := Int × X) (fun ⟨i, x2⟩ => [(0, .func (.yield y) #[] #[]), (1, .pointer (some ⟨b1, 0, none⟩)), (2, .pointer (some ⟨b2, 0, none⟩)), (3, .pointer (some ⟨b3, 0, none⟩)), (26, .slice p26.1 ((borderL s.shape).drop ((findI (eqB p) (borderL s.shape)) + 1).toNat ++ (borderL s.shape).take (findI (eqB p) (borderL s.shape)).toNat).length p26.2), (27, .int .i64 (((borderL s.shape).drop ((findI (eqB p) (borderL s.shape)) + 1).toNat ++ (borderL s.shape).take (findI (eqB p) (borderL s.shape)).toNat).length : Int)), (28, .int .i64 i)]) (fun ⟨i, x2⟩ => [Row (some ⟨b25, 0, none⟩) 1 2 31 encSli [⟨(subA p14.1 2 ((findI (eqB p) (borderL s.shape)) + 1).toNat p14.2), (p14.2 - ((findI (eqB p) (borderL s.shape)) + 1).toNat), ((borderL s.shape).drop ((findI (eqB p) (borderL s.shape)) + 1).toNat)⟩, ⟨(subA p14.1 2 0 p14.2), p14.2, ((borderL s.shape).take (findI (eqB p) (borderL s.shape)).toNat)⟩], Row p26.1 2 p26.2 32 encPt ((borderL s.shape).drop ((findI (eqB p) (borderL s.shape)) + 1).toNat ++ (borderL s.shape).take (findI (eqB p) (borderL s.shape)).toNat), Row p14.1 2 p14.2 32 encPt (borderL s.shape), Box p13 [.string s.name, .slice a s.shape.length cap, .int .i64 s.depth, .int .i64 s.density, .int .i64 s.grain.x, .int .i64 s.grain.z] 34, J x2]) (fun ⟨i, x2⟩ => (0 ≤ i ∧ i ≤ (((borderL s.shape).drop ((findI (eqB p) (borderL s.shape)) + 1).toNat ++ (borderL s.shape).take (findI (eqB p) (borderL s.shape)).toNat).length : Int) ∧ Rl ((((borderL s.shape).drop ((findI (eqB p) (borderL s.shape)) + 1).toNat ++ (borderL s.shape).take (findI (eqB p) (borderL s.shape)).toNat).take i.toNat).filter (outB s p t)).length x2)) (fun ⟨i, x2⟩ => ((((borderL s.shape).drop ((findI (eqB p) (borderL s.shape)) + 1).toNat ++ (borderL s.shape).take (findI (eqB p) (borderL s.shape)).toNat).length : Int) - i).toNat) (0, x0) ⟨rfl, rfl, rfl, rfl, rfl, rfl, rfl, trivial⟩ rfl ?_ ?_
  · exact ⟨by omega, by omega, h0⟩
  · rintro ⟨i, x2⟩ hI
    obtain ⟨g0, g1, g2⟩ := hI
    refine gk_seq ?_
    refine gk_region ?_
    refine gk_y rfl rfl (y_lss rfl rfl) ?_
    refine gk_nil (gk_sub (T' := [(0,_), (1,_), (2,_), (3,_), (26,_), (27,_), (28,_), (29,_)]) ⟨rfl, rfl, rfl, rfl, rfl, rfl, rfl, rfl, trivial⟩ ?_)
    refine gk_seq ?_
    refine gk_cond rfl (fun hc29 => ?_) (fun hc29 => ?_)
    · simp only [decide_eq_true_eq] at hc29
      refine gk_skip ?_
      refine gk_seq ?_
      refine gk_block ?_
      refine gk_seq ?_
      refine gk_region ?_
      refine gk_y rfl rfl (y_indexE se31 rfl rfl (fun _ hw => (has_row encPt_ok (hw.has (p := 1) rfl))) (by omega) (by omega)) ?_
      refine gk_y rfl rfl (y_loadE (vs := [_, _]) tf32 rfl (fun _ hw => (has_row encPt_ok (hw.has (p := 1) rfl))) (by omega) (by omega) rfl) ?_
      refine gk_yx rfl rfl (yx_alloc tf32 (zs := [_, _]) rfl) fun b8 => ?_
      refine gk_storeV 0 tf32 rfl rfl (vs := [_, _]) rfl rfl rfl rfl rfl ?_
      refine gk_nil (gk_sub (T' := [(0,_), (1,_), (2,_), (3,_), (8,_), (26,_), (27,_), (28,_)]) ⟨rfl, rfl, rfl, rfl, rfl, rfl, rfl, rfl, trivial⟩ ?_)
      refine gk_seq ?_
      refine gk_region ?_
      refine gk_y rfl rfl (y_loadBA 0 tf32 rfl rfl (vs := [_, _]) rfl rfl) ?_
      refine gk_y rfl rfl (y_loadA tf32 rfl rfl (fun _ hw => has_box_cells (o := 0) (k := 2) (hmem ins0 (pz := 5) rfl hw).2.1 (vs := [_, _]) rfl)) ?_
      refine gk_y rfl rfl (y_call en89 rfl (fun w hw => sub_c ⟨_, _⟩ ⟨_, _⟩ w)) ?_
      refine gk_yx rfl rfl (yx_alloc tf32 (zs := [_, _]) rfl) fun b9 => ?_
      refine gk_storeV 0 tf32 rfl rfl (vs := [_, _]) rfl rfl rfl rfl rfl ?_
      refine gk_nil (gk_sub (T' := [(0,_), (1,_), (2,_), (3,_), (8,_), (9,_), (26,_), (27,_), (28,_)]) ⟨rfl, rfl, rfl, rfl, rfl, rfl, rfl, rfl, rfl, trivial⟩ ?_)
      refine gk_seq ?_
      refine gk_any 10 (fun _ => mixed) (by kernel_rfl) ?_
      refine ph_y (y_loadBA 0 tf32 rfl rfl (vs := [_, _]) rfl rfl) ?_
      refine ph_y (y_fieldAddr fo34_4 rfl) ?_
      refine ph_y (y_loadA tf32 rfl rfl (fun _ hw => has_box_cells (o := 4) (k := 2) (hmem ins0 (pz := 6) rfl hw).1 (vs := [_, _]) rfl)) ?_
      refine ph_y (y_call en83 rfl (fun w hw => cross_c ⟨_, _⟩ ⟨_, _⟩ w)) ?_
      refine ph_y (y_loadBA 0 tf32 rfl rfl (vs := [_, _]) rfl rfl) ?_
      refine ph_y (y_fieldAddr fo34_4 rfl) ?_
      refine ph_y (y_loadA tf32 rfl rfl (fun _ hw => has_box_cells (o := 4) (k := 2) (hmem ins0 (pz := 6) rfl hw).1 (vs := [_, _]) rfl)) ?_
      refine ph_y (y_call en123 rfl (fun w hw => dot_c ⟨_, _⟩ ⟨_, _⟩ w)) ?_
      refine ph_y (y_assign rfl) ?_
      refine ph_y (y_assign rfl) ?_
      refine gk_nil (gk_sub (T' := [(0,_), (1,_), (2,_), (3,_), (8,_), (10,_), (11,_), (26,_), (27,_), (28,_)]) ⟨rfl, rfl, rfl, rfl, rfl, rfl, rfl, rfl, rfl, rfl, trivial⟩ ?_)
      refine gk_seq ?_
      refine gk_any 21 (fun _ => mixed) (by kernel_rfl) ?_
      refine ph_y (y_loadA tf34 rfl rfl (fun _ hw => has_box_cells (o := 0) (k := 6) (hmem ins0 (pz := 6) rfl hw).1 (vs := [_, _, _, _, _, _]) rfl)) ?_
      refine ph_y (y_loadA tf32 rfl rfl (fun _ hw => has_box_cells (o := 0) (k := 2) (hmem ins0 (pz := 6) rfl hw).2.1 (vs := [_, _]) rfl)) ?_
      refine ph_y (y_loadBA 1 tf32 rfl rfl (vs := [_, _]) rfl rfl) ?_
      refine ph_y (y_call en69 rfl (fun w hw => apart_c _ _ s p (((borderL s.shape).drop ((findI (eqB p) (borderL s.shape)) + 1).toNat ++ (borderL s.shape).take (findI (eqB p) (borderL s.shape)).toNat).getD (i).toNat default) w (hmem ins0 (pz := 6) rfl hw).2.2.2 (by assumption))) ?_
      refine ph_y (y_move rfl) ?_
      refine ph_gT rfl rfl (fun hgd => by (try rw [hgd]); exact (y_move rfl)) ?_
      refine ph_gT rfl rfl (fun hgd => by (try rw [hgd]); exact (y_move rfl)) ?_
      refine ph_gT rfl rfl (fun hgd => by (try rw [hgd]); exact (y_neg rfl)) ?_
      refine ph_gT rfl rfl (fun hgd => by (try rw [hgd]); exact (y_max rfl rfl)) ?_
      refine ph_gT rfl rfl (fun hgd => by (try rw [hgd]); exact (y_mul rfl rfl)) ?_
      refine ph_gT rfl rfl (fun hgd => by (try rw [hgd]); exact (y_load1 tf3 rfl (fun _ hw => has_box_cell (hmem ins0 (pz := 6) rfl hw).2.2.1 rfl))) ?_
      refine ph_gT rfl rfl (fun hgd => by (try rw [hgd]); exact (y_move rfl)) ?_
      refine ph_gT rfl rfl (fun hgd => by (try rw [hgd]); exact (y_move rfl)) ?_
      refine ph_gT rfl rfl (fun hgd => by (try rw [hgd]); exact (y_neg rfl)) ?_
      refine ph_gT rfl rfl (fun hgd => by (try rw [hgd]); exact (y_max rfl rfl)) ?_
      refine ph_gT rfl rfl (fun hgd => by (try rw [hgd]); exact (y_mul rfl rfl)) ?_
      refine ph_gT rfl rfl (fun hgd => by (try rw [hgd]); exact (y_leq rfl rfl)) ?_
      refine ph_y (y_pickAnd rfl rfl rfl) ?_
      refine ph_y (y_move rfl) ?_
      refine ph_gT rfl rfl (fun hgd => by (try rw [hgd]); exact (y_move rfl)) ?_
      refine ph_gT rfl rfl (fun hgd => by (try rw [hgd]); exact (y_loadBA 1 tf32 rfl rfl (vs := [_, _]) rfl rfl)) ?_
      refine gk_sub (T' := [(0,_), (1,_), (2,_), (3,_), (26,_), (27,_), (28,_), (61,_), (62,_), (63,_)]) ⟨rfl, rfl, rfl, rfl, rfl, rfl, rfl, rfl, rfl, rfl, trivial⟩ ?_
      refine gk_guard rfl rfl rfl rfl (fun hg61 => ?_) (fun hg61 => ?_)
      · replace hg61 : _ = true := hg61
        try rw [hg61]
        refine gk_yield 6 ins0 rfl rfl rfl rfl (hy _ _ _ (filt_get g0 (by omega) (show outB s p t _ = true from hg61)) g2) fun b64 x64 hp64 => ?_
        refine gk_guard rfl rfl rfl rfl (fun _ => ?_) (fun h => absurd h (by decide))
        refine gk_y rfl rfl (y_not rfl) ?_
        refine gk_y rfl rfl (y_pick rfl rfl rfl) ?_
        refine gk_nil (gk_sub (T' := [(0,_), (1,_), (2,_), (3,_), (26,_), (27,_), (28,_), (66,_)]) ⟨rfl, rfl, rfl, rfl, rfl, rfl, rfl, rfl, trivial⟩ ?_)
        refine gk_cond rfl (fun hc66 => ?_) (fun hc66 => ?_)
        · skip
          refine gk_ret ?_
          refine gk_turns x64 6 (rv_none rfl) rfl rfl (.inr (by have := hp64; rwa [show b64 = false from by simpa using hc66, if_neg Bool.false_ne_true] at this))
        · skip
          refine gk_skip ?_
          refine gk_region ?_
          refine gk_y rfl rfl (y_addI rfl rfl (by omega) (by omega)) ?_
          refine gk_y rfl rfl (y_move rfl) ?_
          refine gk_nil (gk_sub (T' := [(0,_), (1,_), (2,_), (3,_), (26,_), (27,_), (28,_)]) ⟨rfl, rfl, rfl, rfl, rfl, rfl, rfl, trivial⟩ ?_)
          refine gk_dropAt 0 rfl ?_
          refine gk_dropAt 0 rfl ?_
          exact gk_next (i + 1, _) ⟨rfl, rfl, rfl, rfl, rfl, rfl, rfl, trivial⟩ rfl (by refine ⟨by omega, by omega, ?_⟩; rw [filt_succ g0 (by omega)]; first | (rw [if_pos (show outB s p t _ = true from hg61)]; have := hp64; rwa [show b64 = true from by simpa using hc66, if_pos rfl] at this) | (rw [if_neg (by rw [show outB s p t _ = false from hg61]; exact Bool.false_ne_true)]; exact g2)) (by simp only []; omega)
      · replace hg61 : _ = false := hg61
        try rw [hg61]
        refine gk_guard rfl rfl rfl rfl (fun h => absurd h (by decide)) (fun _ => ?_)
        refine gk_y rfl rfl (y_pick rfl rfl rfl) ?_
        refine gk_nil (gk_sub (T' := [(0,_), (1,_), (2,_), (3,_), (26,_), (27,_), (28,_), (66,_)]) ⟨rfl, rfl, rfl, rfl, rfl, rfl, rfl, rfl, trivial⟩ ?_)
        refine gk_condF rfl ?_
        refine gk_skip ?_
        refine gk_region ?_
        refine gk_y rfl rfl (y_addI rfl rfl (by omega) (by omega)) ?_
        refine gk_y rfl rfl (y_move rfl) ?_
        refine gk_nil (gk_sub (T' := [(0,_), (1,_), (2,_), (3,_), (26,_), (27,_), (28,_)]) ⟨rfl, rfl, rfl, rfl, rfl, rfl, rfl, trivial⟩ ?_)
        refine gk_dropAt 0 rfl ?_
        refine gk_dropAt 0 rfl ?_
        exact gk_next (i + 1, _) ⟨rfl, rfl, rfl, rfl, rfl, rfl, rfl, trivial⟩ rfl (by refine ⟨by omega, by omega, ?_⟩; rw [filt_succ g0 (by omega)]; first | (rw [if_pos (show outB s p t _ = true from hg61)]; have := hp64; rwa [show b64 = true from by simpa using hc66, if_pos rfl] at this) | (rw [if_neg (by rw [show outB s p t _ = false from hg61]; exact Bool.false_ne_true)]; exact g2)) (by simp only []; omega)
    · simp only [decide_eq_false_iff_not] at hc29
      refine gk_exit rfl ?_
      refine gk_turns x2 4 (rv_none rfl) rfl rfl (.inl (by rw [take_all (by omega)] at g2; rw [show (outVs s p t).length = (outcomesL s p t).length from List.length_map ..]; exact g2))

set_option maxRecDepth 100000 in
set_option maxHeartbeats 1000000 in
theorem outcomes_c (a : Option Addr) (cap : Nat) (s : Stn) (p : Pt) (t : Int) (w : World)  :
    Calls Tryd.prog 85 #[.agg #[.string s.name, .slice a s.shape.length cap, .int .i64 s.depth, .int .i64 s.density, .int .i64 s.grain.x, .int .i64 s.grain.z], .agg #[.int .i64 p.x, .int .i64 p.z], .int .i64 t] w (Gives (fun z : Nat × Nat × Nat => .func (.func 125) #[] #[.pointer (some ⟨z.1, 0, none⟩), .pointer (some ⟨z.2.1, 0, none⟩), .pointer (some ⟨z.2.2, 0, none⟩)]) (fun z => SepR [Box z.1 [.string s.name, .slice a s.shape.length cap, .int .i64 s.depth, .int .i64 s.density, .int .i64 s.grain.x, .int .i64 s.grain.z] 34, Box z.2.1 [.int .i64 p.x, .int .i64 p.z] 32, Box z.2.2 [.int .i64 t] 3]) w) := by
  refine calls_of_gk (vs := [_, _, _]) Tryd.func85 rfl rfl (Nat.le_of_ble_eq_true rfl) ?_
  refine gk_seq ?_
  refine gk_region ?_
  refine gk_yx rfl rfl (yx_box (vs := [_, _, _, _, _, _]) rfl rfl) fun b3 => ?_
  refine gk_yx rfl rfl (yx_box (vs := [_, _]) rfl rfl) fun b4 => ?_
  refine gk_yx rfl rfl (yx_box (vs := [_]) rfl rfl) fun b5 => ?_
  refine gk_y rfl rfl (y_assign rfl) ?_
  refine gk_nil (gk_sub (T' := [(3,_), (4,_), (5,_), (6,_)]) ⟨rfl, rfl, rfl, rfl, trivial⟩ ?_)
  refine gk_seq ?_
  refine gk_region ?_
  refine gk_y rfl rfl (y_makeFunc («as» := []) (bs := [_, _, _]) rfl rfl) ?_
  refine gk_y rfl rfl (y_assign rfl) ?_
  refine gk_nil (gk_sub (T' := [(6,_)]) ⟨rfl, trivial⟩ ?_)
  refine gk_front 1 rfl ?_
  refine gk_front 2 rfl ?_
  refine gk_pack 3 ?_
  refine gk_ret ?_
  refine gk_gives (b3, b4, b5) 0 (rv_one rfl (r1_tmp rfl)) ?_ rfl
  rfl

set_option maxRecDepth 100000 in
set_option maxHeartbeats 1000000 in
theorem struck_c (a : Option Addr) (cap : Nat) (s : Stn) (p : Pt) (t : Int) (w : World) (hl : Has w (Pts a s.shape)) (hs : Small s.shape.length) :
    Calls Tryd.prog 84 #[.agg #[.string s.name, .slice a s.shape.length cap, .int .i64 s.depth, .int .i64 s.density, .int .i64 s.grain.x, .int .i64 s.grain.z], .agg #[.int .i64 p.x, .int .i64 p.z], .int .i64 t] w (Pure (.int .i64 (struckE s p t)) w) := by
  refine calls_of_gk (vs := [_, _, _]) Tryd.func84 rfl rfl (Nat.le_of_ble_eq_true rfl) ?_
  refine gk_seq ?_
  refine gk_region ?_
  refine gk_yx rfl rfl (yx_box (vs := [_, _, _, _, _, _]) rfl rfl) fun b3 => ?_
  refine gk_yx rfl rfl (yx_box (vs := [_, _]) rfl rfl) fun b4 => ?_
  refine gk_y rfl rfl (y_assign rfl) ?_
  refine gk_nil (gk_sub (T' := [(2,_), (3,_), (4,_), (6,_)]) ⟨rfl, rfl, rfl, rfl, trivial⟩ ?_)
  refine gk_seq ?_
  refine gk_seq ?_
  refine gk_region ?_
  refine gk_y rfl rfl (y_loadBA 1 tf34 rfl rfl (vs := [_, _, _, _, _, _]) rfl rfl) ?_
  refine gk_y rfl rfl (y_call en17 rfl (fun w hw => check_c _ _ s w (Rd.has (Has.rd hl) hw) (by assumption))) ?_
  refine gk_y rfl rfl (y_assign rfl) ?_
  refine gk_nil (gk_sub (T' := [(2,_), (3,_), (4,_), (6,_), (7,_)]) ⟨rfl, rfl, rfl, rfl, rfl, trivial⟩ ?_)
  refine gk_seq ?_
  refine gk_region ?_
  refine gk_y rfl rfl (y_move rfl) ?_
  refine gk_y rfl rfl (y_neq rfl rfl) ?_
  refine gk_nil (gk_sub (T' := [(2,_), (3,_), (4,_), (6,_), (7,_), (11,_)]) ⟨rfl, rfl, rfl, rfl, rfl, rfl, trivial⟩ ?_)
  refine gk_cond rfl (fun hc11 => ?_) (fun hc11 => ?_)
  · have hk : ¬ checkI s = 0 := by simpa using hc11
    refine gk_seq ?_
    refine gk_region ?_
    refine gk_y rfl rfl (y_move rfl) ?_
    refine gk_y rfl rfl (y_assign rfl) ?_
    refine gk_nil (gk_sub (T' := [(2,_), (3,_), (4,_), (6,_)]) ⟨rfl, rfl, rfl, rfl, trivial⟩ ?_)
    refine gk_ret ?_
    refine gk_pure (rv_one rfl (r1_tmp rfl)) ?_
    rw [struckE, if_pos hk]
  · have hk : checkI s = 0 := by simpa using hc11
    refine gk_skip ?_
    refine gk_seq ?_
    refine gk_block ?_
    refine gk_seq ?_
    refine gk_region ?_
    refine gk_y rfl rfl (y_loadBA 1 tf34 rfl rfl (vs := [_, _, _, _, _, _]) rfl rfl) ?_
    refine gk_y rfl rfl (y_loadBA 0 tf32 rfl rfl (vs := [_, _]) rfl rfl) ?_
    refine gk_y rfl rfl (y_call en68 rfl (fun w hw => edge_c _ _ s p w (Rd.has (Has.rd hl) hw) (by assumption))) ?_
    refine gk_y rfl rfl (y_lss rfl rfl) ?_
    refine gk_y rfl rfl (y_assign rfl) ?_
    refine gk_nil (gk_sub (T' := [(2,_), (6,_), (13,_)]) ⟨rfl, rfl, rfl, trivial⟩ ?_)
    refine gk_cond rfl (fun hc13 => ?_) (fun hc13 => ?_)
    · have hc13 := of_decide_eq_true hc13
      refine gk_seq ?_
      refine gk_region ?_
      refine gk_y rfl rfl (y_assign rfl) ?_
      refine gk_nil (gk_sub (T' := [(6,_)]) ⟨rfl, trivial⟩ ?_)
      refine gk_ret ?_
      refine gk_pure (rv_one rfl (r1_tmp rfl)) ?_
      rw [struckE, if_neg (fun h => h hk), if_pos hc13]
    · have hc13 := of_decide_eq_false hc13
      refine gk_seq ?_
      refine gk_region ?_
      refine gk_y rfl rfl (y_move rfl) ?_
      refine gk_y rfl rfl (y_call en55 rfl (fun w hw => within_c _ _ _ w)) ?_
      refine gk_y rfl rfl (y_not rfl) ?_
      refine gk_y rfl rfl (y_assign rfl) ?_
      refine gk_nil (gk_sub (T' := [(6,_), (18,_)]) ⟨rfl, rfl, trivial⟩ ?_)
      refine gk_cond rfl (fun hc18 => ?_) (fun hc18 => ?_)
      · skip
        refine gk_seq ?_
        refine gk_region ?_
        refine gk_y rfl rfl (y_assign rfl) ?_
        refine gk_nil (gk_sub (T' := [(6,_)]) ⟨rfl, trivial⟩ ?_)
        refine gk_ret ?_
        refine gk_pure (rv_one rfl (r1_tmp rfl)) ?_
        rw [struckE, if_neg (fun h => h hk), if_neg hc13, if_pos (by simpa only [Bool.not_eq_true'] using hc18)]
      · skip
        refine gk_skip ?_
        refine gk_seq ?_
        refine gk_region ?_
        refine gk_y rfl rfl (y_assign rfl) ?_
        refine gk_nil (gk_sub (T' := [(6,_)]) ⟨rfl, trivial⟩ ?_)
        refine gk_ret ?_
        refine gk_pure (rv_one rfl (r1_tmp rfl)) ?_
        rw [struckE, if_neg (fun h => h hk), if_neg hc13, if_neg (by rw [show (decide (0 ≤ t) && decide (t ≤ 100)) = true from by simpa only [Bool.not_eq_false'] using hc18]; exact fun h => Bool.false_ne_true h.symm)]

theorem outcomes_len {s : Stn} {p : Pt} {t : Int} (hv : checkI s = 0) (hi : 0 ≤ findI (eqB p) (borderL s.shape)) : (outcomesL s p t).length ≤ 24000 := by
  have hnear := check_near hv
  have hlen := check_len hv
  have hbl := border_len hnear
  have h1 := rotB_len hi (findI_lt _ hi)
  have h2 := List.length_filter_le (outB s p t) (rotB (borderL s.shape) (findI (eqB p) (borderL s.shape)))
  unfold outcomesL
  omega
theorem struck_ok {s : Stn} {p : Pt} {t : Int} (h : struckE s p t = 0) : checkI s = 0 := by
  unfold struckE at h
  by_cases hk : checkI s = 0
  · exact hk
  · rw [if_pos hk] at h; exact absurd h hk

set_option maxRecDepth 100000 in
set_option maxHeartbeats 1000000 in
theorem Outcomes_c (a : Option Addr) (cap : Nat) (s : Stn) (p : Pt) (t : Int) (w : World) (hl : Has w (Pts a s.shape)) (hs : Small s.shape.length) (hin : struckE s p t = 0 → 0 ≤ findI (eqB p) (borderL s.shape)) :
    Calls Tryd.prog 35 #[.agg #[.string s.name, .slice a s.shape.length cap, .int .i64 s.depth, .int .i64 s.density, .int .i64 s.grain.x, .int .i64 s.grain.z], .agg #[.int .i64 p.x, .int .i64 p.z], .int .i64 t] w (Gives (fun z : Option Addr × Nat => .tuple #[.slice z.1 (outL s p t).length z.2, .int .i64 (struckE s p t)]) (fun z => Row z.1 2 z.2 32 encPt (outL s p t)) w) := by
  refine calls_of_gk (vs := [_, _, _]) Tryd.func35 rfl rfl (Nat.le_of_ble_eq_true rfl) ?_
  refine gk_seq ?_
  refine gk_region ?_
  refine gk_yx rfl rfl (yx_box (vs := [_, _, _, _, _, _]) rfl rfl) fun b3 => ?_
  refine gk_yx rfl rfl (yx_box (vs := [_, _]) rfl rfl) fun b4 => ?_
  refine gk_y rfl rfl (y_assign rfl) ?_
  refine gk_y rfl rfl (y_assign rfl) ?_
  refine gk_nil (gk_sub (T' := [(2,_), (3,_), (4,_), (6,_), (7,_)]) ⟨rfl, rfl, rfl, rfl, rfl, trivial⟩ ?_)
  refine gk_seq ?_
  refine gk_seq ?_
  refine gk_region ?_
  refine gk_y rfl rfl (y_loadBA 1 tf34 rfl rfl (vs := [_, _, _, _, _, _]) rfl rfl) ?_
  refine gk_y rfl rfl (y_loadBA 0 tf32 rfl rfl (vs := [_, _]) rfl rfl) ?_
  refine gk_y rfl rfl (y_move rfl) ?_
  refine gk_y rfl rfl (y_call en84 rfl (fun w hw => struck_c _ _ s p t w (Rd.has (Has.rd hl) hw) (by assumption))) ?_
  refine gk_y rfl rfl (y_assign rfl) ?_
  refine gk_nil (gk_sub (T' := [(2,_), (3,_), (4,_), (6,_), (7,_), (8,_)]) ⟨rfl, rfl, rfl, rfl, rfl, rfl, trivial⟩ ?_)
  refine gk_seq ?_
  refine gk_region ?_
  refine gk_y rfl rfl (y_move rfl) ?_
  refine gk_y rfl rfl (y_neq rfl rfl) ?_
  refine gk_nil (gk_sub (T' := [(2,_), (3,_), (4,_), (6,_), (7,_), (8,_), (14,_)]) ⟨rfl, rfl, rfl, rfl, rfl, rfl, rfl, trivial⟩ ?_)
  refine gk_cond rfl (fun hc14 => ?_) (fun hc14 => ?_)
  · have hk : ¬ struckE s p t = 0 := by simpa using hc14
    refine gk_newNil 32 encPt 2 ?_
    refine gk_seq ?_
    refine gk_region ?_
    refine gk_y rfl rfl (y_move rfl) ?_
    refine gk_y rfl rfl (y_assign rfl) ?_
    refine gk_y rfl rfl (y_assign rfl) ?_
    refine gk_nil (gk_sub (T' := [(2,_), (3,_), (4,_), (6,_), (7,_)]) ⟨rfl, rfl, rfl, rfl, rfl, trivial⟩ ?_)
    refine gk_ret ?_
    refine gk_gives (none, 0) 0 (rv_two rfl (r1_tmp rfl) (r1_tmp rfl)) ?_ (by simp only [outL, if_neg hk]; rfl)
    simp only [outL, if_neg hk]; rfl
  · have hk : struckE s p t = 0 := by simpa using hc14
    have hv := struck_ok hk
    refine gk_skip ?_
    refine gk_seq ?_
    refine gk_region ?_
    refine gk_y rfl rfl (y_loadBA 1 tf34 rfl rfl (vs := [_, _, _, _, _, _]) rfl rfl) ?_
    refine gk_y rfl rfl (y_loadBA 0 tf32 rfl rfl (vs := [_, _]) rfl rfl) ?_
    refine gk_y rfl rfl (y_move rfl) ?_
    refine gk_yx rfl rfl (yx_call en85 rfl (fun w hw => outcomes_c _ _ s p t w)) fun p19 => gk_split ?_
    refine gk_yx rfl rfl (yx_call en65 rfl (fun w hw => collect_c (outcomesL s p t) _ [_, _, _] w (by have := outcomes_len (t := t) hv (hin hk); unfold Small; omega) (fun w' => Has w' (Box p19.1 [.string s.name, .slice a s.shape.length cap, .int .i64 s.depth, .int .i64 s.density, .int .i64 s.grain.x, .int .i64 s.grain.z] 34) ∧ Has w' (Box p19.2.1 [.int .i64 p.x, .int .i64 p.z] 32) ∧ Has w' (Box p19.2.2 [.int .i64 t] 3) ∧ Has w' (Pts a s.shape)) (fun w' hx => ⟨Has.ext (hw.has (p := 0) rfl) hx, Has.ext (hw.has (p := 1) rfl) hx, Has.ext (hw.has (p := 2) rfl) hx, Has.ext (Rd.has (Has.rd hl) hw) hx⟩) en125 (outcomes1_c _ _ s p t _ _ _ hv (hin hk)))) fun p20 => ?_
    refine gk_y rfl rfl (y_assign rfl) ?_
    refine gk_y rfl rfl (y_assign rfl) ?_
    refine gk_nil (gk_sub (T' := [(6,_), (7,_)]) ⟨rfl, rfl, trivial⟩ ?_)
    refine gk_ret ?_
    refine gk_gives p20 0 (rv_two rfl (r1_tmp rfl) (r1_tmp rfl)) ?_ (by simp only [outL, if_pos hk]; rfl)
    rw [hk]; simp only [outL, if_pos hk]

end Go.Proofs.YtahahmelnaphjaaDoor
