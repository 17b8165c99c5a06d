/- Walks: the law StoneWays. No statement of the seat is proved in this text. -/
import Derived.Test.YtahahmelnaphjaaDoorW12
import Derived.Test.YtahahmelnaphjaaDoorL11
import Derived.Test.YtahahmelnaphjaaDoorK17
namespace Go.Proofs.YtahahmelnaphjaaDoor
open Go.K Go.Stn Go.RowKit
theorem en29 : En Tryd.prog 29 := en_of Tryd.func29 (by kernel_rfl) (by kernel_rfl)

set_option maxRecDepth 100000 in
set_option maxHeartbeats 1000000 in
theorem alike_c (a1 : Option Addr) (c1 : Nat) (a : Stn) (a2 : Option Addr) (c2 : Nat) (b : Stn) (w : World) (hl : Has w (Pts a1 a.shape)) (hm : Has w (Pts a2 b.shape)) (hs : Small a.shape.length) :
    Calls Tryd.prog 29 #[.agg #[.string a.name, .slice a1 a.shape.length c1, .int .i64 a.depth, .int .i64 a.density, .int .i64 a.grain.x, .int .i64 a.grain.z], .agg #[.string b.name, .slice a2 b.shape.length c2, .int .i64 b.depth, .int .i64 b.density, .int .i64 b.grain.x, .int .i64 b.grain.z]] w (Pure (.bool (sameSB a b)) w) := by
  refine calls_of_gk (vs := [_, _]) Tryd.func29 rfl rfl (Nat.le_of_ble_eq_true rfl) ?_
  refine gk_seq ?_
  refine gk_region ?_
  refine gk_yx rfl rfl (yx_box (vs := [_, _, _, _, _, _]) rfl rfl) fun b2 => ?_
  refine gk_yx rfl rfl (yx_box (vs := [_, _, _, _, _, _]) rfl rfl) fun b3 => ?_
  refine gk_y rfl rfl (y_assign rfl) ?_
  refine gk_nil (gk_sub (T' := [(2,_), (3,_), (4,_)]) ⟨rfl, rfl, rfl, trivial⟩ ?_)
  refine gk_seq ?_
  refine gk_seq ?_
  refine gk_any 35 (fun _ => mixed) (by kernel_rfl) ?_
  refine ph_y (y_fieldAddr fo34_0 rfl) ?_
  refine ph_y (y_loadB1 1 tf9 rfl rfl rfl) ?_
  refine ph_y (y_fieldAddr fo34_0 rfl) ?_
  refine ph_y (y_loadB1 0 tf9 rfl rfl rfl) ?_
  refine ph_y (y_strNe rfl rfl) ?_
  refine ph_y (y_move rfl) ?_
  refine ph_gF rfl rfl (fun hgd => by (try rw [hgd]); exact (y_fieldAddr fo34_2 rfl)) ?_
  refine ph_gF rfl rfl (fun hgd => by (try rw [hgd]); exact (y_loadB1 1 tf3 rfl rfl rfl)) ?_
  refine ph_gF rfl rfl (fun hgd => by (try rw [hgd]); exact (y_fieldAddr fo34_2 rfl)) ?_
  refine ph_gF rfl rfl (fun hgd => by (try rw [hgd]); exact (y_loadB1 0 tf3 rfl rfl rfl)) ?_
  refine ph_gF rfl rfl (fun hgd => by (try rw [hgd]); exact (y_neq rfl rfl)) ?_
  refine ph_y (y_pickOr rfl rfl rfl) ?_
  refine ph_y (y_move rfl) ?_
  refine ph_gF rfl rfl (fun hgd => by (try rw [hgd]); exact (y_fieldAddr fo34_3 rfl)) ?_
  refine ph_gF rfl rfl (fun hgd => by (try rw [hgd]); exact (y_loadB1 1 tf3 rfl rfl rfl)) ?_
  refine ph_gF rfl rfl (fun hgd => by (try rw [hgd]); exact (y_fieldAddr fo34_3 rfl)) ?_
  refine ph_gF rfl rfl (fun hgd => by (try rw [hgd]); exact (y_loadB1 0 tf3 rfl rfl rfl)) ?_
  refine ph_gF rfl rfl (fun hgd => by (try rw [hgd]); exact (y_neq rfl rfl)) ?_
  refine ph_y (y_pickOr rfl rfl rfl) ?_
  refine ph_y (y_move rfl) ?_
  refine ph_gF rfl rfl (fun hgd => by (try rw [hgd]); exact (y_fieldAddr fo34_4 rfl)) ?_
  refine ph_gF rfl rfl (fun hgd => by (try rw [hgd]); exact (y_loadBA 1 tf32 rfl rfl (vs := [_, _]) rfl rfl)) ?_
  refine ph_gF rfl rfl (fun hgd => by (try rw [hgd]); exact (y_fieldAddr fo34_4 rfl)) ?_
  refine ph_gF rfl rfl (fun hgd => by (try rw [hgd]); exact (y_loadBA 0 tf32 rfl rfl (vs := [_, _]) rfl rfl)) ?_
  refine ph_gF rfl rfl (fun hgd => by (try rw [hgd]); exact (y_neq32 rfl rfl)) ?_
  refine ph_y (y_pickOr rfl rfl rfl) ?_
  refine ph_y (y_move rfl) ?_
  refine ph_gF rfl rfl (fun hgd => by (try rw [hgd]); exact (y_fieldAddr fo34_1 rfl)) ?_
  refine ph_gF rfl rfl (fun hgd => by (try rw [hgd]); exact (y_loadB1 1 tf31 rfl rfl rfl)) ?_
  refine ph_gF rfl rfl (fun hgd => by (try rw [hgd]); exact (y_lenS (Tryd.underlying31) rfl)) ?_
  refine ph_gF rfl rfl (fun hgd => by (try rw [hgd]); exact (y_fieldAddr fo34_1 rfl)) ?_
  refine ph_gF rfl rfl (fun hgd => by (try rw [hgd]); exact (y_loadB1 0 tf31 rfl rfl rfl)) ?_
  refine ph_gF rfl rfl (fun hgd => by (try rw [hgd]); exact (y_lenS (Tryd.underlying31) rfl)) ?_
  refine ph_gF rfl rfl (fun hgd => by (try rw [hgd]); exact (y_neq rfl rfl)) ?_
  refine ph_y (y_pickOr rfl rfl rfl) ?_
  refine gk_nil (gk_sub (T' := [(2,_), (3,_), (4,_), (40,_)]) ⟨rfl, rfl, rfl, rfl, trivial⟩ ?_)
  refine gk_cond rfl (fun hc40 => ?_) (fun hc40 => ?_)
  · have hz := alike_far hc40
    refine gk_seq ?_
    refine gk_region ?_
    refine gk_y rfl rfl (y_assign rfl) ?_
    refine gk_nil (gk_sub (T' := [(2,_), (3,_), (4,_)]) ⟨rfl, rfl, rfl, trivial⟩ ?_)
    refine gk_ret ?_
    refine gk_pure (rv_one rfl (r1_tmp rfl)) ?_
    rw [hz]
  · obtain ⟨hlm, hz⟩ := alike_near hc40
    refine gk_skip ?_
    refine gk_seq ?_
    refine gk_seq ?_
    refine gk_region ?_
    refine gk_y rfl rfl (y_assign rfl) ?_
    refine gk_nil (gk_sub (T' := [(2,_), (3,_), (4,_), (5,_)]) ⟨rfl, rfl, rfl, rfl, trivial⟩ ?_)
    refine gk_block ?_
    refine gk_loop (X := Int) (fun (i : Int) => [(2, .pointer (some ⟨b2, 0, none⟩)), (3, .pointer (some ⟨b3, 0, none⟩)), (4, .bool false), (5, .int .i64 i)]) (fun (i : Int) => [Box b3 [.string b.name, .slice a2 b.shape.length c2, .int .i64 b.depth, .int .i64 b.density, .int .i64 b.grain.x, .int .i64 b.grain.z] 34, Box b2 [.string a.name, .slice a1 a.shape.length c1, .int .i64 a.depth, .int .i64 a.density, .int .i64 a.grain.x, .int .i64 a.grain.z] 34]) (fun (i : Int) => (0 ≤ i ∧ i ≤ a.shape.length ∧ ∀ j : Nat, (j : Int) < i → a.shape.getD j default = b.shape.getD j default)) (fun (i : Int) => (a.shape.length - i).toNat) 0 ⟨rfl, rfl, rfl, rfl, trivial⟩ rfl ?_ ?_
    · exact ⟨by omega, by omega, fun j hj => by omega⟩
    · rintro i hI
      obtain ⟨g0, g1, g2⟩ := hI
      refine gk_seq ?_
      refine gk_seq ?_
      refine gk_region ?_
      refine gk_y rfl rfl (y_move rfl) ?_
      refine gk_y rfl rfl (y_fieldAddr fo34_1 rfl) ?_
      refine gk_y rfl rfl (y_loadB1 1 tf31 rfl rfl rfl) ?_
      refine gk_y rfl rfl (y_lenS (Tryd.underlying31) rfl) ?_
      refine gk_y rfl rfl (y_lss rfl rfl) ?_
      refine gk_nil (gk_sub (T' := [(2,_), (3,_), (4,_), (5,_), (45,_)]) ⟨rfl, rfl, rfl, rfl, rfl, trivial⟩ ?_)
      refine gk_cond rfl (fun hc45 => ?_) (fun hc45 => ?_)
      · simp only [decide_eq_true_eq] at hc45
        refine gk_skip ?_
        refine gk_seq ?_
        refine gk_block ?_
        refine gk_seq ?_
        refine gk_any 11 (fun _ => mixed) (by kernel_rfl) ?_
        refine ph_y (y_fieldAddr fo34_1 rfl) ?_
        refine ph_y (y_loadB1 1 tf31 rfl rfl rfl) ?_
        refine ph_y (y_move rfl) ?_
        refine ph_y (y_indexE se31 rfl rfl (fun _ hw => (Rd.has (Has.rd hl) hw)) (by omega) (by omega)) ?_
        refine ph_y (y_loadE (vs := [_, _]) tf32 rfl (fun _ hw => (Rd.has (Has.rd hl) hw)) (by omega) (by omega) rfl) ?_
        refine ph_y (y_fieldAddr fo34_1 rfl) ?_
        refine ph_y (y_loadB1 0 tf31 rfl rfl rfl) ?_
        refine ph_y (y_move rfl) ?_
        refine ph_y (y_indexE se31 rfl rfl (fun _ hw => (Rd.has (Has.rd hm) hw)) (by omega) (by omega)) ?_
        refine ph_y (y_loadE (vs := [_, _]) tf32 rfl (fun _ hw => (Rd.has (Has.rd hm) hw)) (by omega) (by omega) rfl) ?_
        refine ph_y (y_neq32 rfl rfl) ?_
        refine gk_nil (gk_sub (T' := [(2,_), (3,_), (4,_), (5,_), (58,_)]) ⟨rfl, rfl, rfl, rfl, rfl, trivial⟩ ?_)
        refine gk_cond rfl (fun hc58 => ?_) (fun hc58 => ?_)
        · skip
          refine gk_seq ?_
          refine gk_region ?_
          refine gk_y rfl rfl (y_assign rfl) ?_
          refine gk_nil (gk_sub (T' := [(2,_), (3,_), (4,_), (5,_)]) ⟨rfl, rfl, rfl, rfl, trivial⟩ ?_)
          refine gk_ret ?_
          refine gk_pure (rv_one rfl (r1_tmp rfl)) ?_
          rw [hz, decide_eq_false (fun h => same_ptn hc58 (by rw [h]))]
        · skip
          refine gk_skip ?_
          refine gk_region ?_
          refine gk_y rfl rfl (y_move rfl) ?_
          refine gk_y rfl rfl (y_addI rfl rfl (by omega) (by omega)) ?_
          refine gk_y rfl rfl (y_assign rfl) ?_
          refine gk_nil (gk_sub (T' := [(2,_), (3,_), (4,_), (5,_)]) ⟨rfl, rfl, rfl, rfl, trivial⟩ ?_)
          exact gk_next _ ⟨rfl, rfl, rfl, rfl, trivial⟩ rfl ⟨by omega, by omega, fun j hj => if h : (j : Int) < i then g2 j h else (by rw [show j = i.toNat from by omega]; exact same_pt hc58)⟩ (by omega)
      · simp only [decide_eq_false_iff_not] at hc45
        refine gk_exit rfl ?_
        refine gk_seq ?_
        refine gk_region ?_
        refine gk_y rfl rfl (y_assign rfl) ?_
        refine gk_nil (gk_sub (T' := [(4,_)]) ⟨rfl, trivial⟩ ?_)
        refine gk_ret ?_
        refine gk_pure (rv_one rfl (r1_tmp rfl)) ?_
        rw [hz, decide_eq_true (same_all hlm (by omega) g2)]

set_option maxRecDepth 100000 in
set_option maxHeartbeats 1000000 in
theorem StoneWays_c (a : Option Addr) (cap : Nat) (s : Stn) (v u : Int) (w : World) (hl : Has w (Pts a s.shape)) (hways : Has w (Elems (some ⟨0, 0, none⟩) 1 encVal [.func (.func 173) #[] #[], .func (.func 174) #[] #[], .func (.func 175) #[] #[], .func (.func 176) #[] #[]])) (hn : Fits s.name.size) (hv : 0 ≤ v) (hu : 0 ≤ u) :
    Calls Tryd.prog 7 #[.agg #[.string s.name, .slice a s.shape.length cap, .int .i64 s.depth, .int .i64 s.density, .int .i64 s.grain.x, .int .i64 s.grain.z], .int .u8 v, .int .u8 u] w (Pure (.bool true) w) := by
  refine calls_of_gk (vs := [_, _, _]) Tryd.func7 rfl rfl (Nat.le_of_ble_eq_true rfl) ?_
  refine gk_seq ?_
  refine gk_region ?_
  refine gk_yx rfl rfl (yx_box (vs := [_, _, _, _, _, _]) rfl rfl) fun b3 => ?_
  refine gk_y rfl rfl (y_assign rfl) ?_
  refine gk_nil (gk_sub (T' := [(1,_), (2,_), (3,_), (6,_)]) ⟨rfl, rfl, rfl, rfl, trivial⟩ ?_)
  refine gk_seq ?_
  refine gk_seq ?_
  refine gk_any 9 (fun _ => mixed) (by kernel_rfl) ?_
  refine ph_y (y_fieldAddr fo26_1 rfl) ?_
  refine ph_y (y_loadB1 0 tf22 rfl rfl rfl) ?_
  refine ph_y (y_lenS (Tryd.underlying22) rfl) ?_
  refine ph_y (y_gtr rfl rfl) ?_
  refine ph_y (y_move rfl) ?_
  refine ph_gF rfl rfl (fun hgd => by (try rw [hgd]); exact (y_loadBA 0 tf26 rfl rfl (vs := [_, _, _, _, _, _]) rfl rfl)) ?_
  refine ph_gF rfl rfl (fun hgd => by (try rw [hgd]); exact (y_call (v := .bool (rvalidB s)) en16 rfl (fun w hw => rvalid_c _ _ s w (Rd.has (Has.rd hl) hw) (by first | assumption | (simp at hgd; unfold Small; omega)) (by assumption)))) ?_
  refine ph_gF rfl rfl (fun hgd => by (try rw [hgd]); exact (y_not rfl)) ?_
  refine ph_y (y_pickOr rfl rfl rfl) ?_
  refine gk_nil (gk_sub (T' := [(1,_), (2,_), (3,_), (6,_), (37,_)]) ⟨rfl, rfl, rfl, rfl, rfl, trivial⟩ ?_)
  refine gk_cond rfl (fun hc37 => ?_) (fun hc37 => ?_)
  · skip
    refine gk_seq ?_
    refine gk_region ?_
    refine gk_y rfl rfl (y_call en15 rfl (fun w hw => wakes_c w (Rd.has (Has.rd hways) hw))) ?_
    refine gk_y rfl rfl (y_assign rfl) ?_
    refine gk_nil (gk_sub (T' := [(1,_), (2,_), (3,_), (6,_)]) ⟨rfl, rfl, rfl, rfl, trivial⟩ ?_)
    refine gk_ret ?_
    refine gk_pure (rv_one rfl (r1_tmp rfl)) ?_
    rfl
  · have hs : Small s.shape.length := by simp at hc37; unfold Small; omega
    have hck : checkI s = 0 := by rw [check_valid, if_pos (by simp at hc37; exact hc37.2)]
    obtain ⟨va0, va7⟩ := u8_way hv
    obtain ⟨ub0, ub7⟩ := u8_way hu
    obtain ⟨hE1, hk1, hl1, hw1⟩ := ways_all hck va0 va7
    obtain ⟨hE2, hk2, hl2, hw2⟩ := ways_all hk1 ub0 ub7
    have hs1 : Small (turnedS s (IntKind.i64.wrap (v.tmod 8))).shape.length := by rw [hl1]; exact hs
    have hs2 : Small (turnedS (turnedS s (IntKind.i64.wrap (v.tmod 8))) (IntKind.i64.wrap (u.tmod 8))).shape.length := by rw [hl2]; exact hs1
    have hcomp := ways_comp hck va0 va7 ub0 ub7
    obtain ⟨ci0, ci7, _⟩ := comp_in va0 va7 ub0 ub7
    obtain ⟨hE4, hk4, hl4, hw4⟩ := ways_all hck (show (0 : Int) ≤ 4 by decide) (show (4 : Int) ≤ 7 by decide)
    obtain ⟨hE5, hk5, hl5, hw5⟩ := ways_all hk4 (show (0 : Int) ≤ 4 by decide) (show (4 : Int) ≤ 7 by decide)
    obtain ⟨hE0, hk0, hl0, hw0⟩ := ways_all hck (show (0 : Int) ≤ 0 by decide) (show (0 : Int) ≤ 7 by decide)
    have hs4 : Small (turnedS s 4).shape.length := by rw [hl4]; exact hs
    have hs5 : Small (turnedS (turnedS s 4) 4).shape.length := by rw [hl5]; exact hs4
    have hs0 : Small (turnedS s 0).shape.length := by rw [hl0]; exact hs
    have hfour : turnedS (turnedS s 4) 4 = s := (ways_comp hck (by decide) (by decide) (by decide) (by decide)).trans (ways_zero hck)
    have hwa : askI s (weightW s) = weightW s := by rw [askI, if_pos hck]
    have hwb : askI (turnedS (turnedS s (IntKind.i64.wrap (v.tmod 8))) (IntKind.i64.wrap (u.tmod 8))) (weightW (turnedS (turnedS s (IntKind.i64.wrap (v.tmod 8))) (IntKind.i64.wrap (u.tmod 8)))) = weightW s := by rw [askI, if_pos hk2, hw2, hw1]
    have hlen2 : (turnedS (turnedS s (IntKind.i64.wrap (v.tmod 8))) (IntKind.i64.wrap (u.tmod 8))).shape.length = s.shape.length := hl2.trans hl1
    refine gk_skip ?_
    refine gk_seq ?_
    refine gk_region ?_
    refine gk_y rfl rfl (y_loadBA 0 tf26 rfl rfl (vs := [_, _, _, _, _, _]) rfl rfl) ?_
    refine gk_yx rfl rfl (yx_call en18 rfl (fun w hw => stone_c _ _ s w (Rd.has (Has.rd hl) hw) (by assumption))) fun p40 => ?_
    refine gk_yx rfl rfl (yx_alloc tf34 (zs := [_, _, _, _, _, _]) rfl) fun b7 => ?_
    refine gk_storeV 0 tf34 rfl rfl (vs := [_, _, _, _, _, _]) rfl rfl rfl rfl rfl ?_
    refine gk_nil (gk_sub (T' := [(1,_), (2,_), (6,_), (7,_)]) ⟨rfl, rfl, rfl, rfl, trivial⟩ ?_)
    refine gk_seq ?_
    refine gk_region ?_
    refine gk_y rfl rfl (y_loadBA 0 tf34 rfl rfl (vs := [_, _, _, _, _, _]) rfl rfl) ?_
    refine gk_y rfl rfl (y_move rfl) ?_
    refine gk_y rfl rfl (y_rem rfl rfl (by omega)) ?_
    refine gk_y rfl rfl (y_convInt (by kernel_rfl) (Tryd.underlying3) rfl) ?_
    refine gk_yx rfl rfl (yx_call en19 rfl (fun w hw => Turned_c _ _ s (IntKind.i64.wrap (Int.tmod v 8)) w (has_row encPt_ok (hw.has (p := 1) rfl)) (by assumption) (Rd.has (Has.rd hways) hw))) fun p46 => ?_
    refine gk_y rfl rfl (y_move rfl) ?_
    refine gk_y rfl rfl (y_extract rfl rfl) ?_
    refine gk_y rfl rfl (y_extract rfl rfl) ?_
    refine gk_yx rfl rfl (yx_alloc tf34 (zs := [_, _, _, _, _, _]) rfl) fun b8 => ?_
    refine gk_storeV 0 tf34 rfl rfl (vs := [_, _, _, _, _, _]) rfl rfl rfl rfl rfl ?_
    refine gk_y rfl rfl (y_assign rfl) ?_
    refine gk_nil (gk_sub (T' := [(2,_), (6,_), (7,_), (8,_), (9,_)]) ⟨rfl, rfl, rfl, rfl, rfl, trivial⟩ ?_)
    refine gk_sub (T' := [(2,_), (6,_), (7,_), (8,_), (9, .int .i64 0)]) ⟨rfl, rfl, rfl, rfl, (by rw [hE1]; rfl), trivial⟩ ?_
    refine gk_seq ?_
    refine gk_region ?_
    refine gk_y rfl rfl (y_loadBA 0 tf34 rfl rfl (vs := [_, _, _, _, _, _]) rfl rfl) ?_
    refine gk_y rfl rfl (y_move rfl) ?_
    refine gk_y rfl rfl (y_rem rfl rfl (by omega)) ?_
    refine gk_y rfl rfl (y_convInt (by kernel_rfl) (Tryd.underlying3) rfl) ?_
    refine gk_yx rfl rfl (yx_call en19 rfl (fun w hw => Turned_c _ _ (turnedS s (IntKind.i64.wrap (Int.tmod v 8))) (IntKind.i64.wrap (Int.tmod u 8)) w (has_row encPt_ok (hw.has (p := 1) rfl)) (by assumption) (Rd.has (Has.rd hways) hw))) fun p54 => ?_
    refine gk_y rfl rfl (y_move rfl) ?_
    refine gk_y rfl rfl (y_extract rfl rfl) ?_
    refine gk_y rfl rfl (y_extract rfl rfl) ?_
    refine gk_yx rfl rfl (yx_alloc tf34 (zs := [_, _, _, _, _, _]) rfl) fun b10 => ?_
    refine gk_storeV 0 tf34 rfl rfl (vs := [_, _, _, _, _, _]) rfl rfl rfl rfl rfl ?_
    refine gk_y rfl rfl (y_assign rfl) ?_
    refine gk_nil (gk_sub (T' := [(6,_), (7,_), (9,_), (10,_), (11,_)]) ⟨rfl, rfl, rfl, rfl, rfl, trivial⟩ ?_)
    refine gk_sub (T' := [(6,_), (7,_), (9,_), (10,_), (11, .int .i64 0)]) ⟨rfl, rfl, rfl, rfl, (by rw [hE2]; rfl), trivial⟩ ?_
    refine gk_seq ?_
    refine gk_region ?_
    refine gk_y rfl rfl (y_loadBA 4 tf34 rfl rfl (vs := [_, _, _, _, _, _]) rfl rfl) ?_
    refine gk_y rfl rfl (y_call en28 rfl (fun w hw => weight_c _ _ s w (has_row encPt_ok (hw.has (p := 5) rfl)) (by assumption))) ?_
    refine gk_y rfl rfl (y_move rfl) ?_
    refine gk_y rfl rfl (y_extract rfl rfl) ?_
    refine gk_y rfl rfl (y_extract rfl rfl) ?_
    refine gk_y rfl rfl (y_assign rfl) ?_
    refine gk_y rfl rfl (y_assign rfl) ?_
    refine gk_nil (gk_sub (T' := [(6,_), (7,_), (9,_), (10,_), (11,_), (12,_), (13,_)]) ⟨rfl, rfl, rfl, rfl, rfl, rfl, rfl, trivial⟩ ?_)
    refine gk_sub (T' := [(6,_), (7,_), (9,_), (10,_), (11,_), (12, .int .i64 (weightW s)), (13, .int .i64 0)]) ⟨rfl, rfl, rfl, rfl, rfl, (by rw [hwa]; rfl), (by rw [hck]; rfl), trivial⟩ ?_
    refine gk_seq ?_
    refine gk_region ?_
    refine gk_y rfl rfl (y_loadBA 0 tf34 rfl rfl (vs := [_, _, _, _, _, _]) rfl rfl) ?_
    refine gk_y rfl rfl (y_call en28 rfl (fun w hw => weight_c _ _ (turnedS (turnedS s (IntKind.i64.wrap (Int.tmod v 8))) (IntKind.i64.wrap (Int.tmod u 8))) w (has_row encPt_ok (hw.has (p := 1) rfl)) (by assumption))) ?_
    refine gk_y rfl rfl (y_move rfl) ?_
    refine gk_y rfl rfl (y_extract rfl rfl) ?_
    refine gk_y rfl rfl (y_extract rfl rfl) ?_
    refine gk_y rfl rfl (y_assign rfl) ?_
    refine gk_y rfl rfl (y_assign rfl) ?_
    refine gk_nil (gk_sub (T' := [(6,_), (7,_), (9,_), (10,_), (11,_), (12,_), (13,_), (14,_), (15,_)]) ⟨rfl, rfl, rfl, rfl, rfl, rfl, rfl, rfl, rfl, trivial⟩ ?_)
    refine gk_sub (T' := [(6,_), (7,_), (9,_), (10,_), (11,_), (12,_), (13,_), (14, .int .i64 (weightW s)), (15, .int .i64 0)]) ⟨rfl, rfl, rfl, rfl, rfl, rfl, rfl, (by rw [hwb]; rfl), (by rw [hk2]; rfl), trivial⟩ ?_
    refine gk_seq ?_
    refine gk_seq ?_
    refine gk_any 28 (fun _ => mixed) (by kernel_rfl) ?_
    refine ph_y (y_move rfl) ?_
    refine ph_y (y_neq rfl rfl) ?_
    refine ph_y (y_move rfl) ?_
    refine ph_gk rfl rfl (y_move rfl) ?_
    refine ph_gk rfl rfl (y_neq rfl rfl) ?_
    refine ph_y (y_pickOr rfl rfl rfl) ?_
    refine ph_y (y_move rfl) ?_
    refine ph_gF rfl rfl (fun hgd => by (try rw [hgd]); exact (y_move rfl)) ?_
    refine ph_gF rfl rfl (fun hgd => by (try rw [hgd]); exact (y_neq rfl rfl)) ?_
    refine ph_y (y_pickOr rfl rfl rfl) ?_
    refine ph_y (y_move rfl) ?_
    refine ph_gF rfl rfl (fun hgd => by (try rw [hgd]); exact (y_move rfl)) ?_
    refine ph_gF rfl rfl (fun hgd => by (try rw [hgd]); exact (y_neq rfl rfl)) ?_
    refine ph_y (y_pickOr rfl rfl rfl) ?_
    refine ph_y (y_move rfl) ?_
    refine ph_gF rfl rfl (fun hgd => by (try rw [hgd]); exact (y_move rfl)) ?_
    refine ph_gF rfl rfl (fun hgd => by (try rw [hgd]); exact (y_move rfl)) ?_
    refine ph_gF rfl rfl (fun hgd => by (try rw [hgd]); exact (y_neq rfl rfl)) ?_
    refine ph_y (y_pickOr rfl rfl rfl) ?_
    refine ph_y (y_move rfl) ?_
    refine ph_gF rfl rfl (fun hgd => by (try rw [hgd]); exact (y_fieldAddr fo34_1 rfl)) ?_
    refine ph_gF rfl rfl (fun hgd => by (try rw [hgd]); exact (y_loadB1 0 tf31 rfl rfl rfl)) ?_
    refine ph_gF rfl rfl (fun hgd => by (try rw [hgd]); exact (y_lenS (Tryd.underlying31) rfl)) ?_
    refine ph_gF rfl rfl (fun hgd => by (try rw [hgd]); exact (y_fieldAddr fo34_1 rfl)) ?_
    refine ph_gF rfl rfl (fun hgd => by (try rw [hgd]); exact (y_loadB1 4 tf31 rfl rfl rfl)) ?_
    refine ph_gF rfl rfl (fun hgd => by (try rw [hgd]); exact (y_lenS (Tryd.underlying31) rfl)) ?_
    refine ph_gF rfl rfl (fun hgd => by (try rw [hgd]); exact (y_neq rfl rfl)) ?_
    refine ph_y (y_pickOr rfl rfl rfl) ?_
    refine gk_nil (gk_sub (T' := [(6,_), (7,_), (10,_), (94,_)]) ⟨rfl, rfl, rfl, rfl, trivial⟩ ?_)
    refine gk_cond rfl (fun hc94 => ?_) (fun hc94 => ?_)
    · exfalso; simp [hlen2] at hc94
    · simp only [Bool.or_eq_false_iff, Bool.not_eq_false', decide_eq_true_eq] at hc94
      refine gk_skip ?_
      refine gk_seq ?_
      refine gk_region ?_
      refine gk_y rfl rfl (y_assign rfl) ?_
      refine gk_nil (gk_sub (T' := [(6,_), (7,_), (10,_), (16,_)]) ⟨rfl, rfl, rfl, rfl, trivial⟩ ?_)
      refine gk_seq ?_
      refine gk_seq ?_
      refine gk_region ?_
      refine gk_y rfl rfl (y_assign rfl) ?_
      refine gk_nil (gk_sub (T' := [(6,_), (7,_), (10,_), (16,_), (17,_)]) ⟨rfl, rfl, rfl, rfl, rfl, trivial⟩ ?_)
      refine gk_block ?_
      refine gk_loop (X := Int) (fun i => [(6, .bool false), (7, .pointer (some ⟨b7, 0, none⟩)), (10, .pointer (some ⟨b10, 0, none⟩)), (16, .bool (foundB s (turnedS (turnedS s (IntKind.i64.wrap (v.tmod 8))) (IntKind.i64.wrap (u.tmod 8))) i)), (17, .int .i64 i)]) (fun i => [Box b10 [.string (turnedS (turnedS s (IntKind.i64.wrap (Int.tmod v 8))) (IntKind.i64.wrap (Int.tmod u 8))).name, .slice p54.1 (turnedS (turnedS s (IntKind.i64.wrap (Int.tmod v 8))) (IntKind.i64.wrap (Int.tmod u 8))).shape.length p54.2, .int .i64 ((turnedS (turnedS s (IntKind.i64.wrap (Int.tmod v 8))) (IntKind.i64.wrap (Int.tmod u 8))).depth), .int .i64 ((turnedS (turnedS s (IntKind.i64.wrap (Int.tmod v 8))) (IntKind.i64.wrap (Int.tmod u 8))).density), .int .i64 ((turnedS (turnedS s (IntKind.i64.wrap (Int.tmod v 8))) (IntKind.i64.wrap (Int.tmod u 8))).grain.x), .int .i64 ((turnedS (turnedS s (IntKind.i64.wrap (Int.tmod v 8))) (IntKind.i64.wrap (Int.tmod u 8))).grain.z)] 34, Row p54.1 2 p54.2 32 encPt (turnedS (turnedS s (IntKind.i64.wrap (Int.tmod v 8))) (IntKind.i64.wrap (Int.tmod u 8))).shape, Box b8 [.string (turnedS s (IntKind.i64.wrap (Int.tmod v 8))).name, .slice p46.1 (turnedS s (IntKind.i64.wrap (Int.tmod v 8))).shape.length p46.2, .int .i64 ((turnedS s (IntKind.i64.wrap (Int.tmod v 8))).depth), .int .i64 ((turnedS s (IntKind.i64.wrap (Int.tmod v 8))).density), .int .i64 ((turnedS s (IntKind.i64.wrap (Int.tmod v 8))).grain.x), .int .i64 ((turnedS s (IntKind.i64.wrap (Int.tmod v 8))).grain.z)] 34, Row p46.1 2 p46.2 32 encPt (turnedS s (IntKind.i64.wrap (Int.tmod v 8))).shape, Box b7 [.string s.name, .slice p40.1 s.shape.length p40.2, .int .i64 s.depth, .int .i64 s.density, .int .i64 s.grain.x, .int .i64 s.grain.z] 34, Row p40.1 2 p40.2 32 encPt s.shape, Box b3 [.string s.name, .slice a s.shape.length cap, .int .i64 s.depth, .int .i64 s.density, .int .i64 s.grain.x, .int .i64 s.grain.z] 26]) (fun i => (0 ≤ i ∧ i ≤ 8)) (fun i => (8 - i).toNat) 0 ⟨rfl, rfl, rfl, rfl, rfl, trivial⟩ rfl ?_ ?_
      · exact ⟨by omega, by omega⟩
      · rintro i hI
        obtain ⟨g0, g1⟩ := hI
        refine gk_seq ?_
        refine gk_seq ?_
        refine gk_region ?_
        refine gk_y rfl rfl (y_move rfl) ?_
        refine gk_y rfl rfl (y_lss rfl rfl) ?_
        refine gk_nil (gk_sub (T' := [(6,_), (7,_), (10,_), (16,_), (17,_), (96,_)]) ⟨rfl, rfl, rfl, rfl, rfl, rfl, trivial⟩ ?_)
        refine gk_cond rfl (fun hc96 => ?_) (fun hc96 => ?_)
        · have hc96 := of_decide_eq_true hc96
          obtain ⟨hEi, hki, hli, hwi⟩ := ways_all hck g0 (show i ≤ 7 by omega)
          have hsi : Small (turnedS s i).shape.length := by rw [hli]; exact hs
          refine gk_skip ?_
          refine gk_seq ?_
          refine gk_block ?_
          refine gk_seq ?_
          refine gk_region ?_
          refine gk_y rfl rfl (y_loadBA 4 tf34 rfl rfl (vs := [_, _, _, _, _, _]) rfl rfl) ?_
          refine gk_y rfl rfl (y_move rfl) ?_
          refine gk_yx rfl rfl (yx_call en19 rfl (fun w hw => Turned_c _ _ s i w (has_row encPt_ok (hw.has (p := 5) rfl)) (by assumption) (Rd.has (Has.rd hways) hw))) fun p102 => ?_
          refine gk_y rfl rfl (y_move rfl) ?_
          refine gk_y rfl rfl (y_extract rfl rfl) ?_
          refine gk_y rfl rfl (y_extract rfl rfl) ?_
          refine gk_yx rfl rfl (yx_alloc tf34 (zs := [_, _, _, _, _, _]) rfl) fun b18 => ?_
          refine gk_storeV 0 tf34 rfl rfl (vs := [_, _, _, _, _, _]) rfl rfl rfl rfl rfl ?_
          refine gk_y rfl rfl (y_assign rfl) ?_
          refine gk_nil (gk_sub (T' := [(6,_), (7,_), (10,_), (16,_), (17,_), (18,_), (19,_)]) ⟨rfl, rfl, rfl, rfl, rfl, rfl, rfl, trivial⟩ ?_)
          refine gk_sub (T' := [(6,_), (7,_), (10,_), (16,_), (17,_), (18,_), (19, .int .i64 0)]) ⟨rfl, rfl, rfl, rfl, rfl, rfl, (by rw [hEi]; rfl), trivial⟩ ?_
          refine gk_region ?_
          refine gk_y rfl rfl (y_move rfl) ?_
          refine gk_y rfl rfl (y_move rfl) ?_
          refine gk_guard rfl rfl rfl rfl (fun hg106 => ?_) (fun hg106 => ?_)
          · replace hg106 : _ = false := hg106
            try rw [hg106]
            refine gk_y rfl rfl (y_move rfl) ?_
            refine gk_guard rfl rfl rfl rfl (fun _ => ?_) (fun h => absurd h (by decide))
            refine gk_y rfl rfl (y_eql rfl rfl) ?_
            refine gk_guard rfl rfl rfl rfl (fun _ => ?_) (fun h => absurd h (by decide))
            refine gk_y rfl rfl (y_move rfl) ?_
            refine gk_guard rfl rfl rfl rfl (fun _ => ?_) (fun h => absurd h (by decide))
            refine gk_y rfl rfl (y_loadBA 0 tf34 rfl rfl (vs := [_, _, _, _, _, _]) rfl rfl) ?_
            refine gk_guard rfl rfl rfl rfl (fun _ => ?_) (fun h => absurd h (by decide))
            refine gk_y rfl rfl (y_loadBA 2 tf34 rfl rfl (vs := [_, _, _, _, _, _]) rfl rfl) ?_
            refine gk_guard rfl rfl rfl rfl (fun _ => ?_) (fun h => absurd h (by decide))
            refine gk_y rfl rfl (y_call en29 rfl (fun w hw => alike_c _ _ (turnedS s i) _ _ (turnedS (turnedS s (IntKind.i64.wrap (Int.tmod v 8))) (IntKind.i64.wrap (Int.tmod u 8))) w (has_row encPt_ok (hw.has (p := 1) rfl)) (has_row encPt_ok (hw.has (p := 3) rfl)) (by first | assumption | omega))) ?_
            refine gk_guard rfl rfl rfl rfl (fun _ => ?_) (fun h => absurd h (by decide))
            refine gk_y rfl rfl (y_pick rfl rfl rfl) ?_
            refine gk_y rfl rfl (y_pick rfl rfl rfl) ?_
            refine gk_y rfl rfl (y_assign rfl) ?_
            refine gk_nil (gk_sub (T' := [(6,_), (7,_), (10,_), (16,_), (17,_)]) ⟨rfl, rfl, rfl, rfl, rfl, trivial⟩ ?_)
            refine gk_sub (T' := [(6,_), (7,_), (10,_), (16, .bool (foundB s (turnedS (turnedS s (IntKind.i64.wrap (v.tmod 8))) (IntKind.i64.wrap (u.tmod 8))) (i + 1))), (17,_)]) ⟨rfl, rfl, rfl, (by rw [found_succ g0, hg106]; rfl), rfl, trivial⟩ ?_
            refine gk_region ?_
            refine gk_y rfl rfl (y_move rfl) ?_
            refine gk_y rfl rfl (y_addI rfl rfl (by omega) (by omega)) ?_
            refine gk_y rfl rfl (y_assign rfl) ?_
            refine gk_nil (gk_sub (T' := [(6,_), (7,_), (10,_), (16,_), (17,_)]) ⟨rfl, rfl, rfl, rfl, rfl, trivial⟩ ?_)
            refine gk_dropAt 0 rfl ?_
            refine gk_dropAt 0 rfl ?_
            exact gk_next (i + 1) ⟨rfl, rfl, rfl, rfl, rfl, trivial⟩ rfl ⟨by omega, by omega⟩ (by omega)
          · replace hg106 : _ = true := hg106
            try rw [hg106]
            refine gk_guard rfl rfl rfl rfl (fun h => absurd h (by decide)) (fun _ => ?_)
            refine gk_guard rfl rfl rfl rfl (fun h => absurd h (by decide)) (fun _ => ?_)
            refine gk_guardU rfl rfl rfl rfl ?_
            refine gk_guardU rfl rfl rfl rfl ?_
            refine gk_guardU rfl rfl rfl rfl ?_
            refine gk_guard rfl rfl rfl rfl (fun h => absurd h (by decide)) (fun _ => ?_)
            refine gk_y rfl rfl (y_pick rfl rfl rfl) ?_
            refine gk_y rfl rfl (y_assign rfl) ?_
            refine gk_nil (gk_sub (T' := [(6,_), (7,_), (10,_), (16,_), (17,_)]) ⟨rfl, rfl, rfl, rfl, rfl, trivial⟩ ?_)
            refine gk_sub (T' := [(6,_), (7,_), (10,_), (16, .bool (foundB s (turnedS (turnedS s (IntKind.i64.wrap (v.tmod 8))) (IntKind.i64.wrap (u.tmod 8))) (i + 1))), (17,_)]) ⟨rfl, rfl, rfl, (by rw [found_succ g0, hg106]; rfl), rfl, trivial⟩ ?_
            refine gk_region ?_
            refine gk_y rfl rfl (y_move rfl) ?_
            refine gk_y rfl rfl (y_addI rfl rfl (by omega) (by omega)) ?_
            refine gk_y rfl rfl (y_assign rfl) ?_
            refine gk_nil (gk_sub (T' := [(6,_), (7,_), (10,_), (16,_), (17,_)]) ⟨rfl, rfl, rfl, rfl, rfl, trivial⟩ ?_)
            refine gk_dropAt 0 rfl ?_
            refine gk_dropAt 0 rfl ?_
            exact gk_next (i + 1) ⟨rfl, rfl, rfl, rfl, rfl, trivial⟩ rfl ⟨by omega, by omega⟩ (by omega)
        · have hc96 := of_decide_eq_false hc96
          have hfound : foundB s (turnedS (turnedS s (IntKind.i64.wrap (v.tmod 8))) (IntKind.i64.wrap (u.tmod 8))) i = true := found_one ci0 (by omega) hcomp.symm
          refine gk_exit rfl ?_
          refine gk_seq ?_
          refine gk_region ?_
          refine gk_y rfl rfl (y_loadBA 4 tf34 rfl rfl (vs := [_, _, _, _, _, _]) rfl rfl) ?_
          refine gk_yx rfl rfl (yx_alloc tf34 (zs := [_, _, _, _, _, _]) rfl) fun b20 => ?_
          refine gk_storeV 0 tf34 rfl rfl (vs := [_, _, _, _, _, _]) rfl rfl rfl rfl rfl ?_
          refine gk_y rfl rfl (y_assign rfl) ?_
          refine gk_nil (gk_sub (T' := [(6,_), (7,_), (16,_), (20,_), (21,_)]) ⟨rfl, rfl, rfl, rfl, rfl, trivial⟩ ?_)
          refine gk_sub (T' := [(6,_), (7,_), (16, .bool true), (20,_), (21,_)]) ⟨rfl, rfl, (by rw [hfound]; rfl), rfl, rfl, trivial⟩ ?_
          refine gk_conv (R' := Two (Pts p40.1 s.shape) (Pts p40.1 s.shape)) 6 rfl (fun B w hA => two_dup (Row.elems encPt_ok hA)) ?_
          refine gk_seq ?_
          refine gk_seq ?_
          refine gk_region ?_
          refine gk_y rfl rfl (y_assign rfl) ?_
          refine gk_nil (gk_sub (T' := [(6,_), (7,_), (16,_), (20,_), (21,_), (22,_)]) ⟨rfl, rfl, rfl, rfl, rfl, rfl, trivial⟩ ?_)
          refine gk_block ?_
          refine gk_loop (X := Int × Option Addr × Nat × Stn) (fun ⟨k, b, bc, r⟩ => [(6, .bool false), (7, .pointer (some ⟨b7, 0, none⟩)), (16, .bool true), (20, .pointer (some ⟨b20, 0, none⟩)), (21, .int .i64 0), (22, .int .i64 k)]) (fun ⟨k, b, bc, r⟩ => [Box b20 [.string r.name, .slice b r.shape.length bc, .int .i64 r.depth, .int .i64 r.density, .int .i64 r.grain.x, .int .i64 r.grain.z] 34, Box b10 [.string (turnedS (turnedS s (IntKind.i64.wrap (Int.tmod v 8))) (IntKind.i64.wrap (Int.tmod u 8))).name, .slice p54.1 (turnedS (turnedS s (IntKind.i64.wrap (Int.tmod v 8))) (IntKind.i64.wrap (Int.tmod u 8))).shape.length p54.2, .int .i64 ((turnedS (turnedS s (IntKind.i64.wrap (Int.tmod v 8))) (IntKind.i64.wrap (Int.tmod u 8))).depth), .int .i64 ((turnedS (turnedS s (IntKind.i64.wrap (Int.tmod v 8))) (IntKind.i64.wrap (Int.tmod u 8))).density), .int .i64 ((turnedS (turnedS s (IntKind.i64.wrap (Int.tmod v 8))) (IntKind.i64.wrap (Int.tmod u 8))).grain.x), .int .i64 ((turnedS (turnedS s (IntKind.i64.wrap (Int.tmod v 8))) (IntKind.i64.wrap (Int.tmod u 8))).grain.z)] 34, Row p54.1 2 p54.2 32 encPt (turnedS (turnedS s (IntKind.i64.wrap (Int.tmod v 8))) (IntKind.i64.wrap (Int.tmod u 8))).shape, Box b8 [.string (turnedS s (IntKind.i64.wrap (Int.tmod v 8))).name, .slice p46.1 (turnedS s (IntKind.i64.wrap (Int.tmod v 8))).shape.length p46.2, .int .i64 ((turnedS s (IntKind.i64.wrap (Int.tmod v 8))).depth), .int .i64 ((turnedS s (IntKind.i64.wrap (Int.tmod v 8))).density), .int .i64 ((turnedS s (IntKind.i64.wrap (Int.tmod v 8))).grain.x), .int .i64 ((turnedS s (IntKind.i64.wrap (Int.tmod v 8))).grain.z)] 34, Row p46.1 2 p46.2 32 encPt (turnedS s (IntKind.i64.wrap (Int.tmod v 8))).shape, Box b7 [.string s.name, .slice p40.1 s.shape.length p40.2, .int .i64 s.depth, .int .i64 s.density, .int .i64 s.grain.x, .int .i64 s.grain.z] 34, Two (Pts p40.1 s.shape) (Pts b r.shape), Box b3 [.string s.name, .slice a s.shape.length cap, .int .i64 s.depth, .int .i64 s.density, .int .i64 s.grain.x, .int .i64 s.grain.z] 26]) (fun ⟨k, b, bc, r⟩ => (0 ≤ k ∧ k ≤ 4 ∧ r = turnedS s (k.tmod 4))) (fun ⟨k, b, bc, r⟩ => (4 - k).toNat) (0, p40.1, p40.2, s) ⟨rfl, rfl, rfl, rfl, rfl, rfl, trivial⟩ rfl ?_ ?_
          · exact ⟨by omega, by omega, (ways_zero hck).symm⟩
          · rintro ⟨k, b, bc, r⟩ hI
            obtain ⟨k0, k1, k2⟩ := hI
            refine gk_seq ?_
            refine gk_seq ?_
            refine gk_region ?_
            refine gk_y rfl rfl (y_move rfl) ?_
            refine gk_y rfl rfl (y_lss rfl rfl) ?_
            refine gk_nil (gk_sub (T' := [(6,_), (7,_), (16,_), (20,_), (21,_), (22,_), (117,_)]) ⟨rfl, rfl, rfl, rfl, rfl, rfl, rfl, trivial⟩ ?_)
            refine gk_cond rfl (fun hc117 => ?_) (fun hc117 => ?_)
            · have hc117 := of_decide_eq_true hc117
              obtain ⟨kr0, kr7⟩ := round_in k0
              obtain ⟨hEr, hkr, hlr, hwr⟩ := ways_all hck kr0 kr7
              have hckr : checkI r = 0 := by rw [k2]; exact hkr
              obtain ⟨hEk, hkk, hlk, hwk⟩ := ways_all hckr (show (0 : Int) ≤ 1 by decide) (show (1 : Int) ≤ 7 by decide)
              have hsr : Small r.shape.length := by rw [k2, hlr]; exact hs
              refine gk_skip ?_
              refine gk_seq ?_
              refine gk_block ?_
              refine gk_seq ?_
              refine gk_region ?_
              refine gk_y rfl rfl (y_loadBA 0 tf34 rfl rfl (vs := [_, _, _, _, _, _]) rfl rfl) ?_
              refine gk_yx rfl rfl (yx_call en19 rfl (fun w hw => Turned_c _ _ r 1 w (has_snd (hw.has (p := 6) rfl)) (by assumption) (Rd.has (Has.rd hways) hw))) fun p122 => ?_
              refine gk_y rfl rfl (y_move rfl) ?_
              refine gk_y rfl rfl (y_extract rfl rfl) ?_
              refine gk_y rfl rfl (y_extract rfl rfl) ?_
              refine gk_storeV 1 tf34 rfl rfl (vs := [_, _, _, _, _, _]) rfl rfl rfl rfl rfl ?_
              refine gk_y rfl rfl (y_assign rfl) ?_
              refine gk_nil (gk_sub (T' := [(6,_), (7,_), (16,_), (20,_), (21,_), (22,_)]) ⟨rfl, rfl, rfl, rfl, rfl, rfl, trivial⟩ ?_)
              refine gk_sub (T' := [(6,_), (7,_), (16,_), (20,_), (21, .int .i64 0), (22,_)]) ⟨rfl, rfl, rfl, rfl, (by rw [hEk]; rfl), rfl, trivial⟩ ?_
              refine gk_front 7 rfl ?_
              refine gk_pack 2 ?_
              refine gk_conv (R' := Two (Pts p40.1 s.shape) (Pts p122.1 (turnedS r 1).shape)) 0 rfl (fun B w hA => two_next (fun B w h => Row.elems encPt_ok h) hA) ?_
              refine gk_front 7 rfl ?_
              refine gk_front 1 rfl ?_
              refine gk_front 7 rfl ?_
              refine gk_front 7 rfl ?_
              refine gk_front 7 rfl ?_
              refine gk_front 7 rfl ?_
              refine gk_front 7 rfl ?_
              refine gk_front 7 rfl ?_
              refine gk_seq ?_
              refine gk_region ?_
              refine gk_y rfl rfl (y_move rfl) ?_
              refine gk_y rfl rfl (y_neq rfl rfl) ?_
              refine gk_nil (gk_sub (T' := [(6,_), (7,_), (16,_), (20,_), (21,_), (22,_), (126,_)]) ⟨rfl, rfl, rfl, rfl, rfl, rfl, rfl, trivial⟩ ?_)
              refine gk_condF rfl ?_
              refine gk_skip ?_
              refine gk_region ?_
              refine gk_y rfl rfl (y_move rfl) ?_
              refine gk_y rfl rfl (y_addI rfl rfl (by omega) (by omega)) ?_
              refine gk_y rfl rfl (y_assign rfl) ?_
              refine gk_nil (gk_sub (T' := [(6,_), (7,_), (16,_), (20,_), (21,_), (22,_)]) ⟨rfl, rfl, rfl, rfl, rfl, rfl, trivial⟩ ?_)
              exact gk_next (k + 1, p122.1, p122.2, turnedS r 1) ⟨rfl, rfl, rfl, rfl, rfl, rfl, trivial⟩ rfl ⟨by omega, by omega, by rw [k2]; exact round_next hck k0 hc117⟩ (by simp only []; omega)
            · have hc117 := of_decide_eq_false hc117
              have hround : r = s := by rw [k2, show k = 4 from by omega]; exact ways_zero hck
              have hsr : Small r.shape.length := by rw [hround]; exact hs
              refine gk_exit rfl ?_
              refine gk_seq ?_
              refine gk_region ?_
              refine gk_y rfl rfl (y_loadBA 5 tf34 rfl rfl (vs := [_, _, _, _, _, _]) rfl rfl) ?_
              refine gk_yx rfl rfl (yx_call en19 rfl (fun w hw => Turned_c _ _ s 4 w (has_fst (hw.has (p := 6) rfl)) (by assumption) (Rd.has (Has.rd hways) hw))) fun p129 => ?_
              refine gk_y rfl rfl (y_move rfl) ?_
              refine gk_y rfl rfl (y_extract rfl rfl) ?_
              refine gk_y rfl rfl (y_extract rfl rfl) ?_
              refine gk_yx rfl rfl (yx_alloc tf34 (zs := [_, _, _, _, _, _]) rfl) fun b23 => ?_
              refine gk_storeV 0 tf34 rfl rfl (vs := [_, _, _, _, _, _]) rfl rfl rfl rfl rfl ?_
              refine gk_y rfl rfl (y_assign rfl) ?_
              refine gk_nil (gk_sub (T' := [(6,_), (7,_), (16,_), (20,_), (23,_), (24,_)]) ⟨rfl, rfl, rfl, rfl, rfl, rfl, trivial⟩ ?_)
              refine gk_sub (T' := [(6,_), (7,_), (16,_), (20,_), (23,_), (24, .int .i64 0)]) ⟨rfl, rfl, rfl, rfl, rfl, (by rw [hE4]; rfl), trivial⟩ ?_
              refine gk_seq ?_
              refine gk_region ?_
              refine gk_y rfl rfl (y_loadBA 0 tf34 rfl rfl (vs := [_, _, _, _, _, _]) rfl rfl) ?_
              refine gk_yx rfl rfl (yx_call en19 rfl (fun w hw => Turned_c _ _ (turnedS s 4) 4 w (has_row encPt_ok (hw.has (p := 1) rfl)) (by assumption) (Rd.has (Has.rd hways) hw))) fun p134 => ?_
              refine gk_y rfl rfl (y_move rfl) ?_
              refine gk_y rfl rfl (y_extract rfl rfl) ?_
              refine gk_y rfl rfl (y_extract rfl rfl) ?_
              refine gk_yx rfl rfl (yx_alloc tf34 (zs := [_, _, _, _, _, _]) rfl) fun b25 => ?_
              refine gk_storeV 0 tf34 rfl rfl (vs := [_, _, _, _, _, _]) rfl rfl rfl rfl rfl ?_
              refine gk_y rfl rfl (y_assign rfl) ?_
              refine gk_nil (gk_sub (T' := [(6,_), (7,_), (16,_), (20,_), (24,_), (25,_), (26,_)]) ⟨rfl, rfl, rfl, rfl, rfl, rfl, rfl, trivial⟩ ?_)
              refine gk_sub (T' := [(6,_), (7,_), (16,_), (20,_), (24,_), (25,_), (26, .int .i64 0)]) ⟨rfl, rfl, rfl, rfl, rfl, rfl, (by rw [hE5]; rfl), trivial⟩ ?_
              refine gk_seq ?_
              refine gk_region ?_
              refine gk_y rfl rfl (y_loadBA 9 tf34 rfl rfl (vs := [_, _, _, _, _, _]) rfl rfl) ?_
              refine gk_yx rfl rfl (yx_call en19 rfl (fun w hw => Turned_c _ _ s 0 w (has_fst (hw.has (p := 10) rfl)) (by assumption) (Rd.has (Has.rd hways) hw))) fun p139 => ?_
              refine gk_y rfl rfl (y_move rfl) ?_
              refine gk_y rfl rfl (y_extract rfl rfl) ?_
              refine gk_y rfl rfl (y_extract rfl rfl) ?_
              refine gk_yx rfl rfl (yx_alloc tf34 (zs := [_, _, _, _, _, _]) rfl) fun b27 => ?_
              refine gk_storeV 0 tf34 rfl rfl (vs := [_, _, _, _, _, _]) rfl rfl rfl rfl rfl ?_
              refine gk_y rfl rfl (y_assign rfl) ?_
              refine gk_nil (gk_sub (T' := [(6,_), (7,_), (16,_), (20,_), (24,_), (25,_), (26,_), (27,_), (28,_)]) ⟨rfl, rfl, rfl, rfl, rfl, rfl, rfl, rfl, rfl, trivial⟩ ?_)
              refine gk_sub (T' := [(6,_), (7,_), (16,_), (20,_), (24,_), (25,_), (26,_), (27,_), (28, .int .i64 0)]) ⟨rfl, rfl, rfl, rfl, rfl, rfl, rfl, rfl, (by rw [hE0]; rfl), trivial⟩ ?_
              refine gk_seq ?_
              refine gk_any 32 (fun _ => mixed) (by kernel_rfl) ?_
              refine ph_y (y_move rfl) ?_
              refine ph_y (y_move rfl) ?_
              refine ph_gk rfl rfl (y_move rfl) ?_
              refine ph_gk rfl rfl (y_eql rfl rfl) ?_
              refine ph_y (y_pick rfl rfl rfl) ?_
              refine ph_y (y_move rfl) ?_
              refine ph_gk rfl rfl (y_move rfl) ?_
              refine ph_gk rfl rfl (y_eql rfl rfl) ?_
              refine ph_y (y_pick rfl rfl rfl) ?_
              refine ph_y (y_move rfl) ?_
              refine ph_gk rfl rfl (y_move rfl) ?_
              refine ph_gk rfl rfl (y_eql rfl rfl) ?_
              refine ph_y (y_pick rfl rfl rfl) ?_
              refine ph_y (y_move rfl) ?_
              refine ph_gk rfl rfl (y_loadBA 6 tf34 rfl rfl (vs := [_, _, _, _, _, _]) rfl rfl) ?_
              refine ph_gk rfl rfl (y_loadBA 11 tf34 rfl rfl (vs := [_, _, _, _, _, _]) rfl rfl) ?_
              refine ph_gk rfl rfl (y_castT (b := (sameSB r s)) (y_call en29 rfl (fun w hw => alike_c _ _ r _ _ s w (has_snd (hw.has (p := 12) rfl)) (has_fst (hw.has (p := 12) rfl)) (by first | assumption | omega))) (by rw [hround]; exact same_refl s)) ?_
              refine ph_y (y_pick rfl rfl rfl) ?_
              refine ph_y (y_move rfl) ?_
              refine ph_gk rfl rfl (y_loadBA 2 tf34 rfl rfl (vs := [_, _, _, _, _, _]) rfl rfl) ?_
              refine ph_gk rfl rfl (y_loadBA 11 tf34 rfl rfl (vs := [_, _, _, _, _, _]) rfl rfl) ?_
              refine ph_gk rfl rfl (y_castT (b := (sameSB (turnedS (turnedS s 4) 4) s)) (y_call en29 rfl (fun w hw => alike_c _ _ (turnedS (turnedS s 4) 4) _ _ s w (has_row encPt_ok (hw.has (p := 3) rfl)) (has_fst (hw.has (p := 12) rfl)) (by first | assumption | omega))) (by rw [hfour]; exact same_refl s)) ?_
              refine ph_y (y_pick rfl rfl rfl) ?_
              refine ph_y (y_move rfl) ?_
              refine ph_gk rfl rfl (y_loadBA 0 tf34 rfl rfl (vs := [_, _, _, _, _, _]) rfl rfl) ?_
              refine ph_gk rfl rfl (y_loadBA 11 tf34 rfl rfl (vs := [_, _, _, _, _, _]) rfl rfl) ?_
              refine ph_gk rfl rfl (y_castT (b := (sameSB (turnedS s 0) s)) (y_call en29 rfl (fun w hw => alike_c _ _ (turnedS s 0) _ _ s w (has_row encPt_ok (hw.has (p := 1) rfl)) (has_fst (hw.has (p := 12) rfl)) (by first | assumption | omega))) (by rw [ways_zero hck]; exact same_refl s)) ?_
              refine ph_y (y_pick rfl rfl rfl) ?_
              refine ph_y (y_move rfl) ?_
              refine ph_gk rfl rfl (y_call en15 rfl (fun w hw => wakes_c w (Rd.has (Has.rd hways) hw))) ?_
              refine ph_y (y_pick rfl rfl rfl) ?_
              refine ph_y (y_assign rfl) ?_
              refine gk_nil (gk_sub (T' := [(6,_)]) ⟨rfl, trivial⟩ ?_)
              refine gk_ret ?_
              refine gk_pure (rv_one rfl (r1_tmp rfl)) ?_
              rfl

end Go.Proofs.YtahahmelnaphjaaDoor
