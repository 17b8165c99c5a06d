/- Walks: the pieces of a cut, judged. No statement of the seat is proved in this text. -/
import Derived.Test.YtahahmelnaphjaaDoorW16
import Derived.Test.YtahahmelnaphjaaDoorL7
namespace Go.Proofs.YtahahmelnaphjaaDoor
open Go.K Go.Stn Go.RowKit
theorem en27 : En Tryd.prog 27 := en_of Tryd.func27 (by kernel_rfl) (by kernel_rfl)
theorem en33 : En Tryd.prog 33 := en_of Tryd.func33 (by kernel_rfl) (by kernel_rfl)
theorem en37 : En Tryd.prog 37 := en_of Tryd.func37 (by kernel_rfl) (by kernel_rfl)
theorem en72 : En Tryd.prog 72 := en_of Tryd.func72 (by kernel_rfl) (by kernel_rfl)
theorem en73 : En Tryd.prog 73 := en_of Tryd.func73 (by kernel_rfl) (by kernel_rfl)

set_option maxRecDepth 100000 in
set_option maxHeartbeats 1000000 in
theorem cutright_c (a : Option Addr) (cap : Nat) (s : Stn) (p q : Pt) (a1 : Option Addr) (c1 : Nat) (a2 : Option Addr) (c2 : Nat) (w : World) (hl : Has w (Pts a s.shape)) (hs : Small s.shape.length) (hl1 : Has w (Pts a1 (splitA s p q).shape)) (hl2 : Has w (Pts a2 (splitB s p q).shape)) (hn : Fits s.name.size) :
    Calls Tryd.prog 27 #[.agg #[.string s.name, .slice a s.shape.length cap, .int .i64 s.depth, .int .i64 s.density, .int .i64 s.grain.x, .int .i64 s.grain.z], .agg #[.int .i64 p.x, .int .i64 p.z], .agg #[.int .i64 q.x, .int .i64 q.z], .agg #[.string (splitA s p q).name, .slice a1 (splitA s p q).shape.length c1, .int .i64 ((splitA s p q).depth), .int .i64 ((splitA s p q).density), .int .i64 ((splitA s p q).grain.x), .int .i64 ((splitA s p q).grain.z)], .agg #[.string (splitB s p q).name, .slice a2 (splitB s p q).shape.length c2, .int .i64 ((splitB s p q).depth), .int .i64 ((splitB s p q).density), .int .i64 ((splitB s p q).grain.x), .int .i64 ((splitB s p q).grain.z)], .int .i64 (splitE s p q)] w (Pure (.bool true) w) := by
  refine calls_of_gk (vs := [_, _, _, _, _, _]) Tryd.func27 rfl rfl (Nat.le_of_ble_eq_true rfl) ?_
  refine gk_seq ?_
  refine gk_region ?_
  refine gk_yx rfl rfl (yx_box (vs := [_, _, _, _, _, _]) rfl rfl) fun b6 => ?_
  refine gk_yx rfl rfl (yx_box (vs := [_, _]) rfl rfl) fun b7 => ?_
  refine gk_yx rfl rfl (yx_box (vs := [_, _]) rfl rfl) fun b8 => ?_
  refine gk_yx rfl rfl (yx_box (vs := [_, _, _, _, _, _]) rfl rfl) fun b9 => ?_
  refine gk_yx rfl rfl (yx_box (vs := [_, _, _, _, _, _]) rfl rfl) fun b10 => ?_
  refine gk_y rfl rfl (y_assign rfl) ?_
  refine gk_nil (gk_sub (T' := [(5,_), (6,_), (7,_), (8,_), (9,_), (10,_), (12,_)]) ⟨rfl, rfl, rfl, rfl, rfl, rfl, rfl, trivial⟩ ?_)
  refine gk_seq ?_
  refine gk_region ?_
  refine gk_y rfl rfl (y_assign rfl) ?_
  refine gk_nil (gk_sub (T' := [(5,_), (6,_), (7,_), (8,_), (9,_), (10,_), (12,_), (13,_)]) ⟨rfl, rfl, rfl, rfl, rfl, rfl, rfl, rfl, trivial⟩ ?_)
  refine gk_seq ?_
  refine gk_seq ?_
  refine gk_region ?_
  refine gk_y rfl rfl (y_loadBA 4 tf26 rfl rfl (vs := [_, _, _, _, _, _]) rfl rfl) ?_
  refine gk_y rfl rfl (y_call en16 rfl (fun w hw => rvalid_c _ _ s w (Rd.has (Has.rd hl) hw) (by assumption) (by assumption))) ?_
  refine gk_y rfl rfl (y_not rfl) ?_
  refine gk_nil (gk_sub (T' := [(5,_), (6,_), (7,_), (8,_), (9,_), (10,_), (12,_), (13,_), (18,_)]) ⟨rfl, rfl, rfl, rfl, rfl, rfl, rfl, rfl, rfl, trivial⟩ ?_)
  refine gk_cond rfl (fun hc18 => ?_) (fun hc18 => ?_)
  · have hck : checkI s = 2 := by rw [check_valid, if_neg (by rw [show rvalidB s = false from by simpa using hc18]; exact Bool.false_ne_true)]
    have hE : splitE s p q = 2 := by rw [splitE, if_pos (by rw [hck]; decide), hck]
    obtain ⟨hA, hB⟩ := split_bad hE (by decide)
    refine gk_region ?_
    refine gk_y rfl rfl (y_assign rfl) ?_
    refine gk_nil (gk_sub (T' := [(5,_), (6,_), (7,_), (8,_), (9,_), (10,_), (12,_), (13,_)]) ⟨rfl, rfl, rfl, rfl, rfl, rfl, rfl, rfl, trivial⟩ ?_)
    refine gk_seq ?_
    refine gk_region ?_
    refine gk_y rfl rfl (y_assign rfl) ?_
    refine gk_y rfl rfl (y_assign rfl) ?_
    refine gk_nil (gk_sub (T' := [(5,_), (6,_), (7,_), (8,_), (9,_), (10,_), (12,_), (13,_), (14,_), (15,_)]) ⟨rfl, rfl, rfl, rfl, rfl, rfl, rfl, rfl, rfl, rfl, trivial⟩ ?_)
    refine gk_seq ?_
    refine gk_seq ?_
    refine gk_region ?_
    refine gk_y rfl rfl (y_move rfl) ?_
    refine gk_y rfl rfl (y_eql rfl rfl) ?_
    refine gk_nil (gk_sub (T' := [(5,_), (6,_), (7,_), (8,_), (9,_), (10,_), (12,_), (13,_), (14,_), (15,_), (38,_)]) ⟨rfl, rfl, rfl, rfl, rfl, rfl, rfl, rfl, rfl, rfl, rfl, trivial⟩ ?_)
    refine gk_condF rfl ?_
    refine gk_skip ?_
    refine gk_seq ?_
    refine gk_seq ?_
    refine gk_region ?_
    refine gk_y rfl rfl (y_move rfl) ?_
    refine gk_y rfl rfl (y_neq rfl rfl) ?_
    refine gk_nil (gk_sub (T' := [(5,_), (6,_), (9,_), (10,_), (12,_), (13,_), (14,_), (15,_), (64,_)]) ⟨rfl, rfl, rfl, rfl, rfl, rfl, rfl, rfl, rfl, trivial⟩ ?_)
    refine gk_condT rfl ?_
    refine gk_seq ?_
    refine gk_any 12 (fun _ => mixed) (by kernel_rfl) ?_
    refine ph_y (y_move rfl) ?_
    refine ph_y (y_move rfl) ?_
    refine ph_y (y_eql rfl rfl) ?_
    refine ph_y (y_move rfl) ?_
    refine ph_gT rfl rfl (fun hgd => by (try rw [hgd]); exact (y_loadBA 1 tf34 rfl rfl (vs := [_, _, _, _, _, _]) rfl rfl)) ?_
    refine ph_gT rfl rfl (fun hgd => by (try rw [hgd]); exact (y_call (v := .bool (noneSB (splitA s p q))) en20 rfl (fun w hw => none_c _ _ (splitA s p q) w))) ?_
    refine ph_y (y_pickAnd rfl rfl rfl) ?_
    refine ph_y (y_move rfl) ?_
    refine ph_gT rfl rfl (fun hgd => by (try rw [hgd]); exact (y_loadBA 0 tf34 rfl rfl (vs := [_, _, _, _, _, _]) rfl rfl)) ?_
    refine ph_gT rfl rfl (fun hgd => by (try rw [hgd]); exact (y_call (v := .bool (noneSB (splitB s p q))) en20 rfl (fun w hw => none_c _ _ (splitB s p q) w))) ?_
    refine ph_y (y_pickAnd rfl rfl rfl) ?_
    refine ph_y (y_assign rfl) ?_
    refine gk_nil (gk_sub (T' := [(5,_), (6,_), (9,_), (10,_), (12,_), (14,_), (15,_)]) ⟨rfl, rfl, rfl, rfl, rfl, rfl, rfl, trivial⟩ ?_)
    refine gk_ret ?_
    refine gk_pure (rv_one rfl (r1_tmp rfl)) ?_
    exact congrArg Value.bool (by rw [hE, hA, hB]; decide +kernel)
  · have hck : checkI s = 0 := by rw [check_valid, if_pos (by simpa using hc18)]
    have hlen := check_len hck
    have hgd := good_of hck
    refine gk_seq ?_
    refine gk_any 12 (fun _ => mixed) (by kernel_rfl) ?_
    refine ph_y (y_fieldAddr fo26_1 rfl) ?_
    refine ph_y (y_loadB1 4 tf22 rfl rfl rfl) ?_
    refine ph_y (y_loadBA 3 tf24 rfl rfl (vs := [_, _]) rfl rfl) ?_
    refine ph_y (y_call en37 rfl (fun w hw => rbord_c _ _ s.shape p w (Rd.has (Has.rd hl) hw) (by assumption))) ?_
    refine ph_y (y_not rfl) ?_
    refine ph_y (y_move rfl) ?_
    refine ph_gF rfl rfl (fun hgd => by (try rw [hgd]); exact (y_fieldAddr fo26_1 rfl)) ?_
    refine ph_gF rfl rfl (fun hgd => by (try rw [hgd]); exact (y_loadB1 4 tf22 rfl rfl rfl)) ?_
    refine ph_gF rfl rfl (fun hgd => by (try rw [hgd]); exact (y_loadBA 2 tf24 rfl rfl (vs := [_, _]) rfl rfl)) ?_
    refine ph_gF rfl rfl (fun hgd => by (try rw [hgd]); exact (y_call (v := .bool (rbordB s.shape q)) en37 rfl (fun w hw => rbord_c _ _ s.shape q w (Rd.has (Has.rd hl) hw) (by assumption)))) ?_
    refine ph_gF rfl rfl (fun hgd => by (try rw [hgd]); exact (y_not rfl)) ?_
    refine ph_y (y_pickOr rfl rfl rfl) ?_
    refine gk_nil (gk_sub (T' := [(5,_), (6,_), (7,_), (8,_), (9,_), (10,_), (12,_), (13,_), (30,_)]) ⟨rfl, rfl, rfl, rfl, rfl, rfl, rfl, rfl, rfl, trivial⟩ ?_)
    refine gk_cond rfl (fun hc30 => ?_) (fun hc30 => ?_)
    · have hE : splitE s p q = 8 := split_none hck hgd hc30
      obtain ⟨hA, hB⟩ := split_bad hE (by decide)
      refine gk_region ?_
      refine gk_y rfl rfl (y_assign rfl) ?_
      refine gk_nil (gk_sub (T' := [(5,_), (6,_), (7,_), (8,_), (9,_), (10,_), (12,_), (13,_)]) ⟨rfl, rfl, rfl, rfl, rfl, rfl, rfl, rfl, trivial⟩ ?_)
      refine gk_seq ?_
      refine gk_region ?_
      refine gk_y rfl rfl (y_assign rfl) ?_
      refine gk_y rfl rfl (y_assign rfl) ?_
      refine gk_nil (gk_sub (T' := [(5,_), (6,_), (7,_), (8,_), (9,_), (10,_), (12,_), (13,_), (14,_), (15,_)]) ⟨rfl, rfl, rfl, rfl, rfl, rfl, rfl, rfl, rfl, rfl, trivial⟩ ?_)
      refine gk_seq ?_
      refine gk_seq ?_
      refine gk_region ?_
      refine gk_y rfl rfl (y_move rfl) ?_
      refine gk_y rfl rfl (y_eql rfl rfl) ?_
      refine gk_nil (gk_sub (T' := [(5,_), (6,_), (7,_), (8,_), (9,_), (10,_), (12,_), (13,_), (14,_), (15,_), (38,_)]) ⟨rfl, rfl, rfl, rfl, rfl, rfl, rfl, rfl, rfl, rfl, rfl, trivial⟩ ?_)
      refine gk_condF rfl ?_
      refine gk_skip ?_
      refine gk_seq ?_
      refine gk_seq ?_
      refine gk_region ?_
      refine gk_y rfl rfl (y_move rfl) ?_
      refine gk_y rfl rfl (y_neq rfl rfl) ?_
      refine gk_nil (gk_sub (T' := [(5,_), (6,_), (9,_), (10,_), (12,_), (13,_), (14,_), (15,_), (64,_)]) ⟨rfl, rfl, rfl, rfl, rfl, rfl, rfl, rfl, rfl, trivial⟩ ?_)
      refine gk_condT rfl ?_
      refine gk_seq ?_
      refine gk_any 12 (fun _ => mixed) (by kernel_rfl) ?_
      refine ph_y (y_move rfl) ?_
      refine ph_y (y_move rfl) ?_
      refine ph_y (y_eql rfl rfl) ?_
      refine ph_y (y_move rfl) ?_
      refine ph_gT rfl rfl (fun hgd => by (try rw [hgd]); exact (y_loadBA 1 tf34 rfl rfl (vs := [_, _, _, _, _, _]) rfl rfl)) ?_
      refine ph_gT rfl rfl (fun hgd => by (try rw [hgd]); exact (y_call (v := .bool (noneSB (splitA s p q))) en20 rfl (fun w hw => none_c _ _ (splitA s p q) w))) ?_
      refine ph_y (y_pickAnd rfl rfl rfl) ?_
      refine ph_y (y_move rfl) ?_
      refine ph_gT rfl rfl (fun hgd => by (try rw [hgd]); exact (y_loadBA 0 tf34 rfl rfl (vs := [_, _, _, _, _, _]) rfl rfl)) ?_
      refine ph_gT rfl rfl (fun hgd => by (try rw [hgd]); exact (y_call (v := .bool (noneSB (splitB s p q))) en20 rfl (fun w hw => none_c _ _ (splitB s p q) w))) ?_
      refine ph_y (y_pickAnd rfl rfl rfl) ?_
      refine ph_y (y_assign rfl) ?_
      refine gk_nil (gk_sub (T' := [(5,_), (6,_), (9,_), (10,_), (12,_), (14,_), (15,_)]) ⟨rfl, rfl, rfl, rfl, rfl, rfl, rfl, trivial⟩ ?_)
      refine gk_ret ?_
      refine gk_pure (rv_one rfl (r1_tmp rfl)) ?_
      exact congrArg Value.bool (by rw [hE, hA, hB]; decide +kernel)
    · obtain ⟨hep, heq⟩ := split_some hgd hc30
      refine gk_seq ?_
      refine gk_region ?_
      refine gk_y rfl rfl (y_fieldAddr fo26_1 rfl) ?_
      refine gk_y rfl rfl (y_loadB1 4 tf22 rfl rfl rfl) ?_
      refine gk_y rfl rfl (y_loadBA 3 tf24 rfl rfl (vs := [_, _]) rfl rfl) ?_
      refine gk_y rfl rfl (y_loadBA 2 tf24 rfl rfl (vs := [_, _]) rfl rfl) ?_
      refine gk_y rfl rfl (y_call en72 rfl (fun w hw => rapart_c _ _ s.shape p q w (Rd.has (Has.rd hl) hw) (by assumption))) ?_
      refine gk_y rfl rfl (y_not rfl) ?_
      refine gk_nil (gk_sub (T' := [(5,_), (6,_), (7,_), (8,_), (9,_), (10,_), (12,_), (13,_), (36,_)]) ⟨rfl, rfl, rfl, rfl, rfl, rfl, rfl, rfl, rfl, trivial⟩ ?_)
      refine gk_cond rfl (fun hc36 => ?_) (fun hc36 => ?_)
      · have hE : splitE s p q = 2 := split_close hck hgd hep heq (by simpa using hc36)
        obtain ⟨hA, hB⟩ := split_bad hE (by decide)
        refine gk_region ?_
        refine gk_y rfl rfl (y_assign rfl) ?_
        refine gk_nil (gk_sub (T' := [(5,_), (6,_), (7,_), (8,_), (9,_), (10,_), (12,_), (13,_)]) ⟨rfl, rfl, rfl, rfl, rfl, rfl, rfl, rfl, trivial⟩ ?_)
        refine gk_seq ?_
        refine gk_region ?_
        refine gk_y rfl rfl (y_assign rfl) ?_
        refine gk_y rfl rfl (y_assign rfl) ?_
        refine gk_nil (gk_sub (T' := [(5,_), (6,_), (7,_), (8,_), (9,_), (10,_), (12,_), (13,_), (14,_), (15,_)]) ⟨rfl, rfl, rfl, rfl, rfl, rfl, rfl, rfl, rfl, rfl, trivial⟩ ?_)
        refine gk_seq ?_
        refine gk_seq ?_
        refine gk_region ?_
        refine gk_y rfl rfl (y_move rfl) ?_
        refine gk_y rfl rfl (y_eql rfl rfl) ?_
        refine gk_nil (gk_sub (T' := [(5,_), (6,_), (7,_), (8,_), (9,_), (10,_), (12,_), (13,_), (14,_), (15,_), (38,_)]) ⟨rfl, rfl, rfl, rfl, rfl, rfl, rfl, rfl, rfl, rfl, rfl, trivial⟩ ?_)
        refine gk_condF rfl ?_
        refine gk_skip ?_
        refine gk_seq ?_
        refine gk_seq ?_
        refine gk_region ?_
        refine gk_y rfl rfl (y_move rfl) ?_
        refine gk_y rfl rfl (y_neq rfl rfl) ?_
        refine gk_nil (gk_sub (T' := [(5,_), (6,_), (9,_), (10,_), (12,_), (13,_), (14,_), (15,_), (64,_)]) ⟨rfl, rfl, rfl, rfl, rfl, rfl, rfl, rfl, rfl, trivial⟩ ?_)
        refine gk_condT rfl ?_
        refine gk_seq ?_
        refine gk_any 12 (fun _ => mixed) (by kernel_rfl) ?_
        refine ph_y (y_move rfl) ?_
        refine ph_y (y_move rfl) ?_
        refine ph_y (y_eql rfl rfl) ?_
        refine ph_y (y_move rfl) ?_
        refine ph_gT rfl rfl (fun hgd => by (try rw [hgd]); exact (y_loadBA 1 tf34 rfl rfl (vs := [_, _, _, _, _, _]) rfl rfl)) ?_
        refine ph_gT rfl rfl (fun hgd => by (try rw [hgd]); exact (y_call (v := .bool (noneSB (splitA s p q))) en20 rfl (fun w hw => none_c _ _ (splitA s p q) w))) ?_
        refine ph_y (y_pickAnd rfl rfl rfl) ?_
        refine ph_y (y_move rfl) ?_
        refine ph_gT rfl rfl (fun hgd => by (try rw [hgd]); exact (y_loadBA 0 tf34 rfl rfl (vs := [_, _, _, _, _, _]) rfl rfl)) ?_
        refine ph_gT rfl rfl (fun hgd => by (try rw [hgd]); exact (y_call (v := .bool (noneSB (splitB s p q))) en20 rfl (fun w hw => none_c _ _ (splitB s p q) w))) ?_
        refine ph_y (y_pickAnd rfl rfl rfl) ?_
        refine ph_y (y_assign rfl) ?_
        refine gk_nil (gk_sub (T' := [(5,_), (6,_), (9,_), (10,_), (12,_), (14,_), (15,_)]) ⟨rfl, rfl, rfl, rfl, rfl, rfl, rfl, trivial⟩ ?_)
        refine gk_ret ?_
        refine gk_pure (rv_one rfl (r1_tmp rfl)) ?_
        exact congrArg Value.bool (by rw [hE, hA, hB]; decide +kernel)
      · have hap : rapartB s.shape p q = true := by simpa using hc36
        obtain ⟨hRA, hRB, hla, hlb, hsa, hsb, hz⟩ := split_parts hck hgd hep heq hap
        refine gk_skip ?_
        refine gk_seq ?_
        refine gk_region ?_
        refine gk_y rfl rfl (y_assign rfl) ?_
        refine gk_y rfl rfl (y_assign rfl) ?_
        refine gk_nil (gk_sub (T' := [(5,_), (6,_), (7,_), (8,_), (9,_), (10,_), (12,_), (13,_), (14,_), (15,_)]) ⟨rfl, rfl, rfl, rfl, rfl, rfl, rfl, rfl, rfl, rfl, trivial⟩ ?_)
        refine gk_seq ?_
        refine gk_seq ?_
        refine gk_region ?_
        refine gk_y rfl rfl (y_move rfl) ?_
        refine gk_y rfl rfl (y_eql rfl rfl) ?_
        refine gk_nil (gk_sub (T' := [(5,_), (6,_), (7,_), (8,_), (9,_), (10,_), (12,_), (13,_), (14,_), (15,_), (38,_)]) ⟨rfl, rfl, rfl, rfl, rfl, rfl, rfl, rfl, rfl, rfl, rfl, trivial⟩ ?_)
        refine gk_condT rfl ?_
        refine gk_seq ?_
        refine gk_any 10 (fun _ => mixed) (by kernel_rfl) ?_
        refine ph_y (y_fieldAddr fo26_1 rfl) ?_
        refine ph_y (y_loadB1 4 tf22 rfl rfl rfl) ?_
        refine ph_y (y_loadBA 3 tf24 rfl rfl (vs := [_, _]) rfl rfl) ?_
        refine ph_y (y_loadBA 2 tf24 rfl rfl (vs := [_, _]) rfl rfl) ?_
        refine ph_yx (yx_call en33 rfl (fun w hw => left_c _ _ s.shape p q w (Rd.has (Has.rd hl) hw) (by assumption))) ?_
        refine ph_y (y_fieldAddr fo26_1 rfl) ?_
        refine ph_y (y_loadB1 4 tf22 rfl rfl rfl) ?_
        refine ph_y (y_loadBA 2 tf24 rfl rfl (vs := [_, _]) rfl rfl) ?_
        refine ph_y (y_loadBA 3 tf24 rfl rfl (vs := [_, _]) rfl rfl) ?_
        refine ph_yx (fun p43 => yx_call en33 rfl (fun w hw => left_c _ _ s.shape q p w (Rd.has (Has.rd hl) hw) (by assumption))) ?_
        intro p48
        intro p43
        refine gk_sub (T' := [(5,_), (6,_), (9,_), (10,_), (12,_), (13,_), (14,_), (15,_), (43,_), (48,_)]) ⟨rfl, rfl, rfl, rfl, rfl, rfl, rfl, rfl, rfl, rfl, trivial⟩ ?_
        refine gk_y rfl rfl (y_assign rfl) ?_
        refine gk_y rfl rfl (y_assign rfl) ?_
        refine gk_nil (gk_sub (T' := [(5,_), (6,_), (9,_), (10,_), (12,_), (13,_), (14,_), (15,_)]) ⟨rfl, rfl, rfl, rfl, rfl, rfl, rfl, rfl, trivial⟩ ?_)
        refine gk_seq ?_
        refine gk_any 14 (fun _ => mixed) (by kernel_rfl) ?_
        refine ph_y (y_fieldAddr fo26_0 rfl) ?_
        refine ph_y (y_loadB1 6 tf9 rfl rfl rfl) ?_
        refine ph_y (y_lenStr (Tryd.underlying9) rfl) ?_
        refine ph_y (y_eql rfl rfl) ?_
        refine ph_y (y_move rfl) ?_
        refine ph_gF rfl rfl (fun hgd => by (try rw [hgd]); exact (y_move rfl)) ?_
        refine ph_gF rfl rfl (fun hgd => by (try rw [hgd]); exact (y_lenS (Tryd.underlying22) rfl)) ?_
        refine ph_gF rfl rfl (fun hgd => by (try rw [hgd]); exact (y_gtr rfl rfl)) ?_
        refine ph_y (y_pickOr rfl rfl rfl) ?_
        refine ph_y (y_move rfl) ?_
        refine ph_gF rfl rfl (fun hgd => by (try rw [hgd]); exact (y_move rfl)) ?_
        refine ph_gF rfl rfl (fun hgd => by (try rw [hgd]); exact (y_lenS (Tryd.underlying22) rfl)) ?_
        refine ph_gF rfl rfl (fun hgd => by (try rw [hgd]); exact (y_gtr rfl rfl)) ?_
        refine ph_y (y_pickOr rfl rfl rfl) ?_
        refine gk_nil (gk_sub (T' := [(5,_), (6,_), (9,_), (10,_), (12,_), (13,_), (14,_), (15,_), (62,_)]) ⟨rfl, rfl, rfl, rfl, rfl, rfl, rfl, rfl, rfl, trivial⟩ ?_)
        refine gk_cond rfl (fun hc62 => ?_) (fun hc62 => ?_)
        · have hE : splitE s p q = 5 := hz.1 hc62
          obtain ⟨hA, hB⟩ := split_bad hE (by decide)
          refine gk_region ?_
          refine gk_y rfl rfl (y_assign rfl) ?_
          refine gk_nil (gk_sub (T' := [(5,_), (6,_), (9,_), (10,_), (12,_), (13,_), (14,_), (15,_)]) ⟨rfl, rfl, rfl, rfl, rfl, rfl, rfl, rfl, trivial⟩ ?_)
          refine gk_seq ?_
          refine gk_seq ?_
          refine gk_region ?_
          refine gk_y rfl rfl (y_move rfl) ?_
          refine gk_y rfl rfl (y_neq rfl rfl) ?_
          refine gk_nil (gk_sub (T' := [(5,_), (6,_), (9,_), (10,_), (12,_), (13,_), (14,_), (15,_), (64,_)]) ⟨rfl, rfl, rfl, rfl, rfl, rfl, rfl, rfl, rfl, trivial⟩ ?_)
          refine gk_condT rfl ?_
          refine gk_seq ?_
          refine gk_any 12 (fun _ => mixed) (by kernel_rfl) ?_
          refine ph_y (y_move rfl) ?_
          refine ph_y (y_move rfl) ?_
          refine ph_y (y_eql rfl rfl) ?_
          refine ph_y (y_move rfl) ?_
          refine ph_gT rfl rfl (fun hgd => by (try rw [hgd]); exact (y_loadBA 3 tf34 rfl rfl (vs := [_, _, _, _, _, _]) rfl rfl)) ?_
          refine ph_gT rfl rfl (fun hgd => by (try rw [hgd]); exact (y_call (v := .bool (noneSB (splitA s p q))) en20 rfl (fun w hw => none_c _ _ (splitA s p q) w))) ?_
          refine ph_y (y_pickAnd rfl rfl rfl) ?_
          refine ph_y (y_move rfl) ?_
          refine ph_gT rfl rfl (fun hgd => by (try rw [hgd]); exact (y_loadBA 2 tf34 rfl rfl (vs := [_, _, _, _, _, _]) rfl rfl)) ?_
          refine ph_gT rfl rfl (fun hgd => by (try rw [hgd]); exact (y_call (v := .bool (noneSB (splitB s p q))) en20 rfl (fun w hw => none_c _ _ (splitB s p q) w))) ?_
          refine ph_y (y_pickAnd rfl rfl rfl) ?_
          refine ph_y (y_assign rfl) ?_
          refine gk_nil (gk_sub (T' := [(5,_), (6,_), (9,_), (10,_), (12,_), (14,_), (15,_)]) ⟨rfl, rfl, rfl, rfl, rfl, rfl, rfl, trivial⟩ ?_)
          refine gk_ret ?_
          refine gk_pure (rv_one rfl (r1_tmp rfl)) ?_
          exact congrArg Value.bool (by rw [hE, hA, hB]; decide +kernel)
        · have hE : splitE s p q = 0 := hz.2 hc62
          obtain ⟨hA, hB⟩ := split_good hE
          have hna : s.name.size + (⟨#[97]⟩ : ByteArray).size ≤ 4096 := by have := check_named hck; change s.name.size + 1 ≤ _; omega
          have hnb : s.name.size + (⟨#[98]⟩ : ByteArray).size ≤ 4096 := hna
          have hSA : Small (splitA s p q).shape.length := by rw [hA]; exact hsa
          have hSB : Small (splitB s p q).shape.length := by rw [hB]; exact hsb
          refine gk_skip ?_
          refine gk_seq ?_
          refine gk_seq ?_
          refine gk_region ?_
          refine gk_y rfl rfl (y_move rfl) ?_
          refine gk_y rfl rfl (y_neq rfl rfl) ?_
          refine gk_nil (gk_sub (T' := [(5,_), (6,_), (9,_), (10,_), (12,_), (13,_), (14,_), (15,_), (64,_)]) ⟨rfl, rfl, rfl, rfl, rfl, rfl, rfl, rfl, rfl, trivial⟩ ?_)
          refine gk_condF rfl ?_
          refine gk_skip ?_
          refine gk_seq ?_
          refine gk_any 17 (fun _ => mixed) (by kernel_rfl) ?_
          refine ph_y (y_move rfl) ?_
          refine ph_y (y_castT (y_eql rfl rfl) (by exact decide_eq_true hE)) ?_
          refine ph_y (y_move rfl) ?_
          refine ph_gk rfl rfl (y_loadBA 3 tf34 rfl rfl (vs := [_, _, _, _, _, _]) rfl rfl) ?_
          refine ph_gk rfl rfl (y_loadBA 6 tf26 rfl rfl (vs := [_, _, _, _, _, _]) rfl rfl) ?_
          refine ph_gk rfl rfl (y_move rfl) ?_
          refine ph_gkx rfl rfl (yx_call en73 rfl (fun w hw => rpiece_c _ _ s _ _ _ (leftL s.shape p q) w (has_row encPt_ok (hw.has (p := 0) rfl)) (by first | assumption | (unfold Small; omega)) (by first | assumption | omega) (by first | exact hna | exact hnb))) ?_
          refine ph_gk rfl rfl (fun p82 => y_castT (b := (sameSB (splitA s p q) (rpieceS s (⟨#[97]⟩) (leftL s.shape p q)))) (y_call en21 rfl (fun w hw => same_c _ _ (splitA s p q) _ _ (rpieceS s (⟨#[97]⟩) (leftL s.shape p q)) w (Rd.has (Has.rd hl1) hw) (has_row encPt_ok (hw.has (p := 0) rfl)) (by first | assumption | omega))) (by exact same_of (hRA.trans hA.symm))) ?_
          refine ph_y (y_pick rfl rfl rfl) ?_
          refine ph_y (y_move rfl) ?_
          refine ph_gk rfl rfl (y_loadBA 2 tf34 rfl rfl (vs := [_, _, _, _, _, _]) rfl rfl) ?_
          refine ph_gk rfl rfl (y_loadBA 6 tf26 rfl rfl (vs := [_, _, _, _, _, _]) rfl rfl) ?_
          refine ph_gk rfl rfl (y_move rfl) ?_
          refine ph_gkx rfl rfl (yx_call en73 rfl (fun w hw => rpiece_c _ _ s _ _ _ (leftL s.shape q p) w (has_row encPt_ok (hw.has (p := 1) rfl)) (by first | assumption | (unfold Small; omega)) (by first | assumption | omega) (by first | exact hna | exact hnb))) ?_
          refine ph_gk rfl rfl (fun p89 => y_castT (b := (sameSB (splitB s p q) (rpieceS s (⟨#[98]⟩) (leftL s.shape q p)))) (y_call en21 rfl (fun w hw => same_c _ _ (splitB s p q) _ _ (rpieceS s (⟨#[98]⟩) (leftL s.shape q p)) w (Rd.has (Has.rd hl2) hw) (has_row encPt_ok (hw.has (p := 0) rfl)) (by first | assumption | omega))) (by exact same_of (hRB.trans hB.symm))) ?_
          refine ph_y (y_pick rfl rfl rfl) ?_
          refine ph_y (fun p89 p82 => y_assign rfl) ?_
          intro p89
          intro p82
          refine gk_nil (gk_sub (T' := [(12,_)]) ⟨rfl, trivial⟩ ?_)
          refine gk_ret ?_
          refine gk_pure (rv_one rfl (r1_tmp rfl)) ?_
          rfl

set_option maxRecDepth 100000 in
set_option maxHeartbeats 1000000 in
theorem StoneSplits_c (a : Option Addr) (cap : Nat) (s : Stn) (p q : Pt) (w : World) (hl : Has w (Pts a s.shape)) (hways : Has w (Elems (some ⟨0, 0, none⟩) 1 encVal [.func (.func 173) #[] #[], .func (.func 174) #[] #[], .func (.func 175) #[] #[], .func (.func 176) #[] #[]])) (hn : Fits s.name.size) :
    Calls Tryd.prog 6 #[.agg #[.string s.name, .slice a s.shape.length cap, .int .i64 s.depth, .int .i64 s.density, .int .i64 s.grain.x, .int .i64 s.grain.z], .agg #[.int .i64 p.x, .int .i64 p.z], .agg #[.int .i64 q.x, .int .i64 q.z]] w (Pure (.bool true) w) := by
  refine calls_of_gk (vs := [_, _, _]) Tryd.func6 rfl rfl (Nat.le_of_ble_eq_true rfl) ?_
  refine gk_seq ?_
  refine gk_region ?_
  refine gk_yx rfl rfl (yx_box (vs := [_, _, _, _, _, _]) rfl rfl) fun b3 => ?_
  refine gk_yx rfl rfl (yx_box (vs := [_, _]) rfl rfl) fun b4 => ?_
  refine gk_yx rfl rfl (yx_box (vs := [_, _]) rfl rfl) fun b5 => ?_
  refine gk_y rfl rfl (y_assign rfl) ?_
  refine gk_nil (gk_sub (T' := [(3,_), (4,_), (5,_), (6,_)]) ⟨rfl, rfl, rfl, rfl, trivial⟩ ?_)
  refine gk_seq ?_
  refine gk_seq ?_
  refine gk_region ?_
  refine gk_y rfl rfl (y_fieldAddr fo26_1 rfl) ?_
  refine gk_y rfl rfl (y_loadB1 2 tf22 rfl rfl rfl) ?_
  refine gk_y rfl rfl (y_lenS (Tryd.underlying22) rfl) ?_
  refine gk_y rfl rfl (y_gtr rfl rfl) ?_
  refine gk_nil (gk_sub (T' := [(3,_), (4,_), (5,_), (6,_), (14,_)]) ⟨rfl, rfl, rfl, rfl, rfl, trivial⟩ ?_)
  refine gk_cond rfl (fun hc14 => ?_) (fun hc14 => ?_)
  · skip
    refine gk_seq ?_
    refine gk_region ?_
    refine gk_y rfl rfl (y_call en15 rfl (fun w hw => wakes_c w (Rd.has (Has.rd hways) hw))) ?_
    refine gk_y rfl rfl (y_assign rfl) ?_
    refine gk_nil (gk_sub (T' := [(3,_), (4,_), (5,_), (6,_)]) ⟨rfl, rfl, rfl, rfl, trivial⟩ ?_)
    refine gk_ret ?_
    refine gk_pure (rv_one rfl (r1_tmp rfl)) ?_
    rfl
  · have hs : Small s.shape.length := by simp only [decide_eq_false_iff_not] at hc14; omega
    refine gk_skip ?_
    refine gk_seq ?_
    refine gk_region ?_
    refine gk_y rfl rfl (y_loadBA 2 tf26 rfl rfl (vs := [_, _, _, _, _, _]) rfl rfl) ?_
    refine gk_yx rfl rfl (yx_call en18 rfl (fun w hw => stone_c _ _ s w (Rd.has (Has.rd hl) hw) (by assumption))) fun p17 => ?_
    refine gk_yx rfl rfl (yx_alloc tf34 (zs := [_, _, _, _, _, _]) rfl) fun b7 => ?_
    refine gk_storeV 0 tf34 rfl rfl (vs := [_, _, _, _, _, _]) rfl rfl rfl rfl rfl ?_
    refine gk_nil (gk_sub (T' := [(3,_), (4,_), (5,_), (6,_), (7,_)]) ⟨rfl, rfl, rfl, rfl, rfl, trivial⟩ ?_)
    refine gk_seq ?_
    refine gk_region ?_
    refine gk_y rfl rfl (y_loadBA 0 tf34 rfl rfl (vs := [_, _, _, _, _, _]) rfl rfl) ?_
    refine gk_y rfl rfl (y_fieldAddr fo24_0 rfl) ?_
    refine gk_y rfl rfl (y_loadB1 3 tf3 rfl rfl rfl) ?_
    refine gk_y rfl rfl (y_fieldAddr fo24_1 rfl) ?_
    refine gk_y rfl rfl (y_loadB1 3 tf3 rfl rfl rfl) ?_
    refine gk_y rfl rfl (y_buildL rfl (bd32_0i_1i _ _)) ?_
    refine gk_y rfl rfl (y_fieldAddr fo24_0 rfl) ?_
    refine gk_y rfl rfl (y_loadB1 2 tf3 rfl rfl rfl) ?_
    refine gk_y rfl rfl (y_fieldAddr fo24_1 rfl) ?_
    refine gk_y rfl rfl (y_loadB1 2 tf3 rfl rfl rfl) ?_
    refine gk_y rfl rfl (y_buildL rfl (bd32_0i_1i _ _)) ?_
    refine gk_yx rfl rfl (yx_call en26 rfl (fun w hw => Split_c _ _ s p q w (has_row encPt_ok (hw.has (p := 1) rfl)) (by assumption))) fun p30 => gk_split ?_
    refine gk_y rfl rfl (y_move rfl) ?_
    refine gk_y rfl rfl (y_extract rfl rfl) ?_
    refine gk_y rfl rfl (y_extract rfl rfl) ?_
    refine gk_y rfl rfl (y_extract rfl rfl) ?_
    refine gk_yx rfl rfl (yx_alloc tf34 (zs := [_, _, _, _, _, _]) rfl) fun b8 => ?_
    refine gk_yx rfl rfl (yx_alloc tf34 (zs := [_, _, _, _, _, _]) rfl) fun b9 => ?_
    refine gk_storeV 1 tf34 rfl rfl (vs := [_, _, _, _, _, _]) rfl rfl rfl rfl rfl ?_
    refine gk_storeV 0 tf34 rfl rfl (vs := [_, _, _, _, _, _]) rfl rfl rfl rfl rfl ?_
    refine gk_y rfl rfl (y_assign rfl) ?_
    refine gk_nil (gk_sub (T' := [(3,_), (4,_), (5,_), (6,_), (7,_), (8,_), (9,_), (10,_)]) ⟨rfl, rfl, rfl, rfl, rfl, rfl, rfl, rfl, trivial⟩ ?_)
    refine gk_seq ?_
    refine gk_any 16 (fun _ => mixed) (by kernel_rfl) ?_
    refine ph_y (y_loadBA 8 tf26 rfl rfl (vs := [_, _, _, _, _, _]) rfl rfl) ?_
    refine ph_y (y_loadBA 7 tf24 rfl rfl (vs := [_, _]) rfl rfl) ?_
    refine ph_y (y_loadBA 6 tf24 rfl rfl (vs := [_, _]) rfl rfl) ?_
    refine ph_y (y_loadBA 1 tf34 rfl rfl (vs := [_, _, _, _, _, _]) rfl rfl) ?_
    refine ph_y (y_loadBA 0 tf34 rfl rfl (vs := [_, _, _, _, _, _]) rfl rfl) ?_
    refine ph_y (y_move rfl) ?_
    refine ph_y (y_call en27 rfl (fun w hw => cutright_c _ _ s p q _ _ _ _ w (Rd.has (Has.rd hl) hw) (by assumption) (has_row encPt_ok (hw.has (p := 2) rfl)) (has_row encPt_ok (hw.has (p := 3) rfl)) (by assumption))) ?_
    refine ph_y (y_move rfl) ?_
    refine ph_gk rfl rfl (y_loadBA 4 tf34 rfl rfl (vs := [_, _, _, _, _, _]) rfl rfl) ?_
    refine ph_gk rfl rfl (y_loadBA 8 tf26 rfl rfl (vs := [_, _, _, _, _, _]) rfl rfl) ?_
    refine ph_gk rfl rfl (y_castT (b := (sameSB s s)) (y_call en21 rfl (fun w hw => same_c _ _ s _ _ s w (has_row encPt_ok (hw.has (p := 5) rfl)) (Rd.has (Has.rd hl) hw) (by first | assumption | omega))) (by exact same_refl s)) ?_
    refine ph_y (y_pick rfl rfl rfl) ?_
    refine ph_y (y_move rfl) ?_
    refine ph_gk rfl rfl (y_call en15 rfl (fun w hw => wakes_c w (Rd.has (Has.rd hways) hw))) ?_
    refine ph_y (y_pick rfl rfl rfl) ?_
    refine ph_y (y_assign rfl) ?_
    refine gk_nil (gk_sub (T' := [(6,_)]) ⟨rfl, trivial⟩ ?_)
    refine gk_ret ?_
    refine gk_pure (rv_one rfl (r1_tmp rfl)) ?_
    rfl

end Go.Proofs.YtahahmelnaphjaaDoor
