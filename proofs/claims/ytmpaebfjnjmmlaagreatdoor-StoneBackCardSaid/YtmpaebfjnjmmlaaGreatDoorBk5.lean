/- What the proof of the root text leans on, part 5: the layer, plain facts and walks. No statement of the seat is proved in this text. -/
import Derived.Test.YtmpaebfjnjmmlaaGreatDoorBk4
namespace Go.Proofs.YtmpaebfjnjmmlaaGreatDoor
open Go.K Go.Stn Go.RowKit
theorem en41 : En Tryz.prog 41 := en_of Tryz.func41 (by kernel_rfl) (by kernel_rfl)
theorem en42 : En Tryz.prog 42 := en_of Tryz.func42 (by kernel_rfl) (by kernel_rfl)
theorem en43 : En Tryz.prog 43 := en_of Tryz.func43 (by kernel_rfl) (by kernel_rfl)
open Go.Txt
set_option maxRecDepth 100000 in
set_option maxHeartbeats 4000000 in
theorem parse_c (s : ByteArray) (w : World) (hiv : Has w (IntV 1)) (he3 : Has w (ErrV 3)) (he4 : Has w (ErrV 4)) (hp10 : Has w (VarR 2 pow10V)) :
    Calls Tryz.prog 17 #[.string s] w (Gives (fun z : {z : Option Addr × Nat × List SC // plainL z.2.2 = (parseP s).1} => .tuple #[.slice z.1.1 z.1.2.2.length z.1.2.1, .int .i64 (parseP s).2.1, .int .i64 (parseP s).2.2]) (fun z => SepR [Row z.1.1 6 z.1.2.1 52 encSC z.1.2.2, Shps 50 z.1.2.2]) w) := by
  refine calls_of_gk (vs := [_]) Tryz.func17 rfl rfl (Nat.le_of_ble_eq_true rfl) ?_
  refine gk_seq ?_
  refine gk_region ?_
  refine gk_y rfl rfl (y_assign rfl) ?_
  refine gk_y rfl rfl (y_assign rfl) ?_
  refine gk_y rfl rfl (y_assign rfl) ?_
  refine gk_nil (gk_sub (T' := [(0,_), (2,_), (3,_), (4,_)]) ⟨rfl, rfl, rfl, rfl, trivial⟩ ?_)
  refine gk_seq ?_
  refine gk_seq ?_
  refine gk_region ?_
  refine gk_y rfl rfl (y_move rfl) ?_
  refine gk_y rfl rfl (y_lenStr (Tryz.underlying9) rfl) ?_
  refine gk_y rfl rfl (y_gtr rfl rfl) ?_
  refine gk_nil (gk_sub (T' := [(0,_), (2,_), (3,_), (4,_), (11,_)]) ⟨rfl, rfl, rfl, rfl, rfl, trivial⟩ ?_)
  refine gk_cond rfl (fun hc11 => ?_) (fun hc11 => ?_)
  · have hP : parseP s = ([], 0, 5) := if_pos (of_decide_eq_true hc11)
    refine gk_newShps 50 ?_
    refine gk_newNil 52 encSC 6 ?_
    refine gk_pack 2 ?_
    refine gk_seq ?_
    refine gk_region ?_
    refine gk_y rfl rfl (y_assign rfl) ?_
    refine gk_y rfl rfl (y_assign rfl) ?_
    refine gk_y rfl rfl (y_assign rfl) ?_
    refine gk_nil (gk_sub (T' := [(0,_), (2,_), (3,_), (4,_)]) ⟨rfl, rfl, rfl, rfl, trivial⟩ ?_)
    refine gk_ret ?_
    refine gk_gives ⟨(none, 0, []), by rw [hP]; rfl⟩ 0 (rv_three rfl (r1_tmp rfl) (r1_tmp rfl) (r1_tmp rfl)) ?_ rfl
    show _ = Value.tuple #[.slice none 0 0, .int .i64 (parseP s).2.1, .int .i64 (parseP s).2.2]; rw [hP]; try rfl
  · have hsz : s.size ≤ 1000000 := by have := of_decide_eq_false hc11; omega
    have hP0 : parseP s = parseR (cutL 10 s.data.toList) 1 [] := if_neg (of_decide_eq_false hc11)
    refine gk_skip ?_
    refine gk_seq ?_
    refine gk_seq ?_
    refine gk_region ?_
    refine gk_y rfl rfl (y_assign rfl) ?_
    refine gk_nil (gk_sub (T' := [(0,_), (2,_), (3,_), (4,_), (5,_)]) ⟨rfl, rfl, rfl, rfl, rfl, trivial⟩ ?_)
    refine gk_block ?_
    refine gk_newNil 52 encSC 6 ?_
    refine gk_newShps 50 ?_
    refine gk_loop (X := ByteArray × Int × Option Addr × Nat × List SC) (fun ⟨t, n, b, bc, L⟩ => [(0, .string t), (2, .slice b L.length bc), (3, .int .i64 0), (4, .int .i64 0), (5, .int .i64 n)]) (fun ⟨t, n, b, bc, L⟩ => [Shps 50 L, Row b 6 bc 52 encSC L]) (fun ⟨t, n, b, bc, L⟩ => (parseR (cutL 10 t.data.toList) n (plainL L) = parseP s ∧ 1 ≤ n ∧ n + t.size ≤ s.size + 1 ∧ L.length ≤ 200)) (fun ⟨t, n, b, bc, L⟩ => t.size) (s, 1, none, 0, []) ⟨rfl, rfl, rfl, rfl, rfl, trivial⟩ rfl ?_ ?_
    · exact ⟨hP0.symm, by omega, by omega, by simp⟩
    · rintro ⟨t, n, b, bc, L⟩ hI
      obtain ⟨hPI, g1, g2, g3⟩ := hI
      refine gk_seq ?_
      refine gk_seq ?_
      refine gk_region ?_
      refine gk_y rfl rfl (y_move rfl) ?_
      refine gk_y rfl rfl (y_strNe rfl rfl) ?_
      refine gk_nil (gk_sub (T' := [(0,_), (2,_), (3,_), (4,_), (5,_), (13,_)]) ⟨rfl, rfl, rfl, rfl, rfl, rfl, trivial⟩ ?_)
      refine gk_cond rfl (fun hc13 => ?_) (fun hc13 => ?_)
      · have hrow := hPI.symm.trans (parse_row t n (plainL L))
        have hrs := rest_size hc13
        have hro := row_size t
        refine gk_skip ?_
        refine gk_seq ?_
        refine gk_block ?_
        refine gk_seq ?_
        refine gk_region ?_
        refine gk_y rfl rfl (y_assign rfl) ?_
        refine gk_nil (gk_sub (T' := [(0,_), (2,_), (3,_), (4,_), (5,_), (6,_)]) ⟨rfl, rfl, rfl, rfl, rfl, rfl, trivial⟩ ?_)
        refine gk_seq ?_
        refine gk_region ?_
        refine gk_y rfl rfl (y_move rfl) ?_
        refine gk_y rfl rfl (y_call en41 rfl (fun w hw => cut_c _ ⟨#[10]⟩ w (by omega) (Rd.has (Has.rd hiv) hw))) ?_
        refine gk_y rfl rfl (y_move rfl) ?_
        refine gk_y rfl rfl (y_extract rfl rfl) ?_
        refine gk_y rfl rfl (y_extract rfl rfl) ?_
        refine gk_y rfl rfl (y_extract rfl rfl) ?_
        refine gk_y rfl rfl (y_assign rfl) ?_
        refine gk_y rfl rfl (y_assign rfl) ?_
        refine gk_nil (gk_sub (T' := [(0,_), (2,_), (3,_), (4,_), (5,_), (6,_)]) ⟨rfl, rfl, rfl, rfl, rfl, rfl, trivial⟩ ?_)
        refine gk_sub (T' := [(0, .string (restL t)), (2,_), (3,_), (4,_), (5,_), (6, .string (rowL t))]) ⟨(by rfl), rfl, rfl, rfl, rfl, (by rfl), trivial⟩ ?_
        refine gk_seq ?_
        refine gk_seq ?_
        refine gk_region ?_
        refine gk_y rfl rfl (y_move rfl) ?_
        refine gk_y rfl rfl (y_strEq rfl rfl) ?_
        refine gk_nil (gk_sub (T' := [(0,_), (2,_), (3,_), (4,_), (5,_), (6,_), (23,_)]) ⟨rfl, rfl, rfl, rfl, rfl, rfl, rfl, trivial⟩ ?_)
        refine gk_cond rfl (fun hc23 => ?_) (fun hc23 => ?_)
        · skip
          refine gk_exit rfl ?_
          refine gk_region ?_
          refine gk_y rfl rfl (y_move rfl) ?_
          refine gk_y rfl rfl (y_addI rfl rfl (by omega) (by omega)) ?_
          refine gk_y rfl rfl (y_assign rfl) ?_
          refine gk_nil (gk_sub (T' := [(0,_), (2,_), (3,_), (4,_), (5,_)]) ⟨rfl, rfl, rfl, rfl, rfl, trivial⟩ ?_)
          exact gk_next (restL t, n + 1, b, bc, L) ⟨rfl, rfl, rfl, rfl, rfl, trivial⟩ rfl ⟨(hrow.trans (p_nil hc23)).symm, by omega, by omega, g3⟩ (by simp only []; omega)
        · skip
          refine gk_skip ?_
          refine gk_seq ?_
          refine gk_region ?_
          refine gk_y rfl rfl (y_move rfl) ?_
          refine gk_yx rfl rfl (yx_call en42 rfl (fun w hw => read_c _ w (by omega) (Rd.has (Has.rd hiv) hw) (Rd.has (Has.rd he3) hw) (Rd.has (Has.rd he4) hw) (Rd.has (Has.rd hp10) hw))) fun p26 => ?_
          refine gk_y rfl rfl (y_move rfl) ?_
          refine gk_y rfl rfl (y_extract rfl rfl) ?_
          refine gk_y rfl rfl (y_extract rfl rfl) ?_
          refine gk_yx rfl rfl (yx_alloc tf52 (zs := [_, _, _, _, _, _]) rfl) fun b7 => ?_
          refine gk_storeV 0 tf52 rfl rfl (vs := [_, _, _, _, _, _]) rfl rfl rfl rfl rfl ?_
          refine gk_y rfl rfl (y_assign rfl) ?_
          refine gk_nil (gk_sub (T' := [(0,_), (2,_), (3,_), (4,_), (5,_), (7,_), (8,_)]) ⟨rfl, rfl, rfl, rfl, rfl, rfl, rfl, trivial⟩ ?_)
          refine gk_seq ?_
          refine gk_block ?_
          refine gk_seq ?_
          refine gk_region ?_
          refine gk_y rfl rfl (y_move rfl) ?_
          refine gk_y rfl rfl (y_lenS (Tryz.underlying29) rfl) ?_
          refine gk_y rfl rfl (y_eql rfl rfl) ?_
          refine gk_y rfl rfl (y_assign rfl) ?_
          refine gk_nil (gk_sub (T' := [(0,_), (2,_), (3,_), (4,_), (5,_), (7,_), (8,_), (29,_)]) ⟨rfl, rfl, rfl, rfl, rfl, rfl, rfl, rfl, trivial⟩ ?_)
          refine gk_cond rfl (fun hc29 => ?_) (fun hc29 => ?_)
          · have hP := hrow.trans (p_full hc23 (by rw [List.length_map]; have := of_decide_eq_true hc29; omega))
            refine gk_newShps 50 ?_
            refine gk_newNil 52 encSC 6 ?_
            refine gk_pack 2 ?_
            refine gk_seq ?_
            refine gk_region ?_
            refine gk_y rfl rfl (y_move rfl) ?_
            refine gk_y rfl rfl (y_assign rfl) ?_
            refine gk_y rfl rfl (y_assign rfl) ?_
            refine gk_y rfl rfl (y_assign rfl) ?_
            refine gk_nil (gk_sub (T' := [(0,_), (2,_), (3,_), (4,_), (5,_), (7,_)]) ⟨rfl, rfl, rfl, rfl, rfl, rfl, trivial⟩ ?_)
            refine gk_ret ?_
            refine gk_gives ⟨(none, 0, []), by rw [hP]; rfl⟩ 0 (rv_three rfl (r1_tmp rfl) (r1_tmp rfl) (r1_tmp rfl)) ?_ rfl
            show _ = Value.tuple #[.slice none 0 0, .int .i64 (parseP s).2.1, .int .i64 (parseP s).2.2]; rw [hP]; try rfl
          · have hl2 : ¬ (plainL L).length = 200 := by rw [List.length_map]; have := of_decide_eq_false hc29; omega
            have hl3 : ¬ L.length = 200 := by have := of_decide_eq_false hc29; omega
            refine gk_seq ?_
            refine gk_region ?_
            refine gk_y rfl rfl (y_move rfl) ?_
            refine gk_y rfl rfl (y_not rfl) ?_
            refine gk_y rfl rfl (y_assign rfl) ?_
            refine gk_nil (gk_sub (T' := [(0,_), (2,_), (3,_), (4,_), (5,_), (7,_), (34,_)]) ⟨rfl, rfl, rfl, rfl, rfl, rfl, rfl, trivial⟩ ?_)
            refine gk_cond rfl (fun hc34 => ?_) (fun hc34 => ?_)
            · have hP := hrow.trans (p_bad hc23 hl2 (by simpa using hc34))
              refine gk_newShps 50 ?_
              refine gk_newNil 52 encSC 6 ?_
              refine gk_pack 2 ?_
              refine gk_seq ?_
              refine gk_region ?_
              refine gk_y rfl rfl (y_move rfl) ?_
              refine gk_y rfl rfl (y_assign rfl) ?_
              refine gk_y rfl rfl (y_assign rfl) ?_
              refine gk_y rfl rfl (y_assign rfl) ?_
              refine gk_nil (gk_sub (T' := [(0,_), (2,_), (3,_), (4,_), (5,_), (7,_)]) ⟨rfl, rfl, rfl, rfl, rfl, rfl, trivial⟩ ?_)
              refine gk_ret ?_
              refine gk_gives ⟨(none, 0, []), by rw [hP]; rfl⟩ 0 (rv_three rfl (r1_tmp rfl) (r1_tmp rfl) (r1_tmp rfl)) ?_ rfl
              show _ = Value.tuple #[.slice none 0 0, .int .i64 (parseP s).2.1, .int .i64 (parseP s).2.2]; rw [hP]; try rfl
            · have hok : readOk (splitL (rowL t) 32) = true := by simpa using hc34
              refine gk_seq ?_
              refine gk_region ?_
              refine gk_y rfl rfl (y_loadBA 0 tf52 rfl rfl (vs := [_, _, _, _, _, _]) rfl rfl) ?_
              refine gk_y rfl rfl (y_call en38 rfl (fun w hw => check_c _ _ (readS (splitL (rowL t) 32)) w (has_row encPt_ok (hw.has (p := 1) rfl)) (by have := readS_len (splitL (rowL t) 32); have := (split_num (rowL t) 32).2; unfold Small; omega))) ?_
              refine gk_y rfl rfl (y_neq rfl rfl) ?_
              refine gk_y rfl rfl (y_assign rfl) ?_
              refine gk_nil (gk_sub (T' := [(0,_), (2,_), (3,_), (4,_), (5,_), (7,_), (38,_)]) ⟨rfl, rfl, rfl, rfl, rfl, rfl, rfl, trivial⟩ ?_)
              refine gk_cond rfl (fun hc38 => ?_) (fun hc38 => ?_)
              · have hP := hrow.trans (p_check hc23 hl2 hok (by simpa using hc38))
                refine gk_newShps 50 ?_
                refine gk_newNil 52 encSC 6 ?_
                refine gk_pack 2 ?_
                refine gk_seq ?_
                refine gk_region ?_
                refine gk_y rfl rfl (y_move rfl) ?_
                refine gk_y rfl rfl (y_assign rfl) ?_
                refine gk_y rfl rfl (y_assign rfl) ?_
                refine gk_y rfl rfl (y_assign rfl) ?_
                refine gk_nil (gk_sub (T' := [(0,_), (2,_), (3,_), (4,_), (5,_), (7,_)]) ⟨rfl, rfl, rfl, rfl, rfl, rfl, trivial⟩ ?_)
                refine gk_ret ?_
                refine gk_gives ⟨(none, 0, []), by rw [hP]; rfl⟩ 0 (rv_three rfl (r1_tmp rfl) (r1_tmp rfl) (r1_tmp rfl)) ?_ rfl
                show _ = Value.tuple #[.slice none 0 0, .int .i64 (parseP s).2.1, .int .i64 (parseP s).2.2]; rw [hP]; try rfl
              · have hck : checkI (readS (splitL (rowL t) 32)) = 0 := by simpa using hc38
                refine gk_seq ?_
                refine gk_region ?_
                refine gk_y rfl rfl (y_move rfl) ?_
                refine gk_y rfl rfl (y_makeFunc («as» := []) (bs := [_]) rfl rfl) ?_
                refine gk_y rfl rfl (y_call en43 rfl (fun w hw => containsfuncS_c _ _ L (fun z : SC => z.s.name.toList == (readS (splitL (rowL t) 32)).name.toList) 44 [.pointer (some ⟨b7, 0, none⟩)] w (has_row encSC_ok (hw.has (p := 3) rfl)) (by unfold Small; omega) (fun w' => Has w' (Box b7 [.string (⟨readS (splitL (rowL t) 32), p26.1, p26.2⟩ : SC).s.name, .slice (⟨readS (splitL (rowL t) 32), p26.1, p26.2⟩ : SC).a (⟨readS (splitL (rowL t) 32), p26.1, p26.2⟩ : SC).s.shape.length (⟨readS (splitL (rowL t) 32), p26.1, p26.2⟩ : SC).cap, .int .i64 (⟨readS (splitL (rowL t) 32), p26.1, p26.2⟩ : SC).s.depth, .int .i64 (⟨readS (splitL (rowL t) 32), p26.1, p26.2⟩ : SC).s.density, .int .i64 (⟨readS (splitL (rowL t) 32), p26.1, p26.2⟩ : SC).s.grain.x, .int .i64 (⟨readS (splitL (rowL t) 32), p26.1, p26.2⟩ : SC).s.grain.z] 52)) (fun w' hx => Has.ext (hw.has (p := 0) rfl) hx) en44s (fun z w' hm => parse1_c z (⟨readS (splitL (rowL t) 32), p26.1, p26.2⟩ : SC) b7 w' hm))) ?_
                refine gk_y rfl rfl (y_assign rfl) ?_
                refine gk_nil (gk_sub (T' := [(0,_), (2,_), (3,_), (4,_), (5,_), (7,_), (43,_)]) ⟨rfl, rfl, rfl, rfl, rfl, rfl, rfl, trivial⟩ ?_)
                refine gk_cond rfl (fun hc43 => ?_) (fun hc43 => ?_)
                · have hP := hrow.trans (p_twice hc23 hl2 hok hck ((any_plain L _).trans hc43))
                  refine gk_newShps 50 ?_
                  refine gk_newNil 52 encSC 6 ?_
                  refine gk_pack 2 ?_
                  refine gk_seq ?_
                  refine gk_region ?_
                  refine gk_y rfl rfl (y_move rfl) ?_
                  refine gk_y rfl rfl (y_assign rfl) ?_
                  refine gk_y rfl rfl (y_assign rfl) ?_
                  refine gk_y rfl rfl (y_assign rfl) ?_
                  refine gk_nil (gk_sub (T' := [(0,_), (2,_), (3,_), (4,_), (5,_), (7,_)]) ⟨rfl, rfl, rfl, rfl, rfl, rfl, trivial⟩ ?_)
                  refine gk_ret ?_
                  refine gk_gives ⟨(none, 0, []), by rw [hP]; rfl⟩ 0 (rv_three rfl (r1_tmp rfl) (r1_tmp rfl) (r1_tmp rfl)) ?_ rfl
                  show _ = Value.tuple #[.slice none 0 0, .int .i64 (parseP s).2.1, .int .i64 (parseP s).2.2]; rw [hP]; try rfl
                · skip
                  refine gk_skip ?_
                  refine gk_region ?_
                  refine gk_y rfl rfl (y_move rfl) ?_
                  refine gk_y rfl rfl (y_loadBA 0 tf52 rfl rfl (vs := [_, _, _, _, _, _]) rfl rfl) ?_
                  refine gk_yx rfl rfl (yx_buildSlice rfl (bs29_1 (⟨readS (splitL (rowL t) 32), p26.1, p26.2⟩ : SC)) encSC_ok rfl) fun b50 => ?_
                  refine gk_append (m := [(⟨readS (splitL (rowL t) 32), p26.1, p26.2⟩ : SC)]) 4 af29 encSC_ok rfl rfl rfl rfl (fun _ hw => (has_row encSC_ok (hw.has (p := 0) rfl))) (by first | omega | (simp only [List.length_cons, List.length_nil]; omega)) (by first | (unfold maxLen; omega) | (simp only [List.length_cons, List.length_nil, maxLen]; omega)) fun a51 c51 => ?_
                  refine gk_y rfl rfl (y_assign rfl) ?_
                  refine gk_nil (gk_sub (T' := [(0,_), (2,_), (3,_), (4,_), (5,_)]) ⟨rfl, rfl, rfl, rfl, rfl, trivial⟩ ?_)
                  refine gk_dropAt 1 rfl ?_
                  refine gk_front 1 rfl ?_
                  refine gk_front 2 rfl ?_
                  refine gk_pack 2 ?_
                  refine gk_conv (R' := Shps 50 (L ++ [(⟨readS (splitL (rowL t) 32), p26.1, p26.2⟩ : SC)])) 0 rfl (fun B w hA => shps_snoc (z := (⟨readS (splitL (rowL t) 32), p26.1, p26.2⟩ : SC)) hA) ?_
                  refine gk_front 2 rfl ?_
                  refine gk_front 1 rfl ?_
                  refine gk_region ?_
                  refine gk_y rfl rfl (y_move rfl) ?_
                  refine gk_y rfl rfl (y_addI rfl rfl (by omega) (by omega)) ?_
                  refine gk_y rfl rfl (y_assign rfl) ?_
                  refine gk_nil (gk_sub (T' := [(0,_), (2,_), (3,_), (4,_), (5,_)]) ⟨rfl, rfl, rfl, rfl, rfl, trivial⟩ ?_)
                  refine gk_dropAt 2 rfl ?_
                  exact gk_next (restL t, n + 1, a51, c51, L ++ [(⟨readS (splitL (rowL t) 32), p26.1, p26.2⟩ : SC)]) ⟨rfl, rfl, rfl, rfl, rfl, trivial⟩ rfl ⟨(hrow.trans ((p_ok hc23 hl2 hok hck ((any_plain L _).trans hc43)).trans (by rw [plain_one]))).symm, by omega, by omega, by simp; omega⟩ (by simp only []; omega)
      · have hP : parseP s = (plainL L, 0, 0) := hPI.symm.trans (text_end hc13 n _)
        refine gk_exit rfl ?_
        refine gk_seq ?_
        refine gk_region ?_
        refine gk_y rfl rfl (y_move rfl) ?_
        refine gk_y rfl rfl (y_assign rfl) ?_
        refine gk_y rfl rfl (y_assign rfl) ?_
        refine gk_y rfl rfl (y_assign rfl) ?_
        refine gk_nil (gk_sub (T' := [(2,_), (3,_), (4,_)]) ⟨rfl, rfl, rfl, trivial⟩ ?_)
        refine gk_front 1 rfl ?_
        refine gk_pack 2 ?_
        refine gk_ret ?_
        refine gk_gives ⟨(b, bc, L), by rw [hP]⟩ 0 (rv_three rfl (r1_tmp rfl) (r1_tmp rfl) (r1_tmp rfl)) ?_ rfl
        show _ = Value.tuple #[.slice b L.length bc, .int .i64 (parseP s).2.1, .int .i64 (parseP s).2.2]; rw [hP]; try rfl
end Go.Proofs.YtmpaebfjnjmmlaaGreatDoor

namespace Go.Proofs.YtmpaebfjnjmmlaaGreatDoor
open Go.K Go.Stn Go.RowKit
theorem en17 : En Tryz.prog 17 := en_of Tryz.func17 (by kernel_rfl) (by kernel_rfl)
end Go.Proofs.YtmpaebfjnjmmlaaGreatDoor

namespace Go.Stn
open Go Go.K Go.RowKit Go.Proofs Go.Txt
theorem dec_len : ∀ (k u : Nat), u < 10 ^ (k + 1) → (Lib.decDigits u).length ≤ k + 1
  | 0, u, h => by rw [Lib.decDigits, dif_pos (by simpa using h)]; simp
  | k + 1, u, h => by
    rw [Lib.decDigits]
    split
    · simp
    · have := dec_len k (u / 10) (by rw [Nat.pow_succ] at h; omega)
      simp; omega
theorem itoa_six {n : Int} (h : -10000 ≤ n ∧ n ≤ 10000) : (Lib.itoa n).length ≤ 6 := by
  unfold Lib.itoa
  have e5 : (10 : Nat) ^ (4 + 1) = 100000 := rfl
  split
  · have := dec_len 4 n.natAbs (by omega); simp; omega
  · have := dec_len 4 n.toNat (by omega); omega
theorem itoa_clean (n : Int) : ∀ c ∈ Lib.itoa n, c ≠ 32 ∧ c ≠ 10 := fun c hc => by
  have key : ∀ u, c ∈ Lib.decDigits u → c ≠ 32 ∧ c ≠ 10 := fun u hu => by
    have := (dec_spec u).1 c hu
    unfold isDig at this
    exact ⟨fun e => by subst e; have e32 : (32 : UInt8).toNat = 32 := rfl; omega, fun e => by subst e; have e10 : (10 : UInt8).toNat = 10 := rfl; omega⟩
  unfold Lib.itoa at hc
  split at hc
  · rcases List.mem_cons.1 hc with rfl | hc
    · decide
    · exact key _ hc
  · exact key _ hc
theorem name_clean {s : Stn} (h : checkI s = 0) : (∀ c ∈ s.name.data.toList, c ≠ 32 ∧ c ≠ 10) ∧ ¬ s.name.data.toList = [] := by
  have h3 := check_good h
  unfold badB at h3
  simp only [Bool.or_eq_false_iff, Bool.not_eq_false'] at h3
  have h4 : rnamedB s.name = true := by rw [← named_eq]; exact h3.1.1.1.1
  unfold rnamedB at h4
  simp only [Bool.and_eq_true, decide_eq_true_eq] at h4
  refine ⟨fun c hc => ?_, fun e => ?_⟩
  · obtain ⟨k, hk, rfl⟩ := List.getElem_of_mem hc
    have := allI_iff.1 h4.1 k (by rw [size_data]; exact hk)
    rw [byteI_list, Int.toNat_natCast, List.getElem?_eq_getElem hk] at this
    refine ⟨fun e => ?_, fun e => ?_⟩
    · rw [e] at this; exact absurd this (by decide)
    · rw [e] at this; exact absurd this (by decide)
  · have := size_data s.name
    rw [e, List.length_nil] at this
    omega
def bodyL (s : Stn) : List UInt8 := s.name.data.toList ++ wordsL (numsL s)
theorem body_ten {s : Stn} (h : checkI s = 0) : ∀ c ∈ bodyL s, c ≠ 10 := fun c hc => by
  rcases List.mem_append.1 hc with hc | hc
  · exact ((name_clean h).1 c hc).2
  · obtain ⟨n, _, hc⟩ := List.mem_flatMap.1 hc
    rcases List.mem_cons.1 hc with rfl | hc
    · decide
    · exact (itoa_clean n c hc).2
theorem cut_words : ∀ (ns : List Int) (p : List UInt8), (∀ c ∈ p, c ≠ 32) → cutL 32 (p ++ wordsL ns) = p :: ns.map Lib.itoa
  | [], p, h => by
    rw [show wordsL [] = [] from rfl, List.append_nil, cutL_end h]; rfl
  | n :: r, p, h => by
    rw [show wordsL (n :: r) = 32 :: (Lib.itoa n ++ wordsL r) from rfl, cutL_hit h, cut_words r _ (fun c hc => (itoa_clean n c hc).1)]; rfl
theorem body_words {s : Stn} (h : checkI s = 0) : splitL (mkB (bodyL s)) 32 = s.name :: (numsL s).map itoaB := by
  refine words_eq ?_
  rw [splitL_data]
  show cutL 32 (bodyL s) = _
  rw [bodyL, cut_words _ _ (fun c hc => ((name_clean h).1 c hc).1), List.map_cons, List.map_map]
  congr 1
theorem itoa_num {n : Int} (h : -10000 ≤ n ∧ n ≤ 10000) : numI (itoaB n) = n ∧ numB (itoaB n) = true :=
  num_some ((numL_iff _ _).2 ⟨by rw [data_itoa]; exact itoa_six h, data_itoa n⟩)
theorem flat_get (l : List Pt) : ∀ i, i < l.length → (l.flatMap fun p => [p.x, p.z]).getD (2 * i) default = (l.getD i default).x ∧ (l.flatMap fun p => [p.x, p.z]).getD (2 * i + 1) default = (l.getD i default).z := by
  induction l with
  | nil => intro i h; simp at h
  | cons p r ih =>
    intro i hi
    cases i with
    | zero => exact ⟨rfl, rfl⟩
    | succ i =>
      have := ih i (by simpa using hi)
      rw [show 2 * (i + 1) = 2 * i + 1 + 1 from by omega]
      exact this
theorem pts_back (s : Stn) : ptsN (numsL s) s.shape.length = s.shape := by
  apply List.ext_getElem
  · rw [ptsN_len]
  · intro i h1 h2
    have h := flat_get s.shape i h2
    rw [show (ptsN (numsL s) s.shape.length)[i] = (⟨(numsL s).getD (4 + 2 * i) default, (numsL s).getD (5 + 2 * i) default⟩ : Pt) from by simp [ptsN]]
    have e : ∀ j, (numsL s).getD (4 + j) default = (s.shape.flatMap fun p => [p.x, p.z]).getD j default := fun j => by
      rw [show 4 + j = j + 1 + 1 + 1 + 1 from by omega]; rfl
    rw [e, show 5 + 2 * i = 4 + (2 * i + 1) from by omega, e, h.1, h.2]
    rw [show s.shape.getD i default = s.shape[i] from by simp [h2]]
theorem body_read {s : Stn} (h : checkI s = 0) : readOk (splitL (mkB (bodyL s)) 32) = true ∧ readS (splitL (mkB (bodyL s)) 32) = s := by
  rw [body_words h]
  have hl := check_len h
  have hnl := numsL_len s
  have hnums := check_nums h
  have hmap : ((numsL s).map itoaB).map numI = numsL s := by
    rw [List.map_map]
    conv => rhs; rw [← List.map_id (numsL s)]
    exact List.map_congr_left fun n hn => (itoa_num (hnums n hn)).1
  have hok : readOk (s.name :: (numsL s).map itoaB) = true := by
    unfold readOk wordBad
    rw [Bool.and_eq_true]
    refine ⟨?_, ?_⟩
    · have hlen : (s.name :: (numsL s).map itoaB).length = 5 + 2 * s.shape.length := by simp [hnl]; omega
      rw [hlen, Int.tmod_eq_emod_of_nonneg (Int.natCast_nonneg _)]
      have e1 : decide (((5 + 2 * s.shape.length : Nat) : Int) < 11) = false := decide_eq_false (by omega)
      have e2 : decide (((5 + 2 * s.shape.length : Nat) : Int) % 2 = 0) = false := decide_eq_false (by omega)
      rw [e1, e2, Lib.toList_data, Lib.toList_data]
      have := (name_clean h).2
      simpa using this
    · rw [List.all_eq_true]
      intro x hx
      obtain ⟨n, hn, rfl⟩ := List.mem_map.1 (show x ∈ (numsL s).map itoaB from hx)
      exact (itoa_num (hnums n hn)).2
  refine ⟨hok, ?_⟩
  unfold readS readW
  rw [if_pos hok]
  show (⟨s.name, ptsN (((numsL s).map itoaB).map numI) _, (((numsL s).map itoaB).map numI).getD 0 default, (((numsL s).map itoaB).map numI).getD 1 default, ⟨(((numsL s).map itoaB).map numI).getD 2 default, (((numsL s).map itoaB).map numI).getD 3 default⟩⟩ : Stn) = s
  rw [hmap, show ((((s.name :: (numsL s).map itoaB).length : Int) - 5) / 2).toNat = s.shape.length from by
    have : (s.name :: (numsL s).map itoaB).length = 5 + 2 * s.shape.length := by simp [hnl]; omega
    rw [this]; omega, pts_back]
  rfl
theorem cut_print : ∀ (L : List SC), (∀ z ∈ L, checkI z.s = 0) → cutL 10 (printL L) = (L.map fun z => bodyL z.s) ++ [[]]
  | [], _ => rfl
  | z :: r, h => by
    rw [show printL (z :: r) = bodyL z.s ++ 10 :: printL r from by unfold printL bodyL lineL; simp [List.flatMap_cons], cutL_hit (body_ten (h z (by simp))), cut_print r (fun y hy => h y (by simp [hy]))]; rfl
theorem body_ne {s : Stn} (h : checkI s = 0) : ((mkB (bodyL s)).toList == (⟨#[]⟩ : ByteArray).toList) = false := by
  rw [Lib.toList_data, Lib.toList_data]
  have := (name_clean h).2
  unfold bodyL
  cases hn : s.name.data.toList with
  | nil => exact absurd hn this
  | cons c r => simp
theorem parse_print : ∀ (r acc : List SC) (n : Int), (acc ++ r).length ≤ 200 → (∀ z ∈ acc ++ r, checkI z.s = 0) → Apart (acc ++ r) → parseR ((r.map fun z => bodyL z.s) ++ [[]]) n (plainL acc) = (plainL (acc ++ r), 0, 0)
  | [], acc, n, _, _, _ => by rw [List.append_nil]; rfl
  | z :: r, acc, n, hl, hc, ha => by
    have hz := hc z (by simp)
    have hb := body_read hz
    have e := p_ok (row := mkB (bodyL z.s)) (rest := (r.map fun z => bodyL z.s) ++ [[]]) (n := n) (acc := plainL acc) (body_ne hz) (by rw [List.length_map]; simp at hl; omega) hb.1 (by rw [hb.2]; exact hz) (by
      rw [hb.2, any_plain, List.any_eq_false]
      intro y hy hyz
      have := List.pairwise_append.1 ha
      have h2 := this.2.2 y hy z (by simp)
      exact h2 (Go.WideShapes.bytes_inj (by simpa [Lib.toList_data] using hyz)))
    refine Eq.trans (show parseR ((mkB (bodyL z.s)).data.toList :: ((r.map fun z => bodyL z.s) ++ [[]])) n (plainL acc) = _ from e) ?_
    have ih := parse_print r (acc ++ [z]) (n + 1) (by rw [List.append_assoc]; exact hl) (by rw [List.append_assoc]; exact hc) (by rw [List.append_assoc]; exact ha)
    rw [hb.2]
    rw [List.append_assoc] at ih
    rw [show plainL acc ++ [z.s] = plainL (acc ++ [z]) from by simp]
    exact ih
theorem parse_back {L : List SC} (h : heapI L = 0) (hl : L.length ≤ 12) : parseP ((⟨#[10]⟩ : ByteArray) ++ bs (printL L)) = (plainL L, 0, 0) := by
  have hc := (heap_checks h).1
  have hp := print_le hc
  have hd : ((⟨#[10]⟩ : ByteArray) ++ bs (printL L)).data.toList = 10 :: printL L := by rw [data_app]; rfl
  unfold parseP
  rw [if_neg (by rw [size_data, hd, List.length_cons]; omega), hd, show cutL 10 (10 :: printL L) = [] :: cutL 10 (printL L) from rfl, cut_print L hc]
  show parseR ((L.map fun z => bodyL z.s) ++ [[]]) (1 + 1) (plainL []) = _
  exact parse_print L [] _ (by simp; omega) (by simpa using hc) (by simpa using heap_names h)
end Go.Stn

namespace Go.Proofs.YtmpaebfjnjmmlaaGreatDoor
open Go.K Go.Stn Go.RowKit
abbrev Bigs (n : Nat) : Prop := n ≤ 8796093022208
theorem rconvex_smallA {l : List Pt} (h : rconvexB l = true) : Small l.length := by
  unfold rconvexB at h
  rw [Bool.and_eq_true, Bool.not_eq_true'] at h
  have := rconvex_len h.1
  unfold Small; omega
theorem rconvex_smallB {l : List Pt} {b : Bool} (h : (rconvexB l && b) = true) : Small l.length := rconvex_smallA (Bool.and_eq_true_iff.1 h).1
theorem small_of {n : Nat} (h : 3 ≤ n ∧ n ≤ 12) : Small n := by unfold Small; omega
set_option maxRecDepth 100000 in
set_option maxHeartbeats 1000000 in
theorem rconvexX_c (a : Option Addr) (cap : Nat) (l : List Pt) (w : World) (hl : Has w (Pts a l)) (hs : Bigs l.length) :
    Calls Tryz.prog 111 #[.slice a l.length cap] w (Pure (.bool (rconvexB l)) w) := by
  refine calls_of_gk (vs := [_]) Tryz.func111 rfl rfl (Nat.le_of_ble_eq_true rfl) ?_
  refine gk_seq ?_
  refine gk_region ?_
  refine gk_y rfl rfl (y_assign rfl) ?_
  refine gk_nil (gk_sub (T' := [(0,_), (2,_)]) ⟨rfl, rfl, trivial⟩ ?_)
  refine gk_seq ?_
  refine gk_seq ?_
  refine gk_any 8 (fun _ => mixed) (by kernel_rfl) ?_
  refine ph_y (y_move rfl) ?_
  refine ph_y (y_lenS (Tryz.underlying24) rfl) ?_
  refine ph_y (y_lss rfl rfl) ?_
  refine ph_y (y_move rfl) ?_
  refine ph_gF rfl rfl (fun hgd => by (try rw [hgd]); exact (y_move rfl)) ?_
  refine ph_gF rfl rfl (fun hgd => by (try rw [hgd]); exact (y_lenS (Tryz.underlying24) rfl)) ?_
  refine ph_gF rfl rfl (fun hgd => by (try rw [hgd]); exact (y_gtr rfl rfl)) ?_
  refine ph_y (y_pickOr rfl rfl rfl) ?_
  refine gk_nil (gk_sub (T' := [(0,_), (2,_), (12,_)]) ⟨rfl, rfl, rfl, trivial⟩ ?_)
  refine gk_cond rfl (fun hc12 => ?_) (fun hc12 => ?_)
  · skip
    refine gk_seq ?_
    refine gk_region ?_
    refine gk_y rfl rfl (y_assign rfl) ?_
    refine gk_nil (gk_sub (T' := [(0,_), (2,_)]) ⟨rfl, rfl, trivial⟩ ?_)
    refine gk_ret ?_
    refine gk_pure (rv_one rfl (r1_tmp rfl)) ?_
    exact congrArg _ (rconvex_no hc12).symm
  · skip
    refine gk_skip ?_
    refine gk_seq ?_
    refine gk_seq ?_
    refine gk_region ?_
    refine gk_y rfl rfl (y_assign rfl) ?_
    refine gk_nil (gk_sub (T' := [(0,_), (2,_), (3,_)]) ⟨rfl, rfl, rfl, trivial⟩ ?_)
    refine gk_block ?_
    refine gk_loop (X := Int) (fun (i : Int) => [(0, .slice a l.length cap), (2, .bool false), (3, .int .i64 i)]) (fun (i : Int) => []) (fun (i : Int) => (0 ≤ i ∧ i ≤ l.length ∧ ∀ j : Nat, (j : Int) < i → rcvI l j = true)) (fun (i : Int) => (l.length - i).toNat) 0 ⟨rfl, rfl, rfl, trivial⟩ rfl ?_ ?_
    · exact ⟨by omega, by omega, fun j hj => by omega⟩
    · rintro i hI
      obtain ⟨g0, g1, g2⟩ := hI
      have hlen := rconvex_len hc12
      have hsm : Small l.length := small_of hlen
      refine gk_seq ?_
      refine gk_seq ?_
      refine gk_region ?_
      refine gk_y rfl rfl (y_move rfl) ?_
      refine gk_y rfl rfl (y_move rfl) ?_
      refine gk_y rfl rfl (y_lenS (Tryz.underlying24) rfl) ?_
      refine gk_y rfl rfl (y_lss rfl rfl) ?_
      refine gk_nil (gk_sub (T' := [(0,_), (2,_), (3,_), (16,_)]) ⟨rfl, rfl, rfl, rfl, trivial⟩ ?_)
      refine gk_cond rfl (fun hc16 => ?_) (fun hc16 => ?_)
      · simp only [decide_eq_true_eq] at hc16
        refine gk_skip ?_
        refine gk_seq ?_
        refine gk_block ?_
        refine gk_seq ?_
        refine gk_region ?_
        refine gk_y rfl rfl (y_assign rfl) ?_
        refine gk_nil (gk_sub (T' := [(0,_), (2,_), (3,_), (4,_)]) ⟨rfl, rfl, rfl, rfl, trivial⟩ ?_)
        refine gk_block ?_
        refine gk_loop (X := Int) (fun (k : Int) => [(0, .slice a l.length cap), (2, .bool false), (3, .int .i64 i), (4, .int .i64 k)]) (fun (k : Int) => []) (fun (k : Int) => (0 ≤ k ∧ k ≤ l.length ∧ ∀ j : Nat, (j : Int) < k → rcv l i j = true)) (fun (k : Int) => (l.length - k).toNat) 0 ⟨rfl, rfl, rfl, rfl, trivial⟩ rfl ?_ ?_
        · exact ⟨by omega, by omega, fun j h1 => by omega⟩
        · rintro k hI
          obtain ⟨k0, k1, k2⟩ := hI
          refine gk_seq ?_
          refine gk_seq ?_
          refine gk_region ?_
          refine gk_y rfl rfl (y_move rfl) ?_
          refine gk_y rfl rfl (y_move rfl) ?_
          refine gk_y rfl rfl (y_lenS (Tryz.underlying24) rfl) ?_
          refine gk_y rfl rfl (y_lss rfl rfl) ?_
          refine gk_nil (gk_sub (T' := [(0,_), (2,_), (3,_), (4,_), (22,_)]) ⟨rfl, rfl, rfl, rfl, rfl, trivial⟩ ?_)
          refine gk_cond rfl (fun hc22 => ?_) (fun hc22 => ?_)
          · simp only [decide_eq_true_eq] at hc22
            refine gk_skip ?_
            refine gk_seq ?_
            refine gk_block ?_
            refine gk_seq ?_
            refine gk_any 27 (fun _ => mixed) (by kernel_rfl) ?_
            refine ph_y (y_move rfl) ?_
            refine ph_y (y_move rfl) ?_
            refine ph_y (y_neq rfl rfl) ?_
            refine ph_y (y_move rfl) ?_
            refine ph_gT rfl rfl (fun hgd => by (try rw [hgd]); exact (y_move rfl)) ?_
            refine ph_gT rfl rfl (fun hgd => by (try rw [hgd]); exact (y_move rfl)) ?_
            refine ph_gT rfl rfl (fun hgd => by (try rw [hgd]); exact (y_addI rfl rfl (by omega) (by omega))) ?_
            refine ph_gT rfl rfl (fun hgd => by (try rw [hgd]); exact (y_move rfl)) ?_
            refine ph_gT rfl rfl (fun hgd => by (try rw [hgd]); exact (y_lenS (Tryz.underlying24) rfl)) ?_
            refine ph_gT rfl rfl (fun hgd => by (try rw [hgd]); exact (y_rem rfl rfl (by omega))) ?_
            refine ph_gT rfl rfl (fun hgd => by (try rw [hgd]); exact (y_neq rfl rfl)) ?_
            refine ph_y (y_pickAnd rfl rfl rfl) ?_
            refine ph_y (y_move rfl) ?_
            refine ph_gT rfl rfl (fun hgd => by (try rw [hgd]); exact (y_move rfl)) ?_
            refine ph_gT rfl rfl (fun hgd => by (try rw [hgd]); exact (y_move rfl)) ?_
            refine ph_gT rfl rfl (fun hgd => by (try rw [hgd]); exact (y_indexE se24 rfl rfl (fun _ hw => (Rd.has (Has.rd hl) hw)) (by omega) (by omega))) ?_
            refine ph_gT rfl rfl (fun hgd => by (try rw [hgd]); exact (y_loadE (vs := [_, _]) tf26 rfl (fun _ hw => (Rd.has (Has.rd hl) hw)) (by omega) (by omega) rfl)) ?_
            refine ph_gT rfl rfl (fun hgd => by (try rw [hgd]); exact (y_move rfl)) ?_
            refine ph_gT rfl rfl (fun hgd => by (try rw [hgd]); exact (y_move rfl)) ?_
            refine ph_gT rfl rfl (fun hgd => by (try rw [hgd]); exact (y_call (v := .agg #[.int .i64 ((nextL l i).x), .int .i64 ((nextL l i).z)]) en119 rfl (fun w hw => next_c _ _ l i w (Rd.has (Has.rd hl) hw) hsm (by omega) (by omega) (by omega)))) ?_
            refine ph_gT rfl rfl (fun hgd => by (try rw [hgd]); exact (y_move rfl)) ?_
            refine ph_gT rfl rfl (fun hgd => by (try rw [hgd]); exact (y_move rfl)) ?_
            refine ph_gT rfl rfl (fun hgd => by (try rw [hgd]); exact (y_indexE se24 rfl rfl (fun _ hw => (Rd.has (Has.rd hl) hw)) (by omega) (by omega))) ?_
            refine ph_gT rfl rfl (fun hgd => by (try rw [hgd]); exact (y_loadE (vs := [_, _]) tf26 rfl (fun _ hw => (Rd.has (Has.rd hl) hw)) (by omega) (by omega) rfl)) ?_
            refine ph_gT rfl rfl (fun hgd => by (try rw [hgd]); exact (y_call (v := .int .i64 (sideW (l.getD (i).toNat default) (nextL l i) (l.getD (k).toNat default))) en136 rfl (fun w hw => side_c ⟨_, _⟩ ⟨_, _⟩ ⟨_, _⟩ w))) ?_
            refine ph_gT rfl rfl (fun hgd => by (try rw [hgd]); exact (y_leq rfl rfl)) ?_
            refine ph_y (y_pickAnd rfl rfl rfl) ?_
            refine gk_nil (gk_sub (T' := [(0,_), (2,_), (3,_), (4,_), (51,_)]) ⟨rfl, rfl, rfl, rfl, rfl, trivial⟩ ?_)
            refine gk_cond rfl (fun hc51 => ?_) (fun hc51 => ?_)
            · skip
              refine gk_seq ?_
              refine gk_region ?_
              refine gk_y rfl rfl (y_assign rfl) ?_
              refine gk_nil (gk_sub (T' := [(0,_), (2,_), (3,_), (4,_)]) ⟨rfl, rfl, rfl, rfl, trivial⟩ ?_)
              refine gk_ret ?_
              refine gk_pure (rv_one rfl (r1_tmp rfl)) ?_
              exact congrArg _ (rconvex_bad g0 (by omega) k0 (by omega) hc51).symm
            · skip
              refine gk_skip ?_
              refine gk_region ?_
              refine gk_y rfl rfl (y_move rfl) ?_
              refine gk_y rfl rfl (y_addI rfl rfl (by omega) (by omega)) ?_
              refine gk_y rfl rfl (y_assign rfl) ?_
              refine gk_nil (gk_sub (T' := [(0,_), (2,_), (3,_), (4,_)]) ⟨rfl, rfl, rfl, rfl, trivial⟩ ?_)
              exact gk_next _ ⟨rfl, rfl, rfl, rfl, trivial⟩ rfl ⟨by omega, by omega, fun j h1 => if h : (j : Int) < k then k2 j h else (by rw [show (j : Int) = k from by omega]; exact rcv_of hc51)⟩ (by omega)
          · simp only [decide_eq_false_iff_not] at hc22
            refine gk_exit rfl ?_
            refine gk_region ?_
            refine gk_y rfl rfl (y_move rfl) ?_
            refine gk_y rfl rfl (y_addI rfl rfl (by omega) (by omega)) ?_
            refine gk_y rfl rfl (y_assign rfl) ?_
            refine gk_nil (gk_sub (T' := [(0,_), (2,_), (3,_)]) ⟨rfl, rfl, rfl, trivial⟩ ?_)
            exact gk_next _ ⟨rfl, rfl, rfl, trivial⟩ rfl ⟨by omega, by omega, fun j hj => if h : (j : Int) < i then g2 j h else (by rw [show (j : Int) = i from by omega]; exact allI_true fun j hj => k2 j (by omega))⟩ (by omega)
      · simp only [decide_eq_false_iff_not] at hc16
        refine gk_exit rfl ?_
        refine gk_seq ?_
        refine gk_region ?_
        refine gk_y rfl rfl (y_assign rfl) ?_
        refine gk_nil (gk_sub (T' := [(2,_)]) ⟨rfl, trivial⟩ ?_)
        refine gk_ret ?_
        refine gk_pure (rv_one rfl (r1_tmp rfl)) ?_
        exact congrArg _ (rconvex_yes hc12 g2 (by omega)).symm
set_option maxRecDepth 100000 in
set_option maxHeartbeats 1000000 in
theorem rplacedX_c (a : Option Addr) (cap : Nat) (l : List Pt) (w : World) (hl : Has w (Pts a l)) (hs : Bigs l.length) :
    Calls Tryz.prog 72 #[.slice a l.length cap] w (Pure (.bool (rplacedB l)) w) := by
  refine calls_of_gk (vs := [_]) Tryz.func72 rfl rfl (Nat.le_of_ble_eq_true rfl) ?_
  refine gk_seq ?_
  refine gk_region ?_
  refine gk_y rfl rfl (y_assign rfl) ?_
  refine gk_nil (gk_sub (T' := [(0,_), (2,_)]) ⟨rfl, rfl, trivial⟩ ?_)
  refine gk_seq ?_
  refine gk_seq ?_
  refine gk_region ?_
  refine gk_y rfl rfl (y_assign rfl) ?_
  refine gk_nil (gk_sub (T' := [(0,_), (2,_), (3,_)]) ⟨rfl, rfl, rfl, trivial⟩ ?_)
  refine gk_block ?_
  refine gk_loop (X := Int) (fun (i : Int) => [(0, .slice a l.length cap), (2, .bool false), (3, .int .i64 i)]) (fun (i : Int) => []) (fun (i : Int) => (0 ≤ i ∧ i ≤ l.length ∧ ∀ j : Nat, (j : Int) < i → farB (l.getD j default) = false)) (fun (i : Int) => (l.length - i).toNat) 0 ⟨rfl, rfl, rfl, trivial⟩ rfl ?_ ?_
  · exact ⟨by omega, by omega, fun j hj => by omega⟩
  · rintro i hI
    obtain ⟨g0, g1, g2⟩ := hI
    refine gk_seq ?_
    refine gk_seq ?_
    refine gk_region ?_
    refine gk_y rfl rfl (y_move rfl) ?_
    refine gk_y rfl rfl (y_move rfl) ?_
    refine gk_y rfl rfl (y_lenS (Tryz.underlying24) rfl) ?_
    refine gk_y rfl rfl (y_lss rfl rfl) ?_
    refine gk_nil (gk_sub (T' := [(0,_), (2,_), (3,_), (7,_)]) ⟨rfl, rfl, rfl, rfl, trivial⟩ ?_)
    refine gk_cond rfl (fun hc7 => ?_) (fun hc7 => ?_)
    · simp only [decide_eq_true_eq] at hc7
      refine gk_skip ?_
      refine gk_seq ?_
      refine gk_block ?_
      refine gk_seq ?_
      refine gk_any 16 (fun _ => mixed) (by kernel_rfl) ?_
      refine ph_y (y_move rfl) ?_
      refine ph_y (y_move rfl) ?_
      refine ph_y (y_indexE se24 rfl rfl (fun _ hw => (Rd.has (Has.rd hl) hw)) (by omega) (by omega)) ?_
      refine ph_y (y_fieldE fo26_0 rfl (fun w hw => elems_addr (i := i) (Rd.has (Has.rd hl) hw) (by omega) (by omega))) ?_
      refine ph_y (y_loadEF tf3 rfl (fun _ hw => (Rd.has (Has.rd hl) hw)) (by omega) (by omega) rfl) ?_
      refine ph_y (y_call en73 rfl (fun w hw => in_c _ _ _ w)) ?_
      refine ph_y (y_not rfl) ?_
      refine ph_y (y_move rfl) ?_
      refine ph_gF rfl rfl (fun hgd => by (try rw [hgd]); exact (y_move rfl)) ?_
      refine ph_gF rfl rfl (fun hgd => by (try rw [hgd]); exact (y_move rfl)) ?_
      refine ph_gF rfl rfl (fun hgd => by (try rw [hgd]); exact (y_indexE se24 rfl rfl (fun _ hw => (Rd.has (Has.rd hl) hw)) (by omega) (by omega))) ?_
      refine ph_gF rfl rfl (fun hgd => by (try rw [hgd]); exact (y_fieldE fo26_1 rfl (fun w hw => elems_addr (i := i) (Rd.has (Has.rd hl) hw) (by omega) (by omega)))) ?_
      refine ph_gF rfl rfl (fun hgd => by (try rw [hgd]); exact (y_loadEF tf3 rfl (fun _ hw => (Rd.has (Has.rd hl) hw)) (by omega) (by omega) rfl)) ?_
      refine ph_gF rfl rfl (fun hgd => by (try rw [hgd]); exact (y_call (v := .bool (decide (0 ≤ ((l.getD (i).toNat default).z)) && decide (((l.getD (i).toNat default).z) ≤ 2000))) en73 rfl (fun w hw => in_c _ _ _ w))) ?_
      refine ph_gF rfl rfl (fun hgd => by (try rw [hgd]); exact (y_not rfl)) ?_
      refine ph_y (y_pickOr rfl rfl rfl) ?_
      refine gk_nil (gk_sub (T' := [(0,_), (2,_), (3,_), (25,_)]) ⟨rfl, rfl, rfl, rfl, trivial⟩ ?_)
      refine gk_cond rfl (fun hc25 => ?_) (fun hc25 => ?_)
      · skip
        refine gk_seq ?_
        refine gk_region ?_
        refine gk_y rfl rfl (y_assign rfl) ?_
        refine gk_nil (gk_sub (T' := [(0,_), (2,_), (3,_)]) ⟨rfl, rfl, rfl, trivial⟩ ?_)
        refine gk_ret ?_
        refine gk_pure (rv_one rfl (r1_tmp rfl)) ?_
        exact congrArg _ (rplaced_no g0 (by omega) hc25).symm
      · skip
        refine gk_skip ?_
        refine gk_region ?_
        refine gk_y rfl rfl (y_move rfl) ?_
        refine gk_y rfl rfl (y_addI rfl rfl (by omega) (by omega)) ?_
        refine gk_y rfl rfl (y_assign rfl) ?_
        refine gk_nil (gk_sub (T' := [(0,_), (2,_), (3,_)]) ⟨rfl, rfl, rfl, trivial⟩ ?_)
        exact gk_next _ ⟨rfl, rfl, rfl, trivial⟩ rfl ⟨by omega, by omega, fun j hj => if h : (j : Int) < i then g2 j h else (by rw [show j = i.toNat from by omega]; exact hc25)⟩ (by omega)
    · simp only [decide_eq_false_iff_not] at hc7
      refine gk_exit rfl ?_
      refine gk_seq ?_
      refine gk_any 20 (fun _ => mixed) (by kernel_rfl) ?_
      refine ph_y (y_move rfl) ?_
      refine ph_y (y_call en111 rfl (fun w hw => rconvexX_c _ _ l w (Rd.has (Has.rd hl) hw) (by assumption))) ?_
      refine ph_y (y_move rfl) ?_
      refine ph_gT rfl rfl (fun hgd => by (try rw [hgd]); exact (y_move rfl)) ?_
      refine ph_gT rfl rfl (fun hgd => by (try rw [hgd]); exact (y_call (v := .agg #[.int .i64 ((leastL l).x), .int .i64 ((leastL l).z)]) en112 rfl (fun w hw => low_c _ _ l w (Rd.has (Has.rd hl) hw) (by first | exact rconvex_smallA hgd | exact rconvex_smallB hgd) (by first | exact rconvex_pos hgd | exact rconvex_pos2 hgd)))) ?_
      refine ph_gT rfl rfl (fun hgd => by (try rw [hgd]); exact (y_field rfl (fv26_0 _ _))) ?_
      refine ph_gT rfl rfl (fun hgd => by (try rw [hgd]); exact (y_eql rfl rfl)) ?_
      refine ph_y (y_pickAnd rfl rfl rfl) ?_
      refine ph_y (y_move rfl) ?_
      refine ph_gT rfl rfl (fun hgd => by (try rw [hgd]); exact (y_move rfl)) ?_
      refine ph_gT rfl rfl (fun hgd => by (try rw [hgd]); exact (y_call (v := .agg #[.int .i64 ((leastL l).x), .int .i64 ((leastL l).z)]) en112 rfl (fun w hw => low_c _ _ l w (Rd.has (Has.rd hl) hw) (by first | exact rconvex_smallA hgd | exact rconvex_smallB hgd) (by first | exact rconvex_pos hgd | exact rconvex_pos2 hgd)))) ?_
      refine ph_gT rfl rfl (fun hgd => by (try rw [hgd]); exact (y_field rfl (fv26_1 _ _))) ?_
      refine ph_gT rfl rfl (fun hgd => by (try rw [hgd]); exact (y_eql rfl rfl)) ?_
      refine ph_y (y_pickAnd rfl rfl rfl) ?_
      refine ph_y (y_move rfl) ?_
      refine ph_gT rfl rfl (fun hgd => by (try rw [hgd]); exact (y_move rfl)) ?_
      refine ph_gT rfl rfl (fun hgd => by (try rw [hgd]); exact (y_call (v := .int .i64 (rfirst l)) en113 rfl (fun w hw => rfirst_c _ _ l w (Rd.has (Has.rd hl) hw) (rconvex_smallA (by simp only [Bool.and_eq_true] at hgd; exact hgd.1.1))))) ?_
      refine ph_gT rfl rfl (fun hgd => by (try rw [hgd]); exact (y_eql rfl rfl)) ?_
      refine ph_y (y_pickAnd rfl rfl rfl) ?_
      refine ph_y (y_assign rfl) ?_
      refine gk_nil (gk_sub (T' := [(2,_)]) ⟨rfl, trivial⟩ ?_)
      refine gk_ret ?_
      refine gk_pure (rv_one rfl (r1_tmp rfl)) ?_
      exact congrArg _ (rplaced_yes g2 (by omega)).symm
set_option maxRecDepth 100000 in
set_option maxHeartbeats 1000000 in
theorem rvalidX_c (a : Option Addr) (cap : Nat) (s : Stn) (w : World) (hl : Has w (Pts a s.shape)) (hs : Bigs s.shape.length) (hn : Fits s.name.size) :
    Calls Tryz.prog 37 #[.agg #[.string s.name, .slice a s.shape.length cap, .int .i64 s.depth, .int .i64 s.density, .int .i64 s.grain.x, .int .i64 s.grain.z]] w (Pure (.bool (rvalidB s)) w) := by
  refine calls_of_gk (vs := [_]) Tryz.func37 rfl rfl (Nat.le_of_ble_eq_true rfl) ?_
  refine gk_seq ?_
  refine gk_region ?_
  refine gk_yx rfl rfl (yx_box (vs := [_, _, _, _, _, _]) rfl rfl) fun b1 => ?_
  refine gk_y rfl rfl (y_assign rfl) ?_
  refine gk_nil (gk_sub (T' := [(1,_), (2,_)]) ⟨rfl, rfl, trivial⟩ ?_)
  refine gk_seq ?_
  refine gk_region ?_
  refine gk_y rfl rfl (y_fieldAddr fo28_4 rfl) ?_
  refine gk_y rfl rfl (y_loadBA 0 tf26 rfl rfl (vs := [_, _]) rfl rfl) ?_
  refine gk_yx rfl rfl (yx_alloc tf26 (zs := [_, _]) rfl) fun b3 => ?_
  refine gk_storeV 0 tf26 rfl rfl (vs := [_, _]) rfl rfl rfl rfl rfl ?_
  refine gk_nil (gk_sub (T' := [(1,_), (2,_), (3,_)]) ⟨rfl, rfl, rfl, trivial⟩ ?_)
  refine gk_seq ?_
  refine gk_any 39 (fun _ => mixed) (by kernel_rfl) ?_
  refine ph_y (y_fieldAddr fo28_0 rfl) ?_
  refine ph_y (y_loadB1 1 tf9 rfl rfl rfl) ?_
  refine ph_y (y_call en71 rfl (fun w hw => rnamed_c _ w (by assumption))) ?_
  refine ph_y (y_move rfl) ?_
  refine ph_gT rfl rfl (fun hgd => by (try rw [hgd]); exact (y_fieldAddr fo28_1 rfl)) ?_
  refine ph_gT rfl rfl (fun hgd => by (try rw [hgd]); exact (y_loadB1 1 tf24 rfl rfl rfl)) ?_
  refine ph_gT rfl rfl (fun hgd => by (try rw [hgd]); exact (y_call (v := .bool (rplacedB s.shape)) en72 rfl (fun w hw => rplacedX_c _ _ s.shape w (Rd.has (Has.rd hl) hw) (by assumption)))) ?_
  refine ph_y (y_pickAnd rfl rfl rfl) ?_
  refine ph_y (y_move rfl) ?_
  refine ph_gT rfl rfl (fun hgd => by (try rw [hgd]); exact (y_fieldAddr fo28_2 rfl)) ?_
  refine ph_gT rfl rfl (fun hgd => by (try rw [hgd]); exact (y_loadB1 1 tf3 rfl rfl rfl)) ?_
  refine ph_gT rfl rfl (fun hgd => by (try rw [hgd]); exact (y_call (v := .bool (decide (1 ≤ s.depth) && decide (s.depth ≤ 2000))) en73 rfl (fun w hw => in_c _ _ _ w))) ?_
  refine ph_y (y_pickAnd rfl rfl rfl) ?_
  refine ph_y (y_move rfl) ?_
  refine ph_gT rfl rfl (fun hgd => by (try rw [hgd]); exact (y_fieldAddr fo28_3 rfl)) ?_
  refine ph_gT rfl rfl (fun hgd => by (try rw [hgd]); exact (y_loadB1 1 tf3 rfl rfl rfl)) ?_
  refine ph_gT rfl rfl (fun hgd => by (try rw [hgd]); exact (y_call (v := .bool (decide (1 ≤ s.density) && decide (s.density ≤ 10000))) en73 rfl (fun w hw => in_c _ _ _ w))) ?_
  refine ph_y (y_pickAnd rfl rfl rfl) ?_
  refine ph_y (y_move rfl) ?_
  refine ph_gT rfl rfl (fun hgd => by (try rw [hgd]); exact (y_fieldAddr fo26_0 rfl)) ?_
  refine ph_gT rfl rfl (fun hgd => by (try rw [hgd]); exact (y_loadB1 0 tf3 rfl rfl rfl)) ?_
  refine ph_gT rfl rfl (fun hgd => by (try rw [hgd]); exact (y_neq rfl rfl)) ?_
  refine ph_gT rfl rfl (fun hgd => by (try rw [hgd]); exact (y_move rfl)) ?_
  refine ph_gTF rfl rfl (fun hgd => by (try rw [hgd]); exact (y_fieldAddr fo26_1 rfl)) ?_
  refine ph_gTF rfl rfl (fun hgd => by (try rw [hgd]); exact (y_loadB1 0 tf3 rfl rfl rfl)) ?_
  refine ph_gTF rfl rfl (fun hgd => by (try rw [hgd]); exact (y_neq rfl rfl)) ?_
  refine ph_gT rfl rfl (fun hgd => by (try rw [hgd]); exact (y_pickOr rfl rfl rfl)) ?_
  refine ph_y (y_pickAnd rfl rfl rfl) ?_
  refine ph_y (y_move rfl) ?_
  refine ph_gT rfl rfl (fun hgd => by (try rw [hgd]); exact (y_fieldAddr fo26_0 rfl)) ?_
  refine ph_gT rfl rfl (fun hgd => by (try rw [hgd]); exact (y_loadB1 0 tf3 rfl rfl rfl)) ?_
  refine ph_gT rfl rfl (fun hgd => by (try rw [hgd]); exact (y_call (v := .bool (decide ((-100) ≤ s.grain.x) && decide (s.grain.x ≤ 100))) en73 rfl (fun w hw => in_c _ _ _ w))) ?_
  refine ph_y (y_pickAnd rfl rfl rfl) ?_
  refine ph_y (y_move rfl) ?_
  refine ph_gT rfl rfl (fun hgd => by (try rw [hgd]); exact (y_fieldAddr fo26_1 rfl)) ?_
  refine ph_gT rfl rfl (fun hgd => by (try rw [hgd]); exact (y_loadB1 0 tf3 rfl rfl rfl)) ?_
  refine ph_gT rfl rfl (fun hgd => by (try rw [hgd]); exact (y_call (v := .bool (decide ((-100) ≤ s.grain.z) && decide (s.grain.z ≤ 100))) en73 rfl (fun w hw => in_c _ _ _ w))) ?_
  refine ph_y (y_pickAnd rfl rfl rfl) ?_
  refine ph_y (y_assign rfl) ?_
  refine gk_nil (gk_sub (T' := [(2,_)]) ⟨rfl, trivial⟩ ?_)
  refine gk_ret ?_
  refine gk_pure (rv_one rfl (r1_tmp rfl)) ?_
  rfl
set_option maxRecDepth 100000 in
set_option maxHeartbeats 1000000 in
theorem rheapX_c (a : Option Addr) (cap : Nat) (L : List SC) (w : World) (hl : Has w (Elems a 6 encSC L)) (hsh : ∀ z ∈ L, Has w (Pts z.a z.s.shape)) (hs : Small L.length) (hsb : ∀ z ∈ L, Bigs z.s.shape.length) (hns : ∀ z ∈ L, Fits z.s.name.size) :
    Calls Tryz.prog 11 #[.slice a L.length cap] w (Pure (.bool (rheapB L)) w) := by
  refine calls_of_gk (vs := [_]) Tryz.func11 rfl rfl (Nat.le_of_ble_eq_true rfl) ?_
  refine gk_seq ?_
  refine gk_region ?_
  refine gk_y rfl rfl (y_assign rfl) ?_
  refine gk_nil (gk_sub (T' := [(0,_), (2,_)]) ⟨rfl, rfl, trivial⟩ ?_)
  refine gk_seq ?_
  refine gk_seq ?_
  refine gk_region ?_
  refine gk_y rfl rfl (y_assign rfl) ?_
  refine gk_nil (gk_sub (T' := [(0,_), (2,_), (3,_)]) ⟨rfl, rfl, rfl, trivial⟩ ?_)
  refine gk_block ?_
  refine gk_loop (X := Int) (fun (i : Int) => [(0, .slice a L.length cap), (2, .bool false), (3, .int .i64 i)]) (fun (i : Int) => []) (fun (i : Int) => (0 ≤ i ∧ i ≤ L.length ∧ ∀ j : Nat, (j : Int) < i → rbadAt L j = false)) (fun (i : Int) => (L.length - i).toNat) 0 ⟨rfl, rfl, rfl, trivial⟩ rfl ?_ ?_
  · exact ⟨by omega, by omega, fun j hj => by omega⟩
  · rintro i hI
    obtain ⟨g0, g1, g2⟩ := hI
    refine gk_seq ?_
    refine gk_seq ?_
    refine gk_region ?_
    refine gk_y rfl rfl (y_move rfl) ?_
    refine gk_y rfl rfl (y_move rfl) ?_
    refine gk_y rfl rfl (y_lenS (Tryz.underlying22) rfl) ?_
    refine gk_y rfl rfl (y_lss rfl rfl) ?_
    refine gk_nil (gk_sub (T' := [(0,_), (2,_), (3,_), (8,_)]) ⟨rfl, rfl, rfl, rfl, trivial⟩ ?_)
    refine gk_cond rfl (fun hc8 => ?_) (fun hc8 => ?_)
    · have hc8 := of_decide_eq_true hc8
      refine gk_skip ?_
      refine gk_seq ?_
      refine gk_block ?_
      refine gk_seq ?_
      refine gk_seq ?_
      refine gk_region ?_
      refine gk_y rfl rfl (y_move rfl) ?_
      refine gk_y rfl rfl (y_move rfl) ?_
      refine gk_y rfl rfl (y_indexE se22 rfl rfl (fun _ hw => (Rd.has (Has.rd hl) hw)) (by omega) (by omega)) ?_
      refine gk_y rfl rfl (y_loadE (vs := [_, _, _, _, _, _]) tf28 rfl (fun _ hw => (Rd.has (Has.rd hl) hw)) (by omega) (by omega) rfl) ?_
      refine gk_y rfl rfl (y_call en37 rfl (fun w hw => rvalidX_c _ _ ((L.getD (i).toNat default).s) w (Rd.has (Has.rd (hsh _ (getD_memS (by omega)))) hw) (hsb _ (getD_memS (by omega))) (hns _ (getD_memS (by omega))))) ?_
      refine gk_y rfl rfl (y_not rfl) ?_
      refine gk_nil (gk_sub (T' := [(0,_), (2,_), (3,_), (16,_)]) ⟨rfl, rfl, rfl, rfl, trivial⟩ ?_)
      refine gk_cond rfl (fun hc16 => ?_) (fun hc16 => ?_)
      · skip
        refine gk_seq ?_
        refine gk_region ?_
        refine gk_y rfl rfl (y_assign rfl) ?_
        refine gk_nil (gk_sub (T' := [(0,_), (2,_), (3,_)]) ⟨rfl, rfl, rfl, trivial⟩ ?_)
        refine gk_ret ?_
        refine gk_pure (rv_one rfl (r1_tmp rfl)) ?_
        rw [rheap_no g0 hc8 (rbad_valid (by simpa using hc16))]
      · skip
        refine gk_skip ?_
        refine gk_seq ?_
        refine gk_region ?_
        refine gk_y rfl rfl (y_assign rfl) ?_
        refine gk_nil (gk_sub (T' := [(0,_), (2,_), (3,_), (4,_)]) ⟨rfl, rfl, rfl, rfl, trivial⟩ ?_)
        refine gk_block ?_
        refine gk_loop (X := Int) (fun (k : Int) => [(0, .slice a L.length cap), (2, .bool false), (3, .int .i64 i), (4, .int .i64 k)]) (fun (k : Int) => []) (fun (k : Int) => (0 ≤ k ∧ k ≤ i ∧ ∀ j : Nat, (j : Int) < k → ((nameAt L i.toNat).toList == (nameAt L j).toList) = false)) (fun (k : Int) => (i - k).toNat) 0 ⟨rfl, rfl, rfl, rfl, trivial⟩ rfl ?_ ?_
        · exact ⟨by omega, by omega, fun j hj => by omega⟩
        · rintro k hI
          obtain ⟨k0, k1, k2⟩ := hI
          refine gk_seq ?_
          refine gk_seq ?_
          refine gk_region ?_
          refine gk_y rfl rfl (y_move rfl) ?_
          refine gk_y rfl rfl (y_move rfl) ?_
          refine gk_y rfl rfl (y_lss rfl rfl) ?_
          refine gk_nil (gk_sub (T' := [(0,_), (2,_), (3,_), (4,_), (19,_)]) ⟨rfl, rfl, rfl, rfl, rfl, trivial⟩ ?_)
          refine gk_cond rfl (fun hc19 => ?_) (fun hc19 => ?_)
          · have hc19 := of_decide_eq_true hc19
            refine gk_skip ?_
            refine gk_seq ?_
            refine gk_block ?_
            refine gk_seq ?_
            refine gk_any 11 (fun _ => mixed) (by kernel_rfl) ?_
            refine ph_y (y_move rfl) ?_
            refine ph_y (y_move rfl) ?_
            refine ph_y (y_indexE se22 rfl rfl (fun _ hw => (Rd.has (Has.rd hl) hw)) (by omega) (by omega)) ?_
            refine ph_y (y_fieldE fo28_0 rfl (fun w hw => elems_addr (i := i) (Rd.has (Has.rd hl) hw) (by omega) (by omega))) ?_
            refine ph_y (y_loadEF tf9 rfl (fun _ hw => (Rd.has (Has.rd hl) hw)) (by omega) (by omega) rfl) ?_
            refine ph_y (y_move rfl) ?_
            refine ph_y (y_move rfl) ?_
            refine ph_y (y_indexE se22 rfl rfl (fun _ hw => (Rd.has (Has.rd hl) hw)) (by omega) (by omega)) ?_
            refine ph_y (y_fieldE fo28_0 rfl (fun w hw => elems_addr (i := k) (Rd.has (Has.rd hl) hw) (by omega) (by omega))) ?_
            refine ph_y (y_loadEF tf9 rfl (fun _ hw => (Rd.has (Has.rd hl) hw)) (by omega) (by omega) rfl) ?_
            refine ph_y (y_strEq rfl rfl) ?_
            refine gk_nil (gk_sub (T' := [(0,_), (2,_), (3,_), (4,_), (32,_)]) ⟨rfl, rfl, rfl, rfl, rfl, trivial⟩ ?_)
            refine gk_cond rfl (fun hc32 => ?_) (fun hc32 => ?_)
            · skip
              refine gk_seq ?_
              refine gk_region ?_
              refine gk_y rfl rfl (y_assign rfl) ?_
              refine gk_nil (gk_sub (T' := [(0,_), (2,_), (3,_), (4,_)]) ⟨rfl, rfl, rfl, rfl, trivial⟩ ?_)
              refine gk_ret ?_
              refine gk_pure (rv_one rfl (r1_tmp rfl)) ?_
              rw [rheap_no g0 hc8 (rbad_name k0 hc19 hc32)]
            · skip
              refine gk_skip ?_
              refine gk_region ?_
              refine gk_y rfl rfl (y_move rfl) ?_
              refine gk_y rfl rfl (y_addI rfl rfl (by omega) (by omega)) ?_
              refine gk_y rfl rfl (y_assign rfl) ?_
              refine gk_nil (gk_sub (T' := [(0,_), (2,_), (3,_), (4,_)]) ⟨rfl, rfl, rfl, rfl, trivial⟩ ?_)
              exact gk_next (k + 1) ⟨rfl, rfl, rfl, rfl, trivial⟩ rfl ⟨by omega, by omega, below_nat (f := fun j => (nameAt L i.toNat).toList == (nameAt L j).toList) k0 k2 hc32⟩ (by omega)
          · have hc19 := of_decide_eq_false hc19
            refine gk_exit rfl ?_
            refine gk_region ?_
            refine gk_y rfl rfl (y_move rfl) ?_
            refine gk_y rfl rfl (y_addI rfl rfl (by omega) (by omega)) ?_
            refine gk_y rfl rfl (y_assign rfl) ?_
            refine gk_nil (gk_sub (T' := [(0,_), (2,_), (3,_)]) ⟨rfl, rfl, rfl, trivial⟩ ?_)
            exact gk_next (i + 1) ⟨rfl, rfl, rfl, trivial⟩ rfl ⟨by omega, by omega, below_nat g0 g2 (rbad_none g0 hc19 (by simpa using hc16) k2)⟩ (by omega)
    · have hc8 := of_decide_eq_false hc8
      refine gk_exit rfl ?_
      refine gk_seq ?_
      refine gk_region ?_
      refine gk_y rfl rfl (y_move rfl) ?_
      refine gk_y rfl rfl (y_lenS (Tryz.underlying22) rfl) ?_
      refine gk_y rfl rfl (y_leq rfl rfl) ?_
      refine gk_y rfl rfl (y_assign rfl) ?_
      refine gk_nil (gk_sub (T' := [(2,_)]) ⟨rfl, trivial⟩ ?_)
      refine gk_ret ?_
      refine gk_pure (rv_one rfl (r1_tmp rfl)) ?_
      rw [rheap_yes hc8 g2]
end Go.Proofs.YtmpaebfjnjmmlaaGreatDoor

namespace Go.Proofs.YtmpaebfjnjmmlaaGreatDoor
open Go.K Go.Stn Go.RowKit
theorem twelve_of {n : Nat} (h : (!decide (12 < (n : Int))) = true) : Small n := by
  simp only [Bool.not_eq_true', decide_eq_false_iff_not] at h
  unfold Small; omega
set_option maxRecDepth 100000 in
set_option maxHeartbeats 4000000 in
theorem StoneBack_c (a : Option Addr) (cap : Nat) (L : List SC) (w : World) (hl : Has w (Elems a 6 encSC L)) (hsh : ∀ z ∈ L, Has w (Pts z.a z.s.shape)) (hsb : ∀ z ∈ L, Bigs z.s.shape.length) (hns : ∀ z ∈ L, Fits z.s.name.size) (hways : Has w (Elems (some ⟨0, 0, none⟩) 1 encVal [.func (.func 194) #[] #[], .func (.func 195) #[] #[], .func (.func 196) #[] #[], .func (.func 197) #[] #[]])) (hiv : Has w (IntV 1)) (he3 : Has w (ErrV 3)) (he4 : Has w (ErrV 4)) (hp10 : Has w (VarR 2 pow10V)) :
    Calls Tryz.prog 5 #[.slice a L.length cap] w (Pure (.bool true) w) := by
  refine calls_of_gk (vs := [_]) Tryz.func5 rfl rfl (Nat.le_of_ble_eq_true rfl) ?_
  refine gk_seq ?_
  refine gk_region ?_
  refine gk_y rfl rfl (y_assign rfl) ?_
  refine gk_nil (gk_sub (T' := [(0,_), (2,_)]) ⟨rfl, rfl, trivial⟩ ?_)
  refine gk_seq ?_
  refine gk_seq ?_
  refine gk_any 8 (fun _ => mixed) (by kernel_rfl) ?_
  refine ph_y (y_move rfl) ?_
  refine ph_y (y_lenS (Tryz.underlying22) rfl) ?_
  refine ph_y (y_gtr rfl rfl) ?_
  refine ph_y (y_move rfl) ?_
  refine ph_gF rfl rfl (fun hgd => by (try rw [hgd]); exact (y_move rfl)) ?_
  refine ph_gF rfl rfl (fun hgd => by (try rw [hgd]); exact (y_call (v := .bool (rheapB L)) en11 rfl (fun w hw => rheapX_c _ _ L w (Rd.has (Has.rd hl) hw) (fun z hz => Rd.has (Has.rd (hsh z hz)) hw) (twelve_of hgd) hsb hns))) ?_
  refine ph_gF rfl rfl (fun hgd => by (try rw [hgd]); exact (y_not rfl)) ?_
  refine ph_y (y_pickOr rfl rfl rfl) ?_
  refine gk_nil (gk_sub (T' := [(0,_), (2,_), (15,_)]) ⟨rfl, rfl, rfl, trivial⟩ ?_)
  refine gk_cond rfl (fun hc15 => ?_) (fun hc15 => ?_)
  · skip
    refine gk_seq ?_
    refine gk_region ?_
    refine gk_y rfl rfl (y_call en6 rfl (fun w hw => wakes_c w (Rd.has (Has.rd hways) hw))) ?_
    refine gk_y rfl rfl (y_assign rfl) ?_
    refine gk_nil (gk_sub (T' := [(0,_), (2,_)]) ⟨rfl, rfl, trivial⟩ ?_)
    refine gk_ret ?_
    refine gk_pure (rv_one rfl (r1_tmp rfl)) ?_
    rfl
  · simp only [Bool.or_eq_false_iff, decide_eq_false_iff_not, Bool.not_eq_false'] at hc15
    have hl12 : L.length ≤ 12 := by omega
    have hs : Small L.length := by unfold Small; omega
    have hE : heapI L = 0 := by rw [heap_eq, hc15.2]; rfl
    have hck := (heap_checks hE).1
    have hss : ∀ z ∈ L, Small z.s.shape.length := fun z hz => small_of (check_len (hck z hz))
    refine gk_skip ?_
    refine gk_seq ?_
    refine gk_region ?_
    refine gk_y rfl rfl (y_move rfl) ?_
    refine gk_yx rfl rfl (yx_call en7 rfl (fun w hw => stones_c _ _ L w (Rd.has (Has.rd hl) hw) (fun z hz => Rd.has (Has.rd (hsh z hz)) hw) hs hss)) fun p19 => gk_split ?_
    refine gk_y rfl rfl (y_call en8 rfl (fun w hw => print_c _ _ p19.1.2.2 w (has_row encSC_ok (hw.has (p := 0) rfl)) (fun z hz => shps_has (hw.has (p := 1) rfl) hz) (by rw [plain_lenL p19.2]; exact hs) (plain_small p19.2 hss) (Rd.has (Has.rd hp10) hw))) ?_
    refine gk_y rfl rfl (y_move rfl) ?_
    refine gk_y rfl rfl (y_extract rfl rfl) ?_
    refine gk_y rfl rfl (y_extract rfl rfl) ?_
    refine gk_y rfl rfl (y_assign rfl) ?_
    refine gk_y rfl rfl (y_assign rfl) ?_
    refine gk_nil (gk_sub (T' := [(0,_), (2,_), (3,_), (4,_)]) ⟨rfl, rfl, rfl, rfl, trivial⟩ ?_)
    have hpl := p19.2
    have hEM : heapI p19.1.2.2 = 0 := (heapI_plain hpl).trans hE
    refine gk_sub (T' := [(0,_), (2,_), (3, .string (bs (printL L))), (4, .int .i64 0)]) ⟨rfl, rfl, (by show some (Value.string (if heapI p19.1.2.2 = 0 then bs (printL p19.1.2.2) else ⟨#[]⟩)) = _; rw [if_pos hEM, printL_plain hpl]), (by show some (Value.int .i64 (heapI p19.1.2.2)) = _; rw [hEM]), trivial⟩ ?_
    refine gk_seq ?_
    refine gk_region ?_
    refine gk_y rfl rfl (y_move rfl) ?_
    refine gk_y rfl rfl (y_strAdd rfl rfl (by have e10 : (⟨#[10]⟩ : ByteArray).size = 1 := rfl; have e1 := bs_size (printL L); have e2 := print_le hck; omega)) ?_
    refine gk_yx rfl rfl (yx_call en17 rfl (fun w hw => parse_c _ w (Rd.has (Has.rd hiv) hw) (Rd.has (Has.rd he3) hw) (Rd.has (Has.rd he4) hw) (Rd.has (Has.rd hp10) hw))) fun p26 => gk_split ?_
    refine gk_y rfl rfl (y_move rfl) ?_
    refine gk_y rfl rfl (y_extract rfl rfl) ?_
    refine gk_y rfl rfl (y_extract rfl rfl) ?_
    refine gk_y rfl rfl (y_extract rfl rfl) ?_
    refine gk_y rfl rfl (y_assign rfl) ?_
    refine gk_y rfl rfl (y_assign rfl) ?_
    refine gk_y rfl rfl (y_assign rfl) ?_
    refine gk_nil (gk_sub (T' := [(0,_), (2,_), (4,_), (5,_), (6,_), (7,_)]) ⟨rfl, rfl, rfl, rfl, rfl, rfl, trivial⟩ ?_)
    have hPB := parse_back hE hl12
    have hplO : plainL p26.1.2.2 = plainL L := p26.2.trans (by rw [hPB])
    have hsO : Small p26.1.2.2.length := by rw [plain_lenL hplO]; exact hs
    have hssO := plain_small hplO hss
    refine gk_sub (T' := [(0,_), (2,_), (4,_), (5,_), (6, .int .i64 0), (7, .int .i64 0)]) ⟨rfl, rfl, rfl, rfl, (by show some (Value.int .i64 (parseP _).2.1) = _; rw [hPB]), (by show some (Value.int .i64 (parseP _).2.2) = _; rw [hPB]), trivial⟩ ?_
    refine gk_seq ?_
    refine gk_region ?_
    refine gk_y rfl rfl (y_move rfl) ?_
    refine gk_y rfl rfl (y_eql rfl rfl) ?_
    refine gk_y rfl rfl (y_move rfl) ?_
    refine gk_guard rfl rfl rfl rfl (fun _ => ?_) (fun h => absurd h (by decide))
    refine gk_y rfl rfl (y_move rfl) ?_
    refine gk_guard rfl rfl rfl rfl (fun _ => ?_) (fun h => absurd h (by decide))
    refine gk_y rfl rfl (y_eql rfl rfl) ?_
    refine gk_y rfl rfl (y_pick rfl rfl rfl) ?_
    refine gk_y rfl rfl (y_move rfl) ?_
    refine gk_guard rfl rfl rfl rfl (fun _ => ?_) (fun h => absurd h (by decide))
    refine gk_y rfl rfl (y_move rfl) ?_
    refine gk_guard rfl rfl rfl rfl (fun _ => ?_) (fun h => absurd h (by decide))
    refine gk_y rfl rfl (y_eql rfl rfl) ?_
    refine gk_y rfl rfl (y_pick rfl rfl rfl) ?_
    refine gk_y rfl rfl (y_move rfl) ?_
    refine gk_guard rfl rfl rfl rfl (fun _ => ?_) (fun h => absurd h (by decide))
    refine gk_y rfl rfl (y_move rfl) ?_
    refine gk_guard rfl rfl rfl rfl (fun _ => ?_) (fun h => absurd h (by decide))
    refine gk_y rfl rfl (y_move rfl) ?_
    refine gk_guard rfl rfl rfl rfl (fun _ => ?_) (fun h => absurd h (by decide))
    refine gk_y rfl rfl (y_castT (b := (sameAllB p26.1.2.2 L)) (y_call en15 rfl (fun w hw => sameall_c _ _ p26.1.2.2 _ _ L w (has_row encSC_ok (hw.has (p := 0) rfl)) (fun z hz => shps_has (hw.has (p := 1) rfl) hz) hsO hssO (Rd.has (Has.rd hl) hw) (fun z hz => Rd.has (Has.rd (hsh z hz)) hw) hss)) (by exact sameAll_plain hplO)) ?_
    refine gk_y rfl rfl (y_pick rfl rfl rfl) ?_
    refine gk_y rfl rfl (y_move rfl) ?_
    refine gk_guard rfl rfl rfl rfl (fun _ => ?_) (fun h => absurd h (by decide))
    refine gk_y rfl rfl (y_call en6 rfl (fun w hw => wakes_c w (Rd.has (Has.rd hways) hw))) ?_
    refine gk_y rfl rfl (y_pick rfl rfl rfl) ?_
    refine gk_y rfl rfl (y_assign rfl) ?_
    refine gk_nil (gk_sub (T' := [(2,_)]) ⟨rfl, trivial⟩ ?_)
    refine gk_ret ?_
    refine gk_pure (rv_one rfl (r1_tmp rfl)) ?_
    rfl
end Go.Proofs.YtmpaebfjnjmmlaaGreatDoor
