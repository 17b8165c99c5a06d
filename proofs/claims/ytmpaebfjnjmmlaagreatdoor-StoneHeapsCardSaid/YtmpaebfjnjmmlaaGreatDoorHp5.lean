/- What the proof of the root text leans on, part 5: the layer, plain facts and walks. No statement of the seat is proved in this text. -/
import Derived.Lib.ItoaLen
import Derived.Test.YtmpaebfjnjmmlaaGreatDoorHp4
namespace Go.Proofs.YtmpaebfjnjmmlaaGreatDoor
open Go.K Go.Stn Go.RowKit
theorem en30 : En Tryz.prog 30 := en_of Tryz.func30 (by kernel_rfl) (by kernel_rfl)
theorem en31 : En Tryz.prog 31 := en_of Tryz.func31 (by kernel_rfl) (by kernel_rfl)
theorem en32 : En Tryz.prog 32 := en_of Tryz.func32 (by kernel_rfl) (by kernel_rfl)
def sortedP (L : List SC) : List Stn := if heapI L = 0 then plainL (insN L L.length) else []
theorem plain_lenL {L M : List SC} (h : plainL M = plainL L) : M.length = L.length := by
  have := congrArg List.length h
  simpa using this
theorem plain_small {L M : List SC} (h : plainL M = plainL L) (hss : ∀ z ∈ L, Small z.s.shape.length) : ∀ z ∈ M, Small z.s.shape.length := fun z hz => by
  have : z.s ∈ plainL L := by rw [← h]; exact List.mem_map.2 ⟨z, hz, rfl⟩
  obtain ⟨y, hy, e⟩ := List.mem_map.1 this
  rw [← e]; exact hss y hy
theorem getD_drop {L M : List SC} {n : Nat} (h : M.drop n = L.drop n) (_ : n < L.length) (_ : M.length = L.length) : M.getD n default = L.getD n default := by
  have := congrArg (fun z : List SC => z[0]?) h
  simp only [List.getElem?_drop, Nat.add_zero] at this
  rw [List.getD_eq_getElem?_getD, List.getD_eq_getElem?_getD, this]
theorem plain_set {L M : List SC} {n : Nat} (h : plainL M = plainL L) (a : Option Addr) (c : Nat) : plainL (M.set n ⟨(M.getD n default).s, a, c⟩) = plainL L := by
  rw [← h]
  unfold plainL
  rw [List.map_set]
  apply List.ext_getElem?
  intro i
  rw [List.getElem?_set]
  split
  · rename_i hi
    subst hi
    split
    · rename_i hl; simp at hl; simp [hl]
    · rename_i hl; simp at hl; simp [hl]
  · rfl
theorem take_set {M : List SC} {i : Int} {z : SC} (h0 : 0 ≤ i) (h1 : i < (M.length : Int)) : (M.set i.toNat z).take (i + 1).toNat = M.take i.toNat ++ [z] := by
  have e := take_succ (l := M.set i.toNat z) (i := i) h0 (by simpa using h1)
  rw [e, List.take_set_of_le (Nat.le_refl _)]
  congr 1
  simp [show i.toNat < M.length from by omega]
theorem drop_set {L M : List SC} {i : Int} {z : SC} (h0 : 0 ≤ i) (h : M.drop i.toNat = L.drop i.toNat) : (M.set i.toNat z).drop (i + 1).toNat = L.drop (i + 1).toNat := by
  rw [List.drop_set_of_lt (by omega), show (i + 1).toNat = i.toNat + 1 from by omega, ← List.drop_drop, h, List.drop_drop]
set_option maxRecDepth 100000 in
set_option maxHeartbeats 1000000 in
theorem sorted_c (a : Option Addr) (cap : Nat) (L : List SC) (w : World) (hl : Has w (Elems a 6 encSC L)) (hsh : ∀ z ∈ L, Has w (Pts z.a z.s.shape)) (hs : Small L.length) (hss : ∀ z ∈ L, Small z.s.shape.length) :
    Calls Tryz.prog 10 #[.slice a L.length cap] w (Gives (fun z : {z : Option Addr × Nat × List SC × List SC // plainL z.2.2.1 = sortedP L ∧ ∀ x ∈ z.2.2.1, x ∈ z.2.2.2} => .tuple #[.slice z.1.1 z.1.2.2.1.length z.1.2.1, .int .i64 (heapI L)]) (fun z => SepR [Row z.1.1 6 z.1.2.1 52 encSC z.1.2.2.1, Shps 50 z.1.2.2.2]) w) := by
  refine calls_of_gk (vs := [_]) Tryz.func10 rfl rfl (Nat.le_of_ble_eq_true rfl) ?_
  refine gk_seq ?_
  refine gk_region ?_
  refine gk_y rfl rfl (y_assign rfl) ?_
  refine gk_y rfl rfl (y_assign rfl) ?_
  refine gk_nil (gk_sub (T' := [(0,_), (2,_), (3,_)]) ⟨rfl, rfl, rfl, trivial⟩ ?_)
  refine gk_seq ?_
  refine gk_seq ?_
  refine gk_region ?_
  refine gk_y rfl rfl (y_move rfl) ?_
  refine gk_y rfl rfl (y_call en12 rfl (fun w hw => checkheap_c _ _ L w (Rd.has (Has.rd hl) hw) (fun z hz => Rd.has (Has.rd (hsh z hz)) hw) (by assumption) (by assumption))) ?_
  refine gk_y rfl rfl (y_assign rfl) ?_
  refine gk_nil (gk_sub (T' := [(0,_), (2,_), (3,_), (4,_)]) ⟨rfl, rfl, rfl, rfl, trivial⟩ ?_)
  refine gk_seq ?_
  refine gk_region ?_
  refine gk_y rfl rfl (y_move rfl) ?_
  refine gk_y rfl rfl (y_neq rfl rfl) ?_
  refine gk_nil (gk_sub (T' := [(0,_), (2,_), (3,_), (4,_), (10,_)]) ⟨rfl, rfl, rfl, rfl, rfl, trivial⟩ ?_)
  refine gk_cond rfl (fun hc10 => ?_) (fun hc10 => ?_)
  · have hE : ¬ heapI L = 0 := by simpa using hc10
    refine gk_newShps 50 ?_
    refine gk_newNil 52 encSC 6 ?_
    refine gk_front 1 rfl ?_
    refine gk_front 1 rfl ?_
    refine gk_pack 2 ?_
    refine gk_seq ?_
    refine gk_region ?_
    refine gk_y rfl rfl (y_move rfl) ?_
    refine gk_y rfl rfl (y_assign rfl) ?_
    refine gk_y rfl rfl (y_assign rfl) ?_
    refine gk_nil (gk_sub (T' := [(0,_), (2,_), (3,_)]) ⟨rfl, rfl, rfl, trivial⟩ ?_)
    refine gk_ret ?_
    refine gk_gives ⟨(none, 0, [], []), by rw [sortedP, if_neg hE]; rfl, fun _ h => by cases h⟩ 0 (rv_two rfl (r1_tmp rfl) (r1_tmp rfl)) ?_ rfl
    rfl
  · have hE : heapI L = 0 := by simpa using hc10
    refine gk_skip ?_
    refine gk_seq ?_
    refine gk_region ?_
    refine gk_y rfl rfl (y_move rfl) ?_
    refine gk_yx rfl rfl (yx_call en30 rfl (fun w hw => clones_c _ _ L w (Rd.has (Has.rd hl) hw) (by assumption))) fun p13 => ?_
    refine gk_y rfl rfl (y_assign rfl) ?_
    refine gk_nil (gk_sub (T' := [(2,_), (3,_), (5,_)]) ⟨rfl, rfl, rfl, trivial⟩ ?_)
    refine gk_seq ?_
    refine gk_seq ?_
    refine gk_region ?_
    refine gk_y rfl rfl (y_move rfl) ?_
    refine gk_y rfl rfl (y_lenS (Tryz.underlying29) rfl) ?_
    refine gk_y rfl rfl (y_move rfl) ?_
    refine gk_nil (gk_sub (T' := [(2,_), (3,_), (5,_), (15,_), (16,_)]) ⟨rfl, rfl, rfl, rfl, rfl, trivial⟩ ?_)
    refine gk_block ?_
    refine gk_newShps 50 ?_
    refine gk_loop (X := Int × List SC) (fun ⟨i, M⟩ => [(2, .slice none 0 0), (3, .int .i64 0), (5, .slice p13.1 M.length p13.2), (15, .int .i64 (L.length : Int)), (16, .int .i64 i)]) (fun ⟨i, M⟩ => [Shps 50 (M.take i.toNat), Row p13.1 6 p13.2 52 encSC M]) (fun ⟨i, M⟩ => (0 ≤ i ∧ i ≤ L.length ∧ plainL M = plainL L ∧ M.drop i.toNat = L.drop i.toNat)) (fun ⟨i, M⟩ => (L.length - i).toNat) (0, L) ⟨rfl, rfl, rfl, rfl, rfl, trivial⟩ rfl ?_ ?_
    · exact ⟨by omega, by omega, rfl, rfl⟩
    · rintro ⟨i, M⟩ hI
      obtain ⟨g0, g1, g2, g3⟩ := hI
      have g4 := plain_lenL g2
      have hsM := plain_small g2 hss
      refine gk_seq ?_
      refine gk_region ?_
      refine gk_y rfl rfl (y_lss rfl rfl) ?_
      refine gk_nil (gk_sub (T' := [(2,_), (3,_), (5,_), (15,_), (16,_), (17,_)]) ⟨rfl, rfl, rfl, rfl, rfl, rfl, trivial⟩ ?_)
      refine gk_seq ?_
      refine gk_cond rfl (fun hc17 => ?_) (fun hc17 => ?_)
      · have hc17 := of_decide_eq_true hc17
        have hMi := getD_drop g3 (by omega) g4
        have hMs : Has w (Pts (M.getD (i).toNat default).a (M.getD (i).toNat default).s.shape) := by rw [hMi]; exact hsh _ (getD_memS (by omega))
        refine gk_skip ?_
        refine gk_seq ?_
        refine gk_block ?_
        refine gk_seq ?_
        refine gk_region ?_
        refine gk_y rfl rfl (y_move rfl) ?_
        refine gk_y rfl rfl (y_assign rfl) ?_
        refine gk_nil (gk_sub (T' := [(2,_), (3,_), (5,_), (6,_), (15,_), (16,_)]) ⟨rfl, rfl, rfl, rfl, rfl, rfl, trivial⟩ ?_)
        refine gk_region ?_
        refine gk_y rfl rfl (y_move rfl) ?_
        refine gk_y rfl rfl (y_move rfl) ?_
        refine gk_y rfl rfl (y_move rfl) ?_
        refine gk_y rfl rfl (y_move rfl) ?_
        refine gk_y rfl rfl (y_indexE se29 rfl rfl (fun _ hw => (has_row encSC_ok (hw.has (p := 1) rfl))) (by omega) (by omega)) ?_
        refine gk_y rfl rfl (y_fieldE fo52_1 rfl (fun w hw => elems_addr (i := i) (has_row encSC_ok (hw.has (p := 1) rfl)) (by omega) (by omega))) ?_
        refine gk_y rfl rfl (y_loadEF tf49 rfl (fun _ hw => (has_row encSC_ok (hw.has (p := 1) rfl))) (by omega) (by omega) rfl) ?_
        refine gk_yx rfl rfl (yx_call en31 rfl (fun w hw => clonep_c _ _ ((M.getD (i).toNat default).s.shape) w (Rd.has (Has.rd hMs) hw) (hsM _ (getD_memS (by omega))))) fun p26 => ?_
        refine gk_y rfl rfl (y_indexE se29 rfl rfl (fun _ hw => (has_row encSC_ok (hw.has (p := 2) rfl))) (by omega) (by omega)) ?_
        refine gk_y rfl rfl (y_fieldE fo52_1 rfl (fun w hw => elems_addr (i := i) (has_row encSC_ok (hw.has (p := 2) rfl)) (by omega) (by omega))) ?_
        refine gk_storeEF (x' := (⟨(M.getD (i).toNat default).s, p26.1, p26.2⟩ : SC)) 2 encSC_ok tf49 rfl rfl (vs := [_]) rfl rfl (by decide) rfl rfl (by omega) (by omega) ?_
        refine gk_nil (gk_sub (T' := [(2,_), (3,_), (5,_), (15,_), (16,_)]) ⟨rfl, rfl, rfl, rfl, rfl, trivial⟩ ?_)
        refine gk_front 1 rfl ?_
        refine gk_pack 2 ?_
        refine gk_conv (R' := Shps 50 ((M.take i.toNat) ++ [(⟨(M.getD (i).toNat default).s, p26.1, p26.2⟩ : SC)])) 0 rfl (fun B w hA => shps_snoc (z := (⟨(M.getD (i).toNat default).s, p26.1, p26.2⟩ : SC)) hA) ?_
        refine gk_conv (R' := Shps 50 ((M.set (i).toNat (⟨(M.getD (i).toNat default).s, p26.1, p26.2⟩ : SC)).take (i + 1).toNat)) 0 rfl (fun B w hA => by rw [take_set g0 (by omega)]; exact hA) ?_
        refine gk_sub (T' := [(2,_), (3,_), (5, .slice p13.1 (M.set (i).toNat (⟨(M.getD (i).toNat default).s, p26.1, p26.2⟩ : SC)).length p13.2), (15,_), (16,_)]) ⟨rfl, rfl, (by rw [List.length_set]; rfl), rfl, rfl, trivial⟩ ?_
        refine gk_region ?_
        refine gk_y rfl rfl (y_addI rfl rfl (by omega) (by omega)) ?_
        refine gk_y rfl rfl (y_move rfl) ?_
        refine gk_nil (gk_sub (T' := [(2,_), (3,_), (5,_), (15,_), (16,_)]) ⟨rfl, rfl, rfl, rfl, rfl, trivial⟩ ?_)
        exact gk_next (i + 1, (M.set (i).toNat (⟨(M.getD (i).toNat default).s, p26.1, p26.2⟩ : SC))) ⟨rfl, rfl, rfl, rfl, rfl, trivial⟩ rfl ⟨by omega, by omega, plain_set g2 _ _, drop_set g0 g3⟩ (by simp only []; omega)
      · have hc17 := of_decide_eq_false hc17
        have hnd := apart_plain g2 (heap_names hE)
        refine gk_conv (R' := Shps 50 M) 0 rfl (fun B w hA => by rw [List.take_of_length_le (by omega)] at hA; exact hA) ?_
        refine gk_exit rfl ?_
        refine gk_seq ?_
        refine gk_region ?_
        refine gk_y rfl rfl (y_move rfl) ?_
        refine gk_callU 1 en32 rfl rfl rfl (fun w B hF => sort_c _ _ M w B (fun k hk => (hF.own k hk).2) hF.A (hF.other 0 rfl) hsM hnd (by unfold Small at hs; omega)) fun u31 hq31 => ?_
        refine gk_nil (gk_sub (T' := [(2,_), (3,_), (5,_)]) ⟨rfl, rfl, rfl, trivial⟩ ?_)
        refine gk_front 1 rfl ?_
        refine gk_pack 2 ?_
        refine gk_seq ?_
        refine gk_region ?_
        refine gk_y rfl rfl (y_move rfl) ?_
        refine gk_y rfl rfl (y_assign rfl) ?_
        refine gk_y rfl rfl (y_assign rfl) ?_
        refine gk_nil (gk_sub (T' := [(2,_), (3,_)]) ⟨rfl, rfl, trivial⟩ ?_)
        refine gk_ret ?_
        refine gk_gives ⟨(p13.1, p13.2, sortS M, M), by rw [sortedP, if_pos hE]; exact sorts_eq g2 hE, fun _ h => sortS_mem.1 h⟩ 0 (rv_two rfl (r1_tmp rfl) (r1_tmp rfl)) ?_ rfl
        show Value.tuple #[.slice p13.1 M.length p13.2, .int .i64 0] = .tuple #[.slice p13.1 (sortS M).length p13.2, .int .i64 (heapI L)]
        rw [sortS_len, hE]
end Go.Proofs.YtmpaebfjnjmmlaaGreatDoor

namespace Go.Stn
open Go Go.K Go.RowKit Go.Proofs
abbrev bs (l : List UInt8) : ByteArray := ⟨l.toArray⟩
theorem bs_size (l : List UInt8) : (bs l).size = l.length := by show l.toArray.size = _; simp
theorem bs_app (l : List UInt8) (b : ByteArray) : bs l ++ b = bs (l ++ b.data.toList) := by
  apply Go.WideShapes.bytes_inj
  simp
theorem data_app (a b : ByteArray) : (a ++ b).data.toList = a.data.toList ++ b.data.toList := by simp
theorem data_itoa (n : Int) : (itoaB n).data.toList = Lib.itoa n := by unfold itoaB; simp
theorem itoaB_size (n : Int) : (itoaB n).size = (Lib.itoa n).length := bs_size _
theorem itoaB_le {n : Int} (h0 : -9223372036854775808 ≤ n) (h1 : n ≤ 9223372036854775807) : (itoaB n).size ≤ 21 := by rw [itoaB_size]; exact Lib.itoa_length_le n h0 h1
/-- a number, behind a blank -/
abbrev wordL (n : Int) : List UInt8 := 32 :: Lib.itoa n
def numsL (s : Stn) : List Int := [s.depth, s.density, s.grain.x, s.grain.z] ++ s.shape.flatMap fun p => [p.x, p.z]
def numsN (s : Stn) (k : Nat) : List Int := [s.depth, s.density, s.grain.x, s.grain.z] ++ (s.shape.take k).flatMap fun p => [p.x, p.z]
def wordsL (l : List Int) : List UInt8 := l.flatMap wordL
def lineL (s : Stn) : List UInt8 := s.name.data.toList ++ wordsL (numsL s) ++ [10]
def printL (L : List SC) : List UInt8 := L.flatMap fun z => lineL z.s
theorem numsN_all {s : Stn} {k : Int} (h0 : 0 ≤ k) (h : ¬ k < (s.shape.length : Int)) : numsN s k.toNat = numsL s := by
  unfold numsN numsL
  rw [List.take_of_length_le (by omega)]
theorem numsN_succ {s : Stn} {k : Int} (h0 : 0 ≤ k) (h1 : k < (s.shape.length : Int)) : numsN s (k + 1).toNat = numsN s k.toNat ++ [(s.shape.getD k.toNat default).x, (s.shape.getD k.toNat default).z] := by
  unfold numsN
  rw [take_succ h0 h1, List.flatMap_append, ← List.append_assoc]
  simp [List.flatMap_cons]
theorem flat2_len (l : List Pt) : (l.flatMap fun p => [p.x, p.z]).length = 2 * l.length := by
  induction l with
  | nil => rfl
  | cons a r ih => simp only [List.flatMap_cons, List.length_append, List.length_cons, List.length_nil, ih]; omega
theorem numsN_len (s : Stn) (k : Nat) : (numsN s k).length ≤ 4 + 2 * s.shape.length := by
  unfold numsN
  rw [List.length_append, flat2_len, List.length_take]
  simp only [List.length_cons, List.length_nil]
  omega
theorem numsL_len (s : Stn) : (numsL s).length = 4 + 2 * s.shape.length := by
  unfold numsL
  rw [List.length_append, flat2_len]
  simp only [List.length_cons, List.length_nil]
theorem wordsL_succ {l : List Int} {j : Int} (h0 : 0 ≤ j) (h1 : j < (l.length : Int)) : wordsL (l.take (j + 1).toNat) = wordsL (l.take j.toNat) ++ wordL (l.getD j.toNat default) := by
  unfold wordsL
  rw [take_succ h0 h1, List.flatMap_append]; simp
theorem printL_succ {L : List SC} {i : Int} (h0 : 0 ≤ i) (h1 : i < (L.length : Int)) : printL (L.take (i + 1).toNat) = printL (L.take i.toNat) ++ lineL (L.getD i.toNat default).s := by
  unfold printL
  rw [take_succ h0 h1, List.flatMap_append]; simp
theorem printL_all {L : List SC} {i : Int} (h0 : 0 ≤ i) (h : ¬ i < (L.length : Int)) : printL (L.take i.toNat) = printL L := by rw [List.take_of_length_le (by omega)]
/-- the numbers of a good stone -/
theorem check_nums {s : Stn} (h : checkI s = 0) : ∀ n ∈ numsL s, -10000 ≤ n ∧ n ≤ 10000 := by
  obtain ⟨h1, h2⟩ := check_in h
  have h3 := check_good h
  unfold badB at h3
  simp only [Bool.or_eq_false_iff, Bool.not_eq_false', Bool.and_eq_true, decide_eq_true_eq] at h3
  unfold inR at h1 h2
  intro n hn
  unfold numsL at hn
  rcases List.mem_append.1 hn with hn | hn
  · simp only [List.mem_cons, List.not_mem_nil, or_false] at hn
    rcases hn with rfl | rfl | rfl | rfl <;> omega
  · obtain ⟨p, hp, hn⟩ := List.mem_flatMap.1 hn
    have := h1 p hp
    simp only [List.mem_cons, List.not_mem_nil, or_false] at hn
    rcases hn with rfl | rfl <;> omega
theorem wordL_le {n : Int} (h : -10000 ≤ n ∧ n ≤ 10000) : (wordL n).length ≤ 22 := by
  have := Lib.itoa_length_le n (by omega) (by omega)
  simp only [List.length_cons]; omega
theorem wordsL_le : ∀ {l : List Int}, (∀ n ∈ l, -10000 ≤ n ∧ n ≤ 10000) → (wordsL l).length ≤ 22 * l.length
  | [], _ => by simp [wordsL]
  | n :: r, h => by
    have h1 := wordL_le (h n (by simp))
    have h2 := wordsL_le (l := r) fun m hm => h m (by simp [hm])
    have e : wordsL (n :: r) = wordL n ++ wordsL r := by unfold wordsL; simp [List.flatMap_cons]
    rw [e, List.length_append]; simp only [List.length_cons] at h1 ⊢; omega
theorem words_part {s : Stn} (h : checkI s = 0) (j : Nat) : (wordsL ((numsL s).take j)).length ≤ 700 := by
  have h1 := wordsL_le (l := (numsL s).take j) fun n hn => check_nums h n (List.mem_of_mem_take hn)
  have h2 := numsL_len s
  have h3 := check_len h
  have h4 : ((numsL s).take j).length ≤ (numsL s).length := by rw [List.length_take]; omega
  omega
theorem line_le {s : Stn} (h : checkI s = 0) : (lineL s).length ≤ 800 := by
  have h1 := words_part h (numsL s).length
  rw [List.take_length] at h1
  have h2 := check_named h
  have h3 : s.name.data.toList.length = s.name.size := by rw [Array.length_toList]; rfl
  unfold lineL
  simp only [List.length_append, List.length_cons, List.length_nil]
  omega
theorem print_le : ∀ {L : List SC}, (∀ z ∈ L, checkI z.s = 0) → (printL L).length ≤ 800 * L.length
  | [], _ => by simp [printL]
  | z :: r, h => by
    have h1 := line_le (h z (by simp))
    have h2 := print_le (L := r) fun m hm => h m (by simp [hm])
    have e : printL (z :: r) = lineL z.s ++ printL r := by unfold printL; simp [List.flatMap_cons]
    rw [e, List.length_append]; simp only [List.length_cons] at h1 ⊢; omega
theorem print_part {L : List SC} (h : ∀ z ∈ L, checkI z.s = 0) (hl : L.length ≤ 200) (n : Nat) : (printL (L.take n)).length ≤ 160000 := by
  have h1 := print_le (L := L.take n) fun z hz => h z (List.mem_of_mem_take hz)
  have h2 : (L.take n).length ≤ L.length := by rw [List.length_take]; omega
  omega
/-- each stone of a heap is good -/
theorem heap_checks {L : List SC} (h : heapI L = 0) : (∀ z ∈ L, checkI z.s = 0) ∧ L.length ≤ 200 := by
  unfold heapI at h
  have h2 : ¬ (List.range L.length).any (badAt L) = true := fun e => by rw [if_pos e] at h; cases h
  have h3 : ∀ j, j < L.length → badAt L j = false := fun j hj => by
    rw [Bool.eq_false_iff]
    exact fun e => h2 (List.any_eq_true.2 ⟨j, List.mem_range.2 hj, e⟩)
  refine ⟨fun z hz => ?_, ?_⟩
  · obtain ⟨j, hj, rfl⟩ := List.getElem_of_mem hz
    have hb := h3 j hj
    unfold badAt at hb
    rw [Bool.or_eq_false_iff, Bool.or_eq_false_iff, Bool.not_eq_false', decide_eq_true_eq] at hb
    rw [show L.getD j default = L[j] from by simp [hj]] at hb
    exact hb.1.1
  · rcases Nat.eq_zero_or_pos L.length with h0 | h0
    · omega
    · have hb := h3 0 h0
      unfold badAt at hb
      rw [Bool.or_eq_false_iff, decide_eq_false_iff_not] at hb
      omega
/-- what the document's own program writes -/
theorem rhead_eq (l : List UInt8) (s : Stn) : bs l ++ ((((((((s.name ++ ⟨#[32]⟩) ++ itoaB s.depth) ++ ⟨#[32]⟩) ++ itoaB s.density) ++ ⟨#[32]⟩) ++ itoaB s.grain.x) ++ ⟨#[32]⟩) ++ itoaB s.grain.z) = bs (l ++ s.name.data.toList ++ wordsL (numsN s 0)) := by
  rw [bs_app]
  simp only [data_app, data_itoa, numsN, wordsL, List.take_zero, List.flatMap_nil, List.append_nil, List.flatMap_cons, List.append_assoc, List.cons_append, List.nil_append]
theorem rpair_eq (l : List UInt8) (p : Pt) : bs l ++ (((⟨#[32]⟩ ++ itoaB p.x) ++ ⟨#[32]⟩) ++ itoaB p.z) = bs (l ++ wordsL [p.x, p.z]) := by
  rw [bs_app]
  simp only [data_app, data_itoa, wordsL, List.flatMap_nil, List.append_nil, List.flatMap_cons, List.append_assoc, List.cons_append, List.nil_append]
theorem check_four {s : Stn} (h : checkI s = 0) : (-10000 ≤ s.depth ∧ s.depth ≤ 10000) ∧ (-10000 ≤ s.density ∧ s.density ≤ 10000) ∧ (-10000 ≤ s.grain.x ∧ s.grain.x ≤ 10000) ∧ (-10000 ≤ s.grain.z ∧ s.grain.z ≤ 10000) :=
  ⟨check_nums h _ (by simp [numsL]), check_nums h _ (by simp [numsL]), check_nums h _ (by simp [numsL]), check_nums h _ (by simp [numsL])⟩
theorem check_point {s : Stn} (h : checkI s = 0) {k : Int} (h0 : 0 ≤ k) (h1 : k < (s.shape.length : Int)) : (-10000 ≤ (s.shape.getD k.toNat default).x ∧ (s.shape.getD k.toNat default).x ≤ 10000) ∧ (-10000 ≤ (s.shape.getD k.toNat default).z ∧ (s.shape.getD k.toNat default).z ≤ 10000) := by
  have := (check_in h).1 (s.shape.getD k.toNat default) (by simp [show k.toNat < s.shape.length from by omega])
  unfold inR at this
  omega
theorem words_partN {s : Stn} (h : checkI s = 0) (k : Nat) : (wordsL (numsN s k)).length ≤ 700 := by
  have e : numsN s k = (numsL s).take (4 + 2 * k) ∨ numsN s k = numsL s := by
    have key : ∀ (l : List Pt) (k : Nat), (l.take k).flatMap (fun p => [p.x, p.z]) = (l.flatMap fun p => [p.x, p.z]).take (2 * k) := by
      intro l
      induction l with
      | nil => intro k; simp
      | cons a r ih =>
        intro k
        cases k with
        | zero => simp
        | succ k => rw [List.take_succ_cons, List.flatMap_cons, List.flatMap_cons, ih, show 2 * (k + 1) = 2 * k + 1 + 1 from by omega]; rfl
    left
    unfold numsN numsL
    rw [key, show 4 + 2 * k = 2 * k + 1 + 1 + 1 + 1 from by omega]; rfl
  rcases e with e | e
  · rw [e]; exact words_part h _
  · rw [e]; have := words_part h (numsL s).length; rwa [List.take_length] at this
theorem rline_eq (l : List UInt8) (s : Stn) : bs (l ++ lineL s) = bs (l ++ s.name.data.toList ++ wordsL (numsL s)) ++ (⟨#[10]⟩ : ByteArray) := by
  rw [bs_app, lineL]; simp only [List.append_assoc]
theorem words_app (a b : List Int) : wordsL (a ++ b) = wordsL a ++ wordsL b := by unfold wordsL; rw [List.flatMap_append]
end Go.Stn

namespace Go.Proofs.YtmpaebfjnjmmlaaGreatDoor
open Go.K Go.Stn Go.RowKit
theorem tf66 : TF Tryz.prog 66 true 2 (.agg #[.pointer none, .slice none 0 0]) := ⟨by kernel_rfl, by kernel_rfl⟩
theorem af71 : AF Tryz.prog 71 3 1 8 [.int IntKind.i64 0] := ⟨Tryz.underlying71, by kernel_rfl, rfl⟩
theorem en26 : En Tryz.prog 26 := en_of Tryz.func26 (by kernel_rfl) (by kernel_rfl)
theorem en27 : En Tryz.prog 27 := en_of Tryz.func27 (by kernel_rfl) (by kernel_rfl)
theorem en28 : En Tryz.prog 28 := en_of Tryz.func28 (by kernel_rfl) (by kernel_rfl)
theorem bs71_4 (x0_0 : Int) (x1_0 : Int) (x2_0 : Int) (x3_0 : Int) (w : World) : (Instr.buildSlice 71 4 #[(0, .int .i64 x0_0), (1, .int .i64 x1_0), (2, .int .i64 x2_0), (3, .int .i64 x3_0)]).run Tryz.prog w = .ok (.slice (some ⟨w.heap.size, 0, none⟩) 4 4) (w.alloc (.cells (([x0_0, x1_0, x2_0, x3_0] : List (Int)).flatMap Go.Stn.encI).toArray 3)) := by kernel_rfl
theorem getD_memI {l : List Int} {i : Nat} (h : i < l.length) : l.getD i default ∈ l := by simp [h]
set_option maxRecDepth 100000 in
set_option maxHeartbeats 1000000 in
theorem print_c (a : Option Addr) (cap : Nat) (L : List SC) (w : World) (hl : Has w (Elems a 6 encSC L)) (hsh : ∀ z ∈ L, Has w (Pts z.a z.s.shape)) (hs : Small L.length) (hss : ∀ z ∈ L, Small z.s.shape.length) (hp10 : Has w (VarR 2 pow10V)) :
    Calls Tryz.prog 8 #[.slice a L.length cap] w (Pure (.tuple #[.string (if heapI L = 0 then bs (printL L) else ⟨#[]⟩), .int .i64 (heapI L)]) w) := by
  refine calls_of_gk (vs := [_]) Tryz.func8 rfl rfl (Nat.le_of_ble_eq_true rfl) ?_
  refine gk_seq ?_
  refine gk_region ?_
  refine gk_y rfl rfl (y_assign rfl) ?_
  refine gk_y rfl rfl (y_assign rfl) ?_
  refine gk_nil (gk_sub (T' := [(0,_), (2,_), (3,_)]) ⟨rfl, rfl, rfl, trivial⟩ ?_)
  refine gk_seq ?_
  refine gk_seq ?_
  refine gk_region ?_
  refine gk_y rfl rfl (y_move rfl) ?_
  refine gk_y rfl rfl (y_call en12 rfl (fun w hw => checkheap_c _ _ L w (Rd.has (Has.rd hl) hw) (fun z hz => Rd.has (Has.rd (hsh z hz)) hw) (by assumption) (by assumption))) ?_
  refine gk_y rfl rfl (y_assign rfl) ?_
  refine gk_nil (gk_sub (T' := [(0,_), (2,_), (3,_), (4,_)]) ⟨rfl, rfl, rfl, rfl, trivial⟩ ?_)
  refine gk_seq ?_
  refine gk_region ?_
  refine gk_y rfl rfl (y_move rfl) ?_
  refine gk_y rfl rfl (y_neq rfl rfl) ?_
  refine gk_nil (gk_sub (T' := [(0,_), (2,_), (3,_), (4,_), (16,_)]) ⟨rfl, rfl, rfl, rfl, rfl, trivial⟩ ?_)
  refine gk_cond rfl (fun hc16 => ?_) (fun hc16 => ?_)
  · have hE : ¬ heapI L = 0 := by simpa using hc16
    refine gk_seq ?_
    refine gk_region ?_
    refine gk_y rfl rfl (y_move rfl) ?_
    refine gk_y rfl rfl (y_assign rfl) ?_
    refine gk_y rfl rfl (y_assign rfl) ?_
    refine gk_nil (gk_sub (T' := [(0,_), (2,_), (3,_)]) ⟨rfl, rfl, rfl, trivial⟩ ?_)
    refine gk_ret ?_
    refine gk_pure (rv_two rfl (r1_tmp rfl) (r1_tmp rfl)) ?_
    rw [if_neg hE]
  · have hE : heapI L = 0 := by simpa using hc16
    have hgood := heap_checks hE
    refine gk_skip ?_
    refine gk_seq ?_
    refine gk_region ?_
    refine gk_yx rfl rfl (yx_alloc tf66 (zs := [_, _]) rfl) fun b5 => ?_
    refine gk_nil (gk_sub (T' := [(0,_), (2,_), (3,_), (5,_)]) ⟨rfl, rfl, rfl, rfl, trivial⟩ ?_)
    refine gk_conv (R' := Bld b5 66 5 (printL (L.take (0 : Int).toNat))) 0 rfl (fun B w hA => bld_new hA) ?_
    refine gk_seq ?_
    refine gk_seq ?_
    refine gk_region ?_
    refine gk_y rfl rfl (y_move rfl) ?_
    refine gk_y rfl rfl (y_lenS (Tryz.underlying29) rfl) ?_
    refine gk_y rfl rfl (y_move rfl) ?_
    refine gk_nil (gk_sub (T' := [(2,_), (3,_), (5,_), (18,_), (19,_), (20,_)]) ⟨rfl, rfl, rfl, rfl, rfl, rfl, trivial⟩ ?_)
    refine gk_block ?_
    refine gk_loop (X := Int) (fun (i : Int) => [(2, .string ⟨#[]⟩), (3, .int .i64 0), (5, .pointer (some ⟨b5, 0, none⟩)), (18, .slice a L.length cap), (19, .int .i64 (L.length : Int)), (20, .int .i64 i)]) (fun (i : Int) => [Bld b5 66 5 (printL (L.take i.toNat))]) (fun (i : Int) => (0 ≤ i ∧ i ≤ L.length)) (fun (i : Int) => (L.length - i).toNat) 0 ⟨rfl, rfl, rfl, rfl, rfl, rfl, trivial⟩ rfl ?_ ?_
    · exact ⟨by omega, by omega⟩
    · rintro i hI
      obtain ⟨g0, g1⟩ := hI
      have hP := print_part hgood.1 hgood.2 i.toNat
      refine gk_seq ?_
      refine gk_region ?_
      refine gk_y rfl rfl (y_lss rfl rfl) ?_
      refine gk_nil (gk_sub (T' := [(2,_), (3,_), (5,_), (18,_), (19,_), (20,_), (21,_)]) ⟨rfl, rfl, rfl, rfl, rfl, rfl, rfl, trivial⟩ ?_)
      refine gk_seq ?_
      refine gk_cond rfl (fun hc21 => ?_) (fun hc21 => ?_)
      · have hc21 := of_decide_eq_true hc21
        have hck := hgood.1 _ (getD_memS (l := L) (i := i.toNat) (by omega))
        have hnm := check_named hck
        have hnsz : ((L.getD (i).toNat default).s.name.data.size) = (L.getD (i).toNat default).s.name.size := rfl
        have hln := check_len hck
        refine gk_skip ?_
        refine gk_seq ?_
        refine gk_block ?_
        refine gk_seq ?_
        refine gk_region ?_
        refine gk_y rfl rfl (y_indexE se29 rfl rfl (fun _ hw => (Rd.has (Has.rd hl) hw)) (by omega) (by omega)) ?_
        refine gk_y rfl rfl (y_loadE (vs := [_, _, _, _, _, _]) tf52 rfl (fun _ hw => (Rd.has (Has.rd hl) hw)) (by omega) (by omega) rfl) ?_
        refine gk_yx rfl rfl (yx_alloc tf52 (zs := [_, _, _, _, _, _]) rfl) fun b7 => ?_
        refine gk_storeV 0 tf52 rfl rfl (vs := [_, _, _, _, _, _]) rfl rfl rfl rfl rfl ?_
        refine gk_nil (gk_sub (T' := [(2,_), (3,_), (5,_), (7,_), (18,_), (19,_), (20,_)]) ⟨rfl, rfl, rfl, rfl, rfl, rfl, rfl, trivial⟩ ?_)
        refine gk_seq ?_
        refine gk_region ?_
        refine gk_y rfl rfl (y_fieldAddr fo52_0 rfl) ?_
        refine gk_y rfl rfl (y_loadB1 0 tf9 rfl rfl rfl) ?_
        refine gk_callU 1 en26 rfl rfl rfl (fun w B hF => writeString_c _ _ _ w B (fun k hk => (hF.own k hk).2) hF.A (by omega)) fun u26 hq26 => ?_
        refine gk_nil (gk_sub (T' := [(2,_), (3,_), (5,_), (7,_), (18,_), (19,_), (20,_)]) ⟨rfl, rfl, rfl, rfl, rfl, rfl, rfl, trivial⟩ ?_)
        refine gk_seq ?_
        refine gk_region ?_
        refine gk_y rfl rfl (y_fieldAddr fo52_2 rfl) ?_
        refine gk_y rfl rfl (y_loadB1 0 tf3 rfl rfl rfl) ?_
        refine gk_y rfl rfl (y_fieldAddr fo52_3 rfl) ?_
        refine gk_y rfl rfl (y_loadB1 0 tf3 rfl rfl rfl) ?_
        refine gk_y rfl rfl (y_fieldAddr fo52_4 rfl) ?_
        refine gk_y rfl rfl (y_fieldAddr fo50_0 rfl) ?_
        refine gk_y rfl rfl (y_loadB1 0 tf3 rfl rfl rfl) ?_
        refine gk_y rfl rfl (y_fieldAddr fo52_4 rfl) ?_
        refine gk_y rfl rfl (y_fieldAddr fo50_1 rfl) ?_
        refine gk_y rfl rfl (y_loadB1 0 tf3 rfl rfl rfl) ?_
        refine gk_yx rfl rfl (yx_buildSlice rfl (bs71_4 _ _ _ _) Go.Stn.encI_ok rfl) fun b37 => ?_
        refine gk_y rfl rfl (y_assign rfl) ?_
        refine gk_nil (gk_sub (T' := [(2,_), (3,_), (5,_), (7,_), (8,_), (18,_), (19,_), (20,_)]) ⟨rfl, rfl, rfl, rfl, rfl, rfl, rfl, rfl, trivial⟩ ?_)
        refine gk_seq ?_
        refine gk_seq ?_
        refine gk_region ?_
        refine gk_y rfl rfl (y_fieldAddr fo52_1 rfl) ?_
        refine gk_y rfl rfl (y_loadB1 1 tf49 rfl rfl rfl) ?_
        refine gk_y rfl rfl (y_lenS (Tryz.underlying49) rfl) ?_
        refine gk_y rfl rfl (y_move rfl) ?_
        refine gk_nil (gk_sub (T' := [(2,_), (3,_), (5,_), (8,_), (18,_), (19,_), (20,_), (39,_), (40,_), (41,_)]) ⟨rfl, rfl, rfl, rfl, rfl, rfl, rfl, rfl, rfl, rfl, trivial⟩ ?_)
        refine gk_block ?_
        refine gk_loop (X := Int × Option Addr × Nat) (fun ⟨k, b, bc⟩ => [(2, .string ⟨#[]⟩), (3, .int .i64 0), (5, .pointer (some ⟨b5, 0, none⟩)), (8, .slice b (numsN (L.getD (i).toNat default).s k.toNat).length bc), (18, .slice a L.length cap), (19, .int .i64 (L.length : Int)), (20, .int .i64 i), (39, .slice (L.getD (i).toNat default).a (L.getD (i).toNat default).s.shape.length (L.getD (i).toNat default).cap), (40, .int .i64 ((L.getD (i).toNat default).s.shape.length : Int)), (41, .int .i64 k)]) (fun ⟨k, b, bc⟩ => [Row b 1 bc 3 Go.Stn.encI (numsN (L.getD (i).toNat default).s k.toNat), Box b7 [.string (L.getD (i).toNat default).s.name, .slice (L.getD (i).toNat default).a (L.getD (i).toNat default).s.shape.length (L.getD (i).toNat default).cap, .int .i64 ((L.getD (i).toNat default).s.depth), .int .i64 ((L.getD (i).toNat default).s.density), .int .i64 ((L.getD (i).toNat default).s.grain.x), .int .i64 ((L.getD (i).toNat default).s.grain.z)] 52, Bld b5 66 5 ((printL (L.take i.toNat)) ++ ((L.getD (i).toNat default).s.name).data.toList)]) (fun ⟨k, b, bc⟩ => (0 ≤ k ∧ k ≤ (L.getD (i).toNat default).s.shape.length)) (fun ⟨k, b, bc⟩ => ((L.getD (i).toNat default).s.shape.length - k).toNat) (0, some ⟨b37, 0, none⟩, 4) ⟨rfl, rfl, rfl, rfl, rfl, rfl, rfl, rfl, rfl, rfl, trivial⟩ rfl ?_ ?_
        · exact ⟨by omega, by omega⟩
        · rintro ⟨k, b, bc⟩ hI
          obtain ⟨k0, k1⟩ := hI
          have hnl := numsN_len (L.getD (i).toNat default).s k.toNat
          refine gk_seq ?_
          refine gk_region ?_
          refine gk_y rfl rfl (y_lss rfl rfl) ?_
          refine gk_nil (gk_sub (T' := [(2,_), (3,_), (5,_), (8,_), (18,_), (19,_), (20,_), (39,_), (40,_), (41,_), (42,_)]) ⟨rfl, rfl, rfl, rfl, rfl, rfl, rfl, rfl, rfl, rfl, rfl, trivial⟩ ?_)
          refine gk_seq ?_
          refine gk_cond rfl (fun hc42 => ?_) (fun hc42 => ?_)
          · have hc42 := of_decide_eq_true hc42
            refine gk_skip ?_
            refine gk_seq ?_
            refine gk_block ?_
            refine gk_seq ?_
            refine gk_region ?_
            refine gk_y rfl rfl (y_indexE se49 rfl rfl (fun _ hw => (Rd.has (Has.rd (hsh _ (getD_memS (by omega)))) hw)) (by omega) (by omega)) ?_
            refine gk_y rfl rfl (y_loadE (vs := [_, _]) tf50 rfl (fun _ hw => (Rd.has (Has.rd (hsh _ (getD_memS (by omega)))) hw)) (by omega) (by omega) rfl) ?_
            refine gk_yx rfl rfl (yx_alloc tf50 (zs := [_, _]) rfl) fun b10 => ?_
            refine gk_storeV 0 tf50 rfl rfl (vs := [_, _]) rfl rfl rfl rfl rfl ?_
            refine gk_nil (gk_sub (T' := [(2,_), (3,_), (5,_), (8,_), (10,_), (18,_), (19,_), (20,_), (39,_), (40,_), (41,_)]) ⟨rfl, rfl, rfl, rfl, rfl, rfl, rfl, rfl, rfl, rfl, rfl, trivial⟩ ?_)
            refine gk_region ?_
            refine gk_y rfl rfl (y_move rfl) ?_
            refine gk_y rfl rfl (y_fieldAddr fo50_0 rfl) ?_
            refine gk_y rfl rfl (y_loadB1 0 tf3 rfl rfl rfl) ?_
            refine gk_y rfl rfl (y_fieldAddr fo50_1 rfl) ?_
            refine gk_y rfl rfl (y_loadB1 0 tf3 rfl rfl rfl) ?_
            refine gk_yx rfl rfl (yx_buildSlice rfl (bs71_2 _ _) Go.Stn.encI_ok rfl) fun b50 => ?_
            refine gk_append (m := [(((L.getD (i).toNat default).s.shape.getD (k).toNat default).x), (((L.getD (i).toNat default).s.shape.getD (k).toNat default).z)]) 2 af71 Go.Stn.encI_ok rfl rfl rfl rfl (fun _ hw => (has_row Go.Stn.encI_ok (hw.has (p := 0) rfl))) (by first | omega | (simp only [List.length_cons, List.length_nil]; omega)) (by first | (unfold maxLen; omega) | (simp only [List.length_cons, List.length_nil, maxLen]; omega)) fun a51 c51 => ?_
            refine gk_y rfl rfl (y_assign rfl) ?_
            refine gk_nil (gk_sub (T' := [(2,_), (3,_), (5,_), (8,_), (18,_), (19,_), (20,_), (39,_), (40,_), (41,_)]) ⟨rfl, rfl, rfl, rfl, rfl, rfl, rfl, rfl, rfl, rfl, trivial⟩ ?_)
            refine gk_conv (R' := Row a51 1 c51 3 Go.Stn.encI (numsN (L.getD (i).toNat default).s (k + 1).toNat)) 2 rfl (fun B w hA => by rw [numsN_succ k0 hc42]; exact hA) ?_
            refine gk_sub (T' := [(2,_), (3,_), (5,_), (8, .slice a51 (numsN (L.getD (i).toNat default).s (k + 1).toNat).length c51), (18,_), (19,_), (20,_), (39,_), (40,_), (41,_)]) ⟨rfl, rfl, rfl, (by rw [numsN_succ k0 hc42]; rfl), rfl, rfl, rfl, rfl, rfl, rfl, trivial⟩ ?_
            refine gk_region ?_
            refine gk_y rfl rfl (y_addI rfl rfl (by omega) (by omega)) ?_
            refine gk_y rfl rfl (y_move rfl) ?_
            refine gk_nil (gk_sub (T' := [(2,_), (3,_), (5,_), (8,_), (18,_), (19,_), (20,_), (39,_), (40,_), (41,_)]) ⟨rfl, rfl, rfl, rfl, rfl, rfl, rfl, rfl, rfl, rfl, trivial⟩ ?_)
            refine gk_dropAt 0 rfl ?_
            refine gk_dropAt 0 rfl ?_
            exact gk_next (k + 1, a51, c51) ⟨rfl, rfl, rfl, rfl, rfl, rfl, rfl, rfl, rfl, rfl, trivial⟩ rfl ⟨by omega, by omega⟩ (by simp only []; omega)
          · have hc42 := of_decide_eq_false hc42
            have hka : numsN (L.getD (i).toNat default).s k.toNat = numsL (L.getD (i).toNat default).s := numsN_all k0 hc42
            refine gk_conv (R' := Row b 1 bc 3 Go.Stn.encI (numsL (L.getD (i).toNat default).s)) 0 rfl (fun B w hA => by rw [← hka]; exact hA) ?_
            refine gk_sub (T' := [(2,_), (3,_), (5,_), (8, .slice b (numsL (L.getD (i).toNat default).s).length bc), (18,_), (19,_), (20,_), (39,_), (40,_), (41,_), (42,_)]) ⟨rfl, rfl, rfl, (by rw [← hka]; rfl), rfl, rfl, rfl, rfl, rfl, rfl, rfl, trivial⟩ ?_
            refine gk_exit rfl ?_
            refine gk_seq ?_
            refine gk_seq ?_
            refine gk_region ?_
            refine gk_y rfl rfl (y_move rfl) ?_
            refine gk_y rfl rfl (y_lenS (Tryz.underlying71) rfl) ?_
            refine gk_y rfl rfl (y_move rfl) ?_
            refine gk_nil (gk_sub (T' := [(2,_), (3,_), (5,_), (18,_), (19,_), (20,_), (53,_), (54,_), (55,_)]) ⟨rfl, rfl, rfl, rfl, rfl, rfl, rfl, rfl, rfl, trivial⟩ ?_)
            refine gk_conv (R' := Bld b5 66 5 ((printL (L.take i.toNat)) ++ (L.getD (i).toNat default).s.name.data.toList ++ wordsL ((numsL (L.getD (i).toNat default).s).take (0 : Int).toNat))) 2 rfl (fun B w hA => by rw [show ((printL (L.take i.toNat)) ++ (L.getD (i).toNat default).s.name.data.toList ++ wordsL ((numsL (L.getD (i).toNat default).s).take (0 : Int).toNat)) = ((printL (L.take i.toNat)) ++ ((L.getD (i).toNat default).s.name).data.toList) from by exact List.append_nil _]; exact hA) ?_
            refine gk_block ?_
            refine gk_loop (X := Int) (fun (j : Int) => [(2, .string ⟨#[]⟩), (3, .int .i64 0), (5, .pointer (some ⟨b5, 0, none⟩)), (18, .slice a L.length cap), (19, .int .i64 (L.length : Int)), (20, .int .i64 i), (53, .slice b (numsL (L.getD (i).toNat default).s).length bc), (54, .int .i64 ((numsL (L.getD (i).toNat default).s).length : Int)), (55, .int .i64 j)]) (fun (j : Int) => [Row b 1 bc 3 Go.Stn.encI (numsL (L.getD (i).toNat default).s), Box b7 [.string (L.getD (i).toNat default).s.name, .slice (L.getD (i).toNat default).a (L.getD (i).toNat default).s.shape.length (L.getD (i).toNat default).cap, .int .i64 ((L.getD (i).toNat default).s.depth), .int .i64 ((L.getD (i).toNat default).s.density), .int .i64 ((L.getD (i).toNat default).s.grain.x), .int .i64 ((L.getD (i).toNat default).s.grain.z)] 52, Bld b5 66 5 ((printL (L.take i.toNat)) ++ (L.getD (i).toNat default).s.name.data.toList ++ wordsL ((numsL (L.getD (i).toNat default).s).take j.toNat))]) (fun (j : Int) => (0 ≤ j ∧ j ≤ (numsL (L.getD (i).toNat default).s).length)) (fun (j : Int) => ((numsL (L.getD (i).toNat default).s).length - j).toNat) 0 ⟨rfl, rfl, rfl, rfl, rfl, rfl, rfl, rfl, rfl, trivial⟩ rfl ?_ ?_
            · exact ⟨by omega, by omega⟩
            · rintro j hI
              obtain ⟨j0, j1⟩ := hI
              have hwp := words_part hck j.toNat
              have hnlen := numsL_len (L.getD (i).toNat default).s
              refine gk_seq ?_
              refine gk_region ?_
              refine gk_y rfl rfl (y_lss rfl rfl) ?_
              refine gk_nil (gk_sub (T' := [(2,_), (3,_), (5,_), (18,_), (19,_), (20,_), (53,_), (54,_), (55,_), (56,_)]) ⟨rfl, rfl, rfl, rfl, rfl, rfl, rfl, rfl, rfl, rfl, trivial⟩ ?_)
              refine gk_seq ?_
              refine gk_cond rfl (fun hc56 => ?_) (fun hc56 => ?_)
              · have hc56 := of_decide_eq_true hc56
                have hnr := check_nums hck _ (getD_memI (l := (numsL (L.getD (i).toNat default).s)) (i := j.toNat) (by omega))
                have hil := itoaB_le (n := (numsL (L.getD (i).toNat default).s).getD j.toNat default) (by omega) (by omega)
                refine gk_skip ?_
                refine gk_seq ?_
                refine gk_block ?_
                refine gk_seq ?_
                refine gk_region ?_
                refine gk_y rfl rfl (y_indexE se71 rfl rfl (fun _ hw => (has_row Go.Stn.encI_ok (hw.has (p := 0) rfl))) (by omega) (by omega)) ?_
                refine gk_y rfl rfl (y_loadE1 tf3 rfl (fun _ hw => (has_row Go.Stn.encI_ok (hw.has (p := 0) rfl))) (by omega) (by omega) rfl) ?_
                refine gk_y rfl rfl (y_assign rfl) ?_
                refine gk_nil (gk_sub (T' := [(2,_), (3,_), (5,_), (12,_), (18,_), (19,_), (20,_), (53,_), (54,_), (55,_)]) ⟨rfl, rfl, rfl, rfl, rfl, rfl, rfl, rfl, rfl, rfl, trivial⟩ ?_)
                refine gk_region ?_
                refine gk_y rfl rfl (y_move rfl) ?_
                refine gk_y rfl rfl (y_call en27 rfl (fun w hw => itoa_c ((numsL (L.getD (i).toNat default).s).getD (j).toNat default) w (Rd.has (Has.rd hp10) hw) (by omega) (by omega))) ?_
                refine gk_y rfl rfl (y_strAdd rfl rfl (by have e32 : (⟨#[32]⟩ : ByteArray).size = 1 := rfl; omega)) ?_
                refine gk_callU 2 en26 rfl rfl rfl (fun w B hF => writeString_c _ _ _ w B (fun k hk => (hF.own k hk).2) hF.A (by have e32 : (⟨#[32]⟩ : ByteArray).size = 1 := rfl; simp only [List.length_append, Array.length_toList, hnsz, ByteArray.size_append, e32]; omega)) fun u62 hq62 => ?_
                refine gk_nil (gk_sub (T' := [(2,_), (3,_), (5,_), (18,_), (19,_), (20,_), (53,_), (54,_), (55,_)]) ⟨rfl, rfl, rfl, rfl, rfl, rfl, rfl, rfl, rfl, trivial⟩ ?_)
                refine gk_conv (R' := Bld b5 66 5 ((printL (L.take i.toNat)) ++ (L.getD (i).toNat default).s.name.data.toList ++ wordsL ((numsL (L.getD (i).toNat default).s).take (j + 1).toNat))) 2 rfl (fun B w hA => by rw [show ((printL (L.take i.toNat)) ++ (L.getD (i).toNat default).s.name.data.toList ++ wordsL ((numsL (L.getD (i).toNat default).s).take (j + 1).toNat)) = (((printL (L.take i.toNat)) ++ (L.getD (i).toNat default).s.name.data.toList ++ wordsL ((numsL (L.getD (i).toNat default).s).take j.toNat)) ++ ((⟨#[32]⟩) ++ (itoaB ((numsL (L.getD (i).toNat default).s).getD (j).toNat default))).data.toList) from by rw [wordsL_succ j0 hc56, data_app, data_itoa, List.append_assoc, List.append_assoc, List.append_assoc]; rfl]; exact hA) ?_
                refine gk_region ?_
                refine gk_y rfl rfl (y_addI rfl rfl (by omega) (by omega)) ?_
                refine gk_y rfl rfl (y_move rfl) ?_
                refine gk_nil (gk_sub (T' := [(2,_), (3,_), (5,_), (18,_), (19,_), (20,_), (53,_), (54,_), (55,_)]) ⟨rfl, rfl, rfl, rfl, rfl, rfl, rfl, rfl, rfl, trivial⟩ ?_)
                exact gk_next (j + 1) ⟨rfl, rfl, rfl, rfl, rfl, rfl, rfl, rfl, rfl, trivial⟩ rfl ⟨by omega, by omega⟩ (by omega)
              · have hc56 := of_decide_eq_false hc56
                have hwp := words_part hck ((numsL (L.getD (i).toNat default).s)).length
                rw [List.take_length] at hwp
                refine gk_conv (R' := Bld b5 66 5 ((printL (L.take i.toNat)) ++ (L.getD (i).toNat default).s.name.data.toList ++ wordsL (numsL (L.getD (i).toNat default).s))) 2 rfl (fun B w hA => by rw [show ((printL (L.take i.toNat)) ++ (L.getD (i).toNat default).s.name.data.toList ++ wordsL (numsL (L.getD (i).toNat default).s)) = ((printL (L.take i.toNat)) ++ (L.getD (i).toNat default).s.name.data.toList ++ wordsL ((numsL (L.getD (i).toNat default).s).take j.toNat)) from by rw [List.take_of_length_le (l := (numsL (L.getD (i).toNat default).s)) (by omega)]]; exact hA) ?_
                refine gk_exit rfl ?_
                refine gk_region ?_
                refine gk_callU 2 en26 rfl rfl rfl (fun w B hF => writeString_c _ _ _ w B (fun k hk => (hF.own k hk).2) hF.A (by have e10 : (⟨#[10]⟩ : ByteArray).size = 1 := rfl; simp only [List.length_append, Array.length_toList, hnsz, e10]; omega)) fun u64 hq64 => ?_
                refine gk_nil (gk_sub (T' := [(2,_), (3,_), (5,_), (18,_), (19,_), (20,_)]) ⟨rfl, rfl, rfl, rfl, rfl, rfl, trivial⟩ ?_)
                refine gk_conv (R' := Bld b5 66 5 (printL (L.take (i + 1).toNat))) 2 rfl (fun B w hA => by rw [show (printL (L.take (i + 1).toNat)) = (((printL (L.take i.toNat)) ++ (L.getD (i).toNat default).s.name.data.toList ++ wordsL (numsL (L.getD (i).toNat default).s)) ++ (⟨#[10]⟩ : ByteArray).data.toList) from by rw [printL_succ g0 hc21, lineL]; simp only [List.append_assoc]]; exact hA) ?_
                refine gk_region ?_
                refine gk_y rfl rfl (y_addI rfl rfl (by omega) (by omega)) ?_
                refine gk_y rfl rfl (y_move rfl) ?_
                refine gk_nil (gk_sub (T' := [(2,_), (3,_), (5,_), (18,_), (19,_), (20,_)]) ⟨rfl, rfl, rfl, rfl, rfl, rfl, trivial⟩ ?_)
                refine gk_dropAt 0 rfl ?_
                refine gk_dropAt 0 rfl ?_
                exact gk_next (i + 1) ⟨rfl, rfl, rfl, rfl, rfl, rfl, trivial⟩ rfl ⟨by omega, by omega⟩ (by omega)
      · have hc21 := of_decide_eq_false hc21
        refine gk_exit rfl ?_
        refine gk_seq ?_
        refine gk_region ?_
        refine gk_callU 0 en28 rfl rfl rfl (fun w B hF => bstring_c _ _ w B (fun k hk => (hF.own k hk).2) hF.A (by omega)) fun u66 hq66 => ?_
        refine gk_y rfl rfl (y_assign rfl) ?_
        refine gk_y rfl rfl (y_assign rfl) ?_
        refine gk_nil (gk_sub (T' := [(2,_), (3,_)]) ⟨rfl, rfl, trivial⟩ ?_)
        refine gk_ret ?_
        refine gk_pure (rv_two rfl (r1_tmp rfl) (r1_tmp rfl)) ?_
        rw [if_pos hE, hE, printL_all g0 hc21]
end Go.Proofs.YtmpaebfjnjmmlaaGreatDoor

namespace Go.Proofs.YtmpaebfjnjmmlaaGreatDoor
open Go.K Go.Stn Go.RowKit
set_option maxRecDepth 100000 in
set_option maxHeartbeats 1000000 in
theorem rprint_c (a : Option Addr) (cap : Nat) (L : List SC) (w : World) (hl : Has w (Elems a 6 encSC L)) (hsh : ∀ z ∈ L, Has w (Pts z.a z.s.shape)) (hs : Small L.length) (hss : ∀ z ∈ L, Small z.s.shape.length) (hp10 : Has w (VarR 2 pow10V)) (hgood : (∀ z ∈ L, checkI z.s = 0) ∧ L.length ≤ 200) :
    Calls Tryz.prog 14 #[.slice a L.length cap] w (Pure (.string (bs (printL L))) w) := by
  refine calls_of_gk (vs := [_]) Tryz.func14 rfl rfl (Nat.le_of_ble_eq_true rfl) ?_
  refine gk_seq ?_
  refine gk_region ?_
  refine gk_y rfl rfl (y_assign rfl) ?_
  refine gk_nil (gk_sub (T' := [(0,_), (2,_)]) ⟨rfl, rfl, trivial⟩ ?_)
  refine gk_seq ?_
  refine gk_region ?_
  refine gk_y rfl rfl (y_assign rfl) ?_
  refine gk_nil (gk_sub (T' := [(0,_), (2,_), (3,_)]) ⟨rfl, rfl, rfl, trivial⟩ ?_)
  refine gk_seq ?_
  refine gk_seq ?_
  refine gk_region ?_
  refine gk_y rfl rfl (y_assign rfl) ?_
  refine gk_nil (gk_sub (T' := [(0,_), (2,_), (3,_), (4,_)]) ⟨rfl, rfl, rfl, rfl, trivial⟩ ?_)
  refine gk_block ?_
  refine gk_loop (X := Int) (fun (i : Int) => [(0, .slice a L.length cap), (2, .string ⟨#[]⟩), (3, .string (bs (printL (L.take i.toNat)))), (4, .int .i64 i)]) (fun (i : Int) => []) (fun (i : Int) => (0 ≤ i ∧ i ≤ L.length)) (fun (i : Int) => (L.length - i).toNat) 0 ⟨rfl, rfl, rfl, rfl, trivial⟩ rfl ?_ ?_
  · exact ⟨by omega, by omega⟩
  · rintro i hI
    obtain ⟨g0, g1⟩ := hI
    have hP := print_part hgood.1 hgood.2 i.toNat
    refine gk_seq ?_
    refine gk_seq ?_
    refine gk_region ?_
    refine gk_y rfl rfl (y_move rfl) ?_
    refine gk_y rfl rfl (y_move rfl) ?_
    refine gk_y rfl rfl (y_lenS (Tryz.underlying22) rfl) ?_
    refine gk_y rfl rfl (y_lss rfl rfl) ?_
    refine gk_nil (gk_sub (T' := [(0,_), (2,_), (3,_), (4,_), (10,_)]) ⟨rfl, rfl, rfl, rfl, rfl, trivial⟩ ?_)
    refine gk_cond rfl (fun hc10 => ?_) (fun hc10 => ?_)
    · have hc10 := of_decide_eq_true hc10
      have hck := hgood.1 _ (getD_memS (l := L) (i := i.toNat) (by omega))
      have hnm := check_named hck
      have hnsz : ((L.getD (i).toNat default).s.name.data.size) = (L.getD (i).toNat default).s.name.size := rfl
      have hln := check_len hck
      obtain ⟨q1, q2, q3, q4⟩ := check_four hck
      have z1 := itoaB_le (n := (L.getD (i).toNat default).s.depth) (by omega) (by omega)
      have z2 := itoaB_le (n := (L.getD (i).toNat default).s.density) (by omega) (by omega)
      have z3 := itoaB_le (n := (L.getD (i).toNat default).s.grain.x) (by omega) (by omega)
      have z4 := itoaB_le (n := (L.getD (i).toNat default).s.grain.z) (by omega) (by omega)
      refine gk_skip ?_
      refine gk_seq ?_
      refine gk_block ?_
      refine gk_seq ?_
      refine gk_region ?_
      refine gk_y rfl rfl (y_move rfl) ?_
      refine gk_y rfl rfl (y_move rfl) ?_
      refine gk_y rfl rfl (y_indexE se22 rfl rfl (fun _ hw => (Rd.has (Has.rd hl) hw)) (by omega) (by omega)) ?_
      refine gk_y rfl rfl (y_loadE (vs := [_, _, _, _, _, _]) tf28 rfl (fun _ hw => (Rd.has (Has.rd hl) hw)) (by omega) (by omega) rfl) ?_
      refine gk_yx rfl rfl (yx_alloc tf28 (zs := [_, _, _, _, _, _]) rfl) fun b5 => ?_
      refine gk_storeV 0 tf28 rfl rfl (vs := [_, _, _, _, _, _]) rfl rfl rfl rfl rfl ?_
      refine gk_nil (gk_sub (T' := [(0,_), (2,_), (3,_), (4,_), (5,_)]) ⟨rfl, rfl, rfl, rfl, rfl, trivial⟩ ?_)
      refine gk_seq ?_
      refine gk_any 27 (fun _ => mixed) (by kernel_rfl) ?_
      refine ph_y (y_move rfl) ?_
      refine ph_y (y_fieldAddr fo28_0 rfl) ?_
      refine ph_y (y_loadB1 0 tf9 rfl rfl rfl) ?_
      refine ph_y (y_strAdd rfl rfl (by simp only [ByteArray.size_append, bs_size, List.length_append, Array.length_toList, List.length_cons, List.length_nil]; omega)) ?_
      refine ph_y (y_fieldAddr fo28_2 rfl) ?_
      refine ph_y (y_loadB1 0 tf3 rfl rfl rfl) ?_
      refine ph_y (y_call en27 rfl (fun w hw => itoa_c ((L.getD (i).toNat default).s.depth) w (Rd.has (Has.rd hp10) hw) (by omega) (by omega))) ?_
      refine ph_y (y_strAdd rfl rfl (by simp only [ByteArray.size_append, bs_size, List.length_append, Array.length_toList, List.length_cons, List.length_nil]; omega)) ?_
      refine ph_y (y_strAdd rfl rfl (by simp only [ByteArray.size_append, bs_size, List.length_append, Array.length_toList, List.length_cons, List.length_nil]; omega)) ?_
      refine ph_y (y_fieldAddr fo28_3 rfl) ?_
      refine ph_y (y_loadB1 0 tf3 rfl rfl rfl) ?_
      refine ph_y (y_call en27 rfl (fun w hw => itoa_c ((L.getD (i).toNat default).s.density) w (Rd.has (Has.rd hp10) hw) (by omega) (by omega))) ?_
      refine ph_y (y_strAdd rfl rfl (by simp only [ByteArray.size_append, bs_size, List.length_append, Array.length_toList, List.length_cons, List.length_nil]; omega)) ?_
      refine ph_y (y_strAdd rfl rfl (by simp only [ByteArray.size_append, bs_size, List.length_append, Array.length_toList, List.length_cons, List.length_nil]; omega)) ?_
      refine ph_y (y_fieldAddr fo28_4 rfl) ?_
      refine ph_y (y_fieldAddr fo26_0 rfl) ?_
      refine ph_y (y_loadB1 0 tf3 rfl rfl rfl) ?_
      refine ph_y (y_call en27 rfl (fun w hw => itoa_c ((L.getD (i).toNat default).s.grain.x) w (Rd.has (Has.rd hp10) hw) (by omega) (by omega))) ?_
      refine ph_y (y_strAdd rfl rfl (by simp only [ByteArray.size_append, bs_size, List.length_append, Array.length_toList, List.length_cons, List.length_nil]; omega)) ?_
      refine ph_y (y_strAdd rfl rfl (by simp only [ByteArray.size_append, bs_size, List.length_append, Array.length_toList, List.length_cons, List.length_nil]; omega)) ?_
      refine ph_y (y_fieldAddr fo28_4 rfl) ?_
      refine ph_y (y_fieldAddr fo26_1 rfl) ?_
      refine ph_y (y_loadB1 0 tf3 rfl rfl rfl) ?_
      refine ph_y (y_call en27 rfl (fun w hw => itoa_c ((L.getD (i).toNat default).s.grain.z) w (Rd.has (Has.rd hp10) hw) (by omega) (by omega))) ?_
      refine ph_y (y_strAdd rfl rfl (by simp only [ByteArray.size_append, bs_size, List.length_append, Array.length_toList, List.length_cons, List.length_nil]; omega)) ?_
      refine ph_y (y_strAdd rfl rfl (by simp only [ByteArray.size_append, bs_size, List.length_append, Array.length_toList, List.length_cons, List.length_nil]; omega)) ?_
      refine ph_y (y_assign rfl) ?_
      refine gk_nil (gk_sub (T' := [(0,_), (2,_), (3,_), (4,_), (5,_)]) ⟨rfl, rfl, rfl, rfl, rfl, trivial⟩ ?_)
      refine gk_sub (T' := [(0,_), (2,_), (3, .string (bs ((printL (L.take i.toNat)) ++ (L.getD (i).toNat default).s.name.data.toList ++ wordsL (numsN (L.getD (i).toNat default).s (0 : Int).toNat)))), (4,_), (5,_)]) ⟨rfl, rfl, (by rw [show (0 : Int).toNat = 0 from rfl, ← rhead_eq]; rfl), rfl, rfl, trivial⟩ ?_
      refine gk_seq ?_
      refine gk_seq ?_
      refine gk_region ?_
      refine gk_y rfl rfl (y_assign rfl) ?_
      refine gk_nil (gk_sub (T' := [(0,_), (2,_), (3,_), (4,_), (5,_), (6,_)]) ⟨rfl, rfl, rfl, rfl, rfl, rfl, trivial⟩ ?_)
      refine gk_block ?_
      refine gk_loop (X := Int) (fun (k : Int) => [(0, .slice a L.length cap), (2, .string ⟨#[]⟩), (3, .string (bs ((printL (L.take i.toNat)) ++ (L.getD (i).toNat default).s.name.data.toList ++ wordsL (numsN (L.getD (i).toNat default).s k.toNat)))), (4, .int .i64 i), (5, .pointer (some ⟨b5, 0, none⟩)), (6, .int .i64 k)]) (fun (k : Int) => [Box b5 [.string (L.getD (i).toNat default).s.name, .slice (L.getD (i).toNat default).a (L.getD (i).toNat default).s.shape.length (L.getD (i).toNat default).cap, .int .i64 ((L.getD (i).toNat default).s.depth), .int .i64 ((L.getD (i).toNat default).s.density), .int .i64 ((L.getD (i).toNat default).s.grain.x), .int .i64 ((L.getD (i).toNat default).s.grain.z)] 28]) (fun (k : Int) => (0 ≤ k ∧ k ≤ (L.getD (i).toNat default).s.shape.length)) (fun (k : Int) => ((L.getD (i).toNat default).s.shape.length - k).toNat) 0 ⟨rfl, rfl, rfl, rfl, rfl, rfl, trivial⟩ rfl ?_ ?_
      · exact ⟨by omega, by omega⟩
      · rintro k hI
        obtain ⟨k0, k1⟩ := hI
        have hwp := words_partN hck k.toNat
        refine gk_seq ?_
        refine gk_seq ?_
        refine gk_region ?_
        refine gk_y rfl rfl (y_move rfl) ?_
        refine gk_y rfl rfl (y_fieldAddr fo28_1 rfl) ?_
        refine gk_y rfl rfl (y_loadB1 0 tf24 rfl rfl rfl) ?_
        refine gk_y rfl rfl (y_lenS (Tryz.underlying24) rfl) ?_
        refine gk_y rfl rfl (y_lss rfl rfl) ?_
        refine gk_nil (gk_sub (T' := [(0,_), (2,_), (3,_), (4,_), (5,_), (6,_), (47,_)]) ⟨rfl, rfl, rfl, rfl, rfl, rfl, rfl, trivial⟩ ?_)
        refine gk_cond rfl (fun hc47 => ?_) (fun hc47 => ?_)
        · have hc47 := of_decide_eq_true hc47
          obtain ⟨q5, q6⟩ := check_point hck k0 hc47
          have z5 := itoaB_le (n := ((L.getD (i).toNat default).s.shape.getD k.toNat default).x) (by omega) (by omega)
          have z6 := itoaB_le (n := ((L.getD (i).toNat default).s.shape.getD k.toNat default).z) (by omega) (by omega)
          refine gk_skip ?_
          refine gk_seq ?_
          refine gk_block ?_
          refine gk_any 20 (fun _ => mixed) (by kernel_rfl) ?_
          refine ph_y (y_move rfl) ?_
          refine ph_y (y_fieldAddr fo28_1 rfl) ?_
          refine ph_y (y_loadB1 0 tf24 rfl rfl rfl) ?_
          refine ph_y (y_move rfl) ?_
          refine ph_y (y_indexE se24 rfl rfl (fun _ hw => (Rd.has (Has.rd (hsh _ (getD_memS (by omega)))) hw)) (by omega) (by omega)) ?_
          refine ph_y (y_fieldE fo26_0 rfl (fun w hw => elems_addr (i := k) (Rd.has (Has.rd (hsh _ (getD_memS (by omega)))) hw) (by omega) (by omega))) ?_
          refine ph_y (y_loadEF tf3 rfl (fun _ hw => (Rd.has (Has.rd (hsh _ (getD_memS (by omega)))) hw)) (by omega) (by omega) rfl) ?_
          refine ph_y (y_call en27 rfl (fun w hw => itoa_c (((L.getD (i).toNat default).s.shape.getD (k).toNat default).x) w (Rd.has (Has.rd hp10) hw) (by omega) (by omega))) ?_
          refine ph_y (y_strAdd rfl rfl (by simp only [ByteArray.size_append, bs_size, List.length_append, Array.length_toList, List.length_cons, List.length_nil]; omega)) ?_
          refine ph_y (y_strAdd rfl rfl (by simp only [ByteArray.size_append, bs_size, List.length_append, Array.length_toList, List.length_cons, List.length_nil]; omega)) ?_
          refine ph_y (y_fieldAddr fo28_1 rfl) ?_
          refine ph_y (y_loadB1 0 tf24 rfl rfl rfl) ?_
          refine ph_y (y_move rfl) ?_
          refine ph_y (y_indexE se24 rfl rfl (fun _ hw => (Rd.has (Has.rd (hsh _ (getD_memS (by omega)))) hw)) (by omega) (by omega)) ?_
          refine ph_y (y_fieldE fo26_1 rfl (fun w hw => elems_addr (i := k) (Rd.has (Has.rd (hsh _ (getD_memS (by omega)))) hw) (by omega) (by omega))) ?_
          refine ph_y (y_loadEF tf3 rfl (fun _ hw => (Rd.has (Has.rd (hsh _ (getD_memS (by omega)))) hw)) (by omega) (by omega) rfl) ?_
          refine ph_y (y_call en27 rfl (fun w hw => itoa_c (((L.getD (i).toNat default).s.shape.getD (k).toNat default).z) w (Rd.has (Has.rd hp10) hw) (by omega) (by omega))) ?_
          refine ph_y (y_strAdd rfl rfl (by simp only [ByteArray.size_append, bs_size, List.length_append, Array.length_toList, List.length_cons, List.length_nil]; omega)) ?_
          refine ph_y (y_strAdd rfl rfl (by simp only [ByteArray.size_append, bs_size, List.length_append, Array.length_toList, List.length_cons, List.length_nil]; omega)) ?_
          refine ph_y (y_assign rfl) ?_
          refine gk_nil (gk_sub (T' := [(0,_), (2,_), (3,_), (4,_), (5,_), (6,_)]) ⟨rfl, rfl, rfl, rfl, rfl, rfl, trivial⟩ ?_)
          refine gk_sub (T' := [(0,_), (2,_), (3, .string (bs ((printL (L.take i.toNat)) ++ (L.getD (i).toNat default).s.name.data.toList ++ wordsL (numsN (L.getD (i).toNat default).s (k + 1).toNat)))), (4,_), (5,_), (6,_)]) ⟨rfl, rfl, (by rw [numsN_succ k0 hc47, words_app, ← List.append_assoc, ← rpair_eq]; rfl), rfl, rfl, rfl, trivial⟩ ?_
          refine gk_region ?_
          refine gk_y rfl rfl (y_move rfl) ?_
          refine gk_y rfl rfl (y_addI rfl rfl (by omega) (by omega)) ?_
          refine gk_y rfl rfl (y_assign rfl) ?_
          refine gk_nil (gk_sub (T' := [(0,_), (2,_), (3,_), (4,_), (5,_), (6,_)]) ⟨rfl, rfl, rfl, rfl, rfl, rfl, trivial⟩ ?_)
          exact gk_next (k + 1) ⟨rfl, rfl, rfl, rfl, rfl, rfl, trivial⟩ rfl ⟨by omega, by omega⟩ (by omega)
        · have hc47 := of_decide_eq_false hc47
          have hka : numsN (L.getD (i).toNat default).s k.toNat = numsL (L.getD (i).toNat default).s := numsN_all k0 hc47
          have hwp := words_part hck (numsL (L.getD (i).toNat default).s).length
          rw [List.take_length] at hwp
          refine gk_sub (T' := [(0,_), (2,_), (3, .string (bs ((printL (L.take i.toNat)) ++ (L.getD (i).toNat default).s.name.data.toList ++ wordsL (numsL (L.getD (i).toNat default).s)))), (4,_), (5,_), (6,_), (47,_)]) ⟨rfl, rfl, (by rw [← hka]; rfl), rfl, rfl, rfl, rfl, trivial⟩ ?_
          refine gk_exit rfl ?_
          refine gk_region ?_
          refine gk_y rfl rfl (y_move rfl) ?_
          refine gk_y rfl rfl (y_strAdd rfl rfl (by simp only [ByteArray.size_append, bs_size, List.length_append, Array.length_toList, List.length_cons, List.length_nil]; omega)) ?_
          refine gk_y rfl rfl (y_assign rfl) ?_
          refine gk_nil (gk_sub (T' := [(0,_), (2,_), (3,_), (4,_)]) ⟨rfl, rfl, rfl, rfl, trivial⟩ ?_)
          refine gk_sub (T' := [(0,_), (2,_), (3, .string (bs (printL (L.take (i + 1).toNat)))), (4,_)]) ⟨rfl, rfl, (by rw [printL_succ g0 hc10, rline_eq]; rfl), rfl, trivial⟩ ?_
          refine gk_region ?_
          refine gk_y rfl rfl (y_move rfl) ?_
          refine gk_y rfl rfl (y_addI rfl rfl (by omega) (by omega)) ?_
          refine gk_y rfl rfl (y_assign rfl) ?_
          refine gk_nil (gk_sub (T' := [(0,_), (2,_), (3,_), (4,_)]) ⟨rfl, rfl, rfl, rfl, trivial⟩ ?_)
          refine gk_dropAt 0 rfl ?_
          exact gk_next (i + 1) ⟨rfl, rfl, rfl, rfl, trivial⟩ rfl ⟨by omega, by omega⟩ (by omega)
    · have hc10 := of_decide_eq_false hc10
      refine gk_exit rfl ?_
      refine gk_seq ?_
      refine gk_region ?_
      refine gk_y rfl rfl (y_move rfl) ?_
      refine gk_y rfl rfl (y_assign rfl) ?_
      refine gk_nil (gk_sub (T' := [(2,_)]) ⟨rfl, trivial⟩ ?_)
      refine gk_ret ?_
      refine gk_pure (rv_one rfl (r1_tmp rfl)) ?_
      rw [printL_all g0 hc10]
end Go.Proofs.YtmpaebfjnjmmlaaGreatDoor

namespace Go.Stn
open Go Go.K Go.RowKit Go.Proofs
theorem plain_get {L M : List SC} (h : plainL M = plainL L) (i : Nat) : (M.getD i default).s = (L.getD i default).s := by
  have h1 := congrArg (fun l : List Stn => l[i]?) h
  simp only [plainL, List.getElem?_map] at h1
  rw [List.getD_eq_getElem?_getD, List.getD_eq_getElem?_getD]
  cases hM : M[i]? with
  | none =>
    cases hL : L[i]? with
    | none => rfl
    | some y => rw [hM, hL] at h1; simp at h1
  | some x =>
    cases hL : L[i]? with
    | none => rw [hM, hL] at h1; simp at h1
    | some y => rw [hM, hL] at h1; simpa using h1
theorem plain_length {L M : List SC} (h : plainL M = plainL L) : M.length = L.length := by simpa using congrArg List.length h
theorem plain_take {L M : List SC} (h : plainL M = plainL L) (n : Nat) : plainL (M.take n) = plainL (L.take n) := by
  unfold plainL at *
  rw [List.map_take, List.map_take, h]
theorem names_plain {L M : List SC} (h : plainL M = plainL L) : namesL M = namesL L := by
  have : ∀ N : List SC, namesL N = (plainL N).map (·.name) := fun N => by simp [namesL, plainL]
  rw [this, this, h]
theorem heapI_plain {L M : List SC} (h : plainL M = plainL L) : heapI M = heapI L := by
  unfold heapI
  have e : badAt M = badAt L := by
    funext i
    unfold badAt
    rw [plain_get h, names_plain (plain_take h i), plain_length h]
  rw [e, plain_length h]
theorem sumN_plain {L M : List SC} (h : plainL M = plainL L) (n : Nat) : sumN M n = sumN L n := by
  have : ∀ N : List SC, sumN N n = ((plainL (N.take n)).foldl (fun o s => W (o + weightW s)) 0) := fun N => by unfold sumN plainL; rw [List.foldl_map]
  rw [this, this, plain_take h]
theorem totalI_plain {L M : List SC} (h : plainL M = plainL L) : totalI M = totalI L := by
  unfold totalI
  rw [heapI_plain h, sumN_plain h, plain_length h]
theorem printL_plain {L M : List SC} (h : plainL M = plainL L) : printL M = printL L := by
  have : ∀ N : List SC, printL N = (plainL N).flatMap lineL := fun N => by simp [printL, plainL, List.flatMap_map]
  rw [this, this, h]
theorem sameAll_plain {A B : List SC} (h : plainL A = plainL B) : sameAllB A B = true := by
  unfold sameAllB
  rw [decide_eq_true (plain_length h), Bool.true_and, List.all_eq_true]
  intro i _
  rw [plain_get h]
  exact same_refl _
/-- **a heap is the document's** -/
theorem heap_eq (L : List SC) : heapI L = if rheapB L = true then 0 else 2 := by
  have hb : ∀ i, i < L.length → badAt L i = (rbadAt L i || decide (200 < (L.length : Int))) := fun i hi => by
    unfold badAt rbadAt
    have e1 : (!decide (checkI (L.getD i default).s = 0)) = !rvalidB (L.getD i default).s := by
      rw [check_valid]
      cases rvalidB (L.getD i default).s <;> rfl
    have e2 : inSet (namesL (L.take i)) (L.getD i default).s.name = (List.range i).any fun k => (nameAt L i).toList == (nameAt L k).toList := by
      rw [Bool.eq_iff_iff]
      unfold inSet
      rw [List.any_eq_true, List.any_eq_true]
      constructor
      · rintro ⟨x, hx, he⟩
        obtain ⟨z, hz, rfl⟩ := List.mem_map.1 hx
        obtain ⟨k, hk, rfl⟩ := List.mem_take_iff_getElem.1 hz
        refine ⟨k, List.mem_range.2 (by omega), ?_⟩
        unfold nameAt
        rw [bab_eq he, show L.getD k default = L[k] from by simp [show k < L.length from by omega]]
        simp
      · rintro ⟨k, hk, he⟩
        rw [List.mem_range] at hk
        refine ⟨(L.getD k default).s.name, List.mem_map.2 ⟨L.getD k default, List.mem_take_iff_getElem.2 ⟨k, by omega, by simp [show k < L.length from by omega]⟩, rfl⟩, ?_⟩
        unfold nameAt at he
        have he := eq_of_beq he
        rw [Lib.toList_data, Lib.toList_data] at he
        rw [Go.WideShapes.bytes_inj he]
        exact bab_refl _
    rw [e1, e2]
  unfold heapI rheapB
  have e3 : (List.range L.length).any (badAt L) = (List.range L.length).any (fun i => rbadAt L i || decide (200 < (L.length : Int))) := by
    rw [Bool.eq_iff_iff, List.any_eq_true, List.any_eq_true]
    constructor
    · rintro ⟨i, hi, h⟩; exact ⟨i, hi, by rw [← hb i (List.mem_range.1 hi)]; exact h⟩
    · rintro ⟨i, hi, h⟩; exact ⟨i, hi, by rw [hb i (List.mem_range.1 hi)]; exact h⟩
  rw [e3]
  by_cases hl : 200 < (L.length : Int)
  · have : (List.range L.length).any (fun i => rbadAt L i || decide (200 < (L.length : Int))) = true := List.any_eq_true.2 ⟨0, List.mem_range.2 (by omega), by rw [decide_eq_true hl, Bool.or_true]⟩
    rw [this, if_pos rfl, decide_eq_false (by omega), Bool.and_false, if_neg Bool.false_ne_true]
  · have e4 : (fun i => rbadAt L i || decide (200 < (L.length : Int))) = rbadAt L := by funext i; rw [decide_eq_false hl, Bool.or_false]
    rw [e4, decide_eq_true (show (L.length : Int) ≤ 200 by omega), Bool.and_true]
    cases (List.range L.length).any (rbadAt L) <;> rfl
end Go.Stn

namespace Go.Proofs.YtmpaebfjnjmmlaaGreatDoor
open Go.K Go.Stn Go.RowKit
theorem en6 : En Tryz.prog 6 := en_of Tryz.func6 (by kernel_rfl) (by kernel_rfl)
theorem en7 : En Tryz.prog 7 := en_of Tryz.func7 (by kernel_rfl) (by kernel_rfl)
theorem en8 : En Tryz.prog 8 := en_of Tryz.func8 (by kernel_rfl) (by kernel_rfl)
theorem en9 : En Tryz.prog 9 := en_of Tryz.func9 (by kernel_rfl) (by kernel_rfl)
theorem en10 : En Tryz.prog 10 := en_of Tryz.func10 (by kernel_rfl) (by kernel_rfl)
theorem en11 : En Tryz.prog 11 := en_of Tryz.func11 (by kernel_rfl) (by kernel_rfl)
theorem en14 : En Tryz.prog 14 := en_of Tryz.func14 (by kernel_rfl) (by kernel_rfl)
theorem en15 : En Tryz.prog 15 := en_of Tryz.func15 (by kernel_rfl) (by kernel_rfl)
theorem en16 : En Tryz.prog 16 := en_of Tryz.func16 (by kernel_rfl) (by kernel_rfl)
theorem shapes_small {L : List SC} {i : Int} (hi : ¬ i < (L.length : Int)) (h : ∀ j : Nat, (j : Int) < i → decide (20 < ((L.getD j default).s.shape.length : Int)) = false) : ∀ z ∈ L, Small z.s.shape.length := fun z hz => by
  obtain ⟨j, hj, rfl⟩ := List.getElem_of_mem hz
  have := h j (by omega)
  rw [show L.getD j default = L[j] from by simp [hj], decide_eq_false_iff_not] at this
  unfold Small; omega
theorem sortedP_nil {M : List SC} (h : heapI M = 2) : sortedP M = [] := by rw [sortedP, if_neg (by rw [h]; decide)]
theorem insN_plain {L M : List SC} (h : plainL M = plainL L) (hE : heapI L = 0) : plainL (insN M M.length) = plainL (insN L L.length) :=
  (sorts_eq rfl ((heapI_plain h).trans hE)).symm.trans (sorts_eq h hE)
set_option maxRecDepth 100000 in
set_option maxHeartbeats 4000000 in
theorem StoneHeaps_c (a : Option Addr) (cap : Nat) (L : List SC) (w : World) (hl : Has w (Elems a 6 encSC L)) (hsh : ∀ z ∈ L, Has w (Pts z.a z.s.shape)) (hways : Has w (Elems (some ⟨0, 0, none⟩) 1 encVal [.func (.func 194) #[] #[], .func (.func 195) #[] #[], .func (.func 196) #[] #[], .func (.func 197) #[] #[]])) (hp10 : Has w (VarR 2 pow10V)) (hns : ∀ z ∈ L, Fits z.s.name.size) :
    Calls Tryz.prog 3 #[.slice a L.length cap] w (Pure (.bool true) w) := by
  refine calls_of_gk (vs := [_]) Tryz.func3 rfl rfl (Nat.le_of_ble_eq_true rfl) ?_
  refine gk_seq ?_
  refine gk_region ?_
  refine gk_y rfl rfl (y_assign rfl) ?_
  refine gk_nil (gk_sub (T' := [(0,_), (2,_)]) ⟨rfl, rfl, trivial⟩ ?_)
  refine gk_seq ?_
  refine gk_seq ?_
  refine gk_any 13 (fun _ => mixed) (by kernel_rfl) ?_
  refine ph_y (y_move rfl) ?_
  refine ph_y (y_lenS (Tryz.underlying22) rfl) ?_
  refine ph_y (y_gtr rfl rfl) ?_
  refine ph_y (y_move rfl) ?_
  refine ph_gT rfl rfl (fun hgd => by (try rw [hgd]); exact (y_move rfl)) ?_
  refine ph_gT rfl rfl (fun hgd => by (try rw [hgd]); exact (y_lenS (Tryz.underlying22) rfl)) ?_
  refine ph_gT rfl rfl (fun hgd => by (try rw [hgd]); exact (y_leq rfl rfl)) ?_
  refine ph_y (y_pickAnd rfl rfl rfl) ?_
  refine ph_y (y_move rfl) ?_
  refine ph_gF rfl rfl (fun hgd => by (try rw [hgd]); exact (y_move rfl)) ?_
  refine ph_gF rfl rfl (fun hgd => by (try rw [hgd]); exact (y_lenS (Tryz.underlying22) rfl)) ?_
  refine ph_gF rfl rfl (fun hgd => by (try rw [hgd]); exact (y_gtr rfl rfl)) ?_
  refine ph_y (y_pickOr rfl rfl rfl) ?_
  refine gk_nil (gk_sub (T' := [(0,_), (2,_), (25,_)]) ⟨rfl, rfl, rfl, trivial⟩ ?_)
  refine gk_cond rfl (fun hc25 => ?_) (fun hc25 => ?_)
  · skip
    refine gk_seq ?_
    refine gk_region ?_
    refine gk_y rfl rfl (y_call en6 rfl (fun w hw => wakes_c w (Rd.has (Has.rd hways) hw))) ?_
    refine gk_y rfl rfl (y_assign rfl) ?_
    refine gk_nil (gk_sub (T' := [(0,_), (2,_)]) ⟨rfl, rfl, trivial⟩ ?_)
    refine gk_ret ?_
    refine gk_pure (rv_one rfl (r1_tmp rfl)) ?_
    rfl
  · have hs : Small L.length := by simp only [Bool.or_eq_false_iff, decide_eq_false_iff_not] at hc25; unfold Small; omega
    refine gk_skip ?_
    refine gk_seq ?_
    refine gk_seq ?_
    refine gk_region ?_
    refine gk_y rfl rfl (y_assign rfl) ?_
    refine gk_nil (gk_sub (T' := [(0,_), (2,_), (3,_)]) ⟨rfl, rfl, rfl, trivial⟩ ?_)
    refine gk_block ?_
    refine gk_loop (X := Int) (fun (i : Int) => [(0, .slice a L.length cap), (2, .bool false), (3, .int .i64 i)]) (fun (i : Int) => []) (fun (i : Int) => (0 ≤ i ∧ i ≤ L.length ∧ ∀ j : Nat, (j : Int) < i → decide (20 < ((L.getD j default).s.shape.length : Int)) = false)) (fun (i : Int) => (L.length - i).toNat) 0 ⟨rfl, rfl, rfl, trivial⟩ rfl ?_ ?_
    · exact ⟨by omega, by omega, fun j hj => by omega⟩
    · rintro i hI
      obtain ⟨g0, g1, g2⟩ := hI
      refine gk_seq ?_
      refine gk_seq ?_
      refine gk_region ?_
      refine gk_y rfl rfl (y_move rfl) ?_
      refine gk_y rfl rfl (y_move rfl) ?_
      refine gk_y rfl rfl (y_lenS (Tryz.underlying22) rfl) ?_
      refine gk_y rfl rfl (y_lss rfl rfl) ?_
      refine gk_nil (gk_sub (T' := [(0,_), (2,_), (3,_), (30,_)]) ⟨rfl, rfl, rfl, rfl, trivial⟩ ?_)
      refine gk_cond rfl (fun hc30 => ?_) (fun hc30 => ?_)
      · have hc30 := of_decide_eq_true hc30
        refine gk_skip ?_
        refine gk_seq ?_
        refine gk_block ?_
        refine gk_seq ?_
        refine gk_region ?_
        refine gk_y rfl rfl (y_move rfl) ?_
        refine gk_y rfl rfl (y_move rfl) ?_
        refine gk_y rfl rfl (y_indexE se22 rfl rfl (fun _ hw => (Rd.has (Has.rd hl) hw)) (by omega) (by omega)) ?_
        refine gk_y rfl rfl (y_fieldE fo28_1 rfl (fun w hw => elems_addr (i := i) (Rd.has (Has.rd hl) hw) (by omega) (by omega))) ?_
        refine gk_y rfl rfl (y_loadEF tf24 rfl (fun _ hw => (Rd.has (Has.rd hl) hw)) (by omega) (by omega) rfl) ?_
        refine gk_y rfl rfl (y_lenS (Tryz.underlying24) rfl) ?_
        refine gk_y rfl rfl (y_gtr rfl rfl) ?_
        refine gk_nil (gk_sub (T' := [(0,_), (2,_), (3,_), (39,_)]) ⟨rfl, rfl, rfl, rfl, trivial⟩ ?_)
        refine gk_cond rfl (fun hc39 => ?_) (fun hc39 => ?_)
        · skip
          refine gk_seq ?_
          refine gk_region ?_
          refine gk_y rfl rfl (y_call en6 rfl (fun w hw => wakes_c w (Rd.has (Has.rd hways) hw))) ?_
          refine gk_y rfl rfl (y_assign rfl) ?_
          refine gk_nil (gk_sub (T' := [(0,_), (2,_), (3,_)]) ⟨rfl, rfl, rfl, trivial⟩ ?_)
          refine gk_ret ?_
          refine gk_pure (rv_one rfl (r1_tmp rfl)) ?_
          rfl
        · skip
          refine gk_skip ?_
          refine gk_region ?_
          refine gk_y rfl rfl (y_move rfl) ?_
          refine gk_y rfl rfl (y_addI rfl rfl (by omega) (by omega)) ?_
          refine gk_y rfl rfl (y_assign rfl) ?_
          refine gk_nil (gk_sub (T' := [(0,_), (2,_), (3,_)]) ⟨rfl, rfl, rfl, trivial⟩ ?_)
          exact gk_next (i + 1) ⟨rfl, rfl, rfl, trivial⟩ rfl ⟨by omega, by omega, below_nat (f := fun j => decide (20 < ((L.getD j default).s.shape.length : Int))) g0 g2 hc39⟩ (by omega)
      · have hc30 := of_decide_eq_false hc30
        have hss := shapes_small hc30 g2
        refine gk_exit rfl ?_
        refine gk_seq ?_
        refine gk_region ?_
        refine gk_y rfl rfl (y_move rfl) ?_
        refine gk_yx rfl rfl (yx_call en7 rfl (fun w hw => stones_c _ _ L w (Rd.has (Has.rd hl) hw) (fun z hz => Rd.has (Has.rd (hsh z hz)) hw) hs hss)) fun p42 => gk_split ?_
        refine gk_y rfl rfl (y_assign rfl) ?_
        refine gk_nil (gk_sub (T' := [(0,_), (2,_), (4,_)]) ⟨rfl, rfl, rfl, trivial⟩ ?_)
        have hpl := p42.2
        have hsM : Small p42.1.2.2.length := by rw [plain_lenL hpl]; exact hs
        have hssM := plain_small hpl hss
        refine gk_seq ?_
        refine gk_region ?_
        refine gk_y rfl rfl (y_move rfl) ?_
        refine gk_y rfl rfl (y_call en8 rfl (fun w hw => print_c _ _ p42.1.2.2 w (has_row encSC_ok (hw.has (p := 0) rfl)) (fun z hz => shps_has (hw.has (p := 1) rfl) hz) hsM hssM (Rd.has (Has.rd hp10) hw))) ?_
        refine gk_y rfl rfl (y_move rfl) ?_
        refine gk_y rfl rfl (y_extract rfl rfl) ?_
        refine gk_y rfl rfl (y_extract rfl rfl) ?_
        refine gk_y rfl rfl (y_assign rfl) ?_
        refine gk_y rfl rfl (y_assign rfl) ?_
        refine gk_nil (gk_sub (T' := [(0,_), (2,_), (4,_), (5,_), (6,_)]) ⟨rfl, rfl, rfl, rfl, rfl, trivial⟩ ?_)
        refine gk_seq ?_
        refine gk_region ?_
        refine gk_y rfl rfl (y_move rfl) ?_
        refine gk_y rfl rfl (y_call en9 rfl (fun w hw => total_c _ _ p42.1.2.2 w (has_row encSC_ok (hw.has (p := 0) rfl)) (fun z hz => shps_has (hw.has (p := 1) rfl) hz) hsM hssM)) ?_
        refine gk_y rfl rfl (y_move rfl) ?_
        refine gk_y rfl rfl (y_extract rfl rfl) ?_
        refine gk_y rfl rfl (y_extract rfl rfl) ?_
        refine gk_y rfl rfl (y_assign rfl) ?_
        refine gk_y rfl rfl (y_assign rfl) ?_
        refine gk_nil (gk_sub (T' := [(0,_), (2,_), (4,_), (5,_), (6,_), (7,_), (8,_)]) ⟨rfl, rfl, rfl, rfl, rfl, rfl, rfl, trivial⟩ ?_)
        refine gk_seq ?_
        refine gk_region ?_
        refine gk_y rfl rfl (y_move rfl) ?_
        refine gk_yx rfl rfl (yx_call en10 rfl (fun w hw => sorted_c _ _ p42.1.2.2 w (has_row encSC_ok (hw.has (p := 0) rfl)) (fun z hz => shps_has (hw.has (p := 1) rfl) hz) hsM hssM)) fun p55 => gk_split ?_
        refine gk_y rfl rfl (y_move rfl) ?_
        refine gk_y rfl rfl (y_extract rfl rfl) ?_
        refine gk_y rfl rfl (y_extract rfl rfl) ?_
        refine gk_y rfl rfl (y_assign rfl) ?_
        refine gk_y rfl rfl (y_assign rfl) ?_
        refine gk_nil (gk_sub (T' := [(0,_), (2,_), (4,_), (5,_), (6,_), (7,_), (8,_), (9,_), (10,_)]) ⟨rfl, rfl, rfl, rfl, rfl, rfl, rfl, rfl, rfl, trivial⟩ ?_)
        have hO := p55.2.1
        have hOM := p55.2.2
        refine gk_seq ?_
        refine gk_seq ?_
        refine gk_region ?_
        refine gk_y rfl rfl (y_move rfl) ?_
        refine gk_y rfl rfl (y_call en11 rfl (fun w hw => rheap_c _ _ L w (Rd.has (Has.rd hl) hw) (fun z hz => Rd.has (Has.rd (hsh z hz)) hw) hs hss hns)) ?_
        refine gk_y rfl rfl (y_not rfl) ?_
        refine gk_nil (gk_sub (T' := [(0,_), (2,_), (4,_), (5,_), (6,_), (7,_), (8,_), (9,_), (10,_), (60,_)]) ⟨rfl, rfl, rfl, rfl, rfl, rfl, rfl, rfl, rfl, rfl, trivial⟩ ?_)
        refine gk_cond rfl (fun hc60 => ?_) (fun hc60 => ?_)
        · have hr : rheapB L = false := by simpa using hc60
          have hE : heapI L = 2 := by rw [heap_eq, hr]; rfl
          have hEM : heapI p42.1.2.2 = 2 := (heapI_plain hpl).trans hE
          have hO0 : p55.1.2.2.1.length = 0 := by have := congrArg List.length (hO.trans (sortedP_nil hEM)); simpa using this
          refine gk_seq ?_
          refine gk_region ?_
          refine gk_y rfl rfl (y_move rfl) ?_
          refine gk_y rfl rfl (y_call en12 rfl (fun w hw => checkheap_c _ _ p42.1.2.2 w (has_row encSC_ok (hw.has (p := 2) rfl)) (fun z hz => shps_has (hw.has (p := 3) rfl) hz) hsM hssM)) ?_
          refine gk_y rfl rfl (y_castT (y_eql rfl rfl) (by exact decide_eq_true (hEM))) ?_
          refine gk_y rfl rfl (y_move rfl) ?_
          refine gk_guard rfl rfl rfl rfl (fun _ => ?_) (fun h => absurd h (by decide))
          refine gk_y rfl rfl (y_move rfl) ?_
          refine gk_guard rfl rfl rfl rfl (fun _ => ?_) (fun h => absurd h (by decide))
          refine gk_y rfl rfl (y_castT (y_eql rfl rfl) (by exact decide_eq_true (hEM))) ?_
          refine gk_y rfl rfl (y_pick rfl rfl rfl) ?_
          refine gk_y rfl rfl (y_move rfl) ?_
          refine gk_guard rfl rfl rfl rfl (fun _ => ?_) (fun h => absurd h (by decide))
          refine gk_y rfl rfl (y_move rfl) ?_
          refine gk_guard rfl rfl rfl rfl (fun _ => ?_) (fun h => absurd h (by decide))
          refine gk_y rfl rfl (y_castT (y_eql rfl rfl) (by exact decide_eq_true (hEM))) ?_
          refine gk_y rfl rfl (y_pick rfl rfl rfl) ?_
          refine gk_y rfl rfl (y_move rfl) ?_
          refine gk_guard rfl rfl rfl rfl (fun _ => ?_) (fun h => absurd h (by decide))
          refine gk_y rfl rfl (y_move rfl) ?_
          refine gk_guard rfl rfl rfl rfl (fun _ => ?_) (fun h => absurd h (by decide))
          refine gk_y rfl rfl (y_castT (y_eql rfl rfl) (by exact decide_eq_true (hEM))) ?_
          refine gk_y rfl rfl (y_pick rfl rfl rfl) ?_
          refine gk_y rfl rfl (y_move rfl) ?_
          refine gk_guard rfl rfl rfl rfl (fun _ => ?_) (fun h => absurd h (by decide))
          refine gk_y rfl rfl (y_move rfl) ?_
          refine gk_guard rfl rfl rfl rfl (fun _ => ?_) (fun h => absurd h (by decide))
          refine gk_y rfl rfl (y_castT (y_strEq rfl rfl) (by rw [if_neg (by rw [hEM]; decide)]; exact beq_self_eq_true _)) ?_
          refine gk_y rfl rfl (y_pick rfl rfl rfl) ?_
          refine gk_y rfl rfl (y_move rfl) ?_
          refine gk_guard rfl rfl rfl rfl (fun _ => ?_) (fun h => absurd h (by decide))
          refine gk_y rfl rfl (y_move rfl) ?_
          refine gk_guard rfl rfl rfl rfl (fun _ => ?_) (fun h => absurd h (by decide))
          refine gk_y rfl rfl (y_castT (y_eql rfl rfl) (by exact decide_eq_true (by rw [totalI, if_neg (by rw [hEM]; decide)]))) ?_
          refine gk_y rfl rfl (y_pick rfl rfl rfl) ?_
          refine gk_y rfl rfl (y_move rfl) ?_
          refine gk_guard rfl rfl rfl rfl (fun _ => ?_) (fun h => absurd h (by decide))
          refine gk_y rfl rfl (y_move rfl) ?_
          refine gk_guard rfl rfl rfl rfl (fun _ => ?_) (fun h => absurd h (by decide))
          refine gk_y rfl rfl (y_lenS (Tryz.underlying29) rfl) ?_
          refine gk_guard rfl rfl rfl rfl (fun _ => ?_) (fun h => absurd h (by decide))
          refine gk_y rfl rfl (y_castT (y_eql rfl rfl) (by exact decide_eq_true (by omega))) ?_
          refine gk_y rfl rfl (y_pick rfl rfl rfl) ?_
          refine gk_y rfl rfl (y_move rfl) ?_
          refine gk_guard rfl rfl rfl rfl (fun _ => ?_) (fun h => absurd h (by decide))
          refine gk_y rfl rfl (y_call en6 rfl (fun w hw => wakes_c w (Rd.has (Has.rd hways) hw))) ?_
          refine gk_y rfl rfl (y_pick rfl rfl rfl) ?_
          refine gk_y rfl rfl (y_assign rfl) ?_
          refine gk_nil (gk_sub (T' := [(0,_), (2,_), (4,_), (5,_), (6,_), (7,_), (8,_), (9,_), (10,_)]) ⟨rfl, rfl, rfl, rfl, rfl, rfl, rfl, rfl, rfl, trivial⟩ ?_)
          refine gk_ret ?_
          refine gk_pure (rv_one rfl (r1_tmp rfl)) ?_
          rfl
        · have hr : rheapB L = true := by simpa using hc60
          have hE : heapI L = 0 := by rw [heap_eq, hr]; rfl
          have hEM : heapI p42.1.2.2 = 0 := (heapI_plain hpl).trans hE
          have hOS : plainL p55.1.2.2.1 = plainL (insN L L.length) := hO.trans (by rw [sortedP, if_pos hEM]; exact insN_plain hpl hE)
          have hsO : Small p55.1.2.2.1.length := by rw [plain_length hOS, insN_len L _ (Nat.le_refl _)]; exact hs
          have hssO := plain_small hOS (fun z hz => hss z (insN_sub L _ (Nat.le_refl _) z hz))
          refine gk_skip ?_
          refine gk_seq ?_
          refine gk_region ?_
          refine gk_y rfl rfl (y_assign rfl) ?_
          refine gk_nil (gk_sub (T' := [(0,_), (2,_), (4,_), (5,_), (6,_), (7,_), (8,_), (9,_), (10,_), (11,_)]) ⟨rfl, rfl, rfl, rfl, rfl, rfl, rfl, rfl, rfl, rfl, trivial⟩ ?_)
          refine gk_seq ?_
          refine gk_seq ?_
          refine gk_region ?_
          refine gk_y rfl rfl (y_assign rfl) ?_
          refine gk_nil (gk_sub (T' := [(0,_), (2,_), (4,_), (5,_), (6,_), (7,_), (8,_), (9,_), (10,_), (11,_), (12,_)]) ⟨rfl, rfl, rfl, rfl, rfl, rfl, rfl, rfl, rfl, rfl, rfl, trivial⟩ ?_)
          refine gk_block ?_
          refine gk_loop (X := Int) (fun (k : Int) => [(0, .slice a L.length cap), (2, .bool false), (4, .slice p42.1.1 p42.1.2.2.length p42.1.2.1), (5, .string (if heapI p42.1.2.2 = 0 then bs (printL p42.1.2.2) else ⟨#[]⟩)), (6, .int .i64 (heapI p42.1.2.2)), (7, .int .i64 (totalI p42.1.2.2)), (8, .int .i64 (heapI p42.1.2.2)), (9, .slice p55.1.1 p55.1.2.2.1.length p55.1.2.1), (10, .int .i64 (heapI p42.1.2.2)), (11, .int .i64 (sumN L k.toNat)), (12, .int .i64 k)]) (fun (k : Int) => [Row p55.1.1 6 p55.1.2.1 52 encSC p55.1.2.2.1, Shps 50 p55.1.2.2.2, Row p42.1.1 6 p42.1.2.1 52 encSC p42.1.2.2, Shps 50 p42.1.2.2]) (fun (k : Int) => (0 ≤ k ∧ k ≤ L.length)) (fun (k : Int) => (L.length - k).toNat) 0 ⟨rfl, rfl, rfl, rfl, rfl, rfl, rfl, rfl, rfl, rfl, rfl, trivial⟩ rfl ?_ ?_
          · exact ⟨by omega, by omega⟩
          · rintro k hI
            obtain ⟨k0, k1⟩ := hI
            refine gk_seq ?_
            refine gk_seq ?_
            refine gk_region ?_
            refine gk_y rfl rfl (y_move rfl) ?_
            refine gk_y rfl rfl (y_move rfl) ?_
            refine gk_y rfl rfl (y_lenS (Tryz.underlying22) rfl) ?_
            refine gk_y rfl rfl (y_lss rfl rfl) ?_
            refine gk_nil (gk_sub (T' := [(0,_), (2,_), (4,_), (5,_), (6,_), (7,_), (8,_), (9,_), (10,_), (11,_), (12,_), (95,_)]) ⟨rfl, rfl, rfl, rfl, rfl, rfl, rfl, rfl, rfl, rfl, rfl, rfl, trivial⟩ ?_)
            refine gk_cond rfl (fun hc95 => ?_) (fun hc95 => ?_)
            · have hc95 := of_decide_eq_true hc95
              refine gk_skip ?_
              refine gk_seq ?_
              refine gk_block ?_
              refine gk_region ?_
              refine gk_y rfl rfl (y_move rfl) ?_
              refine gk_y rfl rfl (y_move rfl) ?_
              refine gk_y rfl rfl (y_move rfl) ?_
              refine gk_y rfl rfl (y_indexE se22 rfl rfl (fun _ hw => (Rd.has (Has.rd hl) hw)) (by omega) (by omega)) ?_
              refine gk_y rfl rfl (y_loadE (vs := [_, _, _, _, _, _]) tf28 rfl (fun _ hw => (Rd.has (Has.rd hl) hw)) (by omega) (by omega) rfl) ?_
              refine gk_y rfl rfl (y_call en13 rfl (fun w hw => rweight_c _ _ ((L.getD (k).toNat default).s) w (Rd.has (Has.rd (hsh _ (getD_memS (by omega)))) hw) (hss _ (getD_memS (by omega))))) ?_
              refine gk_y rfl rfl (y_add rfl rfl) ?_
              refine gk_y rfl rfl (y_assign rfl) ?_
              refine gk_nil (gk_sub (T' := [(0,_), (2,_), (4,_), (5,_), (6,_), (7,_), (8,_), (9,_), (10,_), (11,_), (12,_)]) ⟨rfl, rfl, rfl, rfl, rfl, rfl, rfl, rfl, rfl, rfl, rfl, trivial⟩ ?_)
              refine gk_sub (T' := [(0,_), (2,_), (4,_), (5,_), (6,_), (7,_), (8,_), (9,_), (10,_), (11, .int .i64 (sumN L (k + 1).toNat)), (12,_)]) ⟨rfl, rfl, rfl, rfl, rfl, rfl, rfl, rfl, rfl, (by rw [sumN_succ k0 hc95, (weighs_eq _).2.1]; rfl), rfl, trivial⟩ ?_
              refine gk_region ?_
              refine gk_y rfl rfl (y_move rfl) ?_
              refine gk_y rfl rfl (y_addI rfl rfl (by omega) (by omega)) ?_
              refine gk_y rfl rfl (y_assign rfl) ?_
              refine gk_nil (gk_sub (T' := [(0,_), (2,_), (4,_), (5,_), (6,_), (7,_), (8,_), (9,_), (10,_), (11,_), (12,_)]) ⟨rfl, rfl, rfl, rfl, rfl, rfl, rfl, rfl, rfl, rfl, rfl, trivial⟩ ?_)
              exact gk_next (k + 1) ⟨rfl, rfl, rfl, rfl, rfl, rfl, rfl, rfl, rfl, rfl, rfl, trivial⟩ rfl ⟨by omega, by omega⟩ (by omega)
            · have hc95 := of_decide_eq_false hc95
              refine gk_exit rfl ?_
              refine gk_seq ?_
              refine gk_region ?_
              refine gk_y rfl rfl (y_move rfl) ?_
              refine gk_y rfl rfl (y_call en12 rfl (fun w hw => checkheap_c _ _ p42.1.2.2 w (has_row encSC_ok (hw.has (p := 2) rfl)) (fun z hz => shps_has (hw.has (p := 3) rfl) hz) hsM hssM)) ?_
              refine gk_y rfl rfl (y_castT (y_eql rfl rfl) (by exact decide_eq_true (hEM))) ?_
              refine gk_y rfl rfl (y_move rfl) ?_
              refine gk_guard rfl rfl rfl rfl (fun _ => ?_) (fun h => absurd h (by decide))
              refine gk_y rfl rfl (y_move rfl) ?_
              refine gk_guard rfl rfl rfl rfl (fun _ => ?_) (fun h => absurd h (by decide))
              refine gk_y rfl rfl (y_castT (y_eql rfl rfl) (by exact decide_eq_true (hEM))) ?_
              refine gk_y rfl rfl (y_pick rfl rfl rfl) ?_
              refine gk_y rfl rfl (y_move rfl) ?_
              refine gk_guard rfl rfl rfl rfl (fun _ => ?_) (fun h => absurd h (by decide))
              refine gk_y rfl rfl (y_move rfl) ?_
              refine gk_guard rfl rfl rfl rfl (fun _ => ?_) (fun h => absurd h (by decide))
              refine gk_y rfl rfl (y_castT (y_eql rfl rfl) (by exact decide_eq_true (hEM))) ?_
              refine gk_y rfl rfl (y_pick rfl rfl rfl) ?_
              refine gk_y rfl rfl (y_move rfl) ?_
              refine gk_guard rfl rfl rfl rfl (fun _ => ?_) (fun h => absurd h (by decide))
              refine gk_y rfl rfl (y_move rfl) ?_
              refine gk_guard rfl rfl rfl rfl (fun _ => ?_) (fun h => absurd h (by decide))
              refine gk_y rfl rfl (y_castT (y_eql rfl rfl) (by exact decide_eq_true (hEM))) ?_
              refine gk_y rfl rfl (y_pick rfl rfl rfl) ?_
              refine gk_y rfl rfl (y_move rfl) ?_
              refine gk_guard rfl rfl rfl rfl (fun _ => ?_) (fun h => absurd h (by decide))
              refine gk_y rfl rfl (y_move rfl) ?_
              refine gk_guard rfl rfl rfl rfl (fun _ => ?_) (fun h => absurd h (by decide))
              refine gk_y rfl rfl (y_move rfl) ?_
              refine gk_guard rfl rfl rfl rfl (fun _ => ?_) (fun h => absurd h (by decide))
              refine gk_y rfl rfl (y_call en14 rfl (fun w hw => rprint_c _ _ L w (Rd.has (Has.rd hl) hw) (fun z hz => Rd.has (Has.rd (hsh z hz)) hw) hs hss (Rd.has (Has.rd hp10) hw) (heap_checks hE))) ?_
              refine gk_guard rfl rfl rfl rfl (fun _ => ?_) (fun h => absurd h (by decide))
              refine gk_y rfl rfl (y_castT (y_strEq rfl rfl) (by rw [if_pos hEM, printL_plain hpl]; exact beq_self_eq_true _)) ?_
              refine gk_y rfl rfl (y_pick rfl rfl rfl) ?_
              refine gk_y rfl rfl (y_move rfl) ?_
              refine gk_guard rfl rfl rfl rfl (fun _ => ?_) (fun h => absurd h (by decide))
              refine gk_y rfl rfl (y_move rfl) ?_
              refine gk_guard rfl rfl rfl rfl (fun _ => ?_) (fun h => absurd h (by decide))
              refine gk_y rfl rfl (y_move rfl) ?_
              refine gk_guard rfl rfl rfl rfl (fun _ => ?_) (fun h => absurd h (by decide))
              refine gk_y rfl rfl (y_castT (y_eql rfl rfl) (by exact decide_eq_true (by rw [totalI_plain hpl, totalI, if_pos hE, show k.toNat = L.length from by omega]))) ?_
              refine gk_y rfl rfl (y_pick rfl rfl rfl) ?_
              refine gk_y rfl rfl (y_move rfl) ?_
              refine gk_guard rfl rfl rfl rfl (fun _ => ?_) (fun h => absurd h (by decide))
              refine gk_y rfl rfl (y_move rfl) ?_
              refine gk_guard rfl rfl rfl rfl (fun _ => ?_) (fun h => absurd h (by decide))
              refine gk_y rfl rfl (y_move rfl) ?_
              refine gk_guard rfl rfl rfl rfl (fun _ => ?_) (fun h => absurd h (by decide))
              refine gk_yx rfl rfl (yx_call en16 rfl (fun w hw => rsorted_c _ _ L w (Rd.has (Has.rd hl) hw) (fun z hz => Rd.has (Has.rd (hsh z hz)) hw) hs hss)) fun p134 => ?_
              refine gk_guard rfl rfl rfl rfl (fun _ => ?_) (fun h => absurd h (by decide))
              refine gk_y rfl rfl (y_castT (b := (sameAllB p55.1.2.2.1 (insN L L.length))) (y_call en15 rfl (fun w hw => sameall_c _ _ p55.1.2.2.1 _ _ (insN L L.length) w (has_row encSC_ok (hw.has (p := 1) rfl)) (fun z hz => shps_has (hw.has (p := 2) rfl) (hOM z hz)) hsO hssO (has_row encSC_ok (hw.has (p := 0) rfl)) (fun z hz => Rd.has (Has.rd (hsh z (insN_sub L _ (Nat.le_refl _) z hz))) hw) (fun z hz => hss z (insN_sub L _ (Nat.le_refl _) z hz)))) (by exact sameAll_plain hOS)) ?_
              refine gk_y rfl rfl (y_pick rfl rfl rfl) ?_
              refine gk_y rfl rfl (y_move rfl) ?_
              refine gk_guard rfl rfl rfl rfl (fun _ => ?_) (fun h => absurd h (by decide))
              refine gk_y rfl rfl (y_move rfl) ?_
              refine gk_guard rfl rfl rfl rfl (fun _ => ?_) (fun h => absurd h (by decide))
              refine gk_y rfl rfl (y_move rfl) ?_
              refine gk_guard rfl rfl rfl rfl (fun _ => ?_) (fun h => absurd h (by decide))
              refine gk_y rfl rfl (y_castT (b := (sameAllB p42.1.2.2 L)) (y_call en15 rfl (fun w hw => sameall_c _ _ p42.1.2.2 _ _ L w (has_row encSC_ok (hw.has (p := 3) rfl)) (fun z hz => shps_has (hw.has (p := 4) rfl) hz) hsM hssM (Rd.has (Has.rd hl) hw) (fun z hz => Rd.has (Has.rd (hsh z hz)) hw) hss)) (by exact sameAll_plain hpl)) ?_
              refine gk_y rfl rfl (y_pick rfl rfl rfl) ?_
              refine gk_y rfl rfl (y_move rfl) ?_
              refine gk_guard rfl rfl rfl rfl (fun _ => ?_) (fun h => absurd h (by decide))
              refine gk_y rfl rfl (y_call en6 rfl (fun w hw => wakes_c w (Rd.has (Has.rd hways) hw))) ?_
              refine gk_y rfl rfl (y_pick rfl rfl rfl) ?_
              refine gk_y rfl rfl (y_assign rfl) ?_
              refine gk_nil (gk_sub (T' := [(2,_)]) ⟨rfl, trivial⟩ ?_)
              refine gk_ret ?_
              refine gk_pure (rv_one rfl (r1_tmp rfl)) ?_
              rfl
end Go.Proofs.YtmpaebfjnjmmlaaGreatDoor
