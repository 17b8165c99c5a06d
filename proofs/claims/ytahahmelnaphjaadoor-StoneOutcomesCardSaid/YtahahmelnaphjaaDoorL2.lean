/- Plain facts: stones laid in ways, two ways. No statement of the seat is proved in this text. -/
import Derived.Test.YtahahmelnaphjaaDoorD6
namespace Go.Stn
open Go Go.K Go.RowKit

theorem firstI_eq {l : List Pt} (h : 0 < l.length) : firstI l = rfirst l := by
  obtain ⟨m, h1, h2, h3, h4⟩ := minF_first h
  rw [h1]
  refine findI_at (e := l.getD m default) (by simp [h2]) (fun j x hj hx => ?_) (eqB_iff.2 h3)
  cases he : eqB (minF lowerW l) x with
  | false => rfl
  | true =>
    have := eqB_iff.1 he
    have hxx : l.getD j default = x := by simp [hx]
    exact absurd (hxx.trans (this.symm.trans h3)) (h4 j hj)

theorem rot_get {l : List Pt} {m i : Nat} (hm : m < l.length) (hi : i < l.length) : (l.drop m ++ l.take m)[i]? = some (l.getD ((m + i) % l.length) default) := by
  by_cases h : m + i < l.length
  · rw [List.getElem?_append_left (by simp; omega), List.getElem?_drop, Nat.mod_eq_of_lt h]
    simp [h]
  · have h2 : (m + i) % l.length = m + i - l.length := by rw [Nat.mod_eq_sub_mod (by omega), Nat.mod_eq_of_lt (by omega)]
    rw [List.getElem?_append_right (by simp; omega), h2, List.length_drop, List.getElem?_take, if_pos (by omega)]
    have h3 : i - (l.length - m) = m + i - l.length := by omega
    rw [h3]
    simp [show m + i - l.length < l.length from by omega]

theorem settle_eq {l : List Pt} (h : 0 < l.length) : settleW l = settledW l := by
  have hr := rfirst_in h
  unfold settledW settleW
  rw [firstI_eq h]
  apply List.ext_getElem?
  intro i
  rw [List.getElem?_map, List.getElem?_map]
  unfold rotL
  by_cases hi : i < l.length
  · rw [List.getElem?_range hi, rot_get (by omega) hi]
    simp only [Option.map_some]
    unfold settleI ptAt
    obtain ⟨m, hm⟩ := Int.eq_ofNat_of_zero_le hr.1
    rw [hm]
    have : (((m : Int) + (i : Int)).tmod (l.length : Int)) = (((m + i) % l.length : Nat) : Int) := rfl
    rw [this, Int.toNat_natCast, Int.toNat_natCast]
  · rw [List.getElem?_eq_none (by simp; omega), List.getElem?_eq_none (by simp; omega)]
    rfl

theorem W_neg {n : Int} (h1 : -9000000000000000000 ≤ n) (h2 : n ≤ 9000000000000000000) : W (-n) = -n := W_in (by omega) (by omega)

theorem lay_eq {way : Int} {p : Pt} (h0 : 0 ≤ way) (h7 : way ≤ 7) (hp : inR 2000 p) : layW way p = moveW way p := by
  have h1 : way.tmod 4 < 4 := Int.tmod_lt_of_pos _ (by decide)
  have h2 : 0 ≤ way.tmod 4 := Int.tmod_nonneg _ h0
  have hf : layF p way = flipW p way := by
    unfold layF flipW
    by_cases h : 4 ≤ way
    · rw [if_pos h, if_pos (by omega)]
    · rw [if_neg h, if_neg (by omega)]
  have hq : inR 2000 (flipW p way) := by
    unfold inR flipW at *
    split
    · rw [W_neg (by omega) (by omega)]; dsimp only; omega
    · exact hp
  unfold layW moveW
  rw [hf]
  generalize flipW p way = q at hq
  unfold inR at hq
  rcases (show way.tmod 4 = 0 ∨ way.tmod 4 = 1 ∨ way.tmod 4 = 2 ∨ way.tmod 4 = 3 by omega) with h | h | h | h
  · rw [h]; rfl
  · rw [h]; rfl
  · rw [h]; rfl
  · rw [h]
    show (⟨W (-(W (-q.z))), W (-q.x)⟩ : Pt) = ⟨q.z, W (-q.x)⟩
    rw [W_neg (n := q.z) (by omega) (by omega), W_neg (n := -q.z) (by omega) (by omega), Int.neg_neg]

theorem check_in {s : Stn} (h : checkI s = 0) : (∀ p ∈ s.shape, inR 2000 p) ∧ inR 2000 s.grain := by
  refine ⟨fun p hp => ?_, ?_⟩
  · have := near_in (check_near h p hp)
    unfold inR; omega
  · have := check_good h
    unfold badB grainedB at this
    simp only [Bool.or_eq_false_iff, Bool.not_eq_false', Bool.and_eq_true, decide_eq_true_eq] at this
    unfold inR; omega

theorem rturnL_eq {s : Stn} {way : Int} (h : checkI s = 0) (h0 : 0 ≤ way) (h7 : way ≤ 7) : rturnL s way = turnedL s way := by
  have hin := (check_in h).1
  have key : ∀ i, i < s.shape.length → layW way (s.shape.getD i default) = moveW way (s.shape.getD i default) := fun i hi => lay_eq h0 h7 (hin _ (by simp [hi]))
  unfold rturnL turnedL
  apply List.ext_getElem?
  intro i
  by_cases hi : i < s.shape.length
  · rw [List.getElem?_map, List.getElem?_range hi]
    simp only [Option.map_some]
    unfold rturnI ptAt
    by_cases hw : 4 ≤ way
    · rw [if_pos hw, if_pos (by omega), List.getElem?_reverse (by simpa using hi), List.length_map, List.getElem?_map]
      have hlt : s.shape.length - 1 - i < s.shape.length := by omega
      rw [show ((s.shape.length : Int) - 1 - (i : Int)).toNat = s.shape.length - 1 - i from by omega, key _ hlt]
      simp [hlt]
    · rw [if_neg hw, if_neg (by omega), List.getElem?_map, show ((i : Nat) : Int).toNat = i from by omega, key _ hi]
      simp [hi]
  · rw [List.getElem?_eq_none (by simp; omega), List.getElem?_eq_none (by split <;> simp <;> omega)]

theorem turnedL_len (s : Stn) (way : Int) : (turnedL s way).length = s.shape.length := by
  unfold turnedL; split <;> simp

/-- **the program's stone laid in a way is the document's** -/
theorem rturned_eq {s : Stn} {way : Int} (h : checkI s = 0) (h0 : 0 ≤ way) (h7 : way ≤ 7) : rturnedS s way = turnedS s way := by
  have hE : turnedE s way = 0 := by
    rw [turnedE, if_neg (fun hn => hn h), if_neg]
    rw [decide_eq_true h0, decide_eq_true h7]
    exact fun hn => Bool.false_ne_true hn.symm
  have hl := check_len h
  rw [turned_good hE]
  unfold rturnedS
  rw [rturnL_eq h h0 h7, settle_eq (by rw [turnedL_len]; omega), lay_eq h0 h7 (check_in h).2]
end Go.Stn
