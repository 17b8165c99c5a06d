/- Plain facts for the law StoneWays. No statement of the seat is proved in this text. -/
import Derived.Test.YtahahmelnaphjaaDoorL10
namespace Go.Stn
open Go Go.K Go.RowKit

theorem u8_way {v : Int} (h : 0 ≤ v) : 0 ≤ IntKind.i64.wrap (v.tmod 8) ∧ IntKind.i64.wrap (v.tmod 8) ≤ 7 := by
  have h0 : 0 ≤ v.tmod 8 := Int.tmod_nonneg _ h
  have h1 : v.tmod 8 < 8 := Int.tmod_lt_of_pos _ (by decide)
  have : IntKind.i64.wrap (v.tmod 8) = v.tmod 8 := W_in (by omega) (by omega)
  rw [this]
  omega
theorem alike_far {a b : Stn} (h : (((((!(a.name.toList == b.name.toList)) || (!decide (a.depth = b.depth))) || (!decide (a.density = b.density))) || (!(decide (a.grain.x = b.grain.x) && decide (a.grain.z = b.grain.z)))) || (!decide ((a.shape.length : Int) = (b.shape.length : Int)))) = true) : sameSB a b = false := by
  cases hs : sameSB a b with
  | false => rfl
  | true =>
    unfold sameSB at hs
    simp only [Bool.and_eq_true, decide_eq_true_eq] at hs
    obtain ⟨⟨⟨⟨⟨h1, h2⟩, h3⟩, h4⟩, h5⟩, h6⟩ := hs
    rw [h1, h2, h3, h4, h5, h6] at h
    simp at h
theorem alike_near {a b : Stn} (h : (((((!(a.name.toList == b.name.toList)) || (!decide (a.depth = b.depth))) || (!decide (a.density = b.density))) || (!(decide (a.grain.x = b.grain.x) && decide (a.grain.z = b.grain.z)))) || (!decide ((a.shape.length : Int) = (b.shape.length : Int)))) = false) : a.shape.length = b.shape.length ∧ sameSB a b = decide (a.shape = b.shape) := by
  simp only [Bool.or_eq_false_iff, Bool.not_eq_false', Bool.and_eq_true, decide_eq_true_eq] at h
  obtain ⟨⟨⟨⟨h1, h2⟩, h3⟩, h4, h5⟩, h6⟩ := h
  refine ⟨by omega, ?_⟩
  unfold sameSB
  rw [h1, decide_eq_true h2, decide_eq_true h3, decide_eq_true h4, decide_eq_true h5]
  simp
theorem same_pt {p q : Pt} (h : (!(decide (p.x = q.x) && decide (p.z = q.z))) = false) : p = q := by
  cases p; cases q
  simpa using h
theorem same_ptn {p q : Pt} (h : (!(decide (p.x = q.x) && decide (p.z = q.z))) = true) : p ≠ q := fun he => by
  rw [he] at h
  simp at h
/-- is it one of the ways? -/
def foundB (s b : Stn) (i : Int) : Bool := !allI i.toNat fun j => !sameSB (turnedS s (j : Int)) b
theorem found_succ {s b : Stn} {i : Int} (h0 : 0 ≤ i) : foundB s b (i + 1) = (foundB s b i || sameSB (turnedS s i) b) := by
  unfold foundB allI
  rw [show (i + 1).toNat = i.toNat + 1 from by omega, List.range_succ, List.all_append]
  simp [show ((i.toNat : Nat) : Int) = i from by omega]
theorem found_one {s b : Stn} {i j : Int} (h0 : 0 ≤ j) (h1 : j < i) (h : turnedS s j = b) : foundB s b i = true := by
  unfold foundB
  rw [allI_false (i := j.toNat) (by omega) (by rw [show ((j.toNat : Nat) : Int) = j from by omega, h, same_refl]; rfl)]
  rfl
theorem round_next {s : Stn} {k : Int} (h : checkI s = 0) (h0 : 0 ≤ k) (h1 : k < 4) : turnedS (turnedS s (k.tmod 4)) 1 = turnedS s ((k + 1).tmod 4) := by
  rcases (show k = 0 ∨ k = 1 ∨ k = 2 ∨ k = 3 by omega) with rfl | rfl | rfl | rfl <;> exact ways_comp h (by decide) (by decide) (by decide) (by decide)
theorem round_in {k : Int} (h0 : 0 ≤ k) : 0 ≤ k.tmod 4 ∧ k.tmod 4 ≤ 7 := by
  have h1 : 0 ≤ k.tmod 4 := Int.tmod_nonneg _ h0
  have h2 : k.tmod 4 < 4 := Int.tmod_lt_of_pos _ (by decide)
  omega
theorem ways_all {s : Stn} (h : checkI s = 0) {v : Int} (h0 : 0 ≤ v) (h7 : v ≤ 7) : turnedE s v = 0 ∧ checkI (turnedS s v) = 0 ∧ (turnedS s v).shape.length = s.shape.length ∧ weightW (turnedS s v) = weightW s :=
  ⟨(turned_ok h h0 h7).1, turned_valid h h0 h7, ways_len h h0 h7, ways_weight h h0 h7⟩
end Go.Stn
