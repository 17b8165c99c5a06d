/- Plain facts: how a cut is answered, two ways. No statement of the seat is proved in this text. -/
import Derived.Test.YtahahmelnaphjaaDoorL6
namespace Go.Stn
open Go Go.K Go.RowKit

section
variable {s : Stn} {p q : Pt} (hck : checkI s = 0) (g : Good s.shape)
include g
theorem border_not : (!rbordB s.shape p || !rbordB s.shape q) = (decide (edgeI s.shape p < 0) || decide (edgeI s.shape q < 0)) := by
  rw [g.border, g.border, Bool.eq_iff_iff]
  simp only [Bool.or_eq_true, Bool.not_eq_true', decide_eq_true_eq, decide_eq_false_iff_not]
  omega
theorem split_some (h : (!rbordB s.shape p || !rbordB s.shape q) = false) : 0 ≤ edgeI s.shape p ∧ 0 ≤ edgeI s.shape q := by
  rw [border_not g, Bool.or_eq_false_iff, decide_eq_false_iff_not, decide_eq_false_iff_not] at h
  omega
include hck
theorem split_none (h : (!rbordB s.shape p || !rbordB s.shape q) = true) : splitE s p q = 8 := by
  rw [border_not g] at h
  rw [splitE, if_neg (fun hn => hn hck), if_pos h]
theorem split_close (hp : 0 ≤ edgeI s.shape p) (hq : 0 ≤ edgeI s.shape q) (h : rapartB s.shape p q = false) : splitE s p q = 2 := by
  rw [splitE, if_neg (fun hn => hn hck), if_neg (by simp only [Bool.or_eq_true, decide_eq_true_eq]; omega), if_pos (by rw [g.apart hp hq, h])]
theorem split_parts (hp : 0 ≤ edgeI s.shape p) (hq : 0 ≤ edgeI s.shape q) (h : rapartB s.shape p q = true) :
    rpieceS s ⟨#[97]⟩ (leftL s.shape p q) = pieceW s ⟨#[97]⟩ (rightL s.shape q p) ∧ rpieceS s ⟨#[98]⟩ (leftL s.shape q p) = pieceW s ⟨#[98]⟩ (rightL s.shape p q) ∧
    (2 ≤ (leftL s.shape p q).length ∧ (leftL s.shape p q).length ≤ 14) ∧ (2 ≤ (leftL s.shape q p).length ∧ (leftL s.shape q p).length ≤ 14) ∧
    Small (pieceW s ⟨#[97]⟩ (rightL s.shape q p)).shape.length ∧ Small (pieceW s ⟨#[98]⟩ (rightL s.shape p q)).shape.length ∧
    ((((decide ((s.name.size : Int) = 16) || decide (12 < ((leftL s.shape p q).length : Int))) || decide (12 < ((leftL s.shape q p).length : Int))) = true → splitE s p q = 5) ∧
     (((decide ((s.name.size : Int) = 16) || decide (12 < ((leftL s.shape p q).length : Int))) || decide (12 < ((leftL s.shape q p).length : Int))) = false → splitE s p q = 0)) := by
  have hap : apartB s.shape p q = true := by rw [g.apart hp hq, h]
  obtain ⟨a1, a2⟩ := g.settled hp hq hap
  obtain ⟨b1, b2⟩ := g.settled hq hp (by rw [apart_symm]; exact hap)
  have hln := check_len hck
  have r1 := rightL_len hq hp
  have r2 := rightL_len hp hq
  have e1 : (settledW (rightL s.shape q p)).length = (rightL s.shape q p).length := settled_len (by omega)
  have e2 : (settledW (rightL s.shape p q)).length = (rightL s.shape p q).length := settled_len (by omega)
  refine ⟨?_, ?_, ⟨by omega, by omega⟩, ⟨by omega, by omega⟩, ?_, ?_, fun hz => ?_, fun hz => ?_⟩
  · unfold rpieceS pieceW; rw [a1]
  · unfold rpieceS pieceW; rw [b1]
  · show (settledW (rightL s.shape q p)).length ≤ _; omega
  · show (settledW (rightL s.shape p q)).length ≤ _; omega
  · rw [splitE, if_neg (fun hn => hn hck), if_neg (by simp only [Bool.or_eq_true, decide_eq_true_eq]; omega), if_neg (by rw [hap]; decide), if_pos]
    simp only [Bool.or_eq_true, decide_eq_true_eq] at hz ⊢
    omega
  · rw [splitE, if_neg (fun hn => hn hck), if_neg (by simp only [Bool.or_eq_true, decide_eq_true_eq]; omega), if_neg (by rw [hap]; decide), if_neg]
    simp only [Bool.or_eq_true, Bool.or_eq_false_iff, decide_eq_true_eq, decide_eq_false_iff_not] at hz ⊢
    omega
end
end Go.Stn
