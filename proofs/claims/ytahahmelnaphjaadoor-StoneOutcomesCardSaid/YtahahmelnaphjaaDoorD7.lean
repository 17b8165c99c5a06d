/- Stones as plain data, seventh text: cuts, as the document has them. No statement of the seat is proved in this text. -/
import Derived.Test.YtahahmelnaphjaaDoorD6
namespace Go.Stn
open Go Go.K Go.RowKit

def ronB (a b p : Pt) : Bool := (decide (sideW a b p = 0) && (decide (min a.x b.x ≤ p.x) && decide (p.x ≤ max a.x b.x))) && (decide (min a.z b.z ≤ p.z) && decide (p.z ≤ max a.z b.z))
def rbordN (l : List Pt) (p : Pt) (n : Nat) : Bool := !allI n fun i => !ronB (ptAt l i) (nextL l i) p
def rbordB (l : List Pt) (p : Pt) : Bool := !farB p && rbordN l p l.length
def rboth (l : List Pt) (p q : Pt) (i : Int) : Bool := ronB (ptAt l i) (nextL l i) p && ronB (ptAt l i) (nextL l i) q
def rapartB (l : List Pt) (p q : Pt) : Bool := allI l.length fun i => !rboth l p q i
theorem rbord_far {l : List Pt} {p : Pt} (h : farB p = true) : rbordB l p = false := by rw [rbordB, h]; rfl
theorem rbord_yes {l : List Pt} {p : Pt} {i : Int} (hf : farB p = false) (h0 : 0 ≤ i) (h1 : i < (l.length : Int)) (h : ronB (ptAt l i) (nextL l i) p = true) : rbordB l p = true := by
  rw [rbordB, hf, rbordN, allI_false (i := i.toNat) (by omega) (by rw [show ((i.toNat : Nat) : Int) = i from by omega, h]; rfl)]; rfl
theorem rbord_no {l : List Pt} {p : Pt} {i : Int} (hi : (l.length : Int) ≤ i) (h : ∀ j : Nat, (j : Int) < i → ronB (ptAt l (j : Int)) (nextL l (j : Int)) p = false) : rbordB l p = false := by
  rw [rbordB, rbordN, allI_true (fun j hj => by rw [h j (by omega)]; rfl), Bool.not_true, Bool.and_false]
theorem rapart_no {l : List Pt} {p q : Pt} {i : Int} (h0 : 0 ≤ i) (h1 : i < (l.length : Int)) (h : rboth l p q i = true) : rapartB l p q = false := by
  rw [rapartB, allI_false (i := i.toNat) (by omega) (by rw [show ((i.toNat : Nat) : Int) = i from by omega, h]; rfl)]
theorem rapart_yes {l : List Pt} {p q : Pt} {i : Int} (hi : (l.length : Int) ≤ i) (h : ∀ j : Nat, (j : Int) < i → rboth l p q (j : Int) = false) : rapartB l p q = true := by
  rw [rapartB, allI_true (fun j hj => by rw [h j (by omega)]; rfl)]
theorem below_succ {f : Int → Bool} {i : Int} (h : ∀ j : Nat, (j : Int) < i → f (j : Int) = false) (hi : f i = false) : ∀ j : Nat, (j : Int) < i + 1 → f (j : Int) = false := fun j hj => by
  by_cases hji : (j : Int) < i
  · exact h j hji
  · rw [show ((j : Nat) : Int) = i from by omega]; exact hi

/-- is the corner the first one to the left? -/
def leftC (l : List Pt) (p q : Pt) (i : Int) : Bool := decide (0 < sideW p q (ptAt l i)) && decide (sideW p q (ptAt l ((i + (l.length : Int) - 1).tmod (l.length : Int))) ≤ 0)
def fromN (l : List Pt) (p q : Pt) : Nat → Int
  | 0 => 0
  | n + 1 => if leftC l p q (n : Int) = true then (n : Int) else fromN l p q n
theorem from_in {l : List Pt} {p q : Pt} : ∀ n, 0 ≤ fromN l p q n ∧ fromN l p q n ≤ (n : Int) ∧ (0 < n → fromN l p q n < (n : Int))
  | 0 => by simp [fromN]
  | n + 1 => by
    have := from_in (l := l) (p := p) (q := q) n
    unfold fromN
    split <;> omega
theorem from_succ {l : List Pt} {p q : Pt} {i : Int} (h0 : 0 ≤ i) : fromN l p q (i + 1).toNat = if leftC l p q i = true then i else fromN l p q i.toNat := by
  rw [show (i + 1).toNat = i.toNat + 1 from by omega, fromN, show ((i.toNat : Nat) : Int) = i from by omega]
def leftP (l : List Pt) (f : Int) (i : Int) : Pt := ptAt l ((f + i).tmod (l.length : Int))
def leftO (l : List Pt) (p q : Pt) (f : Int) (n : Nat) : List Pt := p :: q :: ((List.range n).map fun (j : Nat) => leftP l f (j : Int)).filter fun c => decide (0 < sideW p q c)
def leftL (l : List Pt) (p q : Pt) : List Pt := leftO l p q (fromN l p q l.length) l.length
theorem leftO_zero (l : List Pt) (p q : Pt) (f : Int) : leftO l p q f 0 = [p, q] := rfl
theorem leftO_succ {l : List Pt} {p q : Pt} {f i : Int} (h0 : 0 ≤ i) : leftO l p q f (i + 1).toNat = if decide (0 < sideW p q (leftP l f i)) = true then leftO l p q f i.toNat ++ [leftP l f i] else leftO l p q f i.toNat := by
  unfold leftO
  rw [show (i + 1).toNat = i.toNat + 1 from by omega, List.range_succ, List.map_append, List.filter_append]
  have e : (List.map (fun (j : Nat) => leftP l f (j : Int)) [i.toNat]) = [leftP l f i] := by
    rw [List.map_cons, List.map_nil, show ((i.toNat : Nat) : Int) = i from by omega]
  rw [e]
  by_cases h : 0 < sideW p q (leftP l f i)
  · simp [h]
  · simp [h]
theorem leftO_len (l : List Pt) (p q : Pt) (f : Int) (n : Nat) : 2 ≤ (leftO l p q f n).length ∧ (leftO l p q f n).length ≤ n + 2 := by
  have := List.length_filter_le (fun c => decide (0 < sideW p q c)) ((List.range n).map fun (j : Nat) => leftP l f (j : Int))
  unfold leftO
  simp only [List.length_cons, List.length_map, List.length_range] at *
  omega
def rpieceS (s : Stn) (c : ByteArray) (l : List Pt) : Stn := ⟨s.name ++ c, settleW l, s.depth, s.density, s.grain⟩
theorem settleW_len (l : List Pt) : (settleW l).length = l.length := by simp [settleW]
end Go.Stn
