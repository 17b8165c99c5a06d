/- Stones as plain data, sixth text: what the document's own program says of stones. No statement of the seat is proved in this text. -/
import Derived.Test.YtahahmelnaphjaaDoorD5
namespace Go.Stn
open Go Go.K Go.RowKit

def sameSB (a b : Stn) : Bool := (((((a.name.toList == b.name.toList) && decide (a.depth = b.depth)) && decide (a.density = b.density)) && decide (a.grain.x = b.grain.x)) && decide (a.grain.z = b.grain.z)) && decide (a.shape = b.shape)
theorem same_refl (a : Stn) : sameSB a a = true := by simp [sameSB]
theorem same_of {a b : Stn} (h : b = a) : sameSB a b = true := by rw [h]; exact same_refl a
def noneSB (s : Stn) : Bool := ((((s.name.toList == (⟨#[]⟩ : ByteArray).toList) && decide ((s.shape.length : Int) = 0)) && decide (s.depth = 0)) && decide (s.density = 0)) && (decide (s.grain.x = 0) && decide (s.grain.z = 0))
theorem none_zero : noneSB zeroS = true := by decide +kernel

theorem same_at {p q : Pt} (h : ((!decide (p.x = q.x)) || (!decide (p.z = q.z))) = false) : p = q := by
  cases p; cases q
  simpa using h
theorem same_no {p q : Pt} (h : ((!decide (p.x = q.x)) || (!decide (p.z = q.z))) = true) : p ≠ q := fun he => by
  rw [he] at h
  simp at h
theorem same_all {l m : List Pt} {i : Int} (hl : l.length = m.length) (hi : (l.length : Int) ≤ i) (h : ∀ j : Nat, (j : Int) < i → l.getD j default = m.getD j default) : l = m := by
  apply List.ext_getElem hl
  intro j h1 h2
  have := h j (by omega)
  simpa [h1, h2] using this

/-- in its place -/
def settleI (l : List Pt) (i : Nat) : Pt := subW (ptAt l ((rfirst l + (i : Int)).tmod (l.length : Int))) (leastL l)
def settleW (l : List Pt) : List Pt := (List.range l.length).map (settleI l)
theorem rfirst_in {l : List Pt} (h : 0 < l.length) : 0 ≤ rfirst l ∧ rfirst l < (l.length : Int) := by
  obtain ⟨m, h1, h2, _⟩ := rfirst_spec h
  omega
theorem range_snoc {α : Type} (f : Nat → α) {i : Int} (h0 : 0 ≤ i) : (List.range (i + 1).toNat).map f = (List.range i.toNat).map f ++ [f i.toNat] := by
  rw [show (i + 1).toNat = i.toNat + 1 from by omega, List.range_succ, List.map_append]; rfl

/-- laid in a way -/
def layN : Nat → Pt → Pt
  | 0, p => p
  | n + 1, p => ⟨W (-(layN n p).z), (layN n p).x⟩
def layF (p : Pt) (way : Int) : Pt := if 4 ≤ way then ⟨W (-p.x), p.z⟩ else p
def layW (way : Int) (p : Pt) : Pt := layN (way.tmod 4).toNat (layF p way)
theorem layN_succ {p : Pt} {i : Int} (h0 : 0 ≤ i) : layN (i + 1).toNat p = ⟨W (-(layN i.toNat p).z), (layN i.toNat p).x⟩ := by
  rw [show (i + 1).toNat = i.toNat + 1 from by omega]; rfl
def rturnI (s : Stn) (way : Int) (i : Nat) : Pt := layW way (ptAt s.shape (if 4 ≤ way then (s.shape.length : Int) - 1 - (i : Int) else (i : Int)))
def rturnL (s : Stn) (way : Int) : List Pt := (List.range s.shape.length).map (rturnI s way)
def rturnedS (s : Stn) (way : Int) : Stn := ⟨s.name, settleW (rturnL s way), s.depth, s.density, layW way s.grain⟩

/-! ### borders, as the document has them -/
def rdx (l : List Pt) (i : Int) : Int := W ((nextL l i).x - (ptAt l i).x)
def rdz (l : List Pt) (i : Int) : Int := W ((nextL l i).z - (ptAt l i).z)
def rlong (l : List Pt) (i : Int) : Int := max (max (rdx l i) (W (-(rdx l i)))) (max (rdz l i) (W (-(rdz l i))))
def rbok (l : List Pt) (i k : Int) : Bool := decide ((W (rdx l i * k)).tmod (rlong l i) = 0) && decide ((W (rdz l i * k)).tmod (rlong l i) = 0)
def rbpt (l : List Pt) (i k : Int) : Pt := ⟨W ((ptAt l i).x + W ((W (rdx l i * k)).tdiv (rlong l i))), W ((ptAt l i).z + W ((W (rdz l i * k)).tdiv (rlong l i)))⟩
def rbI (l : List Pt) (i : Int) (n : Nat) : List Pt := ((List.range n).filter fun (k : Nat) => rbok l i (k : Int)).map fun (k : Nat) => rbpt l i (k : Int)
def rbE (l : List Pt) (i : Nat) : List Pt := rbI l (i : Int) (rlong l (i : Int)).toNat
def rborderL (l : List Pt) : List Pt := (List.range l.length).flatMap (rbE l)
theorem near_next {l : List Pt} (h : Near l) {i : Int} (h0 : 0 ≤ i) (h1 : i < (l.length : Int)) : farB (nextL l i) = false := by
  unfold nextL
  have q0 : 0 ≤ (i + 1).tmod (l.length : Int) := Int.tmod_nonneg _ (by omega)
  have q1 : (i + 1).tmod (l.length : Int) < (l.length : Int) := Int.tmod_lt_of_pos _ (by omega)
  exact near_getD h (by omega)
theorem near_at {l : List Pt} (h : Near l) {i : Int} (h0 : 0 ≤ i) (h1 : i < (l.length : Int)) : farB (ptAt l i) = false := near_getD h (by omega)
theorem rd_eq {l : List Pt} (h : Near l) {i : Int} (h0 : 0 ≤ i) (h1 : i < (l.length : Int)) : rdx l i = (nextL l i).x - (ptAt l i).x ∧ rdz l i = (nextL l i).z - (ptAt l i).z ∧ -2000 ≤ rdx l i ∧ rdx l i ≤ 2000 ∧ -2000 ≤ rdz l i ∧ rdz l i ≤ 2000 := by
  have a := near_in (near_at h h0 h1)
  have b := near_in (near_next h h0 h1)
  have e1 : rdx l i = (nextL l i).x - (ptAt l i).x := W_in (by omega) (by omega)
  have e2 : rdz l i = (nextL l i).z - (ptAt l i).z := W_in (by omega) (by omega)
  refine ⟨e1, e2, ?_, ?_, ?_, ?_⟩ <;> omega
theorem rlong_eq {l : List Pt} (h : Near l) {i : Int} (h0 : 0 ≤ i) (h1 : i < (l.length : Int)) : rlong l i = ((max (rdx l i).natAbs (rdz l i).natAbs : Nat) : Int) ∧ rlong l i ≤ 2000 := by
  obtain ⟨_, _, a, b, c, d⟩ := rd_eq h h0 h1
  unfold rlong
  rw [show W (-(rdx l i)) = -(rdx l i) from W_in (by omega) (by omega), show W (-(rdz l i)) = -(rdz l i) from W_in (by omega) (by omega)]
  omega
theorem rbI_succ {l : List Pt} {i k : Int} (h0 : 0 ≤ k) : rbI l i (k + 1).toNat = rbI l i k.toNat ++ if rbok l i k = true then [rbpt l i k] else [] := by
  unfold rbI
  rw [show (k + 1).toNat = k.toNat + 1 from by omega, List.range_succ, List.filter_append, List.map_append]
  congr 1
  rw [List.filter_cons, show ((k.toNat : Nat) : Int) = k from by omega]
  split
  · simp [show ((k.toNat : Nat) : Int) = k from by omega]
  · rfl
theorem flat_succ {β : Type} (f : Nat → List β) {i : Int} (h0 : 0 ≤ i) : (List.range (i + 1).toNat).flatMap f = (List.range i.toNat).flatMap f ++ f i.toNat := by
  rw [show (i + 1).toNat = i.toNat + 1 from by omega, List.range_succ, List.flatMap_append]; simp
end Go.Stn
