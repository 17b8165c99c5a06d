/- Stones as plain data, eighth text: blows, as the document has them. No statement of the seat is proved in this text. -/
import Derived.Test.YtahahmelnaphjaaDoorD7
namespace Go.Stn
open Go Go.K Go.RowKit

def rcrossW (l : List Pt) (i : Int) : Int := W (W ((ptAt l i).x * (nextL l i).z) - W ((nextL l i).x * (ptAt l i).z))
def rtwiceN (l : List Pt) : Nat → Int
  | 0 => 0
  | n + 1 => W (rtwiceN l n + rcrossW l (n : Int))
def rtwice (l : List Pt) : Int := rtwiceN l l.length
theorem rtwice_succ {l : List Pt} {i : Int} (h0 : 0 ≤ i) : rtwiceN l (i + 1).toNat = W (rtwiceN l i.toNat + rcrossW l i) := by
  rw [show (i + 1).toNat = i.toNat + 1 from by omega, rtwiceN, show ((i.toNat : Nat) : Int) = i from by omega]
/-- where p lies, the last time -/
def rlastN (l : List Pt) (p : Pt) : Nat → Int
  | 0 => 0
  | n + 1 => if eqB (ptAt l (n : Int)) p = true then (n : Int) else rlastN l p n
theorem rlast_succ {l : List Pt} {p : Pt} {i : Int} (h0 : 0 ≤ i) : rlastN l p (i + 1).toNat = if eqB (ptAt l i) p = true then i else rlastN l p i.toNat := by
  rw [show (i + 1).toNat = i.toNat + 1 from by omega, rlastN, show ((i.toNat : Nat) : Int) = i from by omega]
theorem rlast_in {l : List Pt} {p : Pt} : ∀ n, 0 ≤ rlastN l p n ∧ rlastN l p n ≤ (n : Int) ∧ (0 < n → rlastN l p n < (n : Int))
  | 0 => by simp [rlastN]
  | n + 1 => by
    have := rlast_in (l := l) (p := p) n
    unfold rlastN
    split <;> omega
def routB (s : Stn) (p : Pt) (t : Int) (q : Pt) : Bool := rapartB s.shape p q && decide (W (100 * max (crossW (subW q p) s.grain) (W (-(crossW (subW q p) s.grain)))) ≤ W (t * max (dotW (subW q p) s.grain) (W (-(dotW (subW q p) s.grain)))))
def routP (b : List Pt) (f : Int) (i : Int) : Pt := ptAt b ((f + i).tmod (b.length : Int))
def routO (s : Stn) (p : Pt) (t : Int) (b : List Pt) (f : Int) (n : Nat) : List Pt := ((List.range n).map fun (j : Nat) => routP b f ((j : Int) + 1)).filter (routB s p t)
def routL (s : Stn) (p : Pt) (t : Int) : List Pt := routO s p t (rborderL s.shape) (rlastN (rborderL s.shape) p (rborderL s.shape).length) ((rborderL s.shape).length - 1)
theorem routO_succ {s : Stn} {p : Pt} {t : Int} {b : List Pt} {f i : Int} (h : 1 ≤ i) : routO s p t b f (i + 1 - 1).toNat = if routB s p t (routP b f i) = true then routO s p t b f (i - 1).toNat ++ [routP b f i] else routO s p t b f (i - 1).toNat := by
  unfold routO
  rw [show (i + 1 - 1).toNat = (i - 1).toNat + 1 from by omega, List.range_succ, List.map_append, List.filter_append]
  have e : (List.map (fun (j : Nat) => routP b f ((j : Int) + 1)) [(i - 1).toNat]) = [routP b f i] := by
    rw [List.map_cons, List.map_nil, show (((i - 1).toNat : Nat) : Int) + 1 = i from by omega]
  rw [e]
  by_cases h : routB s p t (routP b f i) = true
  · simp [h]
  · simp [h]
theorem routO_len (s : Stn) (p : Pt) (t : Int) (b : List Pt) (f : Int) (n : Nat) : (routO s p t b f n).length ≤ n := by
  have := List.length_filter_le (routB s p t) ((List.range n).map fun (j : Nat) => routP b f ((j : Int) + 1))
  unfold routO
  simp only [List.length_map, List.length_range] at *
  omega
/-- the greater part of a cut -/
def rpartN (s : Stn) (p q : Pt) : Int := max (rtwice (leftL s.shape p q)) (rtwice (leftL s.shape q p))
def rsureF (s : Stn) (p : Pt) (o : Int) (q : Pt) : Int := if (decide (o < 0) || decide (rpartN s p q < o)) = true then rpartN s p q else o
def rsureN (s : Stn) (p : Pt) (l : List Pt) (n : Nat) : Int := (l.take n).foldl (rsureF s p) (-1)
def rsure (s : Stn) (p : Pt) (l : List Pt) : Int := l.foldl (rsureF s p) (-1)
theorem rsure_succ {s : Stn} {p : Pt} {l : List Pt} {i : Int} (h0 : 0 ≤ i) (h1 : i < (l.length : Int)) : rsureN s p l (i + 1).toNat = rsureF s p (rsureN s p l i.toNat) (l.getD i.toNat default) := by
  unfold rsureN
  rw [take_succ h0 h1, List.foldl_append]; rfl
end Go.Stn
