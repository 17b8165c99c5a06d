/- What the proof of the root text leans on, part 4: the layer, plain facts and walks. No statement of the seat is proved in this text. -/
import Derived.Test.YtahahmelnaphjaaDoorPk3
namespace Go.Stn
open Go Go.K Go.RowKit
theorem sumI_zeros (n : Nat) : sumI n (fun _ => 0) = 0 := by
  induction n with
  | zero => rfl
  | succ n ih => rw [sumI_succ, ih]; rfl
theorem sumI_null {n : Nat} {f : Nat → Int} (h : ∀ i, i < n → f i = 0) : sumI n f = 0 := by rw [sumI_congr (g := fun _ => 0) h, sumI_zeros]
theorem sumI_single {n i : Nat} {f : Nat → Int} (hi : i < n) (h : ∀ k, k < n → k ≠ i → f k = 0) : sumI n f = f i := by
  induction n with
  | zero => omega
  | succ n ih =>
    rw [sumI_succ]
    by_cases he : i = n
    · subst he
      rw [sumI_null (fun k hk => h k (by omega) (by omega))]; omega
    · rw [ih (by omega) (fun k hk hne => h k (by omega) hne), h n (by omega) (fun e => he e.symm)]; omega
theorem sumI_append (a b : Nat) (f : Nat → Int) : sumI (a + b) f = sumI a f + sumI b (fun i => f (a + i)) := by
  induction b with
  | zero => rw [sumI_zero]; simp
  | succ b ih => rw [show a + (b + 1) = a + b + 1 from by omega, sumI_succ, ih, sumI_succ]; omega
theorem sumI_const (n : Nat) (c : Int) : sumI n (fun _ => c) = (n : Int) * c := by
  induction n with
  | zero => rw [sumI_zero]; simp
  | succ n ih => rw [sumI_succ, ih]; grind
theorem sumI_scale (n : Nat) (c : Int) (f : Nat → Int) : sumI n (fun i => c * f i) = c * sumI n f := by
  induction n with
  | zero => rw [sumI_zero, sumI_zero]; simp
  | succ n ih => rw [sumI_succ, sumI_succ, ih]; grind
theorem sumI_swap (m n : Nat) (f : Nat → Nat → Int) : sumI m (fun a => sumI n (fun i => f i a)) = sumI n (fun i => sumI m (fun a => f i a)) := by
  induction m with
  | zero => rw [sumI_zero, sumI_null (fun i _ => sumI_zero _)]
  | succ m ih =>
    rw [sumI_succ, ih, ← sumI_add]
    exact sumI_congr fun i _ => (sumI_succ m _).symm
theorem sumI_window {X lo n : Nat} (h : lo + n ≤ X) (f : Nat → Int) : sumI X (fun a => if (lo : Int) ≤ (a : Int) ∧ (a : Int) < (lo : Int) + (n : Int) then f a else 0) = sumI n (fun k => f (lo + k)) := by
  obtain ⟨r, rfl⟩ : ∃ r, X = lo + (n + r) := ⟨X - (lo + n), by omega⟩
  rw [sumI_append, sumI_append, sumI_null (n := lo), sumI_null (n := r)]
  · rw [sumI_congr (g := fun k => f (lo + k)) (fun k hk => by rw [if_pos (by omega)])]; omega
  · intro k hk
    rw [if_neg (by omega)]
  · intro k hk
    rw [if_neg (by omega)]
def mulI (d k : Nat) : Int := if k % d = 0 then 1 else 0
theorem mulI_count (d g : Nat) (hd : 0 < d) : sumI (g * d) (mulI d) = (g : Int) := by
  induction g with
  | zero => rw [Nat.zero_mul, sumI_zero]; rfl
  | succ g ih =>
    rw [Nat.succ_mul, sumI_append, ih, sumI_single (i := 0) hd]
    · unfold mulI
      rw [Nat.add_zero, Nat.mul_mod_left]; simp
    · intro k hk hne
      unfold mulI
      rw [Nat.mul_add_mod_self_right, Nat.mod_eq_of_lt hk, if_neg hne]
theorem div_pair {x n : Int} (hn : 0 < n) : x / n + (-x) / n = if x % n = 0 then 0 else -1 := by
  have h0 := Int.emod_nonneg x (show n ≠ 0 by omega)
  have h1 := Int.emod_lt_of_pos x hn
  have h2 := Int.emod_add_mul_ediv x n
  split
  · rename_i hz
    have : (-x) / n = -(x / n) ∧ (-x) % n = 0 := (Int.ediv_emod_unique hn).2 ⟨by grind, by omega, by omega⟩
    omega
  · rename_i hz
    have : (-x) / n = -(x / n) - 1 ∧ (-x) % n = n - x % n := (Int.ediv_emod_unique hn).2 ⟨by grind, by omega, by omega⟩
    omega
theorem dvd_mulI (m : Int) {n n' m' g : Nat} (hg : 0 < g) (hc : Nat.Coprime m' n') (hm : m.natAbs = m' * g) (hn : n = n' * g) (k : Nat) : (if (m * (k : Int)) % (n : Int) = 0 then (1 : Int) else 0) = mulI n' k := by
  unfold mulI
  have key : (m * (k : Int)) % (n : Int) = 0 ↔ k % n' = 0 := by
    rw [← Int.dvd_iff_emod_eq_zero, ← Nat.dvd_iff_mod_eq_zero, ← Int.natAbs_dvd_natAbs, Int.natAbs_mul, Int.natAbs_natCast, Int.natAbs_natCast, hm, hn]
    rw [Nat.mul_right_comm, Nat.mul_dvd_mul_iff_right hg]
    exact ⟨fun h => hc.symm.dvd_of_dvd_mul_left h, fun h => Nat.dvd_mul_left_of_dvd h _⟩
  by_cases h : k % n' = 0
  · rw [if_pos h, if_pos (key.2 h)]
  · rw [if_neg h, if_neg (fun x => h (key.1 x))]
theorem gcd_count (m : Int) {n : Nat} (hn : 0 < n) : sumI n (fun k => if (m * (k : Int)) % (n : Int) = 0 then (1 : Int) else 0) = (Nat.gcd m.natAbs n : Int) := by
  obtain ⟨m', n', hc, hm, hn'⟩ := Nat.exists_coprime m.natAbs n
  have hg : 0 < Nat.gcd m.natAbs n := Nat.gcd_pos_of_pos_right _ hn
  generalize Nat.gcd m.natAbs n = g at hm hn' hg ⊢
  rw [sumI_congr (g := mulI n') (fun k _ => dvd_mulI m hg hc hm hn' k), hn', Nat.mul_comm n' g]
  refine mulI_count n' g ?_
  rcases Nat.eq_zero_or_pos n' with h | h
  · rw [h, Nat.zero_mul] at hn'; omega
  · exact h
theorem floor_sum (m : Int) {n : Nat} (hn : 0 < n) : 2 * sumI n (fun k => (m * (k : Int)) / (n : Int)) = m * (n : Int) - m - (n : Int) + (Nat.gcd m.natAbs n : Int) := by
  obtain ⟨n', rfl⟩ : ∃ n', n = n' + 1 := ⟨n - 1, by omega⟩
  have h1 := sumI_front n' (fun k => (m * (k : Int)) / ((n' + 1 : Nat) : Int))
  have h2 := sumI_rev n' (fun i => (m * ((i + 1 : Nat) : Int)) / ((n' + 1 : Nat) : Int))
  have h3 := sumI_front n' (fun k => if (m * (k : Int)) % ((n' + 1 : Nat) : Int) = 0 then (1 : Int) else 0)
  rw [gcd_count m hn] at h3
  have h4 : sumI n' (fun i => (m * ((i + 1 : Nat) : Int)) / ((n' + 1 : Nat) : Int)) + sumI n' (fun i => (m * ((n' - 1 - i + 1 : Nat) : Int)) / ((n' + 1 : Nat) : Int)) =
      sumI n' (fun i => (m - 1) + (if (m * ((i + 1 : Nat) : Int)) % ((n' + 1 : Nat) : Int) = 0 then (1 : Int) else 0)) := by
    rw [← sumI_add]
    refine sumI_congr fun i hi => ?_
    have e : m * ((n' - 1 - i + 1 : Nat) : Int) = -(m * ((i + 1 : Nat) : Int)) + m * ((n' + 1 : Nat) : Int) := by
      have : ((n' - 1 - i + 1 : Nat) : Int) = ((n' + 1 : Nat) : Int) - ((i + 1 : Nat) : Int) := by omega
      rw [this]; grind
    rw [e, Int.add_mul_ediv_right _ _ (by omega)]
    have := div_pair (x := m * ((i + 1 : Nat) : Int)) (n := ((n' + 1 : Nat) : Int)) (by omega)
    split at this <;> rename_i hz
    · rw [if_pos hz]; omega
    · rw [if_neg hz]; omega
  rw [sumI_add, sumI_const] at h4
  have e0 : (m * ((0 : Nat) : Int)) = 0 := by simp
  simp only [e0, Int.zero_ediv, Int.zero_emod, if_true] at h1 h3
  have e1 : (n' : Int) * (m - 1) = m * ((n' + 1 : Nat) : Int) - m - (n' : Int) := by
    rw [Int.natCast_add]; grind
  rw [h1]
  omega
end Go.Stn

namespace Go.Stn
open Go Go.K Go.RowKit
def loF (p q : Pt) (a : Int) : Int := p.z + ((q.z - p.z) * (a - p.x)) / (q.x - p.x)
def hiF (p q : Pt) (a : Int) : Int := q.z - ((q.z - p.z) * (a - q.x)) / (p.x - q.x)
def cLo (p q : Pt) (a : Int) : Int := if p.x ≤ a ∧ a < q.x then -(loF p q a) - 1 else 0
def cHi (p q : Pt) (a : Int) : Int := if q.x ≤ a ∧ a < p.x then hiF p q a else 0
theorem edge_cols {p q : Pt} {X : Nat} (hp0 : 0 ≤ p.x) (hp : p.x ≤ X) (hq0 : 0 ≤ q.x) (hq : q.x ≤ X) (hne : p.x ≠ q.x) :
    2 * (sumI X (fun a => cLo p q (a : Int)) + sumI X (fun a => cHi p q (a : Int))) = -(q.x - p.x) * (p.z + q.z) + (q.z - p.z) - (q.x - p.x) - stepsI p q := by
  rcases Int.lt_or_gt_of_ne hne with h | h
  · have e2 : sumI X (fun a => cHi p q (a : Int)) = 0 := sumI_null fun a _ => by
      unfold cHi
      rw [if_neg (by omega)]
    obtain ⟨px, hpx⟩ := Int.eq_ofNat_of_zero_le hp0
    obtain ⟨n, hn⟩ := Int.eq_ofNat_of_zero_le (show 0 ≤ q.x - p.x by omega)
    have e1 : sumI X (fun a => cLo p q (a : Int)) = sumI n (fun k => -(loF p q ((px + k : Nat) : Int)) - 1) := by
      rw [← sumI_window (X := X) (lo := px) (n := n) (by omega) (fun a => -(loF p q ((a : Nat) : Int)) - 1)]
      refine sumI_congr fun a _ => ?_
      unfold cLo
      by_cases hc : p.x ≤ (a : Int) ∧ (a : Int) < q.x
      · rw [if_pos hc, if_pos (by omega)]
      · rw [if_neg hc, if_neg (by omega)]
    have e3 : sumI n (fun k => -(loF p q ((px + k : Nat) : Int)) - 1) = sumI n (fun k => (-p.z - 1) + -(((q.z - p.z) * (k : Int)) / (n : Int))) := sumI_congr fun k _ => by
      unfold loF
      rw [hn, show ((px + k : Nat) : Int) - p.x = (k : Int) from by omega]; omega
    have hf := floor_sum (q.z - p.z) (n := n) (by omega)
    have hg : stepsI p q = (Nat.gcd (q.z - p.z).natAbs n : Int) := by
      unfold stepsI stepsN
      rw [Nat.gcd_comm, show (q.x - p.x).natAbs = n from by omega]
    rw [e2, e1, e3, sumI_add, sumI_const, sumI_neg, hg, show q.x - p.x = (n : Int) from by omega]
    grind
  · have e2 : sumI X (fun a => cLo p q (a : Int)) = 0 := sumI_null fun a _ => by
      unfold cLo
      rw [if_neg (by omega)]
    obtain ⟨qx, hqx⟩ := Int.eq_ofNat_of_zero_le hq0
    obtain ⟨n, hn⟩ := Int.eq_ofNat_of_zero_le (show 0 ≤ p.x - q.x by omega)
    have e1 : sumI X (fun a => cHi p q (a : Int)) = sumI n (fun k => hiF p q ((qx + k : Nat) : Int)) := by
      rw [← sumI_window (X := X) (lo := qx) (n := n) (by omega) (fun a => hiF p q ((a : Nat) : Int))]
      refine sumI_congr fun a _ => ?_
      unfold cHi
      by_cases hc : q.x ≤ (a : Int) ∧ (a : Int) < p.x
      · rw [if_pos hc, if_pos (by omega)]
      · rw [if_neg hc, if_neg (by omega)]
    have e3 : sumI n (fun k => hiF p q ((qx + k : Nat) : Int)) = sumI n (fun k => q.z + -(((q.z - p.z) * (k : Int)) / (n : Int))) := sumI_congr fun k _ => by
      unfold hiF
      rw [hn, show ((qx + k : Nat) : Int) - q.x = (k : Int) from by omega]; omega
    have hf := floor_sum (q.z - p.z) (n := n) (by omega)
    have hg : stepsI p q = (Nat.gcd (q.z - p.z).natAbs n : Int) := by
      unfold stepsI stepsN
      rw [Nat.gcd_comm, show (q.x - p.x).natAbs = n from by omega]
    rw [e2, e1, e3, sumI_add, sumI_const, sumI_neg, hg, show q.x - p.x = -(n : Int) from by omega]
    grind
theorem side_lin (pi qi pk qk X : Pt) : (qi.x - pi.x) * sideZ pk qk X = (qi.x - X.x) * sideZ pk qk pi + (X.x - pi.x) * sideZ pk qk qi + (qk.x - pk.x) * sideZ pi qi X := by
  unfold sideZ; grind
theorem side_upright {p q : Pt} (h : p.x = q.x) (X : Pt) : sideZ p q X = -(q.z - p.z) * (X.x - p.x) := by
  unfold sideZ; rw [h]; grind
section
variable {l : List Pt} (g : Good l)
include g
abbrev sd (l : List Pt) (k : Nat) (X : Pt) : Int := sideZ (cor l k) (cor l (k + 1)) X
theorem Good.vside {i k : Nat} (hi : i < l.length) (hk : k < l.length) : 0 ≤ sd l i (cor l k) ∧ (sd l i (cor l k) = 0 → k = i ∨ k = (i + 1) % l.length) := by
  have hm := off_mod hi hk
  have hoff : (if i ≤ k then k - i else k + l.length - i) < l.length := by split <;> omega
  generalize (if i ≤ k then k - i else k + l.length - i) = j at hm hoff
  have e : cor l k = cor l (i + j) := cor_congr hm
  rw [Nat.mod_eq_of_lt hk] at hm
  unfold sd
  rw [e]
  rcases Nat.eq_zero_or_pos j with h0 | h0
  · subst h0
    rw [show cor l (i + 0) = cor l i from rfl, side_same3]
    exact ⟨Int.le_refl _, fun _ => .inl (by rw [hm, Nat.add_zero, Nat.mod_eq_of_lt hi])⟩
  · by_cases h1 : j = 1
    · subst h1
      rw [side_same2]
      exact ⟨Int.le_refl _, fun _ => .inr hm⟩
    · have := g.cvx.edge i j (by omega) hoff
      exact ⟨by omega, fun h => by omega⟩
theorem Good.vside1 {i : Nat} (hi : i < l.length) (k : Nat) : 0 ≤ sd l i (cor l k) ∧ (sd l i (cor l k) = 0 → k % l.length = i ∨ k % l.length = (i + 1) % l.length) := by
  have := g.vside hi (Nat.mod_lt k (show 0 < l.length by have := g.len; omega))
  rwa [cor_mod] at this
omit g in
theorem next_mod {n k : Nat} (h : k < n) : (k + 1) % n = if k + 1 = n then 0 else k + 1 := by
  split
  · rename_i e; rw [e, Nat.mod_self]
  · exact Nat.mod_eq_of_lt (by omega)
abbrev LoAt (l : List Pt) (i : Nat) (a : Int) : Prop := (cor l i).x ≤ a ∧ a < (cor l (i + 1)).x
abbrev HiAt (l : List Pt) (i : Nat) (a : Int) : Prop := (cor l (i + 1)).x ≤ a ∧ a < (cor l i).x
omit g in
theorem mul_z {a b : Int} (h : 0 < a) (hz : a * b = 0) : b = 0 := by
  rcases Int.mul_eq_zero.1 hz with h1 | h1
  · omega
  · exact h1
theorem Good.lo_uniq {i k : Nat} {a : Int} (hi : i < l.length) (hk : k < l.length) (h1 : LoAt l i a) (h2 : LoAt l k a) : i = k := Classical.byContradiction fun hne => by
  have a1 := side_lin (cor l i) (cor l (i + 1)) (cor l k) (cor l (k + 1)) ⟨a, 0⟩
  have a2 := side_lin (cor l k) (cor l (k + 1)) (cor l i) (cor l (i + 1)) ⟨a, 0⟩
  dsimp only at a1 a2
  have b1 := g.vside hk hi
  have b2 := (g.vside1 hk (i + 1)).1
  have b3 := g.vside hi hk
  have b4 := (g.vside1 hi (k + 1)).1
  have c1 := Int.mul_nonneg (show 0 ≤ (cor l (i + 1)).x - a by omega) b1.1
  have c2 := Int.mul_nonneg (show 0 ≤ a - (cor l i).x by omega) b2
  have c3 := Int.mul_nonneg (show 0 ≤ (cor l (k + 1)).x - a by omega) b3.1
  have c4 := Int.mul_nonneg (show 0 ≤ a - (cor l k).x by omega) b4
  have z1 := b1.2 (mul_z (a := (cor l (i + 1)).x - a) (by omega) (by unfold sd at *; omega))
  have z2 := b3.2 (mul_z (a := (cor l (k + 1)).x - a) (by omega) (by unfold sd at *; omega))
  have q1 := next_mod hk
  have q2 := next_mod hi
  have := g.len
  split at q1 <;> split at q2 <;> omega
theorem Good.hi_uniq {i k : Nat} {a : Int} (hi : i < l.length) (hk : k < l.length) (h1 : HiAt l i a) (h2 : HiAt l k a) : i = k := Classical.byContradiction fun hne => by
  have a1 := side_lin (cor l i) (cor l (i + 1)) (cor l k) (cor l (k + 1)) ⟨a, 0⟩
  have a2 := side_lin (cor l k) (cor l (k + 1)) (cor l i) (cor l (i + 1)) ⟨a, 0⟩
  dsimp only at a1 a2
  have b1 := (g.vside hk hi).1
  have b2 := g.vside1 hk (i + 1)
  have b3 := (g.vside hi hk).1
  have b4 := g.vside1 hi (k + 1)
  have c1 := Int.mul_nonneg (show 0 ≤ a - (cor l (i + 1)).x by omega) b1
  have c2 := Int.mul_nonneg (show 0 ≤ (cor l i).x - a by omega) b2.1
  have c3 := Int.mul_nonneg (show 0 ≤ a - (cor l (k + 1)).x by omega) b3
  have c4 := Int.mul_nonneg (show 0 ≤ (cor l k).x - a by omega) b4.1
  have d1 : ((cor l (i + 1)).x - a) * sd l k (cor l i) = -((a - (cor l (i + 1)).x) * sd l k (cor l i)) := by grind
  have d2 : (a - (cor l i).x) * sd l k (cor l (i + 1)) = -(((cor l i).x - a) * sd l k (cor l (i + 1))) := by grind
  have d3 : ((cor l (k + 1)).x - a) * sd l i (cor l k) = -((a - (cor l (k + 1)).x) * sd l i (cor l k)) := by grind
  have d4 : (a - (cor l k).x) * sd l i (cor l (k + 1)) = -(((cor l k).x - a) * sd l i (cor l (k + 1))) := by grind
  have z1 := b2.2 (mul_z (a := (cor l i).x - a) (by omega) (by unfold sd at *; omega))
  have z2 := b4.2 (mul_z (a := (cor l k).x - a) (by omega) (by unfold sd at *; omega))
  have q1 := next_mod hk
  have q2 := next_mod hi
  have := g.len
  split at q1 <;> split at q2 <;> omega
/-- the least and the greatest X -/
structure Wide (l : List Pt) (X : Int) : Prop where
  lo : ∀ i, 0 ≤ (cor l i).x
  hi : ∀ i, (cor l i).x ≤ X
  at0 : ∃ i, i < l.length ∧ (cor l i).x = 0
  at1 : ∃ i, i < l.length ∧ (cor l i).x = X
omit g in
theorem lo_ex {a X : Int} (w : Wide l X) (h0 : 0 ≤ a) (h1 : a < X) : ∃ i, i < l.length ∧ LoAt l i a := Classical.byContradiction fun hno => by
  obtain ⟨i0, h2, h3⟩ := w.at0
  obtain ⟨i1, h4, h5⟩ := w.at1
  have key : ∀ k, (cor l (i0 + k)).x ≤ a := by
    intro k
    induction k with
    | zero => rw [Nat.add_zero]; omega
    | succ k ih =>
      refine Classical.byContradiction fun hk => hno ⟨(i0 + k) % l.length, Nat.mod_lt _ (by omega), ?_⟩
      unfold LoAt
      rw [cor_mod, cor_add_mod]
      exact ⟨ih, by rw [show i0 + k + 1 = i0 + (k + 1) from by omega]; omega⟩
  have := key (i1 + l.length - i0)
  rw [show i0 + (i1 + l.length - i0) = i1 + l.length from by omega, cor_add] at this
  omega
omit g in
theorem hi_ex {a X : Int} (w : Wide l X) (h0 : 0 ≤ a) (h1 : a < X) : ∃ i, i < l.length ∧ HiAt l i a := Classical.byContradiction fun hno => by
  obtain ⟨i0, h2, h3⟩ := w.at0
  obtain ⟨i1, h4, h5⟩ := w.at1
  have key : ∀ k, a < (cor l (i1 + k)).x := by
    intro k
    induction k with
    | zero => rw [Nat.add_zero]; omega
    | succ k ih =>
      refine Classical.byContradiction fun hk => hno ⟨(i1 + k) % l.length, Nat.mod_lt _ (by omega), ?_⟩
      unfold HiAt
      rw [cor_mod, cor_add_mod]
      exact ⟨by rw [show i1 + k + 1 = i1 + (k + 1) from by omega]; omega, ih⟩
  have := key (i0 + l.length - i1)
  rw [show i1 + (i0 + l.length - i1) = i0 + l.length from by omega, cor_add] at this
  omega
/-- to the left of all edges -/
def Ins (l : List Pt) (X : Pt) : Prop := ∀ k, k < l.length → 0 < sd l k X
theorem Good.ins_iff {a b X : Int} (w : Wide l X) (h0 : 0 < a) (h1 : a < X) {i j : Nat} (hi : i < l.length) (hj : j < l.length) (hl : LoAt l i a) (hh : HiAt l j a) : Ins l ⟨a, b⟩ ↔ 0 < sd l i ⟨a, b⟩ ∧ 0 < sd l j ⟨a, b⟩ := by
  refine ⟨fun h => ⟨h i hi, h j hj⟩, fun ⟨s1, s2⟩ k hk => ?_⟩
  rcases Int.lt_trichotomy (cor l k).x (cor l (k + 1)).x with h | h | h
  · have a1 := side_lin (cor l i) (cor l (i + 1)) (cor l k) (cor l (k + 1)) ⟨a, b⟩
    dsimp only at a1
    have c1 := Int.mul_nonneg (show 0 ≤ (cor l (i + 1)).x - a by omega) (g.vside1 hk i).1
    have c2 := Int.mul_nonneg (show 0 ≤ a - (cor l i).x by omega) (g.vside1 hk (i + 1)).1
    have c3 := Int.mul_pos (show 0 < (cor l (k + 1)).x - (cor l k).x by omega) s1
    exact pos_of (a := (cor l (i + 1)).x - (cor l i).x) (by omega) (by unfold sd at *; omega)
  · obtain ⟨i0, _, h3⟩ := w.at0
    obtain ⟨i1, _, h5⟩ := w.at1
    have q1 := (g.vside1 hk i0).1
    have q2 := (g.vside1 hk i1).1
    unfold sd at *
    rw [side_upright h] at q1 q2 ⊢
    rw [h3] at q1
    rw [h5] at q2
    dsimp only
    have hne := g.ne k
    have hz : (cor l (k + 1)).z - (cor l k).z ≠ 0 := fun hz => hne (by
      cases hx : cor l k; cases hy : cor l (k + 1)
      rw [hx, hy] at h hz
      simp only [Pt.mk.injEq] at *
      omega)
    generalize (cor l (k + 1)).z - (cor l k).z = c at *
    generalize (cor l k).x = x at *
    rcases Int.lt_or_gt_of_ne hz with hc | hc
    · have hx : x ≤ 0 := Classical.byContradiction fun hn => by
        have := Int.mul_pos (show 0 < -c by omega) (show 0 < x by omega)
        have e : -c * (0 - x) = -(-c * x) := by grind
        omega
      exact Int.mul_pos (by omega) (by omega)
    · have hx : X ≤ x := Classical.byContradiction fun hn => by
        have := Int.mul_pos (show 0 < c by omega) (show 0 < X - x by omega)
        have e : -c * (X - x) = -(c * (X - x)) := by grind
        omega
      have e : -c * (a - x) = c * (x - a) := by grind
      rw [e]
      exact Int.mul_pos (by omega) (by omega)
  · have a1 := side_lin (cor l j) (cor l (j + 1)) (cor l k) (cor l (k + 1)) ⟨a, b⟩
    dsimp only at a1
    have c1 := Int.mul_nonneg (show 0 ≤ a - (cor l (j + 1)).x by omega) (g.vside1 hk j).1
    have c2 := Int.mul_nonneg (show 0 ≤ (cor l j).x - a by omega) (g.vside1 hk (j + 1)).1
    have c3 := Int.mul_pos (show 0 < (cor l k).x - (cor l (k + 1)).x by omega) s2
    have d1 : ((cor l (j + 1)).x - a) * sd l k (cor l j) = -((a - (cor l (j + 1)).x) * sd l k (cor l j)) := by grind
    have d2 : (a - (cor l j).x) * sd l k (cor l (j + 1)) = -(((cor l j).x - a) * sd l k (cor l (j + 1))) := by grind
    have d3 : ((cor l (k + 1)).x - (cor l k).x) * sd l j ⟨a, b⟩ = -(((cor l k).x - (cor l (k + 1)).x) * sd l j ⟨a, b⟩) := by grind
    have d4 : ((cor l (j + 1)).x - (cor l j).x) * sd l k ⟨a, b⟩ = -(((cor l j).x - (cor l (j + 1)).x) * sd l k ⟨a, b⟩) := by grind
    exact pos_of (a := (cor l j).x - (cor l (j + 1)).x) (by omega) (by unfold sd at *; omega)
/-- outside of the columns nothing lies inside -/
theorem Good.ins_out {a b X : Int} (w : Wide l X) (h : a ≤ 0 ∨ X ≤ a) : ¬ Ins l ⟨a, b⟩ := fun hins => by
  have h3 := g.len
  have key : ∀ v, v < l.length → ((cor l (v + 1)).x = 0 ∧ a ≤ 0 ∨ (cor l (v + 1)).x = X ∧ X ≤ a) → False := fun v hv hcase => by
    have a1 := side_lin (cor l (v + 1)) (cor l (v + 1 + 1)) (cor l v) (cor l (v + 1)) ⟨a, b⟩
    have s1 := hins v hv
    have s2 : 0 < sd l (v + 1) ⟨a, b⟩ := by
      have := hins ((v + 1) % l.length) (Nat.mod_lt _ (by omega))
      unfold sd at this
      rwa [cor_mod, cor_add_mod] at this
    have t := g.cvx.edge v 2 (by omega) (by omega)
    rw [show v + 2 = v + 1 + 1 from by omega] at t
    rw [side_same2] at a1
    unfold sd at s1 s2
    dsimp only at a1
    have hf : ¬ ((cor l (v + 1 + 1)).x = (cor l (v + 1)).x ∧ (cor l v).x = (cor l (v + 1)).x) := fun ⟨e1, e2⟩ => by
      rw [side_upright e2, e1, e2] at t
      simp at t
    have w1 := w.lo v
    have w2 := w.hi v
    have w3 := w.lo (v + 1 + 1)
    have w4 := w.hi (v + 1 + 1)
    generalize sideZ (cor l v) (cor l (v + 1)) ⟨a, b⟩ = A at *
    generalize sideZ (cor l (v + 1)) (cor l (v + 1 + 1)) ⟨a, b⟩ = B at *
    generalize sideZ (cor l v) (cor l (v + 1)) (cor l (v + 1 + 1)) = C at *
    rcases hcase with ⟨e, ha⟩ | ⟨e, ha⟩
    · rw [e] at a1 hf
      have m1 := Int.mul_nonneg (show 0 ≤ (cor l (v + 1 + 1)).x - 0 by omega) (show 0 ≤ A by omega)
      have m2 := Int.mul_nonneg (show 0 ≤ -a by omega) (show 0 ≤ C by omega)
      have m3 := Int.mul_nonneg (show 0 ≤ (cor l v).x by omega) (show 0 ≤ B by omega)
      have d1 : (a - 0) * C = -(-a * C) := by grind
      have d2 : (0 - (cor l v).x) * B = -((cor l v).x * B) := by grind
      have z1 : A * ((cor l (v + 1 + 1)).x - 0) = 0 := by rw [Int.mul_comm]; omega
      have z2 : B * (cor l v).x = 0 := by rw [Int.mul_comm]; omega
      exact hf ⟨by have := mul_z s1 z1; omega, by have := mul_z s2 z2; omega⟩
    · rw [e] at a1 hf
      have m1 := Int.mul_nonneg (show 0 ≤ X - (cor l (v + 1 + 1)).x by omega) (show 0 ≤ A by omega)
      have m2 := Int.mul_nonneg (show 0 ≤ a - X by omega) (show 0 ≤ C by omega)
      have m3 := Int.mul_nonneg (show 0 ≤ X - (cor l v).x by omega) (show 0 ≤ B by omega)
      have d1 : ((cor l (v + 1 + 1)).x - X) * A = -((X - (cor l (v + 1 + 1)).x) * A) := by grind
      have z1 : A * (X - (cor l (v + 1 + 1)).x) = 0 := by rw [Int.mul_comm]; omega
      have z2 : B * (X - (cor l v).x) = 0 := by rw [Int.mul_comm]; omega
      exact hf ⟨by have := mul_z s1 z1; omega, by have := mul_z s2 z2; omega⟩
  have ex : ∀ c : Int, (∃ i, i < l.length ∧ (cor l i).x = c) → ∃ v, v < l.length ∧ (cor l (v + 1)).x = c := fun c ⟨i, hi, hc⟩ => by
    rcases Nat.eq_zero_or_pos i with h0 | h0
    · subst h0
      exact ⟨l.length - 1, by omega, by rw [show l.length - 1 + 1 = 0 + l.length from by omega, cor_add, hc]⟩
    · exact ⟨i - 1, by omega, by rw [show i - 1 + 1 = i from by omega, hc]⟩
  rcases h with h | h
  · obtain ⟨v, hv, hc⟩ := ex 0 w.at0
    exact key v hv (.inl ⟨hc, h⟩)
  · obtain ⟨v, hv, hc⟩ := ex X w.at1
    exact key v hv (.inr ⟨hc, h⟩)
omit g in
theorem lo_iff {p q : Pt} {a b : Int} (h : p.x < q.x) : 0 < sideZ p q ⟨a, b⟩ ↔ loF p q a < b := by
  unfold sideZ loF
  dsimp only
  have := Int.ediv_lt_iff_lt_mul (a := (q.z - p.z) * (a - p.x)) (b := b - p.z) (c := q.x - p.x) (by omega)
  rw [Int.mul_comm (b - p.z)] at this
  omega
omit g in
theorem hi_iff {p q : Pt} {a b : Int} (h : q.x < p.x) : 0 < sideZ p q ⟨a, b⟩ ↔ b < hiF p q a := by
  unfold sideZ hiF
  dsimp only
  have := Int.ediv_lt_iff_lt_mul (a := (q.z - p.z) * (a - q.x)) (b := q.z - b) (c := p.x - q.x) (by omega)
  have e : (q.z - b) * (p.x - q.x) - (q.z - p.z) * (a - q.x) = (q.x - p.x) * (b - p.z) - (q.z - p.z) * (a - p.x) := by grind
  omega
theorem Good.gap {a X : Int} (w : Wide l X) (h0 : 0 < a) {i j : Nat} (hi : i < l.length) (hj : j < l.length) (hl : LoAt l i a) (hh : HiAt l j a) :
    loF (cor l i) (cor l (i + 1)) a < hiF (cor l j) (cor l (j + 1)) a := Classical.byContradiction fun hn => by
  have h3 := g.len
  have s1 : ¬ 0 < sd l i ⟨a, loF (cor l i) (cor l (i + 1)) a⟩ := fun h => by
    have := (lo_iff (by omega)).1 h
    omega
  have s2 : ¬ 0 < sd l j ⟨a, loF (cor l i) (cor l (i + 1)) a⟩ := fun h => by
    have := (hi_iff (by omega)).1 h
    omega
  have a1 := side_lin (cor l i) (cor l (i + 1)) (cor l j) (cor l (j + 1)) ⟨a, loF (cor l i) (cor l (i + 1)) a⟩
  dsimp only at a1
  have b1 := g.vside hj hi
  have b2 := g.vside1 hj (i + 1)
  have c1 := Int.mul_nonneg (show 0 ≤ (cor l (i + 1)).x - a by omega) b1.1
  have c2 := Int.mul_nonneg (show 0 ≤ a - (cor l i).x by omega) b2.1
  have c3 := Int.mul_nonneg (show 0 ≤ (cor l j).x - (cor l (j + 1)).x by omega) (show 0 ≤ -(sd l i ⟨a, loF (cor l i) (cor l (i + 1)) a⟩) by omega)
  have c4 := Int.mul_nonneg (show 0 ≤ (cor l (i + 1)).x - (cor l i).x by omega) (show 0 ≤ -(sd l j ⟨a, loF (cor l i) (cor l (i + 1)) a⟩) by omega)
  have d1 : ((cor l (j + 1)).x - (cor l j).x) * sd l i ⟨a, loF (cor l i) (cor l (i + 1)) a⟩ = ((cor l j).x - (cor l (j + 1)).x) * -(sd l i ⟨a, loF (cor l i) (cor l (i + 1)) a⟩) := by grind
  have d2 : ((cor l (i + 1)).x - (cor l i).x) * sd l j ⟨a, loF (cor l i) (cor l (i + 1)) a⟩ = -(((cor l (i + 1)).x - (cor l i).x) * -(sd l j ⟨a, loF (cor l i) (cor l (i + 1)) a⟩)) := by grind
  have z1 := b1.2 (mul_z (a := (cor l (i + 1)).x - a) (by omega) (by unfold sd at *; omega))
  have hij : i ≠ j := fun h => by subst h; omega
  have hi1 : i = (j + 1) % l.length := z1.resolve_left hij
  have hne : ¬ ((i + 1) % l.length = j ∨ (i + 1) % l.length = (j + 1) % l.length) := by
    rw [← hi1, next_mod hi]
    rw [next_mod hj] at hi1
    split <;> split at hi1 <;> omega
  have hpos : 0 < sd l j (cor l (i + 1)) := by
    have := b2.1
    exact Classical.byContradiction fun h => hne (b2.2 (by omega))
  have z2 : a - (cor l i).x = 0 := by
    refine mul_z hpos ?_
    rw [Int.mul_comm]
    unfold sd at *; omega
  have hv : cor l i = cor l (j + 1) := by rw [hi1, cor_mod]
  obtain ⟨i0, _, hx0⟩ := w.at0
  have a2 := side_lin (cor l i) (cor l (i + 1)) (cor l j) (cor l (j + 1)) (cor l i0)
  rw [show sideZ (cor l j) (cor l (j + 1)) (cor l i) = 0 from by rw [hv, side_same2], hx0] at a2
  have e1 := Int.mul_nonneg (show 0 ≤ (cor l (i + 1)).x - (cor l i).x by omega) (g.vside1 hj i0).1
  have e2 := Int.mul_nonneg (show 0 ≤ (cor l j).x - (cor l (j + 1)).x by omega) (g.vside1 hi i0).1
  have e3 := Int.mul_pos (show 0 < (cor l i).x by omega) hpos
  have d3 : ((cor l (j + 1)).x - (cor l j).x) * sideZ (cor l i) (cor l (i + 1)) (cor l i0) = -(((cor l j).x - (cor l (j + 1)).x) * sd l i (cor l i0)) := by unfold sd; grind
  have d4 : (0 - (cor l i).x) * sideZ (cor l j) (cor l (j + 1)) (cor l (i + 1)) = -((cor l i).x * sd l j (cor l (i + 1))) := by unfold sd; grind
  rw [d3, d4] at a2
  unfold sd at *
  omega
end
end Go.Stn

namespace Go.Stn
open Go Go.K Go.RowKit
theorem most_spec {l : List Pt} (h : 0 < l.length) : (∀ p ∈ l, p.x ≤ (mostL l).x ∧ p.z ≤ (mostL l).z) ∧ (∃ p ∈ l, (mostL l).x = p.x) ∧ ∃ p ∈ l, (mostL l).z = p.z := by
  have key : ∀ (r : List Pt) (o : Pt), let y := r.foldl (fun o p => (⟨max o.x p.x, max o.z p.z⟩ : Pt)) o; (o.x ≤ y.x ∧ o.z ≤ y.z) ∧ (∀ p ∈ r, p.x ≤ y.x ∧ p.z ≤ y.z) ∧ (y.x = o.x ∨ ∃ p ∈ r, y.x = p.x) ∧ (y.z = o.z ∨ ∃ p ∈ r, y.z = p.z) := by
    intro r
    induction r with
    | nil => intro o; exact ⟨⟨Int.le_refl _, Int.le_refl _⟩, fun p hp => (by cases hp), .inl rfl, .inl rfl⟩
    | cons q r ih =>
      intro o
      simp only [List.foldl_cons]
      obtain ⟨⟨a1, a2⟩, a3, a4, a5⟩ := ih ⟨max o.x q.x, max o.z q.z⟩
      dsimp only at a1 a2 a3 a4 a5 ⊢
      refine ⟨⟨by clear a4 a5; omega, by clear a4 a5; omega⟩, fun p hp => ?_, ?_, ?_⟩
      · rcases List.mem_cons.1 hp with rfl | hp
        · clear a4 a5; omega
        · exact a3 p hp
      · rcases a4 with a4 | ⟨p, hp, a4⟩
        · rcases Int.le_total o.x q.x with h | h
          · exact .inr ⟨q, List.mem_cons_self .., by clear a5; omega⟩
          · exact .inl (by clear a5; omega)
        · exact .inr ⟨p, List.mem_cons_of_mem _ hp, a4⟩
      · rcases a5 with a5 | ⟨p, hp, a5⟩
        · rcases Int.le_total o.z q.z with h | h
          · exact .inr ⟨q, List.mem_cons_self .., by clear a4; omega⟩
          · exact .inl (by clear a4; omega)
        · exact .inr ⟨p, List.mem_cons_of_mem _ hp, a5⟩
  have h0 : l.getD 0 default ∈ l := getD_mem h
  obtain ⟨⟨a1, a2⟩, a3, a4, a5⟩ := key l (l.getD 0 default)
  unfold mostL
  refine ⟨a3, ?_, ?_⟩
  · rcases a4 with a4 | a4
    · exact ⟨_, h0, a4⟩
    · exact a4
  · rcases a5 with a5 | a5
    · exact ⟨_, h0, a5⟩
    · exact a5
theorem mem_cor {l : List Pt} {p : Pt} (h : p ∈ l) : ∃ i, i < l.length ∧ cor l i = p := by
  obtain ⟨i, hi, rfl⟩ := List.getElem_of_mem h
  exact ⟨i, hi, by unfold cor; rw [Nat.mod_eq_of_lt hi]; simp [hi]⟩
theorem col_window {l : List Pt} {a lo hi : Int} (h : ∀ b : Nat, b < 61 → (pinB l a (b : Int) = true ↔ lo < (b : Int) ∧ (b : Int) < hi)) (h0 : -1 ≤ lo) (h1 : hi ≤ 61) (h2 : lo < hi) : colN l a 61 = hi - lo - 1 := by
  have key : ∀ n : Nat, n ≤ 61 → colN l a n = if (n : Int) ≤ lo + 1 then 0 else if (n : Int) ≤ hi then (n : Int) - lo - 1 else hi - lo - 1 := by
    intro n
    induction n with
    | zero => intro _; rw [colN, if_pos (by omega)]
    | succ n ih =>
      intro hn
      have hb := h n (by omega)
      rw [colN, ih (by omega)]
      by_cases hp : pinB l a (n : Int) = true
      · rw [if_pos hp]
        have := hb.1 hp
        split <;> split <;> (try split) <;> (try split) <;> omega
      · rw [if_neg hp]
        have : ¬ (lo < (n : Int) ∧ (n : Int) < hi) := fun x => hp (hb.2 x)
        split <;> split <;> (try split) <;> (try split) <;> omega
  rw [key 61 (Nat.le_refl _)]
  split
  · omega
  · split <;> omega
theorem col_none {l : List Pt} {a : Int} (h : ∀ b : Nat, b < 61 → ¬ pinB l a (b : Int) = true) : ∀ n : Nat, n ≤ 61 → colN l a n = 0 := by
  intro n
  induction n with
  | zero => intro _; rfl
  | succ n ih =>
    intro hn
    rw [colN, ih (by omega), if_neg (h n (by omega))]
    rfl
theorem in_sum (l : List Pt) : ∀ n, inN l n = sumI n fun a => colN l (a : Int) 61
  | 0 => rfl
  | n + 1 => by rw [inN, in_sum l n, sumI_succ]
section
variable {l : List Pt} (g : Good l)
include g
theorem Good.pin_iff {a b : Int} (ha : 0 ≤ a) (ha1 : a ≤ 60) (hb : 0 ≤ b) (hb1 : b ≤ 60) : pinB l a b = true ↔ Ins l ⟨a, b⟩ := by
  have hin : ∀ i, inR 2000 (cor l i) := fun i => by
    have := near_in (g.far i)
    unfold inR; omega
  have hX : inR 2000 ⟨a, b⟩ := by unfold inR; dsimp only; omega
  have key : ∀ n, n ≤ l.length → (pinN l a b n = true ↔ ∀ k, k < n → 0 < sd l k ⟨a, b⟩) := by
    intro n
    induction n with
    | zero => intro _; exact ⟨fun _ k hk => by omega, fun _ => rfl⟩
    | succ n ih =>
      intro hn
      rw [pinN, Bool.and_eq_true, ih (by omega), decide_eq_true_eq, (corners (l := l) (i := n) (by omega)).1, (corners (l := l) (i := n) (by omega)).2, sideW_eq (b := 2000) (by decide) (hin _) (hin _) hX]
      constructor
      · rintro ⟨h1, h2⟩ k hk
        by_cases he : k = n
        · subst he; exact h2
        · exact h1 k (by omega)
      · intro h
        exact ⟨fun k hk => h k (by omega), h n (by omega)⟩
  exact key l.length (Nat.le_refl _)
/-- what all edges say of a column -/
def colF (l : List Pt) (a : Int) : Int := sumI l.length (fun i => cLo (cor l i) (cor l (i + 1)) a) + sumI l.length (fun i => cHi (cor l i) (cor l (i + 1)) a)
theorem Good.col_eq {a X : Int} (w : Wide l X) (hz : ∀ i, 0 ≤ (cor l i).z ∧ (cor l i).z ≤ 60) (h0 : 0 < a) (h1 : a < X) (hX : X ≤ 60) : colF l a = colN l a 61 := by
  obtain ⟨i, hi, hl⟩ := lo_ex w (by omega) h1
  obtain ⟨j, hj, hh⟩ := hi_ex w (by omega) h1
  have e1 : sumI l.length (fun i => cLo (cor l i) (cor l (i + 1)) a) = -(loF (cor l i) (cor l (i + 1)) a) - 1 := by
    rw [sumI_single hi]
    · unfold cLo; rw [if_pos hl]
    · intro k hk hne
      unfold cLo
      rw [if_neg (fun h => hne (g.lo_uniq hk hi h hl))]
  have e2 : sumI l.length (fun i => cHi (cor l i) (cor l (i + 1)) a) = hiF (cor l j) (cor l (j + 1)) a := by
    rw [sumI_single hj]
    · unfold cHi; rw [if_pos hh]
    · intro k hk hne
      unfold cHi
      rw [if_neg (fun h => hne (g.hi_uniq hk hj h hh))]
  have hgap := g.gap w h0 hi hj hl hh
  have b1 : 0 ≤ loF (cor l i) (cor l (i + 1)) a := by
    have z1 := hz i; have z2 := hz (i + 1)
    unfold loF
    have m1 := Int.mul_nonneg z1.1 (show 0 ≤ (cor l (i + 1)).x - a by omega)
    have m2 := Int.mul_nonneg z2.1 (show 0 ≤ a - (cor l i).x by omega)
    have : -(cor l i).z ≤ ((cor l (i + 1)).z - (cor l i).z) * (a - (cor l i).x) / ((cor l (i + 1)).x - (cor l i).x) := by
      rw [Int.le_ediv_iff_mul_le (by omega)]
      have : ((cor l (i + 1)).z - (cor l i).z) * (a - (cor l i).x) - -(cor l i).z * ((cor l (i + 1)).x - (cor l i).x) = (cor l i).z * ((cor l (i + 1)).x - a) + (cor l (i + 1)).z * (a - (cor l i).x) := by grind
      omega
    omega
  have b2 : hiF (cor l j) (cor l (j + 1)) a ≤ 60 := by
    have z1 := hz j; have z2 := hz (j + 1)
    unfold hiF
    have m1 := Int.mul_nonneg (show 0 ≤ 60 - (cor l (j + 1)).z by omega) (show 0 ≤ (cor l j).x - a by omega)
    have m2 := Int.mul_nonneg (show 0 ≤ 60 - (cor l j).z by omega) (show 0 ≤ a - (cor l (j + 1)).x by omega)
    have : (cor l (j + 1)).z - 60 ≤ ((cor l (j + 1)).z - (cor l j).z) * (a - (cor l (j + 1)).x) / ((cor l j).x - (cor l (j + 1)).x) := by
      rw [Int.le_ediv_iff_mul_le (by omega)]
      have : ((cor l (j + 1)).z - (cor l j).z) * (a - (cor l (j + 1)).x) - ((cor l (j + 1)).z - 60) * ((cor l j).x - (cor l (j + 1)).x) = (60 - (cor l (j + 1)).z) * ((cor l j).x - a) + (60 - (cor l j).z) * (a - (cor l (j + 1)).x) := by grind
      omega
    omega
  rw [colF, e1, e2, col_window (lo := loF (cor l i) (cor l (i + 1)) a) (hi := hiF (cor l j) (cor l (j + 1)) a) ?_ (by omega) (by omega) hgap]
  · omega
  · intro b hb
    rw [g.pin_iff (by omega) (by omega) (by omega) (by omega), g.ins_iff w h0 h1 hi hj hl hh, lo_iff (by omega), hi_iff (by omega)]
/-- the upright edges at the beginning -/
def vertI (l : List Pt) (i : Nat) : Int := if (cor l i).x = 0 ∧ (cor l (i + 1)).x = 0 then (cor l i).z - (cor l (i + 1)).z else 0
theorem Good.col_zero {X : Int} (w : Wide l X) (hX : 0 < X) : colF l 0 = sumI l.length (vertI l) - 1 := by
  obtain ⟨i, hi, hl⟩ := lo_ex w (Int.le_refl 0) hX
  have e1 : sumI l.length (fun k => if LoAt l k 0 then (1 : Int) else 0) = 1 := by
    rw [sumI_single hi]
    · rw [if_pos hl]
    · intro k hk hne
      rw [if_neg (fun h => hne (g.lo_uniq hk hi h hl))]
  have e2 := sumI_tele l.length (fun k => if (cor l k).x = 0 then (cor l k).z else 0)
  have e3 : cor l l.length = cor l 0 := by
    have := cor_add (l := l) 0
    rwa [Nat.zero_add] at this
  rw [e3] at e2
  have e4 : sumI l.length (fun k => (fun k => if (cor l k).x = 0 then (cor l k).z else 0) k - (fun k => if (cor l k).x = 0 then (cor l k).z else 0) (k + 1)) =
      sumI l.length (fun k => vertI l k + (-(cLo (cor l k) (cor l (k + 1)) 0) + (-(cHi (cor l k) (cor l (k + 1)) 0) + -(if LoAt l k 0 then (1 : Int) else 0)))) := sumI_congr fun k _ => by
    have w1 := w.lo k
    have w2 := w.lo (k + 1)
    dsimp only
    unfold vertI cLo cHi LoAt
    by_cases h1 : (cor l k).x = 0
    · by_cases h2 : (cor l (k + 1)).x = 0
      · rw [if_pos h1, if_pos h2, if_pos ⟨h1, h2⟩, if_neg (by omega), if_neg (by omega), if_neg (by omega)]; omega
      · rw [if_pos h1, if_neg h2, if_neg (by omega), if_pos (by omega), if_neg (by omega), if_pos (by omega)]
        unfold loF
        rw [h1]; simp; try omega
    · by_cases h2 : (cor l (k + 1)).x = 0
      · rw [if_neg h1, if_pos h2, if_neg (by omega), if_neg (by omega), if_pos (by omega), if_neg (by omega)]
        unfold hiF
        rw [h2]; simp; try omega
      · rw [if_neg h1, if_neg h2, if_neg (by omega), if_neg (by omega), if_neg (by omega), if_neg (by omega)]; omega
  rw [e4, sumI_add, sumI_add, sumI_add, sumI_neg, sumI_neg, sumI_neg, e1] at e2
  unfold colF
  omega
omit g in
theorem border_sum : ((borderL l).length : Int) = sumI l.length fun i => stepsI (cor l i) (cor l (i + 1)) := by
  have key : ∀ n, n ≤ l.length → (preN l n : Int) = sumI n fun i => stepsI (cor l i) (cor l (i + 1)) := by
    intro n
    induction n with
    | zero => intro _; rw [preN_zero]; rfl
    | succ n ih =>
      intro hn
      rw [preN_succ (edgesL_get (by omega)), sumI_succ, ← ih (by omega)]
      unfold stepsI
      dsimp only
      omega
  rw [← key l.length (Nat.le_refl _)]
  have := preN_all l
  rw [show (edgeVs l).length = l.length from edges_len l] at this
  rw [this]
  simp [borderVs]
/-- **Pick's equation** -/
theorem Good.pick (h0x : (leastL l).x = 0) (hx : (mostL l).x ≤ 60) (hz : (mostL l).z ≤ 60) : twiceZ l = 2 * inN l 61 + ((borderL l).length : Int) - 2 := by
  have h3 := g.len
  have hpos : 0 < l.length := by omega
  have hfar : ∀ i, 0 ≤ (cor l i).x ∧ 0 ≤ (cor l i).z := fun i => by
    have := near_in (g.far i); omega
  obtain ⟨m1, m2, m3⟩ := most_spec hpos
  obtain ⟨_, l2, _⟩ := least_spec hpos
  obtain ⟨X, hXe⟩ := Int.eq_ofNat_of_zero_le (show 0 ≤ (mostL l).x by have := (m1 _ (cor_mem hpos 0)).1; have := hfar 0; omega)
  have w : Wide l (X : Int) := by
    refine ⟨fun i => (hfar i).1, fun i => by have := (m1 _ (cor_mem hpos i)).1; omega, ?_, ?_⟩
    · obtain ⟨p, hp, he⟩ := l2
      obtain ⟨i, hi, rfl⟩ := mem_cor hp
      exact ⟨i, hi, by omega⟩
    · obtain ⟨p, hp, he⟩ := m2
      obtain ⟨i, hi, rfl⟩ := mem_cor hp
      exact ⟨i, hi, by omega⟩
  have hzz : ∀ i, 0 ≤ (cor l i).z ∧ (cor l i).z ≤ 60 := fun i => ⟨(hfar i).2, by have := (m1 _ (cor_mem hpos i)).2; omega⟩
  have hX0 : 0 < X := by
    rcases Nat.eq_zero_or_pos X with h | h
    · exfalso
      have := g.cvx.edge 0 2 (by omega) (by omega)
      have a0 := w.lo 0; have a1 := w.hi 0; have b0 := w.lo (0 + 1); have b1 := w.hi (0 + 1); have c0 := w.lo (0 + 2); have c1 := w.hi (0 + 2)
      rw [side_upright (by omega), show (cor l (0 + 2)).x - (cor l 0).x = 0 from by omega] at this
      simp at this
    · exact h
  -- each edge
  have hE : ∀ i, i < l.length → 2 * (sumI X (fun a => cLo (cor l i) (cor l (i + 1)) (a : Int)) + sumI X (fun a => cHi (cor l i) (cor l (i + 1)) (a : Int))) + (-2) * vertI l i =
      crossZ (cor l i) (cor l (i + 1)) + (((fun k => (cor l k).x * (cor l k).z) i - (fun k => (cor l k).x * (cor l k).z) (i + 1)) + (-((fun k => (cor l k).z) i - (fun k => (cor l k).z) (i + 1)) + (((fun k => (cor l k).x) i - (fun k => (cor l k).x) (i + 1)) + -(stepsI (cor l i) (cor l (i + 1)))))) := fun i hi => by
    dsimp only
    by_cases hne : (cor l i).x = (cor l (i + 1)).x
    · have e1 : sumI X (fun a => cLo (cor l i) (cor l (i + 1)) (a : Int)) = 0 := sumI_null fun a _ => by unfold cLo; rw [if_neg (by omega)]
      have e2 : sumI X (fun a => cHi (cor l i) (cor l (i + 1)) (a : Int)) = 0 := sumI_null fun a _ => by unfold cHi; rw [if_neg (by omega)]
      have hst : stepsI (cor l i) (cor l (i + 1)) = (((cor l (i + 1)).z - (cor l i).z).natAbs : Int) := by
        unfold stepsI stepsN
        rw [show (cor l (i + 1)).x - (cor l i).x = 0 from by omega]
        simp
      have hcr : crossZ (cor l i) (cor l (i + 1)) = (cor l (i + 1)).x * (cor l (i + 1)).z - (cor l i).x * (cor l i).z := by
        unfold crossZ; rw [hne]; grind
      have hzne : (cor l (i + 1)).z ≠ (cor l i).z := fun h => g.ne i (by
        cases ha : cor l i; cases hb : cor l (i + 1)
        rw [ha, hb] at hne h
        simp only [Pt.mk.injEq]
        exact ⟨hne, h.symm⟩)
      obtain ⟨i0, _, hx0⟩ := w.at0
      obtain ⟨i1, _, hx1⟩ := w.at1
      have q1 := (g.vside1 hi i0).1
      have q2 := (g.vside1 hi i1).1
      unfold sd at q1 q2
      rw [side_upright hne, hx0] at q1
      rw [side_upright hne, hx1] at q2
      rw [e1, e2, hst, hcr]
      unfold vertI
      rcases Int.lt_or_gt_of_ne hzne with h | h
      · -- down: at the beginning
        have hx : (cor l i).x = 0 := by
          have := w.lo i
          refine Classical.byContradiction fun hn => ?_
          have := Int.mul_pos (show 0 < (cor l i).z - (cor l (i + 1)).z by omega) (show 0 < (cor l i).x by omega)
          have e : -((cor l (i + 1)).z - (cor l i).z) * (0 - (cor l i).x) = -(((cor l i).z - (cor l (i + 1)).z) * (cor l i).x) := by grind
          omega
        rw [if_pos ⟨hx, by omega⟩]
        omega
      · have hx : ¬ (cor l i).x = 0 := fun hn => by
          have := Int.mul_pos (show 0 < (cor l (i + 1)).z - (cor l i).z by omega) (show 0 < (X : Int) - (cor l i).x by omega)
          have e : -((cor l (i + 1)).z - (cor l i).z) * ((X : Int) - (cor l i).x) = -(((cor l (i + 1)).z - (cor l i).z) * ((X : Int) - (cor l i).x)) := by grind
          omega
        rw [if_neg (fun h => hx h.1)]
        omega
    · rw [edge_cols (w.lo i) (w.hi i) (w.lo (i + 1)) (w.hi (i + 1)) hne]
      have hv : vertI l i = 0 := by
        unfold vertI; rw [if_neg (by omega)]
      rw [hv]
      unfold crossZ
      grind
  have hsum := sumI_congr hE
  have c0 : cor l l.length = cor l 0 := by
    have := cor_add (l := l) 0
    rwa [Nat.zero_add] at this
  rw [sumI_add, sumI_scale, sumI_scale, sumI_add, ← sumI_swap X l.length (fun i a => cLo (cor l i) (cor l (i + 1)) (a : Int)), ← sumI_swap X l.length (fun i a => cHi (cor l i) (cor l (i + 1)) (a : Int)),
    sumI_add, sumI_add, sumI_add, sumI_add, sumI_neg, sumI_neg, sumI_tele, sumI_tele, sumI_tele, c0, ← border_sum] at hsum
  -- the columns
  have hcols : sumI X (fun a => colF l (a : Int)) = sumI X (fun a => colN l (a : Int) 61) + (sumI l.length (vertI l) - 1) := by
    have e : sumI X (fun a => colF l (a : Int)) = sumI X (fun a => colN l (a : Int) 61 + (if a = 0 then sumI l.length (vertI l) - 1 else 0)) := sumI_congr fun a ha => by
      by_cases h : a = 0
      · subst h
        rw [if_pos rfl, col_none (l := l) (a := ((0 : Nat) : Int)) (fun b hb hp => g.ins_out w (.inl (by simp)) ((g.pin_iff (by simp) (by simp) (by omega) (by omega)).1 hp)) 61 (Nat.le_refl _)]
        have := g.col_zero w (by omega)
        rw [show ((0 : Nat) : Int) = 0 from rfl, this]; omega
      · rw [if_neg h, g.col_eq w hzz (by omega) (by omega) (by omega)]; omega
    rw [e, sumI_add, sumI_single (i := 0) hX0 (fun k _ hk => if_neg hk), if_pos rfl]
  have hin : inN l 61 = sumI X (fun a => colN l (a : Int) 61) := by
    rw [in_sum, show (61 : Nat) = X + (61 - X) from by omega, sumI_append, sumI_null (n := 61 - X), show X + (61 - X) = 61 from by omega]
    · omega
    · intro k hk
      rw [show X + (61 - X) = 61 from by omega]
      exact col_none (fun b hb hp => g.ins_out w (.inr (by omega)) ((g.pin_iff (by omega) (by omega) (by omega) (by omega)).1 hp)) 61 (Nat.le_refl _)
  have hF : sumI X (fun a => colF l (a : Int)) = sumI X (fun a => sumI l.length (fun i => cLo (cor l i) (cor l (i + 1)) (a : Int)) + sumI l.length (fun i => cHi (cor l i) (cor l (i + 1)) (a : Int))) := rfl
  rw [sumI_add] at hF
  unfold twiceZ
  rw [hin]
  omega
end
end Go.Stn

namespace Go.Stn
open Go Go.K Go.RowKit
theorem placed_least {l : List Pt} (h : placedB l = true) : (leastL l).x = 0 ∧ (leastL l).z = 0 := by
  unfold placedB at h
  simp only [Bool.and_eq_true, decide_eq_true_eq] at h
  exact ⟨h.2.1.1, h.2.1.2⟩
end Go.Stn

namespace Go.Stn
open Go Go.K Go.RowKit
theorem pick_w {s : Stn} (hk : checkI s = 0) (hx : (mostL s.shape).x ≤ 60) (hz : (mostL s.shape).z ≤ 60) : twiceW s.shape = 2 * inN s.shape 61 + ((borderL s.shape).length : Int) - 2 := by
  have g := good_of hk
  have hl := check_len hk
  have h0 := (placed_least (check_placed hk)).1
  have hp := g.pick h0 hx hz
  have hb := border_len g.near
  obtain ⟨i0, i1⟩ := in_in s.shape 61
  rw [twice_eq, hp, W_in (by omega) (by omega)]
end Go.Stn

namespace Go.K
open Go Go.RowKit
structure Slots (c : Cx) (H : List Res) (G : Nat → Option Res) (B : Nat → Nat → Prop) (w : World) : Prop where
  own : ∀ j R, G j = some R → R.A (B j) w ∧ ∀ k, B j k → ¬ c.U k ∧ k < w.heap.size
  dis : ∀ i j, (G i).isSome = true → (G j).isSome = true → i ≠ j → ∀ k, B i k → ¬ B j k
  out : Holds H (fun k => c.U k ∨ ∃ i, (G i).isSome = true ∧ B i k) w
section
variable {c : Cx} {H : List Res} {G : Nat → Option Res} {B : Nat → Nat → Prop} {w w' : World}
theorem Slots.congr {G' : Nat → Option Res} (h : Slots c H G B w) (hg : ∀ j, G' j = G j) : Slots c H G' B w := by
  have : G' = G := funext hg
  rw [this]; exact h
theorem Slots.ext (h : Slots c H G B w) (hx : Ext w w') : Slots c H G B w' :=
  ⟨fun j R hj => ⟨R.loc _ w w' (fun k hk => hx.block k ((h.own j R hj).2 k hk).2) (h.own j R hj).1, fun k hk => ⟨((h.own j R hj).2 k hk).1, Nat.lt_of_lt_of_le ((h.own j R hj).2 k hk).2 hx.size⟩⟩, h.dis, Holds.ext hx h.out⟩
theorem Slots.new (h : Slots c H G B w) (hb : Base c.U c.w0 w) (hx : Ext w w') (i : Nat) {R : Res} {Bn : Nat → Prop} (hBn : ∀ k, Bn k → w.heap.size ≤ k ∧ k < w'.heap.size) (hA : R.A Bn w') :
    Slots c H (fun j => if j = i then some R else G j) (fun j => if j = i then Bn else B j) w' := by
  have h' := h.ext hx
  have hUlt : ∀ k, c.U k → k < w.heap.size := fun k hk => Nat.lt_of_lt_of_le (hb.lt k hk) hb.size
  refine ⟨fun j S hj => ?_, fun a b ha hb' hab k hk1 hk2 => ?_, ?_⟩
  · by_cases hji : j = i
    · simp only [if_pos hji, Option.some.injEq] at hj ⊢
      subst hj
      exact ⟨hA, fun k hk => ⟨fun hu => by have := hUlt k hu; have := (hBn k hk).1; omega, (hBn k hk).2⟩⟩
    · simp only [if_neg hji] at hj ⊢
      exact h'.own j S hj
  · by_cases hai : a = i
    · have hbi : b ≠ i := fun e => hab (hai.trans e.symm)
      simp only [if_pos hai] at ha hk1
      simp only [if_neg hbi] at hb' hk2
      obtain ⟨S, hS⟩ := Option.isSome_iff_exists.1 hb'
      have := ((h.own b S hS).2 k hk2).2
      have := (hBn k hk1).1
      omega
    · simp only [if_neg hai] at ha hk1
      by_cases hbi : b = i
      · simp only [if_pos hbi] at hb' hk2
        obtain ⟨S, hS⟩ := Option.isSome_iff_exists.1 ha
        have := ((h.own a S hS).2 k hk1).2
        have := (hBn k hk2).1
        omega
      · simp only [if_neg hbi] at hb' hk2
        exact h.dis a b ha hb' hab k hk1 hk2
  · have key : ∀ (L : List Res) (V V' : Nat → Prop), (∀ k, k < w.heap.size → V' k → V k) → Holds L V w → Holds L V' w' := by
      intro L
      induction L with
      | nil => intro _ _ _ _; trivial
      | cons R L ih =>
        intro V V' hV hh
        obtain ⟨C, hC, hA, hr'⟩ := hh
        refine ⟨C, fun k hk => ⟨fun hv => (hC k hk).1 (hV k (hC k hk).2 hv), Nat.lt_of_lt_of_le (hC k hk).2 hx.size⟩, R.loc C w w' (fun k hk => hx.block k (hC k hk).2) hA, ?_⟩
        exact ih _ _ (fun k hk hv => hv.imp (hV k hk) id) hr'
    refine key H _ _ ?_ h.out
    rintro k hk (hu | ⟨j, hj, hbj⟩)
    · exact .inl hu
    · by_cases hji : j = i
      · simp only [if_pos hji] at hbj
        have := (hBn k hbj).1
        omega
      · simp only [if_neg hji] at hj hbj
        exact .inr ⟨j, hj, hbj⟩
theorem Slots.upd (h : Slots c H G B w) {j0 : Nat} {R R' : Res} {B' : Nat → Prop} (hG : G j0 = some R) (hb : Base c.U c.w0 w) (hm : Mod (B j0) w w') (ho : Own (B j0) B' w w') (hA : R'.A B' w') :
    Base c.U c.w0 w' ∧ Slots c H (fun j => if j = j0 then some R' else G j) (fun j => if j = j0 then B' else B j) w' := by
  have hUlt : ∀ k, c.U k → k < w.heap.size := fun k hk => Nat.lt_of_lt_of_le (hb.lt k hk) hb.size
  have h0 := h.own j0 R hG
  refine ⟨hb.mod hm (fun k hk => (h0.2 k hk).1), ⟨fun j S hj => ?_, fun a b ha hb' hab k hk1 hk2 => ?_, ?_⟩⟩
  · by_cases hji : j = j0
    · simp only [if_pos hji, Option.some.injEq] at hj ⊢
      subst hj
      refine ⟨hA, fun k hk => ?_⟩
      rcases ho k hk with hk' | ⟨h1, h2⟩
      · exact ⟨(h0.2 k hk').1, Nat.lt_of_lt_of_le (h0.2 k hk').2 hm.size⟩
      · exact ⟨fun hu => by have := hUlt k hu; omega, h2⟩
    · simp only [if_neg hji] at hj ⊢
      obtain ⟨g1, g2⟩ := h.own j S hj
      refine ⟨S.loc _ w w' (fun k hk => hm.same k (g2 k hk).2 (fun hb0 => h.dis j j0 (by rw [hj]; rfl) (by rw [hG]; rfl) hji k hk hb0)) g1, fun k hk => ⟨(g2 k hk).1, Nat.lt_of_lt_of_le (g2 k hk).2 hm.size⟩⟩
  · have cross : ∀ a, a ≠ j0 → (G a).isSome = true → B a k → B' k → False := fun a haj ha hk1 hk2 => by
      obtain ⟨S, hS⟩ := Option.isSome_iff_exists.1 ha
      rcases ho k hk2 with hk' | ⟨h1, _⟩
      · exact h.dis a j0 ha (by rw [hG]; rfl) haj k hk1 hk'
      · have := ((h.own a S hS).2 k hk1).2; omega
    by_cases hai : a = j0
    · have hbi : b ≠ j0 := fun e => hab (hai.trans e.symm)
      simp only [if_pos hai] at ha hk1
      simp only [if_neg hbi] at hb' hk2
      exact cross b hbi hb' hk2 hk1
    · simp only [if_neg hai] at ha hk1
      by_cases hbi : b = j0
      · simp only [if_pos hbi] at hb' hk2
        exact cross a hai ha hk1 hk2
      · simp only [if_neg hbi] at hb' hk2
        exact h.dis a b ha hb' hab k hk1 hk2
  · have key : ∀ (L : List Res) (V V' : Nat → Prop), (∀ k, B j0 k → V k) → (∀ k, k < w.heap.size → V' k → V k) → Holds L V w → Holds L V' w' := by
      intro L
      induction L with
      | nil => intro _ _ _ _ _; trivial
      | cons S L ih =>
        intro V V' hB hV hh
        obtain ⟨C, hC, hA, hr'⟩ := hh
        refine ⟨C, fun k hk => ⟨fun hv => (hC k hk).1 (hV k (hC k hk).2 hv), Nat.lt_of_lt_of_le (hC k hk).2 hm.size⟩, S.loc C w w' (fun k hk => hm.same k (hC k hk).2 (fun hb0 => (hC k hk).1 (hB k hb0))) hA, ?_⟩
        exact ih _ _ (fun k hk => .inl (hB k hk)) (fun k hk hv => hv.imp (hV k hk) id) hr'
    refine key H _ _ (fun k hk => .inr ⟨j0, by rw [hG]; rfl, hk⟩) ?_ h.out
    rintro k hk (hu | ⟨j, hj, hbj⟩)
    · exact .inl hu
    · by_cases hji : j = j0
      · simp only [if_pos hji] at hbj
        rcases ho k hbj with hk' | ⟨h1, _⟩
        · exact .inr ⟨j0, by rw [hG]; rfl, hk'⟩
        · omega
      · simp only [if_neg hji] at hj hbj
        exact .inr ⟨j, hj, hbj⟩
theorem Slots.holds (h : Slots c H G B w) : ∀ (js : List Nat) (Rs : List Res), F2 (fun j R => G j = some R) js Rs → js.Nodup → Holds (Rs ++ H) c.U w := by
  have key : ∀ (js : List Nat) (Rs : List Res) (X : Nat → Prop), F2 (fun j R => G j = some R) js Rs → js.Nodup → (∀ j ∈ js, ¬ X j) → Holds (Rs ++ H) (fun k => c.U k ∨ ∃ i, X i ∧ (G i).isSome = true ∧ B i k) w := by
    intro js
    induction js with
    | nil =>
      intro Rs X hf _ _
      cases Rs with
      | nil => exact Holds.anti H (fun k hk => by
          rcases hk with hu | ⟨i, _, hi, hb⟩
          · exact .inl hu
          · exact .inr ⟨i, hi, hb⟩) h.out
      | cons _ _ => exact hf.elim
    | cons j js ih =>
      intro Rs X hf hn hX
      cases Rs with
      | nil => exact hf.elim
      | cons R Rs =>
        obtain ⟨hj, hf'⟩ := hf
        rw [List.nodup_cons] at hn
        obtain ⟨g1, g2⟩ := h.own j R hj
        refine ⟨B j, fun k hk => ⟨?_, (g2 k hk).2⟩, g1, ?_⟩
        · rintro (hu | ⟨i, hXi, hi, hbi⟩)
          · exact (g2 k hk).1 hu
          · exact h.dis j i (by rw [hj]; rfl) hi (fun e => hX j (List.mem_cons_self ..) (e ▸ hXi)) k hk hbi
        · refine Holds.anti _ ?_ (ih Rs (fun i => X i ∨ i = j) hf' hn.2 (fun i hi hx => ?_))
          · rintro k ((hu | ⟨i, hXi, hi, hbi⟩) | hk)
            · exact .inl hu
            · exact .inr ⟨i, .inl hXi, hi, hbi⟩
            · exact .inr ⟨j, .inr rfl, by rw [hj]; rfl, hk⟩
          · rcases hx with hx | hx
            · exact hX i (List.mem_cons_of_mem _ hi) hx
            · subst hx; exact hn.1 hi
  intro js Rs hf hn
  refine Holds.anti _ (fun k hk => .inl hk) (key js Rs (fun _ => False) hf hn (fun _ _ h => h))
end
def ch : List (Nat × Type) → Nat → Type
  | [], _ => Unit
  | (k, T) :: r, i => bif Nat.beq k i then T else ch r i
/-- what operation i is: where its value goes, whose memory it makes or turns, its value, that memory; all out of what was chosen -/
structure E3 (XS : Nat → Type) where
  i : Nat
  d : Option Nat
  t : Option Nat
  V : ((i : Nat) → XS i) → Value
  A : ((i : Nat) → XS i) → Res
def tIs (t : Option Nat) (j : Nat) : Bool := match t with
  | some k => Nat.beq k j
  | none => false
/-- i waits for j, by a table -/
def rcf (ms : List Nat) (i j : Nat) : Bool := Nat.blt j i && Nat.beq (Nat.land (Nat.shiftRight (ms.getD i 0) j) 1) 1
def okM (ops : List Oper) (ms : List Nat) : Bool := (List.range ops.length).all fun i => (List.range i).all fun j => !rcf ms i j || (match ops[i]? with
  | some o => o.after.toList.any fun e => Region.binds .any e && (Nat.beq e.on j || rcf ms e.on j)
  | none => false)
section
variable {XS : Nat → Type}
def slotAt (ρ : (i : Nat) → XS i) (done : Nat → Bool) (j : Nat) : List (E3 XS) → Option Res
  | [] => none
  | x :: r => bif tIs x.t j && done x.i then some (x.A ρ) else slotAt ρ done j r
def okSt (rc : Nat → Bool) (j : Nat) : List (E3 XS) → Bool
  | [] => true
  | x :: r => (!tIs x.t j || rc x.i) && okSt rc j r
def viewH (ρ : (i : Nat) → XS i) (rc : Nat → Bool) (S : List (E3 XS)) : List (E3 XS) → List Res
  | [] => []
  | x :: r => bif tIs x.t x.i && okSt rc x.i S then (match slotAt ρ rc x.i S with | some R => R :: viewH ρ rc S r | none => viewH ρ rc S r) else viewH ρ rc S r
def viewT (ρ : (i : Nat) → XS i) (f : Nat → Bool) : List (E3 XS) → List (Nat × Value)
  | [] => []
  | x :: r => match x.d with
    | some d => bif f x.i then (d, x.V ρ) :: viewT ρ f r else viewT ρ f r
    | none => viewT ρ f r
def lk3 : List (E3 XS) → Nat → Option (((i : Nat) → XS i) → Value)
  | [], _ => none
  | x :: r, j => bif Nat.beq x.i j && x.d.isSome then some x.V else lk3 r j
theorem slotAt_congr {ρ ρ' : (i : Nat) → XS i} {done done' : Nat → Bool} {j : Nat} : ∀ (S : List (E3 XS)), (∀ x ∈ S, tIs x.t j = true → done x.i = done' x.i ∧ (done x.i = true → x.A ρ = x.A ρ')) → slotAt ρ done j S = slotAt ρ' done' j S
  | [], _ => rfl
  | x :: r, h => by
    have ih := slotAt_congr r (fun y hy => h y (List.mem_cons_of_mem _ hy))
    unfold slotAt
    cases ht : tIs x.t j with
    | false => simpa using ih
    | true =>
      obtain ⟨h1, h2⟩ := h x (List.mem_cons_self ..) ht
      rw [← h1]
      cases hd : done x.i with
      | false => simpa using ih
      | true => simp [h2 hd]
theorem slotAt_append {ρ : (i : Nat) → XS i} {done : Nat → Bool} {j : Nat} : ∀ (q S : List (E3 XS)), (∀ x ∈ q, tIs x.t j = true → done x.i = false) → slotAt ρ done j (q ++ S) = slotAt ρ done j S
  | [], _, _ => rfl
  | x :: q, S, h => by
    have ih := slotAt_append (ρ := ρ) q S (fun y hy => h y (List.mem_cons_of_mem _ hy))
    show (bif tIs x.t j && done x.i then some (x.A ρ) else slotAt ρ done j (q ++ S)) = _
    cases ht : tIs x.t j with
    | false => simpa using ih
    | true => rw [h x (List.mem_cons_self ..) ht]; simpa using ih
theorem slotAt_some {ρ : (i : Nat) → XS i} {done : Nat → Bool} {j : Nat} {R : Res} : ∀ (S : List (E3 XS)), slotAt ρ done j S = some R → ∃ x ∈ S, tIs x.t j = true ∧ done x.i = true
  | [], h => by cases h
  | x :: r, h => by
    change (bif tIs x.t j && done x.i then some (x.A ρ) else slotAt ρ done j r) = some R at h
    cases hb : tIs x.t j && done x.i with
    | true =>
      rw [Bool.and_eq_true] at hb
      exact ⟨x, List.mem_cons_self .., hb⟩
    | false =>
      rw [hb] at h
      obtain ⟨y, hy, h2⟩ := slotAt_some r h
      exact ⟨y, List.mem_cons_of_mem _ hy, h2⟩
theorem okSt_spec {rc : Nat → Bool} {j : Nat} : ∀ (S : List (E3 XS)), okSt rc j S = true → ∀ x ∈ S, tIs x.t j = true → rc x.i = true
  | [], _, _, hx, _ => by cases hx
  | y :: r, h, x, hx, ht => by
    simp only [okSt, Bool.and_eq_true] at h
    rcases List.mem_cons.1 hx with rfl | hx
    · have := h.1
      rw [ht] at this
      simpa using this
    · exact okSt_spec r h.2 x hx ht
theorem viewT_spec {ρ : (i : Nat) → XS i} {f : Nat → Bool} {t : Nat} {v : Value} {T : List (Nat × Value)} : ∀ (S : List (E3 XS)), lk (viewT ρ f S ++ T) t = some v → (∃ x ∈ S, x.d = some t ∧ f x.i = true ∧ v = x.V ρ) ∨ lk T t = some v
  | [], h => .inr h
  | x :: r, h => by
    have rest : lk (viewT ρ f r ++ T) t = some v → (∃ y ∈ x :: r, y.d = some t ∧ f y.i = true ∧ v = y.V ρ) ∨ lk T t = some v := fun h => by
      rcases viewT_spec r h with ⟨y, hy, h2⟩ | h2
      · exact .inl ⟨y, List.mem_cons_of_mem _ hy, h2⟩
      · exact .inr h2
    unfold viewT at h
    cases hd : x.d with
    | none => rw [hd] at h; exact rest h
    | some d =>
      rw [hd] at h
      cases hf : f x.i with
      | false => rw [hf] at h; exact rest h
      | true =>
        rw [hf] at h
        simp only [cond_true, List.cons_append] at h
        by_cases hdt : d = t
        · subst hdt
          rw [lk_cons_self, Option.some.injEq] at h
          exact .inl ⟨x, List.mem_cons_self .., hd, hf, h.symm⟩
        · rw [lk_cons_ne hdt] at h; exact rest h
theorem lk3_mem : ∀ (S : List (E3 XS)) (j : Nat) V, lk3 S j = some V → ∃ x ∈ S, x.i = j ∧ x.d.isSome = true ∧ x.V = V
  | [], _, _, h => by cases h
  | x :: r, j, V, h => by
    change (bif Nat.beq x.i j && x.d.isSome then some x.V else lk3 r j) = some V at h
    cases hb : Nat.beq x.i j && x.d.isSome with
    | true =>
      rw [hb] at h
      rw [Bool.and_eq_true] at hb
      simp only [cond_true, Option.some.injEq] at h
      exact ⟨x, List.mem_cons_self .., Nat.eq_of_beq_eq_true hb.1, hb.2, h⟩
    | false =>
      rw [hb] at h
      obtain ⟨y, hy, h2⟩ := lk3_mem r j V h
      exact ⟨y, List.mem_cons_of_mem _ hy, h2⟩
theorem viewH_f2 {ρ : (i : Nat) → XS i} {rc : Nat → Bool} {S : List (E3 XS)} {G : Nat → Option Res} (hG : ∀ j, okSt rc j S = true → (∃ x ∈ S, x.i = j ∧ tIs x.t x.i = true) → ∀ R, slotAt ρ rc j S = some R → G j = some R) :
    ∀ (L : List (E3 XS)), (∀ x ∈ L, x ∈ S) → (L.map (·.i)).Nodup → ∃ js, (∀ j ∈ js, j ∈ L.map (·.i)) ∧ js.Nodup ∧ F2 (fun j R => G j = some R) js (viewH ρ rc S L)
  | [], _, _ => ⟨[], fun _ h => h, List.nodup_nil, trivial⟩
  | x :: r, hs, hn => by
    rw [List.map_cons, List.nodup_cons] at hn
    obtain ⟨js, h1, h2, h3⟩ := viewH_f2 hG r (fun y hy => hs y (List.mem_cons_of_mem _ hy)) hn.2
    have h1' : ∀ j ∈ js, j ∈ (x :: r).map (·.i) := fun j hj => List.mem_cons_of_mem _ (h1 j hj)
    unfold viewH
    cases hb : tIs x.t x.i && okSt rc x.i S with
    | false => exact ⟨js, h1', h2, h3⟩
    | true =>
      rw [Bool.and_eq_true] at hb
      simp only [cond_true]
      cases hsl : slotAt ρ rc x.i S with
      | none => exact ⟨js, h1', h2, h3⟩
      | some R =>
        refine ⟨x.i :: js, fun j hj => ?_, List.nodup_cons.2 ⟨fun hm => hn.1 (h1 _ hm), h2⟩, hG x.i hb.2 ⟨x, hs x (List.mem_cons_self ..), rfl, hb.1⟩ R hsl, h3⟩
        rcases List.mem_cons.1 hj with rfl | hj
        · exact List.mem_cons_self ..
        · exact h1' j hj
def Loc3 (ms : List Nat) (x : E3 XS) : Prop := ∀ ρ ρ' : (i : Nat) → XS i, (∀ j, (rcf ms x.i j = true ∨ j = x.i) → ρ j = ρ' j) → x.V ρ = x.V ρ' ∧ x.A ρ = x.A ρ'
/-- an operation that is carried out -/
def Go3 (c : Cx) (ds : List Deferred) (pre : List Oper) (ms : List Nat) (T0 : List (Nat × Value)) (H : List Res) (i : Nat) (o : Oper) (S : List (E3 XS)) (x : E3 XS) : Prop :=
  (x.t = none ∧ x.d.isSome = true ∧ ∀ ρ : (i : Nat) → XS i, Y c ds (viewH ρ (rcf ms i) S S ++ H) (viewT ρ (bindsTo o) S ++ baseT pre i T0) o (x.V ρ)) ∨
  (x.t = some i ∧ x.d.isSome = true ∧ ∃ (V : ((i : Nat) → XS i) → XS i → Value) (A : ((i : Nat) → XS i) → XS i → Res), (∀ ρ, x.V ρ = V ρ (ρ i)) ∧ (∀ ρ, x.A ρ = A ρ (ρ i)) ∧
    (∀ ρ ρ' : (i : Nat) → XS i, (∀ j, rcf ms i j = true → ρ j = ρ' j) → V ρ = V ρ' ∧ A ρ = A ρ') ∧
    ∀ ρ : (i : Nat) → XS i, YX c ds (viewH ρ (rcf ms i) S S ++ H) (viewT ρ (bindsTo o) S ++ baseT pre i T0) o (V ρ) (A ρ)) ∨
  (x.d = none ∧ ∃ j, x.t = some j ∧ rcf ms i j = true ∧ ((List.range i).all fun r => !rcf ms r j || rcf ms i r) = true ∧
    ∀ ρ : (i : Nat) → XS i, ∃ R, slotAt ρ (rcf ms i) j S = some R ∧ StoreOb c ds (viewT ρ (bindsTo o) S ++ baseT pre i T0) H o R (x.A ρ))
def Ob3 (c : Cx) (ds : List Deferred) (pre : List Oper) (ms : List Nat) (T0 : List (Nat × Value)) (H : List Res) (i : Nat) (o : Oper) (S : List (E3 XS)) (x : E3 XS) : Prop :=
  match o.guard with
  | none => Go3 c ds pre ms T0 H i o S x
  | some (j, want) => (∃ V0, lk3 S j = some V0 ∧ (∀ ρ, V0 ρ = .bool want) ∧ bindsTo o j = true ∧ Go3 c ds pre ms T0 H i o S x) ∨
    ∃ (V0 : ((i : Nat) → XS i) → Value) (u0 : Value) (q : Bool) (u : ((i : Nat) → XS i) → Value), lk3 S j = some V0 ∧ (∀ ρ, V0 ρ = u0) ∧ bindsTo o j = true ∧ (q = true ↔ u0 = .bool want) ∧ x.t = none ∧ x.d.isSome = true ∧
      (∀ ρ, x.V ρ = if q = true then u ρ else undef) ∧ (q = true → ∀ ρ : (i : Nat) → XS i, Y c ds (viewH ρ (rcf ms i) S S ++ H) (viewT ρ (bindsTo o) S ++ baseT pre i T0) o (u ρ))
def PH3 (c : Cx) (ds : List Deferred) (pre : List Oper) (ms : List Nat) (T0 : List (Nat × Value)) (H : List Res) (K : List (E3 XS) → Prop) : Nat → List Oper → List (E3 XS) → Prop
  | _, [], S => K S
  | i, o :: r, S => ∃ x : E3 XS, x.i = i ∧ x.d = o.dst ∧ Loc3 ms x ∧ Ob3 c ds pre ms T0 H i o S x ∧ PH3 c ds pre ms T0 H K (i + 1) r (x :: S)
def distinct3 : List (Option Nat) → Bool
  | [] => true
  | some d :: r => r.all (fun x => match x with | some e => !Nat.beq d e | none => true) && distinct3 r
  | none :: r => distinct3 r
def closed3 (n : Nat) (pre suf : List Oper) (ms : List Nat) : Bool :=
  backEdges 0 (pre ++ suf) && noDefer (pre ++ suf) && distinct3 (dsts pre) && pre.all (fun o => dstOk o.dst n) &&
  (suf.isEmpty || ((List.range pre.length).all fun j => rcf ms pre.length j)) && chain (pre ++ suf) pre.length && okM (pre ++ suf) ms
theorem distinct3_spec : ∀ (l : List Oper), distinct3 (dsts l) = true → ∀ (i j : Nat) (oi oj : Oper), l[i]? = some oi → l[j]? = some oj → i ≠ j → ∀ d, oi.dst = some d → oj.dst ≠ some d
  | [], _, i, _, _, _, h, _, _, _, _ => by simp at h
  | x :: r, h, i, j, oi, oj, hi, hj, hij, d, hd => by
    simp only [dsts, List.map_cons] at h
    have hrec : distinct3 (dsts r) = true := by
      cases hx : x.dst with
      | none => rw [hx] at h; exact h
      | some dx => rw [hx] at h; simp only [distinct3, Bool.and_eq_true] at h; exact h.2
    have hr : ∀ dx, x.dst = some dx → ∀ (k : Nat) o, r[k]? = some o → o.dst ≠ some dx := fun dx hx k o hk he => by
      rw [hx] at h
      simp only [distinct3, Bool.and_eq_true] at h
      have := List.all_eq_true.1 h.1 o.dst (List.mem_map.2 ⟨o, List.mem_of_getElem? hk, rfl⟩)
      rw [he] at this
      simp at this
    cases i with
    | zero =>
      simp only [List.getElem?_cons_zero, Option.some.injEq] at hi
      subst hi
      cases j with
      | zero => exact absurd rfl hij
      | succ j => exact hr d hd j oj (by simpa using hj)
    | succ i =>
      cases j with
      | zero =>
        simp only [List.getElem?_cons_zero, Option.some.injEq] at hj
        subst hj
        intro he
        exact hr d he i oi (by simpa using hi) hd
      | succ j => exact distinct3_spec r hrec i j oi oj (by simpa using hi) (by simpa using hj) (by omega) d hd
theorem rcf_lt {ms : List Nat} {i j : Nat} (h : rcf ms i j = true) : j < i := by
  unfold rcf at h
  rw [Bool.and_eq_true] at h
  exact Nat.le_of_ble_eq_true h.1
theorem okM_spec {ops : List Oper} {ms : List Nat} (hm : okM ops ms = true) (hb : backEdges 0 ops = true) {listed : Array Bool} (hc : ∀ (k : Nat) o, ops[k]? = some o → isOn listed k → ∀ j, bindsTo o j = true → isOn listed j) :
    ∀ (i : Nat) (o : Oper), ops[i]? = some o → (∀ j, bindsTo o j = true → isOn listed j) → ∀ j, rcf ms i j = true → isOn listed j := by
  intro i
  induction i using Nat.strongRecOn with
  | _ i ih =>
    intro o ho hd j hj
    have hlt : i < ops.length := (List.getElem?_eq_some_iff.1 ho).1
    have h1 := List.all_eq_true.1 (List.all_eq_true.1 hm i (List.mem_range.2 hlt)) j (List.mem_range.2 (rcf_lt hj))
    rw [hj, ho] at h1
    simp only [Bool.not_true, Bool.false_or, List.any_eq_true, Bool.and_eq_true, Bool.or_eq_true] at h1
    obtain ⟨e, he, hbe, h2⟩ := h1
    have hon : bindsTo o e.on = true := by
      unfold bindsTo
      rw [List.any_eq_true]
      exact ⟨e, he, by rw [hbe, Nat.beq_refl]; rfl⟩
    have hlist := hd e.on hon
    rcases h2 with h2 | h2
    · rw [← Nat.eq_of_beq_eq_true h2]; exact hlist
    · have hei : e.on < i := by have := backEdges_spec ops 0 hb i o ho e.on hon; omega
      have hel : e.on < ops.length := by omega
      exact ih e.on hei ops[e.on] (by simp [hel]) (fun k hk => hc e.on ops[e.on] (by simp [hel]) hlist k hk) j h2
end
end Go.K

namespace Go.K
open Go Go.RowKit
abbrev onF (listed : Array Bool) : Nat → Bool := fun k => listed.getD k false
/-- the state when the operations of 'listed' are done -/
structure Inv3 {XS : Nat → Type} (c : Cx) (ds : List Deferred) (ops pre : List Oper) (T0 : List (Nat × Value)) (H : List Res) (S : List (E3 XS)) (listed : Array Bool) (a : Act) (w : World) : Prop where
  base : Base c.U c.w0 w
  size : a.tmps.size = c.n
  defers : a.defers = ds
  closed : ∀ (k : Nat) (o : Oper), ops[k]? = some o → isOn listed k → ∀ j, bindsTo o j = true → isOn listed j
  old : ∀ s v, lk T0 s = some v → (∀ (i : Nat) (o : Oper), pre[i]? = some o → isOn listed i → o.dst ≠ some s) → a.tmps[s]? = some v
  fam : ∃ (ρ : (i : Nat) → XS i) (B : Nat → Nat → Prop), (∀ x ∈ S, isOn listed x.i → ∀ d, x.d = some d → a.tmps[d]? = some (x.V ρ)) ∧ Slots c H (fun j => slotAt ρ (onF listed) j S) B w
section
variable {XS : Nat → Type} {c : Cx} {ds : List Deferred} {p : Post} {ops pre suf : List Oper} {T0 : List (Nat × Value)} {H : List Res} {S : List (E3 XS)} {listed : Array Bool} {a : Act} {w : World} {ms : List Nat}
theorem onF_set {l : Array Bool} {i : Nat} (hi : i < l.size) (j : Nat) : onF (l.setIfInBounds i true) j = (Nat.beq j i || onF l j) := by
  have h := isOn_set hi j
  unfold isOn at h
  unfold onF
  cases h1 : (l.setIfInBounds i true).getD j false with
  | true =>
    rcases h.1 h1 with rfl | h2
    · simp
    · rw [h2]; simp
  | false =>
    have h2 : ¬ (j = i ∨ l.getD j false = true) := fun h3 => by rw [h.2 h3] at h1; cases h1
    have h3 : Nat.beq j i = false := by
      cases hb : Nat.beq j i with
      | false => rfl
      | true => exact absurd (.inl (Nat.eq_of_beq_eq_true hb)) h2
    have h4 : l.getD j false = false := by
      cases hb : l.getD j false with
      | false => rfl
      | true => exact absurd (.inr hb) h2
    rw [h3, h4]; rfl
theorem closed_set (hI : ∀ (k : Nat) (o : Oper), ops[k]? = some o → isOn listed k → ∀ j, bindsTo o j = true → isOn listed j) {i : Nat} {o : Oper} (ho : ops[i]? = some o) (hil : i < listed.size) (hclo : ∀ j, bindsTo o j = true → isOn listed j) :
    ∀ (k : Nat) (o : Oper), ops[k]? = some o → isOn (listed.setIfInBounds i true) k → ∀ j, bindsTo o j = true → isOn (listed.setIfInBounds i true) j := by
  have hon : ∀ j, isOn (listed.setIfInBounds i true) j ↔ j = i ∨ isOn listed j := isOn_set hil
  intro k ok hk honk j hj
  rcases (hon k).1 honk with rfl | hk'
  · rw [ho] at hk; cases hk
    exact (hon j).2 (.inr (hclo j hj))
  · exact (hon j).2 (.inr (hI k ok hk hk' j hj))
/-- what the entries are -/
structure Ents3 (ms : List Nat) (pre : List Oper) (S : List (E3 XS)) : Prop where
  nd : (S.map (·.i)).Nodup
  op : ∀ x ∈ S, ∃ o, pre[x.i]? = some o ∧ o.dst = x.d
  loc : ∀ x ∈ S, Loc3 ms x
  /-- a store waits for whoever is at its slot before it -/
  sto : ∀ x ∈ S, ∀ j, x.t = some j → j ≠ x.i → rcf ms x.i j = true ∧ ∀ r, r < x.i → rcf ms r j = true → rcf ms x.i r = true
theorem Ents3.uniq (h : Ents3 ms pre S) : ∀ x ∈ S, ∀ y ∈ S, x.i = y.i → x = y := by
  have key : ∀ (L : List (E3 XS)), (L.map (·.i)).Nodup → ∀ x ∈ L, ∀ y ∈ L, x.i = y.i → x = y := by
    intro L
    induction L with
    | nil => intro _ x hx; cases hx
    | cons z r ih =>
      intro hn x hx y hy hxy
      simp only [List.map_cons, List.nodup_cons] at hn
      rcases List.mem_cons.1 hx with rfl | hx' <;> rcases List.mem_cons.1 hy with rfl | hy'
      · rfl
      · exact absurd (List.mem_map.2 ⟨y, hy', hxy.symm⟩) hn.1
      · exact absurd (List.mem_map.2 ⟨x, hx', hxy⟩) hn.1
      · exact ih hn.2 x hx' y hy' hxy
  exact key S h.nd
theorem tIs_iff {t : Option Nat} {j : Nat} : tIs t j = true ↔ t = some j := by
  unfold tIs
  cases t with
  | none => simp
  | some k => exact ⟨fun h => by rw [Nat.eq_of_beq_eq_true h], fun h => by rw [Option.some.inj h]; exact Nat.beq_refl _⟩
theorem Inv3.sat (hI : Inv3 c ds ops pre T0 H S listed a w) {ρ : (i : Nat) → XS i} (hv : ∀ x ∈ S, isOn listed x.i → ∀ d, x.d = some d → a.tmps[d]? = some (x.V ρ)) {i : Nat} (hpre : ∀ (k : Nat) o, pre[k]? = some o → ops[k]? = some o) (hun : ¬ isOn listed i)
    {o : Oper} (hclo : ∀ j, bindsTo o j = true → isOn listed j) {S' : List (E3 XS)} (hS : ∀ x ∈ S', x ∈ S) : Sat c.n (viewT ρ (bindsTo o) S' ++ baseT pre i T0) ds a := by
  refine ⟨hI.size, fun t v h => ?_, hI.defers⟩
  rcases viewT_spec S' h with ⟨x, hx, hd, hb, rfl⟩ | h
  · exact hv x (hS x hx) (hclo _ hb) t hd
  · rw [baseT_eq] at h
    obtain ⟨h1, h2⟩ := lk_filter (fun s => pre.all (fun f => (match f.dst with | some d => !Nat.beq d s | none => true) || bindsTo f i)) T0 _ (fun _ _ _ _ => trivial) rfl t v h
    refine hI.old t v h1 fun k o hk hon hd => ?_
    rw [List.all_eq_true] at h2
    have h3 := h2 o (List.mem_of_getElem? hk)
    rw [hd] at h3
    simp only [Nat.beq_refl, Bool.not_true, Bool.false_or] at h3
    exact hun (hI.closed k o (hpre k o hk) hon i h3)
/-- the state that an operation is shown -/
theorem Inv3.shown (hI : Inv3 c ds ops pre T0 H S listed a w) (hE : Ents3 ms pre S) {ρ : (i : Nat) → XS i} {B : Nat → Nat → Prop} (hs : Slots c H (fun j => slotAt ρ (onF listed) j S) B w) {i : Nat} (hun : ¬ isOn listed i)
    (hrc : ∀ j, rcf ms i j = true → isOn listed j) (hrcl : ∀ k, isOn listed k → ∀ j, rcf ms k j = true → isOn listed j) {q S' : List (E3 XS)} {x : E3 XS} (hxi : x.i = i) (hq : S = q ++ x :: S') (hgt : ∀ y ∈ q, i < y.i) :
    Hp c.U c.w0 (viewH ρ (rcf ms i) S' S' ++ H) w ∧ ∀ j, okSt (rcf ms i) j S' = true → rcf ms i j = true → slotAt ρ (rcf ms i) j S' = slotAt ρ (onF listed) j S := by
  have heq : ∀ j, okSt (rcf ms i) j S' = true → rcf ms i j = true → slotAt ρ (rcf ms i) j S' = slotAt ρ (onF listed) j S := fun j hok hij => by
    have h1 : slotAt ρ (onF listed) j S = slotAt ρ (onF listed) j S' := by
      rw [hq]
      have e : q ++ x :: S' = (q ++ [x]) ++ S' := by simp
      rw [e]
      refine slotAt_append (q ++ [x]) S' fun y hy ht => ?_
      have hyS : y ∈ S := by rw [hq, e]; exact List.mem_append_left _ hy
      have hoff : ¬ isOn listed y.i := fun hon => by
        rcases List.mem_append.1 hy with hy' | hy'
        · have hgt' := hgt y hy'
          have hji := rcf_lt hij
          have h2 := (hE.sto y hyS j (tIs_iff.1 ht) (by omega)).2 i hgt' hij
          exact hun (hrcl _ hon i h2)
        · rw [List.mem_singleton.1 hy', hxi] at hon
          exact hun hon
      unfold isOn at hoff
      unfold onF
      simpa using hoff
    rw [h1]
    refine slotAt_congr S' fun y hy ht => ?_
    have h2 := okSt_spec S' hok y hy ht
    have h3 := hrc _ h2
    unfold isOn at h3
    unfold onF
    exact ⟨by rw [h2, h3], fun _ => rfl⟩
  refine ⟨⟨hI.base, ?_⟩, heq⟩
  have hnd : (S'.map (·.i)).Nodup := by
    have := hE.nd
    rw [hq, List.map_append, List.nodup_append] at this
    have := this.2.1
    rw [List.map_cons, List.nodup_cons] at this
    exact this.2
  obtain ⟨js, _, h2, h3⟩ := viewH_f2 (ρ := ρ) (rc := rcf ms i) (S := S') (G := fun j => slotAt ρ (onF listed) j S) (fun j hok hex R hR => by
    obtain ⟨y, hy, hyj, ht⟩ := hex
    have : rcf ms i j = true := okSt_spec S' hok y hy (by rw [← hyj]; exact ht) |> (hyj ▸ ·)
    rw [← heq j hok this]; exact hR) S' (fun _ h => h) hnd
  exact hs.holds js _ h3 h2
theorem Inv3.put (hI : Inv3 c ds ops pre T0 H S listed a w) (hE : Ents3 ms pre S) {i d : Nat} {o : Oper} {x : E3 XS} (hx : x ∈ S) (hxi : x.i = i) (hp : pre[i]? = some o) (ho : ops[i]? = some o) (hil : i < listed.size) (hd : o.dst = some d) (hxd : x.d = some d)
    (hdist : ∀ j oj, pre[j]? = some oj → j ≠ i → oj.dst ≠ some d) (hn : d < c.n) (hclo : ∀ j, bindsTo o j = true → isOn listed j) {w' : World} {v : Value} (hb : Base c.U c.w0 w') {ρ' : (i : Nat) → XS i} {B' : Nat → Nat → Prop}
    (hv : v = x.V ρ') (hold : ∀ y ∈ S, isOn listed y.i → y.i ≠ i → ∀ d', y.d = some d' → a.tmps[d']? = some (y.V ρ')) (hs : Slots c H (fun j => slotAt ρ' (onF (listed.setIfInBounds i true)) j S) B' w') :
    Inv3 c ds ops pre T0 H S (listed.setIfInBounds i true) (a.put (some d) v) w' := by
  have hon : ∀ j, isOn (listed.setIfInBounds i true) j ↔ j = i ∨ isOn listed j := isOn_set hil
  have hput : ∀ t u, t ≠ d → a.tmps[t]? = some u → (a.put (some d) v).tmps[t]? = some u := fun t u ht hu => by
    simp only [Act.put]
    rw [Array.getElem?_setIfInBounds_ne (Ne.symm ht)]; exact hu
  refine ⟨hb, by simp [Act.put, hI.size], hI.defers, closed_set hI.closed ho hil hclo, ?_, ρ', B', ?_, hs⟩
  · intro s u hs' hno
    have hsd : s ≠ d := fun h => hno i o hp ((hon i).2 (.inl rfl)) (by rw [hd, h])
    exact hput s u hsd (hI.old s u hs' (fun k ok hk hlk => hno k ok hk ((hon k).2 (.inr hlk))))
  · intro y hy hoy d' hd'
    by_cases hyi : y.i = i
    · have : y = x := hE.uniq y hy x hx (hyi.trans hxi.symm)
      subst this
      rw [hxd, Option.some.injEq] at hd'
      subst hd'
      simp [Act.put, hI.size, hn, hv]
    · have hly : isOn listed y.i := ((hon y.i).1 hoy).resolve_left hyi
      refine hput d' _ ?_ (hold y hy hly hyi d' hd')
      intro hdd
      obtain ⟨oy, hoy', hdy⟩ := hE.op y hy
      exact hdist y.i oy hoy' hyi (by rw [hdy, hd', hdd])
/-- what the lexical walk comes to -/
theorem ph3_out {K : List (E3 XS) → Prop} : ∀ (r : List Oper) (i : Nat) (Sa : List (E3 XS)), PH3 c ds pre ms T0 H K i r Sa → ∃ S, K S ∧ (∃ q, S = q ++ Sa ∧ q.map (·.i) = (List.range' i r.length).reverse) ∧
    ∀ (j : Nat) o, r[j]? = some o → ∃ x S', x.i = i + j ∧ x.d = o.dst ∧ Loc3 ms x ∧ Ob3 c ds pre ms T0 H (i + j) o S' x ∧ ∃ q, S = q ++ x :: S'
  | [], i, Sa, h => ⟨Sa, h, ⟨[], rfl, rfl⟩, fun j o hj => by simp at hj⟩
  | o :: r, i, Sa, h => by
    obtain ⟨x, hi, hd, hl, hO, hr⟩ := h
    obtain ⟨S, hK, ⟨q, hq, hq2⟩, hall⟩ := ph3_out r (i + 1) _ hr
    refine ⟨S, hK, ⟨q ++ [x], by rw [hq]; simp, ?_⟩, ?_⟩
    · simp only [List.map_append, hq2, List.map_cons, List.map_nil, List.length_cons, List.range'_succ, List.reverse_cons, hi]
    · intro j oj hj
      cases j with
      | zero =>
        simp only [List.getElem?_cons_zero, Option.some.injEq] at hj
        subst hj
        exact ⟨x, Sa, hi, hd, hl, hO, q, hq⟩
      | succ j =>
        simp only [List.getElem?_cons_succ] at hj
        obtain ⟨x', S', h1, h2, h3, h4, h5⟩ := hall j oj hj
        exact ⟨x', S', by omega, h2, h3, by rwa [show i + (j + 1) = i + 1 + j from by omega], h5⟩
theorem go3_t {i : Nat} {o : Oper} {S' : List (E3 XS)} {x : E3 XS} (h : Go3 c ds pre ms T0 H i o S' x) (hxi : x.i = i) : ∀ j, x.t = some j → j ≠ x.i → rcf ms x.i j = true ∧ ∀ r, r < x.i → rcf ms r j = true → rcf ms x.i r = true := by
  intro j hj hne
  rcases h with ⟨ht, _⟩ | ⟨ht, _⟩ | ⟨_, j', ht, h1, h2, _⟩
  · rw [ht] at hj; cases hj
  · rw [ht, Option.some.injEq] at hj; exact absurd (hj.symm.trans hxi.symm) hne
  · rw [ht, Option.some.injEq] at hj
    subst hj
    rw [hxi]
    refine ⟨h1, fun r hr hrj => ?_⟩
    have := List.all_eq_true.1 h2 r (List.mem_range.2 hr)
    rw [hrj] at this
    simpa using this
theorem ob3_t {i : Nat} {o : Oper} {S' : List (E3 XS)} {x : E3 XS} (h : Ob3 c ds pre ms T0 H i o S' x) (hxi : x.i = i) : ∀ j, x.t = some j → j ≠ x.i → rcf ms x.i j = true ∧ ∀ r, r < x.i → rcf ms r j = true → rcf ms x.i r = true := by
  unfold Ob3 at h
  cases hg : o.guard with
  | none => rw [hg] at h; exact go3_t h hxi
  | some gw =>
    rw [hg] at h
    rcases h with ⟨_, _, _, _, h⟩ | ⟨_, _, _, _, _, _, _, _, ht, _⟩
    · exact go3_t h hxi
    · intro j hj; rw [ht] at hj; cases hj
theorem keepSat (hI : Inv3 c ds ops pre T0 H S listed a w) {ρ : (i : Nat) → XS i} (hv : ∀ x ∈ S, isOn listed x.i → ∀ d, x.d = some d → a.tmps[d]? = some (x.V ρ)) (hall : ∀ x ∈ S, isOn listed x.i) : Sat c.n (viewT ρ (fun _ => true) S ++ keepT pre T0) ds a := by
  refine ⟨hI.size, fun t v h => ?_, hI.defers⟩
  rcases viewT_spec S h with ⟨x, hx, hd, _, rfl⟩ | h
  · exact hv x hx (hall x hx) t hd
  · rw [keepT_eq] at h
    obtain ⟨h1, h2⟩ := lk_filter (fun s => pre.all (fun f => match f.dst with | some d => !Nat.beq d s | none => true)) T0 _ (fun _ _ _ _ => trivial) rfl t v h
    refine hI.old t v h1 fun k o hk _ hd => ?_
    rw [List.all_eq_true] at h2
    have h3 := h2 o (List.mem_of_getElem? hk)
    rw [hd] at h3
    simp at h3
theorem phase31 (hc : closed3 c.n pre suf ms = true) (hE : Ents3 ms pre S) (hS1 : S.map (·.i) = (List.range' 0 pre.length).reverse)
    (hall : ∀ (j : Nat) o, pre[j]? = some o → ∃ (x : E3 XS) (S' : List (E3 XS)), x.i = 0 + j ∧ x.d = o.dst ∧ Loc3 ms x ∧ Ob3 c ds pre ms T0 H (0 + j) o S' x ∧ ∃ q, S = q ++ x :: S')
    (hK : ∀ ρ : (i : Nat) → XS i, GK c ds (KL c (pre ++ suf).toArray p suf) (viewT ρ (fun _ => true) S ++ keepT pre T0) (viewH ρ (fun _ => true) S S ++ H)) :
    ∀ (fuel : Nat) (listed : Array Bool) (a : Act) (w : World), ((List.range (pre ++ suf).length).filter (fun i => !listed.getD i false)).length ≤ fuel → listed.size = (pre ++ suf).length →
      (∀ k, pre.length ≤ k → ¬ isOn listed k) → Inv3 c ds (pre ++ suf) pre T0 H S listed a w → wpAnyIn (FW c.r) 0 c.P .any (pre ++ suf).toArray p.Q fuel listed a w := by
  simp only [closed3, Bool.and_eq_true] at hc
  obtain ⟨⟨⟨⟨⟨⟨hback, hdef⟩, hdst⟩, hok⟩, hfirst⟩, hchain⟩, hmk⟩ := hc
  have hpre : ∀ (k : Nat) o, pre[k]? = some o → (pre ++ suf)[k]? = some o := fun k o h => by
    have := (List.getElem?_eq_some_iff.1 h).1
    rw [List.getElem?_append_left this]; exact h
  have hmem : ∀ x ∈ S, x.i < pre.length := fun x hx => by
    have hjm : x.i ∈ S.map (·.i) := List.mem_map.2 ⟨_, hx, rfl⟩
    rw [hS1, List.mem_reverse, List.mem_range'_1] at hjm
    omega
  -- when all are done
  have fin : ∀ (listed : Array Bool) (a : Act) (w : World), (∀ i, i < pre.length → isOn listed i) → Inv3 c ds (pre ++ suf) pre T0 H S listed a w → KL c (pre ++ suf).toArray p suf a w := by
    intro listed a w hallon hI
    obtain ⟨ρ, B, hv, hs⟩ := hI.fam
    have hon : ∀ x ∈ S, isOn listed x.i := fun x hx => hallon _ (hmem x hx)
    refine hK ρ a w (keepSat hI hv hon) ⟨hI.base, ?_⟩
    obtain ⟨js, _, h2, h3⟩ := viewH_f2 (ρ := ρ) (rc := fun _ => true) (S := S) (G := fun j => slotAt ρ (onF listed) j S) (fun j _ _ R hR => by
      rw [← hR]
      refine slotAt_congr S fun y hy _ => ⟨?_, fun _ => rfl⟩
      have := hon y hy
      unfold isOn at this
      unfold onF
      rw [this]) S (fun _ h => h) hE.nd
    exact hs.holds js _ h3 h2
  intro fuel
  induction fuel with
  | zero =>
    intro listed a w hf hsz hsuf hI
    by_cases hallon : ∀ i, i < pre.length → isOn listed i
    · have hl := fin listed a w hallon hI
      have h0 : suf.length = 0 := by
        rcases Nat.eq_zero_or_pos suf.length with h | h
        · exact h
        · exfalso
          have hmem : pre.length ∈ (List.range (pre ++ suf).length).filter (fun i => !listed.getD i false) := by
            rw [List.mem_filter, List.mem_range]
            refine ⟨by simp; omega, ?_⟩
            have := hsuf pre.length (Nat.le_refl _)
            unfold isOn at this
            simp only [Bool.not_eq_true] at this
            rw [this]; rfl
          have := List.length_pos_of_mem hmem
          omega
      refine phase2 (m := pre.length) hback hchain 0 0 0 listed a w (by rw [List.length_append]; omega) (Nat.le_refl _) hsz (fun k hk => ⟨fun _ => by simp at hk; omega, fun h => hallon k (by omega)⟩) ?_
      rw [Nat.add_zero, List.drop_left]
      exact hl
    · exfalso
      obtain ⟨i, hi⟩ := Classical.not_forall.1 hallon
      obtain ⟨hi1, hi2⟩ := Classical.not_imp.1 hi
      have hmem : i ∈ (List.range (pre ++ suf).length).filter (fun i => !listed.getD i false) := by
        rw [List.mem_filter, List.mem_range]
        refine ⟨by simp; omega, ?_⟩
        unfold isOn at hi2
        simp only [Bool.not_eq_true] at hi2
        rw [hi2]; rfl
      have := List.length_pos_of_mem hmem
      omega
  | succ fuel ih =>
    intro listed a w hf hsz hsuf hI
    have hrcl : ∀ k, isOn listed k → ∀ j, rcf ms k j = true → isOn listed j := fun k hk j hj => by
      have hkl : k < pre.length := by
        rcases Nat.lt_or_ge k pre.length with h | h
        · exact h
        · exact absurd hk (hsuf k h)
      exact okM_spec hmk hback hI.closed k pre[k] (hpre k _ (by simp [hkl])) (fun j hj => hI.closed k pre[k] (hpre k _ (by simp [hkl])) hk j hj) j hj
    by_cases hallon : ∀ i, i < pre.length → isOn listed i
    · have hl := fin listed a w hallon hI
      have hcnt : suf.length ≤ fuel + 1 := by
        refine Nat.le_trans ?_ hf
        rw [List.length_append, List.range_eq_range', ← List.range'_append_1, List.filter_append, List.length_append]
        refine Nat.le_trans ?_ (Nat.le_add_left _ _)
        rw [List.filter_eq_self.2 (fun x hx => ?_)]
        · simp
        · rw [List.mem_range'_1] at hx
          have := hsuf x (by omega)
          unfold isOn at this
          simp only [Bool.not_eq_true] at this
          rw [this]; rfl
      refine phase2 (m := pre.length) hback hchain suf.length 0 (fuel + 1) listed a w (by simp) hcnt hsz (fun k hk => ⟨fun hon => ?_, fun h => hallon k (by omega)⟩) ?_
      · rcases Nat.lt_or_ge k pre.length with h | h
        · omega
        · exact absurd hon (hsuf k h)
      rw [Nat.add_zero, List.drop_left]
      exact hl
    · have hex : ∃ i, i < pre.length ∧ ¬ isOn listed i := by
        obtain ⟨i, hi⟩ := Classical.not_forall.1 hallon
        exact ⟨i, Classical.not_imp.1 hi⟩
      refine ⟨fun h0 => ?_, fun i hi => ?_⟩
      · exfalso
        have least : ∀ n, (∃ i, i < n ∧ ¬ isOn listed i) → ∃ i, i < n ∧ ¬ isOn listed i ∧ ∀ k, k < i → isOn listed k := by
          intro n
          induction n with
          | zero => rintro ⟨i, hi, _⟩; omega
          | succ n ih =>
            rintro ⟨i, hi, hno⟩
            by_cases h : ∃ i, i < n ∧ ¬ isOn listed i
            · obtain ⟨j, h1, h2, h3⟩ := ih h
              exact ⟨j, by omega, h2, h3⟩
            · refine ⟨i, hi, hno, fun k hk => Classical.byContradiction fun hn => h ⟨k, by omega, hn⟩⟩
        obtain ⟨i, h1, h2, h3⟩ := least _ hex
        have hlt : i < (pre ++ suf).length := by simp; omega
        have : i ∈ Region.ready .any (pre ++ suf).toArray listed := by
          refine (isOn_ready (by simpa using hsz)).2 ⟨by simpa using hlt, h2, (pre ++ suf)[i], by simp, fun j hj => ?_⟩
          have := backEdges_spec _ 0 hback i (pre ++ suf)[i] (by simp) j hj
          exact h3 j (by omega)
        rw [h0] at this
        cases this
      · obtain ⟨g1, g2, o, ho, g3⟩ := (isOn_ready (by simpa using hsz)).1 hi
        simp only [List.size_toArray] at g1
        have ho' : (pre ++ suf)[i]? = some o := by simpa using ho
        have him : i < pre.length := by
          rcases Nat.lt_or_ge i pre.length with h | h
          · exact h
          · exfalso
            rcases Nat.lt_or_ge pre.length i with hgt | hle
            · unfold chain at hchain
              have := List.all_eq_true.1 hchain (i - pre.length - 1) (by rw [List.mem_range]; omega)
              rw [show pre.length + (i - pre.length - 1) + 1 = i from by omega, ho'] at this
              exact hsuf _ (by omega) (g3 _ this)
            · have hie : i = pre.length := by omega
              have hne : suf.isEmpty = false := by
                cases suf with
                | nil => simp at g1; omega
                | cons _ _ => rfl
              rw [hne, Bool.false_or] at hfirst
              obtain ⟨k, hk1, hk2⟩ := hex
              have := List.all_eq_true.1 hfirst k (List.mem_range.2 hk1)
              rw [← hie] at this
              exact hk2 (okM_spec hmk hback hI.closed i o ho' g3 k this)
        have hpi : pre[i]? = some o := by rw [List.getElem?_append_left him] at ho'; exact ho'
        obtain ⟨x, S', hxi, hxd, hloc, hOb, q, hq⟩ := hall i o hpi
        rw [Nat.zero_add] at hOb hxi
        have hxS : x ∈ S := by rw [hq]; simp
        have hsubS : ∀ y ∈ S', y ∈ S := fun y hy => by rw [hq]; simp [hy]
        -- the numbers ahead and behind
        have hsort : (q.map (·.i)) ++ i :: (S'.map (·.i)) = (List.range' 0 pre.length).reverse := by
          rw [← hS1, hq, List.map_append, List.map_cons, hxi]
        have hdesc : ((q.map (·.i)) ++ i :: (S'.map (·.i))).Pairwise (· > ·) := by
          rw [hsort, List.pairwise_reverse]
          exact List.pairwise_lt_range'
        rw [List.pairwise_append, List.pairwise_cons] at hdesc
        have hgt : ∀ y ∈ q, i < y.i := fun y hy => hdesc.2.2 _ (List.mem_map.2 ⟨y, hy, rfl⟩) _ (List.mem_cons_self ..)
        have hlt : ∀ y ∈ S', y.i < i := fun y hy => hdesc.2.1.1 _ (List.mem_map.2 ⟨y, hy, rfl⟩)
        have hrc : ∀ j, rcf ms i j = true → isOn listed j := fun j hj => okM_spec hmk hback hI.closed i o ho' g3 j hj
        have hilt : i < listed.size := by omega
        have hnd : isDef o = false := by
          have := List.all_eq_true.1 hdef o (List.mem_of_getElem? (hpre i o hpi))
          simpa using this
        have hcont : ∀ (a' : Act) (w' : World), Inv3 c ds (pre ++ suf) pre T0 H S (listed.setIfInBounds i true) a' w' → wpAnyIn (FW c.r) 0 c.P .any (pre ++ suf).toArray p.Q fuel (listed.setIfInBounds i true) a' w' := by
          intro a' w' hI'
          refine ih _ _ _ ?_ (by simp [hsz]) (fun k hk hon => ?_) hI'
          · have := cnt_lt (l := List.range (pre ++ suf).length) (q := fun i => !listed.getD i false) (q' := fun k => !(listed.setIfInBounds i true).getD k false) (i := i) ?_ (List.mem_range.2 g1) ?_ ?_
            · omega
            · intro x hx'
              have : ¬ isOn (listed.setIfInBounds i true) x := by unfold isOn; simpa using hx'
              have : ¬ isOn listed x := fun h => this ((isOn_set hilt x).2 (.inr h))
              unfold isOn at this
              simpa using this
            · unfold isOn at g2; simpa using g2
            · have : isOn (listed.setIfInBounds i true) i := (isOn_set hilt i).2 (.inl rfl)
              unfold isOn at this
              simp only [this]; rfl
          · rcases (isOn_set hilt k).1 hon with rfl | h
            · omega
            · exact hsuf k hk h
        obtain ⟨ρ, B, hv, hs⟩ := hI.fam
        have hsat := hI.sat hv hpre g2 g3 hsubS
        obtain ⟨hhp, hview⟩ := hI.shown hE hs g2 hrc hrcl hxi hq hgt
        have hother : ∀ y ∈ S, y.i = i → y = x := fun y hy hyi => hE.uniq y hy x hxS (hyi.trans hxi.symm)
        -- the slots when i is no target
        have hslot0 : x.t = none → ∀ j, slotAt ρ (onF (listed.setIfInBounds i true)) j S = slotAt ρ (onF listed) j S := fun ht j => by
          refine slotAt_congr S fun y hy hyt => ⟨?_, fun _ => rfl⟩
          rw [onF_set hilt]
          have : y.i ≠ i := fun e => by
            rw [hother y hy e, ht] at hyt
            cases hyt
          have hb : Nat.beq y.i i = false := by
            cases hb : Nat.beq y.i i with
            | false => rfl
            | true => exact absurd (Nat.eq_of_beq_eq_true hb) this
          rw [hb, Bool.false_or]
        have hdo : ∀ d, x.d = some d → d < c.n ∧ ∀ j oj, pre[j]? = some oj → j ≠ i → oj.dst ≠ some d := fun d hd => by
          rw [hxd] at hd
          refine ⟨?_, fun j oj hj hji => distinct3_spec pre hdst i j o oj hpi hj (Ne.symm hji) d hd⟩
          have := List.all_eq_true.1 hok o (List.mem_of_getElem? hpi)
          rw [hd] at this
          exact Nat.le_of_ble_eq_true this
        -- one value
        have hpure : ∀ (v : Value) (w' : World), x.t = none → x.d.isSome = true → v = x.V ρ → Ext w w' → wpAnyIn (FW c.r) 0 c.P .any (pre ++ suf).toArray p.Q fuel (listed.setIfInBounds i true) (a.put o.dst v) w' := by
          intro v w' ht hds hveq hx
          obtain ⟨d, hd⟩ := Option.isSome_iff_exists.1 hds
          obtain ⟨hdn, hdist⟩ := hdo d hd
          have hod : o.dst = some d := by rw [← hxd, hd]
          rw [hod]
          exact hcont _ _ (hI.put hE hxS hxi hpi ho' hilt hod hd hdist hdn g3 (hI.base.ext hx) hveq (fun y hy hon _ d' hd' => hv y hy hon d' hd') ((hs.congr (hslot0 ht)).ext hx))
        have hgo : Go3 c ds pre ms T0 H i o S' x → o.wpIn (FW c.r) 0 c.P a w (wpAnyIn (FW c.r) 0 c.P .any (pre ++ suf).toArray p.Q fuel (listed.setIfInBounds i true)) p.Q := by
          rintro (⟨ht, hds, hY⟩ | ⟨ht, hds, V, A, hVx, hAx, hVA, hY⟩ | ⟨hds, j, ht, hij, hrq, hY⟩)
          · refine wpIn_of_yld hnd ((hY ρ).run a w hsat hhp) fun v w' hvw => ?_
            exact hpure v w' ht hds hvw.1 hvw.2
          · refine wpIn_of_yld hnd ((hY ρ).run a w hsat hhp) fun v w' hvw => ?_
            obtain ⟨u, rfl, hx, Bn, hBn, hA⟩ := hvw
            obtain ⟨d, hd⟩ := Option.isSome_iff_exists.1 hds
            obtain ⟨hdn, hdist⟩ := hdo d hd
            have hod : o.dst = some d := by rw [← hxd, hd]
            rw [hod]
            -- the choice is made
            let ρ' : (i : Nat) → XS i := fun k => if h : k = i then h ▸ u else ρ k
            have hρi : ρ' i = u := by simp [ρ']
            have hρk : ∀ k, k ≠ i → ρ' k = ρ k := fun k hk => by simp [ρ', hk]
            have hsame : ∀ y ∈ S, isOn listed y.i → y.V ρ' = y.V ρ ∧ y.A ρ' = y.A ρ := fun y hy hon => by
              refine hE.loc y hy ρ' ρ fun k hk => hρk k fun e => ?_
              subst e
              rcases hk with hk | hk
              · exact g2 (hrcl _ hon _ hk)
              · rw [← hk] at hon; exact g2 hon
            have hVA' := hVA ρ' ρ (fun k hk => hρk k (fun e => by have := rcf_lt hk; omega))
            have hxV : x.V ρ' = V ρ u := by rw [hVx, hVA'.1, hρi]
            have hxA : x.A ρ' = A ρ u := by rw [hAx, hVA'.2, hρi]
            have hsl : ∀ j, slotAt ρ' (onF (listed.setIfInBounds i true)) j S = if j = i then some (A ρ u) else slotAt ρ (onF listed) j S := fun j => by
              by_cases hji : j = i
              · rw [if_pos hji, hq, hji]
                rw [slotAt_append q]
                · show (bif tIs x.t i && onF (listed.setIfInBounds i true) x.i then some (x.A ρ') else slotAt ρ' _ i S') = _
                  rw [ht, hxi, onF_set hilt, Nat.beq_refl, hxA]
                  show (bif Nat.beq i i && true then _ else _) = _
                  rw [Nat.beq_refl]; rfl
                · intro y hy hyt
                  have hyS : y ∈ S := by rw [hq]; exact List.mem_append_left _ hy
                  have hgi := hgt y hy
                  have h1 := (hE.sto y hyS i (tIs_iff.1 hyt) (by omega)).1
                  rw [onF_set hilt]
                  have hb : Nat.beq y.i i = false := by
                    cases hb : Nat.beq y.i i with
                    | false => rfl
                    | true => have := Nat.eq_of_beq_eq_true hb; omega
                  rw [hb, Bool.false_or]
                  cases ho2 : onF listed y.i with
                  | false => rfl
                  | true => exact absurd (hrcl y.i ho2 i h1) g2
              · rw [if_neg hji]
                refine slotAt_congr S fun y hy hyt => ?_
                have hyi : y.i ≠ i := fun e => by
                  rw [hother y hy e, ht] at hyt
                  exact hji (Option.some.inj (tIs_iff.1 hyt)).symm
                have hb : Nat.beq y.i i = false := by
                  cases hb : Nat.beq y.i i with
                  | false => rfl
                  | true => exact absurd (Nat.eq_of_beq_eq_true hb) hyi
                have he : onF (listed.setIfInBounds i true) y.i = onF listed y.i := by rw [onF_set hilt, hb, Bool.false_or]
                exact ⟨he, fun hon => (hsame y hy (show onF listed y.i = true by rw [← he]; exact hon)).2⟩
            exact hcont _ _ (hI.put hE hxS hxi hpi ho' hilt hod hd hdist hdn g3 (hI.base.ext hx) hxV.symm (fun y hy hon _ d' hd' => by rw [(hsame y hy hon).1]; exact hv y hy hon d' hd') ((hs.new hI.base hx i hBn hA).congr hsl))
          · obtain ⟨R, hR, hSO⟩ := hY ρ
            have hod : o.dst = none := by rw [← hxd, hds]
            have hjlt := rcf_lt hij
            -- the slot as it stands
            have hGj : slotAt ρ (onF listed) j S = some R := by
              rw [← hview j ?_ hij]; exact hR
              have key : ∀ (L : List (E3 XS)), (∀ y ∈ L, y ∈ S') → okSt (rcf ms i) j L = true := by
                intro L
                induction L with
                | nil => intro _; rfl
                | cons y L ihL =>
                  intro hL
                  have hy := hL y (List.mem_cons_self ..)
                  show (((!tIs y.t j || rcf ms i y.i)) && okSt (rcf ms i) j L) = true
                  rw [ihL (fun z hz => hL z (List.mem_cons_of_mem _ hz)), Bool.and_true]
                  cases hyt : tIs y.t j with
                  | false => rfl
                  | true =>
                    show rcf ms i y.i = true
                    by_cases hyj : j = y.i
                    · rw [← hyj]; exact hij
                    · have h1 := (hE.sto y (hsubS y hy) j (tIs_iff.1 hyt) hyj).1
                      have := List.all_eq_true.1 hrq y.i (List.mem_range.2 (hlt y hy))
                      rw [h1] at this
                      simpa using this
              exact key S' (fun _ h => h)
            obtain ⟨g4, g5⟩ := hs.own j R hGj
            refine wpIn_of_yld hnd (hSO.run a w (B j) hsat ⟨hI.base, ?_⟩ (fun k hk => (g5 k hk).2) g4) fun v w' hvw => ?_
            · exact Holds.anti H (fun k hk => .inl hk) hs.out
            obtain ⟨hm, B', ho2, hA'⟩ := hvw
            rw [hod]
            obtain ⟨hb', hs'⟩ := hs.upd hGj hI.base hm ho2 hA'
            have hsl : ∀ k, slotAt ρ (onF (listed.setIfInBounds i true)) k S = if k = j then some (x.A ρ) else slotAt ρ (onF listed) k S := fun k => by
              by_cases hkj : k = j
              · rw [if_pos hkj, hq, hkj]
                rw [slotAt_append q]
                · show (bif tIs x.t j && onF (listed.setIfInBounds i true) x.i then some (x.A ρ) else slotAt ρ _ j S') = _
                  rw [ht, hxi, onF_set hilt, Nat.beq_refl]
                  show (bif Nat.beq j j && true then _ else _) = _
                  rw [Nat.beq_refl]; rfl
                · intro y hy hyt
                  have hyS : y ∈ S := by rw [hq]; exact List.mem_append_left _ hy
                  have hgi := hgt y hy
                  have h1 := (hE.sto y hyS j (tIs_iff.1 hyt) (by omega)).2 i hgi hij
                  rw [onF_set hilt]
                  have hb : Nat.beq y.i i = false := by
                    cases hb : Nat.beq y.i i with
                    | false => rfl
                    | true => have := Nat.eq_of_beq_eq_true hb; omega
                  rw [hb, Bool.false_or]
                  cases ho3 : onF listed y.i with
                  | false => rfl
                  | true => exact absurd (hrcl y.i ho3 i h1) g2
              · rw [if_neg hkj]
                refine slotAt_congr S fun y hy hyt => ⟨?_, fun _ => rfl⟩
                have hyi : y.i ≠ i := fun e => by
                  rw [hother y hy e, ht] at hyt
                  exact hkj (Option.some.inj (tIs_iff.1 hyt)).symm
                have hb : Nat.beq y.i i = false := by
                  cases hb : Nat.beq y.i i with
                  | false => rfl
                  | true => exact absurd (Nat.eq_of_beq_eq_true hb) hyi
                rw [onF_set hilt, hb, Bool.false_or]
            have hon : ∀ j, isOn (listed.setIfInBounds i true) j ↔ j = i ∨ isOn listed j := isOn_set hilt
            refine hcont _ _ ⟨hb', hI.size, hI.defers, closed_set hI.closed ho' hilt g3, fun s u hs0 hno => hI.old s u hs0 (fun k ok hk hlk => hno k ok hk ((hon k).2 (.inr hlk))), ρ, _, fun y hy hoy d' hd' => ?_, hs'.congr hsl⟩
            have hyi : y.i ≠ i := fun e => by rw [hother y hy e, hds] at hd'; cases hd'
            exact hv y hy (((hon y.i).1 hoy).resolve_left hyi) d' hd'
        unfold wpOpIn
        rw [ho]
        simp only []
        unfold Ob3 at hOb
        cases hg : o.guard with
        | none =>
          rw [hg] at hOb
          rw [if_pos (by simp [Region.wanted, hg])]
          exact hgo hOb
        | some gw =>
          obtain ⟨j, want⟩ := gw
          rw [hg] at hOb
          have hyl : ∀ V0, lk3 S' j = some V0 → bindsTo o j = true → ∀ b : Bool, yielded (pre ++ suf).toArray a.tmps j = some b ↔ V0 ρ = .bool b := fun V0 hlk hbj b => by
            obtain ⟨y, hy, hyj, hyd, hyV⟩ := lk3_mem S' j _ hlk
            obtain ⟨d, hd⟩ := Option.isSome_iff_exists.1 hyd
            obtain ⟨oj, hoj, hdj⟩ := hE.op y (hsubS y hy)
            have hval := hv y (hsubS y hy) (by rw [hyj]; exact g3 j hbj) d hd
            rw [hyj] at hoj
            rw [← hyV]
            exact yielded_iff (by simpa using hpre j oj hoj) (by rw [hdj, hd]) hval
          rcases hOb with ⟨V0, hlk, hV0, hbj, hGo⟩ | ⟨V0, u0, qb, u, hlk, hV0, hbj, hq0, ht, hds, hxV, hst⟩
          · rw [if_pos (by simp only [Region.wanted, hg]; rw [(hyl V0 hlk hbj want).2 (hV0 ρ)]; simp)]
            exact hgo hGo
          · have hy := hyl V0 hlk hbj want
            rw [hV0] at hy
            cases hqq : qb with
            | true =>
              rw [if_pos (by simp only [Region.wanted, hg]; rw [hy.2 (hq0.1 hqq)]; simp)]
              refine wpIn_of_yld hnd ((hst hqq ρ).run a w hsat hhp) fun v w' hvw => ?_
              exact hpure v w' ht hds (by rw [hxV, if_pos hqq]; exact hvw.1) hvw.2
            | false =>
              have hnw : ¬ yielded (pre ++ suf).toArray a.tmps j = some want := fun h => by
                have := hq0.2 (hy.1 h)
                rw [hqq] at this
                cases this
              rw [if_neg (by simp only [Region.wanted, hg]; simpa using hnw)]
              refine ⟨fun _ _ => trivial, ?_⟩
              exact hpure undef w ht hds (by rw [hxV, if_neg (by simp [hqq])]) Ext.rfl
/-- **a region, drawn or not: its first operations in any order, memory of their own and all; the others behind them one by one** -/
theorem gk_any3 {id : Nat} {l : List Oper} {d : Bool} (XS : Nat → Type) (m : Nat) (ms : List Nat) (hm : d = true → c.P.follows .mixedOrders = true) (hc : closed3 c.n (l.take m) (l.drop m) ms = true) (hρ : Nonempty ((i : Nat) → XS i))
    (h : PH3 (XS := XS) c ds (l.take m) ms T0 H (fun S => ∀ ρ : (i : Nat) → XS i, GK c ds (KL c l.toArray p (l.drop m)) (viewT ρ (fun _ => true) S ++ keepT (l.take m) T0) (viewH ρ (fun _ => true) S S ++ H)) 0 (l.take m) []) : GK c ds (KC c (.region id l.toArray d) p) T0 H := by
  intro a w ha hw
  obtain ⟨ρ0⟩ := hρ
  obtain ⟨S, hK, ⟨q, hq, hq2⟩, hall⟩ := ph3_out _ _ _ h
  rw [List.append_nil] at hq
  have hl : l.take m ++ l.drop m = l := List.take_append_drop m l
  have hS1 : S.map (·.i) = (List.range' 0 (l.take m).length).reverse := by rw [hq]; exact hq2
  have hx : ∀ x ∈ S, ∃ o S', (l.take m)[x.i]? = some o ∧ x.d = o.dst ∧ Loc3 ms x ∧ Ob3 c ds (l.take m) ms T0 H x.i o S' x := fun x hx => by
    have hjm : x.i ∈ S.map (·.i) := List.mem_map.2 ⟨_, hx, rfl⟩
    have hnd0 : (S.map (·.i)).Nodup := by
      rw [hS1]
      unfold List.Nodup
      rw [List.pairwise_reverse]
      exact (List.nodup_range' (s := 0) (n := (l.take m).length) (step := 1)).imp Ne.symm
    rw [hS1, List.mem_reverse, List.mem_range'_1] at hjm
    have hlt : x.i < (l.take m).length := by omega
    obtain ⟨y, S', hyi, hyd, hyl, hyo, q', hq'⟩ := hall x.i (l.take m)[x.i] (List.getElem?_eq_getElem hlt)
    rw [Nat.zero_add] at hyi hyo
    have hyS : y ∈ S := by rw [hq']; simp
    have key : ∀ (L : List (E3 XS)), (L.map (·.i)).Nodup → ∀ x ∈ L, ∀ y ∈ L, x.i = y.i → x = y := by
      intro L
      induction L with
      | nil => intro _ x hx; cases hx
      | cons z r ih =>
        intro hn x hx y hy hxy
        simp only [List.map_cons, List.nodup_cons] at hn
        rcases List.mem_cons.1 hx with rfl | hx' <;> rcases List.mem_cons.1 hy with rfl | hy'
        · rfl
        · exact absurd (List.mem_map.2 ⟨y, hy', hxy.symm⟩) hn.1
        · exact absurd (List.mem_map.2 ⟨x, hx', hxy⟩) hn.1
        · exact ih hn.2 x hx' y hy' hxy
    have : y = x := key S hnd0 y hyS x hx hyi
    subst this
    exact ⟨_, S', List.getElem?_eq_getElem hlt, hyd, hyl, hyo⟩
  have hE : Ents3 ms (l.take m) S := by
    refine ⟨?_, fun x hxS => ?_, fun x hxS => ?_, fun x hxS => ?_⟩
    · rw [hS1]
      unfold List.Nodup
      rw [List.pairwise_reverse]
      exact (List.nodup_range' (s := 0) (n := (l.take m).length) (step := 1)).imp Ne.symm
    · obtain ⟨o, _, h1, h2, _⟩ := hx x hxS
      exact ⟨o, h1, h2.symm⟩
    · obtain ⟨_, _, _, _, h3, _⟩ := hx x hxS
      exact h3
    · obtain ⟨o, S', _, _, _, h4⟩ := hx x hxS
      exact ob3_t h4 rfl
  have hmain : ∀ w, Hp c.U c.w0 H w → wpAnyIn (FW c.r) 0 c.P .any l.toArray p.Q l.length (Array.replicate l.length false) a w := by
    intro w hw
    have hoff : ∀ k, ¬ isOn (Array.replicate l.length false) k := fun k => by
      unfold isOn
      by_cases hk : k < l.length
      · simp [hk]
      · simp [hk]
    have hnone : ∀ j, slotAt ρ0 (onF (Array.replicate l.length false)) j S = none := fun j => by
      cases hsl : slotAt ρ0 (onF (Array.replicate l.length false)) j S with
      | none => rfl
      | some R =>
        obtain ⟨x, _, _, hon⟩ := slotAt_some S hsl
        exact absurd hon (hoff x.i)
    have := phase31 (c := c) (ds := ds) (p := p) (pre := l.take m) (suf := l.drop m) (T0 := T0) (H := H) (S := S) hc hE hS1 hall (by rw [hl]; exact hK) l.length (Array.replicate l.length false) a w
      (by rw [hl]; exact Nat.le_trans (List.length_filter_le _ _) (by simp)) (by rw [hl]; simp) (fun k _ => hoff k)
      ⟨hw.base, ha.size, ha.defers, fun k o _ hon => absurd hon (hoff k), fun s v hs _ => ha.val s v hs, ρ0, fun _ _ => False, fun x _ hon => absurd hon (hoff x.i),
        ⟨fun j R hj => (by rw [hnone j] at hj; cases hj), fun i _ hi => (by rw [hnone i] at hi; cases hi), Holds.anti H (fun k hk => by
          rcases hk with hk | ⟨_, _, hk⟩
          · exact hk
          · exact hk.elim) hw.holds⟩⟩
    rw [hl] at this
    exact this
  cases d
  · refine wpIn_region ?_
    have hb : backEdges 0 l = true := by
      simp only [closed3, Bool.and_eq_true] at hc
      obtain ⟨⟨⟨⟨⟨⟨hback, _⟩, _⟩, _⟩, _⟩, _⟩, _⟩ := hc
      rwa [hl] at hback
    have := lex_of_any (c := c) (p := p) hb l.length 0 l.length (Array.replicate l.length false) a w (by omega) (Nat.le_refl _) (by simp) (fun i hi => ⟨fun h => by
      unfold isOn at h
      simp [hi] at h, fun h => by omega⟩) (hmain w hw)
    rw [List.range_eq_range']
    simpa using this
  · refine wpIn_region_any (hm rfl) ?_
    have := hmain _ hw.drawn
    simpa using this
end
section
variable {XS : Nat → Type} {c : Cx} {ds : List Deferred} {pre : List Oper} {ms : List Nat} {T0 : List (Nat × Value)} {H : List Res} {K : List (E3 XS) → Prop} {i d : Nat} {r : List Oper} {S : List (E3 XS)} {op : Op} {ty : TypeId} {ps : String} {af : Array Edge}
abbrev SameAt (XS : Nat → Type) (ms : List Nat) (i : Nat) (ρ ρ' : (i : Nat) → XS i) : Prop := ∀ j, rcf ms i j = true → ρ j = ρ' j
theorem ph3_y {V : ((i : Nat) → XS i) → Value} (h : ∀ ρ : (i : Nat) → XS i, Y c ds (viewH ρ (rcf ms i) S S ++ H) (viewT ρ (bindsTo ⟨some d, op, ty, ps, af, none⟩) S ++ baseT pre i T0) ⟨some d, op, ty, ps, af, none⟩ (V ρ))
    (hl : ∀ ρ ρ' : (i : Nat) → XS i, SameAt XS ms i ρ ρ' → V ρ = V ρ') (k : PH3 c ds pre ms T0 H K (i + 1) r (⟨i, some d, none, V, fun _ => Emp⟩ :: S)) : PH3 c ds pre ms T0 H K i (⟨some d, op, ty, ps, af, none⟩ :: r) S :=
  ⟨_, rfl, rfl, fun ρ ρ' hs => ⟨hl ρ ρ' (fun j hj => hs j (.inl hj)), rfl⟩, .inl ⟨rfl, rfl, h⟩, k⟩
theorem ph3_yx {V : ((i : Nat) → XS i) → XS i → Value} {A : ((i : Nat) → XS i) → XS i → Res} (h : ∀ ρ : (i : Nat) → XS i, YX c ds (viewH ρ (rcf ms i) S S ++ H) (viewT ρ (bindsTo ⟨some d, op, ty, ps, af, none⟩) S ++ baseT pre i T0) ⟨some d, op, ty, ps, af, none⟩ (V ρ) (A ρ))
    (hl : ∀ ρ ρ' : (i : Nat) → XS i, SameAt XS ms i ρ ρ' → V ρ = V ρ' ∧ A ρ = A ρ') (k : PH3 c ds pre ms T0 H K (i + 1) r (⟨i, some d, some i, fun ρ => V ρ (ρ i), fun ρ => A ρ (ρ i)⟩ :: S)) : PH3 c ds pre ms T0 H K i (⟨some d, op, ty, ps, af, none⟩ :: r) S :=
  ⟨_, rfl, rfl, fun ρ ρ' hs => by
    obtain ⟨h1, h2⟩ := hl ρ ρ' (fun j hj => hs j (.inl hj))
    have h3 := hs i (.inr rfl)
    exact ⟨by show V ρ (ρ i) = V ρ' (ρ' i); rw [h1, h3], by show A ρ (ρ i) = A ρ' (ρ' i); rw [h2, h3]⟩, .inr (.inl ⟨rfl, rfl, V, A, fun _ => rfl, fun _ => rfl, hl, h⟩), k⟩
theorem ph3_st {A R : ((i : Nat) → XS i) → Res} (j : Nat) (h1 : rcf ms i j = true) (h2 : ((List.range i).all fun r => !rcf ms r j || rcf ms i r) = true) (h3 : ∀ ρ : (i : Nat) → XS i, slotAt ρ (rcf ms i) j S = some (R ρ))
    (h : ∀ ρ : (i : Nat) → XS i, StoreOb c ds (viewT ρ (bindsTo ⟨none, op, ty, ps, af, none⟩) S ++ baseT pre i T0) H ⟨none, op, ty, ps, af, none⟩ (R ρ) (A ρ))
    (hl : ∀ ρ ρ' : (i : Nat) → XS i, SameAt XS ms i ρ ρ' → A ρ = A ρ') (k : PH3 c ds pre ms T0 H K (i + 1) r (⟨i, none, some j, fun _ => undef, A⟩ :: S)) : PH3 c ds pre ms T0 H K i (⟨none, op, ty, ps, af, none⟩ :: r) S :=
  ⟨_, rfl, rfl, fun ρ ρ' hs => ⟨rfl, hl ρ ρ' (fun j hj => hs j (.inl hj))⟩, .inr (.inr ⟨rfl, j, rfl, h1, h2, fun ρ => ⟨R ρ, h3 ρ, h ρ⟩⟩), k⟩
end
def AllN : List (Nat × Type) → Prop
  | [] => True
  | (_, T) :: r => Nonempty T ∧ AllN r
theorem ch_ne (l : List (Nat × Type)) (h : AllN l) : Nonempty ((i : Nat) → ch l i) := by
  have key : ∀ (l : List (Nat × Type)), AllN l → ∀ i, Nonempty (ch l i) := by
    intro l
    induction l with
    | nil => intro _ _; exact ⟨()⟩
    | cons x r ih =>
      intro h i
      unfold ch
      cases Nat.beq x.1 i with
      | true => exact h.1
      | false => exact ih h.2 i
  exact ⟨fun i => Classical.choice (key l h i)⟩
theorem gk_name {c : Cx} {ds : List Deferred} {K : Act → World → Prop} {T : List (Nat × Value)} {H : List Res} {X : Type} (x : X) (T' : X → List (Nat × Value)) (H' : X → List Res) (hs : sub (T' x) T) (hH : H = H' x) (h : ∀ x, GK c ds K (T' x) (H' x)) : GK c ds K T H := by
  subst hH; exact gk_sub hs (h x)
end Go.K

namespace Go.Proofs.YtahahmelnaphjaaDoor
open Go.K Go.Stn Go.RowKit
theorem en30 : En Tryd.prog 30 := en_of Tryd.func30 (by kernel_rfl) (by kernel_rfl)
theorem en31 : En Tryd.prog 31 := en_of Tryd.func31 (by kernel_rfl) (by kernel_rfl)
set_option maxRecDepth 100000 in
set_option maxHeartbeats 1000000 in
theorem StonePick_c (a : Option Addr) (cap : Nat) (s : Stn) (w : World) (hl : Has w (Pts a s.shape)) (hways : Has w (Elems (some ⟨0, 0, none⟩) 1 encVal [.func (.func 173) #[] #[], .func (.func 174) #[] #[], .func (.func 175) #[] #[], .func (.func 176) #[] #[]])) (hn : Fits s.name.size) :
    Calls Tryd.prog 8 #[.agg #[.string s.name, .slice a s.shape.length cap, .int .i64 s.depth, .int .i64 s.density, .int .i64 s.grain.x, .int .i64 s.grain.z]] w (Pure (.bool true) w) := by
  refine calls_of_gk (vs := [_]) Tryd.func8 rfl rfl (Nat.le_of_ble_eq_true rfl) ?_
  refine gk_seq ?_
  refine gk_region ?_
  refine gk_yx rfl rfl (yx_box (vs := [_, _, _, _, _, _]) rfl rfl) fun b1 => ?_
  refine gk_y rfl rfl (y_assign rfl) ?_
  refine gk_nil (gk_sub (T' := [(1,_), (2,_)]) ⟨rfl, rfl, trivial⟩ ?_)
  refine gk_seq ?_
  refine gk_seq ?_
  refine gk_region ?_
  refine gk_y rfl rfl (y_fieldAddr fo26_1 rfl) ?_
  refine gk_y rfl rfl (y_loadB1 0 tf22 rfl rfl rfl) ?_
  refine gk_y rfl rfl (y_lenS (Tryd.underlying22) rfl) ?_
  refine gk_y rfl rfl (y_gtr rfl rfl) ?_
  refine gk_y rfl rfl (y_move rfl) ?_
  refine gk_guard rfl rfl rfl rfl (fun hg19 => ?_) (fun hg19 => ?_)
  · replace hg19 : _ = false := hg19
    try rw [hg19]
    refine gk_y rfl rfl (y_loadBA 0 tf26 rfl rfl (vs := [_, _, _, _, _, _]) rfl rfl) ?_
    refine gk_guard rfl rfl rfl rfl (fun _ => ?_) (fun h => absurd h (by decide))
    refine gk_y rfl rfl (y_call en16 rfl (fun w hw => rvalid_c _ _ s w (Rd.has (Has.rd hl) hw) (by first | assumption | (have hg19' := of_decide_eq_false hg19; unfold Small; omega)) (by assumption))) ?_
    refine gk_guard rfl rfl rfl rfl (fun _ => ?_) (fun h => absurd h (by decide))
    refine gk_y rfl rfl (y_not rfl) ?_
    refine gk_y rfl rfl (y_pick rfl rfl rfl) ?_
    refine gk_y rfl rfl (y_move rfl) ?_
    refine gk_guard rfl rfl rfl rfl (fun hg24 => ?_) (fun hg24 => ?_)
    · replace hg24 : _ = false := hg24
      try rw [hg24]
      refine gk_y rfl rfl (y_fieldAddr fo26_1 rfl) ?_
      refine gk_guard rfl rfl rfl rfl (fun _ => ?_) (fun h => absurd h (by decide))
      refine gk_y rfl rfl (y_loadB1 0 tf22 rfl rfl rfl) ?_
      refine gk_guard rfl rfl rfl rfl (fun _ => ?_) (fun h => absurd h (by decide))
      refine gk_y rfl rfl (y_call en30 rfl (fun w hw => high_c _ _ s.shape w (Rd.has (Has.rd hl) hw) (by first | assumption | (have hg19' := of_decide_eq_false hg19; unfold Small; omega)) (by have := check_len (s := s) (by rw [check_valid, if_pos (by simpa using hg24)]); omega))) ?_
      refine gk_guard rfl rfl rfl rfl (fun _ => ?_) (fun h => absurd h (by decide))
      refine gk_y rfl rfl (y_field rfl (fv24_0 _ _)) ?_
      refine gk_guard rfl rfl rfl rfl (fun _ => ?_) (fun h => absurd h (by decide))
      refine gk_y rfl rfl (y_gtr rfl rfl) ?_
      refine gk_y rfl rfl (y_pick rfl rfl rfl) ?_
      refine gk_y rfl rfl (y_move rfl) ?_
      refine gk_guard rfl rfl rfl rfl (fun hg31 => ?_) (fun hg31 => ?_)
      · replace hg31 : _ = false := hg31
        try rw [hg31]
        refine gk_y rfl rfl (y_fieldAddr fo26_1 rfl) ?_
        refine gk_guard rfl rfl rfl rfl (fun _ => ?_) (fun h => absurd h (by decide))
        refine gk_y rfl rfl (y_loadB1 0 tf22 rfl rfl rfl) ?_
        refine gk_guard rfl rfl rfl rfl (fun _ => ?_) (fun h => absurd h (by decide))
        refine gk_y rfl rfl (y_call en30 rfl (fun w hw => high_c _ _ s.shape w (Rd.has (Has.rd hl) hw) (by first | assumption | (have hg19' := of_decide_eq_false hg19; unfold Small; omega)) (by have := check_len (s := s) (by rw [check_valid, if_pos (by simpa using hg24)]); omega))) ?_
        refine gk_guard rfl rfl rfl rfl (fun _ => ?_) (fun h => absurd h (by decide))
        refine gk_y rfl rfl (y_field rfl (fv24_1 _ _)) ?_
        refine gk_guard rfl rfl rfl rfl (fun _ => ?_) (fun h => absurd h (by decide))
        refine gk_y rfl rfl (y_gtr rfl rfl) ?_
        refine gk_y rfl rfl (y_pick rfl rfl rfl) ?_
        refine gk_nil (gk_sub (T' := [(1,_), (2,_), (37,_)]) ⟨rfl, rfl, rfl, trivial⟩ ?_)
        refine gk_cond rfl (fun hc37 => ?_) (fun hc37 => ?_)
        · skip
          refine gk_seq ?_
          refine gk_region ?_
          refine gk_y rfl rfl (y_call en15 rfl (fun w hw => wakes_c w (Rd.has (Has.rd hways) hw))) ?_
          refine gk_y rfl rfl (y_assign rfl) ?_
          refine gk_nil (gk_sub (T' := [(1,_), (2,_)]) ⟨rfl, rfl, trivial⟩ ?_)
          refine gk_ret ?_
          refine gk_pure (rv_one rfl (r1_tmp rfl)) ?_
          rfl
        · have hc37 := of_decide_eq_false hc37
          refine gk_skip ?_
          refine gk_seq ?_
          refine gk_region ?_
          refine gk_y rfl rfl (y_loadBA 0 tf26 rfl rfl (vs := [_, _, _, _, _, _]) rfl rfl) ?_
          refine gk_yx rfl rfl (yx_call en18 rfl (fun w hw => stone_c _ _ s w (Rd.has (Has.rd hl) hw) (by first | assumption | (have hg19' := of_decide_eq_false hg19; unfold Small; omega)))) fun p40 => ?_
          refine gk_yx rfl rfl (yx_alloc tf34 (zs := [_, _, _, _, _, _]) rfl) fun b3 => ?_
          refine gk_storeV 0 tf34 rfl rfl (vs := [_, _, _, _, _, _]) rfl rfl rfl rfl rfl ?_
          refine gk_nil (gk_sub (T' := [(2,_), (3,_)]) ⟨rfl, rfl, trivial⟩ ?_)
          have hs : Small s.shape.length := by have hg19' := of_decide_eq_false hg19; unfold Small; omega
          have hck : checkI s = 0 := by rw [check_valid, if_pos (by simpa using hg24)]
          have hlen := check_len hck
          have hmx : (mostL s.shape).x ≤ 60 := by have := of_decide_eq_false hg31; omega
          have hA : (askL s (borderL s.shape)) = borderL s.shape := by rw [askL, if_pos hck]
          have hbl : (askL s (borderL s.shape)).length ≤ 24000 := by rw [hA]; have := border_len (check_near hck); omega
          refine gk_seq ?_
          refine gk_region ?_
          refine gk_y rfl rfl (y_loadBA 0 tf34 rfl rfl (vs := [_, _, _, _, _, _]) rfl rfl) ?_
          refine gk_yx rfl rfl (yx_call en23 rfl (fun w hw => Border_c _ _ s w (has_row encPt_ok (hw.has (p := 1) rfl)) (by assumption))) fun p43 => ?_
          refine gk_y rfl rfl (y_move rfl) ?_
          refine gk_y rfl rfl (y_extract rfl rfl) ?_
          refine gk_y rfl rfl (y_extract rfl rfl) ?_
          refine gk_y rfl rfl (y_assign rfl) ?_
          refine gk_y rfl rfl (y_assign rfl) ?_
          refine gk_nil (gk_sub (T' := [(2,_), (3,_), (4,_), (5,_)]) ⟨rfl, rfl, rfl, rfl, trivial⟩ ?_)
          refine gk_sub (T' := [(2,_), (3,_), (4,_), (5, .int .i64 0)]) ⟨rfl, rfl, rfl, (by rw [hck]; rfl), trivial⟩ ?_
          refine gk_seq ?_
          refine gk_region ?_
          refine gk_y rfl rfl (y_loadBA 1 tf34 rfl rfl (vs := [_, _, _, _, _, _]) rfl rfl) ?_
          refine gk_y rfl rfl (y_call en31 rfl (fun w hw => Twice_c _ _ s w (has_row encPt_ok (hw.has (p := 2) rfl)) (by first | assumption | exact hsA | exact hsB))) ?_
          refine gk_y rfl rfl (y_move rfl) ?_
          refine gk_y rfl rfl (y_extract rfl rfl) ?_
          refine gk_y rfl rfl (y_extract rfl rfl) ?_
          refine gk_y rfl rfl (y_assign rfl) ?_
          refine gk_y rfl rfl (y_assign rfl) ?_
          refine gk_nil (gk_sub (T' := [(2,_), (3,_), (4,_), (5,_), (6,_), (7,_)]) ⟨rfl, rfl, rfl, rfl, rfl, rfl, trivial⟩ ?_)
          refine gk_sub (T' := [(2,_), (3,_), (4,_), (5,_), (6,_), (7, .int .i64 0)]) ⟨rfl, rfl, rfl, rfl, rfl, (by rw [hck]; rfl), trivial⟩ ?_
          refine gk_seq ?_
          refine gk_region ?_
          refine gk_y rfl rfl (y_assign rfl) ?_
          refine gk_nil (gk_sub (T' := [(2,_), (3,_), (4,_), (5,_), (6,_), (7,_), (8,_)]) ⟨rfl, rfl, rfl, rfl, rfl, rfl, rfl, trivial⟩ ?_)
          refine gk_seq ?_
          refine gk_seq ?_
          refine gk_region ?_
          refine gk_y rfl rfl (y_assign rfl) ?_
          refine gk_nil (gk_sub (T' := [(2,_), (3,_), (4,_), (5,_), (6,_), (7,_), (8,_), (9,_)]) ⟨rfl, rfl, rfl, rfl, rfl, rfl, rfl, rfl, trivial⟩ ?_)
          refine gk_block ?_
          refine gk_loop (X := Int) (fun a2 => [(2, .bool false), (3, .pointer (some ⟨b3, 0, none⟩)), (4, .slice p43.1 (askL s (borderL s.shape)).length p43.2), (5, .int .i64 0), (6, .int .i64 (askI s (twiceW s.shape))), (7, .int .i64 0), (8, .int .i64 (inN s.shape a2.toNat)), (9, .int .i64 a2)]) (fun a2 => [Row p43.1 2 p43.2 32 encPt (askL s (borderL s.shape)), Box b3 [.string s.name, .slice p40.1 s.shape.length p40.2, .int .i64 s.depth, .int .i64 s.density, .int .i64 s.grain.x, .int .i64 s.grain.z] 34, Row p40.1 2 p40.2 32 encPt s.shape, Box b1 [.string s.name, .slice a s.shape.length cap, .int .i64 s.depth, .int .i64 s.density, .int .i64 s.grain.x, .int .i64 s.grain.z] 26]) (fun a2 => (0 ≤ a2 ∧ a2 ≤ 61)) (fun a2 => (61 - a2).toNat) 0 ⟨rfl, rfl, rfl, rfl, rfl, rfl, rfl, rfl, trivial⟩ rfl ?_ ?_
          · exact ⟨by omega, by omega⟩
          · rintro a2 hI
            obtain ⟨a0, a1⟩ := hI
            obtain ⟨n0, n1⟩ := in_in s.shape a2.toNat
            refine gk_seq ?_
            refine gk_seq ?_
            refine gk_region ?_
            refine gk_y rfl rfl (y_move rfl) ?_
            refine gk_y rfl rfl (y_leq rfl rfl) ?_
            refine gk_nil (gk_sub (T' := [(2,_), (3,_), (4,_), (5,_), (6,_), (7,_), (8,_), (9,_), (52,_)]) ⟨rfl, rfl, rfl, rfl, rfl, rfl, rfl, rfl, rfl, trivial⟩ ?_)
            refine gk_cond rfl (fun hc52 => ?_) (fun hc52 => ?_)
            · have hc52 := of_decide_eq_true hc52
              refine gk_skip ?_
              refine gk_seq ?_
              refine gk_block ?_
              refine gk_seq ?_
              refine gk_region ?_
              refine gk_y rfl rfl (y_assign rfl) ?_
              refine gk_nil (gk_sub (T' := [(2,_), (3,_), (4,_), (5,_), (6,_), (7,_), (8,_), (9,_), (10,_)]) ⟨rfl, rfl, rfl, rfl, rfl, rfl, rfl, rfl, rfl, trivial⟩ ?_)
              refine gk_sub (T' := [(2,_), (3,_), (4,_), (5,_), (6,_), (7,_), (8, .int .i64 (inN s.shape a2.toNat + colN s.shape a2 (0 : Int).toNat)), (9,_), (10,_)]) ⟨rfl, rfl, rfl, rfl, rfl, rfl, (by rw [show colN s.shape a2 (0 : Int).toNat = 0 from rfl, Int.add_zero]; rfl), rfl, rfl, trivial⟩ ?_
              refine gk_block ?_
              refine gk_loop (X := Int) (fun b => [(2, .bool false), (3, .pointer (some ⟨b3, 0, none⟩)), (4, .slice p43.1 (askL s (borderL s.shape)).length p43.2), (5, .int .i64 0), (6, .int .i64 (askI s (twiceW s.shape))), (7, .int .i64 0), (8, .int .i64 (inN s.shape a2.toNat + colN s.shape a2 b.toNat)), (9, .int .i64 a2), (10, .int .i64 b)]) (fun b => [Row p43.1 2 p43.2 32 encPt (askL s (borderL s.shape)), Box b3 [.string s.name, .slice p40.1 s.shape.length p40.2, .int .i64 s.depth, .int .i64 s.density, .int .i64 s.grain.x, .int .i64 s.grain.z] 34, Row p40.1 2 p40.2 32 encPt s.shape, Box b1 [.string s.name, .slice a s.shape.length cap, .int .i64 s.depth, .int .i64 s.density, .int .i64 s.grain.x, .int .i64 s.grain.z] 26]) (fun b => (0 ≤ b ∧ b ≤ 61)) (fun b => (61 - b).toNat) 0 ⟨rfl, rfl, rfl, rfl, rfl, rfl, rfl, rfl, rfl, trivial⟩ rfl ?_ ?_
              · exact ⟨by omega, by omega⟩
              · rintro b hI
                obtain ⟨bb0, bb1⟩ := hI
                obtain ⟨m0, m1⟩ := col_in s.shape a2 b.toNat
                refine gk_seq ?_
                refine gk_seq ?_
                refine gk_region ?_
                refine gk_y rfl rfl (y_move rfl) ?_
                refine gk_y rfl rfl (y_leq rfl rfl) ?_
                refine gk_nil (gk_sub (T' := [(2,_), (3,_), (4,_), (5,_), (6,_), (7,_), (8,_), (9,_), (10,_), (56,_)]) ⟨rfl, rfl, rfl, rfl, rfl, rfl, rfl, rfl, rfl, rfl, trivial⟩ ?_)
                refine gk_cond rfl (fun hc56 => ?_) (fun hc56 => ?_)
                · have hc56 := of_decide_eq_true hc56
                  refine gk_skip ?_
                  refine gk_seq ?_
                  refine gk_block ?_
                  refine gk_seq ?_
                  refine gk_region ?_
                  refine gk_y rfl rfl (y_assign rfl) ?_
                  refine gk_nil (gk_sub (T' := [(2,_), (3,_), (4,_), (5,_), (6,_), (7,_), (8,_), (9,_), (10,_), (11,_)]) ⟨rfl, rfl, rfl, rfl, rfl, rfl, rfl, rfl, rfl, rfl, trivial⟩ ?_)
                  refine gk_seq ?_
                  refine gk_seq ?_
                  refine gk_region ?_
                  refine gk_y rfl rfl (y_assign rfl) ?_
                  refine gk_nil (gk_sub (T' := [(2,_), (3,_), (4,_), (5,_), (6,_), (7,_), (8,_), (9,_), (10,_), (11,_), (12,_)]) ⟨rfl, rfl, rfl, rfl, rfl, rfl, rfl, rfl, rfl, rfl, rfl, trivial⟩ ?_)
                  refine gk_block ?_
                  refine gk_loop (X := Int) (fun i => [(2, .bool false), (3, .pointer (some ⟨b3, 0, none⟩)), (4, .slice p43.1 (askL s (borderL s.shape)).length p43.2), (5, .int .i64 0), (6, .int .i64 (askI s (twiceW s.shape))), (7, .int .i64 0), (8, .int .i64 (inN s.shape a2.toNat + colN s.shape a2 b.toNat)), (9, .int .i64 a2), (10, .int .i64 b), (11, .bool (pinN s.shape a2 b i.toNat)), (12, .int .i64 i)]) (fun i => [Row p43.1 2 p43.2 32 encPt (askL s (borderL s.shape)), Box b3 [.string s.name, .slice p40.1 s.shape.length p40.2, .int .i64 s.depth, .int .i64 s.density, .int .i64 s.grain.x, .int .i64 s.grain.z] 34, Row p40.1 2 p40.2 32 encPt s.shape, Box b1 [.string s.name, .slice a s.shape.length cap, .int .i64 s.depth, .int .i64 s.density, .int .i64 s.grain.x, .int .i64 s.grain.z] 26]) (fun i => (0 ≤ i ∧ i ≤ s.shape.length)) (fun i => (s.shape.length - i).toNat) 0 ⟨rfl, rfl, rfl, rfl, rfl, rfl, rfl, rfl, rfl, rfl, rfl, trivial⟩ rfl ?_ ?_
                  · exact ⟨by omega, by omega⟩
                  · rintro i hI
                    obtain ⟨i0, i1⟩ := hI
                    have q0 : 0 ≤ (i + 1).tmod (s.shape.length : Int) := Int.tmod_nonneg _ (by omega)
                    have q1 : (s.shape.length : Int) ≠ 0 → (i + 1).tmod (s.shape.length : Int) < (s.shape.length : Int) := fun h => Int.tmod_lt_of_pos _ (by omega)
                    refine gk_seq ?_
                    refine gk_seq ?_
                    refine gk_region ?_
                    refine gk_y rfl rfl (y_move rfl) ?_
                    refine gk_y rfl rfl (y_fieldAddr fo34_1 rfl) ?_
                    refine gk_y rfl rfl (y_loadB1 1 tf31 rfl rfl rfl) ?_
                    refine gk_y rfl rfl (y_lenS (Tryd.underlying31) rfl) ?_
                    refine gk_y rfl rfl (y_lss rfl rfl) ?_
                    refine gk_nil (gk_sub (T' := [(2,_), (3,_), (4,_), (5,_), (6,_), (7,_), (8,_), (9,_), (10,_), (11,_), (12,_), (63,_)]) ⟨rfl, rfl, rfl, rfl, rfl, rfl, rfl, rfl, rfl, rfl, rfl, rfl, trivial⟩ ?_)
                    refine gk_cond rfl (fun hc63 => ?_) (fun hc63 => ?_)
                    · have hc63 := of_decide_eq_true hc63
                      refine gk_skip ?_
                      refine gk_seq ?_
                      refine gk_block ?_
                      refine gk_seq ?_
                      refine gk_any3 (ch [(15, Nat), (16, Nat)]) 19 [0, 1, 0, 7, 15, 0, 32, 0, 128, 0, 512, 1536, 3968, 8160, 16352, 0, 0, 98335, 262143] (fun _ => mixed) (by kernel_rfl) (ch_ne _ ⟨inferInstance, inferInstance, trivial⟩) ?_
                      refine ph3_y (fun ρ => y_fieldAddr fo34_1 rfl) (fun ρ ρ' h => by rfl) ?_
                      refine ph3_y (fun ρ => y_loadB1 1 tf31 rfl rfl rfl) (fun ρ ρ' h => by rfl) ?_
                      refine ph3_y (fun ρ => y_move rfl) (fun ρ ρ' h => by rfl) ?_
                      refine ph3_y (fun ρ => y_indexE se31 rfl rfl (fun _ hw => (has_row encPt_ok (hw.has (p := 2) rfl))) (by omega) (by omega)) (fun ρ ρ' h => by rfl) ?_
                      refine ph3_y (fun ρ => y_loadE (vs := [_, _]) tf32 rfl (fun _ hw => (has_row encPt_ok (hw.has (p := 2) rfl))) (by omega) (by omega) rfl) (fun ρ ρ' h => by rfl) ?_
                      refine ph3_y (fun ρ => y_fieldAddr fo34_1 rfl) (fun ρ ρ' h => by rfl) ?_
                      refine ph3_y (fun ρ => y_loadB1 1 tf31 rfl rfl rfl) (fun ρ ρ' h => by rfl) ?_
                      refine ph3_y (fun ρ => y_move rfl) (fun ρ ρ' h => by rfl) ?_
                      refine ph3_y (fun ρ => y_addI rfl rfl (by omega) (by omega)) (fun ρ ρ' h => by rfl) ?_
                      refine ph3_y (fun ρ => y_fieldAddr fo34_1 rfl) (fun ρ ρ' h => by rfl) ?_
                      refine ph3_y (fun ρ => y_loadB1 1 tf31 rfl rfl rfl) (fun ρ ρ' h => by rfl) ?_
                      refine ph3_y (fun ρ => y_lenS (Tryd.underlying31) rfl) (fun ρ ρ' h => by rfl) ?_
                      refine ph3_y (fun ρ => y_rem rfl rfl (by omega)) (fun ρ ρ' h => by rfl) ?_
                      refine ph3_y (fun ρ => y_indexE se31 rfl rfl (fun _ hw => (has_row encPt_ok (hw.has (p := 2) rfl))) (by omega) (by omega)) (fun ρ ρ' h => by rfl) ?_
                      refine ph3_y (fun ρ => y_loadE (vs := [_, _]) tf32 rfl (fun _ hw => (has_row encPt_ok (hw.has (p := 2) rfl))) (by omega) (by omega) rfl) (fun ρ ρ' h => by rfl) ?_
                      refine ph3_yx (fun ρ => yx_alloc tf32 (zs := [_, _]) rfl) (fun ρ ρ' h => ⟨by rfl, by rfl⟩) ?_
                      refine ph3_yx (fun ρ => yx_alloc tf32 (zs := [_, _]) rfl) (fun ρ ρ' h => ⟨by rfl, by rfl⟩) ?_
                      refine ph3_st (R := fun ρ => Box (ρ 15) [.int .i64 0, .int .i64 0] 32) (A := fun ρ => Box (ρ 15) [.int .i64 ((s.shape.getD (i).toNat default).x), .int .i64 ((s.shape.getD (i).toNat default).z)] 32) 15 rfl rfl (fun _ => rfl) (fun ρ => so_box tf32 rfl rfl (vs := [_, _]) rfl rfl rfl rfl rfl) (fun ρ ρ' h => by (first | rfl | simp only [h 15 rfl])) ?_
                      refine ph3_st (R := fun ρ => Box (ρ 16) [.int .i64 0, .int .i64 0] 32) (A := fun ρ => Box (ρ 16) [.int .i64 ((s.shape.getD ((Int.tmod (i + 1) (s.shape.length : Int))).toNat default).x), .int .i64 ((s.shape.getD ((Int.tmod (i + 1) (s.shape.length : Int))).toNat default).z)] 32) 16 rfl rfl (fun _ => rfl) (fun ρ => so_box tf32 rfl rfl (vs := [_, _]) rfl rfl rfl rfl rfl) (fun ρ ρ' h => by (first | rfl | simp only [h 16 rfl])) ?_
                      refine fun ρ => gk_nil (gk_name (X := Nat × Nat) (ρ 15, ρ 16) (fun ⟨b13, b14⟩ => [(2, .bool false), (3, .pointer (some ⟨b3, 0, none⟩)), (4, .slice p43.1 (askL s (borderL s.shape)).length p43.2), (5, .int .i64 0), (6, .int .i64 (askI s (twiceW s.shape))), (7, .int .i64 0), (8, .int .i64 (inN s.shape a2.toNat + colN s.shape a2 b.toNat)), (9, .int .i64 a2), (10, .int .i64 b), (11, .bool (pinN s.shape a2 b i.toNat)), (12, .int .i64 i), (13, .pointer (some ⟨b13, 0, none⟩)), (14, .pointer (some ⟨b14, 0, none⟩))]) (fun ⟨b13, b14⟩ => [Box b14 [.int .i64 ((s.shape.getD ((Int.tmod (i + 1) (s.shape.length : Int))).toNat default).x), .int .i64 ((s.shape.getD ((Int.tmod (i + 1) (s.shape.length : Int))).toNat default).z)] 32, Box b13 [.int .i64 ((s.shape.getD (i).toNat default).x), .int .i64 ((s.shape.getD (i).toNat default).z)] 32, Row p43.1 2 p43.2 32 encPt (askL s (borderL s.shape)), Box b3 [.string s.name, .slice p40.1 s.shape.length p40.2, .int .i64 s.depth, .int .i64 s.density, .int .i64 s.grain.x, .int .i64 s.grain.z] 34, Row p40.1 2 p40.2 32 encPt s.shape, Box b1 [.string s.name, .slice a s.shape.length cap, .int .i64 s.depth, .int .i64 s.density, .int .i64 s.grain.x, .int .i64 s.grain.z] 26]) ⟨rfl, rfl, rfl, rfl, rfl, rfl, rfl, rfl, rfl, rfl, rfl, rfl, rfl, trivial⟩ rfl ?_)
                      rintro ⟨b13, b14⟩
                      refine gk_any 26 (fun _ => mixed) (by kernel_rfl) ?_
                      refine ph_y (y_move rfl) ?_
                      refine ph_y (y_move rfl) ?_
                      refine ph_gT rfl rfl (fun hgd => by (try rw [hgd]); exact (y_fieldAddr fo32_0 rfl)) ?_
                      refine ph_gT rfl rfl (fun hgd => by (try rw [hgd]); exact (y_loadB1 0 tf3 rfl rfl rfl)) ?_
                      refine ph_gT rfl rfl (fun hgd => by (try rw [hgd]); exact (y_fieldAddr fo32_0 rfl)) ?_
                      refine ph_gT rfl rfl (fun hgd => by (try rw [hgd]); exact (y_loadB1 1 tf3 rfl rfl rfl)) ?_
                      refine ph_gT rfl rfl (fun hgd => by (try rw [hgd]); exact (y_sub rfl rfl)) ?_
                      refine ph_gT rfl rfl (fun hgd => by (try rw [hgd]); exact (y_move rfl)) ?_
                      refine ph_gT rfl rfl (fun hgd => by (try rw [hgd]); exact (y_fieldAddr fo32_1 rfl)) ?_
                      refine ph_gT rfl rfl (fun hgd => by (try rw [hgd]); exact (y_loadB1 1 tf3 rfl rfl rfl)) ?_
                      refine ph_gT rfl rfl (fun hgd => by (try rw [hgd]); exact (y_sub rfl rfl)) ?_
                      refine ph_gT rfl rfl (fun hgd => by (try rw [hgd]); exact (y_mul rfl rfl)) ?_
                      refine ph_gT rfl rfl (fun hgd => by (try rw [hgd]); exact (y_fieldAddr fo32_1 rfl)) ?_
                      refine ph_gT rfl rfl (fun hgd => by (try rw [hgd]); exact (y_loadB1 0 tf3 rfl rfl rfl)) ?_
                      refine ph_gT rfl rfl (fun hgd => by (try rw [hgd]); exact (y_fieldAddr fo32_1 rfl)) ?_
                      refine ph_gT rfl rfl (fun hgd => by (try rw [hgd]); exact (y_loadB1 1 tf3 rfl rfl rfl)) ?_
                      refine ph_gT rfl rfl (fun hgd => by (try rw [hgd]); exact (y_sub rfl rfl)) ?_
                      refine ph_gT rfl rfl (fun hgd => by (try rw [hgd]); exact (y_move rfl)) ?_
                      refine ph_gT rfl rfl (fun hgd => by (try rw [hgd]); exact (y_fieldAddr fo32_0 rfl)) ?_
                      refine ph_gT rfl rfl (fun hgd => by (try rw [hgd]); exact (y_loadB1 1 tf3 rfl rfl rfl)) ?_
                      refine ph_gT rfl rfl (fun hgd => by (try rw [hgd]); exact (y_sub rfl rfl)) ?_
                      refine ph_gT rfl rfl (fun hgd => by (try rw [hgd]); exact (y_mul rfl rfl)) ?_
                      refine ph_gT rfl rfl (fun hgd => by (try rw [hgd]); exact (y_sub rfl rfl)) ?_
                      refine ph_gT rfl rfl (fun hgd => by (try rw [hgd]); exact (y_gtr rfl rfl)) ?_
                      refine ph_y (y_pickAnd rfl rfl rfl) ?_
                      refine ph_y (y_assign rfl) ?_
                      refine gk_nil (gk_sub (T' := [(2,_), (3,_), (4,_), (5,_), (6,_), (7,_), (8,_), (9,_), (10,_), (11,_), (12,_)]) ⟨rfl, rfl, rfl, rfl, rfl, rfl, rfl, rfl, rfl, rfl, rfl, trivial⟩ ?_)
                      refine gk_sub (T' := [(2,_), (3,_), (4,_), (5,_), (6,_), (7,_), (8,_), (9,_), (10,_), (11, .bool (pinN s.shape a2 b (i + 1).toNat)), (12,_)]) ⟨rfl, rfl, rfl, rfl, rfl, rfl, rfl, rfl, rfl, (by rw [pin_succ i0]; rfl), rfl, trivial⟩ ?_
                      refine gk_region ?_
                      refine gk_y rfl rfl (y_move rfl) ?_
                      refine gk_y rfl rfl (y_addI rfl rfl (by omega) (by omega)) ?_
                      refine gk_y rfl rfl (y_assign rfl) ?_
                      refine gk_nil (gk_sub (T' := [(2,_), (3,_), (4,_), (5,_), (6,_), (7,_), (8,_), (9,_), (10,_), (11,_), (12,_)]) ⟨rfl, rfl, rfl, rfl, rfl, rfl, rfl, rfl, rfl, rfl, rfl, trivial⟩ ?_)
                      refine gk_dropAt 0 rfl ?_
                      refine gk_dropAt 0 rfl ?_
                      exact gk_next (i + 1) ⟨rfl, rfl, rfl, rfl, rfl, rfl, rfl, rfl, rfl, rfl, rfl, trivial⟩ rfl ⟨by omega, by omega⟩ (by omega)
                    · have hc63 := of_decide_eq_false hc63
                      have hpn : pinB s.shape a2 b = pinN s.shape a2 b i.toNat := by unfold pinB; rw [show i.toNat = s.shape.length from by omega]
                      refine gk_exit rfl ?_
                      refine gk_seq ?_
                      refine gk_region ?_
                      refine gk_y rfl rfl (y_move rfl) ?_
                      refine gk_nil (gk_sub (T' := [(2,_), (3,_), (4,_), (5,_), (6,_), (7,_), (8,_), (9,_), (10,_), (106,_)]) ⟨rfl, rfl, rfl, rfl, rfl, rfl, rfl, rfl, rfl, rfl, trivial⟩ ?_)
                      refine gk_cond rfl (fun hc106 => ?_) (fun hc106 => ?_)
                      · have hfs : colN s.shape a2 (b + 1).toNat = colN s.shape a2 b.toNat + 1 := by rw [col_succ bb0, if_pos (hpn.trans hc106)]
                        refine gk_region ?_
                        refine gk_y rfl rfl (y_move rfl) ?_
                        refine gk_y rfl rfl (y_addI rfl rfl (by omega) (by omega)) ?_
                        refine gk_y rfl rfl (y_assign rfl) ?_
                        refine gk_nil (gk_sub (T' := [(2,_), (3,_), (4,_), (5,_), (6,_), (7,_), (8,_), (9,_), (10,_)]) ⟨rfl, rfl, rfl, rfl, rfl, rfl, rfl, rfl, rfl, trivial⟩ ?_)
                        refine gk_region ?_
                        refine gk_y rfl rfl (y_move rfl) ?_
                        refine gk_y rfl rfl (y_addI rfl rfl (by omega) (by omega)) ?_
                        refine gk_y rfl rfl (y_assign rfl) ?_
                        refine gk_nil (gk_sub (T' := [(2,_), (3,_), (4,_), (5,_), (6,_), (7,_), (8,_), (9,_), (10,_)]) ⟨rfl, rfl, rfl, rfl, rfl, rfl, rfl, rfl, rfl, trivial⟩ ?_)
                        refine gk_sub (T' := [(2,_), (3,_), (4,_), (5,_), (6,_), (7,_), (8, .int .i64 (inN s.shape a2.toNat + colN s.shape a2 (b + 1).toNat)), (9,_), (10,_)]) ⟨rfl, rfl, rfl, rfl, rfl, rfl, (by rw [hfs]; (try rw [← Int.add_assoc]); rfl), rfl, rfl, trivial⟩ ?_
                        exact gk_next (b + 1) ⟨rfl, rfl, rfl, rfl, rfl, rfl, rfl, rfl, rfl, trivial⟩ rfl ⟨by omega, by omega⟩ (by omega)
                      · have hfs : colN s.shape a2 (b + 1).toNat = colN s.shape a2 b.toNat := by rw [col_succ bb0, if_neg (by rw [hpn, hc106]; exact Bool.false_ne_true)]; omega
                        refine gk_skip ?_
                        refine gk_region ?_
                        refine gk_y rfl rfl (y_move rfl) ?_
                        refine gk_y rfl rfl (y_addI rfl rfl (by omega) (by omega)) ?_
                        refine gk_y rfl rfl (y_assign rfl) ?_
                        refine gk_nil (gk_sub (T' := [(2,_), (3,_), (4,_), (5,_), (6,_), (7,_), (8,_), (9,_), (10,_)]) ⟨rfl, rfl, rfl, rfl, rfl, rfl, rfl, rfl, rfl, trivial⟩ ?_)
                        refine gk_sub (T' := [(2,_), (3,_), (4,_), (5,_), (6,_), (7,_), (8, .int .i64 (inN s.shape a2.toNat + colN s.shape a2 (b + 1).toNat)), (9,_), (10,_)]) ⟨rfl, rfl, rfl, rfl, rfl, rfl, (by rw [hfs]; (try rw [← Int.add_assoc]); rfl), rfl, rfl, trivial⟩ ?_
                        exact gk_next (b + 1) ⟨rfl, rfl, rfl, rfl, rfl, rfl, rfl, rfl, rfl, trivial⟩ rfl ⟨by omega, by omega⟩ (by omega)
                · have hc56 := of_decide_eq_false hc56
                  have hfa : inN s.shape (a2 + 1).toNat = inN s.shape a2.toNat + colN s.shape a2 b.toNat := by rw [in_succ a0, show b.toNat = 61 from by omega]
                  refine gk_exit rfl ?_
                  refine gk_region ?_
                  refine gk_y rfl rfl (y_move rfl) ?_
                  refine gk_y rfl rfl (y_addI rfl rfl (by omega) (by omega)) ?_
                  refine gk_y rfl rfl (y_assign rfl) ?_
                  refine gk_nil (gk_sub (T' := [(2,_), (3,_), (4,_), (5,_), (6,_), (7,_), (8,_), (9,_)]) ⟨rfl, rfl, rfl, rfl, rfl, rfl, rfl, rfl, trivial⟩ ?_)
                  refine gk_sub (T' := [(2,_), (3,_), (4,_), (5,_), (6,_), (7,_), (8, .int .i64 (inN s.shape (a2 + 1).toNat)), (9,_)]) ⟨rfl, rfl, rfl, rfl, rfl, rfl, (by rw [hfa]; rfl), rfl, trivial⟩ ?_
                  exact gk_next (a2 + 1) ⟨rfl, rfl, rfl, rfl, rfl, rfl, rfl, rfl, trivial⟩ rfl ⟨by omega, by omega⟩ (by omega)
            · have hc52 := of_decide_eq_false hc52
              have hP : askI s (twiceW s.shape) = 2 * inN s.shape a2.toNat + ((askL s (borderL s.shape)).length : Int) - 2 := by rw [askI, if_pos hck, show a2.toNat = 61 from by omega, hA]; exact pick_w hck hmx (by omega)
              refine gk_exit rfl ?_
              refine gk_seq ?_
              refine gk_any 20 (fun _ => mixed) (by kernel_rfl) ?_
              refine ph_y (y_move rfl) ?_
              refine ph_y (y_eql rfl rfl) ?_
              refine ph_y (y_move rfl) ?_
              refine ph_gk rfl rfl (y_move rfl) ?_
              refine ph_gk rfl rfl (y_eql rfl rfl) ?_
              refine ph_y (y_pick rfl rfl rfl) ?_
              refine ph_y (y_move rfl) ?_
              refine ph_gk rfl rfl (y_move rfl) ?_
              refine ph_gk rfl rfl (y_move rfl) ?_
              refine ph_gk rfl rfl (y_mulI rfl rfl (by omega) (by omega)) ?_
              refine ph_gk rfl rfl (y_move rfl) ?_
              refine ph_gk rfl rfl (y_lenS (Tryd.underlying31) rfl) ?_
              refine ph_gk rfl rfl (y_addI rfl rfl (by omega) (by omega)) ?_
              refine ph_gk rfl rfl (y_subI rfl rfl (by omega) (by omega)) ?_
              refine ph_gk rfl rfl (y_castT (y_eql rfl rfl) (by exact decide_eq_true hP)) ?_
              refine ph_y (y_pick rfl rfl rfl) ?_
              refine ph_y (y_move rfl) ?_
              refine ph_gk rfl rfl (y_call en15 rfl (fun w hw => wakes_c w (Rd.has (Has.rd hways) hw))) ?_
              refine ph_y (y_pick rfl rfl rfl) ?_
              refine ph_y (y_assign rfl) ?_
              refine gk_nil (gk_sub (T' := [(2,_)]) ⟨rfl, trivial⟩ ?_)
              refine gk_ret ?_
              refine gk_pure (rv_one rfl (r1_tmp rfl)) ?_
              rfl
      · replace hg31 : _ = true := hg31
        try rw [hg31]
        refine gk_guard rfl rfl rfl rfl (fun h => absurd h (by decide)) (fun _ => ?_)
        refine gk_guard rfl rfl rfl rfl (fun h => absurd h (by decide)) (fun _ => ?_)
        refine gk_guard rfl rfl rfl rfl (fun h => absurd h (by decide)) (fun _ => ?_)
        refine gk_guard rfl rfl rfl rfl (fun h => absurd h (by decide)) (fun _ => ?_)
        refine gk_y rfl rfl (y_pick rfl rfl rfl) ?_
        refine gk_nil (gk_sub (T' := [(1,_), (2,_), (37,_)]) ⟨rfl, rfl, rfl, trivial⟩ ?_)
        refine gk_condT rfl ?_
        refine gk_seq ?_
        refine gk_region ?_
        refine gk_y rfl rfl (y_call en15 rfl (fun w hw => wakes_c w (Rd.has (Has.rd hways) hw))) ?_
        refine gk_y rfl rfl (y_assign rfl) ?_
        refine gk_nil (gk_sub (T' := [(1,_), (2,_)]) ⟨rfl, rfl, trivial⟩ ?_)
        refine gk_ret ?_
        refine gk_pure (rv_one rfl (r1_tmp rfl)) ?_
        rfl
    · replace hg24 : _ = true := hg24
      try rw [hg24]
      refine gk_guard rfl rfl rfl rfl (fun h => absurd h (by decide)) (fun _ => ?_)
      refine gk_guard rfl rfl rfl rfl (fun h => absurd h (by decide)) (fun _ => ?_)
      refine gk_guard rfl rfl rfl rfl (fun h => absurd h (by decide)) (fun _ => ?_)
      refine gk_guard rfl rfl rfl rfl (fun h => absurd h (by decide)) (fun _ => ?_)
      refine gk_y rfl rfl (y_pick rfl rfl rfl) ?_
      refine gk_y rfl rfl (y_move rfl) ?_
      refine gk_guard rfl rfl rfl rfl (fun h => absurd h (by decide)) (fun _ => ?_)
      refine gk_guard rfl rfl rfl rfl (fun h => absurd h (by decide)) (fun _ => ?_)
      refine gk_guard rfl rfl rfl rfl (fun h => absurd h (by decide)) (fun _ => ?_)
      refine gk_guard rfl rfl rfl rfl (fun h => absurd h (by decide)) (fun _ => ?_)
      refine gk_guard rfl rfl rfl rfl (fun h => absurd h (by decide)) (fun _ => ?_)
      refine gk_y rfl rfl (y_pick rfl rfl rfl) ?_
      refine gk_nil (gk_sub (T' := [(1,_), (2,_), (37,_)]) ⟨rfl, rfl, rfl, trivial⟩ ?_)
      refine gk_condT rfl ?_
      refine gk_seq ?_
      refine gk_region ?_
      refine gk_y rfl rfl (y_call en15 rfl (fun w hw => wakes_c w (Rd.has (Has.rd hways) hw))) ?_
      refine gk_y rfl rfl (y_assign rfl) ?_
      refine gk_nil (gk_sub (T' := [(1,_), (2,_)]) ⟨rfl, rfl, trivial⟩ ?_)
      refine gk_ret ?_
      refine gk_pure (rv_one rfl (r1_tmp rfl)) ?_
      rfl
  · replace hg19 : _ = true := hg19
    try rw [hg19]
    refine gk_guard rfl rfl rfl rfl (fun h => absurd h (by decide)) (fun _ => ?_)
    refine gk_guard rfl rfl rfl rfl (fun h => absurd h (by decide)) (fun _ => ?_)
    refine gk_y rfl rfl (y_pick rfl rfl rfl) ?_
    refine gk_y rfl rfl (y_move rfl) ?_
    refine gk_guard rfl rfl rfl rfl (fun h => absurd h (by decide)) (fun _ => ?_)
    refine gk_guard rfl rfl rfl rfl (fun h => absurd h (by decide)) (fun _ => ?_)
    refine gk_guard rfl rfl rfl rfl (fun h => absurd h (by decide)) (fun _ => ?_)
    refine gk_guard rfl rfl rfl rfl (fun h => absurd h (by decide)) (fun _ => ?_)
    refine gk_guard rfl rfl rfl rfl (fun h => absurd h (by decide)) (fun _ => ?_)
    refine gk_y rfl rfl (y_pick rfl rfl rfl) ?_
    refine gk_y rfl rfl (y_move rfl) ?_
    refine gk_guard rfl rfl rfl rfl (fun h => absurd h (by decide)) (fun _ => ?_)
    refine gk_guard rfl rfl rfl rfl (fun h => absurd h (by decide)) (fun _ => ?_)
    refine gk_guard rfl rfl rfl rfl (fun h => absurd h (by decide)) (fun _ => ?_)
    refine gk_guard rfl rfl rfl rfl (fun h => absurd h (by decide)) (fun _ => ?_)
    refine gk_guard rfl rfl rfl rfl (fun h => absurd h (by decide)) (fun _ => ?_)
    refine gk_y rfl rfl (y_pick rfl rfl rfl) ?_
    refine gk_nil (gk_sub (T' := [(1,_), (2,_), (37,_)]) ⟨rfl, rfl, rfl, trivial⟩ ?_)
    refine gk_condT rfl ?_
    refine gk_seq ?_
    refine gk_region ?_
    refine gk_y rfl rfl (y_call en15 rfl (fun w hw => wakes_c w (Rd.has (Has.rd hways) hw))) ?_
    refine gk_y rfl rfl (y_assign rfl) ?_
    refine gk_nil (gk_sub (T' := [(1,_), (2,_)]) ⟨rfl, rfl, trivial⟩ ?_)
    refine gk_ret ?_
    refine gk_pure (rv_one rfl (r1_tmp rfl)) ?_
    rfl
end Go.Proofs.YtahahmelnaphjaaDoor
