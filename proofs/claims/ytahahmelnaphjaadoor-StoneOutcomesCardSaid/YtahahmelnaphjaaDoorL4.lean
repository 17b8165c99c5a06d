/- Plain facts: cuts of convex shapes. No statement of the seat is proved in this text. -/
import Derived.Test.YtahahmelnaphjaaDoorL2
namespace Go.Stn
open Go Go.K Go.RowKit

/-- x = a + t / D (b - a), with 0 <= t < D -/
structure OnH (x a b : Pt) (D t : Int) : Prop where
  pos : 0 < D
  t0 : 0 ≤ t
  t1 : t < D
  ex : D * (x.x - a.x) = t * (b.x - a.x)
  ez : D * (x.z - a.z) = t * (b.z - a.z)

theorem OnH.lin {x a b : Pt} {D t : Int} (h : OnH x a b D t) (u v : Pt) : D * sideZ u v x = (D - t) * sideZ u v a + t * sideZ u v b := by
  have e1 := h.ex
  have e2 := h.ez
  unfold sideZ
  have f1 : D * (x.x - u.x) = t * (b.x - a.x) + D * (a.x - u.x) := by rw [← e1]; grind
  have f2 : D * (x.z - u.z) = t * (b.z - a.z) + D * (a.z - u.z) := by rw [← e2]; grind
  calc D * ((v.x - u.x) * (x.z - u.z) - (v.z - u.z) * (x.x - u.x)) = (v.x - u.x) * (D * (x.z - u.z)) - (v.z - u.z) * (D * (x.x - u.x)) := by grind
    _ = _ := by rw [f1, f2]; grind

theorem OnH.start {x a b : Pt} {D : Int} (h : OnH x a b D 0) : x = a := by
  have e1 := h.ex
  have e2 := h.ez
  have hp := h.pos
  rw [Int.zero_mul, Int.mul_eq_zero] at e1 e2
  cases x; cases a
  simp only [Pt.mk.injEq]
  dsimp only at *
  omega
theorem OnH.at {a b : Pt} (D : Int) (h : 0 < D) : OnH a a b D 0 := ⟨h, Int.le_refl _, h, by simp, by simp⟩

theorem side_same1 (u v : Pt) : sideZ u u v = 0 := by unfold sideZ; grind
theorem side_same2 (u v : Pt) : sideZ u v v = 0 := by unfold sideZ; grind
theorem side_same3 (u v : Pt) : sideZ u v u = 0 := by unfold sideZ; grind
theorem side_swap (u v w : Pt) : sideZ u v w = -sideZ u w v := by unfold sideZ; grind
theorem side_cyc2 (u v w : Pt) : sideZ u v w = sideZ w u v := by unfold sideZ; grind
theorem plucker (o e u v w : Pt) : sideZ o e v * sideZ o u w = sideZ o e u * sideZ o v w + sideZ o e w * sideZ o u v := by unfold sideZ; grind

theorem cor_mod (l : List Pt) (i : Nat) : cor l (i % l.length) = cor l i := by unfold cor; rw [Nat.mod_mod]
theorem cor_congr {l : List Pt} {i j : Nat} (h : i % l.length = j % l.length) : cor l i = cor l j := by unfold cor; rw [h]
theorem cor_add_mod (l : List Pt) (i k : Nat) : cor l (i % l.length + k) = cor l (i + k) := by unfold cor; rw [Nat.mod_add_mod]

theorem Cvx.edge {l : List Pt} (h : Cvx l) (i k : Nat) (h2 : 2 ≤ k) (hk : k < l.length) : 0 < sideZ (cor l i) (cor l (i + 1)) (cor l (i + k)) := by
  have := h (i % l.length) k (Nat.mod_lt _ (by omega)) h2 hk
  rwa [cor_mod, cor_add_mod, cor_add_mod] at this

/-- any three corners, in order, turn to the left -/
theorem Cvx.tri {l : List Pt} (h : Cvx l) (a i : Nat) (hi : 0 < i) : ∀ j, i < j → j < l.length → 0 < sideZ (cor l a) (cor l (a + i)) (cor l (a + j)) := by
  intro j
  induction j with
  | zero => intro hj; omega
  | succ j ih =>
    intro hj hn
    have hnext : ∀ i, 0 < i → i + 1 < l.length → 0 < sideZ (cor l a) (cor l (a + i)) (cor l (a + (i + 1))) := fun i h0 h1 => by
      have := h.edge (a + i) (l.length - i) (by omega) (by omega)
      rw [show a + i + (l.length - i) = a + l.length from by omega, cor_add, Nat.add_assoc] at this
      rw [side_cyc]
      exact this
    by_cases hij : i = j
    · subst hij; exact hnext i hi hn
    · have h1 := ih (by omega) (by omega)
      have h2 := hnext j (by omega) hn
      have e0 : 0 ≤ sideZ (cor l a) (cor l (a + 1)) (cor l (a + i)) := by
        by_cases h1 : i = 1
        · subst h1; rw [side_same2]; omega
        · exact Int.le_of_lt (h.edge a i (by omega) (by omega))
      have e1 := h.edge a j (by omega) (by omega)
      have e2 := h.edge a (j + 1) (by omega) (by omega)
      have hp := plucker (cor l a) (cor l (a + 1)) (cor l (a + i)) (cor l (a + j)) (cor l (a + (j + 1)))
      have p1 : 0 ≤ sideZ (cor l a) (cor l (a + 1)) (cor l (a + i)) * sideZ (cor l a) (cor l (a + j)) (cor l (a + (j + 1))) := Int.mul_nonneg e0 (Int.le_of_lt h2)
      have p2 : 0 < sideZ (cor l a) (cor l (a + 1)) (cor l (a + (j + 1))) * sideZ (cor l a) (cor l (a + i)) (cor l (a + j)) := Int.mul_pos e2 h1
      have p3 : 0 < sideZ (cor l a) (cor l (a + 1)) (cor l (a + j)) * sideZ (cor l a) (cor l (a + i)) (cor l (a + (j + 1))) := by omega
      exact Int.pos_of_mul_pos_right p3 e1

theorem Cvx.tri3 {l : List Pt} (h : Cvx l) {i j k : Nat} (hij : i < j) (hjk : j < k) (hk : k < i + l.length) : 0 < sideZ (cor l i) (cor l j) (cor l k) := by
  have := h.tri i (j - i) (by omega) (k - i) (by omega) (by omega)
  rwa [show i + (j - i) = j from by omega, show i + (k - i) = k from by omega] at this
theorem Cvx.tri0 {l : List Pt} (h : Cvx l) {i j k : Nat} (hij : i ≤ j) (hjk : j ≤ k) (hk : k ≤ i + l.length) : 0 ≤ sideZ (cor l i) (cor l j) (cor l k) := by
  by_cases h1 : i = j
  · subst h1; rw [side_same1]; omega
  · by_cases h2 : j = k
    · subst h2; rw [side_same2]; omega
    · by_cases h3 : k = i + l.length
      · subst h3; rw [cor_add, side_same3]; omega
      · exact Int.le_of_lt (h.tri3 (by omega) (by omega) (by omega))

theorem nn2 {a b c d : Int} (h1 : 0 ≤ a) (h2 : 0 ≤ b) (h3 : 0 ≤ c) (h4 : 0 ≤ d) : 0 ≤ a * b + c * d := Int.add_nonneg (Int.mul_nonneg h1 h2) (Int.mul_nonneg h3 h4)
theorem np2 {a b c d : Int} (h1 : 0 ≤ a) (h2 : b ≤ 0) (h3 : 0 ≤ c) (h4 : d ≤ 0) : a * b + c * d ≤ 0 := by
  have := Int.mul_nonpos_of_nonneg_of_nonpos h1 h2
  have := Int.mul_nonpos_of_nonneg_of_nonpos h3 h4
  omega
theorem pos2l {a b c d : Int} (h1 : 0 < a) (h2 : 0 < b) (h3 : 0 ≤ c) (h4 : 0 ≤ d) : 0 < a * b + c * d := by
  have := Int.mul_pos h1 h2
  have := Int.mul_nonneg h3 h4
  omega
theorem pos2r {a b c d : Int} (h1 : 0 ≤ a) (h2 : 0 ≤ b) (h3 : 0 < c) (h4 : 0 < d) : 0 < a * b + c * d := by
  have := Int.mul_nonneg h1 h2
  have := Int.mul_pos h3 h4
  omega
theorem nonpos_of {a b : Int} (h1 : 0 < a) (h2 : a * b ≤ 0) : b ≤ 0 := Classical.byContradiction fun h => by
  have := Int.mul_pos h1 (show 0 < b by omega)
  omega
theorem nonneg_of {a b : Int} (h1 : 0 < a) (h2 : 0 ≤ a * b) : 0 ≤ b := Classical.byContradiction fun h => by
  have := Int.mul_pos h1 (show 0 < -b by omega)
  rw [Int.mul_neg] at this
  omega
theorem pos_of {a b : Int} (h1 : 0 < a) (h2 : 0 < a * b) : 0 < b := Int.pos_of_mul_pos_right h2 h1

section
variable {l : List Pt} {p q : Pt} {a m : Nat} {D s E t : Int}

/-- the way from p to a corner -/
theorem side_pc (hp : OnH p (cor l a) (cor l (a + 1)) D s) (x y : Pt) : D * sideZ p x y = (D - s) * sideZ (cor l a) x y + s * sideZ (cor l (a + 1)) x y := by
  have := hp.lin x y
  rw [side_cyc2 x y p, side_cyc2 x y (cor l a), side_cyc2 x y (cor l (a + 1))] at this
  exact this
theorem side_qc {b : Nat} (hq : OnH q (cor l b) (cor l (b + 1)) E t) (x y : Pt) : E * sideZ x q y = (E - t) * sideZ x (cor l b) y + t * sideZ x (cor l (b + 1)) y := by
  have := hq.lin y x
  rw [side_cyc y x q, side_cyc y x (cor l b), side_cyc y x (cor l (b + 1))] at this
  exact this

theorem arc_pos (h : Cvx l) (hp : OnH p (cor l a) (cor l (a + 1)) D s) (hq : OnH q (cor l (a + m)) (cor l (a + m + 1)) E t) (hm : 1 ≤ m) {k : Nat} (h1 : m < k) (h2 : k < l.length) : 0 < sideZ p q (cor l (a + k)) := by
  refine pos_of hp.pos ?_
  rw [side_pc hp]
  have f1 : 0 < sideZ (cor l a) q (cor l (a + k)) := by
    refine pos_of hq.pos ?_
    rw [side_qc hq]
    exact pos2l (by have := hq.t1; omega) (h.tri3 (by omega) (by omega) (by omega)) hq.t0 (h.tri0 (by omega) (by omega) (by omega))
  have f2 : 0 ≤ sideZ (cor l (a + 1)) q (cor l (a + k)) := by
    refine nonneg_of hq.pos ?_
    rw [side_qc hq]
    exact nn2 (by have := hq.t1; omega) (h.tri0 (by omega) (by omega) (by omega)) hq.t0 (h.tri0 (by omega) (by omega) (by omega))
  exact pos2l (by have := hp.t1; omega) f1 hp.t0 f2

theorem arc_end (h : Cvx l) (hp : OnH p (cor l a) (cor l (a + 1)) D s) (hq : OnH q (cor l (a + m)) (cor l (a + m + 1)) E t) (hm : 1 ≤ m) (hn : m < l.length) (h3 : 3 ≤ l.length) (hs : 0 < s) (ht : m = 1 → 0 < t) : 0 < sideZ p q (cor l (a + l.length)) := by
  refine pos_of hp.pos ?_
  rw [side_pc hp]
  have f1 : 0 ≤ sideZ (cor l a) q (cor l (a + l.length)) := by rw [cor_add, side_same3]; omega
  have f2 : 0 < sideZ (cor l (a + 1)) q (cor l (a + l.length)) := by
    refine pos_of hq.pos ?_
    rw [side_qc hq]
    by_cases h1 : m = 1
    · exact pos2r (by have := hq.t1; omega) (h.tri0 (by omega) (by omega) (by omega)) (ht h1) (h.tri3 (by omega) (by omega) (by omega))
    · exact pos2l (by have := hq.t1; omega) (h.tri3 (by omega) (by omega) (by omega)) hq.t0 (h.tri0 (by omega) (by omega) (by omega))
  exact pos2r (by have := hp.t1; omega) f1 hs f2

theorem arc_neg (h : Cvx l) (hp : OnH p (cor l a) (cor l (a + 1)) D s) (hq : OnH q (cor l (a + m)) (cor l (a + m + 1)) E t) (hn : m < l.length) {k : Nat} (h1 : 1 ≤ k) (h2 : k ≤ m) : sideZ p q (cor l (a + k)) ≤ 0 := by
  refine nonpos_of hp.pos ?_
  rw [side_pc hp]
  have hs : ∀ i j : Nat, i ≤ a + k → a + k ≤ j → j ≤ i + l.length → sideZ (cor l i) (cor l j) (cor l (a + k)) ≤ 0 := fun i j c1 c2 c3 => by
    rw [side_swap]
    have := h.tri0 (i := i) (j := a + k) (k := j) c1 c2 c3
    omega
  have f : ∀ i : Nat, i = a ∨ i = a + 1 → sideZ (cor l i) q (cor l (a + k)) ≤ 0 := fun i hi => by
    refine nonpos_of hq.pos ?_
    rw [side_qc hq]
    exact np2 (by have := hq.t1; omega) (hs _ _ (by omega) (by omega) (by omega)) hq.t0 (hs _ _ (by omega) (by omega) (by omega))
  exact np2 (by have := hp.t1; omega) (f a (.inl rfl)) hp.t0 (f (a + 1) (.inr rfl))

/-- a border point lies to the left of each edge, or on it -/
theorem edge_nn (h : Cvx l) (h3 : 3 ≤ l.length) (i : Nat) {b : Nat} (hq : OnH q (cor l b) (cor l (b + 1)) E t) : 0 ≤ sideZ (cor l i) (cor l (i + 1)) q := by
  have key : ∀ j, 0 ≤ sideZ (cor l i) (cor l (i + 1)) (cor l j) := fun j => by
    have hj : cor l j = cor l (i + (j + (l.length - i % l.length)) % l.length) := by
      apply cor_congr
      rw [Nat.add_mod_mod, ← Nat.mod_add_mod, show i % l.length + (j + (l.length - i % l.length)) = j + l.length from by have := Nat.mod_lt i (show l.length > 0 by omega); omega, Nat.add_mod_right]
    rw [hj]
    have := Nat.mod_lt (j + (l.length - i % l.length)) (show l.length > 0 by omega)
    generalize (j + (l.length - i % l.length)) % l.length = k at this ⊢
    by_cases h0 : k = 0
    · subst h0
      show 0 ≤ sideZ (cor l i) (cor l (i + 1)) (cor l i)
      rw [side_same3]; omega
    · exact h.tri0 (by omega) (by omega) (by omega)
  refine nonneg_of hq.pos ?_
  rw [hq.lin]
  exact nn2 (by have := hq.t1; omega) (key _) hq.t0 (key _)
/-- the one edge whose line a border point lies on -/
theorem edge_zero (h : Cvx l) (h3 : 3 ≤ l.length) {i : Nat} {k : Nat} (hk : k < l.length) (hq : OnH q (cor l (i + k)) (cor l (i + k + 1)) E t) (h0 : sideZ (cor l i) (cor l (i + 1)) q = 0) : k = 0 ∨ (k = 1 ∧ t = 0) := by
  have hl := hq.lin (cor l i) (cor l (i + 1))
  rw [h0, Int.mul_zero] at hl
  have a1 := hq.t0
  have a2 := hq.t1
  by_cases c0 : k = 0
  · exact .inl c0
  · by_cases c1 : k = 1
    · subst c1
      refine .inr ⟨rfl, ?_⟩
      rw [side_same2, Int.mul_zero, Int.zero_add] at hl
      have := h.tri3 (i := i) (j := i + 1) (k := i + 1 + 1) (by omega) (by omega) (by omega)
      rcases Int.mul_eq_zero.1 hl.symm with h5 | h5
      · exact h5
      · omega
    · exfalso
      have := h.tri3 (i := i) (j := i + 1) (k := i + k) (by omega) (by omega) (by omega)
      have g2 := h.tri0 (i := i) (j := i + 1) (k := i + k + 1) (by omega) (by omega) (by omega)
      have := pos2l (a := E - t) (c := t) (by omega) this a1 g2
      omega
end
end Go.Stn
