/- What the proof of the root text leans on, part 4: the layer, plain facts and walks. No statement of the seat is proved in this text. -/
import Derived.Lib.ItoaLen
import Derived.Shelf.SlSortCmp.NoneTotal
import Derived.Shelf.Small.Strs
import Derived.Shelf.Strconv.AtoiAll
import Derived.Shelf.Strconv.Itoa3
import Derived.Shelf.Strings.BuilderF
import Derived.Shelf.Strings.Cut
import Derived.Shelf.Strings.Split
import Derived.Test.YtmpaebfjnjmmlaaGreatDoorProg
import Derived.Test.YtmpaebfjnjmmlaaGreatDoorRd3
namespace Go.Stn
open Go Go.K Go.RowKit
/-- x = a + t / D (b - a), with 0 <= t < D -/
structure OnH (x a b : Pt) (D t : Int) : Prop where
  pos : 0 < D
  t0 : 0 ≤ t
  t1 : t < D
  ex : D * (x.x - a.x) = t * (b.x - a.x)
  ez : D * (x.z - a.z) = t * (b.z - a.z)
theorem OnH.lin {x a b : Pt} {D t : Int} (h : OnH x a b D t) (u v : Pt) : D * sideZ u v x = (D - t) * sideZ u v a + t * sideZ u v b := by
  have e1 := h.ex
  have e2 := h.ez
  unfold sideZ
  have f1 : D * (x.x - u.x) = t * (b.x - a.x) + D * (a.x - u.x) := by rw [← e1]; grind
  have f2 : D * (x.z - u.z) = t * (b.z - a.z) + D * (a.z - u.z) := by rw [← e2]; grind
  calc D * ((v.x - u.x) * (x.z - u.z) - (v.z - u.z) * (x.x - u.x)) = (v.x - u.x) * (D * (x.z - u.z)) - (v.z - u.z) * (D * (x.x - u.x)) := by grind
    _ = _ := by rw [f1, f2]; grind
theorem OnH.start {x a b : Pt} {D : Int} (h : OnH x a b D 0) : x = a := by
  have e1 := h.ex
  have e2 := h.ez
  have hp := h.pos
  rw [Int.zero_mul, Int.mul_eq_zero] at e1 e2
  cases x; cases a
  simp only [Pt.mk.injEq]
  dsimp only at *
  omega
theorem OnH.at {a b : Pt} (D : Int) (h : 0 < D) : OnH a a b D 0 := ⟨h, Int.le_refl _, h, by simp, by simp⟩
theorem side_same1 (u v : Pt) : sideZ u u v = 0 := by unfold sideZ; grind
theorem side_same2 (u v : Pt) : sideZ u v v = 0 := by unfold sideZ; grind
theorem side_same3 (u v : Pt) : sideZ u v u = 0 := by unfold sideZ; grind
theorem side_swap (u v w : Pt) : sideZ u v w = -sideZ u w v := by unfold sideZ; grind
theorem side_cyc2 (u v w : Pt) : sideZ u v w = sideZ w u v := by unfold sideZ; grind
theorem plucker (o e u v w : Pt) : sideZ o e v * sideZ o u w = sideZ o e u * sideZ o v w + sideZ o e w * sideZ o u v := by unfold sideZ; grind
theorem cor_mod (l : List Pt) (i : Nat) : cor l (i % l.length) = cor l i := by unfold cor; rw [Nat.mod_mod]
theorem cor_congr {l : List Pt} {i j : Nat} (h : i % l.length = j % l.length) : cor l i = cor l j := by unfold cor; rw [h]
theorem cor_add_mod (l : List Pt) (i k : Nat) : cor l (i % l.length + k) = cor l (i + k) := by unfold cor; rw [Nat.mod_add_mod]
theorem Cvx.edge {l : List Pt} (h : Cvx l) (i k : Nat) (h2 : 2 ≤ k) (hk : k < l.length) : 0 < sideZ (cor l i) (cor l (i + 1)) (cor l (i + k)) := by
  have := h (i % l.length) k (Nat.mod_lt _ (by omega)) h2 hk
  rwa [cor_mod, cor_add_mod, cor_add_mod] at this
/-- any three corners, in order, turn to the left -/
theorem Cvx.tri {l : List Pt} (h : Cvx l) (a i : Nat) (hi : 0 < i) : ∀ j, i < j → j < l.length → 0 < sideZ (cor l a) (cor l (a + i)) (cor l (a + j)) := by
  intro j
  induction j with
  | zero => intro hj; omega
  | succ j ih =>
    intro hj hn
    have hnext : ∀ i, 0 < i → i + 1 < l.length → 0 < sideZ (cor l a) (cor l (a + i)) (cor l (a + (i + 1))) := fun i h0 h1 => by
      have := h.edge (a + i) (l.length - i) (by omega) (by omega)
      rw [show a + i + (l.length - i) = a + l.length from by omega, cor_add, Nat.add_assoc] at this
      rw [side_cyc]
      exact this
    by_cases hij : i = j
    · subst hij; exact hnext i hi hn
    · have h1 := ih (by omega) (by omega)
      have h2 := hnext j (by omega) hn
      have e0 : 0 ≤ sideZ (cor l a) (cor l (a + 1)) (cor l (a + i)) := by
        by_cases h1 : i = 1
        · subst h1; rw [side_same2]; omega
        · exact Int.le_of_lt (h.edge a i (by omega) (by omega))
      have e1 := h.edge a j (by omega) (by omega)
      have e2 := h.edge a (j + 1) (by omega) (by omega)
      have hp := plucker (cor l a) (cor l (a + 1)) (cor l (a + i)) (cor l (a + j)) (cor l (a + (j + 1)))
      have p1 : 0 ≤ sideZ (cor l a) (cor l (a + 1)) (cor l (a + i)) * sideZ (cor l a) (cor l (a + j)) (cor l (a + (j + 1))) := Int.mul_nonneg e0 (Int.le_of_lt h2)
      have p2 : 0 < sideZ (cor l a) (cor l (a + 1)) (cor l (a + (j + 1))) * sideZ (cor l a) (cor l (a + i)) (cor l (a + j)) := Int.mul_pos e2 h1
      have p3 : 0 < sideZ (cor l a) (cor l (a + 1)) (cor l (a + j)) * sideZ (cor l a) (cor l (a + i)) (cor l (a + (j + 1))) := by omega
      exact Int.pos_of_mul_pos_right p3 e1
theorem Cvx.tri3 {l : List Pt} (h : Cvx l) {i j k : Nat} (hij : i < j) (hjk : j < k) (hk : k < i + l.length) : 0 < sideZ (cor l i) (cor l j) (cor l k) := by
  have := h.tri i (j - i) (by omega) (k - i) (by omega) (by omega)
  rwa [show i + (j - i) = j from by omega, show i + (k - i) = k from by omega] at this
theorem Cvx.tri0 {l : List Pt} (h : Cvx l) {i j k : Nat} (hij : i ≤ j) (hjk : j ≤ k) (hk : k ≤ i + l.length) : 0 ≤ sideZ (cor l i) (cor l j) (cor l k) := by
  by_cases h1 : i = j
  · subst h1; rw [side_same1]; omega
  · by_cases h2 : j = k
    · subst h2; rw [side_same2]; omega
    · by_cases h3 : k = i + l.length
      · subst h3; rw [cor_add, side_same3]; omega
      · exact Int.le_of_lt (h.tri3 (by omega) (by omega) (by omega))
theorem nn2 {a b c d : Int} (h1 : 0 ≤ a) (h2 : 0 ≤ b) (h3 : 0 ≤ c) (h4 : 0 ≤ d) : 0 ≤ a * b + c * d := Int.add_nonneg (Int.mul_nonneg h1 h2) (Int.mul_nonneg h3 h4)
theorem np2 {a b c d : Int} (h1 : 0 ≤ a) (h2 : b ≤ 0) (h3 : 0 ≤ c) (h4 : d ≤ 0) : a * b + c * d ≤ 0 := by
  have := Int.mul_nonpos_of_nonneg_of_nonpos h1 h2
  have := Int.mul_nonpos_of_nonneg_of_nonpos h3 h4
  omega
theorem pos2l {a b c d : Int} (h1 : 0 < a) (h2 : 0 < b) (h3 : 0 ≤ c) (h4 : 0 ≤ d) : 0 < a * b + c * d := by
  have := Int.mul_pos h1 h2
  have := Int.mul_nonneg h3 h4
  omega
theorem pos2r {a b c d : Int} (h1 : 0 ≤ a) (h2 : 0 ≤ b) (h3 : 0 < c) (h4 : 0 < d) : 0 < a * b + c * d := by
  have := Int.mul_nonneg h1 h2
  have := Int.mul_pos h3 h4
  omega
theorem nonpos_of {a b : Int} (h1 : 0 < a) (h2 : a * b ≤ 0) : b ≤ 0 := Classical.byContradiction fun h => by
  have := Int.mul_pos h1 (show 0 < b by omega)
  omega
theorem nonneg_of {a b : Int} (h1 : 0 < a) (h2 : 0 ≤ a * b) : 0 ≤ b := Classical.byContradiction fun h => by
  have := Int.mul_pos h1 (show 0 < -b by omega)
  rw [Int.mul_neg] at this
  omega
theorem pos_of {a b : Int} (h1 : 0 < a) (h2 : 0 < a * b) : 0 < b := Int.pos_of_mul_pos_right h2 h1
section
variable {l : List Pt} {p q : Pt} {a m : Nat} {D s E t : Int}
/-- the way from p to a corner -/
theorem side_pc (hp : OnH p (cor l a) (cor l (a + 1)) D s) (x y : Pt) : D * sideZ p x y = (D - s) * sideZ (cor l a) x y + s * sideZ (cor l (a + 1)) x y := by
  have := hp.lin x y
  rw [side_cyc2 x y p, side_cyc2 x y (cor l a), side_cyc2 x y (cor l (a + 1))] at this
  exact this
theorem side_qc {b : Nat} (hq : OnH q (cor l b) (cor l (b + 1)) E t) (x y : Pt) : E * sideZ x q y = (E - t) * sideZ x (cor l b) y + t * sideZ x (cor l (b + 1)) y := by
  have := hq.lin y x
  rw [side_cyc y x q, side_cyc y x (cor l b), side_cyc y x (cor l (b + 1))] at this
  exact this
theorem arc_pos (h : Cvx l) (hp : OnH p (cor l a) (cor l (a + 1)) D s) (hq : OnH q (cor l (a + m)) (cor l (a + m + 1)) E t) (hm : 1 ≤ m) {k : Nat} (h1 : m < k) (h2 : k < l.length) : 0 < sideZ p q (cor l (a + k)) := by
  refine pos_of hp.pos ?_
  rw [side_pc hp]
  have f1 : 0 < sideZ (cor l a) q (cor l (a + k)) := by
    refine pos_of hq.pos ?_
    rw [side_qc hq]
    exact pos2l (by have := hq.t1; omega) (h.tri3 (by omega) (by omega) (by omega)) hq.t0 (h.tri0 (by omega) (by omega) (by omega))
  have f2 : 0 ≤ sideZ (cor l (a + 1)) q (cor l (a + k)) := by
    refine nonneg_of hq.pos ?_
    rw [side_qc hq]
    exact nn2 (by have := hq.t1; omega) (h.tri0 (by omega) (by omega) (by omega)) hq.t0 (h.tri0 (by omega) (by omega) (by omega))
  exact pos2l (by have := hp.t1; omega) f1 hp.t0 f2
theorem arc_end (h : Cvx l) (hp : OnH p (cor l a) (cor l (a + 1)) D s) (hq : OnH q (cor l (a + m)) (cor l (a + m + 1)) E t) (hm : 1 ≤ m) (hn : m < l.length) (h3 : 3 ≤ l.length) (hs : 0 < s) (ht : m = 1 → 0 < t) : 0 < sideZ p q (cor l (a + l.length)) := by
  refine pos_of hp.pos ?_
  rw [side_pc hp]
  have f1 : 0 ≤ sideZ (cor l a) q (cor l (a + l.length)) := by rw [cor_add, side_same3]; omega
  have f2 : 0 < sideZ (cor l (a + 1)) q (cor l (a + l.length)) := by
    refine pos_of hq.pos ?_
    rw [side_qc hq]
    by_cases h1 : m = 1
    · exact pos2r (by have := hq.t1; omega) (h.tri0 (by omega) (by omega) (by omega)) (ht h1) (h.tri3 (by omega) (by omega) (by omega))
    · exact pos2l (by have := hq.t1; omega) (h.tri3 (by omega) (by omega) (by omega)) hq.t0 (h.tri0 (by omega) (by omega) (by omega))
  exact pos2r (by have := hp.t1; omega) f1 hs f2
theorem arc_neg (h : Cvx l) (hp : OnH p (cor l a) (cor l (a + 1)) D s) (hq : OnH q (cor l (a + m)) (cor l (a + m + 1)) E t) (hn : m < l.length) {k : Nat} (h1 : 1 ≤ k) (h2 : k ≤ m) : sideZ p q (cor l (a + k)) ≤ 0 := by
  refine nonpos_of hp.pos ?_
  rw [side_pc hp]
  have hs : ∀ i j : Nat, i ≤ a + k → a + k ≤ j → j ≤ i + l.length → sideZ (cor l i) (cor l j) (cor l (a + k)) ≤ 0 := fun i j c1 c2 c3 => by
    rw [side_swap]
    have := h.tri0 (i := i) (j := a + k) (k := j) c1 c2 c3
    omega
  have f : ∀ i : Nat, i = a ∨ i = a + 1 → sideZ (cor l i) q (cor l (a + k)) ≤ 0 := fun i hi => by
    refine nonpos_of hq.pos ?_
    rw [side_qc hq]
    exact np2 (by have := hq.t1; omega) (hs _ _ (by omega) (by omega) (by omega)) hq.t0 (hs _ _ (by omega) (by omega) (by omega))
  exact np2 (by have := hp.t1; omega) (f a (.inl rfl)) hp.t0 (f (a + 1) (.inr rfl))
/-- the one edge whose line a border point lies on -/
theorem edge_zero (h : Cvx l) (h3 : 3 ≤ l.length) {i : Nat} {k : Nat} (hk : k < l.length) (hq : OnH q (cor l (i + k)) (cor l (i + k + 1)) E t) (h0 : sideZ (cor l i) (cor l (i + 1)) q = 0) : k = 0 ∨ (k = 1 ∧ t = 0) := by
  have hl := hq.lin (cor l i) (cor l (i + 1))
  rw [h0, Int.mul_zero] at hl
  have a1 := hq.t0
  have a2 := hq.t1
  by_cases c0 : k = 0
  · exact .inl c0
  · by_cases c1 : k = 1
    · subst c1
      refine .inr ⟨rfl, ?_⟩
      rw [side_same2, Int.mul_zero, Int.zero_add] at hl
      have := h.tri3 (i := i) (j := i + 1) (k := i + 1 + 1) (by omega) (by omega) (by omega)
      rcases Int.mul_eq_zero.1 hl.symm with h5 | h5
      · exact h5
      · omega
    · exfalso
      have := h.tri3 (i := i) (j := i + 1) (k := i + k) (by omega) (by omega) (by omega)
      have g2 := h.tri0 (i := i) (j := i + 1) (k := i + k + 1) (by omega) (by omega) (by omega)
      have := pos2l (a := E - t) (c := t) (by omega) this a1 g2
      omega
end
end Go.Stn

namespace Go.Stn
open Go Go.K Go.RowKit
theorem edgesL_get {l : List Pt} {i : Nat} (h : i < l.length) : (edgesL l)[i]? = some (cor l i, cor l (i + 1)) := by
  unfold edgesL
  rw [List.getElem?_map, List.getElem?_range h]
  simp only [Option.map_some]
  rw [ptAt_cor h, atL_cor (i := (i : Int) + 1) (n := i + 1 + l.length) (by omega), cor_add]
theorem sq_nn (a : Int) : 0 ≤ a * a := by
  rcases Int.le_total 0 a with h | h
  · exact Int.mul_nonneg h h
  · have := Int.mul_nonneg (show 0 ≤ -a by omega) (show 0 ≤ -a by omega)
    rw [Int.neg_mul_neg] at this
    exact this
theorem sq_lt {a b : Int} (h : a * a < b * b) (hb : 0 ≤ b) : a < b := Classical.byContradiction fun hn => by
  have : b * b ≤ a * a := Int.mul_le_mul (by omega) (by omega) hb (by omega)
  omega
theorem mul_zero_of {a b : Int} (h : 0 < a) (hz : a * b = 0) : b = 0 := by
  rcases Int.mul_eq_zero.1 hz with h1 | h1
  · omega
  · exact h1
theorem le_of_mul {a b c : Int} (h : 0 < a) (hz : a * b ≤ a * c) : b ≤ c := Int.le_of_mul_le_mul_left hz h
/-- from a to b, as a pair -/
theorem onH_id (a b x : Pt) : dotZ (subZ b a) (subZ b a) * (x.x - a.x) = dotZ (subZ x a) (subZ b a) * (b.x - a.x) - (b.z - a.z) * sideZ a b x ∧
    dotZ (subZ b a) (subZ b a) * (x.z - a.z) = dotZ (subZ x a) (subZ b a) * (b.z - a.z) + (b.x - a.x) * sideZ a b x := by
  unfold dotZ subZ sideZ
  dsimp only
  constructor <;> grind
theorem lagrange (a b x : Pt) : dotZ (subZ x a) (subZ b a) * dotZ (subZ x a) (subZ b a) = dotZ (subZ x a) (subZ x a) * dotZ (subZ b a) (subZ b a) - sideZ a b x * sideZ a b x := by
  unfold dotZ subZ sideZ
  dsimp only
  grind
theorem dot_pos {a b : Pt} (h : a ≠ b) : 0 < dotZ (subZ b a) (subZ b a) := by
  unfold dotZ subZ
  dsimp only
  have h1 := sq_nn (b.x - a.x)
  have h2 := sq_nn (b.z - a.z)
  rcases Int.lt_or_eq_of_le (Int.add_nonneg h1 h2) with h3 | h3
  · exact h3
  · exfalso
    have e1 : (b.x - a.x) * (b.x - a.x) = 0 := by omega
    have e2 : (b.z - a.z) * (b.z - a.z) = 0 := by omega
    have e1 : b.x - a.x = 0 := by rcases Int.mul_eq_zero.1 e1 with h | h <;> exact h
    have e2 : b.z - a.z = 0 := by rcases Int.mul_eq_zero.1 e2 with h | h <;> exact h
    apply h
    cases a; cases b
    simp only [Pt.mk.injEq]
    dsimp only at *
    omega
def OnS (x a b : Pt) : Prop := ∃ D t, OnH x a b D t
theorem onS_of {a b x : Pt} (h0 : sideZ a b x = 0) (h1 : 0 ≤ dotZ (subZ x a) (subZ b a)) (h2 : dotZ (subZ x a) (subZ b a) < dotZ (subZ b a) (subZ b a)) : OnS x a b := by
  obtain ⟨e1, e2⟩ := onH_id a b x
  rw [h0] at e1 e2
  exact ⟨_, _, by omega, h1, h2, by rw [e1]; omega, by rw [e2]; omega⟩
theorem onS_dot {a b x : Pt} {D t : Int} (h : OnH x a b D t) : D * dotZ (subZ x a) (subZ b a) = t * dotZ (subZ b a) (subZ b a) ∧ D * (D * dotZ (subZ x a) (subZ x a)) = t * t * dotZ (subZ b a) (subZ b a) := by
  have e1 := h.ex
  have e2 := h.ez
  unfold dotZ subZ
  dsimp only
  generalize x.x - a.x = u at *
  generalize x.z - a.z = v at *
  generalize b.x - a.x = d at *
  generalize b.z - a.z = f at *
  constructor
  · calc D * (u * d + v * f) = (D * u) * d + (D * v) * f := by grind
      _ = _ := by rw [e1, e2]; grind
  · calc D * (D * (u * u + v * v)) = (D * u) * (D * u) + (D * v) * (D * v) := by grind
      _ = _ := by rw [e1, e2]; grind
theorem onS_side {a b x : Pt} {D t : Int} (h : OnH x a b D t) : sideZ a b x = 0 := by
  have := h.lin a b
  rw [side_same3, side_same2, Int.mul_zero, Int.mul_zero, Int.add_zero] at this
  exact mul_zero_of h.pos this
theorem onE_iff {a b x : Pt} (ha : farB a = false) (hb : farB b = false) (hx : farB x = false) (hab : a ≠ b) : onE x (a, b) = true ↔ OnS x a b := by
  have i1 : inR 2000 a := by have := far_in ha; unfold inR; omega
  have i2 : inR 2000 b := by have := far_in hb; unfold inR; omega
  have i3 : inR 2000 x := by have := far_in hx; unfold inR; omega
  have hd := dot_pos hab
  unfold onE
  dsimp only
  rw [subW_eq (by omega) i2 i1, subW_eq (by omega) i3 i1]
  have j1 := subZ_in i2 i1
  have j2 := subZ_in i3 i1
  rw [crossW_eq (by omega) (by omega) j1 j2, dotW_eq (by omega) (by omega) j2 j1, dotW_eq (by omega) (by omega) j2 j2, dotW_eq (by omega) (by omega) j1 j1]
  have hc : crossZ (subZ b a) (subZ x a) = sideZ a b x := by
    unfold crossZ subZ sideZ
    dsimp only
  rw [hc]
  simp only [Bool.and_eq_true, decide_eq_true_eq]
  constructor
  · rintro ⟨⟨h0, h1⟩, h2⟩
    refine onS_of h0 h1 (sq_lt ?_ (by omega))
    have hl := lagrange a b x
    rw [h0] at hl
    have := Int.mul_lt_mul_of_pos_right h2 hd
    omega
  · rintro ⟨D, t, h⟩
    obtain ⟨e1, e2⟩ := onS_dot h
    refine ⟨⟨onS_side h, ?_⟩, ?_⟩
    · refine nonneg_of h.pos ?_
      rw [e1]
      exact Int.mul_nonneg h.t0 (by omega)
    · have hp := h.pos
      refine Classical.byContradiction fun hn => ?_
      have a1 : D * D * dotZ (subZ b a) (subZ b a) ≤ D * (D * dotZ (subZ x a) (subZ x a)) := by
        rw [Int.mul_assoc]
        exact Int.mul_le_mul_of_nonneg_left (Int.mul_le_mul_of_nonneg_left (by omega) (by omega)) (by omega)
      rw [e2] at a1
      have a2 : t * t < D * D := by
        have := Int.mul_le_mul (show t ≤ D - 1 by have := h.t1; omega) (show t ≤ D - 1 by have := h.t1; omega) h.t0 (by omega)
        have h3 : (D - 1) * (D - 1) = D * D - D - D + 1 := by grind
        omega
      have := Int.mul_lt_mul_of_pos_right a2 hd
      omega
theorem between1 {u d : Int} (h1 : min 0 d ≤ u) (h2 : u ≤ max 0 d) : 0 ≤ u * d ∧ u * d ≤ d * d := by
  rcases Int.le_total 0 d with h | h
  · exact ⟨Int.mul_nonneg (by omega) h, Int.mul_le_mul_of_nonneg_right (by omega) h⟩
  · have a := Int.mul_nonneg (show 0 ≤ -u by omega) (show 0 ≤ -d by omega)
    have b := Int.mul_le_mul_of_nonneg_right (show -u ≤ -d by omega) (show 0 ≤ -d by omega)
    rw [Int.neg_mul_neg] at a b
    rw [Int.neg_mul_neg] at b
    exact ⟨a, b⟩
theorem between2 {D t u d : Int} (hD : 0 < D) (h0 : 0 ≤ t) (h1 : t ≤ D) (h : D * u = t * d) : min 0 d ≤ u ∧ u ≤ max 0 d := by
  rcases Int.le_total 0 d with hd | hd
  · have a : 0 ≤ u := nonneg_of hD (by rw [h]; exact Int.mul_nonneg h0 hd)
    have b : u ≤ d := le_of_mul hD (by rw [h]; exact Int.mul_le_mul_of_nonneg_right h1 hd)
    omega
  · have a : u ≤ 0 := nonpos_of hD (by rw [h]; exact Int.mul_nonpos_of_nonneg_of_nonpos h0 hd)
    have b : d ≤ u := le_of_mul hD (by rw [h]; exact Int.mul_le_mul_of_nonpos_right h1 hd)
    omega
theorem ron_iff {a b x : Pt} (ha : farB a = false) (hb : farB b = false) (hx : farB x = false) (hab : a ≠ b) : ronB a b x = true ↔ OnS x a b ∨ x = b := by
  have i1 : inR 2000 a := by have := far_in ha; unfold inR; omega
  have i2 : inR 2000 b := by have := far_in hb; unfold inR; omega
  have i3 : inR 2000 x := by have := far_in hx; unfold inR; omega
  have hd := dot_pos hab
  unfold ronB
  rw [sideW_eq (by omega) i1 i2 i3]
  simp only [Bool.and_eq_true, decide_eq_true_eq]
  constructor
  · rintro ⟨⟨h0, h1, h2⟩, h3, h4⟩
    obtain ⟨c1, c2⟩ := between1 (u := x.x - a.x) (d := b.x - a.x) (by omega) (by omega)
    obtain ⟨c3, c4⟩ := between1 (u := x.z - a.z) (d := b.z - a.z) (by omega) (by omega)
    have d1 : 0 ≤ dotZ (subZ x a) (subZ b a) := by
      unfold dotZ subZ; dsimp only; omega
    have d2 : dotZ (subZ x a) (subZ b a) ≤ dotZ (subZ b a) (subZ b a) := by
      unfold dotZ subZ; dsimp only; omega
    rcases Int.lt_or_eq_of_le d2 with d3 | d3
    · exact .inl (onS_of h0 d1 d3)
    · refine .inr ?_
      obtain ⟨e1, e2⟩ := onH_id a b x
      rw [h0, d3, Int.mul_zero] at e1 e2
      have f1 := Int.eq_of_mul_eq_mul_left (by omega) (show dotZ (subZ b a) (subZ b a) * (x.x - a.x) = dotZ (subZ b a) (subZ b a) * (b.x - a.x) by omega)
      have f2 := Int.eq_of_mul_eq_mul_left (by omega) (show dotZ (subZ b a) (subZ b a) * (x.z - a.z) = dotZ (subZ b a) (subZ b a) * (b.z - a.z) by omega)
      cases x; cases b
      simp only [Pt.mk.injEq]
      dsimp only at *
      omega
  · rintro (⟨D, t, h⟩ | rfl)
    · obtain ⟨c1, c2⟩ := between2 h.pos h.t0 (by have := h.t1; omega) h.ex
      obtain ⟨c3, c4⟩ := between2 h.pos h.t0 (by have := h.t1; omega) h.ez
      exact ⟨⟨onS_side h, by omega, by omega⟩, by omega, by omega⟩
    · rw [side_same2]
      omega
/-- all that a border needs of a shape -/
structure Good (l : List Pt) : Prop where
  near : Near l
  cvx : Cvx l
  len : 3 ≤ l.length
section
variable {l : List Pt} (g : Good l)
include g
theorem Good.far (i : Nat) : farB (cor l i) = false := g.near _ (cor_mem (by have := g.len; omega) i)
theorem Good.ne (i : Nat) : cor l i ≠ cor l (i + 1) := fun h => by
  have := g.cvx.edge i 2 (by omega) (by have := g.len; omega)
  rw [h, side_same1] at this
  omega
/-- a point on edge number i -/
abbrev BP (l : List Pt) (x : Pt) (i : Nat) : Prop := OnS x (cor l i) (cor l (i + 1))
omit g in
theorem BP.congr {x : Pt} {i j : Nat} (h : BP l x i) (hij : i % l.length = j % l.length) : BP l x j := by
  have e1 : cor l i = cor l j := cor_congr hij
  have e2 : cor l (i + 1) = cor l (j + 1) := cor_congr (by rw [← Nat.mod_add_mod, hij, Nat.mod_add_mod])
  unfold BP at *
  rw [← e1, ← e2]
  exact h
theorem Good.zero {x : Pt} {i k : Nat} (hk : k < l.length) (h : BP l x (i + k)) (h0 : sideZ (cor l i) (cor l (i + 1)) x = 0) : k = 0 ∨ (k = 1 ∧ x = cor l (i + 1)) := by
  obtain ⟨D, t, h⟩ := h
  rcases edge_zero g.cvx g.len hk h h0 with h1 | ⟨h1, h2⟩
  · exact .inl h1
  · subst h1; subst h2; exact .inr ⟨rfl, h.start⟩
omit g in
theorem off_mod {n i j : Nat} (hi : i < n) (_ : j < n) : j % n = (i + (if i ≤ j then j - i else j + n - i)) % n := by
  split
  · rw [show i + (j - i) = j from by omega]
  · rw [show i + (j + n - i) = j + n from by omega, Nat.add_mod_right]
theorem Good.uniq {x : Pt} {i j : Nat} (hi : i < l.length) (hj : j < l.length) (h1 : BP l x i) (h2 : BP l x j) : i = j := by
  have s1 : sideZ (cor l i) (cor l (i + 1)) x = 0 := by obtain ⟨D, t, h⟩ := h1; exact onS_side h
  have s2 : sideZ (cor l j) (cor l (j + 1)) x = 0 := by obtain ⟨D, t, h⟩ := h2; exact onS_side h
  have a := g.zero (by split <;> omega) (h2.congr (off_mod hi hj)) s1
  have b := g.zero (by split <;> omega) (h1.congr (off_mod hj hi)) s2
  have := g.len
  rcases a with a | ⟨a, _⟩ <;> rcases b with b | ⟨b, _⟩ <;> (split at a <;> split at b <;> omega)
theorem Good.edge {x : Pt} (h : 0 ≤ edgeI l x) : ∃ i : Nat, edgeI l x = (i : Int) ∧ i < l.length ∧ BP l x i ∧ farB x = false := by
  have hf : farB x = false := by
    cases hf : farB x with
    | false => rfl
    | true => rw [edgeI, if_pos hf] at h; omega
  have hl := (edge_lt (l := l) (x := x)).1
  rw [edgeI, if_neg (by rw [hf]; exact Bool.false_ne_true)] at h hl ⊢
  unfold findI at h hl ⊢
  split at h
  · rename_i ha
    rw [if_pos ha] at hl
    rw [if_pos ha]
    refine ⟨_, rfl, by omega, ?_, hf⟩
    have hlt : (edgesL l).findIdx (onE x) < (edgesL l).length := List.findIdx_lt_length_of_exists (by simpa using ha)
    have hp : onE x (edgesL l)[(edgesL l).findIdx (onE x)] = true := List.findIdx_getElem
    have hg := edgesL_get (l := l) (i := (edgesL l).findIdx (onE x)) (by omega)
    have he : (edgesL l)[(edgesL l).findIdx (onE x)] = (cor l ((edgesL l).findIdx (onE x)), cor l ((edgesL l).findIdx (onE x) + 1)) := (List.getElem?_eq_some_iff.1 hg).2
    rw [he] at hp
    exact (onE_iff (g.far _) (g.far _) hf (g.ne _)).1 hp
  · omega
theorem Good.edge_at {x : Pt} {i : Nat} (hf : farB x = false) (hi : i < l.length) (h : BP l x i) : edgeI l x = (i : Int) := by
  rw [edgeI, if_neg (by rw [hf]; exact Bool.false_ne_true)]
  refine findI_at (edgesL_get hi) (fun j y hj hy => ?_) ((onE_iff (g.far _) (g.far _) hf (g.ne _)).2 h)
  rw [edgesL_get (by omega)] at hy
  cases hy
  cases ho : onE x (cor l j, cor l (j + 1)) with
  | false => rfl
  | true =>
    have := g.uniq hi (by omega) h ((onE_iff (g.far _) (g.far _) hf (g.ne _)).1 ho)
    omega
omit g in
theorem corners {i : Nat} (hi : i < l.length) : ptAt l (i : Int) = cor l i ∧ nextL l (i : Int) = cor l (i + 1) := ⟨ptAt_cor hi, nextL_cor i⟩
theorem Good.border {x : Pt} : rbordB l x = decide (0 ≤ edgeI l x) := by
  rw [Bool.eq_iff_iff, decide_eq_true_eq]
  constructor
  · intro h
    unfold rbordB rbordN at h
    rw [Bool.and_eq_true, Bool.not_eq_true', Bool.not_eq_true'] at h
    obtain ⟨hf, ha⟩ := h
    have hex : ∃ i, i < l.length ∧ ronB (ptAt l (i : Nat)) (nextL l (i : Nat)) x = true := Classical.byContradiction fun hn => by
      rw [allI_true (fun i hi => ?_)] at ha
      · cases ha
      · cases hr : ronB (ptAt l (i : Nat)) (nextL l (i : Nat)) x with
        | false => rfl
        | true => exact absurd ⟨i, hi, hr⟩ hn
    obtain ⟨i, hi, hr⟩ := hex
    rw [(corners hi).1, (corners hi).2, ron_iff (g.far _) (g.far _) hf (g.ne _)] at hr
    rcases hr with hr | hr
    · rw [g.edge_at hf hi hr]; omega
    · have hlt : (i + 1) % l.length < l.length := Nat.mod_lt _ (by omega)
      have : BP l x (i + 1) := ⟨1, 0, by rw [hr]; exact OnH.at 1 (by omega)⟩
      rw [g.edge_at hf hlt (this.congr (Nat.mod_mod _ _).symm)]; omega
  · intro h
    obtain ⟨i, _, hi, hb, hf⟩ := g.edge h
    refine rbord_yes (i := (i : Int)) hf (by omega) (by omega) ?_
    rw [(corners hi).1, (corners hi).2, ron_iff (g.far _) (g.far _) hf (g.ne _)]
    exact .inl hb
/-- a border point lies on an edge's line only on that edge -/
theorem Good.line {x : Pt} {a i : Nat} (hf : farB x = false) (ha : a < l.length) (hb : BP l x a) (hi : i < l.length) : sideZ (cor l i) (cor l (i + 1)) x = 0 ↔ ronB (cor l i) (cor l (i + 1)) x = true := by
  rw [ron_iff (g.far _) (g.far _) hf (g.ne _)]
  constructor
  · intro h0
    rcases g.zero (by split <;> omega) (hb.congr (off_mod hi ha)) h0 with h1 | ⟨_, h2⟩
    · have : a = i := by split at h1 <;> omega
      subst this; exact .inl hb
    · exact .inr h2
  · rintro (⟨D, t, h⟩ | rfl)
    · exact onS_side h
    · rw [side_same2]
theorem Good.apart {p q : Pt} (hp : 0 ≤ edgeI l p) (hq : 0 ≤ edgeI l q) : apartB l p q = rapartB l p q := by
  obtain ⟨a, _, ha, hbp, hfp⟩ := g.edge hp
  obtain ⟨b, _, hb, hbq, hfq⟩ := g.edge hq
  have i1 : inR 2000 p := by have := far_in hfp; unfold inR; omega
  have i2 : inR 2000 q := by have := far_in hfq; unfold inR; omega
  have ic : ∀ i, inR 2000 (cor l i) := fun i => by have := far_in (g.far i); unfold inR; omega
  have key : ∀ i, i < l.length → both0 p q (cor l i, cor l (i + 1)) = rboth l p q (i : Nat) := fun i hi => by
    unfold both0 rboth
    rw [(corners hi).1, (corners hi).2, Bool.eq_iff_iff]
    simp only [Bool.and_eq_true, decide_eq_true_eq]
    rw [turnW_eq (by omega) (ic _) (ic _) i1, turnW_eq (by omega) (ic _) (ic _) i2, g.line hfp ha hbp hi, g.line hfq hb hbq hi]
  unfold apartB rapartB
  rw [Bool.eq_iff_iff, Bool.not_eq_true', allI_iff, List.any_eq_false]
  constructor
  · intro h i hi
    have := h _ (List.mem_of_getElem? (edgesL_get hi))
    rw [key i hi] at this
    simpa using this
  · intro h e he
    obtain ⟨j, hj, rfl⟩ := List.getElem_of_mem he
    rw [edges_len'] at hj
    have hg := (List.getElem?_eq_some_iff.1 (edgesL_get hj)).2
    rw [hg, key j hj]
    simpa using h j hj
end
end Go.Stn

namespace Go.Stn
open Go Go.K Go.RowKit
section
variable {l : List Pt} (g : Good l)
include g
structure Cut (l : List Pt) (p q : Pt) (a m : Nat) (D s E t : Int) : Prop where
  fp : farB p = false
  fq : farB q = false
  ha : a < l.length
  hp : OnH p (cor l a) (cor l (a + 1)) D s
  hq : OnH q (cor l (a + m)) (cor l (a + m + 1)) E t
  m1 : 1 ≤ m
  mn : m < l.length
  hs : m + 1 = l.length → 0 < s
  ht : m = 1 → 0 < t
  ep : edgeI l p = (a : Int)
  eq : edgeI l q = (((a + m) % l.length : Nat) : Int)
theorem Good.cut {p q : Pt} (hp : 0 ≤ edgeI l p) (hq : 0 ≤ edgeI l q) (hap : apartB l p q = true) : ∃ a m D s E t, Cut l p q a m D s E t := by
  have hr := hap
  rw [g.apart hp hq] at hr
  obtain ⟨a, ea, ha, hbp, hfp⟩ := g.edge hp
  obtain ⟨b, eb, hb, hbq, hfq⟩ := g.edge hq
  have hbq' := hbq.congr (off_mod ha hb)
  have hm : (if a ≤ b then b - a else b + l.length - a) < l.length := by split <;> omega
  have hmod := off_mod ha hb
  generalize hmm : (if a ≤ b then b - a else b + l.length - a) = m at *
  have no : ∀ i, i < l.length → ¬ (ronB (cor l i) (cor l (i + 1)) p = true ∧ ronB (cor l i) (cor l (i + 1)) q = true) := fun i hi hh => by
    unfold rapartB at hr
    have := allI_iff.1 hr i hi
    unfold rboth at this
    rw [(corners hi).1, (corners hi).2, hh.1, hh.2] at this
    cases this
  have r1 : ronB (cor l a) (cor l (a + 1)) p = true := (ron_iff (g.far _) (g.far _) hfp (g.ne _)).2 (.inl hbp)
  have r2 : ronB (cor l b) (cor l (b + 1)) q = true := (ron_iff (g.far _) (g.far _) hfq (g.ne _)).2 (.inl hbq)
  obtain ⟨D, s, kp⟩ := hbp
  obtain ⟨E, t, kq⟩ := hbq'
  have hm0 : m ≠ 0 := fun h0 => by
    have : a = b := by split at hmm <;> omega
    subst this
    exact no a ha ⟨r1, r2⟩
  refine ⟨a, m, D, s, E, t, hfp, hfq, ha, kp, kq, by omega, hm, fun hlast => ?_, fun h1 => ?_, ea, ?_⟩
  · have h0 := kp.t0
    rcases Int.lt_or_eq_of_le h0 with h | h
    · exact h
    · exfalso
      subst h
      have hpa := kp.start
      have hba : cor l (b + 1) = cor l a := by
        apply cor_congr
        rw [← Nat.mod_add_mod, hmod, Nat.mod_add_mod, show a + m + 1 = a + l.length from by omega, Nat.add_mod_right]
      exact no b hb ⟨(ron_iff (g.far _) (g.far _) hfp (g.ne _)).2 (.inr (by rw [hba]; exact hpa)), r2⟩
  · have h0 := kq.t0
    rcases Int.lt_or_eq_of_le h0 with h | h
    · exact h
    · exfalso
      subst h; subst h1
      exact no a ha ⟨r1, (ron_iff (g.far _) (g.far _) hfq (g.ne _)).2 (.inr kq.start)⟩
  · rw [eb, ← hmod, Nat.mod_eq_of_lt hb]
variable {p q : Pt} {a m : Nat} {D s E t : Int} (c : Cut l p q a m D s E t)
include c
theorem Good.left (k : Nat) (h1 : m < k) (h2 : k < l.length ∨ (k = l.length ∧ 0 < s)) : 0 < sideZ p q (cor l (a + k)) := by
  rcases h2 with h2 | ⟨rfl, h2⟩
  · exact arc_pos g.cvx c.hp c.hq c.m1 h1 h2
  · exact arc_end g.cvx c.hp c.hq c.m1 c.mn g.len h2 c.ht
theorem Good.notleft (k : Nat) (h1 : 1 ≤ k) (h2 : k ≤ m) : sideZ p q (cor l (a + k)) ≤ 0 := arc_neg g.cvx c.hp c.hq c.mn h1 h2
omit g in
theorem Cut.first (h : s = 0) : cor l (a + l.length) = p := by
  have := c.hp
  rw [h] at this
  rw [cor_add]
  exact this.start.symm
theorem Good.side (i : Nat) : sideW p q (cor l i) = sideZ p q (cor l i) := by
  have i1 : inR 2000 p := by have := far_in c.fp; unfold inR; omega
  have i2 : inR 2000 q := by have := far_in c.fq; unfold inR; omega
  have ic : inR 2000 (cor l i) := by have := far_in (g.far i); unfold inR; omega
  exact sideW_eq (by omega) i1 i2 ic
/-- the corners to the left, in order -/
def arcL (l : List Pt) (p q : Pt) (a m : Nat) : List Pt := ((List.range (l.length - m)).map fun j => cor l (a + m + 1 + j)).filter fun c => decide (0 < sideW p q c)
/-- the program's part -/
theorem Good.rn : ∀ (k j : Nat), j + k + m = l.length → rightN l p k (((a + m) % l.length : Nat) + 1 + (j : Int)) = (((List.range k).map fun i => cor l (a + m + 1 + j + i)).filter fun c => decide (0 < sideW p q c)) ++ [p]
  | 0, j, _ => rfl
  | k + 1, j, hk => by
    have hat : atL l (((a + m) % l.length : Nat) + 1 + (j : Int)) = cor l (a + m + 1 + j) := by
      rw [atL_cor (n := (a + m) % l.length + (1 + j) + l.length) (by omega), cor_add, cor_add_mod]
      congr 1
      omega
    have hcor : cor l (a + m + 1 + j) = cor l (a + (m + 1 + j)) := by congr 1; omega
    have hrec := Good.rn k (j + 1) (by omega)
    rw [show (((a + m) % l.length : Nat) : Int) + 1 + ((j + 1 : Nat) : Int) = (((a + m) % l.length : Nat) : Int) + 1 + (j : Int) + 1 from by omega] at hrec
    have hmap : (List.range (k + 1)).map (fun i => cor l (a + m + 1 + j + i)) = cor l (a + m + 1 + j) :: (List.range k).map (fun i => cor l (a + m + 1 + (j + 1) + i)) := by
      rw [List.range_succ_eq_map, List.map_cons, List.map_map]
      congr 1
      apply List.map_congr_left
      intro i _
      show cor l (a + m + 1 + j + (i + 1)) = _
      congr 1
      omega
    unfold rightN
    rw [hat, hmap]
    by_cases hlast : m + 1 + j = l.length ∧ s = 0
    · have hk0 : k = 0 := by omega
      subst hk0
      have he : cor l (a + m + 1 + j) = p := by rw [hcor, hlast.1]; exact c.first hlast.2
      rw [he, if_pos (eqB_iff.2 rfl)]
      have hz : ¬ 0 < sideW p q p := by
        have := g.side c (a + l.length)
        rw [c.first hlast.2, side_same3] at this
        omega
      simp [hz]
    · have hpos : 0 < sideW p q (cor l (a + m + 1 + j)) := by
        rw [g.side c, hcor]
        refine g.left c _ (by omega) ?_
        by_cases h : m + 1 + j = l.length
        · refine .inr ⟨h, ?_⟩
          have := c.hp.t0
          have : s ≠ 0 := fun h0 => hlast ⟨h, h0⟩
          omega
        · exact .inl (by omega)
      have hne : ¬ eqB (cor l (a + m + 1 + j)) p = true := fun he => by
        have := eqB_iff.1 he
        rw [g.side c, this, side_same3] at hpos
        omega
      rw [if_neg hne, hrec]
      simp [hpos]
omit g in
theorem Cut.rt : rightT l q p = l.length - m := by
  have := c.ha
  have := c.mn
  have := c.m1
  have hlt := Nat.mod_lt (a + m) (show l.length > 0 by omega)
  unfold rightT
  rw [c.ep, c.eq]
  rcases Nat.lt_or_ge (a + m) l.length with h | h
  · rw [Nat.mod_eq_of_lt h, if_neg (by omega)]; omega
  · rw [Nat.mod_eq_sub_mod h, Nat.mod_eq_of_lt (by omega), if_pos (by omega)]; omega
theorem Good.rl : rightL l q p = q :: (arcL l p q a m ++ [p]) := by
  unfold rightL arcL
  rw [c.rt, c.eq]
  have := g.rn c (l.length - m) 0 (by have := c.mn; omega)
  rw [show (((a + m) % l.length : Nat) : Int) + 1 + ((0 : Nat) : Int) = (((a + m) % l.length : Nat) : Int) + 1 from by omega] at this
  rw [this]
omit g in
theorem Cut.mod (i : Nat) : i % l.length = (a + (m + 1 + (i + (l.length - (a + m + 1) % l.length)) % l.length)) % l.length := by
  have hn : 0 < l.length := by have := c.mn; omega
  have := Nat.mod_lt (a + m + 1) hn
  rw [show a + (m + 1 + (i + (l.length - (a + m + 1) % l.length)) % l.length) = (a + m + 1) + (i + (l.length - (a + m + 1) % l.length)) % l.length from by omega, Nat.add_mod_mod, ← Nat.mod_add_mod,
    show (a + m + 1) % l.length + (i + (l.length - (a + m + 1) % l.length)) = i + l.length from by omega, Nat.add_mod_right]
theorem Good.fr : fromN l p q l.length = (((a + m + 1) % l.length : Nat) : Int) := by
  have hn : 0 < l.length := by have := c.mn; omega
  have m1 := c.m1
  have mn := c.mn
  have hlt := Nat.mod_lt (a + m + 1) hn
  have test : ∀ i : Nat, i < l.length → (leftC l p q (i : Int) = true ↔ i = (a + m + 1) % l.length) := fun i hi => by
    have e1 : ptAt l (i : Int) = cor l i := ptAt_cor hi
    have e2 : ((i : Int) + (l.length : Int) - 1).tmod (l.length : Int) = (((i + l.length - 1) % l.length : Nat) : Int) := by
      rw [show (i : Int) + (l.length : Int) - 1 = ((i + l.length - 1 : Nat) : Int) from by omega]; rfl
    have e3 : ptAt l (((i + l.length - 1) % l.length : Nat) : Int) = cor l (i + l.length - 1) := by
      rw [ptAt_cor (Nat.mod_lt _ hn), cor_mod]
    unfold leftC
    rw [e1, e2, e3, g.side c, g.side c, Bool.and_eq_true, decide_eq_true_eq, decide_eq_true_eq]
    have hmod := c.mod i
    have hr := Nat.mod_lt (i + (l.length - (a + m + 1) % l.length)) hn
    have hzero : (i + (l.length - (a + m + 1) % l.length)) % l.length = 0 ↔ i = (a + m + 1) % l.length := by
      rcases Nat.lt_or_ge i ((a + m + 1) % l.length) with h | h
      · rw [Nat.mod_eq_of_lt (by omega)]; omega
      · rw [Nat.mod_eq_sub_mod (by omega), Nat.mod_eq_of_lt (by omega)]; omega
    rw [← hzero]
    generalize (i + (l.length - (a + m + 1) % l.length)) % l.length = r at *
    have c1 : cor l i = cor l (a + (m + 1 + r)) := cor_congr hmod
    have c2 : cor l (i + l.length - 1) = cor l (a + (m + r)) := by
      apply cor_congr
      have e : (i + l.length - 1 + 1) % l.length = (a + (m + r) + 1) % l.length := by
        rw [show i + l.length - 1 + 1 = i + l.length from by omega, Nat.add_mod_right, hmod]; congr 1; omega
      have e' := congrArg (fun x => (x + (l.length - 1)) % l.length) e
      simp only [Nat.mod_add_mod] at e'
      rw [show i + l.length - 1 + 1 + (l.length - 1) = i + l.length - 1 + l.length from by omega, Nat.add_mod_right, show a + (m + r) + 1 + (l.length - 1) = a + (m + r) + l.length from by omega, Nat.add_mod_right] at e'
      exact e'
    rw [c1, c2]
    constructor
    · rintro ⟨h1, h2⟩
      refine Classical.byContradiction fun hr0 => ?_
      -- beyond the first one, both are to the left, or the corner is not
      by_cases hb : m + 1 + r ≤ l.length
      · have := g.left c (m + r) (by omega) (.inl (by omega))
        omega
      · have := g.notleft c (m + 1 + r - l.length) (by omega) (by omega)
        rw [show a + (m + 1 + r) = a + (m + 1 + r - l.length) + l.length from by omega, cor_add] at h1
        omega
    · intro h0
      subst h0
      refine ⟨g.left c _ (by omega) ?_, g.notleft c _ (by omega) (by omega)⟩
      by_cases h : m + 1 = l.length
      · exact .inr ⟨h, c.hs h⟩
      · exact .inl (by omega)
  have key : ∀ n, n ≤ l.length → (a + m + 1) % l.length < n → fromN l p q n = (((a + m + 1) % l.length : Nat) : Int) := by
    intro n
    induction n with
    | zero => intro _ h; omega
    | succ n ih =>
      intro h1 h2
      unfold fromN
      by_cases h : n = (a + m + 1) % l.length
      · rw [if_pos ((test n (by omega)).2 h), h]
      · rw [if_neg (fun hc => h ((test n (by omega)).1 hc))]
        exact ih (by omega) (by omega)
  exact key _ (Nat.le_refl _) hlt
theorem Good.ll : leftL l p q = p :: q :: arcL l p q a m := by
  have m1 := c.m1
  have mn := c.mn
  unfold leftL leftO arcL
  rw [g.fr c]
  congr 2
  have hpt : ∀ j : Nat, leftP l (((a + m + 1) % l.length : Nat) : Int) (j : Int) = cor l (a + m + 1 + j) := fun j => by
    unfold leftP
    rw [show ((((a + m + 1) % l.length : Nat) : Int) + (j : Int)).tmod (l.length : Int) = ((((a + m + 1) % l.length + j) % l.length : Nat) : Int) from rfl, ptAt_cor (Nat.mod_lt _ (by omega)), cor_mod, cor_add_mod]
  rw [List.map_congr_left (g := fun j => cor l (a + m + 1 + j)) (fun j _ => hpt j)]
  have hsplit : List.range l.length = List.range (l.length - m) ++ (List.range m).map (fun j => l.length - m + j) := by
    rw [← List.range_add]; congr 1; omega
  rw [hsplit, List.map_append, List.filter_append, List.map_map]
  have hnil : (((List.range m).map ((fun j => cor l (a + m + 1 + j)) ∘ fun j => l.length - m + j)).filter fun c => decide (0 < sideW p q c)) = [] := by
    rw [List.filter_eq_nil_iff]
    intro x hx
    obtain ⟨j, hj, rfl⟩ := List.mem_map.1 hx
    rw [List.mem_range] at hj
    have := g.notleft c (j + 1) (by omega) (by omega)
    show ¬ decide (0 < sideW p q (cor l (a + m + 1 + (l.length - m + j)))) = true
    rw [g.side c, show a + m + 1 + (l.length - m + j) = a + (j + 1) + l.length from by omega, cor_add, decide_eq_true_eq]
    omega
  rw [hnil, List.append_nil]
theorem Good.nodup : (p :: q :: arcL l p q a m).Nodup := by
  have mn := c.mn
  have hside : ∀ x ∈ arcL l p q a m, 0 < sideZ p q x := fun x hx => by
    obtain ⟨h1, h2⟩ := List.mem_filter.1 hx
    obtain ⟨j, _, rfl⟩ := List.mem_map.1 h1
    rw [decide_eq_true_eq, g.side c] at h2
    exact h2
  have hpq : p ≠ q := fun h => by
    have := g.left c (m + 1) (by omega) (by
      by_cases h : m + 1 = l.length
      · exact .inr ⟨h, c.hs h⟩
      · exact .inl (by omega))
    rw [h, side_same1] at this
    omega
  have cne : ∀ i j, i < j → j < i + l.length → cor l i ≠ cor l j := fun i j h1 h2 he => by
    have n3 := g.len
    by_cases h : j = i + 1
    · subst h; exact g.ne i he
    · have := g.cvx.tri3 (i := i) (j := i + 1) (k := j) (by omega) (by omega) h2
      rw [he, side_same3] at this
      omega
  rw [List.nodup_cons, List.nodup_cons]
  refine ⟨fun h => ?_, fun h => ?_, ?_⟩
  · rcases List.mem_cons.1 h with h | h
    · exact hpq h
    · have := hside _ h
      rw [side_same3] at this
      omega
  · have := hside _ h
    rw [side_same2] at this
    omega
  · unfold arcL
    refine List.Pairwise.filter _ ?_
    rw [List.pairwise_map]
    refine List.Pairwise.imp_of_mem ?_ (List.pairwise_lt_range)
    intro i j hi hj hij
    rw [List.mem_range] at hi hj
    exact cne _ _ (by omega) (by omega)
end
/-- **the document's part is the program's, but for where it begins** -/
theorem Good.parts {l : List Pt} (g : Good l) {p q : Pt} (hp : 0 ≤ edgeI l p) (hq : 0 ≤ edgeI l q) (hap : apartB l p q = true) :
    ∃ X, leftL l p q = p :: q :: X ∧ rightL l q p = (q :: X) ++ [p] ∧ (p :: q :: X).Nodup := by
  obtain ⟨a, m, D, s, E, t, c⟩ := g.cut hp hq hap
  exact ⟨_, g.ll c, g.rl c, g.nodup c⟩
end Go.Stn

namespace Go.Proofs
open Go.Shelf
def Tryz.laysM171_ren : Go.Shelf.Ren := ⟨fun | 171 => 27 | 243 => 64 | 246 => 99 | 283 => 127 | 284 => 128 | 285 => 129 | 286 => 130 | 129 => 109 | 317 => 149 | 318 => 150 | 319 => 151 | 320 => 152 | 337 => 165 | 338 => 166 | n => n, fun | 3 => 3 | 9 => 9 | 2 => 2 | 4 => 4 | 171 => 165 | 0 => 0 | 53 => 154 | 37 => 64 | 5 => 5 | 173 => 167 | 212 => 184 | 51 => 152 | 20 => 20 | 213 => 185 | 46 => 119 | 232 => 207 | 233 => 208 | n => n, fun | 17 => 2 | 18 => 5 | 19 => 6 | n => n⟩
theorem Tryz.laysM171 : Go.Proofs.LaysM.n171 Tryz.prog Tryz.laysM171_ren := {
  mixed := by kernel_rfl
  f129 := Tryz.func109.trans (congrArg some (by kernel_rfl))
  f171 := Tryz.func27.trans (congrArg some (by kernel_rfl))
  f243 := Tryz.func64.trans (congrArg some (by kernel_rfl))
  f246 := Tryz.func99.trans (congrArg some (by kernel_rfl))
  f283 := Tryz.func127.trans (congrArg some (by kernel_rfl))
  f284 := Tryz.func128.trans (congrArg some (by kernel_rfl))
  f285 := Tryz.func129.trans (congrArg some (by kernel_rfl))
  f286 := Tryz.func130.trans (congrArg some (by kernel_rfl))
  f317 := Tryz.func149.trans (congrArg some (by kernel_rfl))
  f318 := Tryz.func150.trans (congrArg some (by kernel_rfl))
  f319 := Tryz.func151.trans (congrArg some (by kernel_rfl))
  f320 := Tryz.func152.trans (congrArg some (by kernel_rfl))
  f337 := Tryz.func165.trans (congrArg some (by kernel_rfl))
  f338 := Tryz.func166.trans (congrArg some (by kernel_rfl))
  t0 := Tryz.underlying0
  a0 := Tryz.isAgg0
  z0 := Tryz.sizeOf0
  v0 := Tryz.zeroValue0
  t2 := Tryz.underlying2
  a2 := Tryz.isAgg2
  z2 := Tryz.sizeOf2
  v2 := Tryz.zeroValue2
  t3 := Tryz.underlying3
  a3 := Tryz.isAgg3
  z3 := Tryz.sizeOf3
  v3 := Tryz.zeroValue3
  t4 := Tryz.underlying4
  a4 := Tryz.isAgg4
  z4 := Tryz.sizeOf4
  v4 := Tryz.zeroValue4
  t5 := Tryz.underlying5
  a5 := Tryz.isAgg5
  z5 := Tryz.sizeOf5
  v5 := Tryz.zeroValue5
  t9 := Tryz.underlying9
  a9 := Tryz.isAgg9
  z9 := Tryz.sizeOf9
  v9 := Tryz.zeroValue9
  t20 := Tryz.underlying20
  a20 := Tryz.isAgg20
  z20 := Tryz.sizeOf20
  v20 := Tryz.zeroValue20
  t37 := Tryz.underlying64
  a37 := Tryz.isAgg64
  z37 := Tryz.sizeOf64
  v37 := Tryz.zeroValue64
  t46 := Tryz.underlying119
  a46 := Tryz.isAgg119
  z46 := Tryz.sizeOf119
  v46 := Tryz.zeroValue119
  t51 := Tryz.underlying152
  a51 := Tryz.isAgg152
  z51 := Tryz.sizeOf152
  v51 := Tryz.zeroValue152
  t53 := Tryz.underlying154
  a53 := Tryz.isAgg154
  z53 := Tryz.sizeOf154
  v53 := Tryz.zeroValue154
  t171 := Tryz.underlying165
  a171 := Tryz.isAgg165
  z171 := Tryz.sizeOf165
  v171 := Tryz.zeroValue165
  t173 := Tryz.underlying167
  a173 := Tryz.isAgg167
  z173 := Tryz.sizeOf167
  v173 := Tryz.zeroValue167
  t212 := Tryz.underlying184
  a212 := Tryz.isAgg184
  z212 := Tryz.sizeOf184
  v212 := Tryz.zeroValue184
  t213 := Tryz.underlying185
  a213 := Tryz.isAgg185
  z213 := Tryz.sizeOf185
  t232 := Tryz.underlying207
  a232 := Tryz.isAgg207
  z232 := Tryz.sizeOf207
  v232 := Tryz.zeroValue207
  t233 := Tryz.underlying208
  a233 := Tryz.isAgg208
  z233 := Tryz.sizeOf208
  v233 := Tryz.zeroValue208
  g17 := by kernel_rfl
  g18 := by kernel_rfl
  g19 := by kernel_rfl
  i0 := by kernel_rfl
  i2 := by kernel_rfl
  i3 := by kernel_rfl
  i4 := by kernel_rfl
  i5 := by kernel_rfl
  i9 := by kernel_rfl
  i20 := by kernel_rfl
  i37 := by kernel_rfl
  i46 := by kernel_rfl
  i51 := by kernel_rfl
  i53 := by kernel_rfl
  i171 := by kernel_rfl
  i173 := by kernel_rfl
  i212 := by kernel_rfl
  i232 := by kernel_rfl
  i233 := by kernel_rfl
  m17 := by kernel_rfl
  m18 := by kernel_rfl
  m19 := by kernel_rfl }
end Go.Proofs

namespace Go.Proofs.YtmpaebfjnjmmlaaGreatDoor
open Go.K Go.Stn Go.RowKit
theorem g_pow10 : Tryz.prog.globalNamed "internal/strconv.uint64pow10" = some 2 := by kernel_rfl
theorem itoa_c (n : Int) (w : World) (hp : Has w (VarR 2 pow10V)) (h0 : -9223372036854775808 ≤ n) (h1 : n ≤ 9223372036854775807) : Calls Tryz.prog 27 #[.int .i64 n] w (Pure (.string (itoaB n)) w) := itoa_pure Tryz.laysM171 g_pow10 n w h0 h1 hp
end Go.Proofs.YtmpaebfjnjmmlaaGreatDoor

namespace Go.Stn
open Go Go.K Go.RowKit Go.Proofs
abbrev bs (l : List UInt8) : ByteArray := ⟨l.toArray⟩
theorem data_itoa (n : Int) : (itoaB n).data.toList = Lib.itoa n := by unfold itoaB; simp
end Go.Stn

namespace Go.Proofs.YtmpaebfjnjmmlaaGreatDoor
open Go.K Go.Stn Go.RowKit
theorem af71 : AF Tryz.prog 71 3 1 8 [.int IntKind.i64 0] := ⟨Tryz.underlying71, by kernel_rfl, rfl⟩
theorem en27 : En Tryz.prog 27 := en_of Tryz.func27 (by kernel_rfl) (by kernel_rfl)
end Go.Proofs.YtmpaebfjnjmmlaaGreatDoor

namespace Go.Stn
open Go Go.K Go.RowKit Go.Proofs
theorem plain_get {L M : List SC} (h : plainL M = plainL L) (i : Nat) : (M.getD i default).s = (L.getD i default).s := by
  have h1 := congrArg (fun l : List Stn => l[i]?) h
  simp only [plainL, List.getElem?_map] at h1
  rw [List.getD_eq_getElem?_getD, List.getD_eq_getElem?_getD]
  cases hM : M[i]? with
  | none =>
    cases hL : L[i]? with
    | none => rfl
    | some y => rw [hM, hL] at h1; simp at h1
  | some x =>
    cases hL : L[i]? with
    | none => rw [hM, hL] at h1; simp at h1
    | some y => rw [hM, hL] at h1; simpa using h1
theorem plain_length {L M : List SC} (h : plainL M = plainL L) : M.length = L.length := by simpa using congrArg List.length h
theorem sameAll_plain {A B : List SC} (h : plainL A = plainL B) : sameAllB A B = true := by
  unfold sameAllB
  rw [decide_eq_true (plain_length h), Bool.true_and, List.all_eq_true]
  intro i _
  rw [plain_get h]
  exact same_refl _
end Go.Stn

namespace Go.Proofs.YtmpaebfjnjmmlaaGreatDoor
open Go.K Go.Stn Go.RowKit
theorem en6 : En Tryz.prog 6 := en_of Tryz.func6 (by kernel_rfl) (by kernel_rfl)
theorem en15 : En Tryz.prog 15 := en_of Tryz.func15 (by kernel_rfl) (by kernel_rfl)
end Go.Proofs.YtmpaebfjnjmmlaaGreatDoor

namespace Go.Stn
open Go Go.K Go.RowKit Go.Proofs Go.Txt
/-- the points that the numbers from the fifth on give -/
def ptsN (n : List Int) (k : Nat) : List Pt := (List.range k).map fun i => ⟨n.getD (4 + 2 * i) default, n.getD (5 + 2 * i) default⟩
theorem ptsN_len (n : List Int) (k : Nat) : (ptsN n k).length = k := by simp [ptsN]
theorem ptsN_succ {n : List Int} {k : Int} (h : 0 ≤ k) : ptsN n (k + 1).toNat = ptsN n k.toNat ++ [⟨n.getD (4 + 2 * k).toNat default, n.getD (4 + 2 * k + 1).toNat default⟩] := by
  unfold ptsN
  rw [show (k + 1).toNat = k.toNat + 1 from by omega, List.range_succ, List.map_append]
  simp only [List.map_cons, List.map_nil]
  rw [show 4 + 2 * k.toNat = (4 + 2 * k).toNat from by omega, show 5 + 2 * k.toNat = (4 + 2 * k + 1).toNat from by omega]
/-- the numbers of words -/
def numI (s : ByteArray) : Int := atoiV s
def numB (s : ByteArray) : Bool := (numL s.data.toList).isSome
theorem numB_eq (s : ByteArray) : numB s = (atoiB s && decide ((s.size : Int) ≤ 6) && ((itoaB (atoiV s)).toList == s.toList)) := by
  unfold numB numL atoiB atoiV
  have hsz : s.data.toList.length = s.size := by rw [Array.length_toList]; rfl
  rw [hsz, Lib.toList_data, Lib.toList_data, data_itoa]
  by_cases h6 : s.size ≤ 6
  · rw [if_pos h6, decide_eq_true (show (s.size : Int) ≤ 6 by omega)]
    cases h : Lib.atoiAll s.data.toList with
    | ok v =>
      simp only [Bool.true_and]
      by_cases he : Lib.itoa v = s.data.toList
      · rw [if_pos he, he]; simp
      · rw [if_neg he]
        simp [he]
    | _ => simp
  · rw [if_neg h6, decide_eq_false (show ¬ (s.size : Int) ≤ 6 by omega)]
    simp
theorem num_some {s : ByteArray} {v : Int} (h : numL s.data.toList = some v) : numI s = v ∧ numB s = true := by
  refine ⟨?_, by unfold numB; rw [h]; rfl⟩
  have h2 := (numL_iff _ _).1 h
  unfold numI atoiV
  rw [h2.2, atoi_itoa (by rw [← h2.2]; exact h2.1)]
def wordBad (ws : List ByteArray) : Bool := (decide ((ws.length : Int) < 11) || decide (((ws.length : Int)).tmod 2 = 0)) || ((ws.getD (0 : Int).toNat default).toList == (⟨#[]⟩ : ByteArray).toList)
/-- a stone of words -/
def readW (ws : List ByteArray) : Stn := ⟨ws.getD 0 default, ptsN ((ws.drop 1).map numI) (((ws.length : Int) - 5) / 2).toNat, ((ws.drop 1).map numI).getD 0 default, ((ws.drop 1).map numI).getD 1 default, ⟨((ws.drop 1).map numI).getD 2 default, ((ws.drop 1).map numI).getD 3 default⟩⟩
def readOk (ws : List ByteArray) : Bool := !wordBad ws && (ws.drop 1).all numB
def readS (ws : List ByteArray) : Stn := if readOk ws = true then readW ws else zeroS
def parseR : List (List UInt8) → Int → List Stn → List Stn × Int × Int
  | [], _, acc => (acc, 0, 0)
  | row :: r, n, acc => if row = [] then parseR r (n + 1) acc else
    if acc.length = 200 then ([], n, 5) else
    if readOk (splitL (mkB row) 32) = false then ([], n, 4) else
    if ¬ checkI (readS (splitL (mkB row) 32)) = 0 then ([], n, 2) else
    if (acc.any fun s => s.name.toList == (readS (splitL (mkB row) 32)).name.toList) = true then ([], n, 7) else parseR r (n + 1) (acc ++ [readS (splitL (mkB row) 32)])
theorem words_eq {a b : List ByteArray} (h : a.map (·.data.toList) = b.map (·.data.toList)) : a = b := by
  induction a generalizing b with
  | nil => cases b with
    | nil => rfl
    | cons y ys => simp at h
  | cons x xs ih => cases b with
    | nil => simp at h
    | cons y ys =>
      simp only [List.map_cons, List.cons.injEq] at h
      rw [Go.WideShapes.bytes_inj h.1, ih h.2]
theorem mkB_data (s : ByteArray) : mkB s.data.toList = s := Go.WideShapes.bytes_inj (by simp)
end Go.Stn

namespace Go.Stn
open Go Go.K Go.RowKit Go.Proofs Go.Txt
theorem byteI_list (s : ByteArray) (i : Int) : byteI s i = ((s.data.toList[i.toNat]?.getD 0).toNat : Int) := by
  unfold byteI
  by_cases h : i.toNat < s.size
  · rw [getElem?_pos s i.toNat h]
    have h2 : i.toNat < s.data.toList.length := by simpa using h
    rw [List.getElem?_eq_getElem h2]; rfl
  · rw [getElem?_neg s i.toNat h, List.getElem?_eq_none (by simpa using Nat.le_of_not_lt h)]
def minusB (s : ByteArray) : Bool := (!(s.toList == (⟨#[]⟩ : ByteArray).toList)) && decide (byteI s 0 = 45)
theorem minusB_eq (s : ByteArray) : minusB s = minusL s.data.toList := by
  unfold minusB
  rw [Lib.toList_data, Lib.toList_data, byteI_list]
  cases s.data.toList with
  | nil => simp [minusL]
  | cons c r =>
    have : ((c.toNat : Int) = 45) ↔ c = 45 := ⟨fun h => UInt8.toNat_inj.1 (by have e45 : (45 : UInt8).toNat = 45 := rfl; omega), fun h => by subst h; rfl⟩
    rw [Bool.eq_iff_iff]; simp [minusL, this]
def digsS (s : ByteArray) : ByteArray := if minusB s = true then s.extract 1 s.size else s
theorem digsS_data (s : ByteArray) : (digsS s).data.toList = digsL s.data.toList := by
  unfold digsS digsL
  rw [minusB_eq]
  by_cases h : minusL s.data.toList = true
  · rw [if_pos h, if_pos h, ByteArray.data_extract, Array.toList_extract, List.extract_eq_take_drop, List.drop_one, List.take_of_length_le (by simp)]
  · rw [if_neg h, if_neg h]
def rbadS (s : ByteArray) : Bool := (decide (6 < (s.size : Int)) || ((digsS s).toList == (⟨#[]⟩ : ByteArray).toList)) || (decide (byteI (digsS s) 0 = 48) && (decide (1 < ((digsS s).size : Int)) || minusB s))
theorem size_data (s : ByteArray) : s.size = s.data.toList.length := by rw [Array.length_toList]; rfl
theorem rbadS_eq (s : ByteArray) : rbadS s = rbadL s.data.toList := by
  unfold rbadS rbadL
  rw [Lib.toList_data, Lib.toList_data, byteI_list, digsS_data, minusB_eq, size_data, size_data, digsS_data]
  cases digsL s.data.toList with
  | nil => simp
  | cons c r =>
    have : ((c.toNat : Int) = 48) ↔ c = 48 := ⟨fun h => UInt8.toNat_inj.1 (by have e48 : (48 : UInt8).toNat = 48 := rfl; omega), fun h => by subst h; rfl⟩
    have e6 : (6 : Int) < (s.data.toList.length : Int) ↔ 6 < s.data.toList.length := by omega
    have e1 : (1 : Int) < ((c :: r).length : Int) ↔ 1 < (c :: r).length := by omega
    rw [show decide ((6 : Int) < (s.data.toList.length : Int)) = decide (6 < s.data.toList.length) from by rw [decide_eq_decide]; exact e6,
      show decide ((1 : Int) < ((c :: r).length : Int)) = decide (1 < (c :: r).length) from by rw [decide_eq_decide]; exact e1]
    rw [Bool.eq_iff_iff]; simp [this]
def rvalN (s : ByteArray) (k : Nat) : Int := (decVal 0 (s.data.toList.take k) : Int)
theorem takeB_succ {s : ByteArray} {i : Int} (h0 : 0 ≤ i) (h1 : i < (s.size : Int)) : s.data.toList.take (i + 1).toNat = s.data.toList.take i.toNat ++ [s.data.toList[i.toNat]?.getD 0] := by
  have hlt : i.toNat < s.data.toList.length := by rw [← size_data]; omega
  rw [show (i + 1).toNat = i.toNat + 1 from by omega, List.take_add_one, List.getElem?_eq_getElem hlt]; rfl
theorem rvalN_succ {s : ByteArray} {i : Int} (h0 : 0 ≤ i) (h1 : i < (s.size : Int)) (h : 48 ≤ byteI s i) : rvalN s (i + 1).toNat = 10 * rvalN s i.toNat + (byteI s i - 48) := by
  rw [byteI_list] at h ⊢
  unfold rvalN
  rw [takeB_succ h0 h1, decVal_app, decVal_one]
  omega
theorem decVal_lt : ∀ (l : List UInt8) (a : Nat), (∀ c ∈ l, isDig c) → decVal a l < (a + 1) * 10 ^ l.length
  | [], a, _ => by simp [decVal]
  | c :: r, a, h => by
    have hc := h c (by simp)
    unfold isDig at hc
    rw [decVal_cons, List.length_cons, Nat.pow_succ]
    have := decVal_lt r (a * 10 + (c.toNat - 48)) (fun x hx => h x (by simp [hx]))
    have h2 : (a * 10 + (c.toNat - 48) + 1) * 10 ^ r.length ≤ ((a + 1) * 10) * 10 ^ r.length := Nat.mul_le_mul_right _ (by omega)
    rw [Nat.mul_comm (10 ^ r.length) 10, ← Nat.mul_assoc]
    omega
def ndigB (s : ByteArray) (i : Int) : Bool := decide (byteI s i < 48) || decide (57 < byteI s i)
theorem digs_of {s : ByteArray} {i : Int} (_h1 : i ≤ (s.size : Int)) (h : ∀ j : Nat, (j : Int) < i → ndigB s j = false) : ∀ c ∈ s.data.toList.take i.toNat, isDig c := fun c hc => by
  obtain ⟨k, hk, rfl⟩ := List.mem_take_iff_getElem.1 hc
  have := h k (by omega)
  unfold ndigB at this
  rw [byteI_list, Int.toNat_natCast, List.getElem?_eq_getElem (by omega)] at this
  simp only [Bool.or_eq_false_iff, decide_eq_false_iff_not, Option.getD_some] at this
  unfold isDig; omega
theorem rvalN_lt {s : ByteArray} {i : Int} (h0 : 0 ≤ i) (h1 : i ≤ (s.size : Int)) (h6 : i ≤ 6) (h : ∀ j : Nat, (j : Int) < i → ndigB s j = false) : 0 ≤ rvalN s i.toNat ∧ rvalN s i.toNat < 1000000 := by
  have h2 := decVal_lt _ 0 (digs_of h1 h)
  have h3 : (10 : Nat) ^ (s.data.toList.take i.toNat).length ≤ 10 ^ 6 := Nat.pow_le_pow_right (by decide) (by rw [List.length_take]; omega)
  have h10 : (10 : Nat) ^ 6 = 1000000 := rfl
  unfold rvalN
  omega
def rnumI (s : ByteArray) : Int := (numL s.data.toList).getD 0
theorem rnum_size {s : ByteArray} (h : rbadS s = false) : (s.size : Int) ≤ 6 ∧ ((digsS s).size : Int) ≤ 6 := by
  have h2 := h
  unfold rbadS at h2
  simp only [Bool.or_eq_false_iff, decide_eq_false_iff_not] at h2
  refine ⟨by omega, ?_⟩
  rw [size_data, digsS_data]
  have : (digsL s.data.toList).length ≤ s.data.toList.length := by
    unfold digsL; split
    · rw [List.length_tail]; omega
    · exact Nat.le_refl _
  rw [size_data] at h2
  omega
theorem rnum_bad {s : ByteArray} (h : rbadS s = true) : rnumI s = 0 ∧ numB s = false := by
  unfold rnumI numB
  rw [← rnum_eq, rnumL, if_pos (by rw [← rbadS_eq]; exact h)]
  exact ⟨rfl, rfl⟩
theorem rnum_no {s : ByteArray} {i : Int} (h : rbadS s = false) (h0 : 0 ≤ i) (h1 : i < ((digsS s).size : Int)) (hb : ndigB (digsS s) i = true) : rnumI s = 0 ∧ numB s = false := by
  unfold rnumI numB
  have hlt : i.toNat < (digsL s.data.toList).length := by rw [← digsS_data, ← size_data]; omega
  rw [← rnum_eq, rnumL, if_neg (by rw [← rbadS_eq, h]; simp), if_neg]
  · exact ⟨rfl, rfl⟩
  · intro hd
    have := hd _ (List.getElem_mem hlt)
    unfold ndigB at hb
    rw [byteI_list] at hb
    have e : (digsS s).data.toList[i.toNat]?.getD 0 = (digsL s.data.toList)[i.toNat] := by
      rw [digsS_data, List.getElem?_eq_getElem hlt]; rfl
    rw [e] at hb
    simp only [Bool.or_eq_true, decide_eq_true_eq] at hb
    unfold isDig at this
    omega
theorem rnum_yes {s : ByteArray} {i : Int} (h : rbadS s = false) (h1 : ((digsS s).size : Int) ≤ i) (hi : i ≤ ((digsS s).size : Int)) (hb : ∀ j : Nat, (j : Int) < i → ndigB (digsS s) j = false) : rnumI s = (if minusB s = true then -rvalN (digsS s) i.toNat else rvalN (digsS s) i.toNat) ∧ numB s = true := by
  have hd := digs_of hi hb
  have ht : (digsS s).data.toList.take i.toNat = digsL s.data.toList := by
    rw [List.take_of_length_le (by rw [← size_data]; omega), digsS_data]
  unfold rnumI numB rvalN
  rw [ht] at hd ⊢
  rw [← rnum_eq, rnumL, if_neg (by rw [← rbadS_eq, h]; simp), if_pos hd, minusB_eq]
  exact ⟨rfl, rfl⟩
theorem rnum_num {s : ByteArray} (h : numB s = true) : rnumI s = numI s := by
  unfold numB at h
  cases k : numL s.data.toList with
  | none => rw [k] at h; simp at h
  | some v => rw [(num_some k).1]; unfold rnumI; rw [k]; rfl
theorem str_pos {d : ByteArray} (h : ¬ (d.toList == (⟨#[]⟩ : ByteArray).toList) = true) : 0 < (d.size : Int) := by
  rw [Lib.toList_data, Lib.toList_data] at h
  rw [size_data]
  cases e : d.data.toList with
  | nil => rw [e] at h; simp at h
  | cons c r => simp
theorem minus_pos {s : ByteArray} (h : minusB s = true) : 1 ≤ (s.size : Int) := by
  have : 0 < (s.size : Int) := str_pos (by unfold minusB at h; simp only [Bool.and_eq_true, Bool.not_eq_true'] at h; rw [h.1]; simp)
  omega
theorem digs_ne {s d : ByteArray} (h : (!(decide (6 < (s.size : Int)) || (d.toList == (⟨#[]⟩ : ByteArray).toList))) = true) : ¬ (d.toList == (⟨#[]⟩ : ByteArray).toList) = true := by
  have h2 := h
  simp only [Bool.not_or, Bool.and_eq_true, Bool.not_eq_true'] at h2
  rw [h2.2]; simp
theorem ndig_no {s : ByteArray} {i : Int} (h : ndigB s i = false) : 48 ≤ byteI s i ∧ byteI s i ≤ 57 := by
  unfold ndigB at h
  simp only [Bool.or_eq_false_iff, decide_eq_false_iff_not] at h
  omega
theorem wrap_dig {n : Int} (h : 48 ≤ n) (h2 : n ≤ 57) : IntKind.i64.wrap (IntKind.u8.wrap (n - 48)) = n - 48 := by
  rw [IntKind.wrap_u8, IntKind.wrap_i64]; omega
theorem atoiV_bd (s : ByteArray) : -9223372036854775808 ≤ atoiV s ∧ atoiV s ≤ 9223372036854775807 := by
  unfold atoiV
  cases h : Lib.atoiAll s.data.toList with
  | range => simp only [Lib.atoiSat]; split <;> simp
  | ok v =>
    simp only []
    unfold Lib.atoiAll at h
    cases hl : s.data.toList with
    | nil => rw [hl] at h; simp at h
    | cons c r =>
      rw [hl] at h
      simp only [] at h
      split at h
      · cases h
      · cases h
      · split at h
        · cases h
        · split at h
          · cases h
          · rename_i g1 g2
            simp only [Lib.NumEnd.ok.injEq] at h
            split at h
            · rename_i g3; simp only [g3, true_and] at g2; omega
            · rename_i g3; simp only [g3, not_false_eq_true, true_and] at g1; omega
  | _ => simp
theorem rn_bad {s : ByteArray} (h : rbadS s = true) : (Value.tuple #[.int .i64 0, .bool false]) = .tuple #[.int .i64 (rnumI s), .bool (numB s)] := by
  rw [(rnum_bad h).1, (rnum_bad h).2]
theorem rn_no {s : ByteArray} {i : Int} (h : rbadS s = false) (h0 : 0 ≤ i) (h1 : i < ((digsS s).size : Int)) (hb : ndigB (digsS s) i = true) : (Value.tuple #[.int .i64 0, .bool false]) = .tuple #[.int .i64 (rnumI s), .bool (numB s)] := by
  rw [(rnum_no h h0 h1 hb).1, (rnum_no h h0 h1 hb).2]
theorem rn_neg {s : ByteArray} {i : Int} (h : rbadS s = false) (h1 : ((digsS s).size : Int) ≤ i) (hi : i ≤ ((digsS s).size : Int)) (hb : ∀ j : Nat, (j : Int) < i → ndigB (digsS s) j = false) (hm : minusB s = true) : (Value.tuple #[.int .i64 (-rvalN (digsS s) i.toNat), .bool true]) = .tuple #[.int .i64 (rnumI s), .bool (numB s)] := by
  rw [(rnum_yes h h1 hi hb).1, (rnum_yes h h1 hi hb).2, if_pos hm]
theorem rn_pos {s : ByteArray} {i : Int} (h : rbadS s = false) (h1 : ((digsS s).size : Int) ≤ i) (hi : i ≤ ((digsS s).size : Int)) (hb : ∀ j : Nat, (j : Int) < i → ndigB (digsS s) j = false) (hm : ¬ minusB s = true) : (Value.tuple #[.int .i64 (rvalN (digsS s) i.toNat), .bool true]) = .tuple #[.int .i64 (rnumI s), .bool (numB s)] := by
  rw [(rnum_yes h h1 hi hb).1, (rnum_yes h h1 hi hb).2, if_neg hm]
end Go.Stn

namespace Go.Proofs
open Go.Shelf
def Tryz.lays145_ren : Go.Shelf.Ren := ⟨fun | 145 => 41 | 220 => 78 | 219 => 120 | 217 => 139 | 225 => 140 | 224 => 141 | 267 => 142 | 266 => 155 | 314 => 156 | n => n, fun | 9 => 9 | 4 => 4 | 59 => 87 | 3 => 3 | 5 => 5 | 46 => 119 | 146 => 190 | 51 => 152 | n => n, fun | 1 => 1 | n => n⟩
theorem Tryz.lays145 : Go.Proofs.Lays.n145 Tryz.prog Tryz.lays145_ren := {
  mixed := by kernel_rfl
  f145 := Tryz.func41.trans (congrArg some (by kernel_rfl))
  f217 := Tryz.func139.trans (congrArg some (by kernel_rfl))
  f219 := Tryz.func120.trans (congrArg some (by kernel_rfl))
  f220 := Tryz.func78.trans (congrArg some (by kernel_rfl))
  f224 := Tryz.func141.trans (congrArg some (by kernel_rfl))
  f225 := Tryz.func140.trans (congrArg some (by kernel_rfl))
  f266 := Tryz.func155.trans (congrArg some (by kernel_rfl))
  f267 := Tryz.func142.trans (congrArg some (by kernel_rfl))
  f314 := Tryz.func156.trans (congrArg some (by kernel_rfl))
  t3 := Tryz.underlying3
  a3 := Tryz.isAgg3
  z3 := Tryz.sizeOf3
  v3 := Tryz.zeroValue3
  t4 := Tryz.underlying4
  a4 := Tryz.isAgg4
  z4 := Tryz.sizeOf4
  v4 := Tryz.zeroValue4
  t5 := Tryz.underlying5
  a5 := Tryz.isAgg5
  z5 := Tryz.sizeOf5
  v5 := Tryz.zeroValue5
  t9 := Tryz.underlying9
  a9 := Tryz.isAgg9
  z9 := Tryz.sizeOf9
  v9 := Tryz.zeroValue9
  t46 := Tryz.underlying119
  a46 := Tryz.isAgg119
  z46 := Tryz.sizeOf119
  v46 := Tryz.zeroValue119
  t51 := Tryz.underlying152
  a51 := Tryz.isAgg152
  z51 := Tryz.sizeOf152
  v51 := Tryz.zeroValue152
  t59 := Tryz.underlying87
  a59 := Tryz.isAgg87
  z59 := Tryz.sizeOf87
  v59 := Tryz.zeroValue87
  t146 := Tryz.underlying190
  a146 := Tryz.isAgg190
  z146 := Tryz.sizeOf190
  v146 := Tryz.zeroValue190
  g1 := by kernel_rfl }
def Tryz.lays146_ren : Go.Shelf.Ren := ⟨fun | 146 => 79 | 221 => 121 | 268 => 143 | 138 => 144 | 143 => 145 | 195 => 157 | 197 => 158 | 218 => 159 | 219 => 120 | 260 => 167 | 217 => 139 | 225 => 140 | 224 => 141 | 267 => 142 | 266 => 155 | 314 => 156 | n => n, fun | 9 => 9 | 31 => 93 | 3 => 3 | 4 => 4 | 0 => 0 | 105 => 193 | 21 => 21 | 5 => 5 | 46 => 119 | 119 => 209 | 139 => 212 | 138 => 211 | 146 => 190 | 51 => 152 | n => n, fun | 1 => 1 | 3 => 7 | 4 => 8 | n => n⟩
theorem Tryz.lays146 : Go.Proofs.Lays.n146 Tryz.prog Tryz.lays146_ren := {
  mixed := by kernel_rfl
  f138 := Tryz.func144.trans (congrArg some (by kernel_rfl))
  f143 := Tryz.func145.trans (congrArg some (by kernel_rfl))
  f146 := Tryz.func79.trans (congrArg some (by kernel_rfl))
  f195 := Tryz.func157.trans (congrArg some (by kernel_rfl))
  f197 := Tryz.func158.trans (congrArg some (by kernel_rfl))
  f217 := Tryz.func139.trans (congrArg some (by kernel_rfl))
  f218 := Tryz.func159.trans (congrArg some (by kernel_rfl))
  f219 := Tryz.func120.trans (congrArg some (by kernel_rfl))
  f221 := Tryz.func121.trans (congrArg some (by kernel_rfl))
  f224 := Tryz.func141.trans (congrArg some (by kernel_rfl))
  f225 := Tryz.func140.trans (congrArg some (by kernel_rfl))
  f260 := Tryz.func167.trans (congrArg some (by kernel_rfl))
  f266 := Tryz.func155.trans (congrArg some (by kernel_rfl))
  f267 := Tryz.func142.trans (congrArg some (by kernel_rfl))
  f268 := Tryz.func143.trans (congrArg some (by kernel_rfl))
  f314 := Tryz.func156.trans (congrArg some (by kernel_rfl))
  t0 := Tryz.underlying0
  a0 := Tryz.isAgg0
  z0 := Tryz.sizeOf0
  v0 := Tryz.zeroValue0
  t3 := Tryz.underlying3
  a3 := Tryz.isAgg3
  z3 := Tryz.sizeOf3
  v3 := Tryz.zeroValue3
  t4 := Tryz.underlying4
  a4 := Tryz.isAgg4
  z4 := Tryz.sizeOf4
  v4 := Tryz.zeroValue4
  t5 := Tryz.underlying5
  a5 := Tryz.isAgg5
  z5 := Tryz.sizeOf5
  v5 := Tryz.zeroValue5
  t9 := Tryz.underlying9
  a9 := Tryz.isAgg9
  z9 := Tryz.sizeOf9
  v9 := Tryz.zeroValue9
  t21 := Tryz.underlying21
  a21 := Tryz.isAgg21
  z21 := Tryz.sizeOf21
  v21 := Tryz.zeroValue21
  t31 := Tryz.underlying93
  a31 := Tryz.isAgg93
  z31 := Tryz.sizeOf93
  v31 := Tryz.zeroValue93
  t46 := Tryz.underlying119
  a46 := Tryz.isAgg119
  z46 := Tryz.sizeOf119
  v46 := Tryz.zeroValue119
  t51 := Tryz.underlying152
  a51 := Tryz.isAgg152
  z51 := Tryz.sizeOf152
  v51 := Tryz.zeroValue152
  t105 := Tryz.underlying193
  a105 := Tryz.isAgg193
  z105 := Tryz.sizeOf193
  v105 := Tryz.zeroValue193
  t119 := Tryz.underlying209
  a119 := Tryz.isAgg209
  z119 := Tryz.sizeOf209
  t138 := Tryz.underlying211
  a138 := Tryz.isAgg211
  z138 := Tryz.sizeOf211
  v138 := Tryz.zeroValue211
  t139 := Tryz.underlying212
  a139 := Tryz.isAgg212
  z139 := Tryz.sizeOf212
  v139 := Tryz.zeroValue212
  t146 := Tryz.underlying190
  a146 := Tryz.isAgg190
  z146 := Tryz.sizeOf190
  v146 := Tryz.zeroValue190
  g1 := by kernel_rfl
  g3 := by kernel_rfl
  g4 := by kernel_rfl }
def Tryz.laysC172_ren : Go.Shelf.Ren := ⟨fun | 172 => 122 | 244 => 146 | 245 => 147 | 247 => 160 | 279 => 161 | 280 => 162 | 281 => 163 | 282 => 164 | 287 => 168 | 316 => 169 | 171 => 27 | 205 => 170 | 321 => 171 | 322 => 172 | 243 => 64 | 246 => 99 | 283 => 127 | 284 => 128 | 285 => 129 | 286 => 130 | 129 => 109 | 317 => 149 | 318 => 150 | 319 => 151 | 320 => 152 | 337 => 165 | 338 => 166 | n => n, fun | 9 => 9 | 3 => 3 | 75 => 68 | 76 => 69 | 4 => 4 | 5 => 5 | 167 => 195 | 37 => 64 | 0 => 0 | 85 => 196 | 2 => 2 | 168 => 198 | 53 => 154 | 175 => 201 | 46 => 119 | 210 => 205 | 127 => 115 | 145 => 216 | 143 => 214 | 21 => 21 | 171 => 165 | 173 => 167 | 212 => 184 | 51 => 152 | 20 => 20 | 213 => 185 | 232 => 207 | 233 => 208 | 80 => 73 | n => n, fun | 15 => 3 | 16 => 4 | 17 => 2 | 18 => 5 | 19 => 6 | n => n⟩
theorem Tryz.laysC172 : Go.Proofs.LaysC.n172 Tryz.prog Tryz.laysC172_ren := {
  mixed := by kernel_rfl
  f129 := Tryz.func109.trans (congrArg some (by kernel_rfl))
  f171 := Tryz.func27.trans (congrArg some (by kernel_rfl))
  f172 := Tryz.func122.trans (congrArg some (by kernel_rfl))
  f205 := Tryz.func170.trans (congrArg some (by kernel_rfl))
  f243 := Tryz.func64.trans (congrArg some (by kernel_rfl))
  f244 := Tryz.func146.trans (congrArg some (by kernel_rfl))
  f245 := Tryz.func147.trans (congrArg some (by kernel_rfl))
  f246 := Tryz.func99.trans (congrArg some (by kernel_rfl))
  f247 := Tryz.func160.trans (congrArg some (by kernel_rfl))
  f279 := Tryz.func161.trans (congrArg some (by kernel_rfl))
  f280 := Tryz.func162.trans (congrArg some (by kernel_rfl))
  f281 := Tryz.func163.trans (congrArg some (by kernel_rfl))
  f282 := Tryz.func164.trans (congrArg some (by kernel_rfl))
  f283 := Tryz.func127.trans (congrArg some (by kernel_rfl))
  f284 := Tryz.func128.trans (congrArg some (by kernel_rfl))
  f285 := Tryz.func129.trans (congrArg some (by kernel_rfl))
  f286 := Tryz.func130.trans (congrArg some (by kernel_rfl))
  f287 := Tryz.func168.trans (congrArg some (by kernel_rfl))
  f316 := Tryz.func169.trans (congrArg some (by kernel_rfl))
  f317 := Tryz.func149.trans (congrArg some (by kernel_rfl))
  f318 := Tryz.func150.trans (congrArg some (by kernel_rfl))
  f319 := Tryz.func151.trans (congrArg some (by kernel_rfl))
  f320 := Tryz.func152.trans (congrArg some (by kernel_rfl))
  f321 := Tryz.func171.trans (congrArg some (by kernel_rfl))
  f322 := Tryz.func172.trans (congrArg some (by kernel_rfl))
  f337 := Tryz.func165.trans (congrArg some (by kernel_rfl))
  f338 := Tryz.func166.trans (congrArg some (by kernel_rfl))
  t0 := Tryz.underlying0
  a0 := Tryz.isAgg0
  z0 := Tryz.sizeOf0
  v0 := Tryz.zeroValue0
  t2 := Tryz.underlying2
  a2 := Tryz.isAgg2
  z2 := Tryz.sizeOf2
  v2 := Tryz.zeroValue2
  t3 := Tryz.underlying3
  a3 := Tryz.isAgg3
  z3 := Tryz.sizeOf3
  v3 := Tryz.zeroValue3
  t4 := Tryz.underlying4
  a4 := Tryz.isAgg4
  z4 := Tryz.sizeOf4
  v4 := Tryz.zeroValue4
  t5 := Tryz.underlying5
  a5 := Tryz.isAgg5
  z5 := Tryz.sizeOf5
  v5 := Tryz.zeroValue5
  t9 := Tryz.underlying9
  a9 := Tryz.isAgg9
  z9 := Tryz.sizeOf9
  v9 := Tryz.zeroValue9
  t20 := Tryz.underlying20
  a20 := Tryz.isAgg20
  z20 := Tryz.sizeOf20
  v20 := Tryz.zeroValue20
  t21 := Tryz.underlying21
  a21 := Tryz.isAgg21
  z21 := Tryz.sizeOf21
  v21 := Tryz.zeroValue21
  t37 := Tryz.underlying64
  a37 := Tryz.isAgg64
  z37 := Tryz.sizeOf64
  v37 := Tryz.zeroValue64
  t46 := Tryz.underlying119
  a46 := Tryz.isAgg119
  z46 := Tryz.sizeOf119
  v46 := Tryz.zeroValue119
  t51 := Tryz.underlying152
  a51 := Tryz.isAgg152
  z51 := Tryz.sizeOf152
  v51 := Tryz.zeroValue152
  t53 := Tryz.underlying154
  a53 := Tryz.isAgg154
  z53 := Tryz.sizeOf154
  v53 := Tryz.zeroValue154
  t75 := Tryz.underlying68
  a75 := Tryz.isAgg68
  z75 := Tryz.sizeOf68
  v75 := Tryz.zeroValue68
  t76 := Tryz.underlying69
  a76 := Tryz.isAgg69
  z76 := Tryz.sizeOf69
  v76 := Tryz.zeroValue69
  t85 := Tryz.underlying196
  a85 := Tryz.isAgg196
  z85 := Tryz.sizeOf196
  v85 := Tryz.zeroValue196
  t127 := Tryz.underlying115
  a127 := Tryz.isAgg115
  z127 := Tryz.sizeOf115
  v127 := Tryz.zeroValue115
  t143 := Tryz.underlying214
  a143 := Tryz.isAgg214
  z143 := Tryz.sizeOf214
  v143 := Tryz.zeroValue214
  t145 := Tryz.underlying216
  a145 := Tryz.isAgg216
  z145 := Tryz.sizeOf216
  v145 := Tryz.zeroValue216
  t167 := Tryz.underlying195
  a167 := Tryz.isAgg195
  z167 := Tryz.sizeOf195
  v167 := Tryz.zeroValue195
  t168 := Tryz.underlying198
  a168 := Tryz.isAgg198
  z168 := Tryz.sizeOf198
  v168 := Tryz.zeroValue198
  t171 := Tryz.underlying165
  a171 := Tryz.isAgg165
  z171 := Tryz.sizeOf165
  v171 := Tryz.zeroValue165
  t173 := Tryz.underlying167
  a173 := Tryz.isAgg167
  z173 := Tryz.sizeOf167
  v173 := Tryz.zeroValue167
  t175 := Tryz.underlying201
  a175 := Tryz.isAgg201
  z175 := Tryz.sizeOf201
  v175 := Tryz.zeroValue201
  t210 := Tryz.underlying205
  a210 := Tryz.isAgg205
  z210 := Tryz.sizeOf205
  v210 := Tryz.zeroValue205
  t212 := Tryz.underlying184
  a212 := Tryz.isAgg184
  z212 := Tryz.sizeOf184
  v212 := Tryz.zeroValue184
  t213 := Tryz.underlying185
  a213 := Tryz.isAgg185
  z213 := Tryz.sizeOf185
  t232 := Tryz.underlying207
  a232 := Tryz.isAgg207
  z232 := Tryz.sizeOf207
  v232 := Tryz.zeroValue207
  t233 := Tryz.underlying208
  a233 := Tryz.isAgg208
  z233 := Tryz.sizeOf208
  v233 := Tryz.zeroValue208
  g15 := by kernel_rfl
  g16 := by kernel_rfl
  g17 := by kernel_rfl
  g18 := by kernel_rfl
  g19 := by kernel_rfl
  t80 := Tryz.underlying73
  a80 := Tryz.isAgg73
  z80 := Tryz.sizeOf73
  v80 := Tryz.zeroValue73
  i0 := by kernel_rfl
  i2 := by kernel_rfl
  i3 := by kernel_rfl
  i4 := by kernel_rfl
  i5 := by kernel_rfl
  i9 := by kernel_rfl
  i20 := by kernel_rfl
  i21 := by kernel_rfl
  i37 := by kernel_rfl
  i46 := by kernel_rfl
  i51 := by kernel_rfl
  i53 := by kernel_rfl
  i75 := by kernel_rfl
  i76 := by kernel_rfl
  i80 := by kernel_rfl
  i85 := by kernel_rfl
  i127 := by kernel_rfl
  i143 := by kernel_rfl
  i145 := by kernel_rfl
  i167 := by kernel_rfl
  i168 := by kernel_rfl
  i171 := by kernel_rfl
  i173 := by kernel_rfl
  i175 := by kernel_rfl
  i210 := by kernel_rfl
  i212 := by kernel_rfl
  i232 := by kernel_rfl
  i233 := by kernel_rfl
  m15 := by kernel_rfl
  m16 := by kernel_rfl
  m17 := by kernel_rfl
  m18 := by kernel_rfl
  m19 := by kernel_rfl
  c0 := by kernel_rfl
  c2 := by kernel_rfl
  c3 := by kernel_rfl
  c4 := by kernel_rfl
  c5 := by kernel_rfl
  c9 := by kernel_rfl
  c20 := by kernel_rfl
  c21 := by kernel_rfl
  c37 := by kernel_rfl
  c46 := by kernel_rfl
  c51 := by kernel_rfl
  c53 := by kernel_rfl
  c75 := by kernel_rfl
  c76 := by kernel_rfl
  c80 := by kernel_rfl
  c85 := by kernel_rfl
  c127 := by kernel_rfl
  c143 := by kernel_rfl
  c145 := by kernel_rfl
  c167 := by kernel_rfl
  c168 := by kernel_rfl
  c171 := by kernel_rfl
  c173 := by kernel_rfl
  c175 := by kernel_rfl
  c210 := by kernel_rfl
  c212 := by kernel_rfl
  c213 := by kernel_rfl
  c232 := by kernel_rfl
  c233 := by kernel_rfl }
end Go.Proofs

namespace Go.Proofs.YtmpaebfjnjmmlaaGreatDoor
open Go.K Go.Stn Go.RowKit
theorem en122 : En Tryz.prog 122 := en_of Tryz.func122 (by kernel_rfl) (by kernel_rfl)
theorem cut_c (s sep : ByteArray) (w : World) (hs : s.size < 4294967281) (hm : Has w (IntV 1)) : Calls Tryz.prog 41 #[.string s, .string sep] w (Pure (cutV s sep) w) := cut_pure Tryz.lays145 s sep w hs hm
theorem split_c (s : ByteArray) (c : UInt8) (w : World) (hs : s.size < 4294967281) (hm : Has w (IntV 1)) : Calls Tryz.prog 79 #[.string s, .string ⟨#[c]⟩] w (Gives (fun b : Nat => .slice (some ⟨b, 0, none⟩) (splitL s c).length (splitL s c).length) (fun b => Row (some ⟨b, 0, none⟩) 1 (splitL s c).length 9 encS (splitL s c)) w) := split_gives Tryz.lays146 (by kernel_rfl) s c w hs hm
theorem atoi_c (s : ByteArray) (w : World) (hs : s.size ≤ 281474976710656) (h3 : Has w (ErrV 3)) (h4 : Has w (ErrV 4)) : Calls Tryz.prog 122 #[.string s] w (Gives (fun v : {v : Value // (v = .nilIface ∨ ∃ u z, v = .iface u z) ∧ isNilI v = atoiB s} => .tuple #[.int .i64 (atoiV s), v.1]) (fun _ => Emp) w) := atoi_gives Tryz.laysC172 s w hs h3 h4
set_option maxRecDepth 100000 in
set_option maxHeartbeats 1000000 in
theorem number_c (s : ByteArray) (w : World) (hsz : s.size ≤ 281474976710656) (he3 : Has w (ErrV 3)) (he4 : Has w (ErrV 4)) (hp10 : Has w (VarR 2 pow10V)) :
    Calls Tryz.prog 80 #[.string s] w (Pure (.tuple #[.int .i64 (numI s), .bool (numB s)]) w) := by
  refine calls_of_gk (vs := [_]) Tryz.func80 rfl rfl (Nat.le_of_ble_eq_true rfl) ?_
  refine gk_seq ?_
  refine gk_region ?_
  refine gk_y rfl rfl (y_assign rfl) ?_
  refine gk_y rfl rfl (y_assign rfl) ?_
  refine gk_nil (gk_sub (T' := [(0,_), (2,_), (3,_)]) ⟨rfl, rfl, rfl, trivial⟩ ?_)
  refine gk_seq ?_
  refine gk_region ?_
  refine gk_y rfl rfl (y_move rfl) ?_
  refine gk_yx rfl rfl (yx_call en122 rfl (fun w hw => atoi_c _ w (by omega) (Rd.has (Has.rd he3) hw) (Rd.has (Has.rd he4) hw))) fun p8 => ?_
  refine gk_y rfl rfl (y_move rfl) ?_
  refine gk_y rfl rfl (y_extract rfl rfl) ?_
  refine gk_y rfl rfl (y_extract rfl rfl) ?_
  refine gk_y rfl rfl (y_assign rfl) ?_
  refine gk_y rfl rfl (y_assign rfl) ?_
  refine gk_nil (gk_sub (T' := [(0,_), (2,_), (3,_), (4,_), (5,_)]) ⟨rfl, rfl, rfl, rfl, rfl, trivial⟩ ?_)
  refine gk_seq ?_
  refine gk_any 16 (fun _ => mixed) (by kernel_rfl) ?_
  refine ph_y (y_move rfl) ?_
  refine ph_y (y_move rfl) ?_
  refine ph_y (y_ifaceNil (by kernel_rfl) rfl p8.2.1) ?_
  refine ph_y (y_move rfl) ?_
  refine ph_gT rfl rfl (fun hgd => by (try rw [hgd]); exact (y_move rfl)) ?_
  refine ph_gT rfl rfl (fun hgd => by (try rw [hgd]); exact (y_lenStr (Tryz.underlying9) rfl)) ?_
  refine ph_gT rfl rfl (fun hgd => by (try rw [hgd]); exact (y_leq rfl rfl)) ?_
  refine ph_y (y_pickAnd rfl rfl rfl) ?_
  refine ph_y (y_move rfl) ?_
  refine ph_gT rfl rfl (fun hgd => by (try rw [hgd]); exact (y_move rfl)) ?_
  refine ph_gT rfl rfl (fun hgd => by (try rw [hgd]); exact (y_call (v := .string (itoaB (atoiV s))) en27 rfl (fun w hw => itoa_c (atoiV s) w (Rd.has (Has.rd hp10) hw) (atoiV_bd s).1 (atoiV_bd s).2))) ?_
  refine ph_gT rfl rfl (fun hgd => by (try rw [hgd]); exact (y_move rfl)) ?_
  refine ph_gT rfl rfl (fun hgd => by (try rw [hgd]); exact (y_strEq rfl rfl)) ?_
  refine ph_y (y_pickAnd rfl rfl rfl) ?_
  refine ph_y (y_assign rfl) ?_
  refine ph_y (y_assign rfl) ?_
  refine gk_nil (gk_sub (T' := [(2,_), (3,_)]) ⟨rfl, rfl, trivial⟩ ?_)
  refine gk_ret ?_
  refine gk_pure (rv_two rfl (r1_tmp rfl) (r1_tmp rfl)) ?_
  rw [numB_eq, p8.2.2]; rfl
set_option maxRecDepth 100000 in
set_option maxHeartbeats 1000000 in
theorem rnumber_c (s : ByteArray) (w : World) (_hsz : s.size ≤ 281474976710656) :
    Calls Tryz.prog 82 #[.string s] w (Pure (.tuple #[.int .i64 (rnumI s), .bool (numB s)]) w) := by
  refine calls_of_gk (vs := [_]) Tryz.func82 rfl rfl (Nat.le_of_ble_eq_true rfl) ?_
  refine gk_seq ?_
  refine gk_region ?_
  refine gk_y rfl rfl (y_assign rfl) ?_
  refine gk_y rfl rfl (y_assign rfl) ?_
  refine gk_nil (gk_sub (T' := [(0,_), (2,_), (3,_)]) ⟨rfl, rfl, rfl, trivial⟩ ?_)
  refine gk_seq ?_
  refine gk_any 8 (fun _ => mixed) (by kernel_rfl) ?_
  refine ph_y (y_move rfl) ?_
  refine ph_y (y_strNe rfl rfl) ?_
  refine ph_y (y_move rfl) ?_
  refine ph_gT rfl rfl (fun hgd => by (try rw [hgd]); exact (y_move rfl)) ?_
  refine ph_gT rfl rfl (fun hgd => by (try rw [hgd]); exact (y_strIndex (Tryz.underlying9) rfl rfl (by omega) (str_pos (by simpa using hgd)))) ?_
  refine ph_gT rfl rfl (fun hgd => by (try rw [hgd]); exact (y_eql rfl rfl)) ?_
  refine ph_y (y_pickAnd rfl rfl rfl) ?_
  refine ph_y (y_assign rfl) ?_
  refine gk_nil (gk_sub (T' := [(0,_), (2,_), (3,_), (4,_)]) ⟨rfl, rfl, rfl, rfl, trivial⟩ ?_)
  refine gk_sub (T' := [(0,_), (2,_), (3,_), (4, .bool (minusB s))]) ⟨rfl, rfl, rfl, (by rfl), trivial⟩ ?_
  refine gk_seq ?_
  refine gk_region ?_
  refine gk_y rfl rfl (y_move rfl) ?_
  refine gk_y rfl rfl (y_assign rfl) ?_
  refine gk_nil (gk_sub (T' := [(0,_), (2,_), (3,_), (4,_), (5,_)]) ⟨rfl, rfl, rfl, rfl, rfl, trivial⟩ ?_)
  refine gk_seq ?_
  refine gk_seq ?_
  refine gk_region ?_
  refine gk_y rfl rfl (y_move rfl) ?_
  refine gk_nil (gk_sub (T' := [(0,_), (2,_), (3,_), (4,_), (5,_), (16,_)]) ⟨rfl, rfl, rfl, rfl, rfl, rfl, trivial⟩ ?_)
  refine gk_cond rfl (fun hc16 => ?_) (fun hc16 => ?_)
  · have hm : minusB s = true := hc16
    have hp1 := minus_pos hm
    refine gk_region ?_
    refine gk_y rfl rfl (y_move rfl) ?_
    refine gk_y rfl rfl (y_strSliceL (Tryz.underlying9) rfl rfl (by omega) hp1) ?_
    refine gk_y rfl rfl (y_assign rfl) ?_
    refine gk_nil (gk_sub (T' := [(0,_), (2,_), (3,_), (4,_), (5,_)]) ⟨rfl, rfl, rfl, rfl, rfl, trivial⟩ ?_)
    refine gk_sub (T' := [(0,_), (2,_), (3,_), (4,_), (5, .string (digsS s))]) ⟨rfl, rfl, rfl, rfl, (by unfold digsS; rw [if_pos hm]; rfl), trivial⟩ ?_
    refine gk_seq ?_
    refine gk_seq ?_
    refine gk_any 20 (fun _ => mixed) (by kernel_rfl) ?_
    refine ph_y (y_move rfl) ?_
    refine ph_y (y_lenStr (Tryz.underlying9) rfl) ?_
    refine ph_y (y_gtr rfl rfl) ?_
    refine ph_y (y_move rfl) ?_
    refine ph_gF rfl rfl (fun hgd => by (try rw [hgd]); exact (y_move rfl)) ?_
    refine ph_gF rfl rfl (fun hgd => by (try rw [hgd]); exact (y_strEq rfl rfl)) ?_
    refine ph_y (y_pickOr rfl rfl rfl) ?_
    refine ph_y (y_move rfl) ?_
    refine ph_gF rfl rfl (fun hgd => by (try rw [hgd]); exact (y_move rfl)) ?_
    refine ph_gF rfl rfl (fun hgd => by (try rw [hgd]); exact (y_strIndex (Tryz.underlying9) rfl rfl (by omega) (str_pos (digs_ne hgd)))) ?_
    refine ph_gF rfl rfl (fun hgd => by (try rw [hgd]); exact (y_eql rfl rfl)) ?_
    refine ph_gF rfl rfl (fun hgd => by (try rw [hgd]); exact (y_move rfl)) ?_
    refine ph_gTT rfl rfl (fun hgd => by (try rw [hgd]); exact (y_move rfl)) ?_
    refine ph_gTT rfl rfl (fun hgd => by (try rw [hgd]); exact (y_lenStr (Tryz.underlying9) rfl)) ?_
    refine ph_gTT rfl rfl (fun hgd => by (try rw [hgd]); exact (y_gtr rfl rfl)) ?_
    refine ph_gTT rfl rfl (fun hgd => by (try rw [hgd]); exact (y_move rfl)) ?_
    refine ph_gTF rfl rfl (fun hgd => by (try rw [hgd]); exact (y_move rfl)) ?_
    refine ph_gTT rfl rfl (fun hgd => by (try rw [hgd]); exact (y_pickOr rfl rfl rfl)) ?_
    refine ph_gF rfl rfl (fun hgd => by (try rw [hgd]); exact (y_pickAnd rfl rfl rfl)) ?_
    refine ph_y (y_pickOr rfl rfl rfl) ?_
    refine gk_nil (gk_sub (T' := [(2,_), (3,_), (4,_), (5,_), (38,_)]) ⟨rfl, rfl, rfl, rfl, rfl, trivial⟩ ?_)
    refine gk_cond rfl (fun hc38 => ?_) (fun hc38 => ?_)
    · have hB : rbadS s = true := hc38
      refine gk_seq ?_
      refine gk_region ?_
      refine gk_y rfl rfl (y_assign rfl) ?_
      refine gk_y rfl rfl (y_assign rfl) ?_
      refine gk_nil (gk_sub (T' := [(2,_), (3,_), (4,_), (5,_)]) ⟨rfl, rfl, rfl, rfl, trivial⟩ ?_)
      refine gk_ret ?_
      refine gk_pure (rv_two rfl (r1_tmp rfl) (r1_tmp rfl)) ?_
      exact rn_bad hB
    · have hB : rbadS s = false := hc38
      have hB6 := rnum_size hB
      refine gk_skip ?_
      refine gk_seq ?_
      refine gk_region ?_
      refine gk_y rfl rfl (y_assign rfl) ?_
      refine gk_nil (gk_sub (T' := [(2,_), (3,_), (4,_), (5,_), (6,_)]) ⟨rfl, rfl, rfl, rfl, rfl, trivial⟩ ?_)
      refine gk_seq ?_
      refine gk_seq ?_
      refine gk_region ?_
      refine gk_y rfl rfl (y_assign rfl) ?_
      refine gk_nil (gk_sub (T' := [(2,_), (3,_), (4,_), (5,_), (6,_), (7,_)]) ⟨rfl, rfl, rfl, rfl, rfl, rfl, trivial⟩ ?_)
      refine gk_block ?_
      refine gk_loop (X := Int) (fun (i : Int) => [(2, .int .i64 0), (3, .bool false), (4, .bool (minusB s)), (5, .string (digsS s)), (6, .int .i64 (rvalN (digsS s) i.toNat)), (7, .int .i64 i)]) (fun (i : Int) => []) (fun (i : Int) => (0 ≤ i ∧ i ≤ (digsS s).size ∧ ∀ j : Nat, (j : Int) < i → ndigB (digsS s) j = false)) (fun (i : Int) => ((digsS s).size - i).toNat) 0 ⟨rfl, rfl, rfl, rfl, rfl, rfl, trivial⟩ rfl ?_ ?_
      · exact ⟨by omega, by omega, fun j hj => by omega⟩
      · rintro i hI
        obtain ⟨g0, g1, g2⟩ := hI
        refine gk_seq ?_
        refine gk_seq ?_
        refine gk_region ?_
        refine gk_y rfl rfl (y_move rfl) ?_
        refine gk_y rfl rfl (y_move rfl) ?_
        refine gk_y rfl rfl (y_lenStr (Tryz.underlying9) rfl) ?_
        refine gk_y rfl rfl (y_lss rfl rfl) ?_
        refine gk_nil (gk_sub (T' := [(2,_), (3,_), (4,_), (5,_), (6,_), (7,_), (42,_)]) ⟨rfl, rfl, rfl, rfl, rfl, rfl, rfl, trivial⟩ ?_)
        refine gk_cond rfl (fun hc42 => ?_) (fun hc42 => ?_)
        · have hc42 := of_decide_eq_true hc42
          refine gk_skip ?_
          refine gk_seq ?_
          refine gk_block ?_
          refine gk_seq ?_
          refine gk_seq ?_
          refine gk_any 10 (fun _ => mixed) (by kernel_rfl) ?_
          refine ph_y (y_move rfl) ?_
          refine ph_y (y_move rfl) ?_
          refine ph_y (y_strIndex (Tryz.underlying9) rfl rfl (by omega) (by omega)) ?_
          refine ph_y (y_lss rfl rfl) ?_
          refine ph_y (y_move rfl) ?_
          refine ph_gF rfl rfl (fun hgd => by (try rw [hgd]); exact (y_move rfl)) ?_
          refine ph_gF rfl rfl (fun hgd => by (try rw [hgd]); exact (y_move rfl)) ?_
          refine ph_gF rfl rfl (fun hgd => by (try rw [hgd]); exact (y_strIndex (Tryz.underlying9) rfl rfl (by omega) (by omega))) ?_
          refine ph_gF rfl rfl (fun hgd => by (try rw [hgd]); exact (y_gtr rfl rfl)) ?_
          refine ph_y (y_pickOr rfl rfl rfl) ?_
          refine gk_nil (gk_sub (T' := [(2,_), (3,_), (4,_), (5,_), (6,_), (7,_), (54,_)]) ⟨rfl, rfl, rfl, rfl, rfl, rfl, rfl, trivial⟩ ?_)
          refine gk_cond rfl (fun hc54 => ?_) (fun hc54 => ?_)
          · have hb : ndigB (digsS s) i = true := hc54
            refine gk_seq ?_
            refine gk_region ?_
            refine gk_y rfl rfl (y_assign rfl) ?_
            refine gk_y rfl rfl (y_assign rfl) ?_
            refine gk_nil (gk_sub (T' := [(2,_), (3,_), (4,_), (5,_), (6,_), (7,_)]) ⟨rfl, rfl, rfl, rfl, rfl, rfl, trivial⟩ ?_)
            refine gk_ret ?_
            refine gk_pure (rv_two rfl (r1_tmp rfl) (r1_tmp rfl)) ?_
            exact rn_no hB g0 hc42 hb
          · have hb : ndigB (digsS s) i = false := hc54
            have hlo := (ndig_no hb).1
            have hhi := (ndig_no hb).2
            have hwr : IntKind.i64.wrap (IntKind.u8.wrap (byteI (digsS s) i - 48)) = byteI (digsS s) i - 48 := wrap_dig hlo hhi
            have hvl := rvalN_lt g0 g1 (by omega) g2
            refine gk_skip ?_
            refine gk_region ?_
            refine gk_y rfl rfl (y_move rfl) ?_
            refine gk_y rfl rfl (y_mul rfl rfl) ?_
            refine gk_y rfl rfl (y_move rfl) ?_
            refine gk_y rfl rfl (y_move rfl) ?_
            refine gk_y rfl rfl (y_strIndex (Tryz.underlying9) rfl rfl (by omega) (by omega)) ?_
            refine gk_y rfl rfl (y_sub rfl rfl) ?_
            refine gk_y rfl rfl (y_convInt (by kernel_rfl) (Tryz.underlying3) rfl) ?_
            refine gk_y rfl rfl (y_add rfl rfl) ?_
            refine gk_y rfl rfl (y_assign rfl) ?_
            refine gk_nil (gk_sub (T' := [(2,_), (3,_), (4,_), (5,_), (6,_), (7,_)]) ⟨rfl, rfl, rfl, rfl, rfl, rfl, trivial⟩ ?_)
            refine gk_sub (T' := [(2,_), (3,_), (4,_), (5,_), (6, .int .i64 (rvalN (digsS s) (i + 1).toNat)), (7,_)]) ⟨rfl, rfl, rfl, rfl, (by rw [rvalN_succ g0 hc42 hlo]; show some (Value.int .i64 (IntKind.i64.wrap (IntKind.i64.wrap (10 * rvalN (digsS s) i.toNat) + IntKind.i64.wrap (IntKind.u8.wrap (byteI (digsS s) i - 48))))) = some _; rw [hwr, wrap64_in (n := 10 * rvalN (digsS s) i.toNat) (by omega) (by omega), wrap64_in (by omega) (by omega)]), rfl, trivial⟩ ?_
            refine gk_region ?_
            refine gk_y rfl rfl (y_move rfl) ?_
            refine gk_y rfl rfl (y_addI rfl rfl (by omega) (by omega)) ?_
            refine gk_y rfl rfl (y_assign rfl) ?_
            refine gk_nil (gk_sub (T' := [(2,_), (3,_), (4,_), (5,_), (6,_), (7,_)]) ⟨rfl, rfl, rfl, rfl, rfl, rfl, trivial⟩ ?_)
            exact gk_next (i + 1) ⟨rfl, rfl, rfl, rfl, rfl, rfl, trivial⟩ rfl ⟨by omega, by omega, below_nat g0 g2 hb⟩ (by omega)
        · have hc42 := of_decide_eq_false hc42
          have hvl := rvalN_lt g0 g1 (by omega) g2
          refine gk_exit rfl ?_
          refine gk_seq ?_
          refine gk_seq ?_
          refine gk_region ?_
          refine gk_y rfl rfl (y_move rfl) ?_
          refine gk_nil (gk_sub (T' := [(2,_), (3,_), (6,_), (63,_)]) ⟨rfl, rfl, rfl, rfl, trivial⟩ ?_)
          refine gk_cond rfl (fun hc63 => ?_) (fun hc63 => ?_)
          · have hm2 : minusB s = true := hc63
            refine gk_region ?_
            refine gk_y rfl rfl (y_move rfl) ?_
            refine gk_y rfl rfl (y_negI rfl (by omega) (by omega)) ?_
            refine gk_y rfl rfl (y_assign rfl) ?_
            refine gk_nil (gk_sub (T' := [(2,_), (3,_), (6,_)]) ⟨rfl, rfl, rfl, trivial⟩ ?_)
            refine gk_seq ?_
            refine gk_region ?_
            refine gk_y rfl rfl (y_move rfl) ?_
            refine gk_y rfl rfl (y_assign rfl) ?_
            refine gk_y rfl rfl (y_assign rfl) ?_
            refine gk_nil (gk_sub (T' := [(2,_), (3,_)]) ⟨rfl, rfl, trivial⟩ ?_)
            refine gk_ret ?_
            refine gk_pure (rv_two rfl (r1_tmp rfl) (r1_tmp rfl)) ?_
            exact rn_neg hB (by omega) g1 g2 hm2
          · have hm2 : ¬ minusB s = true := by rw [hc63]; simp
            refine gk_skip ?_
            refine gk_seq ?_
            refine gk_region ?_
            refine gk_y rfl rfl (y_move rfl) ?_
            refine gk_y rfl rfl (y_assign rfl) ?_
            refine gk_y rfl rfl (y_assign rfl) ?_
            refine gk_nil (gk_sub (T' := [(2,_), (3,_)]) ⟨rfl, rfl, trivial⟩ ?_)
            refine gk_ret ?_
            refine gk_pure (rv_two rfl (r1_tmp rfl) (r1_tmp rfl)) ?_
            exact rn_pos hB (by omega) g1 g2 hm2
  · have hm : ¬ minusB s = true := by rw [hc16]; simp
    refine gk_sub (T' := [(0,_), (2,_), (3,_), (4,_), (5, .string (digsS s)), (16,_)]) ⟨rfl, rfl, rfl, rfl, (by unfold digsS; rw [if_neg hm]; rfl), rfl, trivial⟩ ?_
    refine gk_skip ?_
    refine gk_seq ?_
    refine gk_seq ?_
    refine gk_any 20 (fun _ => mixed) (by kernel_rfl) ?_
    refine ph_y (y_move rfl) ?_
    refine ph_y (y_lenStr (Tryz.underlying9) rfl) ?_
    refine ph_y (y_gtr rfl rfl) ?_
    refine ph_y (y_move rfl) ?_
    refine ph_gF rfl rfl (fun hgd => by (try rw [hgd]); exact (y_move rfl)) ?_
    refine ph_gF rfl rfl (fun hgd => by (try rw [hgd]); exact (y_strEq rfl rfl)) ?_
    refine ph_y (y_pickOr rfl rfl rfl) ?_
    refine ph_y (y_move rfl) ?_
    refine ph_gF rfl rfl (fun hgd => by (try rw [hgd]); exact (y_move rfl)) ?_
    refine ph_gF rfl rfl (fun hgd => by (try rw [hgd]); exact (y_strIndex (Tryz.underlying9) rfl rfl (by omega) (str_pos (digs_ne hgd)))) ?_
    refine ph_gF rfl rfl (fun hgd => by (try rw [hgd]); exact (y_eql rfl rfl)) ?_
    refine ph_gF rfl rfl (fun hgd => by (try rw [hgd]); exact (y_move rfl)) ?_
    refine ph_gTT rfl rfl (fun hgd => by (try rw [hgd]); exact (y_move rfl)) ?_
    refine ph_gTT rfl rfl (fun hgd => by (try rw [hgd]); exact (y_lenStr (Tryz.underlying9) rfl)) ?_
    refine ph_gTT rfl rfl (fun hgd => by (try rw [hgd]); exact (y_gtr rfl rfl)) ?_
    refine ph_gTT rfl rfl (fun hgd => by (try rw [hgd]); exact (y_move rfl)) ?_
    refine ph_gTF rfl rfl (fun hgd => by (try rw [hgd]); exact (y_move rfl)) ?_
    refine ph_gTT rfl rfl (fun hgd => by (try rw [hgd]); exact (y_pickOr rfl rfl rfl)) ?_
    refine ph_gF rfl rfl (fun hgd => by (try rw [hgd]); exact (y_pickAnd rfl rfl rfl)) ?_
    refine ph_y (y_pickOr rfl rfl rfl) ?_
    refine gk_nil (gk_sub (T' := [(2,_), (3,_), (4,_), (5,_), (38,_)]) ⟨rfl, rfl, rfl, rfl, rfl, trivial⟩ ?_)
    refine gk_cond rfl (fun hc38 => ?_) (fun hc38 => ?_)
    · have hB : rbadS s = true := hc38
      refine gk_seq ?_
      refine gk_region ?_
      refine gk_y rfl rfl (y_assign rfl) ?_
      refine gk_y rfl rfl (y_assign rfl) ?_
      refine gk_nil (gk_sub (T' := [(2,_), (3,_), (4,_), (5,_)]) ⟨rfl, rfl, rfl, rfl, trivial⟩ ?_)
      refine gk_ret ?_
      refine gk_pure (rv_two rfl (r1_tmp rfl) (r1_tmp rfl)) ?_
      exact rn_bad hB
    · have hB : rbadS s = false := hc38
      have hB6 := rnum_size hB
      refine gk_skip ?_
      refine gk_seq ?_
      refine gk_region ?_
      refine gk_y rfl rfl (y_assign rfl) ?_
      refine gk_nil (gk_sub (T' := [(2,_), (3,_), (4,_), (5,_), (6,_)]) ⟨rfl, rfl, rfl, rfl, rfl, trivial⟩ ?_)
      refine gk_seq ?_
      refine gk_seq ?_
      refine gk_region ?_
      refine gk_y rfl rfl (y_assign rfl) ?_
      refine gk_nil (gk_sub (T' := [(2,_), (3,_), (4,_), (5,_), (6,_), (7,_)]) ⟨rfl, rfl, rfl, rfl, rfl, rfl, trivial⟩ ?_)
      refine gk_block ?_
      refine gk_loop (X := Int) (fun (i : Int) => [(2, .int .i64 0), (3, .bool false), (4, .bool (minusB s)), (5, .string (digsS s)), (6, .int .i64 (rvalN (digsS s) i.toNat)), (7, .int .i64 i)]) (fun (i : Int) => []) (fun (i : Int) => (0 ≤ i ∧ i ≤ (digsS s).size ∧ ∀ j : Nat, (j : Int) < i → ndigB (digsS s) j = false)) (fun (i : Int) => ((digsS s).size - i).toNat) 0 ⟨rfl, rfl, rfl, rfl, rfl, rfl, trivial⟩ rfl ?_ ?_
      · exact ⟨by omega, by omega, fun j hj => by omega⟩
      · rintro i hI
        obtain ⟨g0, g1, g2⟩ := hI
        refine gk_seq ?_
        refine gk_seq ?_
        refine gk_region ?_
        refine gk_y rfl rfl (y_move rfl) ?_
        refine gk_y rfl rfl (y_move rfl) ?_
        refine gk_y rfl rfl (y_lenStr (Tryz.underlying9) rfl) ?_
        refine gk_y rfl rfl (y_lss rfl rfl) ?_
        refine gk_nil (gk_sub (T' := [(2,_), (3,_), (4,_), (5,_), (6,_), (7,_), (42,_)]) ⟨rfl, rfl, rfl, rfl, rfl, rfl, rfl, trivial⟩ ?_)
        refine gk_cond rfl (fun hc42 => ?_) (fun hc42 => ?_)
        · have hc42 := of_decide_eq_true hc42
          refine gk_skip ?_
          refine gk_seq ?_
          refine gk_block ?_
          refine gk_seq ?_
          refine gk_seq ?_
          refine gk_any 10 (fun _ => mixed) (by kernel_rfl) ?_
          refine ph_y (y_move rfl) ?_
          refine ph_y (y_move rfl) ?_
          refine ph_y (y_strIndex (Tryz.underlying9) rfl rfl (by omega) (by omega)) ?_
          refine ph_y (y_lss rfl rfl) ?_
          refine ph_y (y_move rfl) ?_
          refine ph_gF rfl rfl (fun hgd => by (try rw [hgd]); exact (y_move rfl)) ?_
          refine ph_gF rfl rfl (fun hgd => by (try rw [hgd]); exact (y_move rfl)) ?_
          refine ph_gF rfl rfl (fun hgd => by (try rw [hgd]); exact (y_strIndex (Tryz.underlying9) rfl rfl (by omega) (by omega))) ?_
          refine ph_gF rfl rfl (fun hgd => by (try rw [hgd]); exact (y_gtr rfl rfl)) ?_
          refine ph_y (y_pickOr rfl rfl rfl) ?_
          refine gk_nil (gk_sub (T' := [(2,_), (3,_), (4,_), (5,_), (6,_), (7,_), (54,_)]) ⟨rfl, rfl, rfl, rfl, rfl, rfl, rfl, trivial⟩ ?_)
          refine gk_cond rfl (fun hc54 => ?_) (fun hc54 => ?_)
          · have hb : ndigB (digsS s) i = true := hc54
            refine gk_seq ?_
            refine gk_region ?_
            refine gk_y rfl rfl (y_assign rfl) ?_
            refine gk_y rfl rfl (y_assign rfl) ?_
            refine gk_nil (gk_sub (T' := [(2,_), (3,_), (4,_), (5,_), (6,_), (7,_)]) ⟨rfl, rfl, rfl, rfl, rfl, rfl, trivial⟩ ?_)
            refine gk_ret ?_
            refine gk_pure (rv_two rfl (r1_tmp rfl) (r1_tmp rfl)) ?_
            exact rn_no hB g0 hc42 hb
          · have hb : ndigB (digsS s) i = false := hc54
            have hlo := (ndig_no hb).1
            have hhi := (ndig_no hb).2
            have hwr : IntKind.i64.wrap (IntKind.u8.wrap (byteI (digsS s) i - 48)) = byteI (digsS s) i - 48 := wrap_dig hlo hhi
            have hvl := rvalN_lt g0 g1 (by omega) g2
            refine gk_skip ?_
            refine gk_region ?_
            refine gk_y rfl rfl (y_move rfl) ?_
            refine gk_y rfl rfl (y_mul rfl rfl) ?_
            refine gk_y rfl rfl (y_move rfl) ?_
            refine gk_y rfl rfl (y_move rfl) ?_
            refine gk_y rfl rfl (y_strIndex (Tryz.underlying9) rfl rfl (by omega) (by omega)) ?_
            refine gk_y rfl rfl (y_sub rfl rfl) ?_
            refine gk_y rfl rfl (y_convInt (by kernel_rfl) (Tryz.underlying3) rfl) ?_
            refine gk_y rfl rfl (y_add rfl rfl) ?_
            refine gk_y rfl rfl (y_assign rfl) ?_
            refine gk_nil (gk_sub (T' := [(2,_), (3,_), (4,_), (5,_), (6,_), (7,_)]) ⟨rfl, rfl, rfl, rfl, rfl, rfl, trivial⟩ ?_)
            refine gk_sub (T' := [(2,_), (3,_), (4,_), (5,_), (6, .int .i64 (rvalN (digsS s) (i + 1).toNat)), (7,_)]) ⟨rfl, rfl, rfl, rfl, (by rw [rvalN_succ g0 hc42 hlo]; show some (Value.int .i64 (IntKind.i64.wrap (IntKind.i64.wrap (10 * rvalN (digsS s) i.toNat) + IntKind.i64.wrap (IntKind.u8.wrap (byteI (digsS s) i - 48))))) = some _; rw [hwr, wrap64_in (n := 10 * rvalN (digsS s) i.toNat) (by omega) (by omega), wrap64_in (by omega) (by omega)]), rfl, trivial⟩ ?_
            refine gk_region ?_
            refine gk_y rfl rfl (y_move rfl) ?_
            refine gk_y rfl rfl (y_addI rfl rfl (by omega) (by omega)) ?_
            refine gk_y rfl rfl (y_assign rfl) ?_
            refine gk_nil (gk_sub (T' := [(2,_), (3,_), (4,_), (5,_), (6,_), (7,_)]) ⟨rfl, rfl, rfl, rfl, rfl, rfl, trivial⟩ ?_)
            exact gk_next (i + 1) ⟨rfl, rfl, rfl, rfl, rfl, rfl, trivial⟩ rfl ⟨by omega, by omega, below_nat g0 g2 hb⟩ (by omega)
        · have hc42 := of_decide_eq_false hc42
          have hvl := rvalN_lt g0 g1 (by omega) g2
          refine gk_exit rfl ?_
          refine gk_seq ?_
          refine gk_seq ?_
          refine gk_region ?_
          refine gk_y rfl rfl (y_move rfl) ?_
          refine gk_nil (gk_sub (T' := [(2,_), (3,_), (6,_), (63,_)]) ⟨rfl, rfl, rfl, rfl, trivial⟩ ?_)
          refine gk_cond rfl (fun hc63 => ?_) (fun hc63 => ?_)
          · have hm2 : minusB s = true := hc63
            refine gk_region ?_
            refine gk_y rfl rfl (y_move rfl) ?_
            refine gk_y rfl rfl (y_negI rfl (by omega) (by omega)) ?_
            refine gk_y rfl rfl (y_assign rfl) ?_
            refine gk_nil (gk_sub (T' := [(2,_), (3,_), (6,_)]) ⟨rfl, rfl, rfl, trivial⟩ ?_)
            refine gk_seq ?_
            refine gk_region ?_
            refine gk_y rfl rfl (y_move rfl) ?_
            refine gk_y rfl rfl (y_assign rfl) ?_
            refine gk_y rfl rfl (y_assign rfl) ?_
            refine gk_nil (gk_sub (T' := [(2,_), (3,_)]) ⟨rfl, rfl, trivial⟩ ?_)
            refine gk_ret ?_
            refine gk_pure (rv_two rfl (r1_tmp rfl) (r1_tmp rfl)) ?_
            exact rn_neg hB (by omega) g1 g2 hm2
          · have hm2 : ¬ minusB s = true := by rw [hc63]; simp
            refine gk_skip ?_
            refine gk_seq ?_
            refine gk_region ?_
            refine gk_y rfl rfl (y_move rfl) ?_
            refine gk_y rfl rfl (y_assign rfl) ?_
            refine gk_y rfl rfl (y_assign rfl) ?_
            refine gk_nil (gk_sub (T' := [(2,_), (3,_)]) ⟨rfl, rfl, trivial⟩ ?_)
            refine gk_ret ?_
            refine gk_pure (rv_two rfl (r1_tmp rfl) (r1_tmp rfl)) ?_
            exact rn_pos hB (by omega) g1 g2 hm2
end Go.Proofs.YtmpaebfjnjmmlaaGreatDoor

namespace Go.Stn
open Go Go.K Go.RowKit Go.Proofs Go.Txt
theorem extract_data (s : ByteArray) (i j : Nat) : (s.extract i j).data.toList = (s.data.toList.drop i).take (j - i) := by
  rw [ByteArray.data_extract, Array.toList_extract, List.extract_eq_take_drop]
theorem cutL_len {c : UInt8} : ∀ {l : List UInt8} {p : List UInt8}, p ∈ cutL c l → p.length ≤ l.length
  | [], p, h => by simp [cutL] at h; subst h; simp
  | x :: r, p, h => by
    rw [cutL] at h
    split at h
    · rcases List.mem_cons.1 h with rfl | h
      · simp
      · have := cutL_len h; simp; omega
    · split at h
      · simp at h; subst h; simp
      · rename_i q t e
        rcases List.mem_cons.1 h with rfl | h
        · have := cutL_len (c := c) (l := r) (p := q) (by rw [e]; simp); simp; omega
        · have := cutL_len (c := c) (l := r) (p := p) (by rw [e]; simp [h]); simp; omega
theorem cutL_num (c : UInt8) : ∀ l : List UInt8, (cutL c l).length ≤ l.length + 1
  | [] => by simp [cutL]
  | x :: r => by
    have := cutL_num c r
    rw [cutL]
    split
    · simp; omega
    · split
      · simp
      · rename_i e; rw [e] at this; simp at this ⊢; omega
theorem split_num (s : ByteArray) (c : UInt8) : 1 ≤ (splitL s c).length ∧ (splitL s c).length ≤ s.size + 1 := by
  have h1 := cutL_num c s.data.toList
  have h2 := cutL_pos c s.data.toList
  rw [← splitL_data, List.length_map] at h1 h2
  rw [size_data]
  exact ⟨h2, h1⟩
theorem word_size {s : ByteArray} {c : UInt8} {x : ByteArray} (h : x ∈ splitL s c) : x.size ≤ s.size := by
  have : x.data.toList ∈ cutL c s.data.toList := by rw [← splitL_data]; exact List.mem_map.2 ⟨x, h, rfl⟩
  have := cutL_len this
  rw [size_data, size_data s]; exact this
theorem word_sizeD {s : ByteArray} {c : UInt8} {i : Nat} (h : i < (splitL s c).length) : ((splitL s c).getD i default).size ≤ s.size := word_size (c := c) (by simp [h])
theorem drop_size {s : ByteArray} {c : UInt8} {j : Nat} (h : j < ((splitL s c).drop 1).length) : (((splitL s c).drop 1).getD j default).size ≤ s.size :=
  word_size (c := c) (List.mem_of_mem_drop (i := 1) (by rw [List.getD_eq_getElem?_getD, List.getElem?_eq_getElem h]; exact List.getElem_mem h))
def CutI (s : ByteArray) (c : UInt8) (M : List ByteArray) (f i : Int) : Prop :=
  0 ≤ f ∧ f ≤ i ∧ i ≤ (s.size : Int) ∧ (M.length : Int) ≤ f ∧ (∀ j : Nat, f ≤ (j : Int) → (j : Int) < i → byteI s j ≠ (c.toNat : Int)) ∧ M.map (·.data.toList) ++ cutL c (s.data.toList.drop f.toNat) = cutL c s.data.toList
theorem cutI_start {s : ByteArray} {c : UInt8} : CutI s c [] 0 0 := ⟨by omega, by omega, by omega, by simp, fun j h1 h2 => by omega, by simp⟩
theorem cutI_clean {s : ByteArray} {c : UInt8} {f i : Int} (h0 : 0 ≤ f) (h : ∀ j : Nat, f ≤ (j : Int) → (j : Int) < i → byteI s j ≠ (c.toNat : Int)) : ∀ x ∈ (s.data.toList.drop f.toNat).take (i.toNat - f.toNat), x ≠ c := fun x hx e => by
  obtain ⟨k, hk, rfl⟩ := List.mem_take_iff_getElem.1 hx
  rw [List.getElem_drop] at e
  refine h (f.toNat + k) (by omega) (by omega) ?_
  rw [byteI_list, show ((f.toNat + k : Nat) : Int).toNat = f.toNat + k from Int.toNat_natCast _, List.getElem?_eq_getElem (by rw [List.length_drop] at hk; omega), e]; rfl
theorem cutI_hit {s : ByteArray} {c : UInt8} {M : List ByteArray} {f i : Int} (h : CutI s c M f i) (hi : i < (s.size : Int)) (hb : byteI s i = (c.toNat : Int)) : CutI s c (M ++ [s.extract f.toNat i.toNat]) (i + 1) (i + 1) := by
  obtain ⟨h0, h1, h2, h3, h4, h5⟩ := h
  refine ⟨by omega, by omega, by omega, by simp; omega, fun j a b => by omega, ?_⟩
  rw [← h5, List.map_append, List.map_cons, List.map_nil, extract_data, List.append_assoc]
  congr 1
  have hlt : i.toNat < s.data.toList.length := by rw [← size_data]; omega
  have hc : s.data.toList[i.toNat] = c := by
    rw [byteI_list, List.getElem?_eq_getElem hlt] at hb
    have hb2 : (s.data.toList[i.toNat].toNat : Int) = c.toNat := hb
    exact UInt8.toNat_inj.1 (by omega)
  have hs : s.data.toList.drop f.toNat = (s.data.toList.drop f.toNat).take (i.toNat - f.toNat) ++ c :: s.data.toList.drop (i + 1).toNat := by
    have e1 : (s.data.toList.drop f.toNat).drop (i.toNat - f.toNat) = c :: s.data.toList.drop (i + 1).toNat := by
      rw [List.drop_drop, show f.toNat + (i.toNat - f.toNat) = i.toNat from by omega, List.drop_eq_getElem_cons hlt, hc, show (i + 1).toNat = i.toNat + 1 from by omega]
    rw [← e1, List.take_append_drop]
  conv => rhs; rw [hs]
  rw [cutL_hit (cutI_clean h0 h4)]; rfl
theorem cutI_next {s : ByteArray} {c : UInt8} {M : List ByteArray} {f i : Int} (h : CutI s c M f i) (hi : i < (s.size : Int)) (hb : ¬ byteI s i = (c.toNat : Int)) : CutI s c M f (i + 1) := by
  obtain ⟨h0, h1, h2, h3, h4, h5⟩ := h
  refine ⟨h0, by omega, by omega, h3, fun j a b => ?_, h5⟩
  by_cases hj : (j : Int) < i
  · exact h4 j a hj
  · rw [show (j : Int) = i from by omega]; exact hb
theorem cutI_end {s : ByteArray} {c : UInt8} {M : List ByteArray} {f i : Int} (h : CutI s c M f i) (hi : ¬ i < (s.size : Int)) : M ++ [s.extract f.toNat s.size] = splitL s c := by
  obtain ⟨h0, h1, h2, h3, h4, h5⟩ := h
  refine words_eq ?_
  rw [splitL_data, ← h5, List.map_append, List.map_cons, List.map_nil, extract_data]
  have hc := cutI_clean h0 h4
  rw [List.take_of_length_le (by simp; omega)] at hc
  rw [cutL_end hc, List.take_of_length_le (by simp)]
theorem words_pos {ws : List ByteArray} (h : (!(decide ((ws.length : Int) < 11) || decide (((ws.length : Int)).tmod 2 = 0))) = true) : 0 < ws.length := by
  simp only [Bool.not_or, Bool.and_eq_true, Bool.not_eq_true', decide_eq_false_iff_not] at h
  omega
theorem words_ok {ws : List ByteArray} (h : wordBad ws = false) : 11 ≤ ws.length ∧ ws.length % 2 = 1 := by
  unfold wordBad at h
  simp only [Bool.or_eq_false_iff, decide_eq_false_iff_not] at h
  have h2 := h.1.2
  rw [Int.tmod_eq_emod_of_nonneg (Int.natCast_nonneg _)] at h2
  omega
theorem read_bad {ws : List ByteArray} (h : wordBad ws = true) : readS ws = zeroS ∧ readOk ws = false := by
  have : readOk ws = false := by unfold readOk; rw [h]; rfl
  exact ⟨by unfold readS; rw [this]; rfl, this⟩
theorem read_no {ws : List ByteArray} {j : Nat} (hj : j < (ws.drop 1).length) (h : numB ((ws.drop 1).getD j default) = false) : readS ws = zeroS ∧ readOk ws = false := by
  have : readOk ws = false := by
    unfold readOk
    rw [Bool.and_eq_false_iff]; right
    rw [List.all_eq_false]
    exact ⟨(ws.drop 1).getD j default, by
      rw [List.getD_eq_getElem?_getD, List.getElem?_eq_getElem hj]; exact List.getElem_mem hj, by rw [h]; simp⟩
  exact ⟨by unfold readS; rw [this]; rfl, this⟩
theorem read_yes {ws : List ByteArray} (h : wordBad ws = false) (hn : ∀ j : Nat, (j : Int) < ((ws.drop 1).length : Int) → (!numB ((ws.drop 1).getD j default)) = false) : readS ws = readW ws ∧ readOk ws = true := by
  have : readOk ws = true := by
    unfold readOk
    rw [h, Bool.not_false, Bool.true_and, List.all_eq_true]
    intro x hx
    obtain ⟨k, hk, rfl⟩ := List.getElem_of_mem hx
    have := hn k (by omega)
    rw [List.getD_eq_getElem?_getD, List.getElem?_eq_getElem hk] at this
    simpa using this
  exact ⟨by unfold readS; rw [if_pos this], this⟩
theorem readS_len (ws : List ByteArray) : (readS ws).shape.length ≤ ws.length := by
  unfold readS
  split
  · show (ptsN _ _).length ≤ _
    rw [ptsN_len]; omega
  · simp [zeroS]
theorem ptsN_step {n : List Int} {k : Int} {Q : List Pt} (h4 : 4 ≤ k) (he : k % 2 = 0) (h : Q = ptsN n ((k - 4) / 2).toNat) : Q ++ [(⟨n.getD k.toNat default, n.getD (k + 1).toNat default⟩ : Pt)] = ptsN n ((k + 2 - 4) / 2).toNat := by
  rw [h, show (k + 2 - 4) / 2 = (k - 4) / 2 + 1 from by omega, ptsN_succ (by omega), show 4 + 2 * ((k - 4) / 2) = k from by omega]
theorem nums_step {D : List ByteArray} {N : List Int} {j : Int} (h0 : 0 ≤ j) (h1 : j < (D.length : Int)) (h : N = (D.take j.toNat).map numI) : N ++ [numI (D.getD j.toNat default)] = (D.take (j + 1).toNat).map numI := by
  rw [h, take_succ h0 h1, List.map_append]; rfl
theorem getD_one {W : List ByteArray} {i : Int} (h1 : 1 ≤ i) : W.getD i.toNat default = (W.drop 1).getD (i - 1).toNat default := by
  rw [List.getD_eq_getElem?_getD, List.getD_eq_getElem?_getD, List.getElem?_drop, show 1 + (i - 1).toNat = i.toNat from by omega]
theorem rnums_step {W : List ByteArray} {N : List Int} {i : Int} (h1 : 1 ≤ i) (h2 : i < (W.length : Int)) (h : N = ((W.drop 1).take (i - 1).toNat).map numI) (hb : (!numB (W.getD i.toNat default)) = false) : N ++ [rnumI (W.getD i.toNat default)] = ((W.drop 1).take (i + 1 - 1).toNat).map numI := by
  rw [rnum_num (by simpa using hb), getD_one h1, nums_step (by omega) (by rw [List.length_drop]; omega) h, show i - 1 + 1 = i + 1 - 1 from by omega]
theorem rall_step {W : List ByteArray} {i : Int} (h1 : 1 ≤ i) (h : ∀ k : Nat, (k : Int) < i - 1 → (!numB ((W.drop 1).getD k default)) = false) (hb : (!numB (W.getD i.toNat default)) = false) : ∀ k : Nat, (k : Int) < i + 1 - 1 → (!numB ((W.drop 1).getD k default)) = false := fun k hk => by
  by_cases g : (k : Int) < i - 1
  · exact h k g
  · rw [show k = (i - 1).toNat from by omega, ← getD_one h1]; exact hb
theorem rread_no {W : List ByteArray} {i : Int} (h1 : 1 ≤ i) (h2 : i < (W.length : Int)) (h : numB (W.getD i.toNat default) = false) : readS W = zeroS ∧ readOk W = false :=
  read_no (j := (i - 1).toNat) (by rw [List.length_drop]; omega) (by rw [← getD_one h1]; exact h)
end Go.Stn

namespace Go.Proofs.YtmpaebfjnjmmlaaGreatDoor
open Go.K Go.Stn Go.RowKit
theorem se93 : SE Tryz.prog 93 9 1 := ⟨Tryz.underlying93, by kernel_rfl⟩
theorem af24 : AF Tryz.prog 24 26 2 16 [.int IntKind.i64 0, .int IntKind.i64 0] := ⟨Tryz.underlying24, by kernel_rfl, rfl⟩
theorem af93 : AF Tryz.prog 93 9 1 16 [.string ⟨#[]⟩] := ⟨Tryz.underlying93, by kernel_rfl, rfl⟩
theorem en45 : En Tryz.prog 45 := en_of Tryz.func45 (by kernel_rfl) (by kernel_rfl)
theorem en79 : En Tryz.prog 79 := en_of Tryz.func79 (by kernel_rfl) (by kernel_rfl)
theorem en80 : En Tryz.prog 80 := en_of Tryz.func80 (by kernel_rfl) (by kernel_rfl)
theorem en82 : En Tryz.prog 82 := en_of Tryz.func82 (by kernel_rfl) (by kernel_rfl)
theorem bd26_0i_1i (x0 : Int) (x1 : Int) (w : World) : (Instr.build 26 #[(0, .int .i64 x0), (1, .int .i64 x1)]).run Tryz.prog w = .ok (.agg #[.int .i64 x0, .int .i64 x1]) w := by kernel_rfl
theorem bd28_  (w : World) : (Instr.build 28 #[]).run Tryz.prog w = .ok (.agg #[.string ⟨#[]⟩, .slice none 0 0, .int IntKind.i64 0, .int IntKind.i64 0, .int IntKind.i64 0, .int IntKind.i64 0]) w := by kernel_rfl
theorem bd28_0s_2i_3i_4ii (x0 : ByteArray) (x1 : Int) (x2 : Int) (x3 : Int) (x4 : Int) (w : World) : (Instr.build 28 #[(0, .string x0), (2, .int .i64 x1), (3, .int .i64 x2), (4, .agg #[.int .i64 x3, .int .i64 x4])]).run Tryz.prog w = .ok (.agg #[.string x0, .slice none 0 0, .int .i64 x1, .int .i64 x2, .int .i64 x3, .int .i64 x4]) w := by kernel_rfl
theorem bd52_0s_2i_3i_4ii (x0 : ByteArray) (x1 : Int) (x2 : Int) (x3 : Int) (x4 : Int) (w : World) : (Instr.build 52 #[(0, .string x0), (2, .int .i64 x1), (3, .int .i64 x2), (4, .agg #[.int .i64 x3, .int .i64 x4])]).run Tryz.prog w = .ok (.agg #[.string x0, .slice none 0 0, .int .i64 x1, .int .i64 x2, .int .i64 x3, .int .i64 x4]) w := by kernel_rfl
theorem bs24_1 (x0_0 : Int) (x0_1 : Int) (w : World) : (Instr.buildSlice 24 1 #[(0, .agg #[.int .i64 x0_0, .int .i64 x0_1])]).run Tryz.prog w = .ok (.slice (some ⟨w.heap.size, 0, none⟩) 1 1) (w.alloc (.cells (([(⟨x0_0, x0_1⟩ : Pt)] : List (Pt)).flatMap encPt).toArray 26)) := by kernel_rfl
theorem bs71_1 (x0_0 : Int) (w : World) : (Instr.buildSlice 71 1 #[(0, .int .i64 x0_0)]).run Tryz.prog w = .ok (.slice (some ⟨w.heap.size, 0, none⟩) 1 1) (w.alloc (.cells (([x0_0] : List (Int)).flatMap Go.Stn.encI).toArray 3)) := by kernel_rfl
theorem bs93_1 (x0_0 : ByteArray) (w : World) : (Instr.buildSlice 93 1 #[(0, .string x0_0)]).run Tryz.prog w = .ok (.slice (some ⟨w.heap.size, 0, none⟩) 1 1) (w.alloc (.cells (([x0_0] : List (ByteArray)).flatMap encS).toArray 9)) := by kernel_rfl
set_option maxRecDepth 100000 in
set_option maxHeartbeats 1000000 in
theorem rcut_c (s : ByteArray) (c : UInt8) (w : World) (hsz : s.size ≤ 1000000) :
    Calls Tryz.prog 45 #[.string s, .int .u8 (c.toNat : Int)] w (Gives (fun z : Option Addr × Nat => .slice z.1 (splitL s c).length z.2) (fun z => Row z.1 1 z.2 9 encS (splitL s c)) w) := by
  refine calls_of_gk (vs := [_, _]) Tryz.func45 rfl rfl (Nat.le_of_ble_eq_true rfl) ?_
  refine gk_seq ?_
  refine gk_region ?_
  refine gk_y rfl rfl (y_assign rfl) ?_
  refine gk_nil (gk_sub (T' := [(0,_), (1,_), (4,_)]) ⟨rfl, rfl, rfl, trivial⟩ ?_)
  refine gk_seq ?_
  refine gk_region ?_
  refine gk_y rfl rfl (y_assign rfl) ?_
  refine gk_nil (gk_sub (T' := [(0,_), (1,_), (4,_), (5,_)]) ⟨rfl, rfl, rfl, rfl, trivial⟩ ?_)
  refine gk_seq ?_
  refine gk_region ?_
  refine gk_y rfl rfl (y_assign rfl) ?_
  refine gk_nil (gk_sub (T' := [(0,_), (1,_), (4,_), (5,_), (6,_)]) ⟨rfl, rfl, rfl, rfl, rfl, trivial⟩ ?_)
  refine gk_seq ?_
  refine gk_seq ?_
  refine gk_region ?_
  refine gk_y rfl rfl (y_assign rfl) ?_
  refine gk_nil (gk_sub (T' := [(0,_), (1,_), (4,_), (5,_), (6,_), (7,_)]) ⟨rfl, rfl, rfl, rfl, rfl, rfl, trivial⟩ ?_)
  refine gk_block ?_
  refine gk_newNil 9 encS 1 ?_
  refine gk_loop (X := Int × Int × Option Addr × Nat × List ByteArray) (fun ⟨i, f, b, bc, M⟩ => [(0, .string s), (1, .int .u8 (c.toNat : Int)), (4, .slice none 0 0), (5, .slice b M.length bc), (6, .int .i64 f), (7, .int .i64 i)]) (fun ⟨i, f, b, bc, M⟩ => [Row b 1 bc 9 encS M]) (fun ⟨i, f, b, bc, M⟩ => (CutI s c M f i)) (fun ⟨i, f, b, bc, M⟩ => (s.size - i).toNat) (0, 0, none, 0, []) ⟨rfl, rfl, rfl, rfl, rfl, rfl, trivial⟩ rfl ?_ ?_
  · exact cutI_start
  · rintro ⟨i, f, b, bc, M⟩ hI
    have hCI : CutI s c M f i := hI
    obtain ⟨g0, g1, g2, g3, g4, g5⟩ := hI
    refine gk_seq ?_
    refine gk_seq ?_
    refine gk_region ?_
    refine gk_y rfl rfl (y_move rfl) ?_
    refine gk_y rfl rfl (y_move rfl) ?_
    refine gk_y rfl rfl (y_lenStr (Tryz.underlying9) rfl) ?_
    refine gk_y rfl rfl (y_lss rfl rfl) ?_
    refine gk_nil (gk_sub (T' := [(0,_), (1,_), (4,_), (5,_), (6,_), (7,_), (11,_)]) ⟨rfl, rfl, rfl, rfl, rfl, rfl, rfl, trivial⟩ ?_)
    refine gk_cond rfl (fun hc11 => ?_) (fun hc11 => ?_)
    · have hc11 := of_decide_eq_true hc11
      refine gk_skip ?_
      refine gk_seq ?_
      refine gk_block ?_
      refine gk_seq ?_
      refine gk_region ?_
      refine gk_y rfl rfl (y_move rfl) ?_
      refine gk_y rfl rfl (y_move rfl) ?_
      refine gk_y rfl rfl (y_strIndex (Tryz.underlying9) rfl rfl (by omega) (by omega)) ?_
      refine gk_y rfl rfl (y_move rfl) ?_
      refine gk_y rfl rfl (y_eql rfl rfl) ?_
      refine gk_nil (gk_sub (T' := [(0,_), (1,_), (4,_), (5,_), (6,_), (7,_), (18,_)]) ⟨rfl, rfl, rfl, rfl, rfl, rfl, rfl, trivial⟩ ?_)
      refine gk_cond rfl (fun hc18 => ?_) (fun hc18 => ?_)
      · skip
        refine gk_seq ?_
        refine gk_region ?_
        refine gk_y rfl rfl (y_move rfl) ?_
        refine gk_y rfl rfl (y_move rfl) ?_
        refine gk_y rfl rfl (y_move rfl) ?_
        refine gk_y rfl rfl (y_move rfl) ?_
        refine gk_y rfl rfl (y_strSliceLH (Tryz.underlying9) rfl rfl rfl (by omega) (by omega) (by omega)) ?_
        refine gk_yx rfl rfl (yx_buildSlice rfl (bs93_1 _) encS_ok rfl) fun b24 => ?_
        refine gk_append (m := [(s.extract f.toNat i.toNat)]) 1 af93 encS_ok rfl rfl rfl rfl (fun _ hw => (has_row encS_ok (hw.has (p := 0) rfl))) (by first | omega | (simp only [List.length_cons, List.length_nil]; omega)) (by first | (unfold maxLen; omega) | (simp only [List.length_cons, List.length_nil, maxLen]; omega)) fun a25 c25 => ?_
        refine gk_y rfl rfl (y_assign rfl) ?_
        refine gk_nil (gk_sub (T' := [(0,_), (1,_), (4,_), (5,_), (6,_), (7,_)]) ⟨rfl, rfl, rfl, rfl, rfl, rfl, trivial⟩ ?_)
        refine gk_region ?_
        refine gk_y rfl rfl (y_move rfl) ?_
        refine gk_y rfl rfl (y_addI rfl rfl (by omega) (by omega)) ?_
        refine gk_y rfl rfl (y_assign rfl) ?_
        refine gk_nil (gk_sub (T' := [(0,_), (1,_), (4,_), (5,_), (6,_), (7,_)]) ⟨rfl, rfl, rfl, rfl, rfl, rfl, trivial⟩ ?_)
        refine gk_region ?_
        refine gk_y rfl rfl (y_move rfl) ?_
        refine gk_y rfl rfl (y_addI rfl rfl (by omega) (by omega)) ?_
        refine gk_y rfl rfl (y_assign rfl) ?_
        refine gk_nil (gk_sub (T' := [(0,_), (1,_), (4,_), (5,_), (6,_), (7,_)]) ⟨rfl, rfl, rfl, rfl, rfl, rfl, trivial⟩ ?_)
        refine gk_dropAt 0 rfl ?_
        exact gk_next (i + 1, i + 1, a25, c25, M ++ [s.extract f.toNat i.toNat]) ⟨rfl, rfl, rfl, rfl, rfl, rfl, trivial⟩ rfl (cutI_hit hCI hc11 (of_decide_eq_true hc18)) (by simp only []; omega)
      · skip
        refine gk_skip ?_
        refine gk_region ?_
        refine gk_y rfl rfl (y_move rfl) ?_
        refine gk_y rfl rfl (y_addI rfl rfl (by omega) (by omega)) ?_
        refine gk_y rfl rfl (y_assign rfl) ?_
        refine gk_nil (gk_sub (T' := [(0,_), (1,_), (4,_), (5,_), (6,_), (7,_)]) ⟨rfl, rfl, rfl, rfl, rfl, rfl, trivial⟩ ?_)
        exact gk_next (i + 1, f, b, bc, M) ⟨rfl, rfl, rfl, rfl, rfl, rfl, trivial⟩ rfl (cutI_next hCI hc11 (of_decide_eq_false hc18)) (by simp only []; omega)
    · have hc11 := of_decide_eq_false hc11
      refine gk_exit rfl ?_
      refine gk_seq ?_
      refine gk_region ?_
      refine gk_y rfl rfl (y_move rfl) ?_
      refine gk_y rfl rfl (y_move rfl) ?_
      refine gk_y rfl rfl (y_move rfl) ?_
      refine gk_y rfl rfl (y_strSliceL (Tryz.underlying9) rfl rfl (by omega) (by omega)) ?_
      refine gk_yx rfl rfl (yx_buildSlice rfl (bs93_1 _) encS_ok rfl) fun b32 => ?_
      refine gk_append (m := [(s.extract f.toNat s.size)]) 1 af93 encS_ok rfl rfl rfl rfl (fun _ hw => (has_row encS_ok (hw.has (p := 0) rfl))) (by first | omega | (simp only [List.length_cons, List.length_nil]; omega)) (by first | (unfold maxLen; omega) | (simp only [List.length_cons, List.length_nil, maxLen]; omega)) fun a33 c33 => ?_
      refine gk_y rfl rfl (y_assign rfl) ?_
      refine gk_nil (gk_sub (T' := [(4,_)]) ⟨rfl, trivial⟩ ?_)
      refine gk_ret ?_
      refine gk_gives (a33, c33) 1 (rv_one rfl (r1_tmp rfl)) ?_ (by rw [← cutI_end hCI hc11]; rfl)
      rw [← cutI_end hCI hc11]
set_option maxRecDepth 100000 in
set_option maxHeartbeats 1000000 in
theorem read_c (s : ByteArray) (w : World) (hsz : s.size ≤ 1000000) (hiv : Has w (IntV 1)) (he3 : Has w (ErrV 3)) (he4 : Has w (ErrV 4)) (hp10 : Has w (VarR 2 pow10V)) :
    Calls Tryz.prog 42 #[.string s] w (Gives (fun z : Option Addr × Nat => .tuple #[stnV (readS (splitL s 32)) z.1 z.2, .bool (readOk (splitL s 32))]) (fun z => Row z.1 2 z.2 50 encPt (readS (splitL s 32)).shape) w) := by
  have hn1 := (split_num s 32).1
  have hn2 := (split_num s 32).2
  refine calls_of_gk (vs := [_]) Tryz.func42 rfl rfl (Nat.le_of_ble_eq_true rfl) ?_
  refine gk_seq ?_
  refine gk_region ?_
  refine gk_yx rfl rfl (yx_alloc tf52 (zs := [_, _, _, _, _, _]) rfl) fun b2 => ?_
  refine gk_y rfl rfl (y_assign rfl) ?_
  refine gk_nil (gk_sub (T' := [(0,_), (2,_), (3,_)]) ⟨rfl, rfl, rfl, trivial⟩ ?_)
  refine gk_seq ?_
  refine gk_region ?_
  refine gk_y rfl rfl (y_move rfl) ?_
  refine gk_yx rfl rfl (yx_call en79 rfl (fun w hw => split_c _ _ w (by omega) (Rd.has (Has.rd hiv) hw))) fun p13 => ?_
  refine gk_y rfl rfl (y_assign rfl) ?_
  refine gk_nil (gk_sub (T' := [(2,_), (3,_), (4,_)]) ⟨rfl, rfl, rfl, trivial⟩ ?_)
  refine gk_seq ?_
  refine gk_seq ?_
  refine gk_any 15 (fun _ => mixed) (by kernel_rfl) ?_
  refine ph_y (y_move rfl) ?_
  refine ph_y (y_lenS (Tryz.underlying93) rfl) ?_
  refine ph_y (y_lss rfl rfl) ?_
  refine ph_y (y_move rfl) ?_
  refine ph_gF rfl rfl (fun hgd => by (try rw [hgd]); (try have hgd2 := words_pos hgd); exact (y_move rfl)) ?_
  refine ph_gF rfl rfl (fun hgd => by (try rw [hgd]); (try have hgd2 := words_pos hgd); exact (y_lenS (Tryz.underlying93) rfl)) ?_
  refine ph_gF rfl rfl (fun hgd => by (try rw [hgd]); (try have hgd2 := words_pos hgd); exact (y_rem rfl rfl (by omega))) ?_
  refine ph_gF rfl rfl (fun hgd => by (try rw [hgd]); (try have hgd2 := words_pos hgd); exact (y_eql rfl rfl)) ?_
  refine ph_y (y_pickOr rfl rfl rfl) ?_
  refine ph_y (y_move rfl) ?_
  refine ph_gF rfl rfl (fun hgd => by (try rw [hgd]); (try have hgd2 := words_pos hgd); exact (y_move rfl)) ?_
  refine ph_gF rfl rfl (fun hgd => by (try rw [hgd]); (try have hgd2 := words_pos hgd); exact (y_indexE se93 rfl rfl (fun _ hw => (has_row encS_ok (hw.has (p := 0) rfl))) (by omega) (by omega))) ?_
  refine ph_gF rfl rfl (fun hgd => by (try rw [hgd]); (try have hgd2 := words_pos hgd); exact (y_loadE1 tf9 rfl (fun _ hw => (has_row encS_ok (hw.has (p := 0) rfl))) (by omega) (by omega) rfl)) ?_
  refine ph_gF rfl rfl (fun hgd => by (try rw [hgd]); (try have hgd2 := words_pos hgd); exact (y_strEq rfl rfl)) ?_
  refine ph_y (y_pickOr rfl rfl rfl) ?_
  refine gk_nil (gk_sub (T' := [(2,_), (3,_), (4,_), (28,_)]) ⟨rfl, rfl, rfl, rfl, trivial⟩ ?_)
  refine gk_cond rfl (fun hc28 => ?_) (fun hc28 => ?_)
  · have hW : wordBad (splitL s 32) = true := hc28
    refine gk_newNil 50 encPt 2 ?_
    refine gk_seq ?_
    refine gk_region ?_
    refine gk_y rfl rfl (y_buildL (parts := []) rfl bd52_) ?_
    refine gk_storeV 2 tf52 rfl rfl (vs := [_, _, _, _, _, _]) rfl rfl rfl rfl rfl ?_
    refine gk_y rfl rfl (y_assign rfl) ?_
    refine gk_nil (gk_sub (T' := [(2,_), (3,_), (4,_)]) ⟨rfl, rfl, rfl, trivial⟩ ?_)
    refine gk_ret ?_
    refine gk_gives (none, 0) 0 (rv_two rfl (r1_cellA (i := 2) (vs := [_, _, _, _, _, _]) tf52 rfl rfl rfl rfl) (r1_tmp rfl)) ?_ (by rw [(read_bad hW).1]; rfl)
    rw [(read_bad hW).1, (read_bad hW).2]; rfl
  · have hW : wordBad (splitL s 32) = false := hc28
    obtain ⟨hW1, hW2⟩ := words_ok hW
    have hDl : ((splitL s 32).drop 1).length = (splitL s 32).length - 1 := List.length_drop
    refine gk_skip ?_
    refine gk_seq ?_
    refine gk_region ?_
    refine gk_y rfl rfl (y_assign rfl) ?_
    refine gk_nil (gk_sub (T' := [(2,_), (3,_), (4,_), (5,_)]) ⟨rfl, rfl, rfl, rfl, trivial⟩ ?_)
    refine gk_seq ?_
    refine gk_seq ?_
    refine gk_region ?_
    refine gk_y rfl rfl (y_move rfl) ?_
    refine gk_y rfl rfl (y_sliceLoL se93 rfl rfl (by omega) (by omega)) ?_
    refine gk_y rfl rfl (y_lenS (Tryz.underlying93) rfl) ?_
    refine gk_y rfl rfl (y_move rfl) ?_
    refine gk_nil (gk_sub (T' := [(2,_), (3,_), (4,_), (5,_), (31,_), (32,_), (33,_)]) ⟨rfl, rfl, rfl, rfl, rfl, rfl, rfl, trivial⟩ ?_)
    refine gk_block ?_
    refine gk_newNil 3 Go.Stn.encI 1 ?_
    refine gk_loop (X := Int × Option Addr × Nat × List Int) (fun ⟨j, b, bc, N⟩ => [(2, .pointer (some ⟨b2, 0, none⟩)), (3, .bool false), (4, .slice (some ⟨p13, 0, none⟩) (splitL s 32).length (splitL s 32).length), (5, .slice b N.length bc), (31, .slice (subA (some ⟨p13, 0, none⟩) 1 1 ((splitL s 32).length)) ((splitL s 32).drop 1).length (((splitL s 32).length) - 1)), (32, .int .i64 (((splitL s 32).drop 1).length : Int)), (33, .int .i64 j)]) (fun ⟨j, b, bc, N⟩ => [Row b 1 bc 3 Go.Stn.encI N, Row (some ⟨p13, 0, none⟩) 1 (splitL s 32).length 9 encS (splitL s 32), Box b2 [.string ⟨#[]⟩, .slice none 0 0, .int .i64 0, .int .i64 0, .int .i64 0, .int .i64 0] 52]) (fun ⟨j, b, bc, N⟩ => (0 ≤ j ∧ j ≤ ((splitL s 32).drop 1).length ∧ N = (((splitL s 32).drop 1).take j.toNat).map numI ∧ ∀ k : Nat, (k : Int) < j → (!numB (((splitL s 32).drop 1).getD k default)) = false)) (fun ⟨j, b, bc, N⟩ => (((splitL s 32).drop 1).length - j).toNat) (0, none, 0, []) ⟨rfl, rfl, rfl, rfl, rfl, rfl, rfl, trivial⟩ rfl ?_ ?_
    · exact ⟨by omega, by omega, rfl, fun k hk => by omega⟩
    · rintro ⟨j, b, bc, N⟩ hI
      obtain ⟨j0, j1, hN, j2⟩ := hI
      have hNlen : (N.length : Int) = j := by rw [hN, List.length_map, List.length_take]; omega
      have hws : j < ((splitL s 32).drop 1).length → (((splitL s 32).drop 1).getD j.toNat default).size ≤ s.size := fun h => drop_size (by omega)
      refine gk_seq ?_
      refine gk_region ?_
      refine gk_y rfl rfl (y_lss rfl rfl) ?_
      refine gk_nil (gk_sub (T' := [(2,_), (3,_), (4,_), (5,_), (31,_), (32,_), (33,_), (34,_)]) ⟨rfl, rfl, rfl, rfl, rfl, rfl, rfl, rfl, trivial⟩ ?_)
      refine gk_seq ?_
      refine gk_cond rfl (fun hc34 => ?_) (fun hc34 => ?_)
      · have hc34 := of_decide_eq_true hc34
        refine gk_skip ?_
        refine gk_seq ?_
        refine gk_block ?_
        refine gk_seq ?_
        refine gk_region ?_
        refine gk_y rfl rfl (y_indexE se93 rfl rfl (fun _ hw => (elems_drop (has_row encS_ok (hw.has (p := 1) rfl)) (Nat.le_refl _) (by omega))) (by omega) (by omega)) ?_
        refine gk_y rfl rfl (y_loadE1 tf9 rfl (fun _ hw => (elems_drop (has_row encS_ok (hw.has (p := 1) rfl)) (Nat.le_refl _) (by omega))) (by omega) (by omega) rfl) ?_
        refine gk_y rfl rfl (y_assign rfl) ?_
        refine gk_nil (gk_sub (T' := [(2,_), (3,_), (4,_), (5,_), (7,_), (31,_), (32,_), (33,_)]) ⟨rfl, rfl, rfl, rfl, rfl, rfl, rfl, rfl, trivial⟩ ?_)
        refine gk_seq ?_
        refine gk_region ?_
        refine gk_y rfl rfl (y_move rfl) ?_
        refine gk_y rfl rfl (y_call en80 rfl (fun w hw => number_c _ w (by omega) (Rd.has (Has.rd he3) hw) (Rd.has (Has.rd he4) hw) (Rd.has (Has.rd hp10) hw))) ?_
        refine gk_y rfl rfl (y_move rfl) ?_
        refine gk_y rfl rfl (y_extract rfl rfl) ?_
        refine gk_y rfl rfl (y_extract rfl rfl) ?_
        refine gk_y rfl rfl (y_assign rfl) ?_
        refine gk_y rfl rfl (y_assign rfl) ?_
        refine gk_nil (gk_sub (T' := [(2,_), (3,_), (4,_), (5,_), (8,_), (9,_), (31,_), (32,_), (33,_)]) ⟨rfl, rfl, rfl, rfl, rfl, rfl, rfl, rfl, rfl, trivial⟩ ?_)
        refine gk_seq ?_
        refine gk_seq ?_
        refine gk_region ?_
        refine gk_y rfl rfl (y_move rfl) ?_
        refine gk_y rfl rfl (y_not rfl) ?_
        refine gk_nil (gk_sub (T' := [(2,_), (3,_), (4,_), (5,_), (8,_), (31,_), (32,_), (33,_), (43,_)]) ⟨rfl, rfl, rfl, rfl, rfl, rfl, rfl, rfl, rfl, trivial⟩ ?_)
        refine gk_cond rfl (fun hc43 => ?_) (fun hc43 => ?_)
        · have hb : numB (((splitL s 32).drop 1).getD j.toNat default) = false := by simpa using hc43
          refine gk_newNil 50 encPt 2 ?_
          refine gk_seq ?_
          refine gk_region ?_
          refine gk_y rfl rfl (y_buildL (parts := []) rfl bd52_) ?_
          refine gk_storeV 3 tf52 rfl rfl (vs := [_, _, _, _, _, _]) rfl rfl rfl rfl rfl ?_
          refine gk_y rfl rfl (y_assign rfl) ?_
          refine gk_nil (gk_sub (T' := [(2,_), (3,_), (4,_), (5,_), (8,_), (31,_), (32,_), (33,_)]) ⟨rfl, rfl, rfl, rfl, rfl, rfl, rfl, rfl, trivial⟩ ?_)
          refine gk_ret ?_
          refine gk_gives (none, 0) 0 (rv_two rfl (r1_cellA (i := 3) (vs := [_, _, _, _, _, _]) tf52 rfl rfl rfl rfl) (r1_tmp rfl)) ?_ (by rw [(read_no (by omega) hb).1]; rfl)
          rw [(read_no (by omega) hb).1, (read_no (by omega) hb).2]; rfl
        · have hb : (!numB (((splitL s 32).drop 1).getD j.toNat default)) = false := hc43
          refine gk_skip ?_
          refine gk_region ?_
          refine gk_y rfl rfl (y_move rfl) ?_
          refine gk_y rfl rfl (y_move rfl) ?_
          refine gk_yx rfl rfl (yx_buildSlice rfl (bs71_1 _) Go.Stn.encI_ok rfl) fun b47 => ?_
          refine gk_append (m := [(numI (((splitL s 32).drop 1).getD (j).toNat default))]) 1 af71 Go.Stn.encI_ok rfl rfl rfl rfl (fun _ hw => (has_row Go.Stn.encI_ok (hw.has (p := 0) rfl))) (by first | omega | (simp only [List.length_cons, List.length_nil]; omega)) (by first | (unfold maxLen; omega) | (simp only [List.length_cons, List.length_nil, maxLen]; omega)) fun a48 c48 => ?_
          refine gk_y rfl rfl (y_assign rfl) ?_
          refine gk_nil (gk_sub (T' := [(2,_), (3,_), (4,_), (5,_), (31,_), (32,_), (33,_)]) ⟨rfl, rfl, rfl, rfl, rfl, rfl, rfl, trivial⟩ ?_)
          refine gk_region ?_
          refine gk_y rfl rfl (y_addI rfl rfl (by omega) (by omega)) ?_
          refine gk_y rfl rfl (y_move rfl) ?_
          refine gk_nil (gk_sub (T' := [(2,_), (3,_), (4,_), (5,_), (31,_), (32,_), (33,_)]) ⟨rfl, rfl, rfl, rfl, rfl, rfl, rfl, trivial⟩ ?_)
          refine gk_dropAt 0 rfl ?_
          exact gk_next (j + 1, a48, c48, N ++ [numI (((splitL s 32).drop 1).getD j.toNat default)]) ⟨rfl, rfl, rfl, rfl, rfl, rfl, rfl, trivial⟩ rfl ⟨by omega, by omega, nums_step j0 hc34 hN, below_nat (f := fun k => !numB (((splitL s 32).drop 1).getD k default)) j0 j2 hb⟩ (by simp only []; omega)
      · have hc34 := of_decide_eq_false hc34
        have hN1 : N = ((splitL s 32).drop 1).map numI := by rw [hN, List.take_of_length_le (by omega)]
        have hNl : N.length = (splitL s 32).length - 1 := by rw [hN1]; simp
        have hall : ∀ k : Nat, (k : Int) < (((splitL s 32).drop 1).length : Int) → (!numB (((splitL s 32).drop 1).getD k default)) = false := fun k hk => j2 k (by omega)
        refine gk_exit rfl ?_
        refine gk_seq ?_
        refine gk_any 18 (fun _ => mixed) (by kernel_rfl) ?_
        refine ph_y (y_move rfl) ?_
        refine ph_y (y_indexE se93 rfl rfl (fun _ hw => (has_row encS_ok (hw.has (p := 1) rfl))) (by omega) (by omega)) ?_
        refine ph_y (y_loadE1 tf9 rfl (fun _ hw => (has_row encS_ok (hw.has (p := 1) rfl))) (by omega) (by omega) rfl) ?_
        refine ph_y (y_move rfl) ?_
        refine ph_y (y_indexE se71 rfl rfl (fun _ hw => (has_row Go.Stn.encI_ok (hw.has (p := 0) rfl))) (by omega) (by omega)) ?_
        refine ph_y (y_loadE1 tf3 rfl (fun _ hw => (has_row Go.Stn.encI_ok (hw.has (p := 0) rfl))) (by omega) (by omega) rfl) ?_
        refine ph_y (y_move rfl) ?_
        refine ph_y (y_indexE se71 rfl rfl (fun _ hw => (has_row Go.Stn.encI_ok (hw.has (p := 0) rfl))) (by omega) (by omega)) ?_
        refine ph_y (y_loadE1 tf3 rfl (fun _ hw => (has_row Go.Stn.encI_ok (hw.has (p := 0) rfl))) (by omega) (by omega) rfl) ?_
        refine ph_y (y_move rfl) ?_
        refine ph_y (y_indexE se71 rfl rfl (fun _ hw => (has_row Go.Stn.encI_ok (hw.has (p := 0) rfl))) (by omega) (by omega)) ?_
        refine ph_y (y_loadE1 tf3 rfl (fun _ hw => (has_row Go.Stn.encI_ok (hw.has (p := 0) rfl))) (by omega) (by omega) rfl) ?_
        refine ph_y (y_move rfl) ?_
        refine ph_y (y_indexE se71 rfl rfl (fun _ hw => (has_row Go.Stn.encI_ok (hw.has (p := 0) rfl))) (by omega) (by omega)) ?_
        refine ph_y (y_loadE1 tf3 rfl (fun _ hw => (has_row Go.Stn.encI_ok (hw.has (p := 0) rfl))) (by omega) (by omega) rfl) ?_
        refine ph_y (y_buildL rfl (bd50_0i_1i _ _)) ?_
        refine ph_y (y_buildL rfl (bd52_0s_2i_3i_4ii _ _ _ _ _)) ?_
        refine ph_yx (yx_alloc tf52 (zs := [_, _, _, _, _, _]) rfl) ?_
        intro b10
        refine gk_sub (T' := [(2,_), (3,_), (5,_), (10,_), (66,_)]) ⟨rfl, rfl, rfl, rfl, rfl, trivial⟩ ?_
        refine gk_storeV 0 tf52 rfl rfl (vs := [_, _, _, _, _, _]) rfl rfl rfl rfl rfl ?_
        refine gk_nil (gk_sub (T' := [(2,_), (3,_), (5,_), (10,_)]) ⟨rfl, rfl, rfl, rfl, trivial⟩ ?_)
        refine gk_seq ?_
        refine gk_seq ?_
        refine gk_region ?_
        refine gk_y rfl rfl (y_assign rfl) ?_
        refine gk_nil (gk_sub (T' := [(2,_), (3,_), (5,_), (10,_), (11,_)]) ⟨rfl, rfl, rfl, rfl, rfl, trivial⟩ ?_)
        refine gk_block ?_
        refine gk_newNil 50 encPt 2 ?_
        refine gk_loop (X := Int × Option Addr × Nat × List Pt) (fun ⟨k, q, qc, Q⟩ => [(2, .pointer (some ⟨b2, 0, none⟩)), (3, .bool false), (5, .slice b N.length bc), (10, .pointer (some ⟨b10, 0, none⟩)), (11, .int .i64 k)]) (fun ⟨k, q, qc, Q⟩ => [Row q 2 qc 50 encPt Q, Box b10 [.string ((splitL s 32).getD (0 : Int).toNat default), .slice q Q.length qc, .int .i64 (N.getD (0 : Int).toNat default), .int .i64 (N.getD (1 : Int).toNat default), .int .i64 (N.getD (2 : Int).toNat default), .int .i64 (N.getD (3 : Int).toNat default)] 52, Row b 1 bc 3 Go.Stn.encI N, Row (some ⟨p13, 0, none⟩) 1 (splitL s 32).length 9 encS (splitL s 32), Box b2 [.string ⟨#[]⟩, .slice none 0 0, .int .i64 0, .int .i64 0, .int .i64 0, .int .i64 0] 52]) (fun ⟨k, q, qc, Q⟩ => (4 ≤ k ∧ k ≤ N.length ∧ k % 2 = 0 ∧ Q = ptsN N ((k - 4) / 2).toNat)) (fun ⟨k, q, qc, Q⟩ => (N.length - k).toNat) (4, none, 0, []) ⟨rfl, rfl, rfl, rfl, rfl, trivial⟩ rfl ?_ ?_
        · exact ⟨by omega, by omega, by omega, rfl⟩
        · rintro ⟨k, q, qc, Q⟩ hI
          obtain ⟨k0, k1, k2, hQ⟩ := hI
          have hQl : (Q.length : Int) = (k - 4) / 2 := by rw [hQ, ptsN_len]; omega
          refine gk_seq ?_
          refine gk_seq ?_
          refine gk_region ?_
          refine gk_y rfl rfl (y_move rfl) ?_
          refine gk_y rfl rfl (y_move rfl) ?_
          refine gk_y rfl rfl (y_lenS (Tryz.underlying71) rfl) ?_
          refine gk_y rfl rfl (y_lss rfl rfl) ?_
          refine gk_nil (gk_sub (T' := [(2,_), (3,_), (5,_), (10,_), (11,_), (70,_)]) ⟨rfl, rfl, rfl, rfl, rfl, rfl, trivial⟩ ?_)
          refine gk_cond rfl (fun hc70 => ?_) (fun hc70 => ?_)
          · have hc70 := of_decide_eq_true hc70
            refine gk_skip ?_
            refine gk_seq ?_
            refine gk_block ?_
            refine gk_any 13 (fun _ => mixed) (by kernel_rfl) ?_
            refine ph_y (y_fieldAddr fo52_1 rfl) ?_
            refine ph_y (y_loadB1 1 tf49 rfl rfl rfl) ?_
            refine ph_y (y_move rfl) ?_
            refine ph_y (y_move rfl) ?_
            refine ph_y (y_indexE se71 rfl rfl (fun _ hw => (has_row Go.Stn.encI_ok (hw.has (p := 2) rfl))) (by omega) (by omega)) ?_
            refine ph_y (y_loadE1 tf3 rfl (fun _ hw => (has_row Go.Stn.encI_ok (hw.has (p := 2) rfl))) (by omega) (by omega) rfl) ?_
            refine ph_y (y_move rfl) ?_
            refine ph_y (y_move rfl) ?_
            refine ph_y (y_addI rfl rfl (by omega) (by omega)) ?_
            refine ph_y (y_indexE se71 rfl rfl (fun _ hw => (has_row Go.Stn.encI_ok (hw.has (p := 2) rfl))) (by omega) (by omega)) ?_
            refine ph_y (y_loadE1 tf3 rfl (fun _ hw => (has_row Go.Stn.encI_ok (hw.has (p := 2) rfl))) (by omega) (by omega) rfl) ?_
            refine ph_y (y_buildL rfl (bd50_0i_1i _ _)) ?_
            refine ph_yx (yx_buildSlice rfl (bs49_1 _ _) encPt_ok rfl) ?_
            intro b85
            refine gk_sub (T' := [(2,_), (3,_), (5,_), (10,_), (11,_), (74,_), (85,_)]) ⟨rfl, rfl, rfl, rfl, rfl, rfl, rfl, trivial⟩ ?_
            refine gk_append (m := [⟨(N.getD (k).toNat default), (N.getD ((k + 1)).toNat default)⟩]) 1 af49 encPt_ok rfl rfl rfl rfl (fun _ hw => (has_row encPt_ok (hw.has (p := 0) rfl))) (by first | omega | (simp only [List.length_cons, List.length_nil]; omega)) (by first | (unfold maxLen; omega) | (simp only [List.length_cons, List.length_nil, maxLen]; omega)) fun a86 c86 => ?_
            refine gk_y rfl rfl (y_fieldAddr fo52_1 rfl) ?_
            refine gk_storeV 2 tf49 rfl rfl (vs := [_]) rfl rfl rfl rfl rfl ?_
            refine gk_nil (gk_sub (T' := [(2,_), (3,_), (5,_), (10,_), (11,_)]) ⟨rfl, rfl, rfl, rfl, rfl, trivial⟩ ?_)
            refine gk_region ?_
            refine gk_y rfl rfl (y_move rfl) ?_
            refine gk_y rfl rfl (y_addI rfl rfl (by omega) (by omega)) ?_
            refine gk_y rfl rfl (y_assign rfl) ?_
            refine gk_nil (gk_sub (T' := [(2,_), (3,_), (5,_), (10,_), (11,_)]) ⟨rfl, rfl, rfl, rfl, rfl, trivial⟩ ?_)
            refine gk_dropAt 0 rfl ?_
            exact gk_next (k + 2, a86, c86, Q ++ [(⟨N.getD k.toNat default, N.getD (k + 1).toNat default⟩ : Pt)]) ⟨rfl, rfl, rfl, rfl, rfl, trivial⟩ rfl ⟨by omega, by omega, by omega, ptsN_step k0 k2 hQ⟩ (by simp only []; omega)
          · have hc70 := of_decide_eq_false hc70
            have hQ1 : Q = ptsN N ((((splitL s 32).length : Int) - 5) / 2).toNat := by rw [hQ, show (k - 4) / 2 = (((splitL s 32).length : Int) - 5) / 2 from by omega]
            refine gk_exit rfl ?_
            refine gk_seq ?_
            refine gk_region ?_
            refine gk_y rfl rfl (y_loadBA 1 tf52 rfl rfl (vs := [_, _, _, _, _, _]) rfl rfl) ?_
            refine gk_storeV 4 tf52 rfl rfl (vs := [_, _, _, _, _, _]) rfl rfl rfl rfl rfl ?_
            refine gk_y rfl rfl (y_assign rfl) ?_
            refine gk_nil (gk_sub (T' := [(2,_), (3,_)]) ⟨rfl, rfl, trivial⟩ ?_)
            refine gk_ret ?_
            refine gk_gives (q, qc) 0 (rv_two rfl (r1_cellA (i := 4) (vs := [_, _, _, _, _, _]) tf52 rfl rfl rfl rfl) (r1_tmp rfl)) ?_ (by rw [(read_yes hW hall).1]; show some (Row q 2 qc 50 encPt Q) = some (Row q 2 qc 50 encPt (ptsN (((splitL s 32).drop 1).map numI) _)); rw [hQ1, hN1])
            rw [(read_yes hW hall).1, (read_yes hW hall).2]; subst hQ1; subst hN1; rfl
set_option maxRecDepth 100000 in
set_option maxHeartbeats 4000000 in
theorem rread_c (s : ByteArray) (w : World) (hsz : s.size ≤ 1000000) :
    Calls Tryz.prog 46 #[.string s] w (Gives (fun z : Option Addr × Nat => .tuple #[stnV (readS (splitL s 32)) z.1 z.2, .bool (readOk (splitL s 32))]) (fun z => Row z.1 2 z.2 26 encPt (readS (splitL s 32)).shape) w) := by
  have hn1 := (split_num s 32).1
  have hn2 := (split_num s 32).2
  refine calls_of_gk (vs := [_]) Tryz.func46 rfl rfl (Nat.le_of_ble_eq_true rfl) ?_
  refine gk_seq ?_
  refine gk_region ?_
  refine gk_yx rfl rfl (yx_alloc tf28 (zs := [_, _, _, _, _, _]) rfl) fun b2 => ?_
  refine gk_y rfl rfl (y_assign rfl) ?_
  refine gk_nil (gk_sub (T' := [(0,_), (2,_), (3,_)]) ⟨rfl, rfl, rfl, trivial⟩ ?_)
  refine gk_seq ?_
  refine gk_region ?_
  refine gk_y rfl rfl (y_move rfl) ?_
  refine gk_yx rfl rfl (yx_call en45 rfl (fun w hw => rcut_c _ 32 w (by omega))) fun p12 => ?_
  refine gk_y rfl rfl (y_assign rfl) ?_
  refine gk_nil (gk_sub (T' := [(2,_), (3,_), (4,_)]) ⟨rfl, rfl, rfl, trivial⟩ ?_)
  refine gk_seq ?_
  refine gk_seq ?_
  refine gk_any 15 (fun _ => mixed) (by kernel_rfl) ?_
  refine ph_y (y_move rfl) ?_
  refine ph_y (y_lenS (Tryz.underlying93) rfl) ?_
  refine ph_y (y_lss rfl rfl) ?_
  refine ph_y (y_move rfl) ?_
  refine ph_gF rfl rfl (fun hgd => by (try rw [hgd]); (try have hgd2 := words_pos hgd); exact (y_move rfl)) ?_
  refine ph_gF rfl rfl (fun hgd => by (try rw [hgd]); (try have hgd2 := words_pos hgd); exact (y_lenS (Tryz.underlying93) rfl)) ?_
  refine ph_gF rfl rfl (fun hgd => by (try rw [hgd]); (try have hgd2 := words_pos hgd); exact (y_rem rfl rfl (by omega))) ?_
  refine ph_gF rfl rfl (fun hgd => by (try rw [hgd]); (try have hgd2 := words_pos hgd); exact (y_eql rfl rfl)) ?_
  refine ph_y (y_pickOr rfl rfl rfl) ?_
  refine ph_y (y_move rfl) ?_
  refine ph_gF rfl rfl (fun hgd => by (try rw [hgd]); (try have hgd2 := words_pos hgd); exact (y_move rfl)) ?_
  refine ph_gF rfl rfl (fun hgd => by (try rw [hgd]); (try have hgd2 := words_pos hgd); exact (y_indexE se93 rfl rfl (fun _ hw => (has_row encS_ok (hw.has (p := 0) rfl))) (by omega) (by omega))) ?_
  refine ph_gF rfl rfl (fun hgd => by (try rw [hgd]); (try have hgd2 := words_pos hgd); exact (y_loadE1 tf9 rfl (fun _ hw => (has_row encS_ok (hw.has (p := 0) rfl))) (by omega) (by omega) rfl)) ?_
  refine ph_gF rfl rfl (fun hgd => by (try rw [hgd]); (try have hgd2 := words_pos hgd); exact (y_strEq rfl rfl)) ?_
  refine ph_y (y_pickOr rfl rfl rfl) ?_
  refine gk_nil (gk_sub (T' := [(2,_), (3,_), (4,_), (27,_)]) ⟨rfl, rfl, rfl, rfl, trivial⟩ ?_)
  refine gk_cond rfl (fun hc27 => ?_) (fun hc27 => ?_)
  · have hW : wordBad (splitL s 32) = true := hc27
    refine gk_newNil 26 encPt 2 ?_
    refine gk_seq ?_
    refine gk_region ?_
    refine gk_y rfl rfl (y_buildL (parts := []) rfl bd28_) ?_
    refine gk_storeV 2 tf28 rfl rfl (vs := [_, _, _, _, _, _]) rfl rfl rfl rfl rfl ?_
    refine gk_y rfl rfl (y_assign rfl) ?_
    refine gk_nil (gk_sub (T' := [(2,_), (3,_), (4,_)]) ⟨rfl, rfl, rfl, trivial⟩ ?_)
    refine gk_ret ?_
    refine gk_gives (none, 0) 0 (rv_two rfl (r1_cellA (i := 2) (vs := [_, _, _, _, _, _]) tf28 rfl rfl rfl rfl) (r1_tmp rfl)) ?_ (by rw [(read_bad hW).1]; rfl)
    rw [(read_bad hW).1, (read_bad hW).2]; rfl
  · have hW : wordBad (splitL s 32) = false := hc27
    obtain ⟨hW1, hW2⟩ := words_ok hW
    have hDl : ((splitL s 32).drop 1).length = (splitL s 32).length - 1 := List.length_drop
    refine gk_skip ?_
    refine gk_seq ?_
    refine gk_region ?_
    refine gk_y rfl rfl (y_assign rfl) ?_
    refine gk_nil (gk_sub (T' := [(2,_), (3,_), (4,_), (5,_)]) ⟨rfl, rfl, rfl, rfl, trivial⟩ ?_)
    refine gk_seq ?_
    refine gk_seq ?_
    refine gk_region ?_
    refine gk_y rfl rfl (y_assign rfl) ?_
    refine gk_nil (gk_sub (T' := [(2,_), (3,_), (4,_), (5,_), (6,_)]) ⟨rfl, rfl, rfl, rfl, rfl, trivial⟩ ?_)
    refine gk_block ?_
    refine gk_newNil 3 Go.Stn.encI 1 ?_
    refine gk_loop (X := Int × Option Addr × Nat × List Int) (fun ⟨i, b, bc, N⟩ => [(2, .pointer (some ⟨b2, 0, none⟩)), (3, .bool false), (4, .slice p12.1 (splitL s 32).length p12.2), (5, .slice b N.length bc), (6, .int .i64 i)]) (fun ⟨i, b, bc, N⟩ => [Row b 1 bc 3 Go.Stn.encI N, Row p12.1 1 p12.2 9 encS (splitL s 32), Box b2 [.string ⟨#[]⟩, .slice none 0 0, .int .i64 0, .int .i64 0, .int .i64 0, .int .i64 0] 28]) (fun ⟨i, b, bc, N⟩ => (1 ≤ i ∧ i ≤ (splitL s 32).length ∧ N = (((splitL s 32).drop 1).take (i - 1).toNat).map numI ∧ ∀ k : Nat, (k : Int) < i - 1 → (!numB (((splitL s 32).drop 1).getD k default)) = false)) (fun ⟨i, b, bc, N⟩ => ((splitL s 32).length - i).toNat) (1, none, 0, []) ⟨rfl, rfl, rfl, rfl, rfl, trivial⟩ rfl ?_ ?_
    · exact ⟨by omega, by omega, rfl, fun k hk => by omega⟩
    · rintro ⟨i, b, bc, N⟩ hI
      obtain ⟨j0, j1, hN, j2⟩ := hI
      have hNlen : (N.length : Int) = i - 1 := by rw [hN, List.length_map, List.length_take]; omega
      refine gk_seq ?_
      refine gk_seq ?_
      refine gk_region ?_
      refine gk_y rfl rfl (y_move rfl) ?_
      refine gk_y rfl rfl (y_move rfl) ?_
      refine gk_y rfl rfl (y_lenS (Tryz.underlying93) rfl) ?_
      refine gk_y rfl rfl (y_lss rfl rfl) ?_
      refine gk_nil (gk_sub (T' := [(2,_), (3,_), (4,_), (5,_), (6,_), (32,_)]) ⟨rfl, rfl, rfl, rfl, rfl, rfl, trivial⟩ ?_)
      refine gk_cond rfl (fun hc32 => ?_) (fun hc32 => ?_)
      · have hc32 := of_decide_eq_true hc32
        have hws := word_sizeD (s := s) (c := 32) (i := i.toNat) (by omega)
        refine gk_skip ?_
        refine gk_seq ?_
        refine gk_block ?_
        refine gk_seq ?_
        refine gk_region ?_
        refine gk_y rfl rfl (y_move rfl) ?_
        refine gk_y rfl rfl (y_move rfl) ?_
        refine gk_y rfl rfl (y_indexE se93 rfl rfl (fun _ hw => (has_row encS_ok (hw.has (p := 1) rfl))) (by omega) (by omega)) ?_
        refine gk_y rfl rfl (y_loadE1 tf9 rfl (fun _ hw => (has_row encS_ok (hw.has (p := 1) rfl))) (by omega) (by omega) rfl) ?_
        refine gk_y rfl rfl (y_call en82 rfl (fun w hw => rnumber_c _ w (by omega))) ?_
        refine gk_y rfl rfl (y_move rfl) ?_
        refine gk_y rfl rfl (y_extract rfl rfl) ?_
        refine gk_y rfl rfl (y_extract rfl rfl) ?_
        refine gk_y rfl rfl (y_assign rfl) ?_
        refine gk_y rfl rfl (y_assign rfl) ?_
        refine gk_nil (gk_sub (T' := [(2,_), (3,_), (4,_), (5,_), (6,_), (7,_), (8,_)]) ⟨rfl, rfl, rfl, rfl, rfl, rfl, rfl, trivial⟩ ?_)
        refine gk_seq ?_
        refine gk_seq ?_
        refine gk_region ?_
        refine gk_y rfl rfl (y_move rfl) ?_
        refine gk_y rfl rfl (y_not rfl) ?_
        refine gk_nil (gk_sub (T' := [(2,_), (3,_), (4,_), (5,_), (6,_), (7,_), (44,_)]) ⟨rfl, rfl, rfl, rfl, rfl, rfl, rfl, trivial⟩ ?_)
        refine gk_cond rfl (fun hc44 => ?_) (fun hc44 => ?_)
        · have hb : numB ((splitL s 32).getD i.toNat default) = false := by simpa using hc44
          refine gk_newNil 26 encPt 2 ?_
          refine gk_seq ?_
          refine gk_region ?_
          refine gk_y rfl rfl (y_buildL (parts := []) rfl bd28_) ?_
          refine gk_storeV 3 tf28 rfl rfl (vs := [_, _, _, _, _, _]) rfl rfl rfl rfl rfl ?_
          refine gk_y rfl rfl (y_assign rfl) ?_
          refine gk_nil (gk_sub (T' := [(2,_), (3,_), (4,_), (5,_), (6,_), (7,_)]) ⟨rfl, rfl, rfl, rfl, rfl, rfl, trivial⟩ ?_)
          refine gk_ret ?_
          refine gk_gives (none, 0) 0 (rv_two rfl (r1_cellA (i := 3) (vs := [_, _, _, _, _, _]) tf28 rfl rfl rfl rfl) (r1_tmp rfl)) ?_ (by rw [(rread_no j0 hc32 hb).1]; rfl)
          rw [(rread_no j0 hc32 hb).1, (rread_no j0 hc32 hb).2]; rfl
        · have hb : (!numB ((splitL s 32).getD i.toNat default)) = false := hc44
          refine gk_skip ?_
          refine gk_region ?_
          refine gk_y rfl rfl (y_move rfl) ?_
          refine gk_y rfl rfl (y_move rfl) ?_
          refine gk_yx rfl rfl (yx_buildSlice rfl (bs71_1 _) Go.Stn.encI_ok rfl) fun b48 => ?_
          refine gk_append (m := [(rnumI ((splitL s 32).getD (i).toNat default))]) 1 af71 Go.Stn.encI_ok rfl rfl rfl rfl (fun _ hw => (has_row Go.Stn.encI_ok (hw.has (p := 0) rfl))) (by first | omega | (simp only [List.length_cons, List.length_nil]; omega)) (by first | (unfold maxLen; omega) | (simp only [List.length_cons, List.length_nil, maxLen]; omega)) fun a49 c49 => ?_
          refine gk_y rfl rfl (y_assign rfl) ?_
          refine gk_nil (gk_sub (T' := [(2,_), (3,_), (4,_), (5,_), (6,_)]) ⟨rfl, rfl, rfl, rfl, rfl, trivial⟩ ?_)
          refine gk_region ?_
          refine gk_y rfl rfl (y_move rfl) ?_
          refine gk_y rfl rfl (y_addI rfl rfl (by omega) (by omega)) ?_
          refine gk_y rfl rfl (y_assign rfl) ?_
          refine gk_nil (gk_sub (T' := [(2,_), (3,_), (4,_), (5,_), (6,_)]) ⟨rfl, rfl, rfl, rfl, rfl, trivial⟩ ?_)
          refine gk_dropAt 0 rfl ?_
          exact gk_next (i + 1, a49, c49, N ++ [rnumI ((splitL s 32).getD i.toNat default)]) ⟨rfl, rfl, rfl, rfl, rfl, trivial⟩ rfl ⟨by omega, by omega, rnums_step j0 hc32 hN hb, rall_step j0 j2 hb⟩ (by simp only []; omega)
      · have hc32 := of_decide_eq_false hc32
        have hN1 : N = ((splitL s 32).drop 1).map numI := by rw [hN, List.take_of_length_le (by omega)]
        have hNl : N.length = (splitL s 32).length - 1 := by rw [hN1]; simp
        have hall : ∀ k : Nat, (k : Int) < (((splitL s 32).drop 1).length : Int) → (!numB (((splitL s 32).drop 1).getD k default)) = false := fun k hk => j2 k (by omega)
        refine gk_exit rfl ?_
        refine gk_seq ?_
        refine gk_any 18 (fun _ => mixed) (by kernel_rfl) ?_
        refine ph_y (y_move rfl) ?_
        refine ph_y (y_indexE se93 rfl rfl (fun _ hw => (has_row encS_ok (hw.has (p := 1) rfl))) (by omega) (by omega)) ?_
        refine ph_y (y_loadE1 tf9 rfl (fun _ hw => (has_row encS_ok (hw.has (p := 1) rfl))) (by omega) (by omega) rfl) ?_
        refine ph_y (y_move rfl) ?_
        refine ph_y (y_indexE se71 rfl rfl (fun _ hw => (has_row Go.Stn.encI_ok (hw.has (p := 0) rfl))) (by omega) (by omega)) ?_
        refine ph_y (y_loadE1 tf3 rfl (fun _ hw => (has_row Go.Stn.encI_ok (hw.has (p := 0) rfl))) (by omega) (by omega) rfl) ?_
        refine ph_y (y_move rfl) ?_
        refine ph_y (y_indexE se71 rfl rfl (fun _ hw => (has_row Go.Stn.encI_ok (hw.has (p := 0) rfl))) (by omega) (by omega)) ?_
        refine ph_y (y_loadE1 tf3 rfl (fun _ hw => (has_row Go.Stn.encI_ok (hw.has (p := 0) rfl))) (by omega) (by omega) rfl) ?_
        refine ph_y (y_move rfl) ?_
        refine ph_y (y_indexE se71 rfl rfl (fun _ hw => (has_row Go.Stn.encI_ok (hw.has (p := 0) rfl))) (by omega) (by omega)) ?_
        refine ph_y (y_loadE1 tf3 rfl (fun _ hw => (has_row Go.Stn.encI_ok (hw.has (p := 0) rfl))) (by omega) (by omega) rfl) ?_
        refine ph_y (y_move rfl) ?_
        refine ph_y (y_indexE se71 rfl rfl (fun _ hw => (has_row Go.Stn.encI_ok (hw.has (p := 0) rfl))) (by omega) (by omega)) ?_
        refine ph_y (y_loadE1 tf3 rfl (fun _ hw => (has_row Go.Stn.encI_ok (hw.has (p := 0) rfl))) (by omega) (by omega) rfl) ?_
        refine ph_y (y_buildL rfl (bd26_0i_1i _ _)) ?_
        refine ph_y (y_buildL rfl (bd28_0s_2i_3i_4ii _ _ _ _ _)) ?_
        refine ph_yx (yx_alloc tf28 (zs := [_, _, _, _, _, _]) rfl) ?_
        intro b9
        refine gk_sub (T' := [(2,_), (3,_), (5,_), (9,_), (66,_)]) ⟨rfl, rfl, rfl, rfl, rfl, trivial⟩ ?_
        refine gk_storeV 0 tf28 rfl rfl (vs := [_, _, _, _, _, _]) rfl rfl rfl rfl rfl ?_
        refine gk_nil (gk_sub (T' := [(2,_), (3,_), (5,_), (9,_)]) ⟨rfl, rfl, rfl, rfl, trivial⟩ ?_)
        refine gk_seq ?_
        refine gk_seq ?_
        refine gk_region ?_
        refine gk_y rfl rfl (y_assign rfl) ?_
        refine gk_nil (gk_sub (T' := [(2,_), (3,_), (5,_), (9,_), (10,_)]) ⟨rfl, rfl, rfl, rfl, rfl, trivial⟩ ?_)
        refine gk_block ?_
        refine gk_newNil 26 encPt 2 ?_
        refine gk_loop (X := Int × Option Addr × Nat × List Pt) (fun ⟨k, q, qc, Q⟩ => [(2, .pointer (some ⟨b2, 0, none⟩)), (3, .bool false), (5, .slice b N.length bc), (9, .pointer (some ⟨b9, 0, none⟩)), (10, .int .i64 k)]) (fun ⟨k, q, qc, Q⟩ => [Row q 2 qc 26 encPt Q, Box b9 [.string ((splitL s 32).getD (0 : Int).toNat default), .slice q Q.length qc, .int .i64 (N.getD (0 : Int).toNat default), .int .i64 (N.getD (1 : Int).toNat default), .int .i64 (N.getD (2 : Int).toNat default), .int .i64 (N.getD (3 : Int).toNat default)] 28, Row b 1 bc 3 Go.Stn.encI N, Row p12.1 1 p12.2 9 encS (splitL s 32), Box b2 [.string ⟨#[]⟩, .slice none 0 0, .int .i64 0, .int .i64 0, .int .i64 0, .int .i64 0] 28]) (fun ⟨k, q, qc, Q⟩ => (4 ≤ k ∧ k ≤ N.length ∧ k % 2 = 0 ∧ Q = ptsN N ((k - 4) / 2).toNat)) (fun ⟨k, q, qc, Q⟩ => (N.length - k).toNat) (4, none, 0, []) ⟨rfl, rfl, rfl, rfl, rfl, trivial⟩ rfl ?_ ?_
        · exact ⟨by omega, by omega, by omega, rfl⟩
        · rintro ⟨k, q, qc, Q⟩ hI
          obtain ⟨k0, k1, k2, hQ⟩ := hI
          have hQl : (Q.length : Int) = (k - 4) / 2 := by rw [hQ, ptsN_len]; omega
          refine gk_seq ?_
          refine gk_seq ?_
          refine gk_region ?_
          refine gk_y rfl rfl (y_move rfl) ?_
          refine gk_y rfl rfl (y_addI rfl rfl (by omega) (by omega)) ?_
          refine gk_y rfl rfl (y_move rfl) ?_
          refine gk_y rfl rfl (y_lenS (Tryz.underlying71) rfl) ?_
          refine gk_y rfl rfl (y_lss rfl rfl) ?_
          refine gk_nil (gk_sub (T' := [(2,_), (3,_), (5,_), (9,_), (10,_), (71,_)]) ⟨rfl, rfl, rfl, rfl, rfl, rfl, trivial⟩ ?_)
          refine gk_cond rfl (fun hc71 => ?_) (fun hc71 => ?_)
          · have hc71 := of_decide_eq_true hc71
            refine gk_skip ?_
            refine gk_seq ?_
            refine gk_block ?_
            refine gk_any 13 (fun _ => mixed) (by kernel_rfl) ?_
            refine ph_y (y_fieldAddr fo28_1 rfl) ?_
            refine ph_y (y_loadB1 1 tf24 rfl rfl rfl) ?_
            refine ph_y (y_move rfl) ?_
            refine ph_y (y_move rfl) ?_
            refine ph_y (y_indexE se71 rfl rfl (fun _ hw => (has_row Go.Stn.encI_ok (hw.has (p := 2) rfl))) (by omega) (by omega)) ?_
            refine ph_y (y_loadE1 tf3 rfl (fun _ hw => (has_row Go.Stn.encI_ok (hw.has (p := 2) rfl))) (by omega) (by omega) rfl) ?_
            refine ph_y (y_move rfl) ?_
            refine ph_y (y_move rfl) ?_
            refine ph_y (y_addI rfl rfl (by omega) (by omega)) ?_
            refine ph_y (y_indexE se71 rfl rfl (fun _ hw => (has_row Go.Stn.encI_ok (hw.has (p := 2) rfl))) (by omega) (by omega)) ?_
            refine ph_y (y_loadE1 tf3 rfl (fun _ hw => (has_row Go.Stn.encI_ok (hw.has (p := 2) rfl))) (by omega) (by omega) rfl) ?_
            refine ph_y (y_buildL rfl (bd26_0i_1i _ _)) ?_
            refine ph_yx (yx_buildSlice rfl (bs24_1 _ _) encPt_ok rfl) ?_
            intro b86
            refine gk_sub (T' := [(2,_), (3,_), (5,_), (9,_), (10,_), (75,_), (86,_)]) ⟨rfl, rfl, rfl, rfl, rfl, rfl, rfl, trivial⟩ ?_
            refine gk_append (m := [⟨(N.getD (k).toNat default), (N.getD ((k + 1)).toNat default)⟩]) 1 af24 encPt_ok rfl rfl rfl rfl (fun _ hw => (has_row encPt_ok (hw.has (p := 0) rfl))) (by first | omega | (simp only [List.length_cons, List.length_nil]; omega)) (by first | (unfold maxLen; omega) | (simp only [List.length_cons, List.length_nil, maxLen]; omega)) fun a87 c87 => ?_
            refine gk_y rfl rfl (y_fieldAddr fo28_1 rfl) ?_
            refine gk_storeV 2 tf24 rfl rfl (vs := [_]) rfl rfl rfl rfl rfl ?_
            refine gk_nil (gk_sub (T' := [(2,_), (3,_), (5,_), (9,_), (10,_)]) ⟨rfl, rfl, rfl, rfl, rfl, trivial⟩ ?_)
            refine gk_region ?_
            refine gk_y rfl rfl (y_move rfl) ?_
            refine gk_y rfl rfl (y_addI rfl rfl (by omega) (by omega)) ?_
            refine gk_y rfl rfl (y_assign rfl) ?_
            refine gk_nil (gk_sub (T' := [(2,_), (3,_), (5,_), (9,_), (10,_)]) ⟨rfl, rfl, rfl, rfl, rfl, trivial⟩ ?_)
            refine gk_dropAt 0 rfl ?_
            exact gk_next (k + 2, a87, c87, Q ++ [(⟨N.getD k.toNat default, N.getD (k + 1).toNat default⟩ : Pt)]) ⟨rfl, rfl, rfl, rfl, rfl, trivial⟩ rfl ⟨by omega, by omega, by omega, ptsN_step k0 k2 hQ⟩ (by simp only []; omega)
          · have hc71 := of_decide_eq_false hc71
            have hQ1 : Q = ptsN N ((((splitL s 32).length : Int) - 5) / 2).toNat := by rw [hQ, show (k - 4) / 2 = (((splitL s 32).length : Int) - 5) / 2 from by omega]
            refine gk_exit rfl ?_
            refine gk_seq ?_
            refine gk_region ?_
            refine gk_y rfl rfl (y_loadBA 1 tf28 rfl rfl (vs := [_, _, _, _, _, _]) rfl rfl) ?_
            refine gk_storeV 4 tf28 rfl rfl (vs := [_, _, _, _, _, _]) rfl rfl rfl rfl rfl ?_
            refine gk_y rfl rfl (y_assign rfl) ?_
            refine gk_nil (gk_sub (T' := [(2,_), (3,_)]) ⟨rfl, rfl, trivial⟩ ?_)
            refine gk_ret ?_
            refine gk_gives (q, qc) 0 (rv_two rfl (r1_cellA (i := 4) (vs := [_, _, _, _, _, _]) tf28 rfl rfl rfl rfl) (r1_tmp rfl)) ?_ (by rw [(read_yes hW hall).1]; show some (Row q 2 qc 26 encPt Q) = some (Row q 2 qc 26 encPt (ptsN (((splitL s 32).drop 1).map numI) _)); rw [hQ1, hN1])
            rw [(read_yes hW hall).1, (read_yes hW hall).2]; subst hQ1; subst hN1; rfl
end Go.Proofs.YtmpaebfjnjmmlaaGreatDoor

namespace Go.Stn
open Go Go.K Go.RowKit Go.Proofs Go.Txt
def rowL (t : ByteArray) : ByteArray := mkB (Lib.cut t.data.toList [10]).1
def restL (t : ByteArray) : ByteArray := mkB (Lib.cut t.data.toList [10]).2.1
theorem parseR_one (row : List UInt8) (n : Int) (acc : List Stn) : parseR [row] n acc = parseR [row, []] n acc := by
  simp [parseR]
theorem parse_row (t : ByteArray) (n : Int) (acc : List Stn) : parseR (cutL 10 t.data.toList) n acc = parseR ((rowL t).data.toList :: cutL 10 (restL t).data.toList) n acc := by
  unfold rowL restL
  rcases cut_spec t.data.toList 10 with ⟨p, r, e1, e2, e3⟩ | ⟨e2, e3⟩
  · rw [e3]
    show _ = parseR (p :: cutL 10 r) n acc
    rw [e1, cutL_hit e2]
  · rw [e3]
    show _ = parseR (t.data.toList :: cutL 10 []) n acc
    rw [cutL_end e2]
    exact parseR_one _ _ _
theorem row_size (t : ByteArray) : (rowL t).size ≤ t.size := by
  unfold rowL
  rw [size_data, size_data t]
  rcases cut_spec t.data.toList 10 with ⟨p, r, e1, e2, e3⟩ | ⟨e2, e3⟩
  · rw [e3]; show p.length ≤ _; rw [e1]; simp
  · rw [e3]; exact Nat.le_refl _
theorem rest_size {t : ByteArray} (h : (!(t.toList == (⟨#[]⟩ : ByteArray).toList)) = true) : (restL t).size + 1 ≤ t.size := by
  have h0 : 0 < (t.size : Int) := str_pos (by rw [Bool.not_eq_true'] at h; rw [h]; simp)
  unfold restL
  rcases cut_spec t.data.toList 10 with ⟨p, r, e1, e2, e3⟩ | ⟨e2, e3⟩
  · rw [e3, size_data, size_data t]; show r.length + 1 ≤ _; rw [e1]; simp
  · rw [e3]; show 0 + 1 ≤ _; omega
theorem text_end {t : ByteArray} (h : (!(t.toList == (⟨#[]⟩ : ByteArray).toList)) = false) (n : Int) (acc : List Stn) : parseR (cutL 10 t.data.toList) n acc = (acc, 0, 0) := by
  rw [Lib.toList_data, Lib.toList_data] at h
  have : t.data.toList = [] := by simpa using h
  rw [this]; rfl
def parseP (s : ByteArray) : List Stn × Int × Int := if 40000 < (s.size : Int) then ([], 0, 5) else parseR (cutL 10 s.data.toList) 1 []
section
variable {row : ByteArray} {rest : List (List UInt8)} {n : Int} {acc : List Stn}
theorem p_nil (h : (row.toList == (⟨#[]⟩ : ByteArray).toList) = true) : parseR (row.data.toList :: rest) n acc = parseR rest (n + 1) acc := by
  rw [Lib.toList_data, Lib.toList_data] at h
  have : row.data.toList = [] := by simpa using h
  rw [parseR, if_pos this]
theorem row_ne (h : (row.toList == (⟨#[]⟩ : ByteArray).toList) = false) : ¬ row.data.toList = [] := fun e => by
  rw [Lib.toList_data, Lib.toList_data, e] at h
  simp at h
theorem p_full (h : (row.toList == (⟨#[]⟩ : ByteArray).toList) = false) (hl : acc.length = 200) : parseR (row.data.toList :: rest) n acc = ([], n, 5) := by
  rw [parseR, if_neg (row_ne h), if_pos hl]
theorem p_bad (h : (row.toList == (⟨#[]⟩ : ByteArray).toList) = false) (hl : ¬ acc.length = 200) (hr : readOk (splitL row 32) = false) : parseR (row.data.toList :: rest) n acc = ([], n, 4) := by
  rw [parseR, if_neg (row_ne h), if_neg hl, mkB_data, if_pos hr]
theorem p_check (h : (row.toList == (⟨#[]⟩ : ByteArray).toList) = false) (hl : ¬ acc.length = 200) (hr : readOk (splitL row 32) = true) (hc : ¬ checkI (readS (splitL row 32)) = 0) : parseR (row.data.toList :: rest) n acc = ([], n, 2) := by
  rw [parseR, if_neg (row_ne h), if_neg hl, mkB_data, if_neg (by rw [hr]; simp), if_pos hc]
theorem p_twice (h : (row.toList == (⟨#[]⟩ : ByteArray).toList) = false) (hl : ¬ acc.length = 200) (hr : readOk (splitL row 32) = true) (hc : checkI (readS (splitL row 32)) = 0) (ha : (acc.any fun s => s.name.toList == (readS (splitL row 32)).name.toList) = true) : parseR (row.data.toList :: rest) n acc = ([], n, 7) := by
  rw [parseR, if_neg (row_ne h), if_neg hl, mkB_data, if_neg (by rw [hr]; simp), if_neg (by rw [hc]; simp), if_pos ha]
theorem p_ok (h : (row.toList == (⟨#[]⟩ : ByteArray).toList) = false) (hl : ¬ acc.length = 200) (hr : readOk (splitL row 32) = true) (hc : checkI (readS (splitL row 32)) = 0) (ha : (acc.any fun s => s.name.toList == (readS (splitL row 32)).name.toList) = false) : parseR (row.data.toList :: rest) n acc = parseR rest (n + 1) (acc ++ [readS (splitL row 32)]) := by
  rw [parseR, if_neg (row_ne h), if_neg hl, mkB_data, if_neg (by rw [hr]; simp), if_neg (by rw [hc]; simp), if_neg (by rw [ha]; simp)]
end
theorem any_plain (L : List SC) (x : ByteArray) : ((plainL L).any fun s => s.name.toList == x.toList) = L.any fun z => z.s.name.toList == x.toList := by
  rw [List.any_map]; rfl
theorem any_none {L : List SC} {x : ByteArray} {k : Int} (hk : ¬ k < (L.length : Int)) (h : ∀ j : Nat, (j : Int) < k → ((L.getD j default).s.name.toList == x.toList) = false) : ((plainL L).any fun s => s.name.toList == x.toList) = false := by
  rw [any_plain, List.any_eq_false]
  intro z hz
  obtain ⟨j, hj, rfl⟩ := List.getElem_of_mem hz
  have := h j (by omega)
  rw [show L.getD j default = L[j] from by simp [hj]] at this
  rw [this]; simp
theorem any_some {L : List SC} {x : ByteArray} {k : Int} (h0 : 0 ≤ k) (hk : k < (L.length : Int)) (h : ((L.getD k.toNat default).s.name.toList == x.toList) = true) : ((plainL L).any fun s => s.name.toList == x.toList) = true := by
  rw [any_plain, List.any_eq_true]
  exact ⟨L.getD k.toNat default, by rw [List.getD_eq_getElem?_getD, List.getElem?_eq_getElem (by omega)]; exact List.getElem_mem _, h⟩
theorem plain_one (L : List SC) (s : Stn) (a : Option Addr) (c : Nat) : plainL (L ++ [(⟨s, a, c⟩ : SC)]) = plainL L ++ [s] := by simp
theorem parseR_len : ∀ (rows : List (List UInt8)) (n : Int) (acc : List Stn), acc.length ≤ 200 → (∀ z ∈ acc, z.shape.length ≤ 20) → (parseR rows n acc).1.length ≤ 200 ∧ ∀ z ∈ (parseR rows n acc).1, z.shape.length ≤ 20
  | [], n, acc, h1, h2 => ⟨h1, h2⟩
  | row :: r, n, acc, h1, h2 => by
    rw [parseR]
    split
    · exact parseR_len r _ _ h1 h2
    · split
      · exact ⟨by simp, fun z hz => by cases hz⟩
      · split
        · exact ⟨by simp, fun z hz => by cases hz⟩
        · split
          · exact ⟨by simp, fun z hz => by cases hz⟩
          · split
            · exact ⟨by simp, fun z hz => by cases hz⟩
            · rename_i g1 g2 g3 g4
              refine parseR_len r _ _ (by simp; omega) fun z hz => ?_
              rcases List.mem_append.1 hz with hz | hz
              · exact h2 z hz
              · rw [List.mem_singleton] at hz; subst hz; exact Nat.le_trans (check_len (by simpa using g3)).2 (by decide)
theorem parseP_len (s : ByteArray) : (parseP s).1.length ≤ 200 ∧ ∀ z ∈ (parseP s).1, z.shape.length ≤ 20 := by
  unfold parseP
  split
  · exact ⟨by simp, fun z hz => by cases hz⟩
  · exact parseR_len _ _ _ (by simp) (fun z hz => by cases hz)
theorem read_name (r : ByteArray) : (readS (splitL r 32)).name.size ≤ r.size := by
  unfold readS
  split
  · exact word_sizeD (c := 32) (i := 0) (by have := (split_num r 32).1; omega)
  · show 0 ≤ _; omega
theorem drop_row {R : List ByteArray} {i : Int} (h0 : 0 ≤ i) (h1 : i < (R.length : Int)) : (R.map (·.data.toList)).drop i.toNat = (R.getD i.toNat default).data.toList :: (R.map (·.data.toList)).drop (i + 1).toNat := by
  rw [List.drop_eq_getElem_cons (by rw [List.length_map]; omega), List.getElem_map, show (i + 1).toNat = i.toNat + 1 from by omega, List.getD_eq_getElem?_getD, List.getElem?_eq_getElem (by omega)]; rfl
theorem drop_end {R : List ByteArray} {i : Int} (h1 : ¬ i < (R.length : Int)) (n : Int) (acc : List Stn) : parseR ((R.map (·.data.toList)).drop i.toNat) n acc = (acc, 0, 0) := by
  rw [List.drop_of_length_le (by rw [List.length_map]; omega)]; rfl
theorem rvalid_no {s : Stn} (h : (!rvalidB s) = true) : ¬ checkI s = 0 := by
  rw [check_valid, if_neg (by simpa using h)]; decide
theorem rvalid_yes {s : Stn} (h : (!rvalidB s) = false) : checkI s = 0 := by
  rw [check_valid, if_pos (by simpa using h)]
end Go.Stn

namespace Go.Proofs.YtmpaebfjnjmmlaaGreatDoor
open Go.K Go.Stn Go.RowKit
theorem en81 : En Tryz.prog 81 := en_of Tryz.func81 (by kernel_rfl) (by kernel_rfl)
theorem en44s : En Tryz.prog 44 := en_of Tryz.func44 (by kernel_rfl) (by kernel_rfl)
set_option maxRecDepth 100000 in
set_option maxHeartbeats 1000000 in
theorem indexfuncS_c (a : Option Addr) (cap : Nat) (L : List SC) (f : SC → Bool) (gg : FuncId) (gcap : List Value) (w : World) (hl : Has w (Elems a 6 encSC L)) (hs : Small L.length) (M : World → Prop) (hM : ∀ w', Ext w w' → M w') (hen : En Tryz.prog gg) (hg : ∀ (z : SC) w', M w' → Calls Tryz.prog gg ([Value.agg #[.string z.s.name, .slice z.a z.s.shape.length z.cap, .int .i64 z.s.depth, .int .i64 z.s.density, .int .i64 z.s.grain.x, .int .i64 z.s.grain.z]] ++ gcap).toArray w' (Pure (.bool (f z)) w')) :
    Calls Tryz.prog 81 #[.slice a L.length cap, .func (.func gg) #[] gcap.toArray] w (Pure (.int .i64 (findI f L)) w) := by
  refine calls_of_gk (vs := [_, _]) Tryz.func81 rfl rfl (Nat.le_of_ble_eq_true rfl) ?_
  refine gk_seq ?_
  refine gk_region ?_
  refine gk_y rfl rfl (y_assign rfl) ?_
  refine gk_nil (gk_sub (T' := [(0,_), (1,_), (4,_)]) ⟨rfl, rfl, rfl, trivial⟩ ?_)
  refine gk_seq ?_
  refine gk_seq ?_
  refine gk_region ?_
  refine gk_y rfl rfl (y_move rfl) ?_
  refine gk_y rfl rfl (y_lenS (Tryz.underlying29) rfl) ?_
  refine gk_y rfl rfl (y_move rfl) ?_
  refine gk_nil (gk_sub (T' := [(0,_), (1,_), (4,_), (7,_), (8,_)]) ⟨rfl, rfl, rfl, rfl, rfl, trivial⟩ ?_)
  refine gk_block ?_
  refine gk_loop (X := Int) (fun (i : Int) => [(0, .slice a L.length cap), (1, .func (.func gg) #[] gcap.toArray), (4, .int .i64 0), (7, .int .i64 (L.length : Int)), (8, .int .i64 i)]) (fun (i : Int) => []) (fun (i : Int) => (0 ≤ i ∧ i ≤ L.length ∧ ∀ j : Nat, (j : Int) < i → f (L.getD j default) = false)) (fun (i : Int) => (L.length - i).toNat) 0 ⟨rfl, rfl, rfl, rfl, rfl, trivial⟩ rfl ?_ ?_
  · exact ⟨by omega, by omega, fun j hj => by omega⟩
  · rintro i hI
    obtain ⟨g0, g1, g2⟩ := hI
    refine gk_seq ?_
    refine gk_region ?_
    refine gk_y rfl rfl (y_lss rfl rfl) ?_
    refine gk_nil (gk_sub (T' := [(0,_), (1,_), (4,_), (7,_), (8,_), (9,_)]) ⟨rfl, rfl, rfl, rfl, rfl, rfl, trivial⟩ ?_)
    refine gk_seq ?_
    refine gk_cond rfl (fun hc9 => ?_) (fun hc9 => ?_)
    · simp only [decide_eq_true_eq] at hc9
      refine gk_skip ?_
      refine gk_seq ?_
      refine gk_block ?_
      refine gk_seq ?_
      refine gk_region ?_
      refine gk_y rfl rfl (y_move rfl) ?_
      refine gk_y rfl rfl (y_assign rfl) ?_
      refine gk_nil (gk_sub (T' := [(0,_), (1,_), (4,_), (5,_), (7,_), (8,_)]) ⟨rfl, rfl, rfl, rfl, rfl, rfl, trivial⟩ ?_)
      refine gk_seq ?_
      refine gk_region ?_
      refine gk_y rfl rfl (y_move rfl) ?_
      refine gk_y rfl rfl (y_move rfl) ?_
      refine gk_y rfl rfl (y_move rfl) ?_
      refine gk_y rfl rfl (y_indexE se29 rfl rfl (fun _ hw => (Rd.has (Has.rd hl) hw)) (by omega) (by omega)) ?_
      refine gk_y rfl rfl (y_loadE (vs := [_, _, _, _, _, _]) tf52 rfl (fun _ hw => (Rd.has (Has.rd hl) hw)) (by omega) (by omega) rfl) ?_
      refine gk_y rfl rfl (y_callV (fs := []) (cap := gcap) hen rfl rfl (fun w hw => hg (L.getD (i).toNat default) w (hM _ hw.base.ext0))) ?_
      refine gk_nil (gk_sub (T' := [(0,_), (1,_), (4,_), (5,_), (7,_), (8,_), (16,_)]) ⟨rfl, rfl, rfl, rfl, rfl, rfl, rfl, trivial⟩ ?_)
      refine gk_cond rfl (fun hc16 => ?_) (fun hc16 => ?_)
      · skip
        refine gk_seq ?_
        refine gk_region ?_
        refine gk_y rfl rfl (y_move rfl) ?_
        refine gk_y rfl rfl (y_assign rfl) ?_
        refine gk_nil (gk_sub (T' := [(0,_), (1,_), (4,_), (7,_), (8,_)]) ⟨rfl, rfl, rfl, rfl, rfl, trivial⟩ ?_)
        refine gk_ret ?_
        refine gk_pure (rv_one rfl (r1_tmp rfl)) ?_
        exact congrArg _ (findI_hit g0 (by omega) g2 hc16).symm
      · skip
        refine gk_skip ?_
        refine gk_region ?_
        refine gk_y rfl rfl (y_addI rfl rfl (by omega) (by omega)) ?_
        refine gk_y rfl rfl (y_move rfl) ?_
        refine gk_nil (gk_sub (T' := [(0,_), (1,_), (4,_), (7,_), (8,_)]) ⟨rfl, rfl, rfl, rfl, rfl, trivial⟩ ?_)
        exact gk_next _ ⟨rfl, rfl, rfl, rfl, rfl, trivial⟩ rfl ⟨by omega, by omega, fun j hj => if h : (j : Int) < i then g2 j h else (by rw [show j = i.toNat from by omega]; exact hc16)⟩ (by omega)
    · simp only [decide_eq_false_iff_not] at hc9
      refine gk_exit rfl ?_
      refine gk_seq ?_
      refine gk_region ?_
      refine gk_y rfl rfl (y_assign rfl) ?_
      refine gk_nil (gk_sub (T' := [(4,_)]) ⟨rfl, trivial⟩ ?_)
      refine gk_ret ?_
      refine gk_pure (rv_one rfl (r1_tmp rfl)) ?_
      exact congrArg _ (findI_none (fun j hj => g2 j (by omega))).symm
set_option maxRecDepth 100000 in
set_option maxHeartbeats 1000000 in
theorem containsfuncS_c (a : Option Addr) (cap : Nat) (L : List SC) (f : SC → Bool) (gg : FuncId) (gcap : List Value) (w : World) (hl : Has w (Elems a 6 encSC L)) (hs : Small L.length) (M : World → Prop) (hM : ∀ w', Ext w w' → M w') (hen : En Tryz.prog gg) (hg : ∀ (z : SC) w', M w' → Calls Tryz.prog gg ([Value.agg #[.string z.s.name, .slice z.a z.s.shape.length z.cap, .int .i64 z.s.depth, .int .i64 z.s.density, .int .i64 z.s.grain.x, .int .i64 z.s.grain.z]] ++ gcap).toArray w' (Pure (.bool (f z)) w')) :
    Calls Tryz.prog 43 #[.slice a L.length cap, .func (.func gg) #[] gcap.toArray] w (Pure (.bool (L.any f)) w) := by
  refine calls_of_gk (vs := [_, _]) Tryz.func43 rfl rfl (Nat.le_of_ble_eq_true rfl) ?_
  refine gk_seq ?_
  refine gk_region ?_
  refine gk_y rfl rfl (y_assign rfl) ?_
  refine gk_nil (gk_sub (T' := [(0,_), (1,_), (4,_)]) ⟨rfl, rfl, rfl, trivial⟩ ?_)
  refine gk_seq ?_
  refine gk_region ?_
  refine gk_y rfl rfl (y_move rfl) ?_
  refine gk_y rfl rfl (y_move rfl) ?_
  refine gk_y rfl rfl (y_call en81 rfl (fun w hw => indexfuncS_c _ _ L f _ _ w (Rd.has (Has.rd hl) hw) (by assumption) M (fun w' h => hM w' (hw.base.ext0.trans h)) hen hg)) ?_
  refine gk_y rfl rfl (y_geq rfl rfl) ?_
  refine gk_y rfl rfl (y_assign rfl) ?_
  refine gk_nil (gk_sub (T' := [(4,_)]) ⟨rfl, trivial⟩ ?_)
  refine gk_ret ?_
  refine gk_pure (rv_one rfl (r1_tmp rfl)) ?_
  rw [findI_any]
set_option maxRecDepth 100000 in
set_option maxHeartbeats 1000000 in
theorem parse1_c (z y : SC) (b : Nat) (w : World) (hb : Has w (Box b [.string y.s.name, .slice y.a y.s.shape.length y.cap, .int .i64 y.s.depth, .int .i64 y.s.density, .int .i64 y.s.grain.x, .int .i64 y.s.grain.z] 52)) :
    Calls Tryz.prog 44 #[.agg #[.string z.s.name, .slice z.a z.s.shape.length z.cap, .int .i64 z.s.depth, .int .i64 z.s.density, .int .i64 z.s.grain.x, .int .i64 z.s.grain.z], .pointer (some ⟨b, 0, none⟩)] w (Pure (.bool (z.s.name.toList == y.s.name.toList)) w) := by
  refine calls_of_gk (vs := [_, _]) Tryz.func44 rfl rfl (Nat.le_of_ble_eq_true rfl) ?_
  refine gk_seq ?_
  refine gk_region ?_
  refine gk_yx rfl rfl (yx_box (vs := [_, _, _, _, _, _]) rfl rfl) fun b2 => ?_
  refine gk_y rfl rfl (y_assign rfl) ?_
  refine gk_nil (gk_sub (T' := [(1,_), (2,_), (3,_)]) ⟨rfl, rfl, rfl, trivial⟩ ?_)
  refine gk_seq ?_
  refine gk_region ?_
  refine gk_y rfl rfl (y_fieldAddr fo52_0 rfl) ?_
  refine gk_y rfl rfl (y_loadB1 0 tf9 rfl rfl rfl) ?_
  refine gk_y rfl rfl (y_fieldAddr fo52_0 rfl) ?_
  refine gk_y rfl rfl (y_load1 tf9 rfl (fun _ hw => has_box_cell (Rd.has (Has.rd hb) hw) rfl)) ?_
  refine gk_y rfl rfl (y_strEq rfl rfl) ?_
  refine gk_y rfl rfl (y_assign rfl) ?_
  refine gk_nil (gk_sub (T' := [(3,_)]) ⟨rfl, trivial⟩ ?_)
  refine gk_ret ?_
  refine gk_pure (rv_one rfl (r1_tmp rfl)) ?_
  rfl
end Go.Proofs.YtmpaebfjnjmmlaaGreatDoor

namespace Go.Proofs.YtmpaebfjnjmmlaaGreatDoor
open Go.K Go.Stn Go.RowKit
theorem en41 : En Tryz.prog 41 := en_of Tryz.func41 (by kernel_rfl) (by kernel_rfl)
theorem en42 : En Tryz.prog 42 := en_of Tryz.func42 (by kernel_rfl) (by kernel_rfl)
theorem en43 : En Tryz.prog 43 := en_of Tryz.func43 (by kernel_rfl) (by kernel_rfl)
open Go.Txt
set_option maxRecDepth 100000 in
set_option maxHeartbeats 4000000 in
theorem parse_c (s : ByteArray) (w : World) (hiv : Has w (IntV 1)) (he3 : Has w (ErrV 3)) (he4 : Has w (ErrV 4)) (hp10 : Has w (VarR 2 pow10V)) :
    Calls Tryz.prog 17 #[.string s] w (Gives (fun z : {z : Option Addr × Nat × List SC // plainL z.2.2 = (parseP s).1} => .tuple #[.slice z.1.1 z.1.2.2.length z.1.2.1, .int .i64 (parseP s).2.1, .int .i64 (parseP s).2.2]) (fun z => SepR [Row z.1.1 6 z.1.2.1 52 encSC z.1.2.2, Shps 50 z.1.2.2]) w) := by
  refine calls_of_gk (vs := [_]) Tryz.func17 rfl rfl (Nat.le_of_ble_eq_true rfl) ?_
  refine gk_seq ?_
  refine gk_region ?_
  refine gk_y rfl rfl (y_assign rfl) ?_
  refine gk_y rfl rfl (y_assign rfl) ?_
  refine gk_y rfl rfl (y_assign rfl) ?_
  refine gk_nil (gk_sub (T' := [(0,_), (2,_), (3,_), (4,_)]) ⟨rfl, rfl, rfl, rfl, trivial⟩ ?_)
  refine gk_seq ?_
  refine gk_seq ?_
  refine gk_region ?_
  refine gk_y rfl rfl (y_move rfl) ?_
  refine gk_y rfl rfl (y_lenStr (Tryz.underlying9) rfl) ?_
  refine gk_y rfl rfl (y_gtr rfl rfl) ?_
  refine gk_nil (gk_sub (T' := [(0,_), (2,_), (3,_), (4,_), (11,_)]) ⟨rfl, rfl, rfl, rfl, rfl, trivial⟩ ?_)
  refine gk_cond rfl (fun hc11 => ?_) (fun hc11 => ?_)
  · have hP : parseP s = ([], 0, 5) := if_pos (of_decide_eq_true hc11)
    refine gk_newShps 50 ?_
    refine gk_newNil 52 encSC 6 ?_
    refine gk_pack 2 ?_
    refine gk_seq ?_
    refine gk_region ?_
    refine gk_y rfl rfl (y_assign rfl) ?_
    refine gk_y rfl rfl (y_assign rfl) ?_
    refine gk_y rfl rfl (y_assign rfl) ?_
    refine gk_nil (gk_sub (T' := [(0,_), (2,_), (3,_), (4,_)]) ⟨rfl, rfl, rfl, rfl, trivial⟩ ?_)
    refine gk_ret ?_
    refine gk_gives ⟨(none, 0, []), by rw [hP]; rfl⟩ 0 (rv_three rfl (r1_tmp rfl) (r1_tmp rfl) (r1_tmp rfl)) ?_ rfl
    show _ = Value.tuple #[.slice none 0 0, .int .i64 (parseP s).2.1, .int .i64 (parseP s).2.2]; rw [hP]; try rfl
  · have hsz : s.size ≤ 1000000 := by have := of_decide_eq_false hc11; omega
    have hP0 : parseP s = parseR (cutL 10 s.data.toList) 1 [] := if_neg (of_decide_eq_false hc11)
    refine gk_skip ?_
    refine gk_seq ?_
    refine gk_seq ?_
    refine gk_region ?_
    refine gk_y rfl rfl (y_assign rfl) ?_
    refine gk_nil (gk_sub (T' := [(0,_), (2,_), (3,_), (4,_), (5,_)]) ⟨rfl, rfl, rfl, rfl, rfl, trivial⟩ ?_)
    refine gk_block ?_
    refine gk_newNil 52 encSC 6 ?_
    refine gk_newShps 50 ?_
    refine gk_loop (X := ByteArray × Int × Option Addr × Nat × List SC) (fun ⟨t, n, b, bc, L⟩ => [(0, .string t), (2, .slice b L.length bc), (3, .int .i64 0), (4, .int .i64 0), (5, .int .i64 n)]) (fun ⟨t, n, b, bc, L⟩ => [Shps 50 L, Row b 6 bc 52 encSC L]) (fun ⟨t, n, b, bc, L⟩ => (parseR (cutL 10 t.data.toList) n (plainL L) = parseP s ∧ 1 ≤ n ∧ n + t.size ≤ s.size + 1 ∧ L.length ≤ 200)) (fun ⟨t, n, b, bc, L⟩ => t.size) (s, 1, none, 0, []) ⟨rfl, rfl, rfl, rfl, rfl, trivial⟩ rfl ?_ ?_
    · exact ⟨hP0.symm, by omega, by omega, by simp⟩
    · rintro ⟨t, n, b, bc, L⟩ hI
      obtain ⟨hPI, g1, g2, g3⟩ := hI
      refine gk_seq ?_
      refine gk_seq ?_
      refine gk_region ?_
      refine gk_y rfl rfl (y_move rfl) ?_
      refine gk_y rfl rfl (y_strNe rfl rfl) ?_
      refine gk_nil (gk_sub (T' := [(0,_), (2,_), (3,_), (4,_), (5,_), (13,_)]) ⟨rfl, rfl, rfl, rfl, rfl, rfl, trivial⟩ ?_)
      refine gk_cond rfl (fun hc13 => ?_) (fun hc13 => ?_)
      · have hrow := hPI.symm.trans (parse_row t n (plainL L))
        have hrs := rest_size hc13
        have hro := row_size t
        refine gk_skip ?_
        refine gk_seq ?_
        refine gk_block ?_
        refine gk_seq ?_
        refine gk_region ?_
        refine gk_y rfl rfl (y_assign rfl) ?_
        refine gk_nil (gk_sub (T' := [(0,_), (2,_), (3,_), (4,_), (5,_), (6,_)]) ⟨rfl, rfl, rfl, rfl, rfl, rfl, trivial⟩ ?_)
        refine gk_seq ?_
        refine gk_region ?_
        refine gk_y rfl rfl (y_move rfl) ?_
        refine gk_y rfl rfl (y_call en41 rfl (fun w hw => cut_c _ ⟨#[10]⟩ w (by omega) (Rd.has (Has.rd hiv) hw))) ?_
        refine gk_y rfl rfl (y_move rfl) ?_
        refine gk_y rfl rfl (y_extract rfl rfl) ?_
        refine gk_y rfl rfl (y_extract rfl rfl) ?_
        refine gk_y rfl rfl (y_extract rfl rfl) ?_
        refine gk_y rfl rfl (y_assign rfl) ?_
        refine gk_y rfl rfl (y_assign rfl) ?_
        refine gk_nil (gk_sub (T' := [(0,_), (2,_), (3,_), (4,_), (5,_), (6,_)]) ⟨rfl, rfl, rfl, rfl, rfl, rfl, trivial⟩ ?_)
        refine gk_sub (T' := [(0, .string (restL t)), (2,_), (3,_), (4,_), (5,_), (6, .string (rowL t))]) ⟨(by rfl), rfl, rfl, rfl, rfl, (by rfl), trivial⟩ ?_
        refine gk_seq ?_
        refine gk_seq ?_
        refine gk_region ?_
        refine gk_y rfl rfl (y_move rfl) ?_
        refine gk_y rfl rfl (y_strEq rfl rfl) ?_
        refine gk_nil (gk_sub (T' := [(0,_), (2,_), (3,_), (4,_), (5,_), (6,_), (23,_)]) ⟨rfl, rfl, rfl, rfl, rfl, rfl, rfl, trivial⟩ ?_)
        refine gk_cond rfl (fun hc23 => ?_) (fun hc23 => ?_)
        · skip
          refine gk_exit rfl ?_
          refine gk_region ?_
          refine gk_y rfl rfl (y_move rfl) ?_
          refine gk_y rfl rfl (y_addI rfl rfl (by omega) (by omega)) ?_
          refine gk_y rfl rfl (y_assign rfl) ?_
          refine gk_nil (gk_sub (T' := [(0,_), (2,_), (3,_), (4,_), (5,_)]) ⟨rfl, rfl, rfl, rfl, rfl, trivial⟩ ?_)
          exact gk_next (restL t, n + 1, b, bc, L) ⟨rfl, rfl, rfl, rfl, rfl, trivial⟩ rfl ⟨(hrow.trans (p_nil hc23)).symm, by omega, by omega, g3⟩ (by simp only []; omega)
        · skip
          refine gk_skip ?_
          refine gk_seq ?_
          refine gk_region ?_
          refine gk_y rfl rfl (y_move rfl) ?_
          refine gk_yx rfl rfl (yx_call en42 rfl (fun w hw => read_c _ w (by omega) (Rd.has (Has.rd hiv) hw) (Rd.has (Has.rd he3) hw) (Rd.has (Has.rd he4) hw) (Rd.has (Has.rd hp10) hw))) fun p26 => ?_
          refine gk_y rfl rfl (y_move rfl) ?_
          refine gk_y rfl rfl (y_extract rfl rfl) ?_
          refine gk_y rfl rfl (y_extract rfl rfl) ?_
          refine gk_yx rfl rfl (yx_alloc tf52 (zs := [_, _, _, _, _, _]) rfl) fun b7 => ?_
          refine gk_storeV 0 tf52 rfl rfl (vs := [_, _, _, _, _, _]) rfl rfl rfl rfl rfl ?_
          refine gk_y rfl rfl (y_assign rfl) ?_
          refine gk_nil (gk_sub (T' := [(0,_), (2,_), (3,_), (4,_), (5,_), (7,_), (8,_)]) ⟨rfl, rfl, rfl, rfl, rfl, rfl, rfl, trivial⟩ ?_)
          refine gk_seq ?_
          refine gk_block ?_
          refine gk_seq ?_
          refine gk_region ?_
          refine gk_y rfl rfl (y_move rfl) ?_
          refine gk_y rfl rfl (y_lenS (Tryz.underlying29) rfl) ?_
          refine gk_y rfl rfl (y_eql rfl rfl) ?_
          refine gk_y rfl rfl (y_assign rfl) ?_
          refine gk_nil (gk_sub (T' := [(0,_), (2,_), (3,_), (4,_), (5,_), (7,_), (8,_), (29,_)]) ⟨rfl, rfl, rfl, rfl, rfl, rfl, rfl, rfl, trivial⟩ ?_)
          refine gk_cond rfl (fun hc29 => ?_) (fun hc29 => ?_)
          · have hP := hrow.trans (p_full hc23 (by rw [List.length_map]; have := of_decide_eq_true hc29; omega))
            refine gk_newShps 50 ?_
            refine gk_newNil 52 encSC 6 ?_
            refine gk_pack 2 ?_
            refine gk_seq ?_
            refine gk_region ?_
            refine gk_y rfl rfl (y_move rfl) ?_
            refine gk_y rfl rfl (y_assign rfl) ?_
            refine gk_y rfl rfl (y_assign rfl) ?_
            refine gk_y rfl rfl (y_assign rfl) ?_
            refine gk_nil (gk_sub (T' := [(0,_), (2,_), (3,_), (4,_), (5,_), (7,_)]) ⟨rfl, rfl, rfl, rfl, rfl, rfl, trivial⟩ ?_)
            refine gk_ret ?_
            refine gk_gives ⟨(none, 0, []), by rw [hP]; rfl⟩ 0 (rv_three rfl (r1_tmp rfl) (r1_tmp rfl) (r1_tmp rfl)) ?_ rfl
            show _ = Value.tuple #[.slice none 0 0, .int .i64 (parseP s).2.1, .int .i64 (parseP s).2.2]; rw [hP]; try rfl
          · have hl2 : ¬ (plainL L).length = 200 := by rw [List.length_map]; have := of_decide_eq_false hc29; omega
            have hl3 : ¬ L.length = 200 := by have := of_decide_eq_false hc29; omega
            refine gk_seq ?_
            refine gk_region ?_
            refine gk_y rfl rfl (y_move rfl) ?_
            refine gk_y rfl rfl (y_not rfl) ?_
            refine gk_y rfl rfl (y_assign rfl) ?_
            refine gk_nil (gk_sub (T' := [(0,_), (2,_), (3,_), (4,_), (5,_), (7,_), (34,_)]) ⟨rfl, rfl, rfl, rfl, rfl, rfl, rfl, trivial⟩ ?_)
            refine gk_cond rfl (fun hc34 => ?_) (fun hc34 => ?_)
            · have hP := hrow.trans (p_bad hc23 hl2 (by simpa using hc34))
              refine gk_newShps 50 ?_
              refine gk_newNil 52 encSC 6 ?_
              refine gk_pack 2 ?_
              refine gk_seq ?_
              refine gk_region ?_
              refine gk_y rfl rfl (y_move rfl) ?_
              refine gk_y rfl rfl (y_assign rfl) ?_
              refine gk_y rfl rfl (y_assign rfl) ?_
              refine gk_y rfl rfl (y_assign rfl) ?_
              refine gk_nil (gk_sub (T' := [(0,_), (2,_), (3,_), (4,_), (5,_), (7,_)]) ⟨rfl, rfl, rfl, rfl, rfl, rfl, trivial⟩ ?_)
              refine gk_ret ?_
              refine gk_gives ⟨(none, 0, []), by rw [hP]; rfl⟩ 0 (rv_three rfl (r1_tmp rfl) (r1_tmp rfl) (r1_tmp rfl)) ?_ rfl
              show _ = Value.tuple #[.slice none 0 0, .int .i64 (parseP s).2.1, .int .i64 (parseP s).2.2]; rw [hP]; try rfl
            · have hok : readOk (splitL (rowL t) 32) = true := by simpa using hc34
              refine gk_seq ?_
              refine gk_region ?_
              refine gk_y rfl rfl (y_loadBA 0 tf52 rfl rfl (vs := [_, _, _, _, _, _]) rfl rfl) ?_
              refine gk_y rfl rfl (y_call en38 rfl (fun w hw => check_c _ _ (readS (splitL (rowL t) 32)) w (has_row encPt_ok (hw.has (p := 1) rfl)) (by have := readS_len (splitL (rowL t) 32); have := (split_num (rowL t) 32).2; unfold Small; omega))) ?_
              refine gk_y rfl rfl (y_neq rfl rfl) ?_
              refine gk_y rfl rfl (y_assign rfl) ?_
              refine gk_nil (gk_sub (T' := [(0,_), (2,_), (3,_), (4,_), (5,_), (7,_), (38,_)]) ⟨rfl, rfl, rfl, rfl, rfl, rfl, rfl, trivial⟩ ?_)
              refine gk_cond rfl (fun hc38 => ?_) (fun hc38 => ?_)
              · have hP := hrow.trans (p_check hc23 hl2 hok (by simpa using hc38))
                refine gk_newShps 50 ?_
                refine gk_newNil 52 encSC 6 ?_
                refine gk_pack 2 ?_
                refine gk_seq ?_
                refine gk_region ?_
                refine gk_y rfl rfl (y_move rfl) ?_
                refine gk_y rfl rfl (y_assign rfl) ?_
                refine gk_y rfl rfl (y_assign rfl) ?_
                refine gk_y rfl rfl (y_assign rfl) ?_
                refine gk_nil (gk_sub (T' := [(0,_), (2,_), (3,_), (4,_), (5,_), (7,_)]) ⟨rfl, rfl, rfl, rfl, rfl, rfl, trivial⟩ ?_)
                refine gk_ret ?_
                refine gk_gives ⟨(none, 0, []), by rw [hP]; rfl⟩ 0 (rv_three rfl (r1_tmp rfl) (r1_tmp rfl) (r1_tmp rfl)) ?_ rfl
                show _ = Value.tuple #[.slice none 0 0, .int .i64 (parseP s).2.1, .int .i64 (parseP s).2.2]; rw [hP]; try rfl
              · have hck : checkI (readS (splitL (rowL t) 32)) = 0 := by simpa using hc38
                refine gk_seq ?_
                refine gk_region ?_
                refine gk_y rfl rfl (y_move rfl) ?_
                refine gk_y rfl rfl (y_makeFunc («as» := []) (bs := [_]) rfl rfl) ?_
                refine gk_y rfl rfl (y_call en43 rfl (fun w hw => containsfuncS_c _ _ L (fun z : SC => z.s.name.toList == (readS (splitL (rowL t) 32)).name.toList) 44 [.pointer (some ⟨b7, 0, none⟩)] w (has_row encSC_ok (hw.has (p := 3) rfl)) (by unfold Small; omega) (fun w' => Has w' (Box b7 [.string (⟨readS (splitL (rowL t) 32), p26.1, p26.2⟩ : SC).s.name, .slice (⟨readS (splitL (rowL t) 32), p26.1, p26.2⟩ : SC).a (⟨readS (splitL (rowL t) 32), p26.1, p26.2⟩ : SC).s.shape.length (⟨readS (splitL (rowL t) 32), p26.1, p26.2⟩ : SC).cap, .int .i64 (⟨readS (splitL (rowL t) 32), p26.1, p26.2⟩ : SC).s.depth, .int .i64 (⟨readS (splitL (rowL t) 32), p26.1, p26.2⟩ : SC).s.density, .int .i64 (⟨readS (splitL (rowL t) 32), p26.1, p26.2⟩ : SC).s.grain.x, .int .i64 (⟨readS (splitL (rowL t) 32), p26.1, p26.2⟩ : SC).s.grain.z] 52)) (fun w' hx => Has.ext (hw.has (p := 0) rfl) hx) en44s (fun z w' hm => parse1_c z (⟨readS (splitL (rowL t) 32), p26.1, p26.2⟩ : SC) b7 w' hm))) ?_
                refine gk_y rfl rfl (y_assign rfl) ?_
                refine gk_nil (gk_sub (T' := [(0,_), (2,_), (3,_), (4,_), (5,_), (7,_), (43,_)]) ⟨rfl, rfl, rfl, rfl, rfl, rfl, rfl, trivial⟩ ?_)
                refine gk_cond rfl (fun hc43 => ?_) (fun hc43 => ?_)
                · have hP := hrow.trans (p_twice hc23 hl2 hok hck ((any_plain L _).trans hc43))
                  refine gk_newShps 50 ?_
                  refine gk_newNil 52 encSC 6 ?_
                  refine gk_pack 2 ?_
                  refine gk_seq ?_
                  refine gk_region ?_
                  refine gk_y rfl rfl (y_move rfl) ?_
                  refine gk_y rfl rfl (y_assign rfl) ?_
                  refine gk_y rfl rfl (y_assign rfl) ?_
                  refine gk_y rfl rfl (y_assign rfl) ?_
                  refine gk_nil (gk_sub (T' := [(0,_), (2,_), (3,_), (4,_), (5,_), (7,_)]) ⟨rfl, rfl, rfl, rfl, rfl, rfl, trivial⟩ ?_)
                  refine gk_ret ?_
                  refine gk_gives ⟨(none, 0, []), by rw [hP]; rfl⟩ 0 (rv_three rfl (r1_tmp rfl) (r1_tmp rfl) (r1_tmp rfl)) ?_ rfl
                  show _ = Value.tuple #[.slice none 0 0, .int .i64 (parseP s).2.1, .int .i64 (parseP s).2.2]; rw [hP]; try rfl
                · skip
                  refine gk_skip ?_
                  refine gk_region ?_
                  refine gk_y rfl rfl (y_move rfl) ?_
                  refine gk_y rfl rfl (y_loadBA 0 tf52 rfl rfl (vs := [_, _, _, _, _, _]) rfl rfl) ?_
                  refine gk_yx rfl rfl (yx_buildSlice rfl (bs29_1 (⟨readS (splitL (rowL t) 32), p26.1, p26.2⟩ : SC)) encSC_ok rfl) fun b50 => ?_
                  refine gk_append (m := [(⟨readS (splitL (rowL t) 32), p26.1, p26.2⟩ : SC)]) 4 af29 encSC_ok rfl rfl rfl rfl (fun _ hw => (has_row encSC_ok (hw.has (p := 0) rfl))) (by first | omega | (simp only [List.length_cons, List.length_nil]; omega)) (by first | (unfold maxLen; omega) | (simp only [List.length_cons, List.length_nil, maxLen]; omega)) fun a51 c51 => ?_
                  refine gk_y rfl rfl (y_assign rfl) ?_
                  refine gk_nil (gk_sub (T' := [(0,_), (2,_), (3,_), (4,_), (5,_)]) ⟨rfl, rfl, rfl, rfl, rfl, trivial⟩ ?_)
                  refine gk_dropAt 1 rfl ?_
                  refine gk_front 1 rfl ?_
                  refine gk_front 2 rfl ?_
                  refine gk_pack 2 ?_
                  refine gk_conv (R' := Shps 50 (L ++ [(⟨readS (splitL (rowL t) 32), p26.1, p26.2⟩ : SC)])) 0 rfl (fun B w hA => shps_snoc (z := (⟨readS (splitL (rowL t) 32), p26.1, p26.2⟩ : SC)) hA) ?_
                  refine gk_front 2 rfl ?_
                  refine gk_front 1 rfl ?_
                  refine gk_region ?_
                  refine gk_y rfl rfl (y_move rfl) ?_
                  refine gk_y rfl rfl (y_addI rfl rfl (by omega) (by omega)) ?_
                  refine gk_y rfl rfl (y_assign rfl) ?_
                  refine gk_nil (gk_sub (T' := [(0,_), (2,_), (3,_), (4,_), (5,_)]) ⟨rfl, rfl, rfl, rfl, rfl, trivial⟩ ?_)
                  refine gk_dropAt 2 rfl ?_
                  exact gk_next (restL t, n + 1, a51, c51, L ++ [(⟨readS (splitL (rowL t) 32), p26.1, p26.2⟩ : SC)]) ⟨rfl, rfl, rfl, rfl, rfl, trivial⟩ rfl ⟨(hrow.trans ((p_ok hc23 hl2 hok hck ((any_plain L _).trans hc43)).trans (by rw [plain_one]))).symm, by omega, by omega, by simp; omega⟩ (by simp only []; omega)
      · have hP : parseP s = (plainL L, 0, 0) := hPI.symm.trans (text_end hc13 n _)
        refine gk_exit rfl ?_
        refine gk_seq ?_
        refine gk_region ?_
        refine gk_y rfl rfl (y_move rfl) ?_
        refine gk_y rfl rfl (y_assign rfl) ?_
        refine gk_y rfl rfl (y_assign rfl) ?_
        refine gk_y rfl rfl (y_assign rfl) ?_
        refine gk_nil (gk_sub (T' := [(2,_), (3,_), (4,_)]) ⟨rfl, rfl, rfl, trivial⟩ ?_)
        refine gk_front 1 rfl ?_
        refine gk_pack 2 ?_
        refine gk_ret ?_
        refine gk_gives ⟨(b, bc, L), by rw [hP]⟩ 0 (rv_three rfl (r1_tmp rfl) (r1_tmp rfl) (r1_tmp rfl)) ?_ rfl
        show _ = Value.tuple #[.slice b L.length bc, .int .i64 (parseP s).2.1, .int .i64 (parseP s).2.2]; rw [hP]; try rfl
end Go.Proofs.YtmpaebfjnjmmlaaGreatDoor

namespace Go.Proofs.YtmpaebfjnjmmlaaGreatDoor
open Go.K Go.Stn Go.RowKit
theorem en46 : En Tryz.prog 46 := en_of Tryz.func46 (by kernel_rfl) (by kernel_rfl)
open Go.Txt
set_option maxRecDepth 100000 in
set_option maxHeartbeats 4000000 in
theorem rparse_c (s : ByteArray) (w : World)  :
    Calls Tryz.prog 18 #[.string s] w (Gives (fun z : {z : Option Addr × Nat × List SC // plainL z.2.2 = (parseP s).1} => .tuple #[.slice z.1.1 z.1.2.2.length z.1.2.1, .int .i64 (parseP s).2.1, .int .i64 (parseP s).2.2]) (fun z => SepR [Row z.1.1 6 z.1.2.1 28 encSC z.1.2.2, Shps 26 z.1.2.2]) w) := by
  have hn1 := (split_num s 10).1
  have hn2 := (split_num s 10).2
  refine calls_of_gk (vs := [_]) Tryz.func18 rfl rfl (Nat.le_of_ble_eq_true rfl) ?_
  refine gk_seq ?_
  refine gk_region ?_
  refine gk_y rfl rfl (y_assign rfl) ?_
  refine gk_y rfl rfl (y_assign rfl) ?_
  refine gk_y rfl rfl (y_assign rfl) ?_
  refine gk_nil (gk_sub (T' := [(0,_), (2,_), (3,_), (4,_)]) ⟨rfl, rfl, rfl, rfl, trivial⟩ ?_)
  refine gk_seq ?_
  refine gk_seq ?_
  refine gk_region ?_
  refine gk_y rfl rfl (y_move rfl) ?_
  refine gk_y rfl rfl (y_lenStr (Tryz.underlying9) rfl) ?_
  refine gk_y rfl rfl (y_gtr rfl rfl) ?_
  refine gk_nil (gk_sub (T' := [(0,_), (2,_), (3,_), (4,_), (13,_)]) ⟨rfl, rfl, rfl, rfl, rfl, trivial⟩ ?_)
  refine gk_cond rfl (fun hc13 => ?_) (fun hc13 => ?_)
  · have hP : parseP s = ([], 0, 5) := if_pos (of_decide_eq_true hc13)
    refine gk_newShps 26 ?_
    refine gk_newNil 28 encSC 6 ?_
    refine gk_pack 2 ?_
    refine gk_seq ?_
    refine gk_region ?_
    refine gk_y rfl rfl (y_assign rfl) ?_
    refine gk_y rfl rfl (y_assign rfl) ?_
    refine gk_y rfl rfl (y_assign rfl) ?_
    refine gk_nil (gk_sub (T' := [(0,_), (2,_), (3,_), (4,_)]) ⟨rfl, rfl, rfl, rfl, trivial⟩ ?_)
    refine gk_ret ?_
    refine gk_gives ⟨(none, 0, []), by rw [hP]; rfl⟩ 0 (rv_three rfl (r1_tmp rfl) (r1_tmp rfl) (r1_tmp rfl)) ?_ rfl
    show _ = Value.tuple #[.slice none 0 0, .int .i64 (parseP s).2.1, .int .i64 (parseP s).2.2]; rw [hP]; try rfl
  · have hsz : s.size ≤ 1000000 := by have := of_decide_eq_false hc13; omega
    have hP0 : parseP s = parseR ((splitL s 10).map (·.data.toList)) 1 [] := (if_neg (of_decide_eq_false hc13)).trans (by rw [splitL_data])
    refine gk_skip ?_
    refine gk_seq ?_
    refine gk_region ?_
    refine gk_y rfl rfl (y_move rfl) ?_
    refine gk_yx rfl rfl (yx_call en45 rfl (fun w hw => rcut_c _ 10 w (by omega))) fun p15 => ?_
    refine gk_y rfl rfl (y_assign rfl) ?_
    refine gk_nil (gk_sub (T' := [(2,_), (3,_), (4,_), (5,_)]) ⟨rfl, rfl, rfl, rfl, trivial⟩ ?_)
    refine gk_seq ?_
    refine gk_region ?_
    refine gk_y rfl rfl (y_assign rfl) ?_
    refine gk_nil (gk_sub (T' := [(2,_), (3,_), (4,_), (5,_), (6,_)]) ⟨rfl, rfl, rfl, rfl, rfl, trivial⟩ ?_)
    refine gk_seq ?_
    refine gk_seq ?_
    refine gk_region ?_
    refine gk_y rfl rfl (y_assign rfl) ?_
    refine gk_nil (gk_sub (T' := [(2,_), (3,_), (4,_), (5,_), (6,_), (7,_)]) ⟨rfl, rfl, rfl, rfl, rfl, rfl, trivial⟩ ?_)
    refine gk_block ?_
    refine gk_newNil 28 encSC 6 ?_
    refine gk_newShps 26 ?_
    refine gk_loop (X := Int × Option Addr × Nat × List SC) (fun ⟨i, b, bc, L⟩ => [(2, .slice none 0 0), (3, .int .i64 0), (4, .int .i64 0), (5, .slice p15.1 (splitL s 10).length p15.2), (6, .slice b L.length bc), (7, .int .i64 i)]) (fun ⟨i, b, bc, L⟩ => [Shps 26 L, Row b 6 bc 28 encSC L, Row p15.1 1 p15.2 9 encS (splitL s 10)]) (fun ⟨i, b, bc, L⟩ => (parseR (((splitL s 10).map (·.data.toList)).drop i.toNat) (i + 1) (plainL L) = parseP s ∧ 0 ≤ i ∧ i ≤ (splitL s 10).length ∧ L.length ≤ 200)) (fun ⟨i, b, bc, L⟩ => ((splitL s 10).length - i).toNat) (0, none, 0, []) ⟨rfl, rfl, rfl, rfl, rfl, rfl, trivial⟩ rfl ?_ ?_
    · exact ⟨hP0.symm, by omega, by omega, by simp⟩
    · rintro ⟨i, b, bc, L⟩ hI
      obtain ⟨hPI, g1, g2, g3⟩ := hI
      refine gk_seq ?_
      refine gk_seq ?_
      refine gk_region ?_
      refine gk_y rfl rfl (y_move rfl) ?_
      refine gk_y rfl rfl (y_move rfl) ?_
      refine gk_y rfl rfl (y_lenS (Tryz.underlying93) rfl) ?_
      refine gk_y rfl rfl (y_lss rfl rfl) ?_
      refine gk_nil (gk_sub (T' := [(2,_), (3,_), (4,_), (5,_), (6,_), (7,_), (19,_)]) ⟨rfl, rfl, rfl, rfl, rfl, rfl, rfl, trivial⟩ ?_)
      refine gk_cond rfl (fun hc19 => ?_) (fun hc19 => ?_)
      · have hc19 := of_decide_eq_true hc19
        have hrow := hPI.symm.trans (congrArg (fun l => parseR l (i + 1) (plainL L)) (drop_row g1 hc19))
        have hro := word_sizeD (s := s) (c := 10) (i := i.toNat) (by omega)
        refine gk_skip ?_
        refine gk_seq ?_
        refine gk_block ?_
        refine gk_seq ?_
        refine gk_seq ?_
        refine gk_region ?_
        refine gk_y rfl rfl (y_move rfl) ?_
        refine gk_y rfl rfl (y_move rfl) ?_
        refine gk_y rfl rfl (y_indexE se93 rfl rfl (fun _ hw => (has_row encS_ok (hw.has (p := 2) rfl))) (by omega) (by omega)) ?_
        refine gk_y rfl rfl (y_loadE1 tf9 rfl (fun _ hw => (has_row encS_ok (hw.has (p := 2) rfl))) (by omega) (by omega) rfl) ?_
        refine gk_y rfl rfl (y_strEq rfl rfl) ?_
        refine gk_nil (gk_sub (T' := [(2,_), (3,_), (4,_), (5,_), (6,_), (7,_), (26,_)]) ⟨rfl, rfl, rfl, rfl, rfl, rfl, rfl, trivial⟩ ?_)
        refine gk_cond rfl (fun hc26 => ?_) (fun hc26 => ?_)
        · skip
          refine gk_exit rfl ?_
          refine gk_region ?_
          refine gk_y rfl rfl (y_move rfl) ?_
          refine gk_y rfl rfl (y_addI rfl rfl (by omega) (by omega)) ?_
          refine gk_y rfl rfl (y_assign rfl) ?_
          refine gk_nil (gk_sub (T' := [(2,_), (3,_), (4,_), (5,_), (6,_), (7,_)]) ⟨rfl, rfl, rfl, rfl, rfl, rfl, trivial⟩ ?_)
          exact gk_next (i + 1, b, bc, L) ⟨rfl, rfl, rfl, rfl, rfl, rfl, trivial⟩ rfl ⟨(hrow.trans (p_nil hc26)).symm, by omega, by omega, g3⟩ (by simp only []; omega)
        · skip
          refine gk_skip ?_
          refine gk_seq ?_
          refine gk_seq ?_
          refine gk_region ?_
          refine gk_y rfl rfl (y_move rfl) ?_
          refine gk_y rfl rfl (y_lenS (Tryz.underlying22) rfl) ?_
          refine gk_y rfl rfl (y_eql rfl rfl) ?_
          refine gk_nil (gk_sub (T' := [(2,_), (3,_), (4,_), (5,_), (6,_), (7,_), (29,_)]) ⟨rfl, rfl, rfl, rfl, rfl, rfl, rfl, trivial⟩ ?_)
          refine gk_cond rfl (fun hc29 => ?_) (fun hc29 => ?_)
          · have hP := hrow.trans (p_full hc26 (by rw [List.length_map]; have := of_decide_eq_true hc29; omega))
            refine gk_newShps 26 ?_
            refine gk_newNil 28 encSC 6 ?_
            refine gk_pack 2 ?_
            refine gk_seq ?_
            refine gk_region ?_
            refine gk_y rfl rfl (y_move rfl) ?_
            refine gk_y rfl rfl (y_addI rfl rfl (by omega) (by omega)) ?_
            refine gk_y rfl rfl (y_assign rfl) ?_
            refine gk_y rfl rfl (y_assign rfl) ?_
            refine gk_y rfl rfl (y_assign rfl) ?_
            refine gk_nil (gk_sub (T' := [(2,_), (3,_), (4,_), (5,_), (6,_), (7,_)]) ⟨rfl, rfl, rfl, rfl, rfl, rfl, trivial⟩ ?_)
            refine gk_ret ?_
            refine gk_gives ⟨(none, 0, []), by rw [hP]; rfl⟩ 0 (rv_three rfl (r1_tmp rfl) (r1_tmp rfl) (r1_tmp rfl)) ?_ rfl
            show _ = Value.tuple #[.slice none 0 0, .int .i64 (parseP s).2.1, .int .i64 (parseP s).2.2]; rw [hP]; try rfl
          · have hl2 : ¬ (plainL L).length = 200 := by rw [List.length_map]; have := of_decide_eq_false hc29; omega
            have hl3 : ¬ L.length = 200 := by have := of_decide_eq_false hc29; omega
            refine gk_skip ?_
            refine gk_seq ?_
            refine gk_region ?_
            refine gk_y rfl rfl (y_move rfl) ?_
            refine gk_y rfl rfl (y_move rfl) ?_
            refine gk_y rfl rfl (y_indexE se93 rfl rfl (fun _ hw => (has_row encS_ok (hw.has (p := 2) rfl))) (by omega) (by omega)) ?_
            refine gk_y rfl rfl (y_loadE1 tf9 rfl (fun _ hw => (has_row encS_ok (hw.has (p := 2) rfl))) (by omega) (by omega) rfl) ?_
            refine gk_yx rfl rfl (yx_call en46 rfl (fun w hw => rread_c _ w (by omega))) fun p37 => ?_
            refine gk_y rfl rfl (y_move rfl) ?_
            refine gk_y rfl rfl (y_extract rfl rfl) ?_
            refine gk_y rfl rfl (y_extract rfl rfl) ?_
            refine gk_yx rfl rfl (yx_alloc tf28 (zs := [_, _, _, _, _, _]) rfl) fun b8 => ?_
            refine gk_storeV 0 tf28 rfl rfl (vs := [_, _, _, _, _, _]) rfl rfl rfl rfl rfl ?_
            refine gk_y rfl rfl (y_assign rfl) ?_
            refine gk_nil (gk_sub (T' := [(2,_), (3,_), (4,_), (5,_), (6,_), (7,_), (8,_), (9,_)]) ⟨rfl, rfl, rfl, rfl, rfl, rfl, rfl, rfl, trivial⟩ ?_)
            refine gk_seq ?_
            refine gk_seq ?_
            refine gk_region ?_
            refine gk_y rfl rfl (y_move rfl) ?_
            refine gk_y rfl rfl (y_not rfl) ?_
            refine gk_nil (gk_sub (T' := [(2,_), (3,_), (4,_), (5,_), (6,_), (7,_), (8,_), (41,_)]) ⟨rfl, rfl, rfl, rfl, rfl, rfl, rfl, rfl, trivial⟩ ?_)
            refine gk_cond rfl (fun hc41 => ?_) (fun hc41 => ?_)
            · have hP := hrow.trans (p_bad hc26 hl2 (by simpa using hc41))
              refine gk_newShps 26 ?_
              refine gk_newNil 28 encSC 6 ?_
              refine gk_pack 2 ?_
              refine gk_seq ?_
              refine gk_region ?_
              refine gk_y rfl rfl (y_move rfl) ?_
              refine gk_y rfl rfl (y_addI rfl rfl (by omega) (by omega)) ?_
              refine gk_y rfl rfl (y_assign rfl) ?_
              refine gk_y rfl rfl (y_assign rfl) ?_
              refine gk_y rfl rfl (y_assign rfl) ?_
              refine gk_nil (gk_sub (T' := [(2,_), (3,_), (4,_), (5,_), (6,_), (7,_), (8,_)]) ⟨rfl, rfl, rfl, rfl, rfl, rfl, rfl, trivial⟩ ?_)
              refine gk_ret ?_
              refine gk_gives ⟨(none, 0, []), by rw [hP]; rfl⟩ 0 (rv_three rfl (r1_tmp rfl) (r1_tmp rfl) (r1_tmp rfl)) ?_ rfl
              show _ = Value.tuple #[.slice none 0 0, .int .i64 (parseP s).2.1, .int .i64 (parseP s).2.2]; rw [hP]; try rfl
            · have hok : readOk (splitL ((splitL s 10).getD (i).toNat default) 32) = true := by simpa using hc41
              refine gk_skip ?_
              refine gk_seq ?_
              refine gk_seq ?_
              refine gk_region ?_
              refine gk_y rfl rfl (y_loadBA 0 tf28 rfl rfl (vs := [_, _, _, _, _, _]) rfl rfl) ?_
              refine gk_y rfl rfl (y_call en37 rfl (fun w hw => rvalid_c _ _ (readS (splitL ((splitL s 10).getD (i).toNat default) 32)) w (has_row encPt_ok (hw.has (p := 1) rfl)) (by have := readS_len (splitL ((splitL s 10).getD (i).toNat default) 32); have := (split_num ((splitL s 10).getD (i).toNat default) 32).2; unfold Small; omega) (by have := read_name ((splitL s 10).getD (i).toNat default); unfold Fits; omega))) ?_
              refine gk_y rfl rfl (y_not rfl) ?_
              refine gk_nil (gk_sub (T' := [(2,_), (3,_), (4,_), (5,_), (6,_), (7,_), (8,_), (46,_)]) ⟨rfl, rfl, rfl, rfl, rfl, rfl, rfl, rfl, trivial⟩ ?_)
              refine gk_cond rfl (fun hc46 => ?_) (fun hc46 => ?_)
              · have hP := hrow.trans (p_check hc26 hl2 hok (rvalid_no hc46))
                refine gk_newShps 26 ?_
                refine gk_newNil 28 encSC 6 ?_
                refine gk_pack 2 ?_
                refine gk_seq ?_
                refine gk_region ?_
                refine gk_y rfl rfl (y_move rfl) ?_
                refine gk_y rfl rfl (y_addI rfl rfl (by omega) (by omega)) ?_
                refine gk_y rfl rfl (y_assign rfl) ?_
                refine gk_y rfl rfl (y_assign rfl) ?_
                refine gk_y rfl rfl (y_assign rfl) ?_
                refine gk_nil (gk_sub (T' := [(2,_), (3,_), (4,_), (5,_), (6,_), (7,_), (8,_)]) ⟨rfl, rfl, rfl, rfl, rfl, rfl, rfl, trivial⟩ ?_)
                refine gk_ret ?_
                refine gk_gives ⟨(none, 0, []), by rw [hP]; rfl⟩ 0 (rv_three rfl (r1_tmp rfl) (r1_tmp rfl) (r1_tmp rfl)) ?_ rfl
                show _ = Value.tuple #[.slice none 0 0, .int .i64 (parseP s).2.1, .int .i64 (parseP s).2.2]; rw [hP]; try rfl
              · have hck : checkI (readS (splitL ((splitL s 10).getD (i).toNat default) 32)) = 0 := rvalid_yes hc46
                refine gk_skip ?_
                refine gk_seq ?_
                refine gk_seq ?_
                refine gk_region ?_
                refine gk_y rfl rfl (y_assign rfl) ?_
                refine gk_nil (gk_sub (T' := [(2,_), (3,_), (4,_), (5,_), (6,_), (7,_), (8,_), (10,_)]) ⟨rfl, rfl, rfl, rfl, rfl, rfl, rfl, rfl, trivial⟩ ?_)
                refine gk_block ?_
                refine gk_loop (X := Int) (fun (k : Int) => [(2, .slice none 0 0), (3, .int .i64 0), (4, .int .i64 0), (5, .slice p15.1 (splitL s 10).length p15.2), (6, .slice b L.length bc), (7, .int .i64 i), (8, .pointer (some ⟨b8, 0, none⟩)), (10, .int .i64 k)]) (fun (k : Int) => [Box b8 [.string (⟨readS (splitL ((splitL s 10).getD (i).toNat default) 32), p37.1, p37.2⟩ : SC).s.name, .slice (⟨readS (splitL ((splitL s 10).getD (i).toNat default) 32), p37.1, p37.2⟩ : SC).a (⟨readS (splitL ((splitL s 10).getD (i).toNat default) 32), p37.1, p37.2⟩ : SC).s.shape.length (⟨readS (splitL ((splitL s 10).getD (i).toNat default) 32), p37.1, p37.2⟩ : SC).cap, .int .i64 ((⟨readS (splitL ((splitL s 10).getD (i).toNat default) 32), p37.1, p37.2⟩ : SC).s.depth), .int .i64 ((⟨readS (splitL ((splitL s 10).getD (i).toNat default) 32), p37.1, p37.2⟩ : SC).s.density), .int .i64 ((⟨readS (splitL ((splitL s 10).getD (i).toNat default) 32), p37.1, p37.2⟩ : SC).s.grain.x), .int .i64 ((⟨readS (splitL ((splitL s 10).getD (i).toNat default) 32), p37.1, p37.2⟩ : SC).s.grain.z)] 28, Row p37.1 2 p37.2 26 encPt (⟨readS (splitL ((splitL s 10).getD (i).toNat default) 32), p37.1, p37.2⟩ : SC).s.shape, Shps 26 L, Row b 6 bc 28 encSC L, Row p15.1 1 p15.2 9 encS (splitL s 10)]) (fun (k : Int) => (0 ≤ k ∧ k ≤ L.length ∧ ∀ j : Nat, (j : Int) < k → ((L.getD j default).s.name.toList == (readS (splitL ((splitL s 10).getD (i).toNat default) 32)).name.toList) = false)) (fun (k : Int) => (L.length - k).toNat) 0 ⟨rfl, rfl, rfl, rfl, rfl, rfl, rfl, rfl, trivial⟩ rfl ?_ ?_
                · exact ⟨by omega, by omega, fun j hj => by omega⟩
                · rintro k hI
                  obtain ⟨k0, k1, k2⟩ := hI
                  refine gk_seq ?_
                  refine gk_seq ?_
                  refine gk_region ?_
                  refine gk_y rfl rfl (y_move rfl) ?_
                  refine gk_y rfl rfl (y_move rfl) ?_
                  refine gk_y rfl rfl (y_lenS (Tryz.underlying22) rfl) ?_
                  refine gk_y rfl rfl (y_lss rfl rfl) ?_
                  refine gk_nil (gk_sub (T' := [(2,_), (3,_), (4,_), (5,_), (6,_), (7,_), (8,_), (10,_), (52,_)]) ⟨rfl, rfl, rfl, rfl, rfl, rfl, rfl, rfl, rfl, trivial⟩ ?_)
                  refine gk_cond rfl (fun hc52 => ?_) (fun hc52 => ?_)
                  · have hc52 := of_decide_eq_true hc52
                    refine gk_skip ?_
                    refine gk_seq ?_
                    refine gk_block ?_
                    refine gk_seq ?_
                    refine gk_any 8 (fun _ => mixed) (by kernel_rfl) ?_
                    refine ph_y (y_move rfl) ?_
                    refine ph_y (y_move rfl) ?_
                    refine ph_y (y_indexE se22 rfl rfl (fun _ hw => (has_row encSC_ok (hw.has (p := 3) rfl))) (by omega) (by omega)) ?_
                    refine ph_y (y_fieldE fo28_0 rfl (fun w hw => elems_addr (i := k) (has_row encSC_ok (hw.has (p := 3) rfl)) (by omega) (by omega))) ?_
                    refine ph_y (y_loadEF tf9 rfl (fun _ hw => (has_row encSC_ok (hw.has (p := 3) rfl))) (by omega) (by omega) rfl) ?_
                    refine ph_y (y_fieldAddr fo28_0 rfl) ?_
                    refine ph_y (y_loadB1 0 tf9 rfl rfl rfl) ?_
                    refine ph_y (y_strEq rfl rfl) ?_
                    refine gk_nil (gk_sub (T' := [(2,_), (3,_), (4,_), (5,_), (6,_), (7,_), (8,_), (10,_), (62,_)]) ⟨rfl, rfl, rfl, rfl, rfl, rfl, rfl, rfl, rfl, trivial⟩ ?_)
                    refine gk_cond rfl (fun hc62 => ?_) (fun hc62 => ?_)
                    · have hP := hrow.trans (p_twice hc26 hl2 hok hck (any_some k0 hc52 hc62))
                      refine gk_newShps 26 ?_
                      refine gk_newNil 28 encSC 6 ?_
                      refine gk_pack 2 ?_
                      refine gk_seq ?_
                      refine gk_region ?_
                      refine gk_y rfl rfl (y_move rfl) ?_
                      refine gk_y rfl rfl (y_addI rfl rfl (by omega) (by omega)) ?_
                      refine gk_y rfl rfl (y_assign rfl) ?_
                      refine gk_y rfl rfl (y_assign rfl) ?_
                      refine gk_y rfl rfl (y_assign rfl) ?_
                      refine gk_nil (gk_sub (T' := [(2,_), (3,_), (4,_), (5,_), (6,_), (7,_), (8,_), (10,_)]) ⟨rfl, rfl, rfl, rfl, rfl, rfl, rfl, rfl, trivial⟩ ?_)
                      refine gk_ret ?_
                      refine gk_gives ⟨(none, 0, []), by rw [hP]; rfl⟩ 0 (rv_three rfl (r1_tmp rfl) (r1_tmp rfl) (r1_tmp rfl)) ?_ rfl
                      show _ = Value.tuple #[.slice none 0 0, .int .i64 (parseP s).2.1, .int .i64 (parseP s).2.2]; rw [hP]; try rfl
                    · skip
                      refine gk_skip ?_
                      refine gk_region ?_
                      refine gk_y rfl rfl (y_move rfl) ?_
                      refine gk_y rfl rfl (y_addI rfl rfl (by omega) (by omega)) ?_
                      refine gk_y rfl rfl (y_assign rfl) ?_
                      refine gk_nil (gk_sub (T' := [(2,_), (3,_), (4,_), (5,_), (6,_), (7,_), (8,_), (10,_)]) ⟨rfl, rfl, rfl, rfl, rfl, rfl, rfl, rfl, trivial⟩ ?_)
                      exact gk_next (k + 1) ⟨rfl, rfl, rfl, rfl, rfl, rfl, rfl, rfl, trivial⟩ rfl ⟨by omega, by omega, below_nat (f := fun j => (L.getD j default).s.name.toList == (readS (splitL ((splitL s 10).getD (i).toNat default) 32)).name.toList) k0 k2 hc62⟩ (by omega)
                  · have hc52 := of_decide_eq_false hc52
                    refine gk_exit rfl ?_
                    refine gk_region ?_
                    refine gk_y rfl rfl (y_move rfl) ?_
                    refine gk_y rfl rfl (y_loadBA 0 tf28 rfl rfl (vs := [_, _, _, _, _, _]) rfl rfl) ?_
                    refine gk_yx rfl rfl (yx_buildSlice rfl (bs22_1 (⟨readS (splitL ((splitL s 10).getD (i).toNat default) 32), p37.1, p37.2⟩ : SC)) encSC_ok rfl) fun b67 => ?_
                    refine gk_append (m := [(⟨readS (splitL ((splitL s 10).getD (i).toNat default) 32), p37.1, p37.2⟩ : SC)]) 4 af22 encSC_ok rfl rfl rfl rfl (fun _ hw => (has_row encSC_ok (hw.has (p := 0) rfl))) (by first | omega | (simp only [List.length_cons, List.length_nil]; omega)) (by first | (unfold maxLen; omega) | (simp only [List.length_cons, List.length_nil, maxLen]; omega)) fun a68 c68 => ?_
                    refine gk_y rfl rfl (y_assign rfl) ?_
                    refine gk_nil (gk_sub (T' := [(2,_), (3,_), (4,_), (5,_), (6,_), (7,_)]) ⟨rfl, rfl, rfl, rfl, rfl, rfl, trivial⟩ ?_)
                    refine gk_dropAt 1 rfl ?_
                    refine gk_front 1 rfl ?_
                    refine gk_front 2 rfl ?_
                    refine gk_pack 2 ?_
                    refine gk_conv (R' := Shps 26 (L ++ [(⟨readS (splitL ((splitL s 10).getD (i).toNat default) 32), p37.1, p37.2⟩ : SC)])) 0 rfl (fun B w hA => shps_snoc (z := (⟨readS (splitL ((splitL s 10).getD (i).toNat default) 32), p37.1, p37.2⟩ : SC)) hA) ?_
                    refine gk_front 2 rfl ?_
                    refine gk_front 1 rfl ?_
                    refine gk_region ?_
                    refine gk_y rfl rfl (y_move rfl) ?_
                    refine gk_y rfl rfl (y_addI rfl rfl (by omega) (by omega)) ?_
                    refine gk_y rfl rfl (y_assign rfl) ?_
                    refine gk_nil (gk_sub (T' := [(2,_), (3,_), (4,_), (5,_), (6,_), (7,_)]) ⟨rfl, rfl, rfl, rfl, rfl, rfl, trivial⟩ ?_)
                    refine gk_dropAt 2 rfl ?_
                    exact gk_next (i + 1, a68, c68, L ++ [(⟨readS (splitL ((splitL s 10).getD (i).toNat default) 32), p37.1, p37.2⟩ : SC)]) ⟨rfl, rfl, rfl, rfl, rfl, rfl, trivial⟩ rfl ⟨(hrow.trans ((p_ok hc26 hl2 hok hck (any_none hc52 k2)).trans (by rw [plain_one]))).symm, by omega, by omega, by simp; omega⟩ (by simp only []; omega)
      · have hc19 := of_decide_eq_false hc19
        have hP : parseP s = (plainL L, 0, 0) := hPI.symm.trans (drop_end hc19 _ _)
        refine gk_exit rfl ?_
        refine gk_seq ?_
        refine gk_region ?_
        refine gk_y rfl rfl (y_move rfl) ?_
        refine gk_y rfl rfl (y_assign rfl) ?_
        refine gk_y rfl rfl (y_assign rfl) ?_
        refine gk_y rfl rfl (y_assign rfl) ?_
        refine gk_nil (gk_sub (T' := [(2,_), (3,_), (4,_)]) ⟨rfl, rfl, rfl, trivial⟩ ?_)
        refine gk_front 1 rfl ?_
        refine gk_pack 2 ?_
        refine gk_ret ?_
        refine gk_gives ⟨(b, bc, L), by rw [hP]⟩ 0 (rv_three rfl (r1_tmp rfl) (r1_tmp rfl) (r1_tmp rfl)) ?_ rfl
        show _ = Value.tuple #[.slice b L.length bc, .int .i64 (parseP s).2.1, .int .i64 (parseP s).2.2]; rw [hP]; try rfl
end Go.Proofs.YtmpaebfjnjmmlaaGreatDoor

namespace Go.Proofs.YtmpaebfjnjmmlaaGreatDoor
open Go.K Go.Stn Go.RowKit
theorem en17 : En Tryz.prog 17 := en_of Tryz.func17 (by kernel_rfl) (by kernel_rfl)
theorem en18 : En Tryz.prog 18 := en_of Tryz.func18 (by kernel_rfl) (by kernel_rfl)
set_option maxRecDepth 100000 in
set_option maxHeartbeats 4000000 in
theorem StoneReads_c (s : ByteArray) (w : World) (hways : Has w (Elems (some ⟨0, 0, none⟩) 1 encVal [.func (.func 194) #[] #[], .func (.func 195) #[] #[], .func (.func 196) #[] #[], .func (.func 197) #[] #[]])) (hiv : Has w (IntV 1)) (he3 : Has w (ErrV 3)) (he4 : Has w (ErrV 4)) (hp10 : Has w (VarR 2 pow10V)) :
    Calls Tryz.prog 4 #[.string s] w (Pure (.bool true) w) := by
  refine calls_of_gk (vs := [_]) Tryz.func4 rfl rfl (Nat.le_of_ble_eq_true rfl) ?_
  refine gk_seq ?_
  refine gk_region ?_
  refine gk_y rfl rfl (y_assign rfl) ?_
  refine gk_nil (gk_sub (T' := [(0,_), (2,_)]) ⟨rfl, rfl, trivial⟩ ?_)
  refine gk_seq ?_
  refine gk_seq ?_
  refine gk_any 8 (fun _ => mixed) (by kernel_rfl) ?_
  refine ph_y (y_move rfl) ?_
  refine ph_y (y_lenStr (Tryz.underlying9) rfl) ?_
  refine ph_y (y_gtr rfl rfl) ?_
  refine ph_y (y_move rfl) ?_
  refine ph_gT rfl rfl (fun hgd => by (try rw [hgd]); exact (y_move rfl)) ?_
  refine ph_gT rfl rfl (fun hgd => by (try rw [hgd]); exact (y_lenStr (Tryz.underlying9) rfl)) ?_
  refine ph_gT rfl rfl (fun hgd => by (try rw [hgd]); exact (y_leq rfl rfl)) ?_
  refine ph_y (y_pickAnd rfl rfl rfl) ?_
  refine gk_nil (gk_sub (T' := [(0,_), (2,_), (16,_)]) ⟨rfl, rfl, rfl, trivial⟩ ?_)
  refine gk_cond rfl (fun hc16 => ?_) (fun hc16 => ?_)
  · skip
    refine gk_seq ?_
    refine gk_region ?_
    refine gk_y rfl rfl (y_call en6 rfl (fun w hw => wakes_c w (Rd.has (Has.rd hways) hw))) ?_
    refine gk_y rfl rfl (y_assign rfl) ?_
    refine gk_nil (gk_sub (T' := [(0,_), (2,_)]) ⟨rfl, rfl, trivial⟩ ?_)
    refine gk_ret ?_
    refine gk_pure (rv_one rfl (r1_tmp rfl)) ?_
    rfl
  · skip
    refine gk_skip ?_
    refine gk_seq ?_
    refine gk_region ?_
    refine gk_y rfl rfl (y_move rfl) ?_
    refine gk_yx rfl rfl (yx_call en17 rfl (fun w hw => parse_c _ w (Rd.has (Has.rd hiv) hw) (Rd.has (Has.rd he3) hw) (Rd.has (Has.rd he4) hw) (Rd.has (Has.rd hp10) hw))) fun p20 => gk_split ?_
    refine gk_y rfl rfl (y_move rfl) ?_
    refine gk_y rfl rfl (y_extract rfl rfl) ?_
    refine gk_y rfl rfl (y_extract rfl rfl) ?_
    refine gk_y rfl rfl (y_extract rfl rfl) ?_
    refine gk_y rfl rfl (y_assign rfl) ?_
    refine gk_y rfl rfl (y_assign rfl) ?_
    refine gk_y rfl rfl (y_assign rfl) ?_
    refine gk_nil (gk_sub (T' := [(0,_), (2,_), (3,_), (4,_), (5,_)]) ⟨rfl, rfl, rfl, rfl, rfl, trivial⟩ ?_)
    have hpl0 := p20.2
    have hS0 : p20.1.2.2.length ≤ 200 := by have h := congrArg List.length hpl0; rw [List.length_map] at h; rw [h]; exact (parseP_len s).1
    have hSs0 : ∀ z ∈ p20.1.2.2, Small z.s.shape.length := fun z hz => Nat.le_trans ((parseP_len s).2 z.s (by rw [← hpl0]; exact List.mem_map.2 ⟨z, hz, rfl⟩)) (by decide)
    refine gk_seq ?_
    refine gk_region ?_
    refine gk_y rfl rfl (y_move rfl) ?_
    refine gk_yx rfl rfl (yx_call en18 rfl (fun w hw => rparse_c _ w)) fun p26 => gk_split ?_
    refine gk_y rfl rfl (y_move rfl) ?_
    refine gk_y rfl rfl (y_extract rfl rfl) ?_
    refine gk_y rfl rfl (y_extract rfl rfl) ?_
    refine gk_y rfl rfl (y_extract rfl rfl) ?_
    refine gk_y rfl rfl (y_assign rfl) ?_
    refine gk_y rfl rfl (y_assign rfl) ?_
    refine gk_y rfl rfl (y_assign rfl) ?_
    refine gk_nil (gk_sub (T' := [(2,_), (3,_), (4,_), (5,_), (6,_), (7,_), (8,_)]) ⟨rfl, rfl, rfl, rfl, rfl, rfl, rfl, trivial⟩ ?_)
    have hpl1 := p26.2
    have hS1 : p26.1.2.2.length ≤ 200 := by have h := congrArg List.length hpl1; rw [List.length_map] at h; rw [h]; exact (parseP_len s).1
    have hSs1 : ∀ z ∈ p26.1.2.2, Small z.s.shape.length := fun z hz => Nat.le_trans ((parseP_len s).2 z.s (by rw [← hpl1]; exact List.mem_map.2 ⟨z, hz, rfl⟩)) (by decide)
    refine gk_seq ?_
    refine gk_any 17 (fun _ => mixed) (by kernel_rfl) ?_
    refine ph_y (y_move rfl) ?_
    refine ph_y (y_move rfl) ?_
    refine ph_y (y_eql rfl rfl) ?_
    refine ph_y (y_move rfl) ?_
    refine ph_gT rfl rfl (fun hgd => by (try rw [hgd]); exact (y_move rfl)) ?_
    refine ph_gT rfl rfl (fun hgd => by (try rw [hgd]); exact (y_move rfl)) ?_
    refine ph_gT rfl rfl (fun hgd => by (try rw [hgd]); exact (y_eql rfl rfl)) ?_
    refine ph_y (y_pickAnd rfl rfl rfl) ?_
    refine ph_y (y_move rfl) ?_
    refine ph_gT rfl rfl (fun hgd => by (try rw [hgd]); exact (y_move rfl)) ?_
    refine ph_gT rfl rfl (fun hgd => by (try rw [hgd]); exact (y_move rfl)) ?_
    refine ph_gT rfl rfl (fun hgd => by (try rw [hgd]); exact (y_call (v := .bool (sameAllB p20.1.2.2 p26.1.2.2)) en15 rfl (fun w hw => sameall_c _ _ p20.1.2.2 _ _ p26.1.2.2 w (has_row encSC_ok (hw.has (p := 2) rfl)) (fun z hz => shps_has (hw.has (p := 3) rfl) hz) (by unfold Small; omega) hSs0 (has_row encSC_ok (hw.has (p := 0) rfl)) (fun z hz => shps_has (hw.has (p := 1) rfl) hz) hSs1))) ?_
    refine ph_y (y_pickAnd rfl rfl rfl) ?_
    refine ph_y (y_move rfl) ?_
    refine ph_gT rfl rfl (fun hgd => by (try rw [hgd]); exact (y_call (v := .bool true) en6 rfl (fun w hw => wakes_c w (Rd.has (Has.rd hways) hw)))) ?_
    refine ph_y (y_pickAnd rfl rfl rfl) ?_
    refine ph_y (y_assign rfl) ?_
    refine gk_nil (gk_sub (T' := [(2,_)]) ⟨rfl, trivial⟩ ?_)
    refine gk_ret ?_
    refine gk_pure (rv_one rfl (r1_tmp rfl)) ?_
    rw [sameAll_plain (hpl0.trans hpl1.symm)]; simp
end Go.Proofs.YtmpaebfjnjmmlaaGreatDoor
