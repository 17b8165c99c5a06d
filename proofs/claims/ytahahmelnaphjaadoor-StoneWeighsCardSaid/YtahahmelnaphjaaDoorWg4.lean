/- What the proof of the root text leans on, part 4: the layer, plain facts and walks. No statement of the seat is proved in this text. -/
import Derived.Lib.SliceRun
import Derived.Test.YtahahmelnaphjaaDoorWg3
namespace Go.Stn
open Go Go.K Go.RowKit
theorem edgesL_get {l : List Pt} {i : Nat} (h : i < l.length) : (edgesL l)[i]? = some (cor l i, cor l (i + 1)) := by
  unfold edgesL
  rw [List.getElem?_map, List.getElem?_range h]
  simp only [Option.map_some]
  rw [ptAt_cor h, atL_cor (i := (i : Int) + 1) (n := i + 1 + l.length) (by omega), cor_add]
theorem sq_nn (a : Int) : 0 ≤ a * a := by
  rcases Int.le_total 0 a with h | h
  · exact Int.mul_nonneg h h
  · have := Int.mul_nonneg (show 0 ≤ -a by omega) (show 0 ≤ -a by omega)
    rw [Int.neg_mul_neg] at this
    exact this
theorem sq_lt {a b : Int} (h : a * a < b * b) (hb : 0 ≤ b) : a < b := Classical.byContradiction fun hn => by
  have : b * b ≤ a * a := Int.mul_le_mul (by omega) (by omega) hb (by omega)
  omega
theorem mul_zero_of {a b : Int} (h : 0 < a) (hz : a * b = 0) : b = 0 := by
  rcases Int.mul_eq_zero.1 hz with h1 | h1
  · omega
  · exact h1
theorem le_of_mul {a b c : Int} (h : 0 < a) (hz : a * b ≤ a * c) : b ≤ c := Int.le_of_mul_le_mul_left hz h
/-- from a to b, as a pair -/
theorem onH_id (a b x : Pt) : dotZ (subZ b a) (subZ b a) * (x.x - a.x) = dotZ (subZ x a) (subZ b a) * (b.x - a.x) - (b.z - a.z) * sideZ a b x ∧
    dotZ (subZ b a) (subZ b a) * (x.z - a.z) = dotZ (subZ x a) (subZ b a) * (b.z - a.z) + (b.x - a.x) * sideZ a b x := by
  unfold dotZ subZ sideZ
  dsimp only
  constructor <;> grind
theorem lagrange (a b x : Pt) : dotZ (subZ x a) (subZ b a) * dotZ (subZ x a) (subZ b a) = dotZ (subZ x a) (subZ x a) * dotZ (subZ b a) (subZ b a) - sideZ a b x * sideZ a b x := by
  unfold dotZ subZ sideZ
  dsimp only
  grind
theorem dot_pos {a b : Pt} (h : a ≠ b) : 0 < dotZ (subZ b a) (subZ b a) := by
  unfold dotZ subZ
  dsimp only
  have h1 := sq_nn (b.x - a.x)
  have h2 := sq_nn (b.z - a.z)
  rcases Int.lt_or_eq_of_le (Int.add_nonneg h1 h2) with h3 | h3
  · exact h3
  · exfalso
    have e1 : (b.x - a.x) * (b.x - a.x) = 0 := by omega
    have e2 : (b.z - a.z) * (b.z - a.z) = 0 := by omega
    have e1 : b.x - a.x = 0 := by rcases Int.mul_eq_zero.1 e1 with h | h <;> exact h
    have e2 : b.z - a.z = 0 := by rcases Int.mul_eq_zero.1 e2 with h | h <;> exact h
    apply h
    cases a; cases b
    simp only [Pt.mk.injEq]
    dsimp only at *
    omega
def OnS (x a b : Pt) : Prop := ∃ D t, OnH x a b D t
theorem onS_of {a b x : Pt} (h0 : sideZ a b x = 0) (h1 : 0 ≤ dotZ (subZ x a) (subZ b a)) (h2 : dotZ (subZ x a) (subZ b a) < dotZ (subZ b a) (subZ b a)) : OnS x a b := by
  obtain ⟨e1, e2⟩ := onH_id a b x
  rw [h0] at e1 e2
  exact ⟨_, _, by omega, h1, h2, by rw [e1]; omega, by rw [e2]; omega⟩
theorem onS_dot {a b x : Pt} {D t : Int} (h : OnH x a b D t) : D * dotZ (subZ x a) (subZ b a) = t * dotZ (subZ b a) (subZ b a) ∧ D * (D * dotZ (subZ x a) (subZ x a)) = t * t * dotZ (subZ b a) (subZ b a) := by
  have e1 := h.ex
  have e2 := h.ez
  unfold dotZ subZ
  dsimp only
  generalize x.x - a.x = u at *
  generalize x.z - a.z = v at *
  generalize b.x - a.x = d at *
  generalize b.z - a.z = f at *
  constructor
  · calc D * (u * d + v * f) = (D * u) * d + (D * v) * f := by grind
      _ = _ := by rw [e1, e2]; grind
  · calc D * (D * (u * u + v * v)) = (D * u) * (D * u) + (D * v) * (D * v) := by grind
      _ = _ := by rw [e1, e2]; grind
theorem onS_side {a b x : Pt} {D t : Int} (h : OnH x a b D t) : sideZ a b x = 0 := by
  have := h.lin a b
  rw [side_same3, side_same2, Int.mul_zero, Int.mul_zero, Int.add_zero] at this
  exact mul_zero_of h.pos this
theorem onE_iff {a b x : Pt} (ha : farB a = false) (hb : farB b = false) (hx : farB x = false) (hab : a ≠ b) : onE x (a, b) = true ↔ OnS x a b := by
  have i1 : inR 2000 a := by have := far_in ha; unfold inR; omega
  have i2 : inR 2000 b := by have := far_in hb; unfold inR; omega
  have i3 : inR 2000 x := by have := far_in hx; unfold inR; omega
  have hd := dot_pos hab
  unfold onE
  dsimp only
  rw [subW_eq (by omega) i2 i1, subW_eq (by omega) i3 i1]
  have j1 := subZ_in i2 i1
  have j2 := subZ_in i3 i1
  rw [crossW_eq (by omega) (by omega) j1 j2, dotW_eq (by omega) (by omega) j2 j1, dotW_eq (by omega) (by omega) j2 j2, dotW_eq (by omega) (by omega) j1 j1]
  have hc : crossZ (subZ b a) (subZ x a) = sideZ a b x := by
    unfold crossZ subZ sideZ
    dsimp only
  rw [hc]
  simp only [Bool.and_eq_true, decide_eq_true_eq]
  constructor
  · rintro ⟨⟨h0, h1⟩, h2⟩
    refine onS_of h0 h1 (sq_lt ?_ (by omega))
    have hl := lagrange a b x
    rw [h0] at hl
    have := Int.mul_lt_mul_of_pos_right h2 hd
    omega
  · rintro ⟨D, t, h⟩
    obtain ⟨e1, e2⟩ := onS_dot h
    refine ⟨⟨onS_side h, ?_⟩, ?_⟩
    · refine nonneg_of h.pos ?_
      rw [e1]
      exact Int.mul_nonneg h.t0 (by omega)
    · have hp := h.pos
      refine Classical.byContradiction fun hn => ?_
      have a1 : D * D * dotZ (subZ b a) (subZ b a) ≤ D * (D * dotZ (subZ x a) (subZ x a)) := by
        rw [Int.mul_assoc]
        exact Int.mul_le_mul_of_nonneg_left (Int.mul_le_mul_of_nonneg_left (by omega) (by omega)) (by omega)
      rw [e2] at a1
      have a2 : t * t < D * D := by
        have := Int.mul_le_mul (show t ≤ D - 1 by have := h.t1; omega) (show t ≤ D - 1 by have := h.t1; omega) h.t0 (by omega)
        have h3 : (D - 1) * (D - 1) = D * D - D - D + 1 := by grind
        omega
      have := Int.mul_lt_mul_of_pos_right a2 hd
      omega
theorem between1 {u d : Int} (h1 : min 0 d ≤ u) (h2 : u ≤ max 0 d) : 0 ≤ u * d ∧ u * d ≤ d * d := by
  rcases Int.le_total 0 d with h | h
  · exact ⟨Int.mul_nonneg (by omega) h, Int.mul_le_mul_of_nonneg_right (by omega) h⟩
  · have a := Int.mul_nonneg (show 0 ≤ -u by omega) (show 0 ≤ -d by omega)
    have b := Int.mul_le_mul_of_nonneg_right (show -u ≤ -d by omega) (show 0 ≤ -d by omega)
    rw [Int.neg_mul_neg] at a b
    rw [Int.neg_mul_neg] at b
    exact ⟨a, b⟩
theorem between2 {D t u d : Int} (hD : 0 < D) (h0 : 0 ≤ t) (h1 : t ≤ D) (h : D * u = t * d) : min 0 d ≤ u ∧ u ≤ max 0 d := by
  rcases Int.le_total 0 d with hd | hd
  · have a : 0 ≤ u := nonneg_of hD (by rw [h]; exact Int.mul_nonneg h0 hd)
    have b : u ≤ d := le_of_mul hD (by rw [h]; exact Int.mul_le_mul_of_nonneg_right h1 hd)
    omega
  · have a : u ≤ 0 := nonpos_of hD (by rw [h]; exact Int.mul_nonpos_of_nonneg_of_nonpos h0 hd)
    have b : d ≤ u := le_of_mul hD (by rw [h]; exact Int.mul_le_mul_of_nonpos_right h1 hd)
    omega
theorem ron_iff {a b x : Pt} (ha : farB a = false) (hb : farB b = false) (hx : farB x = false) (hab : a ≠ b) : ronB a b x = true ↔ OnS x a b ∨ x = b := by
  have i1 : inR 2000 a := by have := far_in ha; unfold inR; omega
  have i2 : inR 2000 b := by have := far_in hb; unfold inR; omega
  have i3 : inR 2000 x := by have := far_in hx; unfold inR; omega
  have hd := dot_pos hab
  unfold ronB
  rw [sideW_eq (by omega) i1 i2 i3]
  simp only [Bool.and_eq_true, decide_eq_true_eq]
  constructor
  · rintro ⟨⟨h0, h1, h2⟩, h3, h4⟩
    obtain ⟨c1, c2⟩ := between1 (u := x.x - a.x) (d := b.x - a.x) (by omega) (by omega)
    obtain ⟨c3, c4⟩ := between1 (u := x.z - a.z) (d := b.z - a.z) (by omega) (by omega)
    have d1 : 0 ≤ dotZ (subZ x a) (subZ b a) := by
      unfold dotZ subZ; dsimp only; omega
    have d2 : dotZ (subZ x a) (subZ b a) ≤ dotZ (subZ b a) (subZ b a) := by
      unfold dotZ subZ; dsimp only; omega
    rcases Int.lt_or_eq_of_le d2 with d3 | d3
    · exact .inl (onS_of h0 d1 d3)
    · refine .inr ?_
      obtain ⟨e1, e2⟩ := onH_id a b x
      rw [h0, d3, Int.mul_zero] at e1 e2
      have f1 := Int.eq_of_mul_eq_mul_left (by omega) (show dotZ (subZ b a) (subZ b a) * (x.x - a.x) = dotZ (subZ b a) (subZ b a) * (b.x - a.x) by omega)
      have f2 := Int.eq_of_mul_eq_mul_left (by omega) (show dotZ (subZ b a) (subZ b a) * (x.z - a.z) = dotZ (subZ b a) (subZ b a) * (b.z - a.z) by omega)
      cases x; cases b
      simp only [Pt.mk.injEq]
      dsimp only at *
      omega
  · rintro (⟨D, t, h⟩ | rfl)
    · obtain ⟨c1, c2⟩ := between2 h.pos h.t0 (by have := h.t1; omega) h.ex
      obtain ⟨c3, c4⟩ := between2 h.pos h.t0 (by have := h.t1; omega) h.ez
      exact ⟨⟨onS_side h, by omega, by omega⟩, by omega, by omega⟩
    · rw [side_same2]
      omega
/-- all that a border needs of a shape -/
structure Good (l : List Pt) : Prop where
  near : Near l
  cvx : Cvx l
  len : 3 ≤ l.length
section
variable {l : List Pt} (g : Good l)
include g
theorem Good.far (i : Nat) : farB (cor l i) = false := g.near _ (cor_mem (by have := g.len; omega) i)
theorem Good.ne (i : Nat) : cor l i ≠ cor l (i + 1) := fun h => by
  have := g.cvx.edge i 2 (by omega) (by have := g.len; omega)
  rw [h, side_same1] at this
  omega
/-- a point on edge number i -/
abbrev BP (l : List Pt) (x : Pt) (i : Nat) : Prop := OnS x (cor l i) (cor l (i + 1))
omit g in
theorem BP.congr {x : Pt} {i j : Nat} (h : BP l x i) (hij : i % l.length = j % l.length) : BP l x j := by
  have e1 : cor l i = cor l j := cor_congr hij
  have e2 : cor l (i + 1) = cor l (j + 1) := cor_congr (by rw [← Nat.mod_add_mod, hij, Nat.mod_add_mod])
  unfold BP at *
  rw [← e1, ← e2]
  exact h
theorem Good.zero {x : Pt} {i k : Nat} (hk : k < l.length) (h : BP l x (i + k)) (h0 : sideZ (cor l i) (cor l (i + 1)) x = 0) : k = 0 ∨ (k = 1 ∧ x = cor l (i + 1)) := by
  obtain ⟨D, t, h⟩ := h
  rcases edge_zero g.cvx g.len hk h h0 with h1 | ⟨h1, h2⟩
  · exact .inl h1
  · subst h1; subst h2; exact .inr ⟨rfl, h.start⟩
omit g in
theorem off_mod {n i j : Nat} (hi : i < n) (hj : j < n) : j % n = (i + (if i ≤ j then j - i else j + n - i)) % n := by
  split
  · rw [show i + (j - i) = j from by omega]
  · rw [show i + (j + n - i) = j + n from by omega, Nat.add_mod_right]
theorem Good.uniq {x : Pt} {i j : Nat} (hi : i < l.length) (hj : j < l.length) (h1 : BP l x i) (h2 : BP l x j) : i = j := by
  have s1 : sideZ (cor l i) (cor l (i + 1)) x = 0 := by obtain ⟨D, t, h⟩ := h1; exact onS_side h
  have s2 : sideZ (cor l j) (cor l (j + 1)) x = 0 := by obtain ⟨D, t, h⟩ := h2; exact onS_side h
  have a := g.zero (by split <;> omega) (h2.congr (off_mod hi hj)) s1
  have b := g.zero (by split <;> omega) (h1.congr (off_mod hj hi)) s2
  have := g.len
  rcases a with a | ⟨a, _⟩ <;> rcases b with b | ⟨b, _⟩ <;> (split at a <;> split at b <;> omega)
theorem Good.edge {x : Pt} (h : 0 ≤ edgeI l x) : ∃ i : Nat, edgeI l x = (i : Int) ∧ i < l.length ∧ BP l x i ∧ farB x = false := by
  have hf : farB x = false := by
    cases hf : farB x with
    | false => rfl
    | true => rw [edgeI, if_pos hf] at h; omega
  have hl := (edge_lt (l := l) (x := x)).1
  rw [edgeI, if_neg (by rw [hf]; exact Bool.false_ne_true)] at h hl ⊢
  unfold findI at h hl ⊢
  split at h
  · rename_i ha
    rw [if_pos ha] at hl
    rw [if_pos ha]
    refine ⟨_, rfl, by omega, ?_, hf⟩
    have hlt : (edgesL l).findIdx (onE x) < (edgesL l).length := List.findIdx_lt_length_of_exists (by simpa using ha)
    have hp : onE x (edgesL l)[(edgesL l).findIdx (onE x)] = true := List.findIdx_getElem
    have hg := edgesL_get (l := l) (i := (edgesL l).findIdx (onE x)) (by omega)
    have he : (edgesL l)[(edgesL l).findIdx (onE x)] = (cor l ((edgesL l).findIdx (onE x)), cor l ((edgesL l).findIdx (onE x) + 1)) := (List.getElem?_eq_some_iff.1 hg).2
    rw [he] at hp
    exact (onE_iff (g.far _) (g.far _) hf (g.ne _)).1 hp
  · omega
theorem Good.edge_at {x : Pt} {i : Nat} (hf : farB x = false) (hi : i < l.length) (h : BP l x i) : edgeI l x = (i : Int) := by
  rw [edgeI, if_neg (by rw [hf]; exact Bool.false_ne_true)]
  refine findI_at (edgesL_get hi) (fun j y hj hy => ?_) ((onE_iff (g.far _) (g.far _) hf (g.ne _)).2 h)
  rw [edgesL_get (by omega)] at hy
  cases hy
  cases ho : onE x (cor l j, cor l (j + 1)) with
  | false => rfl
  | true =>
    have := g.uniq hi (by omega) h ((onE_iff (g.far _) (g.far _) hf (g.ne _)).1 ho)
    omega
omit g in
theorem corners {i : Nat} (hi : i < l.length) : ptAt l (i : Int) = cor l i ∧ nextL l (i : Int) = cor l (i + 1) := ⟨ptAt_cor hi, nextL_cor i⟩
theorem Good.border {x : Pt} : rbordB l x = decide (0 ≤ edgeI l x) := by
  rw [Bool.eq_iff_iff, decide_eq_true_eq]
  constructor
  · intro h
    unfold rbordB rbordN at h
    rw [Bool.and_eq_true, Bool.not_eq_true', Bool.not_eq_true'] at h
    obtain ⟨hf, ha⟩ := h
    have hex : ∃ i, i < l.length ∧ ronB (ptAt l (i : Nat)) (nextL l (i : Nat)) x = true := Classical.byContradiction fun hn => by
      rw [allI_true (fun i hi => ?_)] at ha
      · cases ha
      · cases hr : ronB (ptAt l (i : Nat)) (nextL l (i : Nat)) x with
        | false => rfl
        | true => exact absurd ⟨i, hi, hr⟩ hn
    obtain ⟨i, hi, hr⟩ := hex
    rw [(corners hi).1, (corners hi).2, ron_iff (g.far _) (g.far _) hf (g.ne _)] at hr
    rcases hr with hr | hr
    · rw [g.edge_at hf hi hr]; omega
    · have hlt : (i + 1) % l.length < l.length := Nat.mod_lt _ (by omega)
      have : BP l x (i + 1) := ⟨1, 0, by rw [hr]; exact OnH.at 1 (by omega)⟩
      rw [g.edge_at hf hlt (this.congr (Nat.mod_mod _ _).symm)]; omega
  · intro h
    obtain ⟨i, _, hi, hb, hf⟩ := g.edge h
    refine rbord_yes (i := (i : Int)) hf (by omega) (by omega) ?_
    rw [(corners hi).1, (corners hi).2, ron_iff (g.far _) (g.far _) hf (g.ne _)]
    exact .inl hb
end
end Go.Stn

namespace Go.Stn
open Go Go.K Go.RowKit
theorem least_spec {l : List Pt} (h : 0 < l.length) : (∀ p ∈ l, (leastL l).x ≤ p.x ∧ (leastL l).z ≤ p.z) ∧ (∃ p ∈ l, (leastL l).x = p.x) ∧ ∃ p ∈ l, (leastL l).z = p.z := by
  have key : ∀ (r : List Pt) (o : Pt), let y := r.foldl (fun o p => (⟨min o.x p.x, min o.z p.z⟩ : Pt)) o; (y.x ≤ o.x ∧ y.z ≤ o.z) ∧ (∀ p ∈ r, y.x ≤ p.x ∧ y.z ≤ p.z) ∧ (y.x = o.x ∨ ∃ p ∈ r, y.x = p.x) ∧ (y.z = o.z ∨ ∃ p ∈ r, y.z = p.z) := by
    intro r
    induction r with
    | nil => intro o; exact ⟨⟨Int.le_refl _, Int.le_refl _⟩, fun p hp => (by cases hp), .inl rfl, .inl rfl⟩
    | cons q r ih =>
      intro o
      simp only [List.foldl_cons]
      obtain ⟨⟨a1, a2⟩, a3, a4, a5⟩ := ih ⟨min o.x q.x, min o.z q.z⟩
      dsimp only at a1 a2 a3 a4 a5 ⊢
      refine ⟨⟨by clear a4 a5; omega, by clear a4 a5; omega⟩, fun p hp => ?_, ?_, ?_⟩
      · rcases List.mem_cons.1 hp with rfl | hp
        · clear a4 a5; omega
        · exact a3 p hp
      · rcases a4 with a4 | ⟨p, hp, a4⟩
        · rcases Int.le_total o.x q.x with h | h
          · exact .inl (by clear a5; omega)
          · exact .inr ⟨q, List.mem_cons_self .., by clear a5; omega⟩
        · exact .inr ⟨p, List.mem_cons_of_mem _ hp, a4⟩
      · rcases a5 with a5 | ⟨p, hp, a5⟩
        · rcases Int.le_total o.z q.z with h | h
          · exact .inl (by clear a4; omega)
          · exact .inr ⟨q, List.mem_cons_self .., by clear a4; omega⟩
        · exact .inr ⟨p, List.mem_cons_of_mem _ hp, a5⟩
  have h0 : l.getD 0 default ∈ l := getD_mem h
  obtain ⟨⟨a1, a2⟩, a3, a4, a5⟩ := key l (l.getD 0 default)
  unfold leastL
  refine ⟨a3, ?_, ?_⟩
  · rcases a4 with a4 | a4
    · exact ⟨_, h0, a4⟩
    · exact a4
  · rcases a5 with a5 | a5
    · exact ⟨_, h0, a5⟩
    · exact a5
section
variable {l : List Pt} (g : Good l)
include g
structure Cut (l : List Pt) (p q : Pt) (a m : Nat) (D s E t : Int) : Prop where
  fp : farB p = false
  fq : farB q = false
  ha : a < l.length
  hp : OnH p (cor l a) (cor l (a + 1)) D s
  hq : OnH q (cor l (a + m)) (cor l (a + m + 1)) E t
  m1 : 1 ≤ m
  mn : m < l.length
  hs : m + 1 = l.length → 0 < s
  ht : m = 1 → 0 < t
  ep : edgeI l p = (a : Int)
  eq : edgeI l q = (((a + m) % l.length : Nat) : Int)
variable {p q : Pt} {a m : Nat} {D s E t : Int} (c : Cut l p q a m D s E t)
include c
omit g in
theorem Cut.first (h : s = 0) : cor l (a + l.length) = p := by
  have := c.hp
  rw [h] at this
  rw [cor_add]
  exact this.start.symm
end
theorem good_of {s : Stn} (h : checkI s = 0) : Good s.shape := by
  have hp := check_placed h
  have hl := check_len h
  unfold placedB at hp
  rw [Bool.and_eq_true, Bool.not_eq_true', Bool.or_eq_false_iff, Bool.not_eq_false'] at hp
  exact ⟨check_near h, (convex_iff hp.1.1 hl.1 hl.2).1 hp.1.2, hl.1⟩
end Go.Stn

namespace Go.Stn
open Go Go.K Go.RowKit
def sumI (n : Nat) (f : Nat → Int) : Int := (List.range n).foldl (fun s i => s + f i) 0
theorem sumI_succ (n : Nat) (f : Nat → Int) : sumI (n + 1) f = sumI n f + f n := by
  unfold sumI
  rw [List.range_succ, List.foldl_append]; rfl
def twiceZ (l : List Pt) : Int := sumI l.length fun i => crossZ (cor l i) (cor l (i + 1))
theorem W_def (n : Int) : W n = (n + 9223372036854775808) % 18446744073709551616 - 9223372036854775808 := IntKind.wrap_i64 n
theorem W_add (a b : Int) : W (W a + W b) = W (a + b) := by
  simp only [W_def]; omega
theorem W_sub (a b : Int) : W (W a - W b) = W (a - b) := by
  simp only [W_def]; omega
theorem crossW_W (p q : Pt) : crossW p q = W (crossZ p q) := by
  unfold crossW crossZ
  rw [W_sub]
theorem twice_eq (l : List Pt) : twiceW l = W (twiceZ l) := by
  have key : ∀ n, n ≤ l.length → ((edgesL l).take n).foldl (fun s e => W (s + crossW e.1 e.2)) 0 = W (sumI n fun i => crossZ (cor l i) (cor l (i + 1))) := by
    intro n
    induction n with
    | zero => intro _; rfl
    | succ n ih =>
      intro hn
      rw [fold_succ _ _ (edgesL_get (by omega)), ih (by omega), sumI_succ, crossW_W, W_add]
  have := key l.length (Nat.le_refl _)
  rw [← edges_len', List.take_length, edges_len'] at this
  exact this
end Go.Stn

namespace Go.Stn
open Go Go.K Go.RowKit
theorem rtwice_eq (l : List Pt) : rtwice l = W (twiceZ l) := by
  have key : ∀ n, n ≤ l.length → rtwiceN l n = W (sumI n fun i => crossZ (cor l i) (cor l (i + 1))) := by
    intro n
    induction n with
    | zero => intro _; rfl
    | succ n ih =>
      intro hn
      rw [rtwiceN, ih (by omega), sumI_succ]
      have : rcrossW l (n : Int) = W (crossZ (cor l n) (cor l (n + 1))) := by
        unfold rcrossW crossZ
        rw [ptAt_cor (by omega), nextL_cor, W_sub, Int.mul_comm (cor l (n + 1)).x]
      rw [this, W_add]
  exact key _ (Nat.le_refl _)
end Go.Stn

namespace Go.Proofs.YtahahmelnaphjaaDoor
open Go.K Go.Stn Go.RowKit
theorem en30 : En Tryd.prog 30 := en_of Tryd.func30 (by kernel_rfl) (by kernel_rfl)
theorem en46 : En Tryd.prog 46 := en_of Tryd.func46 (by kernel_rfl) (by kernel_rfl)
theorem en100 : En Tryd.prog 100 := en_of Tryd.func100 (by kernel_rfl) (by kernel_rfl)
set_option maxRecDepth 100000 in
set_option maxHeartbeats 1000000 in
theorem rcross_c (a : Option Addr) (cap : Nat) (l : List Pt) (i : Int) (w : World) (hl : Has w (Pts a l)) (hs : Small l.length) (h0 : 0 ≤ i) (h1 : i < l.length) :
    Calls Tryd.prog 100 #[.slice a l.length cap, .int .i64 i] w (Pure (.int .i64 (rcrossW l i)) w) := by
  refine calls_of_gk (vs := [_, _]) Tryd.func100 rfl rfl (Nat.le_of_ble_eq_true rfl) ?_
  refine gk_seq ?_
  refine gk_region ?_
  refine gk_y rfl rfl (y_assign rfl) ?_
  refine gk_nil (gk_sub (T' := [(0,_), (1,_), (4,_)]) ⟨rfl, rfl, rfl, trivial⟩ ?_)
  refine gk_seq ?_
  refine gk_any 9 (fun _ => mixed) (by kernel_rfl) ?_
  refine ph_y (y_move rfl) ?_
  refine ph_y (y_move rfl) ?_
  refine ph_y (y_indexE se22 rfl rfl (fun _ hw => (Rd.has (Has.rd hl) hw)) (by omega) (by omega)) ?_
  refine ph_y (y_loadE (vs := [_, _]) tf24 rfl (fun _ hw => (Rd.has (Has.rd hl) hw)) (by omega) (by omega) rfl) ?_
  refine ph_y (y_move rfl) ?_
  refine ph_y (y_move rfl) ?_
  refine ph_y (y_call en67 rfl (fun w hw => next_c _ _ l i w (Rd.has (Has.rd hl) hw) (by assumption) (by omega) (by omega) (by omega))) ?_
  refine ph_yx (yx_alloc tf24 (zs := [_, _]) rfl) ?_
  refine ph_yx (yx_alloc tf24 (zs := [_, _]) rfl) ?_
  intro b6
  intro b5
  refine gk_sub (T' := [(4,_), (5,_), (6,_), (10,_), (13,_)]) ⟨rfl, rfl, rfl, rfl, rfl, trivial⟩ ?_
  refine gk_storeV 0 tf24 rfl rfl (vs := [_, _]) rfl rfl rfl rfl rfl ?_
  refine gk_storeV 1 tf24 rfl rfl (vs := [_, _]) rfl rfl rfl rfl rfl ?_
  refine gk_nil (gk_sub (T' := [(4,_), (5,_), (6,_)]) ⟨rfl, rfl, rfl, trivial⟩ ?_)
  refine gk_seq ?_
  refine gk_region ?_
  refine gk_y rfl rfl (y_fieldAddr fo24_0 rfl) ?_
  refine gk_y rfl rfl (y_loadB1 0 tf3 rfl rfl rfl) ?_
  refine gk_y rfl rfl (y_fieldAddr fo24_1 rfl) ?_
  refine gk_y rfl rfl (y_loadB1 1 tf3 rfl rfl rfl) ?_
  refine gk_y rfl rfl (y_mul rfl rfl) ?_
  refine gk_y rfl rfl (y_fieldAddr fo24_0 rfl) ?_
  refine gk_y rfl rfl (y_loadB1 1 tf3 rfl rfl rfl) ?_
  refine gk_y rfl rfl (y_fieldAddr fo24_1 rfl) ?_
  refine gk_y rfl rfl (y_loadB1 0 tf3 rfl rfl rfl) ?_
  refine gk_y rfl rfl (y_mul rfl rfl) ?_
  refine gk_y rfl rfl (y_sub rfl rfl) ?_
  refine gk_y rfl rfl (y_assign rfl) ?_
  refine gk_nil (gk_sub (T' := [(4,_)]) ⟨rfl, trivial⟩ ?_)
  refine gk_ret ?_
  refine gk_pure (rv_one rfl (r1_tmp rfl)) ?_
  rfl
set_option maxRecDepth 100000 in
set_option maxHeartbeats 1000000 in
theorem rtwice_c (a : Option Addr) (cap : Nat) (l : List Pt) (w : World) (hl : Has w (Pts a l)) (hs : Small l.length) :
    Calls Tryd.prog 46 #[.slice a l.length cap] w (Pure (.int .i64 (rtwice l)) w) := by
  refine calls_of_gk (vs := [_]) Tryd.func46 rfl rfl (Nat.le_of_ble_eq_true rfl) ?_
  refine gk_seq ?_
  refine gk_region ?_
  refine gk_y rfl rfl (y_assign rfl) ?_
  refine gk_nil (gk_sub (T' := [(0,_), (2,_)]) ⟨rfl, rfl, trivial⟩ ?_)
  refine gk_seq ?_
  refine gk_region ?_
  refine gk_y rfl rfl (y_assign rfl) ?_
  refine gk_nil (gk_sub (T' := [(0,_), (2,_), (3,_)]) ⟨rfl, rfl, rfl, trivial⟩ ?_)
  refine gk_seq ?_
  refine gk_seq ?_
  refine gk_region ?_
  refine gk_y rfl rfl (y_assign rfl) ?_
  refine gk_nil (gk_sub (T' := [(0,_), (2,_), (3,_), (4,_)]) ⟨rfl, rfl, rfl, rfl, trivial⟩ ?_)
  refine gk_block ?_
  refine gk_loop (X := Int) (fun i => [(0, .slice a l.length cap), (2, .int .i64 0), (3, .int .i64 (rtwiceN l i.toNat)), (4, .int .i64 i)]) (fun i => []) (fun i => (0 ≤ i ∧ i ≤ l.length)) (fun i => (l.length - i).toNat) 0 ⟨rfl, rfl, rfl, rfl, trivial⟩ rfl ?_ ?_
  · exact ⟨by omega, by omega⟩
  · rintro i hI
    obtain ⟨g0, g1⟩ := hI
    refine gk_seq ?_
    refine gk_seq ?_
    refine gk_region ?_
    refine gk_y rfl rfl (y_move rfl) ?_
    refine gk_y rfl rfl (y_move rfl) ?_
    refine gk_y rfl rfl (y_lenS (Tryd.underlying22) rfl) ?_
    refine gk_y rfl rfl (y_lss rfl rfl) ?_
    refine gk_nil (gk_sub (T' := [(0,_), (2,_), (3,_), (4,_), (8,_)]) ⟨rfl, rfl, rfl, rfl, rfl, trivial⟩ ?_)
    refine gk_cond rfl (fun hc8 => ?_) (fun hc8 => ?_)
    · simp only [decide_eq_true_eq] at hc8
      refine gk_skip ?_
      refine gk_seq ?_
      refine gk_block ?_
      refine gk_region ?_
      refine gk_y rfl rfl (y_move rfl) ?_
      refine gk_y rfl rfl (y_move rfl) ?_
      refine gk_y rfl rfl (y_move rfl) ?_
      refine gk_y rfl rfl (y_call en100 rfl (fun w hw => rcross_c _ _ l i w (Rd.has (Has.rd hl) hw) (by assumption) (by omega) (by omega))) ?_
      refine gk_y rfl rfl (y_add rfl rfl) ?_
      refine gk_y rfl rfl (y_assign rfl) ?_
      refine gk_nil (gk_sub (T' := [(0,_), (2,_), (3,_), (4,_)]) ⟨rfl, rfl, rfl, rfl, trivial⟩ ?_)
      refine gk_sub (T' := [(0,_), (2,_), (3, .int .i64 (rtwiceN l (i + 1).toNat)), (4,_)]) ⟨rfl, rfl, (by rw [rtwice_succ g0]; rfl), rfl, trivial⟩ ?_
      refine gk_region ?_
      refine gk_y rfl rfl (y_move rfl) ?_
      refine gk_y rfl rfl (y_addI rfl rfl (by omega) (by omega)) ?_
      refine gk_y rfl rfl (y_assign rfl) ?_
      refine gk_nil (gk_sub (T' := [(0,_), (2,_), (3,_), (4,_)]) ⟨rfl, rfl, rfl, rfl, trivial⟩ ?_)
      exact gk_next (i + 1) ⟨rfl, rfl, rfl, rfl, trivial⟩ rfl ⟨by omega, by omega⟩ (by omega)
    · simp only [decide_eq_false_iff_not] at hc8
      refine gk_exit rfl ?_
      refine gk_seq ?_
      refine gk_region ?_
      refine gk_y rfl rfl (y_move rfl) ?_
      refine gk_y rfl rfl (y_assign rfl) ?_
      refine gk_nil (gk_sub (T' := [(2,_)]) ⟨rfl, trivial⟩ ?_)
      refine gk_ret ?_
      refine gk_pure (rv_one rfl (r1_tmp rfl)) ?_
      rw [show i.toNat = l.length from by omega]; rfl
end Go.Proofs.YtahahmelnaphjaaDoor

namespace Go.Proofs.YtahahmelnaphjaaDoor
open Go.K Go.Stn Go.RowKit
set_option maxRecDepth 100000 in
set_option maxHeartbeats 1000000 in
theorem rcentre_c (a : Option Addr) (cap : Nat) (l : List Pt) (w : World) (hl : Has w (Pts a l)) (hs : Small l.length) :
    Calls Tryd.prog 44 #[.slice a l.length cap] w (Pure (.tuple #[.int .i64 (rcentN l l.length).1, .int .i64 (rcentN l l.length).2, .int .i64 (IntKind.i64.wrap (3 * rtwice l))]) w) := by
  refine calls_of_gk (vs := [_]) Tryd.func44 rfl rfl (Nat.le_of_ble_eq_true rfl) ?_
  refine gk_seq ?_
  refine gk_region ?_
  refine gk_y rfl rfl (y_assign rfl) ?_
  refine gk_y rfl rfl (y_assign rfl) ?_
  refine gk_y rfl rfl (y_assign rfl) ?_
  refine gk_nil (gk_sub (T' := [(0,_), (2,_), (3,_), (4,_)]) ⟨rfl, rfl, rfl, rfl, trivial⟩ ?_)
  refine gk_seq ?_
  refine gk_region ?_
  refine gk_y rfl rfl (y_assign rfl) ?_
  refine gk_y rfl rfl (y_assign rfl) ?_
  refine gk_nil (gk_sub (T' := [(0,_), (2,_), (3,_), (4,_), (5,_), (6,_)]) ⟨rfl, rfl, rfl, rfl, rfl, rfl, trivial⟩ ?_)
  refine gk_seq ?_
  refine gk_seq ?_
  refine gk_region ?_
  refine gk_y rfl rfl (y_assign rfl) ?_
  refine gk_nil (gk_sub (T' := [(0,_), (2,_), (3,_), (4,_), (5,_), (6,_), (7,_)]) ⟨rfl, rfl, rfl, rfl, rfl, rfl, rfl, trivial⟩ ?_)
  refine gk_block ?_
  refine gk_loop (X := Int) (fun i => [(0, .slice a l.length cap), (2, .int .i64 0), (3, .int .i64 0), (4, .int .i64 0), (5, .int .i64 (rcentN l i.toNat).1), (6, .int .i64 (rcentN l i.toNat).2), (7, .int .i64 i)]) (fun i => []) (fun i => (0 ≤ i ∧ i ≤ l.length)) (fun i => (l.length - i).toNat) 0 ⟨rfl, rfl, rfl, rfl, rfl, rfl, rfl, trivial⟩ rfl ?_ ?_
  · exact ⟨by omega, by omega⟩
  · rintro i hI
    obtain ⟨g0, g1⟩ := hI
    refine gk_seq ?_
    refine gk_seq ?_
    refine gk_region ?_
    refine gk_y rfl rfl (y_move rfl) ?_
    refine gk_y rfl rfl (y_move rfl) ?_
    refine gk_y rfl rfl (y_lenS (Tryd.underlying22) rfl) ?_
    refine gk_y rfl rfl (y_lss rfl rfl) ?_
    refine gk_nil (gk_sub (T' := [(0,_), (2,_), (3,_), (4,_), (5,_), (6,_), (7,_), (13,_)]) ⟨rfl, rfl, rfl, rfl, rfl, rfl, rfl, rfl, trivial⟩ ?_)
    refine gk_cond rfl (fun hc13 => ?_) (fun hc13 => ?_)
    · simp only [decide_eq_true_eq] at hc13
      refine gk_skip ?_
      refine gk_seq ?_
      refine gk_block ?_
      refine gk_seq ?_
      refine gk_any 9 (fun _ => mixed) (by kernel_rfl) ?_
      refine ph_y (y_move rfl) ?_
      refine ph_y (y_move rfl) ?_
      refine ph_y (y_indexE se22 rfl rfl (fun _ hw => (Rd.has (Has.rd hl) hw)) (by omega) (by omega)) ?_
      refine ph_y (y_loadE (vs := [_, _]) tf24 rfl (fun _ hw => (Rd.has (Has.rd hl) hw)) (by omega) (by omega) rfl) ?_
      refine ph_y (y_move rfl) ?_
      refine ph_y (y_move rfl) ?_
      refine ph_y (y_call en67 rfl (fun w hw => next_c _ _ l i w (Rd.has (Has.rd hl) hw) (by assumption) (by omega) (by omega) (by omega))) ?_
      refine ph_yx (yx_alloc tf24 (zs := [_, _]) rfl) ?_
      refine ph_yx (yx_alloc tf24 (zs := [_, _]) rfl) ?_
      intro b9
      intro b8
      refine gk_sub (T' := [(0,_), (2,_), (3,_), (4,_), (5,_), (6,_), (7,_), (8,_), (9,_), (19,_), (22,_)]) ⟨rfl, rfl, rfl, rfl, rfl, rfl, rfl, rfl, rfl, rfl, rfl, trivial⟩ ?_
      refine gk_storeV 0 tf24 rfl rfl (vs := [_, _]) rfl rfl rfl rfl rfl ?_
      refine gk_storeV 1 tf24 rfl rfl (vs := [_, _]) rfl rfl rfl rfl rfl ?_
      refine gk_nil (gk_sub (T' := [(0,_), (2,_), (3,_), (4,_), (5,_), (6,_), (7,_), (8,_), (9,_)]) ⟨rfl, rfl, rfl, rfl, rfl, rfl, rfl, rfl, rfl, trivial⟩ ?_)
      refine gk_seq ?_
      refine gk_any 12 (fun _ => mixed) (by kernel_rfl) ?_
      refine ph_y (y_move rfl) ?_
      refine ph_y (y_fieldAddr fo24_0 rfl) ?_
      refine ph_y (y_loadB1 0 tf3 rfl rfl rfl) ?_
      refine ph_y (y_fieldAddr fo24_0 rfl) ?_
      refine ph_y (y_loadB1 1 tf3 rfl rfl rfl) ?_
      refine ph_y (y_add rfl rfl) ?_
      refine ph_y (y_move rfl) ?_
      refine ph_y (y_move rfl) ?_
      refine ph_y (y_call en100 rfl (fun w hw => rcross_c _ _ l i w (Rd.has (Has.rd hl) hw) (by assumption) (by omega) (by omega))) ?_
      refine ph_y (y_mul rfl rfl) ?_
      refine ph_y (y_add rfl rfl) ?_
      refine ph_y (y_assign rfl) ?_
      refine gk_nil (gk_sub (T' := [(0,_), (2,_), (3,_), (4,_), (5,_), (6,_), (7,_), (8,_), (9,_)]) ⟨rfl, rfl, rfl, rfl, rfl, rfl, rfl, rfl, rfl, trivial⟩ ?_)
      refine gk_any 12 (fun _ => mixed) (by kernel_rfl) ?_
      refine ph_y (y_move rfl) ?_
      refine ph_y (y_fieldAddr fo24_1 rfl) ?_
      refine ph_y (y_loadB1 0 tf3 rfl rfl rfl) ?_
      refine ph_y (y_fieldAddr fo24_1 rfl) ?_
      refine ph_y (y_loadB1 1 tf3 rfl rfl rfl) ?_
      refine ph_y (y_add rfl rfl) ?_
      refine ph_y (y_move rfl) ?_
      refine ph_y (y_move rfl) ?_
      refine ph_y (y_call en100 rfl (fun w hw => rcross_c _ _ l i w (Rd.has (Has.rd hl) hw) (by assumption) (by omega) (by omega))) ?_
      refine ph_y (y_mul rfl rfl) ?_
      refine ph_y (y_add rfl rfl) ?_
      refine ph_y (y_assign rfl) ?_
      refine gk_nil (gk_sub (T' := [(0,_), (2,_), (3,_), (4,_), (5,_), (6,_), (7,_)]) ⟨rfl, rfl, rfl, rfl, rfl, rfl, rfl, trivial⟩ ?_)
      refine gk_sub (T' := [(0,_), (2,_), (3,_), (4,_), (5, .int .i64 (rcentN l (i + 1).toNat).1), (6, .int .i64 (rcentN l (i + 1).toNat).2), (7,_)]) ⟨rfl, rfl, rfl, rfl, (by rw [rcent_succ g0]; rfl), (by rw [rcent_succ g0]; rfl), rfl, trivial⟩ ?_
      refine gk_region ?_
      refine gk_y rfl rfl (y_move rfl) ?_
      refine gk_y rfl rfl (y_addI rfl rfl (by omega) (by omega)) ?_
      refine gk_y rfl rfl (y_assign rfl) ?_
      refine gk_nil (gk_sub (T' := [(0,_), (2,_), (3,_), (4,_), (5,_), (6,_), (7,_)]) ⟨rfl, rfl, rfl, rfl, rfl, rfl, rfl, trivial⟩ ?_)
      refine gk_dropAt 0 rfl ?_
      refine gk_dropAt 0 rfl ?_
      exact gk_next (i + 1) ⟨rfl, rfl, rfl, rfl, rfl, rfl, rfl, trivial⟩ rfl ⟨by omega, by omega⟩ (by omega)
    · simp only [decide_eq_false_iff_not] at hc13
      refine gk_exit rfl ?_
      refine gk_seq ?_
      refine gk_region ?_
      refine gk_y rfl rfl (y_move rfl) ?_
      refine gk_y rfl rfl (y_move rfl) ?_
      refine gk_y rfl rfl (y_move rfl) ?_
      refine gk_y rfl rfl (y_call en46 rfl (fun w hw => rtwice_c _ _ l w (Rd.has (Has.rd hl) hw) (by first | assumption | (unfold Small; omega)))) ?_
      refine gk_y rfl rfl (y_mul rfl rfl) ?_
      refine gk_y rfl rfl (y_assign rfl) ?_
      refine gk_y rfl rfl (y_assign rfl) ?_
      refine gk_y rfl rfl (y_assign rfl) ?_
      refine gk_nil (gk_sub (T' := [(2,_), (3,_), (4,_)]) ⟨rfl, rfl, rfl, trivial⟩ ?_)
      refine gk_ret ?_
      refine gk_pure (rv_three rfl (r1_tmp rfl) (r1_tmp rfl) (r1_tmp rfl)) ?_
      rw [show i.toNat = l.length from by omega]
end Go.Proofs.YtahahmelnaphjaaDoor

namespace Go.Stn
open Go Go.K Go.RowKit
def rweightW (s : Stn) : Int := W (W (rtwice s.shape * s.depth) * s.density)
/-- the least and the greatest X of the corners that lie below -/
def rbedN (l : List Pt) : Nat → Int × Int
  | 0 => (2001, -1)
  | n + 1 => if (ptAt l (n : Int)).z = 0 then (min (rbedN l n).1 (ptAt l (n : Int)).x, max (rbedN l n).2 (ptAt l (n : Int)).x) else rbedN l n
theorem rbed_succ {l : List Pt} {i : Int} (h0 : 0 ≤ i) : rbedN l (i + 1).toNat = if (ptAt l i).z = 0 then (min (rbedN l i.toNat).1 (ptAt l i).x, max (rbedN l i.toNat).2 (ptAt l i).x) else rbedN l i.toNat := by
  rw [show (i + 1).toNat = i.toNat + 1 from by omega, rbedN, show ((i.toNat : Nat) : Int) = i from by omega]
end Go.Stn

namespace Go.Proofs.YtahahmelnaphjaaDoor
open Go.K Go.Stn Go.RowKit
theorem en92 : En Tryd.prog 92 := en_of Tryd.func92 (by kernel_rfl) (by kernel_rfl)
theorem en93 : En Tryd.prog 93 := en_of Tryd.func93 (by kernel_rfl) (by kernel_rfl)
theorem en94 : En Tryd.prog 94 := en_of Tryd.func94 (by kernel_rfl) (by kernel_rfl)
set_option maxRecDepth 100000 in
set_option maxHeartbeats 1000000 in
theorem rweight_c (a : Option Addr) (cap : Nat) (s : Stn) (w : World) (hl : Has w (Pts a s.shape)) (hs : Small s.shape.length) :
    Calls Tryd.prog 47 #[.agg #[.string s.name, .slice a s.shape.length cap, .int .i64 s.depth, .int .i64 s.density, .int .i64 s.grain.x, .int .i64 s.grain.z]] w (Pure (.int .i64 (rweightW s)) w) := by
  refine calls_of_gk (vs := [_]) Tryd.func47 rfl rfl (Nat.le_of_ble_eq_true rfl) ?_
  refine gk_seq ?_
  refine gk_region ?_
  refine gk_yx rfl rfl (yx_box (vs := [_, _, _, _, _, _]) rfl rfl) fun b1 => ?_
  refine gk_y rfl rfl (y_assign rfl) ?_
  refine gk_nil (gk_sub (T' := [(1,_), (2,_)]) ⟨rfl, rfl, trivial⟩ ?_)
  refine gk_seq ?_
  refine gk_any 10 (fun _ => mixed) (by kernel_rfl) ?_
  refine ph_y (y_fieldAddr fo26_1 rfl) ?_
  refine ph_y (y_loadB1 0 tf22 rfl rfl rfl) ?_
  refine ph_y (y_call en46 rfl (fun w hw => rtwice_c _ _ s.shape w (Rd.has (Has.rd hl) hw) (by first | assumption | (unfold Small; omega)))) ?_
  refine ph_y (y_fieldAddr fo26_2 rfl) ?_
  refine ph_y (y_loadB1 0 tf3 rfl rfl rfl) ?_
  refine ph_y (y_mul rfl rfl) ?_
  refine ph_y (y_fieldAddr fo26_3 rfl) ?_
  refine ph_y (y_loadB1 0 tf3 rfl rfl rfl) ?_
  refine ph_y (y_mul rfl rfl) ?_
  refine ph_y (y_assign rfl) ?_
  refine gk_nil (gk_sub (T' := [(2,_)]) ⟨rfl, trivial⟩ ?_)
  refine gk_ret ?_
  refine gk_pure (rv_one rfl (r1_tmp rfl)) ?_
  rfl
set_option maxRecDepth 100000 in
set_option maxHeartbeats 1000000 in
theorem rbed_c (a : Option Addr) (cap : Nat) (l : List Pt) (w : World) (hl : Has w (Pts a l)) (hs : Small l.length) :
    Calls Tryd.prog 45 #[.slice a l.length cap] w (Pure (.tuple #[.int .i64 (rbedN l l.length).1, .int .i64 (rbedN l l.length).2]) w) := by
  refine calls_of_gk (vs := [_]) Tryd.func45 rfl rfl (Nat.le_of_ble_eq_true rfl) ?_
  refine gk_seq ?_
  refine gk_region ?_
  refine gk_y rfl rfl (y_assign rfl) ?_
  refine gk_y rfl rfl (y_assign rfl) ?_
  refine gk_nil (gk_sub (T' := [(0,_), (2,_), (3,_)]) ⟨rfl, rfl, rfl, trivial⟩ ?_)
  refine gk_seq ?_
  refine gk_region ?_
  refine gk_y rfl rfl (y_assign rfl) ?_
  refine gk_y rfl rfl (y_assign rfl) ?_
  refine gk_nil (gk_sub (T' := [(0,_), (2,_), (3,_), (4,_), (5,_)]) ⟨rfl, rfl, rfl, rfl, rfl, trivial⟩ ?_)
  refine gk_seq ?_
  refine gk_seq ?_
  refine gk_region ?_
  refine gk_y rfl rfl (y_assign rfl) ?_
  refine gk_nil (gk_sub (T' := [(0,_), (2,_), (3,_), (4,_), (5,_), (6,_)]) ⟨rfl, rfl, rfl, rfl, rfl, rfl, trivial⟩ ?_)
  refine gk_block ?_
  refine gk_loop (X := Int) (fun i => [(0, .slice a l.length cap), (2, .int .i64 0), (3, .int .i64 0), (4, .int .i64 (rbedN l i.toNat).1), (5, .int .i64 (rbedN l i.toNat).2), (6, .int .i64 i)]) (fun i => []) (fun i => (0 ≤ i ∧ i ≤ l.length)) (fun i => (l.length - i).toNat) 0 ⟨rfl, rfl, rfl, rfl, rfl, rfl, trivial⟩ rfl ?_ ?_
  · exact ⟨by omega, by omega⟩
  · rintro i hI
    obtain ⟨g0, g1⟩ := hI
    refine gk_seq ?_
    refine gk_seq ?_
    refine gk_region ?_
    refine gk_y rfl rfl (y_move rfl) ?_
    refine gk_y rfl rfl (y_move rfl) ?_
    refine gk_y rfl rfl (y_lenS (Tryd.underlying22) rfl) ?_
    refine gk_y rfl rfl (y_lss rfl rfl) ?_
    refine gk_nil (gk_sub (T' := [(0,_), (2,_), (3,_), (4,_), (5,_), (6,_), (10,_)]) ⟨rfl, rfl, rfl, rfl, rfl, rfl, rfl, trivial⟩ ?_)
    refine gk_cond rfl (fun hc10 => ?_) (fun hc10 => ?_)
    · simp only [decide_eq_true_eq] at hc10
      refine gk_skip ?_
      refine gk_seq ?_
      refine gk_block ?_
      refine gk_seq ?_
      refine gk_region ?_
      refine gk_y rfl rfl (y_move rfl) ?_
      refine gk_y rfl rfl (y_move rfl) ?_
      refine gk_y rfl rfl (y_indexE se22 rfl rfl (fun _ hw => (Rd.has (Has.rd hl) hw)) (by omega) (by omega)) ?_
      refine gk_y rfl rfl (y_fieldE fo24_1 rfl (fun w hw => elems_addr (i := i) (Rd.has (Has.rd hl) hw) (by omega) (by omega))) ?_
      refine gk_y rfl rfl (y_loadEF tf3 rfl (fun _ hw => (Rd.has (Has.rd hl) hw)) (by omega) (by omega) rfl) ?_
      refine gk_y rfl rfl (y_eql rfl rfl) ?_
      refine gk_nil (gk_sub (T' := [(0,_), (2,_), (3,_), (4,_), (5,_), (6,_), (18,_)]) ⟨rfl, rfl, rfl, rfl, rfl, rfl, rfl, trivial⟩ ?_)
      refine gk_cond rfl (fun hc18 => ?_) (fun hc18 => ?_)
      · have hfs := rbed_succ (l := l) g0
        rw [if_pos (show (ptAt l i).z = 0 from of_decide_eq_true hc18)] at hfs
        refine gk_any 16 (fun _ => mixed) (by kernel_rfl) ?_
        refine ph_y (y_move rfl) ?_
        refine ph_y (y_move rfl) ?_
        refine ph_y (y_move rfl) ?_
        refine ph_y (y_indexE se22 rfl rfl (fun _ hw => (Rd.has (Has.rd hl) hw)) (by omega) (by omega)) ?_
        refine ph_y (y_fieldE fo24_0 rfl (fun w hw => elems_addr (i := i) (Rd.has (Has.rd hl) hw) (by omega) (by omega))) ?_
        refine ph_y (y_loadEF tf3 rfl (fun _ hw => (Rd.has (Has.rd hl) hw)) (by omega) (by omega) rfl) ?_
        refine ph_y (y_min rfl rfl) ?_
        refine ph_y (y_move rfl) ?_
        refine ph_y (y_move rfl) ?_
        refine ph_y (y_move rfl) ?_
        refine ph_y (y_indexE se22 rfl rfl (fun _ hw => (Rd.has (Has.rd hl) hw)) (by omega) (by omega)) ?_
        refine ph_y (y_fieldE fo24_0 rfl (fun w hw => elems_addr (i := i) (Rd.has (Has.rd hl) hw) (by omega) (by omega))) ?_
        refine ph_y (y_loadEF tf3 rfl (fun _ hw => (Rd.has (Has.rd hl) hw)) (by omega) (by omega) rfl) ?_
        refine ph_y (y_max rfl rfl) ?_
        refine ph_y (y_assign rfl) ?_
        refine ph_y (y_assign rfl) ?_
        refine gk_nil (gk_sub (T' := [(0,_), (2,_), (3,_), (4,_), (5,_), (6,_)]) ⟨rfl, rfl, rfl, rfl, rfl, rfl, trivial⟩ ?_)
        refine gk_region ?_
        refine gk_y rfl rfl (y_move rfl) ?_
        refine gk_y rfl rfl (y_addI rfl rfl (by omega) (by omega)) ?_
        refine gk_y rfl rfl (y_assign rfl) ?_
        refine gk_nil (gk_sub (T' := [(0,_), (2,_), (3,_), (4,_), (5,_), (6,_)]) ⟨rfl, rfl, rfl, rfl, rfl, rfl, trivial⟩ ?_)
        refine gk_sub (T' := [(0,_), (2,_), (3,_), (4, .int .i64 (rbedN l (i + 1).toNat).1), (5, .int .i64 (rbedN l (i + 1).toNat).2), (6,_)]) ⟨rfl, rfl, rfl, (by rw [hfs]; rfl), (by rw [hfs]; rfl), rfl, trivial⟩ ?_
        exact gk_next (i + 1) ⟨rfl, rfl, rfl, rfl, rfl, rfl, trivial⟩ rfl ⟨by omega, by omega⟩ (by omega)
      · have hfs := rbed_succ (l := l) g0
        rw [if_neg (show ¬ (ptAt l i).z = 0 from of_decide_eq_false hc18)] at hfs
        refine gk_skip ?_
        refine gk_region ?_
        refine gk_y rfl rfl (y_move rfl) ?_
        refine gk_y rfl rfl (y_addI rfl rfl (by omega) (by omega)) ?_
        refine gk_y rfl rfl (y_assign rfl) ?_
        refine gk_nil (gk_sub (T' := [(0,_), (2,_), (3,_), (4,_), (5,_), (6,_)]) ⟨rfl, rfl, rfl, rfl, rfl, rfl, trivial⟩ ?_)
        refine gk_sub (T' := [(0,_), (2,_), (3,_), (4, .int .i64 (rbedN l (i + 1).toNat).1), (5, .int .i64 (rbedN l (i + 1).toNat).2), (6,_)]) ⟨rfl, rfl, rfl, (by rw [hfs]; rfl), (by rw [hfs]; rfl), rfl, trivial⟩ ?_
        exact gk_next (i + 1) ⟨rfl, rfl, rfl, rfl, rfl, rfl, trivial⟩ rfl ⟨by omega, by omega⟩ (by omega)
    · simp only [decide_eq_false_iff_not] at hc10
      refine gk_exit rfl ?_
      refine gk_seq ?_
      refine gk_region ?_
      refine gk_y rfl rfl (y_move rfl) ?_
      refine gk_y rfl rfl (y_move rfl) ?_
      refine gk_y rfl rfl (y_assign rfl) ?_
      refine gk_y rfl rfl (y_assign rfl) ?_
      refine gk_nil (gk_sub (T' := [(2,_), (3,_)]) ⟨rfl, rfl, trivial⟩ ?_)
      refine gk_ret ?_
      refine gk_pure (rv_two rfl (r1_tmp rfl) (r1_tmp rfl)) ?_
      rw [show i.toNat = l.length from by omega]
set_option maxRecDepth 100000 in
set_option maxHeartbeats 1000000 in
theorem askp_c (a : Option Addr) (cap : Nat) (s : Stn) (gg : FuncId) (gfs gcap : List Value) (p : Pt) (w : World) (hl : Has w (Pts a s.shape)) (hs : Small s.shape.length) (M : World → Prop) (hM : ∀ w', Ext w w' → M w') (hen : En Tryd.prog gg) (hg : checkI s = 0 → ∀ w', M w' → Calls Tryd.prog gg (gfs ++ [] ++ gcap).toArray w' (Pure (ptV p) w')) :
    Calls Tryd.prog 92 #[.agg #[.string s.name, .slice a s.shape.length cap, .int .i64 s.depth, .int .i64 s.density, .int .i64 s.grain.x, .int .i64 s.grain.z], .func (.func gg) gfs.toArray gcap.toArray] w (Pure (.tuple #[.agg #[.int .i64 (askI s p.x), .int .i64 (askI s p.z)], .int .i64 (checkI s)]) w) := by
  refine calls_of_gk (vs := [_, _]) Tryd.func92 rfl rfl (Nat.le_of_ble_eq_true rfl) ?_
  refine gk_seq ?_
  refine gk_region ?_
  refine gk_yx rfl rfl (yx_box (vs := [_, _, _, _, _, _]) rfl rfl) fun b2 => ?_
  refine gk_yx rfl rfl (yx_alloc tf32 (zs := [_, _]) rfl) fun b4 => ?_
  refine gk_y rfl rfl (y_assign rfl) ?_
  refine gk_nil (gk_sub (T' := [(1,_), (2,_), (4,_), (5,_)]) ⟨rfl, rfl, rfl, rfl, trivial⟩ ?_)
  refine gk_seq ?_
  refine gk_seq ?_
  refine gk_region ?_
  refine gk_y rfl rfl (y_loadBA 1 tf34 rfl rfl (vs := [_, _, _, _, _, _]) rfl rfl) ?_
  refine gk_y rfl rfl (y_call en17 rfl (fun w hw => check_c _ _ s w (Rd.has (Has.rd hl) hw) (by assumption))) ?_
  refine gk_y rfl rfl (y_assign rfl) ?_
  refine gk_nil (gk_sub (T' := [(1,_), (4,_), (5,_), (6,_)]) ⟨rfl, rfl, rfl, rfl, trivial⟩ ?_)
  refine gk_seq ?_
  refine gk_region ?_
  refine gk_y rfl rfl (y_move rfl) ?_
  refine gk_y rfl rfl (y_neq rfl rfl) ?_
  refine gk_nil (gk_sub (T' := [(1,_), (4,_), (5,_), (6,_), (10,_)]) ⟨rfl, rfl, rfl, rfl, rfl, trivial⟩ ?_)
  refine gk_cond rfl (fun hc10 => ?_) (fun hc10 => ?_)
  · skip
    refine gk_seq ?_
    refine gk_region ?_
    refine gk_y rfl rfl (y_loadBA 0 tf32 rfl rfl (vs := [_, _]) rfl rfl) ?_
    refine gk_y rfl rfl (y_move rfl) ?_
    refine gk_storeV 0 tf32 rfl rfl (vs := [_, _]) rfl rfl rfl rfl rfl ?_
    refine gk_y rfl rfl (y_assign rfl) ?_
    refine gk_nil (gk_sub (T' := [(1,_), (4,_), (5,_)]) ⟨rfl, rfl, rfl, trivial⟩ ?_)
    refine gk_ret ?_
    refine gk_pure (rv_two rfl (r1_cellA (i := 0) (vs := [_, _]) tf32 rfl rfl rfl rfl) (r1_tmp rfl)) ?_
    have hk : ¬ checkI s = 0 := by simpa using hc10
    simp only [askI, if_neg hk]
  · have hk : checkI s = 0 := by simpa using hc10
    refine gk_skip ?_
    refine gk_seq ?_
    refine gk_region ?_
    refine gk_y rfl rfl (y_move rfl) ?_
    refine gk_y rfl rfl (y_callV (fs := gfs) (cap := gcap) hen rfl rfl (fun w hw => hg hk w (hM _ hw.base.ext0))) ?_
    refine gk_storeV 0 tf32 rfl rfl (vs := [_, _]) rfl rfl rfl rfl rfl ?_
    refine gk_y rfl rfl (y_assign rfl) ?_
    refine gk_nil (gk_sub (T' := [(4,_), (5,_)]) ⟨rfl, rfl, trivial⟩ ?_)
    refine gk_ret ?_
    refine gk_pure (rv_two rfl (r1_cellA (i := 0) (vs := [_, _]) tf32 rfl rfl rfl rfl) (r1_tmp rfl)) ?_
    simp only [askI, hk, if_true]
set_option maxRecDepth 100000 in
set_option maxHeartbeats 1000000 in
theorem extent1_c (a : Option Addr) (cap : Nat) (s : Stn) (b : Nat) (w : World) (hb : Has w (Box b [.string s.name, .slice a s.shape.length cap, .int .i64 s.depth, .int .i64 s.density, .int .i64 s.grain.x, .int .i64 s.grain.z] 34)) (hl : Has w (Pts a s.shape)) (hs : Small s.shape.length) (h0 : 0 < s.shape.length) :
    Calls Tryd.prog 93 #[.pointer (some ⟨b, 0, none⟩)] w (Pure (ptV (mostL s.shape)) w) := by
  refine calls_of_gk (vs := [_]) Tryd.func93 rfl rfl (Nat.le_of_ble_eq_true rfl) ?_
  refine gk_seq ?_
  refine gk_region ?_
  refine gk_yx rfl rfl (yx_alloc tf32 (zs := [_, _]) rfl) fun b1 => ?_
  refine gk_nil (gk_sub (T' := [(0,_), (1,_)]) ⟨rfl, rfl, trivial⟩ ?_)
  refine gk_seq ?_
  refine gk_region ?_
  refine gk_y rfl rfl (y_fieldAddr fo34_1 rfl) ?_
  refine gk_y rfl rfl (y_load1 tf31 rfl (fun _ hw => has_box_cell (Rd.has (Has.rd hb) hw) rfl)) ?_
  refine gk_y rfl rfl (y_call en94 rfl (fun w hw => most_c _ _ s.shape w (Rd.has (Has.rd hl) hw) (by assumption) (by omega))) ?_
  refine gk_storeV 0 tf32 rfl rfl (vs := [_, _]) rfl rfl rfl rfl rfl ?_
  refine gk_nil (gk_sub (T' := [(1,_)]) ⟨rfl, trivial⟩ ?_)
  refine gk_ret ?_
  refine gk_pure (rv_one rfl (r1_cellA (i := 0) (vs := [_, _]) tf32 rfl rfl rfl rfl)) ?_
  rfl
set_option maxRecDepth 100000 in
set_option maxHeartbeats 1000000 in
theorem Extent_c (a : Option Addr) (cap : Nat) (s : Stn) (w : World) (hl : Has w (Pts a s.shape)) (hs : Small s.shape.length) :
    Calls Tryd.prog 42 #[.agg #[.string s.name, .slice a s.shape.length cap, .int .i64 s.depth, .int .i64 s.density, .int .i64 s.grain.x, .int .i64 s.grain.z]] w (Pure (.tuple #[.int .i64 (askI s (mostL s.shape).x), .int .i64 (askI s (mostL s.shape).z), .int .i64 (checkI s)]) w) := by
  refine calls_of_gk (vs := [_]) Tryd.func42 rfl rfl (Nat.le_of_ble_eq_true rfl) ?_
  refine gk_seq ?_
  refine gk_region ?_
  refine gk_yx rfl rfl (yx_box (vs := [_, _, _, _, _, _]) rfl rfl) fun b1 => ?_
  refine gk_y rfl rfl (y_assign rfl) ?_
  refine gk_y rfl rfl (y_assign rfl) ?_
  refine gk_y rfl rfl (y_assign rfl) ?_
  refine gk_nil (gk_sub (T' := [(1,_), (2,_), (3,_), (4,_)]) ⟨rfl, rfl, rfl, rfl, trivial⟩ ?_)
  refine gk_seq ?_
  refine gk_region ?_
  refine gk_y rfl rfl (y_loadBA 0 tf34 rfl rfl (vs := [_, _, _, _, _, _]) rfl rfl) ?_
  refine gk_y rfl rfl (y_makeFunc («as» := []) (bs := [_]) rfl rfl) ?_
  refine gk_y rfl rfl (y_call en92 rfl (fun w hw => askp_c _ _ s 93 [] [.pointer (some ⟨b1, 0, none⟩)] (mostL s.shape) w (Rd.has (Has.rd hl) hw) (by assumption) (fun w' => Has w' (Box b1 [.string s.name, .slice a s.shape.length cap, .int .i64 s.depth, .int .i64 s.density, .int .i64 s.grain.x, .int .i64 s.grain.z] 34) ∧ Has w' (Pts a s.shape)) (fun w' hx => ⟨Has.ext (hw.has (p := 0) rfl) hx, Has.ext (Rd.has (Has.rd hl) hw) hx⟩) en93 (fun hk w' hp => extent1_c _ _ s _ w' hp.1 hp.2 (by assumption) (by have := check_len hk; omega)))) ?_
  refine gk_y rfl rfl (y_move rfl) ?_
  refine gk_y rfl rfl (y_extract rfl rfl) ?_
  refine gk_y rfl rfl (y_extract rfl rfl) ?_
  refine gk_yx rfl rfl (yx_alloc tf32 (zs := [_, _]) rfl) fun b5 => ?_
  refine gk_storeV 0 tf32 rfl rfl (vs := [_, _]) rfl rfl rfl rfl rfl ?_
  refine gk_y rfl rfl (y_assign rfl) ?_
  refine gk_nil (gk_sub (T' := [(2,_), (3,_), (4,_), (5,_)]) ⟨rfl, rfl, rfl, rfl, trivial⟩ ?_)
  refine gk_seq ?_
  refine gk_any 8 (fun _ => mixed) (by kernel_rfl) ?_
  refine ph_y (y_fieldAddr fo32_0 rfl) ?_
  refine ph_y (y_loadB1 0 tf3 rfl rfl rfl) ?_
  refine ph_y (y_fieldAddr fo32_1 rfl) ?_
  refine ph_y (y_loadB1 0 tf3 rfl rfl rfl) ?_
  refine ph_y (y_move rfl) ?_
  refine ph_y (y_assign rfl) ?_
  refine ph_y (y_assign rfl) ?_
  refine ph_y (y_assign rfl) ?_
  refine gk_nil (gk_sub (T' := [(2,_), (3,_), (4,_)]) ⟨rfl, rfl, rfl, trivial⟩ ?_)
  refine gk_ret ?_
  refine gk_pure (rv_three rfl (r1_tmp rfl) (r1_tmp rfl) (r1_tmp rfl)) ?_
  rfl
end Go.Proofs.YtahahmelnaphjaaDoor

namespace Go.K
open Go Go.RowKit
section
variable {c : Cx} {ds : List Deferred} {T : List (Nat × Value)} {H : List Res} {d : Option Nat} {ty : TypeId} {ps : String} {af : Array Edge} {g : Option (Nat × Bool)} {x y : Operand}
theorem y_eqNil {t t' e : TypeId} {a : Option Addr} {n k n' k' : Nat} (ht : c.P.underlying t = some (.slice e)) (hx : evo T x = some (.slice a n k)) (hy : evo T y = some (.slice none n' k')) :
    Y c ds H T ⟨d, .binOp .eql t x y t', ty, ps, af, g⟩ (.bool a.isNone) :=
  y_run fun a w ha _ => by
    simp only [execOp, ha.eval hx, ha.eval hy]
    exact run_val (Go.Lib.run_eql_slice_nil _ _ _ _ _ _ _ _ ht)
end
theorem some_of_elems {α : Type} {w : World} {a : Option Addr} {k : Nat} {enc : α → List Value} {l : List α} (h : Has w (Elems a k enc l)) (h0 : 0 < l.length) : a.isNone = false := by
  obtain ⟨B, _, h | ⟨b, off, rfl, _⟩⟩ := h
  · subst h; simp at h0
  · rfl
end Go.K

namespace Go.Proofs.YtahahmelnaphjaaDoor
open Go.K Go.Stn Go.RowKit
theorem bs31_0  (w : World) : (Instr.buildSlice 31 0 #[]).run Tryd.prog w = .ok (.slice (some ⟨w.heap.size, 0, none⟩) 0 0) (w.alloc (.cells (([] : List (Pt)).flatMap encPt).toArray 32)) := by kernel_rfl
set_option maxRecDepth 100000 in
set_option maxHeartbeats 1000000 in
theorem clone_c (a : Option Addr) (cap : Nat) (l : List Pt) (w : World) (hl : Has w (Pts a l)) (hs : Small l.length) (h0 : 0 < l.length) :
    Calls Tryd.prog 96 #[.slice a l.length cap] w (Gives (fun z : Option Addr × Nat => .slice z.1 l.length z.2) (fun z => Row z.1 2 z.2 32 encPt l) w) := by
  refine calls_of_gk (vs := [_]) Tryd.func96 rfl rfl (Nat.le_of_ble_eq_true rfl) ?_
  refine gk_seq ?_
  refine gk_region ?_
  refine gk_y rfl rfl (y_assign rfl) ?_
  refine gk_nil (gk_sub (T' := [(0,_), (2,_)]) ⟨rfl, rfl, trivial⟩ ?_)
  refine gk_seq ?_
  refine gk_seq ?_
  refine gk_region ?_
  refine gk_y rfl rfl (y_move rfl) ?_
  refine gk_y rfl rfl (y_eqNil (Tryd.underlying31) rfl rfl) ?_
  refine gk_nil (gk_sub (T' := [(0,_), (2,_), (4,_)]) ⟨rfl, rfl, rfl, trivial⟩ ?_)
  refine gk_cond rfl (fun hc4 => ?_) (fun hc4 => ?_)
  · exfalso; rw [some_of_elems hl h0] at hc4; exact Bool.false_ne_true hc4
  · skip
    refine gk_skip ?_
    refine gk_seq ?_
    refine gk_region ?_
    refine gk_yx rfl rfl (yx_buildSlice rfl (bs31_0) encPt_ok rfl) fun b5 => ?_
    refine gk_y rfl rfl (y_move rfl) ?_
    refine gk_append (m := l) 0 af31 encPt_ok rfl rfl rfl rfl (fun _ hw => (Rd.has (Has.rd hl) hw)) (by first | omega | (simp only [List.length_cons, List.length_nil]; omega)) (by first | (unfold maxLen; omega) | (simp only [List.length_cons, List.length_nil, maxLen]; omega)) fun a7 c7 => ?_
    refine gk_y rfl rfl (y_assign rfl) ?_
    refine gk_nil (gk_sub (T' := [(2,_)]) ⟨rfl, trivial⟩ ?_)
    refine gk_ret ?_
    refine gk_gives (a7, c7) 0 (rv_one rfl (r1_tmp rfl)) ?_ rfl
    rfl
end Go.Proofs.YtahahmelnaphjaaDoor

namespace Go.Stn
open Go Go.K Go.RowKit
theorem most_spec {l : List Pt} (h : 0 < l.length) : (∀ p ∈ l, p.x ≤ (mostL l).x ∧ p.z ≤ (mostL l).z) ∧ (∃ p ∈ l, (mostL l).x = p.x) ∧ ∃ p ∈ l, (mostL l).z = p.z := by
  have key : ∀ (r : List Pt) (o : Pt), let y := r.foldl (fun o p => (⟨max o.x p.x, max o.z p.z⟩ : Pt)) o; (o.x ≤ y.x ∧ o.z ≤ y.z) ∧ (∀ p ∈ r, p.x ≤ y.x ∧ p.z ≤ y.z) ∧ (y.x = o.x ∨ ∃ p ∈ r, y.x = p.x) ∧ (y.z = o.z ∨ ∃ p ∈ r, y.z = p.z) := by
    intro r
    induction r with
    | nil => intro o; exact ⟨⟨Int.le_refl _, Int.le_refl _⟩, fun p hp => (by cases hp), .inl rfl, .inl rfl⟩
    | cons q r ih =>
      intro o
      simp only [List.foldl_cons]
      obtain ⟨⟨a1, a2⟩, a3, a4, a5⟩ := ih ⟨max o.x q.x, max o.z q.z⟩
      dsimp only at a1 a2 a3 a4 a5 ⊢
      refine ⟨⟨by clear a4 a5; omega, by clear a4 a5; omega⟩, fun p hp => ?_, ?_, ?_⟩
      · rcases List.mem_cons.1 hp with rfl | hp
        · clear a4 a5; omega
        · exact a3 p hp
      · rcases a4 with a4 | ⟨p, hp, a4⟩
        · rcases Int.le_total o.x q.x with h | h
          · exact .inr ⟨q, List.mem_cons_self .., by clear a5; omega⟩
          · exact .inl (by clear a5; omega)
        · exact .inr ⟨p, List.mem_cons_of_mem _ hp, a4⟩
      · rcases a5 with a5 | ⟨p, hp, a5⟩
        · rcases Int.le_total o.z q.z with h | h
          · exact .inr ⟨q, List.mem_cons_self .., by clear a4; omega⟩
          · exact .inl (by clear a4; omega)
        · exact .inr ⟨p, List.mem_cons_of_mem _ hp, a5⟩
  have h0 : l.getD 0 default ∈ l := getD_mem h
  obtain ⟨⟨a1, a2⟩, a3, a4, a5⟩ := key l (l.getD 0 default)
  unfold mostL
  refine ⟨a3, ?_, ?_⟩
  · rcases a4 with a4 | a4
    · exact ⟨_, h0, a4⟩
    · exact a4
  · rcases a5 with a5 | a5
    · exact ⟨_, h0, a5⟩
    · exact a5
theorem mem_cor {l : List Pt} {p : Pt} (h : p ∈ l) : ∃ i, i < l.length ∧ cor l i = p := by
  obtain ⟨i, hi, rfl⟩ := List.getElem_of_mem h
  exact ⟨i, hi, by unfold cor; rw [Nat.mod_eq_of_lt hi]; simp [hi]⟩
end Go.Stn

namespace Go.Stn
open Go Go.K Go.RowKit
theorem W_mulr (a b : Int) : W (a * W b) = W (a * b) := by
  have h : ∃ k, W b = b - 18446744073709551616 * k := ⟨(b + 9223372036854775808) / 18446744073709551616, by rw [W_def]; omega⟩
  obtain ⟨k, hk⟩ := h
  rw [hk, show a * (b - 18446744073709551616 * k) = a * b - 18446744073709551616 * (a * k) from by grind]
  generalize a * b = x
  generalize a * k = y
  rw [W_def, W_def]
  omega
theorem W_mull (a b : Int) : W (W a * b) = W (a * b) := by rw [Int.mul_comm, W_mulr, Int.mul_comm]
def sumE (f : Pt → Pt → Int) (l : List Pt) : Int := sumI l.length fun i => f (cor l i) (cor l (i + 1))
def mx (p q : Pt) : Int := (p.x + q.x) * crossZ p q
def mz (p q : Pt) : Int := (p.z + q.z) * crossZ p q
theorem cent_eq (l : List Pt) : centW l = (W (sumE mx l), W (sumE mz l), W (3 * twiceZ l)) := by
  have key : ∀ n, n ≤ l.length → ((edgesL l).take n).foldl centF (0, 0, 0) = (W (sumI n fun i => mx (cor l i) (cor l (i + 1))), W (sumI n fun i => mz (cor l i) (cor l (i + 1))), W (3 * sumI n fun i => crossZ (cor l i) (cor l (i + 1)))) := by
    intro n
    induction n with
    | zero => intro _; rfl
    | succ n ih =>
      intro hn
      rw [fold_succ _ _ (edgesL_get (by omega)), ih (by omega), sumI_succ, sumI_succ, sumI_succ]
      unfold centF
      simp only [crossW_W, W_mull, W_mulr, W_add, Prod.mk.injEq]
      refine ⟨rfl, rfl, ?_⟩
      rw [Int.mul_add]
  have := key l.length (Nat.le_refl _)
  rw [← edges_len', List.take_length, edges_len'] at this
  exact this
theorem rcent_eq (l : List Pt) : rcentN l l.length = (W (sumE mx l), W (sumE mz l)) := by
  have key : ∀ n, n ≤ l.length → rcentN l n = (W (sumI n fun i => mx (cor l i) (cor l (i + 1))), W (sumI n fun i => mz (cor l i) (cor l (i + 1)))) := by
    intro n
    induction n with
    | zero => intro _; rfl
    | succ n ih =>
      intro hn
      have hc : rcrossW l (n : Int) = W (crossZ (cor l n) (cor l (n + 1))) := by
        unfold rcrossW crossZ
        rw [ptAt_cor (by omega), nextL_cor, W_sub, Int.mul_comm (cor l (n + 1)).x]
      rw [rcentN, ih (by omega), sumI_succ, sumI_succ, hc, ptAt_cor (by omega), nextL_cor]
      simp only [W_mull, W_mulr, W_add, Prod.mk.injEq]
      exact ⟨rfl, rfl⟩
  exact key _ (Nat.le_refl _)
end Go.Stn

namespace Go.Stn
open Go Go.K Go.RowKit
/-- does a corner lie above the bed? -/
def upB (p : Pt) : Bool := decide (0 < p.z)
def lowL (l : List Pt) : List Pt := l.filter fun p => !upB p
theorem placed_least {l : List Pt} (h : placedB l = true) : (leastL l).x = 0 ∧ (leastL l).z = 0 := by
  unfold placedB at h
  simp only [Bool.and_eq_true, decide_eq_true_eq] at h
  exact ⟨h.2.1.1, h.2.1.2⟩
theorem rbed_spec (l : List Pt) : ∀ n, n ≤ l.length → (∀ i, i < n → (cor l i).z = 0 → (rbedN l n).1 ≤ (cor l i).x ∧ (cor l i).x ≤ (rbedN l n).2) ∧
    ((rbedN l n).1 = 2001 ∨ ∃ i, i < n ∧ (cor l i).z = 0 ∧ (rbedN l n).1 = (cor l i).x) ∧ ((rbedN l n).2 = -1 ∨ ∃ i, i < n ∧ (cor l i).z = 0 ∧ (rbedN l n).2 = (cor l i).x) := by
  intro n
  induction n with
  | zero => intro _; exact ⟨fun i hi => by omega, .inl rfl, .inl rfl⟩
  | succ n ih =>
    intro hn
    obtain ⟨h1, h2, h3⟩ := ih (by omega)
    rw [rbedN, ptAt_cor (by omega)]
    by_cases hz : (cor l n).z = 0
    · rw [if_pos hz]
      dsimp only
      refine ⟨fun i hi hi0 => ?_, ?_, ?_⟩
      · by_cases he : i = n
        · subst he; omega
        · have := h1 i (by omega) hi0; omega
      · rcases Int.le_total (rbedN l n).1 (cor l n).x with h | h
        · rw [Int.min_eq_left h]
          rcases h2 with h2 | ⟨i, a, b, c⟩
          · exact .inl h2
          · exact .inr ⟨i, by omega, b, c⟩
        · rw [Int.min_eq_right h]
          exact .inr ⟨n, by omega, hz, rfl⟩
      · rcases Int.le_total (rbedN l n).2 (cor l n).x with h | h
        · rw [Int.max_eq_right h]
          exact .inr ⟨n, by omega, hz, rfl⟩
        · rw [Int.max_eq_left h]
          rcases h3 with h3 | ⟨i, a, b, c⟩
          · exact .inl h3
          · exact .inr ⟨i, by omega, b, c⟩
    · rw [if_neg hz]
      refine ⟨fun i hi hi0 => ?_, ?_, ?_⟩
      · exact h1 i (by
          rcases Nat.lt_or_ge i n with h | h
          · exact h
          · exact absurd (by rw [show i = n from by omega] at hi0; exact hi0) hz) hi0
      · rcases h2 with h2 | ⟨i, a, b, c⟩
        · exact .inl h2
        · exact .inr ⟨i, by omega, b, c⟩
      · rcases h3 with h3 | ⟨i, a, b, c⟩
        · exact .inl h3
        · exact .inr ⟨i, by omega, b, c⟩
theorem low_mem {l : List Pt} {p : Pt} : p ∈ lowL l ↔ p ∈ l ∧ ¬ 0 < p.z := by
  unfold lowL upB
  rw [List.mem_filter]
  simp
theorem bed_eq {s : Stn} (hk : checkI s = 0) : 0 < (lowL s.shape).length ∧ (leastL (lowL s.shape)).x = (rbedN s.shape s.shape.length).1 ∧ (mostL (lowL s.shape)).x = (rbedN s.shape s.shape.length).2 := by
  have g := good_of hk
  have h3 := g.len
  have hpos : 0 < s.shape.length := by omega
  obtain ⟨_, hl⟩ := placed_least (check_placed hk)
  obtain ⟨_, _, p, hp, hpz⟩ := least_spec hpos
  have hmem : p ∈ lowL s.shape := low_mem.2 ⟨hp, by omega⟩
  have hlen : 0 < (lowL s.shape).length := List.length_pos_of_mem hmem
  obtain ⟨r1, r2, r3⟩ := rbed_spec s.shape s.shape.length (Nat.le_refl _)
  obtain ⟨a1, ⟨u, hu, a2⟩, _⟩ := least_spec hlen
  obtain ⟨b1, ⟨v, hv, b2⟩, _⟩ := most_spec hlen
  have hz : ∀ q ∈ lowL s.shape, ∃ i, i < s.shape.length ∧ cor s.shape i = q ∧ (cor s.shape i).z = 0 := fun q hq => by
    obtain ⟨h1, h2⟩ := low_mem.1 hq
    obtain ⟨i, hi, he⟩ := mem_cor h1
    have := near_in (g.far i)
    exact ⟨i, hi, he, by rw [he] at this ⊢; omega⟩
  have hb : ∀ i, i < s.shape.length → (cor s.shape i).z = 0 → cor s.shape i ∈ lowL s.shape := fun i hi h0 => low_mem.2 ⟨cor_mem hpos i, by omega⟩
  have hfar : ∀ i, 0 ≤ (cor s.shape i).x ∧ (cor s.shape i).x ≤ 2000 := fun i => by have := near_in (g.far i); omega
  obtain ⟨iu, hiu, eu, zu⟩ := hz u hu
  obtain ⟨iv, hiv, ev, zv⟩ := hz v hv
  have c1 := r1 iu hiu zu
  have c2 := r1 iv hiv zv
  rw [eu] at c1
  rw [ev] at c2
  have f1 := hfar iu
  have f2 := hfar iv
  rw [eu] at f1
  rw [ev] at f2
  refine ⟨hlen, ?_, ?_⟩
  · rcases r2 with r2 | ⟨i, hi, h0, e⟩
    · omega
    · have := a1 _ (hb i hi h0); omega
  · rcases r3 with r3 | ⟨i, hi, h0, e⟩
    · omega
    · have := b1 _ (hb i hi h0); omega
/-- **areas, weights and centres, two ways** -/
theorem weighs_eq (s : Stn) : twiceW s.shape = rtwice s.shape ∧ weightW s = rweightW s ∧ (centW s.shape).1 = (rcentN s.shape s.shape.length).1 ∧ (centW s.shape).2.1 = (rcentN s.shape s.shape.length).2 ∧ (centW s.shape).2.2 = W (3 * rtwice s.shape) := by
  have h1 : twiceW s.shape = rtwice s.shape := by rw [twice_eq, rtwice_eq]
  refine ⟨h1, ?_, ?_, ?_, ?_⟩
  · unfold weightW rweightW; rw [h1]
  · rw [cent_eq, rcent_eq]
  · rw [cent_eq, rcent_eq]
  · rw [cent_eq, rtwice_eq, W_mulr]
end Go.Stn

namespace Go.Stn
open Go Go.K Go.RowKit
theorem findI_spec {α : Type} [Inhabited α] {p : α → Bool} {l : List α} (h : findI p l ≠ -1) : 0 ≤ findI p l ∧ findI p l < (l.length : Int) ∧ p (l.getD (findI p l).toNat default) = true ∧ ∀ j : Nat, (j : Int) < findI p l → p (l.getD j default) = false := by
  unfold findI at *
  by_cases ha : l.any p = true
  · rw [if_pos ha] at *
    have hlt : l.findIdx p < l.length := List.findIdx_lt_length_of_exists (by simpa using ha)
    have h1 := List.findIdx_getElem (w := hlt)
    refine ⟨by omega, by omega, ?_, fun j hj => ?_⟩
    · rw [show ((l.findIdx p : Nat) : Int).toNat = l.findIdx p from by omega]
      simpa [hlt] using h1
    · have hj' : j < l.findIdx p := by omega
      have h2 := List.not_of_lt_findIdx hj'
      have : j < l.length := by omega
      simpa [this] using h2
  · rw [if_neg ha] at h
    exact absurd rfl h
theorem findI_miss {α : Type} {p : α → Bool} {l : List α} (h : findI p l = -1) : ∀ x ∈ l, p x = false := fun x hx => by
  unfold findI at h
  cases hp : p x with
  | false => rfl
  | true =>
    rw [if_pos (List.any_eq_true.2 ⟨x, hx, hp⟩)] at h
    omega
/-- deleting: of the first j the low ones lie in front, what is to come lies as it lay -/
structure DelI (l m : List Pt) (i j : Int) : Prop where
  i0 : 0 ≤ i
  ij : i < j
  jl : j ≤ (l.length : Int)
  len : m.length = l.length
  front : m.take i.toNat = lowL (l.take j.toNat)
  back : m.drop j.toNat = l.drop j.toNat
theorem del_none {l : List Pt} (h : findI upB l = -1) : lowL l = l := by
  unfold lowL
  rw [List.filter_eq_self]
  intro x hx
  rw [findI_miss h x hx]; rfl
theorem del_start {l : List Pt} (h : ¬ findI upB l = -1) : DelI l l (findI upB l) (findI upB l + 1) := by
  obtain ⟨h0, h1, h2, h3⟩ := findI_spec h
  refine ⟨h0, by omega, by omega, rfl, ?_, rfl⟩
  rw [take_succ h0 h1]
  unfold lowL
  rw [List.filter_append]
  have e1 : (l.take (findI upB l).toNat).filter (fun p => !upB p) = l.take (findI upB l).toNat := by
    rw [List.filter_eq_self]
    intro x hx
    obtain ⟨j, hj, rfl⟩ := List.getElem_of_mem hx
    rw [List.length_take] at hj
    have := h3 j (by omega)
    have hjl : j < l.length := by omega
    rw [List.getElem_take]
    simp [hjl] at this
    simp [this]
  rw [e1]
  rw [List.filter_cons, if_neg (by rw [h2]; decide)]
  simp
theorem DelI.get {l m : List Pt} {i j : Int} (h : DelI l m i j) (hj : j < (l.length : Int)) : m.getD j.toNat default = l.getD j.toNat default := by
  have hb := congrArg (fun x : List Pt => x[0]?) h.back
  simp only [List.getElem?_drop, Nat.add_zero] at hb
  simp only [List.getD_eq_getElem?_getD, hb]
theorem DelI.keep {l m : List Pt} {i j : Int} (h : DelI l m i j) (hj : j < (l.length : Int)) (hu : upB (m.getD j.toNat default) = false) : DelI l (m.set i.toNat (m.getD j.toNat default)) (i + 1) (j + 1) := by
  have hi0 := h.i0; have hij := h.ij; have hl := h.len
  have hg := h.get hj
  refine ⟨by omega, by omega, by omega, by rw [List.length_set]; exact hl, ?_, ?_⟩
  · rw [take_succ (l := l) (by omega) (by omega), take_succ (l := m.set _ _) hi0 (by rw [List.length_set]; omega)]
    unfold lowL
    rw [List.filter_append, List.filter_cons, if_pos (by rw [← hg, hu]; rfl), List.filter_nil]
    have h2 := h.front
    unfold lowL at h2
    rw [← h2, List.take_set_of_le (Nat.le_refl _), hg]
    congr 1
    rw [List.getD_eq_getElem?_getD, List.getElem?_set_self (by omega)]
    rfl
  · rw [List.drop_set_of_lt (by omega), show (j + 1).toNat = j.toNat + 1 from by omega, ← List.drop_drop, h.back, List.drop_drop]
theorem DelI.skip {l m : List Pt} {i j : Int} (h : DelI l m i j) (hj : j < (l.length : Int)) (hu : upB (m.getD j.toNat default) = true) : DelI l m i (j + 1) := by
  have hi0 := h.i0; have hij := h.ij; have hl := h.len
  have hg := h.get hj
  refine ⟨by omega, by omega, by omega, hl, ?_, ?_⟩
  · rw [take_succ (l := l) (by omega) (by omega)]
    unfold lowL
    rw [List.filter_append, List.filter_cons, if_neg (by rw [← hg, hu]; decide), List.filter_nil, List.append_nil]
    exact h.front
  · rw [show (j + 1).toNat = j.toNat + 1 from by omega, ← List.drop_drop, h.back, List.drop_drop]
theorem DelI.done {l m : List Pt} {i j : Int} (h : DelI l m i j) (hj : ¬ j < (l.length : Int)) : m.take i.toNat = lowL l ∧ i.toNat = (lowL l).length ∧ m.length = l.length := by
  have hi0 := h.i0; have hij := h.ij; have hl := h.len; have hjl := h.jl
  have hf := h.front
  rw [take_all (l := l) (by omega)] at hf
  have := congrArg List.length hf
  rw [List.length_take] at this
  exact ⟨hf, by omega, hl⟩
theorem low_len (l : List Pt) : (lowL l).length ≤ l.length := List.length_filter_le _ _
/-- what a row holds when its high corners are out -/
def lowZ (l : List Pt) : List Pt := lowL l ++ List.replicate (l.length - (lowL l).length) ⟨0, 0⟩
end Go.Stn

namespace Go.K
open Go Go.RowKit
section
variable {α : Type} {k : Nat} {enc : α → List Value}
theorem row_over (he : Enc k enc) {l m : List α} {lo cap off : Nat} {cs : List Value} (h : lo + m.length ≤ l.length) (g1 : l.length ≤ cap) (g2 : off + cap * k ≤ cs.length) (g3 : (cs.drop off).take (l.length * k) = l.flatMap enc) :
    ((over cs (off + lo * k) (m.flatMap enc)).drop off).take (l.length * k) = (l.take lo ++ (m ++ l.drop (lo + m.length))).flatMap enc := by
  have hm : (m.flatMap enc).length = m.length * k := flat_len he m
  have hll : l.length * k ≤ cap * k := Nat.mul_le_mul_right _ g1
  have hik : lo * k + m.length * k ≤ l.length * k := by rw [← Nat.add_mul]; exact Nat.mul_le_mul_right _ h
  rw [over_eq _ _ _ (by omega), hm]
  have e1 : (cs.take (off + lo * k)).drop off = (l.take lo).flatMap enc := by
    rw [List.drop_take, Nat.add_sub_cancel_left, ← flat_take he (by omega), ← g3, List.take_take, Nat.min_eq_left (by omega)]
  have hAl : ((l.take lo).flatMap enc).length = lo * k := by rw [flat_len he, List.length_take, Nat.min_eq_left (by omega)]
  have e2 : (cs.take (off + lo * k) ++ m.flatMap enc ++ cs.drop (off + lo * k + m.length * k)).drop off = (l.take lo).flatMap enc ++ (m.flatMap enc ++ cs.drop (off + lo * k + m.length * k)) := by
    rw [List.append_assoc, List.drop_append_of_le_length (by rw [List.length_take]; omega), e1]
  rw [e2, List.take_append, hAl, List.take_of_length_le (l := (l.take lo).flatMap enc) (by rw [hAl]; omega), List.take_append, hm, List.take_of_length_le (l := m.flatMap enc) (by rw [hm]; omega)]
  have e3 : (cs.drop (off + lo * k + m.length * k)).take (l.length * k - lo * k - m.length * k) = (l.drop (lo + m.length)).flatMap enc := by
    rw [← flat_drop he (by omega), ← g3, List.drop_take, List.drop_drop, Nat.add_mul]
    congr 1
    · omega
    · rw [Nat.add_assoc]
  rw [e3, List.flatMap_append, List.flatMap_append]
theorem zeros_flat (he : Enc k enc) (z0 : α) (n : Nat) : (Builtin.zeroCells (enc z0).toArray n).toList = (List.replicate n z0).flatMap enc := by
  have hl := he.len z0
  have hp := he.pos
  unfold Builtin.zeroCells
  apply List.ext_getElem
  · rw [flat_len he]; simp [hl]
  · intro i h1 h2
    have hi : i < n * k := by simpa [hl] using h1
    have hk : i % k < k := Nat.mod_lt _ hp
    have hd : i / k < n := Nat.div_lt_of_lt_mul (by rw [Nat.mul_comm]; exact hi)
    have hg := flat_get he (List.replicate n z0) (i / k) z0 (by simp [hd])
    have e : ((List.replicate n z0).flatMap enc)[i]? = (enc z0)[i % k]? := by
      rw [← hg, List.getElem?_take, if_pos hk, List.getElem?_drop]
      congr 1
      rw [Nat.mul_comm]
      exact (Nat.div_add_mod i k).symm
    have e2 : ((List.replicate n z0).flatMap enc)[i] = (enc z0)[i % k]'(by omega) := by
      have h3 : ((List.replicate n z0).flatMap enc)[i]? = some (((List.replicate n z0).flatMap enc)[i]) := by simp
      rw [h3, List.getElem?_eq_getElem (by omega)] at e
      exact Option.some.inj e
    rw [e2]
    simp [hl]
    rw [List.getElem?_eq_getElem (by omega)]; rfl
end
section
variable {c : Cx} {ds : List Deferred} {p : Post} {T : List (Nat × Value)} {H : List Res} {ops : Array Oper} {rest : List Oper} {dst : Option Nat} {ty : TypeId} {ps : String} {af : Array Edge} {x : Operand} {α : Type} {k : Nat} {enc : α → List Value}
/-- the part of a row from a place on is cleared -/
theorem gk_clear {t e : TypeId} {gg : Bool} {zz : Value} {a : Option Addr} {cap lo c2 n : Nat} (l : List α) (z0 : α) (i : Nat) (he : Enc k enc) (ht : c.P.underlying t = some (.slice e)) (hz : TF c.P e gg k zz) (hzc : zz.cells = (enc z0).toArray)
    (hx : evo T x = some (.slice (subA a k lo cap) n c2)) (hnl : n = (l.drop lo).length) (hi : H[i]? = some (Row a k cap e enc l)) (hlo : lo ≤ l.length) (hn : dstOk dst c.n = true)
    (kk : GK c ds (KL c ops p rest) (putT dst (.tuple #[]) T) (H.set i (Row a k cap e enc (l.take lo ++ List.replicate (l.length - lo) z0)))) :
    GK c ds (KL c ops p (⟨dst, .call ⟨.builtin .clear, #[x], #[t]⟩, ty, ps, af, none⟩ :: rest)) T H := by
  subst hnl
  refine gk_gen (X := Unit) (fun _ => .tuple #[]) (fun _ => H.set i (Row a k cap e enc (l.take lo ++ List.replicate (l.length - lo) z0))) rfl rfl hn ?_ (fun _ => kk)
  intro A w ha hw
  obtain ⟨B, hF⟩ := hw.foc hi
  have hrun : (execOp A.eval ⟨dst, .call ⟨.builtin .clear, #[x], #[t]⟩, ty, ps, af, none⟩).run c.P w = (Next.value <$> Builtin.clear_ #[t] ty #[.slice (subA a k lo cap) (l.drop lo).length c2] : Sem Next).run c.P w := by
    rw [run_builtin («as» := [x]) (vs := [.slice (subA a k lo cap) (l.drop lo).length c2]) (by simp [evs, hx]) ha w]
    rfl
  unfold Yld
  rw [hrun]
  have hb : (Next.value <$> Builtin.clear_ #[t] ty #[.slice (subA a k lo cap) (l.drop lo).length c2] : Sem Next) = (Builtin.clear_ #[t] ty #[.slice (subA a k lo cap) (l.drop lo).length c2] >>= fun v => pure (Next.value v)) := rfl
  rw [hb]
  by_cases hl : l.length = lo
  · have h0 : (l.drop lo).length = 0 := by simp [hl]
    have hr : (Builtin.clear_ #[t] ty #[.slice (subA a k lo cap) (l.drop lo).length c2]).run c.P w = .ok (.tuple #[]) w := by
      rw [h0]
      unfold Builtin.clear_
      show (underlying t >>= _).run c.P w = _
      rw [run_bind_ok (run_underlying' ht)]
      cases subA a k lo cap <;> rfl
    rw [run_bind_ok hr]
    refine ⟨(), rfl, ?_⟩
    have hll : l.take lo ++ List.replicate (l.length - lo) z0 = l := by rw [hl, Nat.sub_self, ← hl, List.take_length]; simp
    rw [hll]
    have : H.set i (Row a k cap e enc l) = H := by
      obtain ⟨h1, h2⟩ := List.getElem?_eq_some_iff.1 hi
      rw [← h2]
      exact List.set_getElem_self h1
    rw [this]
    exact hw
  · rcases hF.A with ⟨_, _, rfl⟩ | ⟨b, off, cs, hab, hB, hbk, g1, g2, g3⟩
    · simp at hlo; exact absurd (by simp [hlo]) hl
    subst hab
    have hn0 : (l.drop lo).length = l.length - lo := by simp
    have hll : l.length * k ≤ cap * k := Nat.mul_le_mul_right _ g1
    have hlk : lo * k + (l.length - lo) * k = l.length * k := by rw [← Nat.add_mul]; congr 1; omega
    have hsub : subA (some ⟨b, off, none⟩) k lo cap = some ⟨b, off + lo * k, none⟩ := by
      unfold subA
      rw [if_neg (by omega)]
      simp [addr_add]
    have hzl : ((List.replicate (l.length - lo) z0).flatMap enc).length = (l.length - lo) * k := by rw [flat_len he]; simp
    obtain ⟨w', hr, hm, hb'⟩ := run_storeCells (P := c.P) (o := off + lo * k) ((List.replicate (l.length - lo) z0).flatMap enc) cs 0 w hbk (by rw [hzl]; omega) (flat_all he _)
    have hrc : (Builtin.clear_ #[t] ty #[.slice (subA (some ⟨b, off, none⟩) k lo cap) (l.drop lo).length c2]).run c.P w = .ok (.tuple #[]) w' := by
      rw [hsub, hn0]
      obtain ⟨m, hm'⟩ : ∃ m, l.length - lo = m + 1 := ⟨l.length - lo - 1, by omega⟩
      rw [hm'] at hr ⊢
      unfold Builtin.clear_
      show (underlying t >>= _).run c.P w = _
      rw [run_bind_ok (run_underlying' ht)]
      show (zeroValue e >>= _).run c.P w = _
      rw [run_bind_ok hz.zero, hzc, zeros_flat he, run_bind_ok hr]
      rfl
    rw [run_bind_ok hrc]
    refine ⟨(), rfl, ?_⟩
    refine hF.upd hi ⟨hm.os, hm.tape, hm.output, hm.size, fun j hj hbj => hm.same j hj (fun h => hbj ((hB j).2 h))⟩ (fun j hj => .inl hj) (.inr ⟨b, off, over cs (off + lo * k) ((List.replicate (l.length - lo) z0).flatMap enc), rfl, hB, hb', ?_, by rw [over_length]; exact g2, ?_⟩)
    · simp; omega
    · have h4 := row_over he (m := List.replicate (l.length - lo) z0) (lo := lo) (by simp; omega) g1 g2 g3
      have h5 : l.drop (lo + (List.replicate (l.length - lo) z0).length) = [] := by
        apply List.drop_of_length_le
        simp; omega
      rw [h5, List.append_nil] at h4
      have h6 : (l.take lo ++ List.replicate (l.length - lo) z0).length = l.length := by simp; omega
      rw [h6]
      exact h4
end
theorem elems_front {α : Type} {w : World} {a : Option Addr} {k : Nat} {enc : α → List Value} {l z : List α} (h : Has w (Elems a k enc (l ++ z))) : Has w (Elems a k enc l) := by
  obtain ⟨B, hB, hA⟩ := h
  refine ⟨B, hB, ?_⟩
  rcases hA with hA | ⟨b, off, ha, hb, hc⟩
  · exact .inl (List.append_eq_nil_iff.1 hA).1
  · refine .inr ⟨b, off, ha, hb, fun i x hi => hc i x ?_⟩
    rw [List.getElem?_append_left (List.getElem?_eq_some_iff.1 hi).1]
    exact hi
theorem row_sub0 {α : Type} {w : World} {B : Nat → Prop} {a : Option Addr} {k cap m : Nat} {e : TypeId} {enc : α → List Value} {l : List α} (h : (Row a k cap e enc l).A B w) : subA a k 0 m = a := by
  rcases h with ⟨ha, _, _⟩ | ⟨b, off, _, ha, _⟩
  · subst ha; unfold subA; split <;> rfl
  · subst ha
    unfold subA
    split
    · rfl
    · simp [addr_add]
end Go.K

namespace Go.Proofs.YtahahmelnaphjaaDoor
open Go.K Go.Stn Go.RowKit
theorem en98 : En Tryd.prog 98 := en_of Tryd.func98 (by kernel_rfl) (by kernel_rfl)
set_option maxRecDepth 100000 in
set_option maxHeartbeats 1000000 in
theorem bed11_c (p : Pt) (w : World)  :
    Calls Tryd.prog 98 #[.agg #[.int .i64 p.x, .int .i64 p.z]] w (Pure (.bool (upB p)) w) := by
  refine calls_of_gk (vs := [_]) Tryd.func98 rfl rfl (Nat.le_of_ble_eq_true rfl) ?_
  refine gk_seq ?_
  refine gk_region ?_
  refine gk_yx rfl rfl (yx_box (vs := [_, _]) rfl rfl) fun b1 => ?_
  refine gk_y rfl rfl (y_assign rfl) ?_
  refine gk_nil (gk_sub (T' := [(1,_), (2,_)]) ⟨rfl, rfl, trivial⟩ ?_)
  refine gk_seq ?_
  refine gk_region ?_
  refine gk_y rfl rfl (y_fieldAddr fo32_1 rfl) ?_
  refine gk_y rfl rfl (y_loadB1 0 tf3 rfl rfl rfl) ?_
  refine gk_y rfl rfl (y_gtr rfl rfl) ?_
  refine gk_y rfl rfl (y_assign rfl) ?_
  refine gk_nil (gk_sub (T' := [(2,_)]) ⟨rfl, trivial⟩ ?_)
  refine gk_ret ?_
  refine gk_pure (rv_one rfl (r1_tmp rfl)) ?_
  rfl
set_option maxRecDepth 100000 in
set_option maxHeartbeats 1000000 in
theorem deletefunc_c (a : Option Addr) (cap : Nat) (l : List Pt) (w : World) (B : Nat → Prop) (hB : ∀ k, B k → k < w.heap.size) (hA : (Row a 2 cap 32 encPt l).A B w) (hs : Small l.length) :
    Calls Tryd.prog 97 #[.slice a l.length cap, .func (.func 98) #[] #[]] w (Turns (fun _ : Unit => .slice a (lowL l).length cap) (fun _ => Row a 2 cap 32 encPt (lowZ l)) (fun _ => True) B w) := by
  have hsub : ∀ n, subA a 2 0 n = a := fun n => row_sub0 hA
  have hcap : l.length ≤ cap := Row.bounds hA
  refine calls_of_gkB hB hA (vs := [_, _]) Tryd.func97 rfl rfl (Nat.le_of_ble_eq_true rfl) ?_
  refine gk_seq ?_
  refine gk_region ?_
  refine gk_y rfl rfl (y_assign rfl) ?_
  refine gk_nil (gk_sub (T' := [(0,_), (1,_), (4,_)]) ⟨rfl, rfl, rfl, trivial⟩ ?_)
  refine gk_seq ?_
  refine gk_region ?_
  refine gk_y rfl rfl (y_move rfl) ?_
  refine gk_y rfl rfl (y_move rfl) ?_
  refine gk_y rfl rfl (y_call en127 rfl (fun w hw => indexfunc_c _ _ l upB _ [] w (has_row encPt_ok (hw.has (p := 0) rfl)) (by assumption) (fun _ => True) (fun _ _ => trivial) en98 (fun p w' _ => bed11_c p w'))) ?_
  refine gk_y rfl rfl (y_assign rfl) ?_
  refine gk_nil (gk_sub (T' := [(0,_), (1,_), (4,_), (5,_)]) ⟨rfl, rfl, rfl, rfl, trivial⟩ ?_)
  refine gk_seq ?_
  refine gk_seq ?_
  refine gk_region ?_
  refine gk_y rfl rfl (y_move rfl) ?_
  refine gk_y rfl rfl (y_eql rfl rfl) ?_
  refine gk_nil (gk_sub (T' := [(0,_), (1,_), (4,_), (5,_), (12,_)]) ⟨rfl, rfl, rfl, rfl, rfl, trivial⟩ ?_)
  refine gk_cond rfl (fun hc12 => ?_) (fun hc12 => ?_)
  · have hc12 := of_decide_eq_true hc12
    have hL := del_none hc12
    refine gk_seq ?_
    refine gk_region ?_
    refine gk_y rfl rfl (y_move rfl) ?_
    refine gk_y rfl rfl (y_assign rfl) ?_
    refine gk_nil (gk_sub (T' := [(0,_), (1,_), (4,_), (5,_)]) ⟨rfl, rfl, rfl, rfl, trivial⟩ ?_)
    refine gk_sub (T' := [(0,_), (1,_), (4, .slice a (lowL l).length cap), (5,_)]) ⟨rfl, rfl, (by rw [hL]; rfl), rfl, trivial⟩ ?_
    refine gk_conv (R' := Row a 2 cap 32 encPt (lowZ l)) 0 rfl (fun B w hA => by unfold lowZ; rw [hL, Nat.sub_self, List.replicate_zero, List.append_nil]; exact hA) ?_
    refine gk_ret ?_
    refine gk_turns () 0 (rv_one rfl (r1_tmp rfl)) rfl rfl trivial
  · have hc12 := of_decide_eq_false hc12
    have hD := del_start hc12
    have hi0 := hD.i0
    have hij := hD.ij
    have hjl := hD.jl
    refine gk_skip ?_
    refine gk_seq ?_
    refine gk_seq ?_
    refine gk_region ?_
    refine gk_y rfl rfl (y_move rfl) ?_
    refine gk_y rfl rfl (y_addI rfl rfl (by omega) (by omega)) ?_
    refine gk_y rfl rfl (y_assign rfl) ?_
    refine gk_nil (gk_sub (T' := [(0,_), (1,_), (4,_), (5,_), (6,_)]) ⟨rfl, rfl, rfl, rfl, rfl, trivial⟩ ?_)
    refine gk_block ?_
    refine gk_loop (X := Int × Int × List Pt) (fun ⟨i, j, m⟩ => [(0, .slice a l.length cap), (1, .func (.func 98) #[] #[]), (4, .slice none 0 0), (5, .int .i64 i), (6, .int .i64 j)]) (fun ⟨i, j, m⟩ => [Row a 2 cap 32 encPt m]) (fun ⟨i, j, m⟩ => DelI l m i j) (fun ⟨i, j, m⟩ => (l.length - j).toNat) (findI upB l, findI upB l + 1, l) ⟨rfl, rfl, rfl, rfl, rfl, trivial⟩ rfl ?_ ?_
    · exact hD
    · rintro ⟨i, j, m⟩ hI
      have hD : DelI l m i j := hI
      have hi0 := hD.i0
      have hij := hD.ij
      have hjl := hD.jl
      have hml := hD.len
      refine gk_seq ?_
      refine gk_seq ?_
      refine gk_region ?_
      refine gk_y rfl rfl (y_move rfl) ?_
      refine gk_y rfl rfl (y_move rfl) ?_
      refine gk_y rfl rfl (y_lenS (Tryd.underlying31) rfl) ?_
      refine gk_y rfl rfl (y_lss rfl rfl) ?_
      refine gk_nil (gk_sub (T' := [(0,_), (1,_), (4,_), (5,_), (6,_), (19,_)]) ⟨rfl, rfl, rfl, rfl, rfl, rfl, trivial⟩ ?_)
      refine gk_cond rfl (fun hc19 => ?_) (fun hc19 => ?_)
      · have hc19 := of_decide_eq_true hc19
        refine gk_skip ?_
        refine gk_seq ?_
        refine gk_block ?_
        refine gk_seq ?_
        refine gk_region ?_
        refine gk_y rfl rfl (y_move rfl) ?_
        refine gk_y rfl rfl (y_move rfl) ?_
        refine gk_y rfl rfl (y_indexN se31 rfl rfl (fun _ hw => (has_row encPt_ok (hw.has (p := 0) rfl))) hD.len (by omega) (by omega)) ?_
        refine gk_y rfl rfl (y_loadE (vs := [_, _]) tf32 rfl (fun _ hw => (has_row encPt_ok (hw.has (p := 0) rfl))) (by omega) (by omega) rfl) ?_
        refine gk_yx rfl rfl (yx_alloc tf32 (zs := [_, _]) rfl) fun b7 => ?_
        refine gk_storeV 0 tf32 rfl rfl (vs := [_, _]) rfl rfl rfl rfl rfl ?_
        refine gk_nil (gk_sub (T' := [(0,_), (1,_), (4,_), (5,_), (6,_), (7,_)]) ⟨rfl, rfl, rfl, rfl, rfl, rfl, trivial⟩ ?_)
        refine gk_seq ?_
        refine gk_region ?_
        refine gk_y rfl rfl (y_move rfl) ?_
        refine gk_y rfl rfl (y_loadBA 0 tf32 rfl rfl (vs := [_, _]) rfl rfl) ?_
        refine gk_y rfl rfl (y_callV (fs := []) (cap := []) en98 rfl rfl (fun w hw => bed11_c ⟨_, _⟩ w)) ?_
        refine gk_y rfl rfl (y_not rfl) ?_
        refine gk_nil (gk_sub (T' := [(0,_), (1,_), (4,_), (5,_), (6,_), (7,_), (29,_)]) ⟨rfl, rfl, rfl, rfl, rfl, rfl, rfl, trivial⟩ ?_)
        refine gk_cond rfl (fun hc29 => ?_) (fun hc29 => ?_)
        · have hb29 : upB (m.getD j.toNat default) = false := by rw [Bool.not_eq_true'] at hc29; exact hc29
          refine gk_seq ?_
          refine gk_region ?_
          refine gk_y rfl rfl (y_move rfl) ?_
          refine gk_y rfl rfl (y_move rfl) ?_
          refine gk_y rfl rfl (y_loadBA 0 tf32 rfl rfl (vs := [_, _]) rfl rfl) ?_
          refine gk_y rfl rfl (y_indexN se31 rfl rfl (fun _ hw => (has_row encPt_ok (hw.has (p := 1) rfl))) hD.len (by omega) (by omega)) ?_
          refine gk_storeE (x' := ⟨((m.getD (j).toNat default).x), ((m.getD (j).toNat default).z)⟩) 1 encPt_ok tf32 rfl rfl (vs := [_, _]) rfl rfl rfl (by omega) (by omega) ?_
          refine gk_nil (gk_sub (T' := [(0,_), (1,_), (4,_), (5,_), (6,_)]) ⟨rfl, rfl, rfl, rfl, rfl, trivial⟩ ?_)
          refine gk_region ?_
          refine gk_y rfl rfl (y_move rfl) ?_
          refine gk_y rfl rfl (y_addI rfl rfl (by omega) (by omega)) ?_
          refine gk_y rfl rfl (y_assign rfl) ?_
          refine gk_nil (gk_sub (T' := [(0,_), (1,_), (4,_), (5,_), (6,_)]) ⟨rfl, rfl, rfl, rfl, rfl, trivial⟩ ?_)
          refine gk_region ?_
          refine gk_y rfl rfl (y_move rfl) ?_
          refine gk_y rfl rfl (y_addI rfl rfl (by omega) (by omega)) ?_
          refine gk_y rfl rfl (y_assign rfl) ?_
          refine gk_nil (gk_sub (T' := [(0,_), (1,_), (4,_), (5,_), (6,_)]) ⟨rfl, rfl, rfl, rfl, rfl, trivial⟩ ?_)
          refine gk_dropAt 0 rfl ?_
          exact gk_next (_, j + 1, _) ⟨rfl, rfl, rfl, rfl, rfl, trivial⟩ rfl (by first | exact hD.keep hc19 hb29 | exact hD.skip hc19 hb29) (by simp only []; omega)
        · have hb29 : upB (m.getD j.toNat default) = true := by rw [Bool.not_eq_false'] at hc29; exact hc29
          refine gk_skip ?_
          refine gk_region ?_
          refine gk_y rfl rfl (y_move rfl) ?_
          refine gk_y rfl rfl (y_addI rfl rfl (by omega) (by omega)) ?_
          refine gk_y rfl rfl (y_assign rfl) ?_
          refine gk_nil (gk_sub (T' := [(0,_), (1,_), (4,_), (5,_), (6,_)]) ⟨rfl, rfl, rfl, rfl, rfl, trivial⟩ ?_)
          refine gk_dropAt 0 rfl ?_
          exact gk_next (_, j + 1, _) ⟨rfl, rfl, rfl, rfl, rfl, trivial⟩ rfl (by first | exact hD.keep hc19 hb29 | exact hD.skip hc19 hb29) (by simp only []; omega)
      · have hc19 := of_decide_eq_false hc19
        obtain ⟨d1, d2, d3⟩ := hD.done hc19
        refine gk_exit rfl ?_
        refine gk_seq ?_
        refine gk_region ?_
        refine gk_y rfl rfl (y_move rfl) ?_
        refine gk_y rfl rfl (y_move rfl) ?_
        refine gk_y rfl rfl (y_sliceLoL se31 rfl rfl (by omega) (by omega)) ?_
        refine gk_clear m (⟨0, 0⟩ : Pt) 0 encPt_ok (Tryd.underlying31) tf32 rfl rfl (by rw [List.length_drop, List.length_drop, hD.len]) rfl (by have := hD.i0; have := hD.ij; have := hD.jl; have := hD.len; omega) rfl ?_
        refine gk_nil (gk_sub (T' := [(0,_), (4,_), (5,_)]) ⟨rfl, rfl, rfl, trivial⟩ ?_)
        refine gk_conv (R' := Row a 2 cap 32 encPt (lowZ l)) 0 rfl (fun B w hA => by unfold lowZ; rw [← d2, ← d1, ← d3]; exact hA) ?_
        refine gk_seq ?_
        refine gk_region ?_
        refine gk_y rfl rfl (y_move rfl) ?_
        refine gk_y rfl rfl (y_move rfl) ?_
        refine gk_y rfl rfl (y_sliceHiL se31 rfl rfl (by omega) (by omega) hcap) ?_
        refine gk_y rfl rfl (y_assign rfl) ?_
        refine gk_nil (gk_sub (T' := [(4,_)]) ⟨rfl, trivial⟩ ?_)
        refine gk_sub (T' := [(4, .slice a (lowL l).length cap)]) ⟨(by rw [show (lowL l).length = (l.take i.toNat).length from by have := low_len l; rw [List.length_take]; omega, hsub cap]; rfl), trivial⟩ ?_
        refine gk_ret ?_
        refine gk_turns () 0 (rv_one rfl (r1_tmp rfl)) rfl rfl trivial
end Go.Proofs.YtahahmelnaphjaaDoor

namespace Go.Proofs.YtahahmelnaphjaaDoor
open Go.K Go.Stn Go.RowKit
theorem en31 : En Tryd.prog 31 := en_of Tryd.func31 (by kernel_rfl) (by kernel_rfl)
theorem en34 : En Tryd.prog 34 := en_of Tryd.func34 (by kernel_rfl) (by kernel_rfl)
theorem en42 : En Tryd.prog 42 := en_of Tryd.func42 (by kernel_rfl) (by kernel_rfl)
theorem en43 : En Tryd.prog 43 := en_of Tryd.func43 (by kernel_rfl) (by kernel_rfl)
theorem en44 : En Tryd.prog 44 := en_of Tryd.func44 (by kernel_rfl) (by kernel_rfl)
theorem en45 : En Tryd.prog 45 := en_of Tryd.func45 (by kernel_rfl) (by kernel_rfl)
theorem en47 : En Tryd.prog 47 := en_of Tryd.func47 (by kernel_rfl) (by kernel_rfl)
theorem en95 : En Tryd.prog 95 := en_of Tryd.func95 (by kernel_rfl) (by kernel_rfl)
theorem en96 : En Tryd.prog 96 := en_of Tryd.func96 (by kernel_rfl) (by kernel_rfl)
theorem en97 : En Tryd.prog 97 := en_of Tryd.func97 (by kernel_rfl) (by kernel_rfl)
theorem fv32_0 (x0 : Int) (x1 : Int) (w : World) : (Instr.field 32 (.agg #[.int .i64 x0, .int .i64 x1]) 0).run Tryd.prog w = .ok (.int .i64 x0) w := by kernel_rfl
set_option maxRecDepth 100000 in
set_option maxHeartbeats 1000000 in
theorem bed1_c (a : Option Addr) (cap : Nat) (s : Stn) (b : Nat) (w : World) (hb : Has w (Box b [.string s.name, .slice a s.shape.length cap, .int .i64 s.depth, .int .i64 s.density, .int .i64 s.grain.x, .int .i64 s.grain.z] 34)) (hl : Has w (Pts a s.shape)) (hs : Small s.shape.length) (hk : checkI s = 0) :
    Calls Tryd.prog 95 #[.pointer (some ⟨b, 0, none⟩)] w (Pure (ptV (⟨(leastL (lowL s.shape)).x, (mostL (lowL s.shape)).x⟩ : Pt)) w) := by
  have hlen := check_len hk
  have h0 : 0 < s.shape.length := by omega
  obtain ⟨hl0, _⟩ := bed_eq hk
  have hl1 : Small (lowL s.shape).length := Nat.le_trans (low_len _) hs
  refine calls_of_gk (vs := [_]) Tryd.func95 rfl rfl (Nat.le_of_ble_eq_true rfl) ?_
  refine gk_seq ?_
  refine gk_region ?_
  refine gk_yx rfl rfl (yx_alloc tf32 (zs := [_, _]) rfl) fun b1 => ?_
  refine gk_nil (gk_sub (T' := [(0,_), (1,_)]) ⟨rfl, rfl, trivial⟩ ?_)
  refine gk_seq ?_
  refine gk_region ?_
  refine gk_y rfl rfl (y_fieldAddr fo34_1 rfl) ?_
  refine gk_y rfl rfl (y_load1 tf31 rfl (fun _ hw => has_box_cell (Rd.has (Has.rd hb) hw) rfl)) ?_
  refine gk_yx rfl rfl (yx_call en96 rfl (fun w hw => clone_c _ _ s.shape w (Rd.has (Has.rd hl) hw) (by assumption) (by assumption))) fun p5 => ?_
  refine gk_y rfl rfl (y_assign rfl) ?_
  refine gk_nil (gk_sub (T' := [(1,_), (2,_)]) ⟨rfl, rfl, trivial⟩ ?_)
  refine gk_seq ?_
  refine gk_region ?_
  refine gk_y rfl rfl (y_move rfl) ?_
  refine gk_callU 0 en97 rfl rfl rfl (fun w B hF => deletefunc_c _ _ s.shape w B (fun k hk => (hF.own k hk).2) hF.A (by assumption)) fun u7 hq7 => ?_
  refine gk_y rfl rfl (y_assign rfl) ?_
  refine gk_nil (gk_sub (T' := [(1,_), (2,_)]) ⟨rfl, rfl, trivial⟩ ?_)
  refine gk_seq ?_
  refine gk_region ?_
  refine gk_y rfl rfl (y_move rfl) ?_
  refine gk_y rfl rfl (y_call en99 rfl (fun w hw => least_c _ _ (lowL s.shape) w (elems_front (l := lowL s.shape) (has_row encPt_ok (hw.has (p := 0) rfl))) (by assumption) (by omega))) ?_
  refine gk_y rfl rfl (y_field rfl (fv32_0 _ _)) ?_
  refine gk_y rfl rfl (y_move rfl) ?_
  refine gk_y rfl rfl (y_call en94 rfl (fun w hw => most_c _ _ (lowL s.shape) w (elems_front (l := lowL s.shape) (has_row encPt_ok (hw.has (p := 0) rfl))) (by assumption) (by omega))) ?_
  refine gk_y rfl rfl (y_field rfl (fv32_0 _ _)) ?_
  refine gk_y rfl rfl (y_buildL rfl (bd32_0i_1i _ _)) ?_
  refine gk_storeV 1 tf32 rfl rfl (vs := [_, _]) rfl rfl rfl rfl rfl ?_
  refine gk_nil (gk_sub (T' := [(1,_)]) ⟨rfl, trivial⟩ ?_)
  refine gk_ret ?_
  refine gk_pure (rv_one rfl (r1_cellA (i := 1) (vs := [_, _]) tf32 rfl rfl rfl rfl)) ?_
  rfl
set_option maxRecDepth 100000 in
set_option maxHeartbeats 1000000 in
theorem Bed_c (a : Option Addr) (cap : Nat) (s : Stn) (w : World) (hl : Has w (Pts a s.shape)) (hs : Small s.shape.length) :
    Calls Tryd.prog 43 #[.agg #[.string s.name, .slice a s.shape.length cap, .int .i64 s.depth, .int .i64 s.density, .int .i64 s.grain.x, .int .i64 s.grain.z]] w (Pure (.tuple #[.int .i64 (askI s (leastL (lowL s.shape)).x), .int .i64 (askI s (mostL (lowL s.shape)).x), .int .i64 (checkI s)]) w) := by
  refine calls_of_gk (vs := [_]) Tryd.func43 rfl rfl (Nat.le_of_ble_eq_true rfl) ?_
  refine gk_seq ?_
  refine gk_region ?_
  refine gk_yx rfl rfl (yx_box (vs := [_, _, _, _, _, _]) rfl rfl) fun b1 => ?_
  refine gk_y rfl rfl (y_assign rfl) ?_
  refine gk_y rfl rfl (y_assign rfl) ?_
  refine gk_y rfl rfl (y_assign rfl) ?_
  refine gk_nil (gk_sub (T' := [(1,_), (2,_), (3,_), (4,_)]) ⟨rfl, rfl, rfl, rfl, trivial⟩ ?_)
  refine gk_seq ?_
  refine gk_region ?_
  refine gk_y rfl rfl (y_loadBA 0 tf34 rfl rfl (vs := [_, _, _, _, _, _]) rfl rfl) ?_
  refine gk_y rfl rfl (y_makeFunc («as» := []) (bs := [_]) rfl rfl) ?_
  refine gk_y rfl rfl (y_call en92 rfl (fun w hw => askp_c _ _ s 95 [] [.pointer (some ⟨b1, 0, none⟩)] (⟨(leastL (lowL s.shape)).x, (mostL (lowL s.shape)).x⟩ : Pt) w (Rd.has (Has.rd hl) hw) (by assumption) (fun w' => Has w' (Box b1 [.string s.name, .slice a s.shape.length cap, .int .i64 s.depth, .int .i64 s.density, .int .i64 s.grain.x, .int .i64 s.grain.z] 34) ∧ Has w' (Pts a s.shape)) (fun w' hx => ⟨Has.ext (hw.has (p := 0) rfl) hx, Has.ext (Rd.has (Has.rd hl) hw) hx⟩) en95 (fun hk w' hp => bed1_c _ _ s _ w' hp.1 hp.2 (by assumption) hk))) ?_
  refine gk_y rfl rfl (y_move rfl) ?_
  refine gk_y rfl rfl (y_extract rfl rfl) ?_
  refine gk_y rfl rfl (y_extract rfl rfl) ?_
  refine gk_yx rfl rfl (yx_alloc tf32 (zs := [_, _]) rfl) fun b5 => ?_
  refine gk_storeV 0 tf32 rfl rfl (vs := [_, _]) rfl rfl rfl rfl rfl ?_
  refine gk_y rfl rfl (y_assign rfl) ?_
  refine gk_nil (gk_sub (T' := [(2,_), (3,_), (4,_), (5,_)]) ⟨rfl, rfl, rfl, rfl, trivial⟩ ?_)
  refine gk_seq ?_
  refine gk_any 8 (fun _ => mixed) (by kernel_rfl) ?_
  refine ph_y (y_fieldAddr fo32_0 rfl) ?_
  refine ph_y (y_loadB1 0 tf3 rfl rfl rfl) ?_
  refine ph_y (y_fieldAddr fo32_1 rfl) ?_
  refine ph_y (y_loadB1 0 tf3 rfl rfl rfl) ?_
  refine ph_y (y_move rfl) ?_
  refine ph_y (y_assign rfl) ?_
  refine ph_y (y_assign rfl) ?_
  refine ph_y (y_assign rfl) ?_
  refine gk_nil (gk_sub (T' := [(2,_), (3,_), (4,_)]) ⟨rfl, rfl, rfl, trivial⟩ ?_)
  refine gk_ret ?_
  refine gk_pure (rv_three rfl (r1_tmp rfl) (r1_tmp rfl) (r1_tmp rfl)) ?_
  rfl
set_option maxRecDepth 100000 in
set_option maxHeartbeats 1000000 in
theorem StoneWeighs_c (a : Option Addr) (cap : Nat) (s : Stn) (w : World) (hl : Has w (Pts a s.shape)) (hways : Has w (Elems (some ⟨0, 0, none⟩) 1 encVal [.func (.func 173) #[] #[], .func (.func 174) #[] #[], .func (.func 175) #[] #[], .func (.func 176) #[] #[]])) (hn : Fits s.name.size) :
    Calls Tryd.prog 13 #[.agg #[.string s.name, .slice a s.shape.length cap, .int .i64 s.depth, .int .i64 s.density, .int .i64 s.grain.x, .int .i64 s.grain.z]] w (Pure (.bool true) w) := by
  refine calls_of_gk (vs := [_]) Tryd.func13 rfl rfl (Nat.le_of_ble_eq_true rfl) ?_
  refine gk_seq ?_
  refine gk_region ?_
  refine gk_yx rfl rfl (yx_box (vs := [_, _, _, _, _, _]) rfl rfl) fun b1 => ?_
  refine gk_y rfl rfl (y_assign rfl) ?_
  refine gk_nil (gk_sub (T' := [(1,_), (2,_)]) ⟨rfl, rfl, trivial⟩ ?_)
  refine gk_seq ?_
  refine gk_seq ?_
  refine gk_region ?_
  refine gk_y rfl rfl (y_fieldAddr fo26_1 rfl) ?_
  refine gk_y rfl rfl (y_loadB1 0 tf22 rfl rfl rfl) ?_
  refine gk_y rfl rfl (y_lenS (Tryd.underlying22) rfl) ?_
  refine gk_y rfl rfl (y_gtr rfl rfl) ?_
  refine gk_nil (gk_sub (T' := [(1,_), (2,_), (27,_)]) ⟨rfl, rfl, rfl, trivial⟩ ?_)
  refine gk_cond rfl (fun hc27 => ?_) (fun hc27 => ?_)
  · skip
    refine gk_seq ?_
    refine gk_region ?_
    refine gk_y rfl rfl (y_call en15 rfl (fun w hw => wakes_c w (Rd.has (Has.rd hways) hw))) ?_
    refine gk_y rfl rfl (y_assign rfl) ?_
    refine gk_nil (gk_sub (T' := [(1,_), (2,_)]) ⟨rfl, rfl, trivial⟩ ?_)
    refine gk_ret ?_
    refine gk_pure (rv_one rfl (r1_tmp rfl)) ?_
    rfl
  · have hs : Small s.shape.length := by simp only [decide_eq_false_iff_not] at hc27; omega
    refine gk_skip ?_
    refine gk_seq ?_
    refine gk_region ?_
    refine gk_y rfl rfl (y_loadBA 0 tf26 rfl rfl (vs := [_, _, _, _, _, _]) rfl rfl) ?_
    refine gk_yx rfl rfl (yx_call en18 rfl (fun w hw => stone_c _ _ s w (Rd.has (Has.rd hl) hw) (by assumption))) fun p30 => ?_
    refine gk_yx rfl rfl (yx_alloc tf34 (zs := [_, _, _, _, _, _]) rfl) fun b3 => ?_
    refine gk_storeV 0 tf34 rfl rfl (vs := [_, _, _, _, _, _]) rfl rfl rfl rfl rfl ?_
    refine gk_nil (gk_sub (T' := [(1,_), (2,_), (3,_)]) ⟨rfl, rfl, rfl, trivial⟩ ?_)
    refine gk_seq ?_
    refine gk_region ?_
    refine gk_y rfl rfl (y_loadBA 0 tf34 rfl rfl (vs := [_, _, _, _, _, _]) rfl rfl) ?_
    refine gk_y rfl rfl (y_call en31 rfl (fun w hw => Twice_c _ _ s w (has_row encPt_ok (hw.has (p := 1) rfl)) (by first | assumption | exact hsA | exact hsB))) ?_
    refine gk_y rfl rfl (y_move rfl) ?_
    refine gk_y rfl rfl (y_extract rfl rfl) ?_
    refine gk_y rfl rfl (y_extract rfl rfl) ?_
    refine gk_y rfl rfl (y_assign rfl) ?_
    refine gk_y rfl rfl (y_assign rfl) ?_
    refine gk_nil (gk_sub (T' := [(1,_), (2,_), (3,_), (4,_), (5,_)]) ⟨rfl, rfl, rfl, rfl, rfl, trivial⟩ ?_)
    refine gk_seq ?_
    refine gk_region ?_
    refine gk_y rfl rfl (y_loadBA 0 tf34 rfl rfl (vs := [_, _, _, _, _, _]) rfl rfl) ?_
    refine gk_y rfl rfl (y_call en28 rfl (fun w hw => weight_c _ _ s w (has_row encPt_ok (hw.has (p := 1) rfl)) (by assumption))) ?_
    refine gk_y rfl rfl (y_move rfl) ?_
    refine gk_y rfl rfl (y_extract rfl rfl) ?_
    refine gk_y rfl rfl (y_extract rfl rfl) ?_
    refine gk_y rfl rfl (y_assign rfl) ?_
    refine gk_y rfl rfl (y_assign rfl) ?_
    refine gk_nil (gk_sub (T' := [(1,_), (2,_), (3,_), (4,_), (5,_), (6,_), (7,_)]) ⟨rfl, rfl, rfl, rfl, rfl, rfl, rfl, trivial⟩ ?_)
    refine gk_seq ?_
    refine gk_region ?_
    refine gk_y rfl rfl (y_loadBA 0 tf34 rfl rfl (vs := [_, _, _, _, _, _]) rfl rfl) ?_
    refine gk_y rfl rfl (y_call en34 rfl (fun w hw => Centre_c _ _ s w (has_row encPt_ok (hw.has (p := 1) rfl)) (by assumption))) ?_
    refine gk_y rfl rfl (y_move rfl) ?_
    refine gk_y rfl rfl (y_extract rfl rfl) ?_
    refine gk_y rfl rfl (y_extract rfl rfl) ?_
    refine gk_y rfl rfl (y_extract rfl rfl) ?_
    refine gk_y rfl rfl (y_extract rfl rfl) ?_
    refine gk_y rfl rfl (y_assign rfl) ?_
    refine gk_y rfl rfl (y_assign rfl) ?_
    refine gk_y rfl rfl (y_assign rfl) ?_
    refine gk_y rfl rfl (y_assign rfl) ?_
    refine gk_nil (gk_sub (T' := [(1,_), (2,_), (3,_), (4,_), (5,_), (6,_), (7,_), (8,_), (9,_), (10,_), (11,_)]) ⟨rfl, rfl, rfl, rfl, rfl, rfl, rfl, rfl, rfl, rfl, rfl, trivial⟩ ?_)
    refine gk_seq ?_
    refine gk_region ?_
    refine gk_y rfl rfl (y_loadBA 0 tf34 rfl rfl (vs := [_, _, _, _, _, _]) rfl rfl) ?_
    refine gk_y rfl rfl (y_call en42 rfl (fun w hw => Extent_c _ _ s w (has_row encPt_ok (hw.has (p := 1) rfl)) (by assumption))) ?_
    refine gk_y rfl rfl (y_move rfl) ?_
    refine gk_y rfl rfl (y_extract rfl rfl) ?_
    refine gk_y rfl rfl (y_extract rfl rfl) ?_
    refine gk_y rfl rfl (y_extract rfl rfl) ?_
    refine gk_y rfl rfl (y_assign rfl) ?_
    refine gk_y rfl rfl (y_assign rfl) ?_
    refine gk_y rfl rfl (y_assign rfl) ?_
    refine gk_nil (gk_sub (T' := [(1,_), (2,_), (3,_), (4,_), (5,_), (6,_), (7,_), (8,_), (9,_), (10,_), (11,_), (12,_), (13,_), (14,_)]) ⟨rfl, rfl, rfl, rfl, rfl, rfl, rfl, rfl, rfl, rfl, rfl, rfl, rfl, rfl, trivial⟩ ?_)
    refine gk_seq ?_
    refine gk_region ?_
    refine gk_y rfl rfl (y_loadBA 0 tf34 rfl rfl (vs := [_, _, _, _, _, _]) rfl rfl) ?_
    refine gk_y rfl rfl (y_call en43 rfl (fun w hw => Bed_c _ _ s w (has_row encPt_ok (hw.has (p := 1) rfl)) (by assumption))) ?_
    refine gk_y rfl rfl (y_move rfl) ?_
    refine gk_y rfl rfl (y_extract rfl rfl) ?_
    refine gk_y rfl rfl (y_extract rfl rfl) ?_
    refine gk_y rfl rfl (y_extract rfl rfl) ?_
    refine gk_y rfl rfl (y_assign rfl) ?_
    refine gk_y rfl rfl (y_assign rfl) ?_
    refine gk_y rfl rfl (y_assign rfl) ?_
    refine gk_nil (gk_sub (T' := [(1,_), (2,_), (3,_), (4,_), (5,_), (6,_), (7,_), (8,_), (9,_), (10,_), (11,_), (12,_), (13,_), (14,_), (15,_), (16,_), (17,_)]) ⟨rfl, rfl, rfl, rfl, rfl, rfl, rfl, rfl, rfl, rfl, rfl, rfl, rfl, rfl, rfl, rfl, rfl, trivial⟩ ?_)
    refine gk_seq ?_
    refine gk_seq ?_
    refine gk_region ?_
    refine gk_y rfl rfl (y_loadBA 2 tf26 rfl rfl (vs := [_, _, _, _, _, _]) rfl rfl) ?_
    refine gk_y rfl rfl (y_call en16 rfl (fun w hw => rvalid_c _ _ s w (Rd.has (Has.rd hl) hw) (by assumption) (by assumption))) ?_
    refine gk_y rfl rfl (y_not rfl) ?_
    refine gk_nil (gk_sub (T' := [(1,_), (2,_), (3,_), (4,_), (5,_), (6,_), (7,_), (8,_), (9,_), (10,_), (11,_), (12,_), (13,_), (14,_), (15,_), (16,_), (17,_), (62,_)]) ⟨rfl, rfl, rfl, rfl, rfl, rfl, rfl, rfl, rfl, rfl, rfl, rfl, rfl, rfl, rfl, rfl, rfl, rfl, trivial⟩ ?_)
    refine gk_cond rfl (fun hc62 => ?_) (fun hc62 => ?_)
    · have hck : checkI s = 2 := by rw [check_valid, if_neg (by rw [show rvalidB s = false from by simpa using hc62]; exact Bool.false_ne_true)]
      have hz : ∀ x, askI s x = 0 := fun x => by rw [askI, if_neg (by rw [hck]; decide)]
      refine gk_seq ?_
      refine gk_region ?_
      refine gk_y rfl rfl (y_move rfl) ?_
      refine gk_y rfl rfl (y_castT (y_eql rfl rfl) (by exact decide_eq_true (hck))) ?_
      refine gk_y rfl rfl (y_move rfl) ?_
      refine gk_guard rfl rfl rfl rfl (fun _ => ?_) (fun h => absurd h (by decide))
      refine gk_y rfl rfl (y_move rfl) ?_
      refine gk_guard rfl rfl rfl rfl (fun _ => ?_) (fun h => absurd h (by decide))
      refine gk_y rfl rfl (y_castT (y_eql rfl rfl) (by exact decide_eq_true (hck))) ?_
      refine gk_y rfl rfl (y_pick rfl rfl rfl) ?_
      refine gk_y rfl rfl (y_move rfl) ?_
      refine gk_guard rfl rfl rfl rfl (fun _ => ?_) (fun h => absurd h (by decide))
      refine gk_y rfl rfl (y_move rfl) ?_
      refine gk_guard rfl rfl rfl rfl (fun _ => ?_) (fun h => absurd h (by decide))
      refine gk_y rfl rfl (y_castT (y_eql rfl rfl) (by exact decide_eq_true (hck))) ?_
      refine gk_y rfl rfl (y_pick rfl rfl rfl) ?_
      refine gk_y rfl rfl (y_move rfl) ?_
      refine gk_guard rfl rfl rfl rfl (fun _ => ?_) (fun h => absurd h (by decide))
      refine gk_y rfl rfl (y_move rfl) ?_
      refine gk_guard rfl rfl rfl rfl (fun _ => ?_) (fun h => absurd h (by decide))
      refine gk_y rfl rfl (y_castT (y_eql rfl rfl) (by exact decide_eq_true (hck))) ?_
      refine gk_y rfl rfl (y_pick rfl rfl rfl) ?_
      refine gk_y rfl rfl (y_move rfl) ?_
      refine gk_guard rfl rfl rfl rfl (fun _ => ?_) (fun h => absurd h (by decide))
      refine gk_y rfl rfl (y_move rfl) ?_
      refine gk_guard rfl rfl rfl rfl (fun _ => ?_) (fun h => absurd h (by decide))
      refine gk_y rfl rfl (y_castT (y_eql rfl rfl) (by exact decide_eq_true (hck))) ?_
      refine gk_y rfl rfl (y_pick rfl rfl rfl) ?_
      refine gk_y rfl rfl (y_move rfl) ?_
      refine gk_guard rfl rfl rfl rfl (fun _ => ?_) (fun h => absurd h (by decide))
      refine gk_y rfl rfl (y_move rfl) ?_
      refine gk_guard rfl rfl rfl rfl (fun _ => ?_) (fun h => absurd h (by decide))
      refine gk_y rfl rfl (y_castT (y_eql rfl rfl) (by exact decide_eq_true (hz _))) ?_
      refine gk_y rfl rfl (y_pick rfl rfl rfl) ?_
      refine gk_y rfl rfl (y_move rfl) ?_
      refine gk_guard rfl rfl rfl rfl (fun _ => ?_) (fun h => absurd h (by decide))
      refine gk_y rfl rfl (y_move rfl) ?_
      refine gk_guard rfl rfl rfl rfl (fun _ => ?_) (fun h => absurd h (by decide))
      refine gk_y rfl rfl (y_castT (y_eql rfl rfl) (by exact decide_eq_true (hz _))) ?_
      refine gk_y rfl rfl (y_pick rfl rfl rfl) ?_
      refine gk_y rfl rfl (y_move rfl) ?_
      refine gk_guard rfl rfl rfl rfl (fun _ => ?_) (fun h => absurd h (by decide))
      refine gk_y rfl rfl (y_move rfl) ?_
      refine gk_guard rfl rfl rfl rfl (fun _ => ?_) (fun h => absurd h (by decide))
      refine gk_y rfl rfl (y_castT (y_eql rfl rfl) (by exact decide_eq_true (hz _))) ?_
      refine gk_y rfl rfl (y_pick rfl rfl rfl) ?_
      refine gk_y rfl rfl (y_move rfl) ?_
      refine gk_guard rfl rfl rfl rfl (fun _ => ?_) (fun h => absurd h (by decide))
      refine gk_y rfl rfl (y_move rfl) ?_
      refine gk_guard rfl rfl rfl rfl (fun _ => ?_) (fun h => absurd h (by decide))
      refine gk_y rfl rfl (y_castT (y_eql rfl rfl) (by exact decide_eq_true (hz _))) ?_
      refine gk_y rfl rfl (y_pick rfl rfl rfl) ?_
      refine gk_y rfl rfl (y_move rfl) ?_
      refine gk_guard rfl rfl rfl rfl (fun _ => ?_) (fun h => absurd h (by decide))
      refine gk_y rfl rfl (y_move rfl) ?_
      refine gk_guard rfl rfl rfl rfl (fun _ => ?_) (fun h => absurd h (by decide))
      refine gk_y rfl rfl (y_castT (y_eql rfl rfl) (by exact decide_eq_true (hz _))) ?_
      refine gk_y rfl rfl (y_pick rfl rfl rfl) ?_
      refine gk_y rfl rfl (y_move rfl) ?_
      refine gk_guard rfl rfl rfl rfl (fun _ => ?_) (fun h => absurd h (by decide))
      refine gk_y rfl rfl (y_move rfl) ?_
      refine gk_guard rfl rfl rfl rfl (fun _ => ?_) (fun h => absurd h (by decide))
      refine gk_y rfl rfl (y_castT (y_eql rfl rfl) (by exact decide_eq_true (hz _))) ?_
      refine gk_y rfl rfl (y_pick rfl rfl rfl) ?_
      refine gk_y rfl rfl (y_move rfl) ?_
      refine gk_guard rfl rfl rfl rfl (fun _ => ?_) (fun h => absurd h (by decide))
      refine gk_y rfl rfl (y_move rfl) ?_
      refine gk_guard rfl rfl rfl rfl (fun _ => ?_) (fun h => absurd h (by decide))
      refine gk_y rfl rfl (y_castT (y_eql rfl rfl) (by exact decide_eq_true (hz _))) ?_
      refine gk_y rfl rfl (y_pick rfl rfl rfl) ?_
      refine gk_y rfl rfl (y_move rfl) ?_
      refine gk_guard rfl rfl rfl rfl (fun _ => ?_) (fun h => absurd h (by decide))
      refine gk_y rfl rfl (y_move rfl) ?_
      refine gk_guard rfl rfl rfl rfl (fun _ => ?_) (fun h => absurd h (by decide))
      refine gk_y rfl rfl (y_castT (y_eql rfl rfl) (by exact decide_eq_true (hz _))) ?_
      refine gk_y rfl rfl (y_pick rfl rfl rfl) ?_
      refine gk_y rfl rfl (y_move rfl) ?_
      refine gk_guard rfl rfl rfl rfl (fun _ => ?_) (fun h => absurd h (by decide))
      refine gk_y rfl rfl (y_move rfl) ?_
      refine gk_guard rfl rfl rfl rfl (fun _ => ?_) (fun h => absurd h (by decide))
      refine gk_y rfl rfl (y_castT (y_eql rfl rfl) (by exact decide_eq_true (hz _))) ?_
      refine gk_y rfl rfl (y_pick rfl rfl rfl) ?_
      refine gk_y rfl rfl (y_move rfl) ?_
      refine gk_guard rfl rfl rfl rfl (fun _ => ?_) (fun h => absurd h (by decide))
      refine gk_y rfl rfl (y_call en15 rfl (fun w hw => wakes_c w (Rd.has (Has.rd hways) hw))) ?_
      refine gk_y rfl rfl (y_pick rfl rfl rfl) ?_
      refine gk_y rfl rfl (y_assign rfl) ?_
      refine gk_nil (gk_sub (T' := [(1,_), (2,_), (3,_), (4,_), (5,_), (6,_), (7,_), (8,_), (9,_), (10,_), (11,_), (12,_), (13,_), (14,_), (15,_), (16,_), (17,_)]) ⟨rfl, rfl, rfl, rfl, rfl, rfl, rfl, rfl, rfl, rfl, rfl, rfl, rfl, rfl, rfl, rfl, rfl, trivial⟩ ?_)
      refine gk_ret ?_
      refine gk_pure (rv_one rfl (r1_tmp rfl)) ?_
      rfl
    · have hck : checkI s = 0 := by rw [check_valid, if_pos (by simpa using hc62)]
      have hz : ∀ x, askI s x = x := fun x => by rw [askI, if_pos hck]
      have hlen := check_len hck
      have hW := weighs_eq s
      have hB := bed_eq hck
      refine gk_skip ?_
      refine gk_seq ?_
      refine gk_region ?_
      refine gk_y rfl rfl (y_fieldAddr fo26_1 rfl) ?_
      refine gk_y rfl rfl (y_loadB1 2 tf22 rfl rfl rfl) ?_
      refine gk_y rfl rfl (y_call en44 rfl (fun w hw => rcentre_c _ _ s.shape w (Rd.has (Has.rd hl) hw) (by assumption))) ?_
      refine gk_y rfl rfl (y_move rfl) ?_
      refine gk_y rfl rfl (y_extract rfl rfl) ?_
      refine gk_y rfl rfl (y_extract rfl rfl) ?_
      refine gk_y rfl rfl (y_extract rfl rfl) ?_
      refine gk_y rfl rfl (y_assign rfl) ?_
      refine gk_y rfl rfl (y_assign rfl) ?_
      refine gk_y rfl rfl (y_assign rfl) ?_
      refine gk_nil (gk_sub (T' := [(1,_), (2,_), (3,_), (4,_), (5,_), (6,_), (7,_), (8,_), (9,_), (10,_), (11,_), (12,_), (13,_), (14,_), (15,_), (16,_), (17,_), (18,_), (19,_), (20,_)]) ⟨rfl, rfl, rfl, rfl, rfl, rfl, rfl, rfl, rfl, rfl, rfl, rfl, rfl, rfl, rfl, rfl, rfl, rfl, rfl, rfl, trivial⟩ ?_)
      refine gk_seq ?_
      refine gk_region ?_
      refine gk_y rfl rfl (y_fieldAddr fo26_1 rfl) ?_
      refine gk_y rfl rfl (y_loadB1 2 tf22 rfl rfl rfl) ?_
      refine gk_y rfl rfl (y_call en45 rfl (fun w hw => rbed_c _ _ s.shape w (Rd.has (Has.rd hl) hw) (by assumption))) ?_
      refine gk_y rfl rfl (y_move rfl) ?_
      refine gk_y rfl rfl (y_extract rfl rfl) ?_
      refine gk_y rfl rfl (y_extract rfl rfl) ?_
      refine gk_y rfl rfl (y_assign rfl) ?_
      refine gk_y rfl rfl (y_assign rfl) ?_
      refine gk_nil (gk_sub (T' := [(1,_), (2,_), (3,_), (4,_), (5,_), (6,_), (7,_), (8,_), (9,_), (10,_), (11,_), (12,_), (13,_), (14,_), (15,_), (16,_), (17,_), (18,_), (19,_), (20,_), (21,_), (22,_)]) ⟨rfl, rfl, rfl, rfl, rfl, rfl, rfl, rfl, rfl, rfl, rfl, rfl, rfl, rfl, rfl, rfl, rfl, rfl, rfl, rfl, rfl, rfl, trivial⟩ ?_)
      refine gk_seq ?_
      refine gk_region ?_
      refine gk_y rfl rfl (y_fieldAddr fo26_1 rfl) ?_
      refine gk_y rfl rfl (y_loadB1 2 tf22 rfl rfl rfl) ?_
      refine gk_y rfl rfl (y_call en30 rfl (fun w hw => high_c _ _ s.shape w (Rd.has (Has.rd hl) hw) (by assumption) (by omega))) ?_
      refine gk_yx rfl rfl (yx_alloc tf24 (zs := [_, _]) rfl) fun b23 => ?_
      refine gk_storeV 0 tf24 rfl rfl (vs := [_, _]) rfl rfl rfl rfl rfl ?_
      refine gk_nil (gk_sub (T' := [(1,_), (2,_), (3,_), (4,_), (5,_), (6,_), (7,_), (8,_), (9,_), (10,_), (11,_), (12,_), (13,_), (14,_), (15,_), (16,_), (17,_), (18,_), (19,_), (20,_), (21,_), (22,_), (23,_)]) ⟨rfl, rfl, rfl, rfl, rfl, rfl, rfl, rfl, rfl, rfl, rfl, rfl, rfl, rfl, rfl, rfl, rfl, rfl, rfl, rfl, rfl, rfl, rfl, trivial⟩ ?_)
      refine gk_seq ?_
      refine gk_region ?_
      refine gk_y rfl rfl (y_move rfl) ?_
      refine gk_y rfl rfl (y_castT (y_eql rfl rfl) (by exact decide_eq_true (hck))) ?_
      refine gk_y rfl rfl (y_move rfl) ?_
      refine gk_guard rfl rfl rfl rfl (fun _ => ?_) (fun h => absurd h (by decide))
      refine gk_y rfl rfl (y_move rfl) ?_
      refine gk_guard rfl rfl rfl rfl (fun _ => ?_) (fun h => absurd h (by decide))
      refine gk_y rfl rfl (y_castT (y_eql rfl rfl) (by exact decide_eq_true (hck))) ?_
      refine gk_y rfl rfl (y_pick rfl rfl rfl) ?_
      refine gk_y rfl rfl (y_move rfl) ?_
      refine gk_guard rfl rfl rfl rfl (fun _ => ?_) (fun h => absurd h (by decide))
      refine gk_y rfl rfl (y_move rfl) ?_
      refine gk_guard rfl rfl rfl rfl (fun _ => ?_) (fun h => absurd h (by decide))
      refine gk_y rfl rfl (y_castT (y_eql rfl rfl) (by exact decide_eq_true (hck))) ?_
      refine gk_y rfl rfl (y_pick rfl rfl rfl) ?_
      refine gk_y rfl rfl (y_move rfl) ?_
      refine gk_guard rfl rfl rfl rfl (fun _ => ?_) (fun h => absurd h (by decide))
      refine gk_y rfl rfl (y_move rfl) ?_
      refine gk_guard rfl rfl rfl rfl (fun _ => ?_) (fun h => absurd h (by decide))
      refine gk_y rfl rfl (y_castT (y_eql rfl rfl) (by exact decide_eq_true (hck))) ?_
      refine gk_y rfl rfl (y_pick rfl rfl rfl) ?_
      refine gk_y rfl rfl (y_move rfl) ?_
      refine gk_guard rfl rfl rfl rfl (fun _ => ?_) (fun h => absurd h (by decide))
      refine gk_y rfl rfl (y_move rfl) ?_
      refine gk_guard rfl rfl rfl rfl (fun _ => ?_) (fun h => absurd h (by decide))
      refine gk_y rfl rfl (y_castT (y_eql rfl rfl) (by exact decide_eq_true (hck))) ?_
      refine gk_y rfl rfl (y_pick rfl rfl rfl) ?_
      refine gk_y rfl rfl (y_move rfl) ?_
      refine gk_guard rfl rfl rfl rfl (fun _ => ?_) (fun h => absurd h (by decide))
      refine gk_y rfl rfl (y_move rfl) ?_
      refine gk_guard rfl rfl rfl rfl (fun _ => ?_) (fun h => absurd h (by decide))
      refine gk_y rfl rfl (y_fieldAddr fo26_1 rfl) ?_
      refine gk_guard rfl rfl rfl rfl (fun _ => ?_) (fun h => absurd h (by decide))
      refine gk_y rfl rfl (y_loadB1 3 tf22 rfl rfl rfl) ?_
      refine gk_guard rfl rfl rfl rfl (fun _ => ?_) (fun h => absurd h (by decide))
      refine gk_y rfl rfl (y_call en46 rfl (fun w hw => rtwice_c _ _ s.shape w (Rd.has (Has.rd hl) hw) (by first | assumption | (unfold Small; omega)))) ?_
      refine gk_guard rfl rfl rfl rfl (fun _ => ?_) (fun h => absurd h (by decide))
      refine gk_y rfl rfl (y_castT (y_eql rfl rfl) (by exact decide_eq_true ((hz _).trans hW.1))) ?_
      refine gk_y rfl rfl (y_pick rfl rfl rfl) ?_
      refine gk_y rfl rfl (y_move rfl) ?_
      refine gk_guard rfl rfl rfl rfl (fun _ => ?_) (fun h => absurd h (by decide))
      refine gk_y rfl rfl (y_move rfl) ?_
      refine gk_guard rfl rfl rfl rfl (fun _ => ?_) (fun h => absurd h (by decide))
      refine gk_y rfl rfl (y_loadBA 3 tf26 rfl rfl (vs := [_, _, _, _, _, _]) rfl rfl) ?_
      refine gk_guard rfl rfl rfl rfl (fun _ => ?_) (fun h => absurd h (by decide))
      refine gk_y rfl rfl (y_call en47 rfl (fun w hw => rweight_c _ _ s w (Rd.has (Has.rd hl) hw) (by assumption))) ?_
      refine gk_guard rfl rfl rfl rfl (fun _ => ?_) (fun h => absurd h (by decide))
      refine gk_y rfl rfl (y_castT (y_eql rfl rfl) (by exact decide_eq_true ((hz _).trans hW.2.1))) ?_
      refine gk_y rfl rfl (y_pick rfl rfl rfl) ?_
      refine gk_y rfl rfl (y_move rfl) ?_
      refine gk_guard rfl rfl rfl rfl (fun _ => ?_) (fun h => absurd h (by decide))
      refine gk_y rfl rfl (y_move rfl) ?_
      refine gk_guard rfl rfl rfl rfl (fun _ => ?_) (fun h => absurd h (by decide))
      refine gk_y rfl rfl (y_move rfl) ?_
      refine gk_guard rfl rfl rfl rfl (fun _ => ?_) (fun h => absurd h (by decide))
      refine gk_y rfl rfl (y_castT (y_eql rfl rfl) (by exact decide_eq_true ((hz _).trans hW.2.2.1))) ?_
      refine gk_y rfl rfl (y_pick rfl rfl rfl) ?_
      refine gk_y rfl rfl (y_move rfl) ?_
      refine gk_guard rfl rfl rfl rfl (fun _ => ?_) (fun h => absurd h (by decide))
      refine gk_y rfl rfl (y_move rfl) ?_
      refine gk_guard rfl rfl rfl rfl (fun _ => ?_) (fun h => absurd h (by decide))
      refine gk_y rfl rfl (y_move rfl) ?_
      refine gk_guard rfl rfl rfl rfl (fun _ => ?_) (fun h => absurd h (by decide))
      refine gk_y rfl rfl (y_castT (y_eql rfl rfl) (by exact decide_eq_true ((hz _).trans hW.2.2.2.1))) ?_
      refine gk_y rfl rfl (y_pick rfl rfl rfl) ?_
      refine gk_y rfl rfl (y_move rfl) ?_
      refine gk_guard rfl rfl rfl rfl (fun _ => ?_) (fun h => absurd h (by decide))
      refine gk_y rfl rfl (y_move rfl) ?_
      refine gk_guard rfl rfl rfl rfl (fun _ => ?_) (fun h => absurd h (by decide))
      refine gk_y rfl rfl (y_move rfl) ?_
      refine gk_guard rfl rfl rfl rfl (fun _ => ?_) (fun h => absurd h (by decide))
      refine gk_y rfl rfl (y_castT (y_eql rfl rfl) (by exact decide_eq_true ((hz _).trans hW.2.2.2.2))) ?_
      refine gk_y rfl rfl (y_pick rfl rfl rfl) ?_
      refine gk_y rfl rfl (y_move rfl) ?_
      refine gk_guard rfl rfl rfl rfl (fun _ => ?_) (fun h => absurd h (by decide))
      refine gk_y rfl rfl (y_move rfl) ?_
      refine gk_guard rfl rfl rfl rfl (fun _ => ?_) (fun h => absurd h (by decide))
      refine gk_y rfl rfl (y_fieldAddr fo24_0 rfl) ?_
      refine gk_guard rfl rfl rfl rfl (fun _ => ?_) (fun h => absurd h (by decide))
      refine gk_y rfl rfl (y_loadB1 0 tf3 rfl rfl rfl) ?_
      refine gk_guard rfl rfl rfl rfl (fun _ => ?_) (fun h => absurd h (by decide))
      refine gk_y rfl rfl (y_castT (y_eql rfl rfl) (by exact decide_eq_true (hz _))) ?_
      refine gk_y rfl rfl (y_pick rfl rfl rfl) ?_
      refine gk_y rfl rfl (y_move rfl) ?_
      refine gk_guard rfl rfl rfl rfl (fun _ => ?_) (fun h => absurd h (by decide))
      refine gk_y rfl rfl (y_move rfl) ?_
      refine gk_guard rfl rfl rfl rfl (fun _ => ?_) (fun h => absurd h (by decide))
      refine gk_y rfl rfl (y_fieldAddr fo24_1 rfl) ?_
      refine gk_guard rfl rfl rfl rfl (fun _ => ?_) (fun h => absurd h (by decide))
      refine gk_y rfl rfl (y_loadB1 0 tf3 rfl rfl rfl) ?_
      refine gk_guard rfl rfl rfl rfl (fun _ => ?_) (fun h => absurd h (by decide))
      refine gk_y rfl rfl (y_castT (y_eql rfl rfl) (by exact decide_eq_true (hz _))) ?_
      refine gk_y rfl rfl (y_pick rfl rfl rfl) ?_
      refine gk_y rfl rfl (y_move rfl) ?_
      refine gk_guard rfl rfl rfl rfl (fun _ => ?_) (fun h => absurd h (by decide))
      refine gk_y rfl rfl (y_move rfl) ?_
      refine gk_guard rfl rfl rfl rfl (fun _ => ?_) (fun h => absurd h (by decide))
      refine gk_y rfl rfl (y_move rfl) ?_
      refine gk_guard rfl rfl rfl rfl (fun _ => ?_) (fun h => absurd h (by decide))
      refine gk_y rfl rfl (y_castT (y_eql rfl rfl) (by exact decide_eq_true ((hz _).trans hB.2.1))) ?_
      refine gk_y rfl rfl (y_pick rfl rfl rfl) ?_
      refine gk_y rfl rfl (y_move rfl) ?_
      refine gk_guard rfl rfl rfl rfl (fun _ => ?_) (fun h => absurd h (by decide))
      refine gk_y rfl rfl (y_move rfl) ?_
      refine gk_guard rfl rfl rfl rfl (fun _ => ?_) (fun h => absurd h (by decide))
      refine gk_y rfl rfl (y_move rfl) ?_
      refine gk_guard rfl rfl rfl rfl (fun _ => ?_) (fun h => absurd h (by decide))
      refine gk_y rfl rfl (y_castT (y_eql rfl rfl) (by exact decide_eq_true ((hz _).trans hB.2.2))) ?_
      refine gk_y rfl rfl (y_pick rfl rfl rfl) ?_
      refine gk_y rfl rfl (y_move rfl) ?_
      refine gk_guard rfl rfl rfl rfl (fun _ => ?_) (fun h => absurd h (by decide))
      refine gk_y rfl rfl (y_loadBA 1 tf34 rfl rfl (vs := [_, _, _, _, _, _]) rfl rfl) ?_
      refine gk_guard rfl rfl rfl rfl (fun _ => ?_) (fun h => absurd h (by decide))
      refine gk_y rfl rfl (y_loadBA 3 tf26 rfl rfl (vs := [_, _, _, _, _, _]) rfl rfl) ?_
      refine gk_guard rfl rfl rfl rfl (fun _ => ?_) (fun h => absurd h (by decide))
      refine gk_y rfl rfl (y_castT (b := (sameSB s s)) (y_call en21 rfl (fun w hw => same_c _ _ s _ _ s w (has_row encPt_ok (hw.has (p := 2) rfl)) (Rd.has (Has.rd hl) hw) (by first | assumption | omega))) (by exact same_refl s)) ?_
      refine gk_y rfl rfl (y_pick rfl rfl rfl) ?_
      refine gk_y rfl rfl (y_move rfl) ?_
      refine gk_guard rfl rfl rfl rfl (fun _ => ?_) (fun h => absurd h (by decide))
      refine gk_y rfl rfl (y_call en15 rfl (fun w hw => wakes_c w (Rd.has (Has.rd hways) hw))) ?_
      refine gk_y rfl rfl (y_pick rfl rfl rfl) ?_
      refine gk_y rfl rfl (y_assign rfl) ?_
      refine gk_nil (gk_sub (T' := [(2,_)]) ⟨rfl, trivial⟩ ?_)
      refine gk_ret ?_
      refine gk_pure (rv_one rfl (r1_tmp rfl)) ?_
      rfl
end Go.Proofs.YtahahmelnaphjaaDoor
