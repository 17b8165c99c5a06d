/- Plain facts: border points and what lies apart, two ways. No statement of the seat is proved in this text. -/
import Derived.Test.YtahahmelnaphjaaDoorL4
import Derived.Test.YtahahmelnaphjaaDoorD7
namespace Go.Stn
open Go Go.K Go.RowKit

theorem edgesL_get {l : List Pt} {i : Nat} (h : i < l.length) : (edgesL l)[i]? = some (cor l i, cor l (i + 1)) := by
  unfold edgesL
  rw [List.getElem?_map, List.getElem?_range h]
  simp only [Option.map_some]
  rw [ptAt_cor h, atL_cor (i := (i : Int) + 1) (n := i + 1 + l.length) (by omega), cor_add]

theorem sq_nn (a : Int) : 0 ≤ a * a := by
  rcases Int.le_total 0 a with h | h
  · exact Int.mul_nonneg h h
  · have := Int.mul_nonneg (show 0 ≤ -a by omega) (show 0 ≤ -a by omega)
    rw [Int.neg_mul_neg] at this
    exact this
theorem sq_lt {a b : Int} (h : a * a < b * b) (hb : 0 ≤ b) : a < b := Classical.byContradiction fun hn => by
  have : b * b ≤ a * a := Int.mul_le_mul (by omega) (by omega) hb (by omega)
  omega
theorem mul_zero_of {a b : Int} (h : 0 < a) (hz : a * b = 0) : b = 0 := by
  rcases Int.mul_eq_zero.1 hz with h1 | h1
  · omega
  · exact h1
theorem le_of_mul {a b c : Int} (h : 0 < a) (hz : a * b ≤ a * c) : b ≤ c := Int.le_of_mul_le_mul_left hz h

/-- from a to b, as a pair -/
theorem onH_id (a b x : Pt) : dotZ (subZ b a) (subZ b a) * (x.x - a.x) = dotZ (subZ x a) (subZ b a) * (b.x - a.x) - (b.z - a.z) * sideZ a b x ∧
    dotZ (subZ b a) (subZ b a) * (x.z - a.z) = dotZ (subZ x a) (subZ b a) * (b.z - a.z) + (b.x - a.x) * sideZ a b x := by
  unfold dotZ subZ sideZ
  dsimp only
  constructor <;> grind
theorem lagrange (a b x : Pt) : dotZ (subZ x a) (subZ b a) * dotZ (subZ x a) (subZ b a) = dotZ (subZ x a) (subZ x a) * dotZ (subZ b a) (subZ b a) - sideZ a b x * sideZ a b x := by
  unfold dotZ subZ sideZ
  dsimp only
  grind
theorem dot_pos {a b : Pt} (h : a ≠ b) : 0 < dotZ (subZ b a) (subZ b a) := by
  unfold dotZ subZ
  dsimp only
  have h1 := sq_nn (b.x - a.x)
  have h2 := sq_nn (b.z - a.z)
  rcases Int.lt_or_eq_of_le (Int.add_nonneg h1 h2) with h3 | h3
  · exact h3
  · exfalso
    have e1 : (b.x - a.x) * (b.x - a.x) = 0 := by omega
    have e2 : (b.z - a.z) * (b.z - a.z) = 0 := by omega
    have e1 : b.x - a.x = 0 := by rcases Int.mul_eq_zero.1 e1 with h | h <;> exact h
    have e2 : b.z - a.z = 0 := by rcases Int.mul_eq_zero.1 e2 with h | h <;> exact h
    apply h
    cases a; cases b
    simp only [Pt.mk.injEq]
    dsimp only at *
    omega

def OnS (x a b : Pt) : Prop := ∃ D t, OnH x a b D t
theorem onS_of {a b x : Pt} (h0 : sideZ a b x = 0) (h1 : 0 ≤ dotZ (subZ x a) (subZ b a)) (h2 : dotZ (subZ x a) (subZ b a) < dotZ (subZ b a) (subZ b a)) : OnS x a b := by
  obtain ⟨e1, e2⟩ := onH_id a b x
  rw [h0] at e1 e2
  exact ⟨_, _, by omega, h1, h2, by rw [e1]; omega, by rw [e2]; omega⟩
theorem onS_dot {a b x : Pt} {D t : Int} (h : OnH x a b D t) : D * dotZ (subZ x a) (subZ b a) = t * dotZ (subZ b a) (subZ b a) ∧ D * (D * dotZ (subZ x a) (subZ x a)) = t * t * dotZ (subZ b a) (subZ b a) := by
  have e1 := h.ex
  have e2 := h.ez
  unfold dotZ subZ
  dsimp only
  generalize x.x - a.x = u at *
  generalize x.z - a.z = v at *
  generalize b.x - a.x = d at *
  generalize b.z - a.z = f at *
  constructor
  · calc D * (u * d + v * f) = (D * u) * d + (D * v) * f := by grind
      _ = _ := by rw [e1, e2]; grind
  · calc D * (D * (u * u + v * v)) = (D * u) * (D * u) + (D * v) * (D * v) := by grind
      _ = _ := by rw [e1, e2]; grind
theorem onS_side {a b x : Pt} {D t : Int} (h : OnH x a b D t) : sideZ a b x = 0 := by
  have := h.lin a b
  rw [side_same3, side_same2, Int.mul_zero, Int.mul_zero, Int.add_zero] at this
  exact mul_zero_of h.pos this

theorem onE_iff {a b x : Pt} (ha : farB a = false) (hb : farB b = false) (hx : farB x = false) (hab : a ≠ b) : onE x (a, b) = true ↔ OnS x a b := by
  have i1 : inR 2000 a := by have := far_in ha; unfold inR; omega
  have i2 : inR 2000 b := by have := far_in hb; unfold inR; omega
  have i3 : inR 2000 x := by have := far_in hx; unfold inR; omega
  have hd := dot_pos hab
  unfold onE
  dsimp only
  rw [subW_eq (by omega) i2 i1, subW_eq (by omega) i3 i1]
  have j1 := subZ_in i2 i1
  have j2 := subZ_in i3 i1
  rw [crossW_eq (by omega) (by omega) j1 j2, dotW_eq (by omega) (by omega) j2 j1, dotW_eq (by omega) (by omega) j2 j2, dotW_eq (by omega) (by omega) j1 j1]
  have hc : crossZ (subZ b a) (subZ x a) = sideZ a b x := by
    unfold crossZ subZ sideZ
    dsimp only
  rw [hc]
  simp only [Bool.and_eq_true, decide_eq_true_eq]
  constructor
  · rintro ⟨⟨h0, h1⟩, h2⟩
    refine onS_of h0 h1 (sq_lt ?_ (by omega))
    have hl := lagrange a b x
    rw [h0] at hl
    have := Int.mul_lt_mul_of_pos_right h2 hd
    omega
  · rintro ⟨D, t, h⟩
    obtain ⟨e1, e2⟩ := onS_dot h
    refine ⟨⟨onS_side h, ?_⟩, ?_⟩
    · refine nonneg_of h.pos ?_
      rw [e1]
      exact Int.mul_nonneg h.t0 (by omega)
    · have hp := h.pos
      refine Classical.byContradiction fun hn => ?_
      have a1 : D * D * dotZ (subZ b a) (subZ b a) ≤ D * (D * dotZ (subZ x a) (subZ x a)) := by
        rw [Int.mul_assoc]
        exact Int.mul_le_mul_of_nonneg_left (Int.mul_le_mul_of_nonneg_left (by omega) (by omega)) (by omega)
      rw [e2] at a1
      have a2 : t * t < D * D := by
        have := Int.mul_le_mul (show t ≤ D - 1 by have := h.t1; omega) (show t ≤ D - 1 by have := h.t1; omega) h.t0 (by omega)
        have h3 : (D - 1) * (D - 1) = D * D - D - D + 1 := by grind
        omega
      have := Int.mul_lt_mul_of_pos_right a2 hd
      omega

theorem between1 {u d : Int} (h1 : min 0 d ≤ u) (h2 : u ≤ max 0 d) : 0 ≤ u * d ∧ u * d ≤ d * d := by
  rcases Int.le_total 0 d with h | h
  · exact ⟨Int.mul_nonneg (by omega) h, Int.mul_le_mul_of_nonneg_right (by omega) h⟩
  · have a := Int.mul_nonneg (show 0 ≤ -u by omega) (show 0 ≤ -d by omega)
    have b := Int.mul_le_mul_of_nonneg_right (show -u ≤ -d by omega) (show 0 ≤ -d by omega)
    rw [Int.neg_mul_neg] at a b
    rw [Int.neg_mul_neg] at b
    exact ⟨a, b⟩
theorem between2 {D t u d : Int} (hD : 0 < D) (h0 : 0 ≤ t) (h1 : t ≤ D) (h : D * u = t * d) : min 0 d ≤ u ∧ u ≤ max 0 d := by
  rcases Int.le_total 0 d with hd | hd
  · have a : 0 ≤ u := nonneg_of hD (by rw [h]; exact Int.mul_nonneg h0 hd)
    have b : u ≤ d := le_of_mul hD (by rw [h]; exact Int.mul_le_mul_of_nonneg_right h1 hd)
    omega
  · have a : u ≤ 0 := nonpos_of hD (by rw [h]; exact Int.mul_nonpos_of_nonneg_of_nonpos h0 hd)
    have b : d ≤ u := le_of_mul hD (by rw [h]; exact Int.mul_le_mul_of_nonpos_right h1 hd)
    omega

theorem ron_iff {a b x : Pt} (ha : farB a = false) (hb : farB b = false) (hx : farB x = false) (hab : a ≠ b) : ronB a b x = true ↔ OnS x a b ∨ x = b := by
  have i1 : inR 2000 a := by have := far_in ha; unfold inR; omega
  have i2 : inR 2000 b := by have := far_in hb; unfold inR; omega
  have i3 : inR 2000 x := by have := far_in hx; unfold inR; omega
  have hd := dot_pos hab
  unfold ronB
  rw [sideW_eq (by omega) i1 i2 i3]
  simp only [Bool.and_eq_true, decide_eq_true_eq]
  constructor
  · rintro ⟨⟨h0, h1, h2⟩, h3, h4⟩
    obtain ⟨c1, c2⟩ := between1 (u := x.x - a.x) (d := b.x - a.x) (by omega) (by omega)
    obtain ⟨c3, c4⟩ := between1 (u := x.z - a.z) (d := b.z - a.z) (by omega) (by omega)
    have d1 : 0 ≤ dotZ (subZ x a) (subZ b a) := by
      unfold dotZ subZ; dsimp only; omega
    have d2 : dotZ (subZ x a) (subZ b a) ≤ dotZ (subZ b a) (subZ b a) := by
      unfold dotZ subZ; dsimp only; omega
    rcases Int.lt_or_eq_of_le d2 with d3 | d3
    · exact .inl (onS_of h0 d1 d3)
    · refine .inr ?_
      obtain ⟨e1, e2⟩ := onH_id a b x
      rw [h0, d3, Int.mul_zero] at e1 e2
      have f1 := Int.eq_of_mul_eq_mul_left (by omega) (show dotZ (subZ b a) (subZ b a) * (x.x - a.x) = dotZ (subZ b a) (subZ b a) * (b.x - a.x) by omega)
      have f2 := Int.eq_of_mul_eq_mul_left (by omega) (show dotZ (subZ b a) (subZ b a) * (x.z - a.z) = dotZ (subZ b a) (subZ b a) * (b.z - a.z) by omega)
      cases x; cases b
      simp only [Pt.mk.injEq]
      dsimp only at *
      omega
  · rintro (⟨D, t, h⟩ | rfl)
    · obtain ⟨c1, c2⟩ := between2 h.pos h.t0 (by have := h.t1; omega) h.ex
      obtain ⟨c3, c4⟩ := between2 h.pos h.t0 (by have := h.t1; omega) h.ez
      exact ⟨⟨onS_side h, by omega, by omega⟩, by omega, by omega⟩
    · rw [side_same2]
      omega

/-- all that a border needs of a shape -/
structure Good (l : List Pt) : Prop where
  near : Near l
  cvx : Cvx l
  len : 3 ≤ l.length

section
variable {l : List Pt} (g : Good l)
include g
theorem Good.far (i : Nat) : farB (cor l i) = false := g.near _ (cor_mem (by have := g.len; omega) i)
theorem Good.ne (i : Nat) : cor l i ≠ cor l (i + 1) := fun h => by
  have := g.cvx.edge i 2 (by omega) (by have := g.len; omega)
  rw [h, side_same1] at this
  omega

/-- a point on edge number i -/
abbrev BP (l : List Pt) (x : Pt) (i : Nat) : Prop := OnS x (cor l i) (cor l (i + 1))
omit g in
theorem BP.congr {x : Pt} {i j : Nat} (h : BP l x i) (hij : i % l.length = j % l.length) : BP l x j := by
  have e1 : cor l i = cor l j := cor_congr hij
  have e2 : cor l (i + 1) = cor l (j + 1) := cor_congr (by rw [← Nat.mod_add_mod, hij, Nat.mod_add_mod])
  unfold BP at *
  rw [← e1, ← e2]
  exact h
theorem Good.zero {x : Pt} {i k : Nat} (hk : k < l.length) (h : BP l x (i + k)) (h0 : sideZ (cor l i) (cor l (i + 1)) x = 0) : k = 0 ∨ (k = 1 ∧ x = cor l (i + 1)) := by
  obtain ⟨D, t, h⟩ := h
  rcases edge_zero g.cvx g.len hk h h0 with h1 | ⟨h1, h2⟩
  · exact .inl h1
  · subst h1; subst h2; exact .inr ⟨rfl, h.start⟩
omit g in
theorem off_mod {n i j : Nat} (hi : i < n) (hj : j < n) : j % n = (i + (if i ≤ j then j - i else j + n - i)) % n := by
  split
  · rw [show i + (j - i) = j from by omega]
  · rw [show i + (j + n - i) = j + n from by omega, Nat.add_mod_right]
theorem Good.uniq {x : Pt} {i j : Nat} (hi : i < l.length) (hj : j < l.length) (h1 : BP l x i) (h2 : BP l x j) : i = j := by
  have s1 : sideZ (cor l i) (cor l (i + 1)) x = 0 := by obtain ⟨D, t, h⟩ := h1; exact onS_side h
  have s2 : sideZ (cor l j) (cor l (j + 1)) x = 0 := by obtain ⟨D, t, h⟩ := h2; exact onS_side h
  have a := g.zero (by split <;> omega) (h2.congr (off_mod hi hj)) s1
  have b := g.zero (by split <;> omega) (h1.congr (off_mod hj hi)) s2
  have := g.len
  rcases a with a | ⟨a, _⟩ <;> rcases b with b | ⟨b, _⟩ <;> (split at a <;> split at b <;> omega)

theorem Good.edge {x : Pt} (h : 0 ≤ edgeI l x) : ∃ i : Nat, edgeI l x = (i : Int) ∧ i < l.length ∧ BP l x i ∧ farB x = false := by
  have hf : farB x = false := by
    cases hf : farB x with
    | false => rfl
    | true => rw [edgeI, if_pos hf] at h; omega
  have hl := (edge_lt (l := l) (x := x)).1
  rw [edgeI, if_neg (by rw [hf]; exact Bool.false_ne_true)] at h hl ⊢
  unfold findI at h hl ⊢
  split at h
  · rename_i ha
    rw [if_pos ha] at hl
    rw [if_pos ha]
    refine ⟨_, rfl, by omega, ?_, hf⟩
    have hlt : (edgesL l).findIdx (onE x) < (edgesL l).length := List.findIdx_lt_length_of_exists (by simpa using ha)
    have hp : onE x (edgesL l)[(edgesL l).findIdx (onE x)] = true := List.findIdx_getElem
    have hg := edgesL_get (l := l) (i := (edgesL l).findIdx (onE x)) (by omega)
    have he : (edgesL l)[(edgesL l).findIdx (onE x)] = (cor l ((edgesL l).findIdx (onE x)), cor l ((edgesL l).findIdx (onE x) + 1)) := (List.getElem?_eq_some_iff.1 hg).2
    rw [he] at hp
    exact (onE_iff (g.far _) (g.far _) hf (g.ne _)).1 hp
  · omega
theorem Good.edge_at {x : Pt} {i : Nat} (hf : farB x = false) (hi : i < l.length) (h : BP l x i) : edgeI l x = (i : Int) := by
  rw [edgeI, if_neg (by rw [hf]; exact Bool.false_ne_true)]
  refine findI_at (edgesL_get hi) (fun j y hj hy => ?_) ((onE_iff (g.far _) (g.far _) hf (g.ne _)).2 h)
  rw [edgesL_get (by omega)] at hy
  cases hy
  cases ho : onE x (cor l j, cor l (j + 1)) with
  | false => rfl
  | true =>
    have := g.uniq hi (by omega) h ((onE_iff (g.far _) (g.far _) hf (g.ne _)).1 ho)
    omega

omit g in
theorem corners {i : Nat} (hi : i < l.length) : ptAt l (i : Int) = cor l i ∧ nextL l (i : Int) = cor l (i + 1) := ⟨ptAt_cor hi, nextL_cor i⟩

theorem Good.border {x : Pt} : rbordB l x = decide (0 ≤ edgeI l x) := by
  rw [Bool.eq_iff_iff, decide_eq_true_eq]
  constructor
  · intro h
    unfold rbordB rbordN at h
    rw [Bool.and_eq_true, Bool.not_eq_true', Bool.not_eq_true'] at h
    obtain ⟨hf, ha⟩ := h
    have hex : ∃ i, i < l.length ∧ ronB (ptAt l (i : Nat)) (nextL l (i : Nat)) x = true := Classical.byContradiction fun hn => by
      rw [allI_true (fun i hi => ?_)] at ha
      · cases ha
      · cases hr : ronB (ptAt l (i : Nat)) (nextL l (i : Nat)) x with
        | false => rfl
        | true => exact absurd ⟨i, hi, hr⟩ hn
    obtain ⟨i, hi, hr⟩ := hex
    rw [(corners hi).1, (corners hi).2, ron_iff (g.far _) (g.far _) hf (g.ne _)] at hr
    rcases hr with hr | hr
    · rw [g.edge_at hf hi hr]; omega
    · have hlt : (i + 1) % l.length < l.length := Nat.mod_lt _ (by omega)
      have : BP l x (i + 1) := ⟨1, 0, by rw [hr]; exact OnH.at 1 (by omega)⟩
      rw [g.edge_at hf hlt (this.congr (Nat.mod_mod _ _).symm)]; omega
  · intro h
    obtain ⟨i, _, hi, hb, hf⟩ := g.edge h
    refine rbord_yes (i := (i : Int)) hf (by omega) (by omega) ?_
    rw [(corners hi).1, (corners hi).2, ron_iff (g.far _) (g.far _) hf (g.ne _)]
    exact .inl hb

/-- a border point lies on an edge's line only on that edge -/
theorem Good.line {x : Pt} {a i : Nat} (hf : farB x = false) (ha : a < l.length) (hb : BP l x a) (hi : i < l.length) : sideZ (cor l i) (cor l (i + 1)) x = 0 ↔ ronB (cor l i) (cor l (i + 1)) x = true := by
  rw [ron_iff (g.far _) (g.far _) hf (g.ne _)]
  constructor
  · intro h0
    rcases g.zero (by split <;> omega) (hb.congr (off_mod hi ha)) h0 with h1 | ⟨_, h2⟩
    · have : a = i := by split at h1 <;> omega
      subst this; exact .inl hb
    · exact .inr h2
  · rintro (⟨D, t, h⟩ | rfl)
    · exact onS_side h
    · rw [side_same2]

theorem Good.apart {p q : Pt} (hp : 0 ≤ edgeI l p) (hq : 0 ≤ edgeI l q) : apartB l p q = rapartB l p q := by
  obtain ⟨a, _, ha, hbp, hfp⟩ := g.edge hp
  obtain ⟨b, _, hb, hbq, hfq⟩ := g.edge hq
  have i1 : inR 2000 p := by have := far_in hfp; unfold inR; omega
  have i2 : inR 2000 q := by have := far_in hfq; unfold inR; omega
  have ic : ∀ i, inR 2000 (cor l i) := fun i => by have := far_in (g.far i); unfold inR; omega
  have key : ∀ i, i < l.length → both0 p q (cor l i, cor l (i + 1)) = rboth l p q (i : Nat) := fun i hi => by
    unfold both0 rboth
    rw [(corners hi).1, (corners hi).2, Bool.eq_iff_iff]
    simp only [Bool.and_eq_true, decide_eq_true_eq]
    rw [turnW_eq (by omega) (ic _) (ic _) i1, turnW_eq (by omega) (ic _) (ic _) i2, g.line hfp ha hbp hi, g.line hfq hb hbq hi]
  unfold apartB rapartB
  rw [Bool.eq_iff_iff, Bool.not_eq_true', allI_iff, List.any_eq_false]
  constructor
  · intro h i hi
    have := h _ (List.mem_of_getElem? (edgesL_get hi))
    rw [key i hi] at this
    simpa using this
  · intro h e he
    obtain ⟨j, hj, rfl⟩ := List.getElem_of_mem he
    rw [edges_len'] at hj
    have hg := (List.getElem?_eq_some_iff.1 (edgesL_get hj)).2
    rw [hg, key j hj]
    simpa using h j hj
end
end Go.Stn
