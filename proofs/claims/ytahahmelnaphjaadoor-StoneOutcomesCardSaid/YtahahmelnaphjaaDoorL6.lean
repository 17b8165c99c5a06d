/- Plain facts: the pieces of a cut, two ways. No statement of the seat is proved in this text. -/
import Derived.Test.YtahahmelnaphjaaDoorL5
namespace Go.Stn
open Go Go.K Go.RowKit

/-! ### a shape settled, from any of its corners on -/
theorem rot_first {l u v : List Pt} {m : Pt} (hl : l = u ++ m :: v) (hm : minF lowerW l = m) (hu : m ∉ u) : rotL l (firstI l) = m :: (v ++ u) := by
  have hf : firstI l = (u.length : Int) := by
    refine findI_at (e := m) ?_ (fun j x hj hx => ?_) (eqB_iff.2 hm)
    · rw [hl, List.getElem?_append_right (by omega), Nat.sub_self]; rfl
    · rw [hl, List.getElem?_append_left hj] at hx
      cases he : eqB (minF lowerW l) x with
      | false => rfl
      | true =>
        have := eqB_iff.1 he
        rw [hm] at this
        exact absurd (this ▸ List.mem_of_getElem? hx) hu
  unfold rotL
  rw [hf, Int.toNat_natCast, hl]
  simp

theorem least_spec {l : List Pt} (h : 0 < l.length) : (∀ p ∈ l, (leastL l).x ≤ p.x ∧ (leastL l).z ≤ p.z) ∧ (∃ p ∈ l, (leastL l).x = p.x) ∧ ∃ p ∈ l, (leastL l).z = p.z := by
  have key : ∀ (r : List Pt) (o : Pt), let y := r.foldl (fun o p => (⟨min o.x p.x, min o.z p.z⟩ : Pt)) o; (y.x ≤ o.x ∧ y.z ≤ o.z) ∧ (∀ p ∈ r, y.x ≤ p.x ∧ y.z ≤ p.z) ∧ (y.x = o.x ∨ ∃ p ∈ r, y.x = p.x) ∧ (y.z = o.z ∨ ∃ p ∈ r, y.z = p.z) := by
    intro r
    induction r with
    | nil => intro o; exact ⟨⟨Int.le_refl _, Int.le_refl _⟩, fun p hp => (by cases hp), .inl rfl, .inl rfl⟩
    | cons q r ih =>
      intro o
      simp only [List.foldl_cons]
      obtain ⟨⟨a1, a2⟩, a3, a4, a5⟩ := ih ⟨min o.x q.x, min o.z q.z⟩
      dsimp only at a1 a2 a3 a4 a5 ⊢
      refine ⟨⟨by clear a4 a5; omega, by clear a4 a5; omega⟩, fun p hp => ?_, ?_, ?_⟩
      · rcases List.mem_cons.1 hp with rfl | hp
        · clear a4 a5; omega
        · exact a3 p hp
      · rcases a4 with a4 | ⟨p, hp, a4⟩
        · rcases Int.le_total o.x q.x with h | h
          · exact .inl (by clear a5; omega)
          · exact .inr ⟨q, List.mem_cons_self .., by clear a5; omega⟩
        · exact .inr ⟨p, List.mem_cons_of_mem _ hp, a4⟩
      · rcases a5 with a5 | ⟨p, hp, a5⟩
        · rcases Int.le_total o.z q.z with h | h
          · exact .inl (by clear a4; omega)
          · exact .inr ⟨q, List.mem_cons_self .., by clear a4; omega⟩
        · exact .inr ⟨p, List.mem_cons_of_mem _ hp, a5⟩
  have h0 : l.getD 0 default ∈ l := getD_mem h
  obtain ⟨⟨a1, a2⟩, a3, a4, a5⟩ := key l (l.getD 0 default)
  unfold leastL
  refine ⟨a3, ?_, ?_⟩
  · rcases a4 with a4 | a4
    · exact ⟨_, h0, a4⟩
    · exact a4
  · rcases a5 with a5 | a5
    · exact ⟨_, h0, a5⟩
    · exact a5
theorem least_perm {l m : List Pt} (h : 0 < l.length) (hp : l.Perm m) : leastL l = leastL m := by
  have hm : 0 < m.length := by rw [← hp.length_eq]; exact h
  obtain ⟨a1, ⟨p, b1, b2⟩, ⟨q, c1, c2⟩⟩ := least_spec h
  obtain ⟨d1, ⟨r, e1, e2⟩, ⟨t, f1, f2⟩⟩ := least_spec hm
  have g1 := (d1 p (hp.mem_iff.1 b1)).1
  have g2 := (d1 q (hp.mem_iff.1 c1)).2
  have g3 := (a1 r (hp.mem_iff.2 e1)).1
  have g4 := (a1 t (hp.mem_iff.2 f1)).2
  generalize leastL l = y at *
  generalize leastL m = z at *
  cases y; cases z
  simp only [Pt.mk.injEq]
  dsimp only at *
  omega
theorem min_perm {l m : List Pt} (h : 0 < l.length) (hp : l.Perm m) : minF lowerW l = minF lowerW m := by
  have hm : 0 < m.length := by rw [← hp.length_eq]; exact h
  obtain ⟨a1, a2⟩ := minF_spec h
  obtain ⟨b1, b2⟩ := minF_spec hm
  exact Lo.total (b2 _ (hp.mem_iff.1 a1)) (a2 _ (hp.mem_iff.2 b1))

theorem settled_step {p : Pt} {Y : List Pt} (hn : (p :: Y).Nodup) : settledW (Y ++ [p]) = settledW (p :: Y) := by
  have hperm : (p :: Y).Perm (Y ++ [p]) := by
    have := List.perm_append_comm (l₁ := [p]) (l₂ := Y)
    simpa using this
  have h1 : 0 < (p :: Y).length := by simp
  unfold settledW
  rw [← least_perm h1 hperm]
  congr 1
  have hmin := min_perm h1 hperm
  obtain ⟨a1, _⟩ := minF_spec h1
  obtain ⟨hpY, hY⟩ := List.nodup_cons.1 hn
  rcases List.mem_cons.1 a1 with h | h
  · rw [rot_first (l := p :: Y) (u := []) (v := Y) (m := p) rfl h (by simp), rot_first (l := Y ++ [p]) (u := Y) (v := []) (m := p) rfl (hmin ▸ h) hpY]
    simp
  · obtain ⟨M, hM⟩ : ∃ M, minF lowerW (p :: Y) = M := ⟨_, rfl⟩
    rw [hM] at h hmin
    obtain ⟨u, v, huv⟩ := List.append_of_mem h
    have hu : M ∉ u := fun hu => by
      rw [huv] at hY
      exact (List.nodup_append.1 hY).2.2 _ hu _ (List.mem_cons_self ..) rfl
    have hpm : M ≠ p := fun he => hpY (he ▸ h)
    have hA : p :: Y = (p :: u) ++ M :: v := congrArg (List.cons p) huv
    have hB : Y ++ [p] = u ++ M :: (v ++ [p]) := by
      rw [show Y ++ [p] = (u ++ M :: v) ++ [p] from congrArg (· ++ [p]) huv]
      simp
    rw [rot_first hA hM (fun hm => by
        rcases List.mem_cons.1 hm with h | h
        · exact hpm h
        · exact hu h), rot_first hB hmin.symm hu]
    simp

/-! ### the corners to the left of a cut -/
section
variable {l : List Pt} (g : Good l)
include g

structure Cut (l : List Pt) (p q : Pt) (a m : Nat) (D s E t : Int) : Prop where
  fp : farB p = false
  fq : farB q = false
  ha : a < l.length
  hp : OnH p (cor l a) (cor l (a + 1)) D s
  hq : OnH q (cor l (a + m)) (cor l (a + m + 1)) E t
  m1 : 1 ≤ m
  mn : m < l.length
  hs : m + 1 = l.length → 0 < s
  ht : m = 1 → 0 < t
  ep : edgeI l p = (a : Int)
  eq : edgeI l q = (((a + m) % l.length : Nat) : Int)

theorem Good.cut {p q : Pt} (hp : 0 ≤ edgeI l p) (hq : 0 ≤ edgeI l q) (hap : apartB l p q = true) : ∃ a m D s E t, Cut l p q a m D s E t := by
  have hr := hap
  rw [g.apart hp hq] at hr
  obtain ⟨a, ea, ha, hbp, hfp⟩ := g.edge hp
  obtain ⟨b, eb, hb, hbq, hfq⟩ := g.edge hq
  have hbq' := hbq.congr (off_mod ha hb)
  have hm : (if a ≤ b then b - a else b + l.length - a) < l.length := by split <;> omega
  have hmod := off_mod ha hb
  generalize hmm : (if a ≤ b then b - a else b + l.length - a) = m at *
  have no : ∀ i, i < l.length → ¬ (ronB (cor l i) (cor l (i + 1)) p = true ∧ ronB (cor l i) (cor l (i + 1)) q = true) := fun i hi hh => by
    unfold rapartB at hr
    have := allI_iff.1 hr i hi
    unfold rboth at this
    rw [(corners hi).1, (corners hi).2, hh.1, hh.2] at this
    cases this
  have r1 : ronB (cor l a) (cor l (a + 1)) p = true := (ron_iff (g.far _) (g.far _) hfp (g.ne _)).2 (.inl hbp)
  have r2 : ronB (cor l b) (cor l (b + 1)) q = true := (ron_iff (g.far _) (g.far _) hfq (g.ne _)).2 (.inl hbq)
  obtain ⟨D, s, kp⟩ := hbp
  obtain ⟨E, t, kq⟩ := hbq'
  have hm0 : m ≠ 0 := fun h0 => by
    have : a = b := by split at hmm <;> omega
    subst this
    exact no a ha ⟨r1, r2⟩
  refine ⟨a, m, D, s, E, t, hfp, hfq, ha, kp, kq, by omega, hm, fun hlast => ?_, fun h1 => ?_, ea, ?_⟩
  · have h0 := kp.t0
    rcases Int.lt_or_eq_of_le h0 with h | h
    · exact h
    · exfalso
      subst h
      have hpa := kp.start
      have hba : cor l (b + 1) = cor l a := by
        apply cor_congr
        rw [← Nat.mod_add_mod, hmod, Nat.mod_add_mod, show a + m + 1 = a + l.length from by omega, Nat.add_mod_right]
      exact no b hb ⟨(ron_iff (g.far _) (g.far _) hfp (g.ne _)).2 (.inr (by rw [hba]; exact hpa)), r2⟩
  · have h0 := kq.t0
    rcases Int.lt_or_eq_of_le h0 with h | h
    · exact h
    · exfalso
      subst h; subst h1
      exact no a ha ⟨r1, (ron_iff (g.far _) (g.far _) hfq (g.ne _)).2 (.inr kq.start)⟩
  · rw [eb, ← hmod, Nat.mod_eq_of_lt hb]

variable {p q : Pt} {a m : Nat} {D s E t : Int} (c : Cut l p q a m D s E t)
include c

theorem Good.left (k : Nat) (h1 : m < k) (h2 : k < l.length ∨ (k = l.length ∧ 0 < s)) : 0 < sideZ p q (cor l (a + k)) := by
  rcases h2 with h2 | ⟨rfl, h2⟩
  · exact arc_pos g.cvx c.hp c.hq c.m1 h1 h2
  · exact arc_end g.cvx c.hp c.hq c.m1 c.mn g.len h2 c.ht
theorem Good.notleft (k : Nat) (h1 : 1 ≤ k) (h2 : k ≤ m) : sideZ p q (cor l (a + k)) ≤ 0 := arc_neg g.cvx c.hp c.hq c.mn h1 h2
omit g in
theorem Cut.first (h : s = 0) : cor l (a + l.length) = p := by
  have := c.hp
  rw [h] at this
  rw [cor_add]
  exact this.start.symm
theorem Good.side (i : Nat) : sideW p q (cor l i) = sideZ p q (cor l i) := by
  have i1 : inR 2000 p := by have := far_in c.fp; unfold inR; omega
  have i2 : inR 2000 q := by have := far_in c.fq; unfold inR; omega
  have ic : inR 2000 (cor l i) := by have := far_in (g.far i); unfold inR; omega
  exact sideW_eq (by omega) i1 i2 ic

/-- the corners to the left, in order -/
def arcL (l : List Pt) (p q : Pt) (a m : Nat) : List Pt := ((List.range (l.length - m)).map fun j => cor l (a + m + 1 + j)).filter fun c => decide (0 < sideW p q c)

/-- the program's part -/
theorem Good.rn : ∀ (k j : Nat), j + k + m = l.length → rightN l p k (((a + m) % l.length : Nat) + 1 + (j : Int)) = (((List.range k).map fun i => cor l (a + m + 1 + j + i)).filter fun c => decide (0 < sideW p q c)) ++ [p]
  | 0, j, _ => rfl
  | k + 1, j, hk => by
    have hat : atL l (((a + m) % l.length : Nat) + 1 + (j : Int)) = cor l (a + m + 1 + j) := by
      rw [atL_cor (n := (a + m) % l.length + (1 + j) + l.length) (by omega), cor_add, cor_add_mod]
      congr 1
      omega
    have hcor : cor l (a + m + 1 + j) = cor l (a + (m + 1 + j)) := by congr 1; omega
    have hrec := Good.rn k (j + 1) (by omega)
    rw [show (((a + m) % l.length : Nat) : Int) + 1 + ((j + 1 : Nat) : Int) = (((a + m) % l.length : Nat) : Int) + 1 + (j : Int) + 1 from by omega] at hrec
    have hmap : (List.range (k + 1)).map (fun i => cor l (a + m + 1 + j + i)) = cor l (a + m + 1 + j) :: (List.range k).map (fun i => cor l (a + m + 1 + (j + 1) + i)) := by
      rw [List.range_succ_eq_map, List.map_cons, List.map_map]
      congr 1
      apply List.map_congr_left
      intro i _
      show cor l (a + m + 1 + j + (i + 1)) = _
      congr 1
      omega
    unfold rightN
    rw [hat, hmap]
    by_cases hlast : m + 1 + j = l.length ∧ s = 0
    · have hk0 : k = 0 := by omega
      subst hk0
      have he : cor l (a + m + 1 + j) = p := by rw [hcor, hlast.1]; exact c.first hlast.2
      rw [he, if_pos (eqB_iff.2 rfl)]
      have hz : ¬ 0 < sideW p q p := by
        have := g.side c (a + l.length)
        rw [c.first hlast.2, side_same3] at this
        omega
      simp [hz]
    · have hpos : 0 < sideW p q (cor l (a + m + 1 + j)) := by
        rw [g.side c, hcor]
        refine g.left c _ (by omega) ?_
        by_cases h : m + 1 + j = l.length
        · refine .inr ⟨h, ?_⟩
          have := c.hp.t0
          have : s ≠ 0 := fun h0 => hlast ⟨h, h0⟩
          omega
        · exact .inl (by omega)
      have hne : ¬ eqB (cor l (a + m + 1 + j)) p = true := fun he => by
        have := eqB_iff.1 he
        rw [g.side c, this, side_same3] at hpos
        omega
      rw [if_neg hne, hrec]
      simp [hpos]

omit g in
theorem Cut.rt : rightT l q p = l.length - m := by
  have := c.ha
  have := c.mn
  have := c.m1
  have hlt := Nat.mod_lt (a + m) (show l.length > 0 by omega)
  unfold rightT
  rw [c.ep, c.eq]
  rcases Nat.lt_or_ge (a + m) l.length with h | h
  · rw [Nat.mod_eq_of_lt h, if_neg (by omega)]; omega
  · rw [Nat.mod_eq_sub_mod h, Nat.mod_eq_of_lt (by omega), if_pos (by omega)]; omega

theorem Good.rl : rightL l q p = q :: (arcL l p q a m ++ [p]) := by
  unfold rightL arcL
  rw [c.rt, c.eq]
  have := g.rn c (l.length - m) 0 (by have := c.mn; omega)
  rw [show (((a + m) % l.length : Nat) : Int) + 1 + ((0 : Nat) : Int) = (((a + m) % l.length : Nat) : Int) + 1 from by omega] at this
  rw [this]

/-! the document's part -/
omit g in
theorem Cut.mod (i : Nat) : i % l.length = (a + (m + 1 + (i + (l.length - (a + m + 1) % l.length)) % l.length)) % l.length := by
  have hn : 0 < l.length := by have := c.mn; omega
  have := Nat.mod_lt (a + m + 1) hn
  rw [show a + (m + 1 + (i + (l.length - (a + m + 1) % l.length)) % l.length) = (a + m + 1) + (i + (l.length - (a + m + 1) % l.length)) % l.length from by omega, Nat.add_mod_mod, ← Nat.mod_add_mod,
    show (a + m + 1) % l.length + (i + (l.length - (a + m + 1) % l.length)) = i + l.length from by omega, Nat.add_mod_right]

theorem Good.fr : fromN l p q l.length = (((a + m + 1) % l.length : Nat) : Int) := by
  have hn : 0 < l.length := by have := c.mn; omega
  have m1 := c.m1
  have mn := c.mn
  have hlt := Nat.mod_lt (a + m + 1) hn
  have test : ∀ i : Nat, i < l.length → (leftC l p q (i : Int) = true ↔ i = (a + m + 1) % l.length) := fun i hi => by
    have e1 : ptAt l (i : Int) = cor l i := ptAt_cor hi
    have e2 : ((i : Int) + (l.length : Int) - 1).tmod (l.length : Int) = (((i + l.length - 1) % l.length : Nat) : Int) := by
      rw [show (i : Int) + (l.length : Int) - 1 = ((i + l.length - 1 : Nat) : Int) from by omega]; rfl
    have e3 : ptAt l (((i + l.length - 1) % l.length : Nat) : Int) = cor l (i + l.length - 1) := by
      rw [ptAt_cor (Nat.mod_lt _ hn), cor_mod]
    unfold leftC
    rw [e1, e2, e3, g.side c, g.side c, Bool.and_eq_true, decide_eq_true_eq, decide_eq_true_eq]
    have hmod := c.mod i
    have hr := Nat.mod_lt (i + (l.length - (a + m + 1) % l.length)) hn
    have hzero : (i + (l.length - (a + m + 1) % l.length)) % l.length = 0 ↔ i = (a + m + 1) % l.length := by
      rcases Nat.lt_or_ge i ((a + m + 1) % l.length) with h | h
      · rw [Nat.mod_eq_of_lt (by omega)]; omega
      · rw [Nat.mod_eq_sub_mod (by omega), Nat.mod_eq_of_lt (by omega)]; omega
    rw [← hzero]
    generalize (i + (l.length - (a + m + 1) % l.length)) % l.length = r at *
    have c1 : cor l i = cor l (a + (m + 1 + r)) := cor_congr hmod
    have c2 : cor l (i + l.length - 1) = cor l (a + (m + r)) := by
      apply cor_congr
      have e : (i + l.length - 1 + 1) % l.length = (a + (m + r) + 1) % l.length := by
        rw [show i + l.length - 1 + 1 = i + l.length from by omega, Nat.add_mod_right, hmod]; congr 1; omega
      have e' := congrArg (fun x => (x + (l.length - 1)) % l.length) e
      simp only [Nat.mod_add_mod] at e'
      rw [show i + l.length - 1 + 1 + (l.length - 1) = i + l.length - 1 + l.length from by omega, Nat.add_mod_right, show a + (m + r) + 1 + (l.length - 1) = a + (m + r) + l.length from by omega, Nat.add_mod_right] at e'
      exact e'
    rw [c1, c2]
    constructor
    · rintro ⟨h1, h2⟩
      refine Classical.byContradiction fun hr0 => ?_
      -- beyond the first one, both are to the left, or the corner is not
      by_cases hb : m + 1 + r ≤ l.length
      · have := g.left c (m + r) (by omega) (.inl (by omega))
        omega
      · have := g.notleft c (m + 1 + r - l.length) (by omega) (by omega)
        rw [show a + (m + 1 + r) = a + (m + 1 + r - l.length) + l.length from by omega, cor_add] at h1
        omega
    · intro h0
      subst h0
      refine ⟨g.left c _ (by omega) ?_, g.notleft c _ (by omega) (by omega)⟩
      by_cases h : m + 1 = l.length
      · exact .inr ⟨h, c.hs h⟩
      · exact .inl (by omega)
  have key : ∀ n, n ≤ l.length → (a + m + 1) % l.length < n → fromN l p q n = (((a + m + 1) % l.length : Nat) : Int) := by
    intro n
    induction n with
    | zero => intro _ h; omega
    | succ n ih =>
      intro h1 h2
      unfold fromN
      by_cases h : n = (a + m + 1) % l.length
      · rw [if_pos ((test n (by omega)).2 h), h]
      · rw [if_neg (fun hc => h ((test n (by omega)).1 hc))]
        exact ih (by omega) (by omega)
  exact key _ (Nat.le_refl _) hlt

theorem Good.ll : leftL l p q = p :: q :: arcL l p q a m := by
  have m1 := c.m1
  have mn := c.mn
  unfold leftL leftO arcL
  rw [g.fr c]
  congr 2
  have hpt : ∀ j : Nat, leftP l (((a + m + 1) % l.length : Nat) : Int) (j : Int) = cor l (a + m + 1 + j) := fun j => by
    unfold leftP
    rw [show ((((a + m + 1) % l.length : Nat) : Int) + (j : Int)).tmod (l.length : Int) = ((((a + m + 1) % l.length + j) % l.length : Nat) : Int) from rfl, ptAt_cor (Nat.mod_lt _ (by omega)), cor_mod, cor_add_mod]
  rw [List.map_congr_left (g := fun j => cor l (a + m + 1 + j)) (fun j _ => hpt j)]
  have hsplit : List.range l.length = List.range (l.length - m) ++ (List.range m).map (fun j => l.length - m + j) := by
    rw [← List.range_add]; congr 1; omega
  rw [hsplit, List.map_append, List.filter_append, List.map_map]
  have hnil : (((List.range m).map ((fun j => cor l (a + m + 1 + j)) ∘ fun j => l.length - m + j)).filter fun c => decide (0 < sideW p q c)) = [] := by
    rw [List.filter_eq_nil_iff]
    intro x hx
    obtain ⟨j, hj, rfl⟩ := List.mem_map.1 hx
    rw [List.mem_range] at hj
    have := g.notleft c (j + 1) (by omega) (by omega)
    show ¬ decide (0 < sideW p q (cor l (a + m + 1 + (l.length - m + j)))) = true
    rw [g.side c, show a + m + 1 + (l.length - m + j) = a + (j + 1) + l.length from by omega, cor_add, decide_eq_true_eq]
    omega
  rw [hnil, List.append_nil]

theorem Good.nodup : (p :: q :: arcL l p q a m).Nodup := by
  have mn := c.mn
  have hside : ∀ x ∈ arcL l p q a m, 0 < sideZ p q x := fun x hx => by
    obtain ⟨h1, h2⟩ := List.mem_filter.1 hx
    obtain ⟨j, _, rfl⟩ := List.mem_map.1 h1
    rw [decide_eq_true_eq, g.side c] at h2
    exact h2
  have hpq : p ≠ q := fun h => by
    have := g.left c (m + 1) (by omega) (by
      by_cases h : m + 1 = l.length
      · exact .inr ⟨h, c.hs h⟩
      · exact .inl (by omega))
    rw [h, side_same1] at this
    omega
  have cne : ∀ i j, i < j → j < i + l.length → cor l i ≠ cor l j := fun i j h1 h2 he => by
    have n3 := g.len
    by_cases h : j = i + 1
    · subst h; exact g.ne i he
    · have := g.cvx.tri3 (i := i) (j := i + 1) (k := j) (by omega) (by omega) h2
      rw [he, side_same3] at this
      omega
  rw [List.nodup_cons, List.nodup_cons]
  refine ⟨fun h => ?_, fun h => ?_, ?_⟩
  · rcases List.mem_cons.1 h with h | h
    · exact hpq h
    · have := hside _ h
      rw [side_same3] at this
      omega
  · have := hside _ h
    rw [side_same2] at this
    omega
  · unfold arcL
    refine List.Pairwise.filter _ ?_
    rw [List.pairwise_map]
    refine List.Pairwise.imp_of_mem ?_ (List.pairwise_lt_range)
    intro i j hi hj hij
    rw [List.mem_range] at hi hj
    exact cne _ _ (by omega) (by omega)
end

/-- **the document's part is the program's, but for where it begins** -/
theorem Good.parts {l : List Pt} (g : Good l) {p q : Pt} (hp : 0 ≤ edgeI l p) (hq : 0 ≤ edgeI l q) (hap : apartB l p q = true) :
    ∃ X, leftL l p q = p :: q :: X ∧ rightL l q p = (q :: X) ++ [p] ∧ (p :: q :: X).Nodup := by
  obtain ⟨a, m, D, s, E, t, c⟩ := g.cut hp hq hap
  exact ⟨_, g.ll c, g.rl c, g.nodup c⟩
theorem Good.settled {l : List Pt} (g : Good l) {p q : Pt} (hp : 0 ≤ edgeI l p) (hq : 0 ≤ edgeI l q) (hap : apartB l p q = true) :
    settleW (leftL l p q) = settledW (rightL l q p) ∧ (leftL l p q).length = (rightL l q p).length := by
  obtain ⟨X, h1, h2, h3⟩ := g.parts hp hq hap
  rw [h1, h2]
  refine ⟨?_, by simp⟩
  rw [settle_eq (by simp), settled_step h3]
theorem apart_symm (l : List Pt) (p q : Pt) : apartB l p q = apartB l q p := by
  unfold apartB both0
  congr 2
  funext e
  exact Bool.and_comm _ _
theorem good_of {s : Stn} (h : checkI s = 0) : Good s.shape := by
  have hp := check_placed h
  have hl := check_len h
  unfold placedB at hp
  rw [Bool.and_eq_true, Bool.not_eq_true', Bool.or_eq_false_iff, Bool.not_eq_false'] at hp
  exact ⟨check_near h, (convex_iff hp.1.1 hl.1 hl.2).1 hp.1.2, hl.1⟩
end Go.Stn
