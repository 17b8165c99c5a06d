/- Plain facts: border points in their list, areas of parts, blows. No statement of the seat is proved in this text. -/
import Derived.Test.YtahahmelnaphjaaDoorL9
import Derived.Test.YtahahmelnaphjaaDoorL3
import Derived.Test.YtahahmelnaphjaaDoorD8
import Derived.Test.YtahahmelnaphjaaDoorD4
namespace Go.Stn
open Go Go.K Go.RowKit

/-! ### whole points on an edge -/
theorem edge_steps_pos {p q : Pt} (h : p ≠ q) : 0 < stepsI p q := by
  unfold stepsI stepsN
  have : ¬ (q.x = p.x ∧ q.z = p.z) := fun hh => h (by cases p; cases q; simp_all)
  have h2 : 0 < Nat.gcd (q.x - p.x).natAbs (q.z - p.z).natAbs := by
    rcases Nat.eq_zero_or_pos (q.x - p.x).natAbs with hx | hx
    · rw [hx, Nat.gcd_zero_left]; omega
    · exact Nat.gcd_pos_of_pos_left _ hx
  omega
theorem edge_steps_le {p q : Pt} (hp : farB p = false) (hq : farB q = false) (h : p ≠ q) : stepsI p q ≤ 2000 := by
  have a := near_in hp
  have b := near_in hq
  unfold stepsI stepsN
  have : ¬ (q.x = p.x ∧ q.z = p.z) := fun hh => h (by cases p; cases q; simp_all)
  rcases Nat.eq_zero_or_pos (q.x - p.x).natAbs with hx | hx
  · rw [hx, Nat.gcd_zero_left]; omega
  · have := Nat.gcd_le_left (q.z - p.z).natAbs hx
    omega

theorem whole_step {dx dz ux uz : Int} (hne : ¬ (dx = 0 ∧ dz = 0)) (h : dx * uz = dz * ux) :
    ∃ k : Int, ux = dx.tdiv (Nat.gcd dx.natAbs dz.natAbs : Nat) * k ∧ uz = dz.tdiv (Nat.gcd dx.natAbs dz.natAbs : Nat) * k := by
  have hg : 0 < Nat.gcd dx.natAbs dz.natAbs := by
    rcases Nat.eq_zero_or_pos dx.natAbs with hx | hx
    · rw [hx, Nat.gcd_zero_left]; omega
    · exact Nat.gcd_pos_of_pos_left _ hx
  have hgx : ((Nat.gcd dx.natAbs dz.natAbs : Nat) : Int) ∣ dx := Int.ofNat_dvd_left.2 (Nat.gcd_dvd_left _ _)
  have hgz : ((Nat.gcd dx.natAbs dz.natAbs : Nat) : Int) ∣ dz := Int.ofNat_dvd_left.2 (Nat.gcd_dvd_right _ _)
  have hco := coprime_parts (x := dx.natAbs) (z := dz.natAbs) hg
  generalize hgg : Nat.gcd dx.natAbs dz.natAbs = g at *
  obtain ⟨a, ha⟩ := hgx
  obtain ⟨b, hb⟩ := hgz
  have hg0 : (g : Int) ≠ 0 := by omega
  have e1 : dx.tdiv (g : Int) = a := by rw [ha]; exact Int.mul_tdiv_cancel_left _ hg0
  have e2 : dz.tdiv (g : Int) = b := by rw [hb]; exact Int.mul_tdiv_cancel_left _ hg0
  have f1 : dx.natAbs / g = a.natAbs := by
    rw [ha, Int.natAbs_mul, Int.natAbs_natCast]; exact Nat.mul_div_cancel_left _ (by omega)
  have f2 : dz.natAbs / g = b.natAbs := by
    rw [hb, Int.natAbs_mul, Int.natAbs_natCast]; exact Nat.mul_div_cancel_left _ (by omega)
  rw [f1, f2] at hco
  rw [e1, e2]
  have hk : a * uz = b * ux := by
    have : (g : Int) * (a * uz) = (g : Int) * (b * ux) := by
      rw [← Int.mul_assoc, ← Int.mul_assoc, ← ha, ← hb]; exact h
    exact Int.eq_of_mul_eq_mul_left hg0 this
  by_cases ha0 : a = 0
  · subst ha0
    rw [Int.natAbs_zero, Nat.coprime_zero_left] at hco
    have hbz : b = 1 ∨ b = -1 := by omega
    rw [Int.zero_mul] at hk
    rcases hbz with rfl | rfl
    · exact ⟨uz, by omega, by omega⟩
    · exact ⟨-uz, by omega, by omega⟩
  · have hd : a.natAbs ∣ ux.natAbs := by
      refine hco.dvd_of_dvd_mul_left ?_
      rw [← Int.natAbs_mul, ← hk, Int.natAbs_mul]
      exact Nat.dvd_mul_right _ _
    obtain ⟨k, hk2⟩ := Int.natAbs_dvd_natAbs.1 hd
    refine ⟨k, hk2, ?_⟩
    rw [hk2] at hk
    have : a * uz = a * (b * k) := by rw [hk]; grind
    exact Int.eq_of_mul_eq_mul_left ha0 this

theorem bp_eq {p q : Pt} (hp : farB p = false) (hq : farB q = false) (hne : p ≠ q) {k : Int} (h0 : 0 ≤ k) (h1 : k ≤ stepsI p q) :
    bpW p q k = ⟨p.x + (q.x - p.x).tdiv (stepsI p q) * k, p.z + (q.z - p.z).tdiv (stepsI p q) * k⟩ := by
  have hsub := near_sub hp hq
  have ha := near_in hp
  have hs := edge_steps_le hp hq hne
  have hqx : -2000 ≤ (q.x - p.x).tdiv (stepsI p q) ∧ (q.x - p.x).tdiv (stepsI p q) ≤ 2000 := by
    have := Int.natAbs_tdiv_le_natAbs (q.x - p.x) (stepsI p q)
    omega
  have hqz : -2000 ≤ (q.z - p.z).tdiv (stepsI p q) ∧ (q.z - p.z).tdiv (stepsI p q) ≤ 2000 := by
    have := Int.natAbs_tdiv_le_natAbs (q.z - p.z) (stepsI p q)
    omega
  obtain ⟨m1, m2⟩ := mul_bd hqx.1 hqx.2 (show -2000 ≤ k by omega) (show k ≤ 2000 by omega)
  obtain ⟨m3, m4⟩ := mul_bd hqz.1 hqz.2 (show -2000 ≤ k by omega) (show k ≤ 2000 by omega)
  unfold bpW
  rw [hsub.1]
  dsimp only
  rw [show W ((q.x - p.x).tdiv (stepsI p q)) = (q.x - p.x).tdiv (stepsI p q) from W_in (by omega) (by omega), show W ((q.z - p.z).tdiv (stepsI p q)) = (q.z - p.z).tdiv (stepsI p q) from W_in (by omega) (by omega),
    show W ((q.x - p.x).tdiv (stepsI p q) * k) = (q.x - p.x).tdiv (stepsI p q) * k from W_in (by omega) (by omega), show W ((q.z - p.z).tdiv (stepsI p q) * k) = (q.z - p.z).tdiv (stepsI p q) * k from W_in (by omega) (by omega)]
  rw [W_in (by omega) (by omega), W_in (by omega) (by omega)]
theorem step_mul (p q : Pt) : (q.x - p.x).tdiv (stepsI p q) * stepsI p q = q.x - p.x ∧ (q.z - p.z).tdiv (stepsI p q) * stepsI p q = q.z - p.z :=
  ⟨Int.tdiv_mul_cancel (Int.ofNat_dvd_left.2 (Nat.gcd_dvd_left _ _)), Int.tdiv_mul_cancel (Int.ofNat_dvd_left.2 (Nat.gcd_dvd_right _ _))⟩
/-- the points that the program names lie on the edge -/
theorem bp_on {p q : Pt} (hp : farB p = false) (hq : farB q = false) (hne : p ≠ q) {k : Int} (h0 : 0 ≤ k) (h1 : k < stepsI p q) : OnH (bpW p q k) p q (stepsI p q) k := by
  obtain ⟨e1, e2⟩ := step_mul p q
  refine ⟨edge_steps_pos hne, h0, h1, ?_, ?_⟩
  · rw [bp_eq hp hq hne h0 (by omega)]
    show stepsI p q * (p.x + (q.x - p.x).tdiv (stepsI p q) * k - p.x) = k * (q.x - p.x)
    rw [← e1]
    grind
  · rw [bp_eq hp hq hne h0 (by omega)]
    show stepsI p q * (p.z + (q.z - p.z).tdiv (stepsI p q) * k - p.z) = k * (q.z - p.z)
    rw [← e2]
    grind
theorem bp_inj {p q : Pt} (hp : farB p = false) (hq : farB q = false) (hne : p ≠ q) {j k : Int} (h0 : 0 ≤ j) (h1 : j ≤ stepsI p q) (h2 : 0 ≤ k) (h3 : k ≤ stepsI p q) (h : bpW p q j = bpW p q k) : j = k := by
  rw [bp_eq hp hq hne h0 h1, bp_eq hp hq hne h2 h3] at h
  obtain ⟨e1, e2⟩ := step_mul p q
  have hs := edge_steps_pos hne
  simp only [Pt.mk.injEq] at h
  have hx : (q.x - p.x).tdiv (stepsI p q) * j = (q.x - p.x).tdiv (stepsI p q) * k := by omega
  have hz : (q.z - p.z).tdiv (stepsI p q) * j = (q.z - p.z).tdiv (stepsI p q) * k := by omega
  by_cases h5 : (q.x - p.x).tdiv (stepsI p q) = 0
  · by_cases h6 : (q.z - p.z).tdiv (stepsI p q) = 0
    · exfalso
      rw [h5, Int.zero_mul] at e1
      rw [h6, Int.zero_mul] at e2
      apply hne
      cases p; cases q
      simp only [Pt.mk.injEq]
      dsimp only at e1 e2
      omega
    · exact Int.eq_of_mul_eq_mul_left h6 hz
  · exact Int.eq_of_mul_eq_mul_left h5 hx
/-- each whole point on the edge is one of them -/
theorem on_bp {p q x : Pt} (hp : farB p = false) (hq : farB q = false) (hne : p ≠ q) (h : OnS x p q) : ∃ k : Int, 0 ≤ k ∧ k < stepsI p q ∧ x = bpW p q k := by
  obtain ⟨D, t, h⟩ := h
  have hd : ¬ (q.x - p.x = 0 ∧ q.z - p.z = 0) := fun hh => hne (by cases p; cases q; simp only [Pt.mk.injEq]; dsimp only at hh; omega)
  have hc : (q.x - p.x) * (x.z - p.z) = (q.z - p.z) * (x.x - p.x) := by
    have := onS_side h
    unfold sideZ at this
    omega
  obtain ⟨k, k1, k2⟩ := whole_step hd hc
  have hs := edge_steps_pos hne
  have k1' : x.x - p.x = (q.x - p.x).tdiv (stepsI p q) * k := k1
  have k2' : x.z - p.z = (q.z - p.z).tdiv (stepsI p q) * k := k2
  obtain ⟨e1, e2⟩ := step_mul p q
  have hex := h.ex
  have hez := h.ez
  rw [k1', ← e1] at hex
  rw [k2', ← e2] at hez
  have hDk : D * k = t * stepsI p q := by
    by_cases h5 : (q.x - p.x).tdiv (stepsI p q) = 0
    · by_cases h6 : (q.z - p.z).tdiv (stepsI p q) = 0
      · exfalso
        rw [h5, Int.zero_mul] at e1
        rw [h6, Int.zero_mul] at e2
        exact hd ⟨e1.symm, e2.symm⟩
      · refine Int.eq_of_mul_eq_mul_left h6 ?_
        calc (q.z - p.z).tdiv (stepsI p q) * (D * k) = D * ((q.z - p.z).tdiv (stepsI p q) * k) := by grind
          _ = t * ((q.z - p.z).tdiv (stepsI p q) * stepsI p q) := by
            have e2' : (q.z - p.z).tdiv (stepsI p q) * stepsI p q = q.z - p.z := e2
            have := h.ez
            rw [k2'] at this
            rw [this, e2']
          _ = _ := by grind
    · refine Int.eq_of_mul_eq_mul_left h5 ?_
      calc (q.x - p.x).tdiv (stepsI p q) * (D * k) = D * ((q.x - p.x).tdiv (stepsI p q) * k) := by grind
        _ = t * ((q.x - p.x).tdiv (stepsI p q) * stepsI p q) := by
          have e1' : (q.x - p.x).tdiv (stepsI p q) * stepsI p q = q.x - p.x := e1
          have := h.ex
          rw [k1'] at this
          rw [this, e1']
        _ = _ := by grind
  have hk0 : 0 ≤ k := nonneg_of h.pos (by rw [hDk]; exact Int.mul_nonneg h.t0 (by omega))
  have hk1 : k < stepsI p q := Classical.byContradiction fun hn => by
    have a := Int.mul_le_mul_of_nonneg_left (show stepsI p q ≤ k by omega) (show 0 ≤ D by have := h.pos; omega)
    have b := Int.mul_lt_mul_of_pos_right h.t1 hs
    omega
  refine ⟨k, hk0, hk1, ?_⟩
  rw [bp_eq hp hq hne hk0 (by omega)]
  cases x
  simp only [Pt.mk.injEq]
  dsimp only at *
  omega

section
variable {l : List Pt} (g : Good l)
include g
/-- **the border points are what lies on an edge** -/
theorem Good.mem {x : Pt} : x ∈ borderL l ↔ farB x = false ∧ ∃ i, i < l.length ∧ BP l x i := by
  unfold borderL
  rw [List.mem_flatMap]
  constructor
  · rintro ⟨e, he, hx⟩
    obtain ⟨i, hi, rfl⟩ := List.getElem_of_mem he
    rw [edges_len'] at hi
    have hg := (List.getElem?_eq_some_iff.1 (edgesL_get hi)).2
    rw [hg] at hx
    unfold borderE at hx
    obtain ⟨k, hk, rfl⟩ := List.mem_map.1 hx
    rw [List.mem_range] at hk
    dsimp only at hk ⊢
    have hon := bp_on (g.far i) (g.far (i + 1)) (g.ne i) (k := (k : Int)) (by omega) (by unfold stepsI; omega)
    refine ⟨?_, i, hi, _, _, hon⟩
    have a := near_in (g.far i)
    have b := near_in (g.far (i + 1))
    obtain ⟨c1, c2⟩ := between2 hon.pos hon.t0 (by have := hon.t1; omega) hon.ex
    obtain ⟨c3, c4⟩ := between2 hon.pos hon.t0 (by have := hon.t1; omega) hon.ez
    unfold farB
    simp
    omega
  · rintro ⟨hf, i, hi, h⟩
    obtain ⟨k, k0, k1, rfl⟩ := on_bp (g.far i) (g.far (i + 1)) (g.ne i) h
    refine ⟨_, List.mem_of_getElem? (edgesL_get hi), ?_⟩
    unfold borderE
    refine List.mem_map.2 ⟨k.toNat, ?_, by rw [show ((k.toNat : Nat) : Int) = k from by omega]⟩
    rw [List.mem_range]
    show k.toNat < stepsN (cor l i) (cor l (i + 1))
    unfold stepsI at k1
    omega
theorem Good.mem_edge {x : Pt} : x ∈ borderL l ↔ 0 ≤ edgeI l x := by
  rw [g.mem]
  constructor
  · rintro ⟨hf, i, hi, h⟩
    rw [g.edge_at hf hi h]; omega
  · intro h
    obtain ⟨i, _, hi, hb, hf⟩ := g.edge h
    exact ⟨hf, i, hi, hb⟩
theorem Good.inside {x : Pt} (h : 0 ≤ edgeI l x) : 0 ≤ findI (eqB x) (borderL l) := by
  have hm := g.mem_edge.2 h
  unfold findI
  rw [if_pos (List.any_eq_true.2 ⟨x, hm, eqB_iff.2 rfl⟩)]
  omega
theorem Good.border_nodup : (borderL l).Nodup := by
  unfold borderL List.Nodup
  rw [List.pairwise_flatMap]
  refine ⟨fun e he => ?_, ?_⟩
  · obtain ⟨i, hi, rfl⟩ := List.getElem_of_mem he
    rw [edges_len'] at hi
    have hg := (List.getElem?_eq_some_iff.1 (edgesL_get hi)).2
    rw [hg]
    unfold borderE
    rw [List.pairwise_map]
    refine List.Pairwise.imp_of_mem ?_ List.pairwise_lt_range
    intro a b ha hb hab he
    rw [List.mem_range] at ha hb
    have := bp_inj (g.far i) (g.far (i + 1)) (g.ne i) (by omega) (by unfold stepsI; dsimp only at ha; omega) (by omega) (by unfold stepsI; dsimp only at hb; omega) he
    omega
  · rw [List.pairwise_iff_getElem]
    intro i j hi hj hij x hx y hy he
    subst he
    rw [edges_len'] at hi hj
    have hgi := (List.getElem?_eq_some_iff.1 (edgesL_get hi)).2
    have hgj := (List.getElem?_eq_some_iff.1 (edgesL_get hj)).2
    rw [hgi] at hx
    rw [hgj] at hy
    have hon : ∀ i, i < l.length → x ∈ borderE (cor l i, cor l (i + 1)) → BP l x i := fun i hi hx => by
      unfold borderE at hx
      obtain ⟨k, hk, rfl⟩ := List.mem_map.1 hx
      rw [List.mem_range] at hk
      exact ⟨_, _, bp_on (g.far i) (g.far (i + 1)) (g.ne i) (k := (k : Int)) (by omega) (by unfold stepsI; dsimp only at hk; omega)⟩
    have := g.uniq hi hj (hon i hi hx) (hon j hj hy)
    omega
end

/-! ### blows, two ways -/
theorem rtwice_eq (l : List Pt) : rtwice l = W (twiceZ l) := by
  have key : ∀ n, n ≤ l.length → rtwiceN l n = W (sumI n fun i => crossZ (cor l i) (cor l (i + 1))) := by
    intro n
    induction n with
    | zero => intro _; rfl
    | succ n ih =>
      intro hn
      rw [rtwiceN, ih (by omega), sumI_succ]
      have : rcrossW l (n : Int) = W (crossZ (cor l n) (cor l (n + 1))) := by
        unfold rcrossW crossZ
        rw [ptAt_cor (by omega), nextL_cor, W_sub, Int.mul_comm (cor l (n + 1)).x]
      rw [this, W_add]
  exact key _ (Nat.le_refl _)

theorem sumI_nn {n : Nat} {f : Nat → Int} (h : ∀ i, i < n → 0 ≤ f i) : 0 ≤ sumI n f := by
  induction n with
  | zero => exact Int.le_refl _
  | succ n ih =>
    rw [sumI_succ]
    have := ih (fun i hi => h i (by omega))
    have := h n (by omega)
    omega
theorem sumI_ge {n : Nat} {f : Nat → Int} (h : ∀ i, i < n → 0 ≤ f i) {k : Nat} (hk : k < n) : f k ≤ sumI n f := by
  induction n with
  | zero => omega
  | succ n ih =>
    rw [sumI_succ]
    have hn := h n (by omega)
    have hs := sumI_nn (n := n) (f := f) (fun i hi => h i (by omega))
    by_cases he : k = n
    · subst he; omega
    · have := ih (fun i hi => h i (by omega)) (by omega)
      omega
theorem sumI_le {n : Nat} {f : Nat → Int} {M : Int} (h : ∀ i, i < n → f i ≤ M) : sumI n f ≤ n * M := by
  induction n with
  | zero => rw [sumI_zero]; simp
  | succ n ih =>
    rw [sumI_succ]
    have a := ih (fun i hi => h i (by omega))
    have b := h n (by omega)
    have : ((n + 1 : Nat) : Int) * M = (n : Int) * M + M := by
      rw [Int.natCast_add, Int.add_mul]; simp
    omega
/-- twice the area, seen from any point -/
theorem twiceZ_from {l : List Pt} (h : 0 < l.length) (o : Pt) : twiceZ l = sumI l.length fun i => sideZ o (cor l i) (cor l (i + 1)) := by
  rw [← twiceZ_sub h o]
  unfold twiceZ
  rw [List.length_map]
  exact sumI_congr fun i _ => by rw [cor_map h, cor_map h, side_cross]

section
variable {l : List Pt} (g : Good l) {p q : Pt} {a m : Nat} {D s E t : Int} (c : Cut l p q a m D s E t)
include g c
/-- the arc of a cut, without its tests -/
theorem Good.arc : ∃ r, 1 ≤ r ∧ r ≤ l.length - m ∧ arcL l p q a m = (List.range r).map fun j => cor l (a + m + 1 + j) := by
  have m1 := c.m1
  have mn := c.mn
  have s0 := c.hp.t0
  have hpos : ∀ j, (j + 1 < l.length - m ∨ (j < l.length - m ∧ 0 < s)) → decide (0 < sideW p q (cor l (a + m + 1 + j))) = true := fun j hj => by
    rw [g.side c, decide_eq_true_eq, show a + m + 1 + j = a + (m + 1 + j) from by omega]
    refine g.left c _ (by omega) ?_
    by_cases h : m + 1 + j = l.length
    · exact .inr ⟨h, by omega⟩
    · exact .inl (by omega)
  unfold arcL
  by_cases hs : 0 < s
  · refine ⟨l.length - m, by omega, Nat.le_refl _, ?_⟩
    rw [List.filter_eq_self]
    intro x hx
    obtain ⟨j, hj, rfl⟩ := List.mem_map.1 hx
    rw [List.mem_range] at hj
    exact hpos j (.inr ⟨hj, hs⟩)
  · have hm : m + 1 ≠ l.length := fun h => hs (c.hs h)
    refine ⟨l.length - m - 1, by omega, by omega, ?_⟩
    rw [show l.length - m = (l.length - m - 1) + 1 from by omega, List.range_succ, List.map_append, List.filter_append]
    have h1 : ((List.range (l.length - m - 1)).map fun j => cor l (a + m + 1 + j)).filter (fun c => decide (0 < sideW p q c)) = (List.range (l.length - m - 1)).map fun j => cor l (a + m + 1 + j) := by
      rw [List.filter_eq_self]
      intro x hx
      obtain ⟨j, hj, rfl⟩ := List.mem_map.1 hx
      rw [List.mem_range] at hj
      exact hpos j (.inl (by omega))
    have h2 : (([l.length - m - 1].map fun j => cor l (a + m + 1 + j)).filter fun c => decide (0 < sideW p q c)) = [] := by
      have e : cor l (a + m + 1 + (l.length - m - 1)) = p := by
        rw [show a + m + 1 + (l.length - m - 1) = a + l.length from by omega]
        exact c.first (by omega)
      have hz : sideW p q p = 0 := by
        have := g.side c (a + l.length)
        rw [c.first (by omega), side_same3] at this
        exact this
      rw [List.map_cons, List.map_nil, e]
      simp [hz]
    rw [h1, h2, List.append_nil, show l.length - m - 1 + 1 - 1 = l.length - m - 1 from by omega]

/-- a part's area is positive -/
theorem Good.part_pos (h12 : l.length ≤ 12) : 1 ≤ twiceZ (p :: q :: arcL l p q a m) ∧ twiceZ (p :: q :: arcL l p q a m) ≤ 1000000000 := by
  obtain ⟨r, r1, rn, hr⟩ := g.arc c
  have m1 := c.m1
  have mn := c.mn
  have hlen : (p :: q :: arcL l p q a m).length = r + 2 := by rw [hr]; simp
  have hc0 : cor (p :: q :: arcL l p q a m) 0 = p := rfl
  have hc1 : cor (p :: q :: arcL l p q a m) 1 = q := by
    unfold cor
    rw [hlen, Nat.mod_eq_of_lt (by omega)]; rfl
  have hcj : ∀ j, j < r → cor (p :: q :: arcL l p q a m) (j + 2) = cor l (a + m + 1 + j) := fun j hj => by
    unfold cor
    rw [hlen, Nat.mod_eq_of_lt (by omega)]
    rw [hr]
    have : (p :: q :: (List.range r).map fun j => cor l (a + m + 1 + j)).getD (j + 2) default = ((List.range r).map fun j => cor l (a + m + 1 + j)).getD j default := rfl
    rw [this]
    simp [hj, cor]
  have hcl : cor (p :: q :: arcL l p q a m) (r + 2) = p := by
    have := cor_add (l := p :: q :: arcL l p q a m) 0
    rw [hlen, Nat.zero_add, hc0] at this
    exact this
  rw [twiceZ_from (by rw [hlen]; omega) p, hlen]
  have hnn : ∀ i, i < r + 2 → 0 ≤ sideZ p (cor (p :: q :: arcL l p q a m) i) (cor (p :: q :: arcL l p q a m) (i + 1)) := fun i hi => by
    rcases i with _ | _ | j
    · rw [hc0, side_same1]; omega
    · rw [hc1, hcj 0 (by omega), Nat.add_zero]
      have := g.left c (m + 1) (by omega) (by
        by_cases h : m + 1 = l.length
        · exact .inr ⟨h, c.hs h⟩
        · exact .inl (by omega))
      rw [show a + m + 1 = a + (m + 1) from by omega]
      omega
    · by_cases hj : j + 1 < r
      · rw [hcj j (by omega), hcj (j + 1) hj, side_cyc]
        exact edge_nn g.cvx g.len (a + m + 1 + j) c.hp
      · rw [show j + 1 + 1 + 1 = r + 2 from by omega, hcl, side_same3]; omega
  have h1 := sumI_ge hnn (k := 1) (by omega)
  rw [hc1, hcj 0 (by omega), Nat.add_zero] at h1
  have hp1 := g.left c (m + 1) (by omega) (by
    by_cases h : m + 1 = l.length
    · exact .inr ⟨h, c.hs h⟩
    · exact .inl (by omega))
  rw [show a + m + 1 = a + (m + 1) from by omega] at h1
  have hin : ∀ x ∈ p :: q :: arcL l p q a m, farB x = false := fun x hx => by
    rcases List.mem_cons.1 hx with rfl | hx
    · exact c.fp
    · rcases List.mem_cons.1 hx with rfl | hx
      · exact c.fq
      · rw [hr] at hx
        obtain ⟨j, _, rfl⟩ := List.mem_map.1 hx
        exact g.far _
  have hle : ∀ i, i < r + 2 → sideZ p (cor (p :: q :: arcL l p q a m) i) (cor (p :: q :: arcL l p q a m) (i + 1)) ≤ 8000000 := fun i _ => by
    have b1 := near_in (hin _ (cor_mem (by rw [hlen]; omega) i))
    have b2 := near_in (hin _ (cor_mem (by rw [hlen]; omega) (i + 1)))
    have b0 := near_in c.fp
    unfold sideZ
    obtain ⟨x1, x2⟩ := mul_bd (a := (cor (p :: q :: arcL l p q a m) i).x - p.x) (b := (cor (p :: q :: arcL l p q a m) (i + 1)).z - p.z) (m := 2000) (n := 2000) (by omega) (by omega) (by omega) (by omega)
    obtain ⟨x3, x4⟩ := mul_bd (a := (cor (p :: q :: arcL l p q a m) i).z - p.z) (b := (cor (p :: q :: arcL l p q a m) (i + 1)).x - p.x) (m := 2000) (n := 2000) (by omega) (by omega) (by omega) (by omega)
    omega
  exact ⟨by omega, by
    have := sumI_le hle
    omega⟩
end

/-- **the areas of the parts, two ways** -/
theorem Good.twice_part {l : List Pt} (g : Good l) (h12 : l.length ≤ 12) {p q : Pt} (hp : 0 ≤ edgeI l p) (hq : 0 ≤ edgeI l q) (hap : apartB l p q = true) :
    rtwice (leftL l p q) = twiceW (rightL l q p) ∧ 1 ≤ twiceW (rightL l q p) := by
  obtain ⟨a, m, D, s, E, t, c⟩ := g.cut hp hq hap
  have h1 := g.ll c
  have h2 := g.rl c
  have hrot : twiceZ (q :: (arcL l p q a m ++ [p])) = twiceZ (p :: q :: arcL l p q a m) := by
    have := twiceZ_rot (l := p :: q :: arcL l p q a m) (f := 1) (by simp)
    rw [← this]
    rfl
  obtain ⟨b1, b2⟩ := g.part_pos c h12
  rw [rtwice_eq, twice_eq, h1, h2, hrot]
  refine ⟨rfl, ?_⟩
  rw [W_in (by omega) (by omega)]
  exact b1

/-! ### what is sure -/
def partN (s : Stn) (p q : Pt) : Int := max (twiceW (rightL s.shape p q)) (twiceW (rightL s.shape q p))
def sureF (s : Stn) (p : Pt) (o : Int) (q : Pt) : Int := if (decide (o < 0) || decide (partN s p q < o)) = true then partN s p q else o
def sureN (s : Stn) (p : Pt) (l : List Pt) : Int := l.foldl (sureF s p) (-1)
def sureE (s : Stn) (p : Pt) (t : Int) : Int := if struckE s p t ≠ 0 then struckE s p t else if sureN s p (outcomesL s p t) < 0 then 8 else 0
def sureI (s : Stn) (p : Pt) (t : Int) : Int := if struckE s p t ≠ 0 then 0 else if sureN s p (outcomesL s p t) < 0 then 0 else sureN s p (outcomesL s p t)

theorem fold_same {β : Type} {f h : Int → β → Int} : ∀ (l : List β) (o : Int), (∀ q ∈ l, ∀ o, f o q = h o q) → l.foldl f o = l.foldl h o
  | [], _, _ => rfl
  | q :: r, o, hh => by
    rw [List.foldl_cons, List.foldl_cons, hh q (List.mem_cons_self ..)]
    exact fold_same r _ fun x hx => hh x (List.mem_cons_of_mem _ hx)
theorem fold_nn {s : Stn} {p : Pt} : ∀ (l : List Pt) (o : Int), (∀ q ∈ l, 0 ≤ partN s p q) → 0 ≤ o → 0 ≤ l.foldl (sureF s p) o
  | [], _, _, ho => ho
  | q :: r, o, hh, ho => by
    rw [List.foldl_cons]
    refine fold_nn r _ (fun x hx => hh x (List.mem_cons_of_mem _ hx)) ?_
    have := hh q (List.mem_cons_self ..)
    unfold sureF
    split <;> omega

section
variable {s : Stn} (g : Good s.shape) (h12 : s.shape.length ≤ 12) {p : Pt} (hp : 0 ≤ edgeI s.shape p) (t : Int)
include g
theorem Good.out_mem {q : Pt} (h : q ∈ outcomesL s p t) : 0 ≤ edgeI s.shape q ∧ apartB s.shape p q = true := by
  unfold outcomesL at h
  obtain ⟨h1, h2⟩ := List.mem_filter.1 h
  unfold outB at h2
  rw [Bool.and_eq_true] at h2
  refine ⟨g.mem_edge.1 ?_, h2.1⟩
  unfold rotB at h1
  rcases List.mem_append.1 h1 with h1 | h1
  · exact List.mem_of_mem_drop h1
  · exact List.mem_of_mem_take h1
include hp h12
theorem Good.part_eq {q : Pt} (h : q ∈ outcomesL s p t) : partN s p q = rpartN s p q ∧ 0 ≤ partN s p q := by
  obtain ⟨hq, hap⟩ := g.out_mem t h
  obtain ⟨a1, a2⟩ := g.twice_part h12 hp hq hap
  obtain ⟨b1, b2⟩ := g.twice_part h12 hq hp (by rw [apart_symm]; exact hap)
  unfold partN rpartN
  rw [a1, b1]
  omega
theorem Good.sure_eq : sureN s p (outcomesL s p t) = rsure s p (outcomesL s p t) ∧ (sureN s p (outcomesL s p t) < 0 ↔ outcomesL s p t = []) := by
  have hpe := fun q hq => g.part_eq h12 hp t (q := q) hq
  constructor
  · unfold sureN rsure
    refine fold_same _ _ fun q hq o => ?_
    unfold sureF rsureF
    rw [(hpe q hq).1]
  · unfold sureN
    cases hl : outcomesL s p t with
    | nil => simp
    | cons x r =>
      rw [hl] at hpe
      have h0 : 0 ≤ (x :: r).foldl (sureF s p) (-1) := by
        rw [List.foldl_cons]
        refine fold_nn r _ (fun y hy => (hpe y (List.mem_cons_of_mem _ hy)).2) ?_
        have := (hpe x (List.mem_cons_self ..)).2
        unfold sureF
        rw [if_pos (by rfl)]
        exact this
      constructor
      · intro h; omega
      · intro h; cases h
omit h12
theorem Good.outs_eq : routL s p t = outcomesL s p t := by
  have hbe := rborder_eq g.near
  have hn := g.border_nodup
  have hm := g.mem_edge.2 hp
  have hi := g.inside hp
  have hlt := findI_lt _ hi
  have hB : ∀ q ∈ borderL s.shape, routB s p t q = outB s p t q := fun q hq => by
    unfold routB outB
    rw [g.apart hp (g.mem_edge.1 hq)]
  obtain ⟨k, hk⟩ := Int.eq_ofNat_of_zero_le hi
  have hkl : k < (borderL s.shape).length := by omega
  have hkp : (borderL s.shape)[k] = p := by
    have hidx : (borderL s.shape).findIdx (eqB p) = k := by
      unfold findI at hk
      split at hk
      · omega
      · omega
    have hany : (borderL s.shape).findIdx (eqB p) < (borderL s.shape).length := by omega
    have := List.findIdx_getElem (w := hany)
    simp only [hidx] at this
    exact (eqB_iff.1 this).symm
  have hlast : rlastN (borderL s.shape) p (borderL s.shape).length = (k : Int) := by
    have test : ∀ i, i < (borderL s.shape).length → (eqB (ptAt (borderL s.shape) (i : Nat)) p = true ↔ i = k) := fun i hi2 => by
      have e : ptAt (borderL s.shape) (i : Nat) = (borderL s.shape)[i] := by unfold ptAt; simp [hi2]
      rw [eqB_iff, e]
      constructor
      · intro h
        unfold List.Nodup at hn
        rw [List.pairwise_iff_getElem] at hn
        rcases Nat.lt_trichotomy i k with h5 | h5 | h5
        · exact absurd (h.trans hkp.symm) (hn i k hi2 hkl h5)
        · exact h5
        · exact absurd (hkp.trans h.symm) (hn k i hkl hi2 h5)
      · rintro rfl; exact hkp
    have key : ∀ n, n ≤ (borderL s.shape).length → k < n → rlastN (borderL s.shape) p n = (k : Int) := by
      intro n
      induction n with
      | zero => intro _ h; omega
      | succ n ih =>
        intro h1 h2
        unfold rlastN
        by_cases h : n = k
        · rw [if_pos ((test n (by omega)).2 h), h]
        · rw [if_neg (fun hc => h ((test n (by omega)).1 hc))]
          exact ih (by omega) (by omega)
    exact key _ (Nat.le_refl _) hkl
  unfold routL routO outcomesL
  rw [hbe, hlast, hk]
  have hlist : ((List.range ((borderL s.shape).length - 1)).map fun (j : Nat) => routP (borderL s.shape) (k : Int) ((j : Int) + 1)) = rotB (borderL s.shape) (k : Int) := by
    have hlen := rotB_len (l := borderL s.shape) (i := (k : Int)) (by omega) (by omega)
    apply List.ext_getElem?
    intro i
    by_cases h1 : i < (borderL s.shape).length - 1
    · rw [List.getElem?_map, List.getElem?_range h1]
      simp only [Option.map_some]
      unfold routP
      rw [show ((k : Int) + ((i : Int) + 1)).tmod ((borderL s.shape).length : Int) = (((k + (i + 1)) % (borderL s.shape).length : Nat) : Int) from rfl]
      unfold rotB ptAt
      rw [Int.toNat_natCast, show ((k : Int) + 1).toNat = k + 1 from by omega, Int.toNat_natCast]
      by_cases hlt2 : k + (i + 1) < (borderL s.shape).length
      · rw [Nat.mod_eq_of_lt hlt2, List.getElem?_append_left (by simp; omega), List.getElem?_drop, show k + 1 + i = k + (i + 1) from by omega]
        simp [hlt2]
      · have he : (k + (i + 1)) % (borderL s.shape).length = k + (i + 1) - (borderL s.shape).length := by rw [Nat.mod_eq_sub_mod (by omega), Nat.mod_eq_of_lt (by omega)]
        rw [List.getElem?_append_right (by simp; omega), he, List.length_drop, List.getElem?_take, if_pos (by omega), show i - ((borderL s.shape).length - (k + 1)) = k + (i + 1) - (borderL s.shape).length from by omega]
        simp [show k + (i + 1) - (borderL s.shape).length < (borderL s.shape).length from by omega]
    · rw [List.getElem?_eq_none (by simp; omega), List.getElem?_eq_none (by omega)]
  rw [hlist]
  apply List.filter_congr
  intro q hq
  refine hB q ?_
  unfold rotB at hq
  rcases List.mem_append.1 hq with h1 | h1
  · exact List.mem_of_mem_drop h1
  · exact List.mem_of_mem_take h1
end

/-! ### the law's cases -/
theorem outs_one (s : Stn) (p : Pt) (t : Int) : ∀ a ∈ outVs s p t, a.length = 1 := fun a ha => by
  obtain ⟨e, _, rfl⟩ := List.mem_map.1 ha; rfl
theorem out_inv {s : Stn} {p : Pt} {t : Int} {n : Nat} {args : List Value} (h : (outVs s p t)[n]? = some args) : ∃ q, (outcomesL s p t)[n]? = some q ∧ args = [ptV q] := by
  rw [List.getElem?_map] at h
  cases he : (outcomesL s p t)[n]? with
  | none => rw [he] at h; cases h
  | some q => rw [he] at h; exact ⟨q, rfl, (Option.some.inj h).symm⟩
theorem struck_zero {s : Stn} {p : Pt} {t : Int} (h : struckE s p t = 0) : checkI s = 0 ∧ 0 ≤ edgeI s.shape p := by
  unfold struckE at h
  by_cases hk : checkI s = 0
  · rw [if_neg (fun hn => hn hk)] at h
    refine ⟨hk, ?_⟩
    by_cases he : edgeI s.shape p < 0
    · rw [if_pos he] at h; cases h
    · omega
  · rw [if_pos hk] at h; exact absurd h hk
theorem struck_in {s : Stn} {p : Pt} {t : Int} (h : struckE s p t = 0) : 0 ≤ findI (eqB p) (borderL s.shape) :=
  (good_of (struck_zero h).1).inside (struck_zero h).2
theorem sure_bad {s : Stn} {p : Pt} {t e : Int} (h : struckE s p t = e) (he : e ≠ 0) : sureE s p t = e ∧ sureI s p t = 0 ∧ outL s p t = [] := by
  unfold sureE sureI outL
  rw [h, if_pos he, if_pos he, if_neg he]
  exact ⟨rfl, rfl, rfl⟩
theorem sure_good {s : Stn} {p : Pt} {t : Int} (h : struckE s p t = 0) : outL s p t = routL s p t ∧ (routL s p t).length ≤ 24000 ∧
    (routL s p t = [] → sureE s p t = 8 ∧ sureI s p t = 0) ∧ (routL s p t ≠ [] → sureE s p t = 0 ∧ sureI s p t = rsure s p (routL s p t)) := by
  obtain ⟨hk, he⟩ := struck_zero h
  have g := good_of hk
  have hl := check_len hk
  have ho := g.outs_eq he t
  obtain ⟨s1, s2⟩ := g.sure_eq hl.2 he t
  have e1 : sureE s p t = if sureN s p (outcomesL s p t) < 0 then 8 else 0 := by unfold sureE; rw [h, if_neg (fun hn => hn rfl)]
  have e2 : sureI s p t = if sureN s p (outcomesL s p t) < 0 then 0 else sureN s p (outcomesL s p t) := by unfold sureI; rw [h, if_neg (fun hn => hn rfl)]
  have e3 : outL s p t = outcomesL s p t := by unfold outL; rw [h, if_pos rfl]
  rw [ho, e1, e2, e3]
  refine ⟨rfl, ?_, fun hz => ?_, fun hz => ?_⟩
  · have h1 := rotB_len (struck_in h) (findI_lt _ (struck_in h))
    have h2 := List.length_filter_le (outB s p t) (rotB (borderL s.shape) (findI (eqB p) (borderL s.shape)))
    have h3 := border_len g.near
    unfold outcomesL
    omega
  · rw [if_pos (s2.2 hz), if_pos (s2.2 hz)]
    exact ⟨rfl, rfl⟩
  · rw [if_neg (fun hn => hz (s2.1 hn)), if_neg (fun hn => hz (s2.1 hn))]
    exact ⟨rfl, s1⟩
theorem sure_neg {s : Stn} {p : Pt} {t : Int} (h : struckE s p t = 0) (hn : sureN s p (outcomesL s p t) < 0) : sureI s p t = 0 ∧ sureE s p t = 8 := by
  unfold sureE sureI
  rw [h]
  exact ⟨(if_neg (fun hn => hn rfl)).trans (if_pos hn), (if_neg (fun hn => hn rfl)).trans (if_pos hn)⟩
theorem sure_fin {s : Stn} {p : Pt} {t : Int} (h : struckE s p t = 0) (hn : ¬ sureN s p (outcomesL s p t) < 0) : sureI s p t = sureN s p (outcomesL s p t) ∧ sureE s p t = 0 := by
  unfold sureE sureI
  rw [h]
  exact ⟨(if_neg (fun hn => hn rfl)).trans (if_neg hn), (if_neg (fun hn => hn rfl)).trans (if_neg hn)⟩
theorem rvalid_pos {s : Stn} (h : rvalidB s = true) : 0 < s.shape.length := by
  have := check_len (s := s) (by rw [check_valid, if_pos h])
  omega
end Go.Stn
