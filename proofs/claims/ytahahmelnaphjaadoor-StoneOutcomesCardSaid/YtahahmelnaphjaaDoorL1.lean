/- Plain facts: whether a stone is valid, two ways. No statement of the seat is proved in this text. -/
import Derived.Test.YtahahmelnaphjaaDoorData
namespace Go.Stn
open Go Go.K Go.RowKit

theorem W_in {n : Int} (h1 : -9223372036854775808 ≤ n) (h2 : n ≤ 9223372036854775807) : W n = n := wrap64_in h1 h2

/-! ### names -/
theorem byteI_get {s : ByteArray} {p : Nat} (h : p < s.size) : byteI s (p : Int) = ((s.get! p).toNat : Int) := by
  unfold byteI
  have h1 : s[((p : Nat) : Int).toNat]? = some (s[p]'h) := by
    rw [show ((p : Nat) : Int).toNat = p from by omega]
    exact getElem?_pos s p h
  rw [h1]
  simp only [Option.getD_some]
  have h2 : s.get! p = s[p]'h := by
    cases s with
    | mk d =>
      simp only [ByteArray.get!]
      exact getElem!_pos d p h
  rw [h2]

theorem odd_low {n : Nat} : oddR (n : Int) = oddB (n : Int) := by
  unfold oddR oddB
  rw [Bool.eq_iff_iff]
  simp <;> omega
theorem odd_high {n : Int} (h : 128 ≤ n) : oddR n = true ∧ oddB n = true := by
  unfold oddR oddB
  simp
  omega

theorem idxRune_iff (s : ByteArray) : ∀ (m p : Nat), s.size - p = m → (0 ≤ idxRune oddR s p ↔ ∃ j, p ≤ j ∧ j < s.size ∧ oddB (byteI s (j : Nat)) = true) := by
  intro m
  induction m using Nat.strongRecOn with
  | _ m ih =>
    intro p hm
    by_cases hp : p < s.size
    · by_cases hlow : (s.get! p).toNat < 128
      · have hd := decode_low hlow
        have hb := byteI_get hp
        cases ho : oddB (byteI s (p : Int)) with
        | true =>
          rw [idxRune_hit hp (by rw [hd]; rw [hb] at ho; rw [odd_low]; exact ho)]
          exact ⟨fun _ => ⟨p, Nat.le_refl _, hp, ho⟩, fun _ => by omega⟩
        | false =>
          rw [idxRune_next hp (by rw [hd]; rw [hb] at ho; rw [odd_low]; exact ho), hd]
          rw [ih (s.size - (p + 1)) (by omega) (p + 1) rfl]
          constructor
          · rintro ⟨j, h1, h2, h3⟩; exact ⟨j, by omega, h2, h3⟩
          · rintro ⟨j, h1, h2, h3⟩
            refine ⟨j, ?_, h2, h3⟩
            by_cases hj : j = p
            · subst hj; rw [ho] at h3; cases h3
            · omega
      · have hd := decode_high hlow
        rw [idxRune_hit hp (odd_high (by omega)).1]
        refine ⟨fun _ => ⟨p, Nat.le_refl _, hp, ?_⟩, fun _ => by omega⟩
        rw [byteI_get hp]
        exact (odd_high (by omega)).2
    · rw [idxRune_end hp]
      refine ⟨fun h => by omega, ?_⟩
      rintro ⟨j, h1, h2, _⟩; omega

theorem named_eq (s : ByteArray) : namedB s = rnamedB s := by
  unfold namedB rnamedB
  have h := idxRune_iff s s.size 0 (by omega)
  have : (!decide (0 ≤ idxRune oddR s 0)) = allI s.size (fun i => !oddB (byteI s i)) := by
    rw [Bool.eq_iff_iff, allI_iff]
    simp only [Bool.not_eq_true', decide_eq_false_iff_not, h]
    constructor
    · intro hn i hi
      cases ho : oddB (byteI s (i : Int)) with
      | false => rfl
      | true => exact absurd ⟨i, Nat.zero_le _, hi, ho⟩ hn
    · rintro ha ⟨j, _, h2, h3⟩
      have := ha j h2
      rw [h3] at this; cases this
  rw [this, Bool.and_comm]

/-! ### points within range -/
def inR (b : Int) (p : Pt) : Prop := -b ≤ p.x ∧ p.x ≤ b ∧ -b ≤ p.z ∧ p.z ≤ b

theorem mul_bd {a b m n : Int} (h1 : -m ≤ a) (h2 : a ≤ m) (h3 : -n ≤ b) (h4 : b ≤ n) : -(m * n) ≤ a * b ∧ a * b ≤ m * n := by
  have hm : 0 ≤ m := by omega
  have hn : 0 ≤ n := by omega
  have h : a.natAbs * b.natAbs ≤ m.natAbs * n.natAbs := Nat.mul_le_mul (by omega) (by omega)
  have e1 : ((a * b).natAbs : Int) ≤ m * n := by
    rw [Int.natAbs_mul]
    have : ((m.natAbs * n.natAbs : Nat) : Int) = m * n := by rw [Int.natCast_mul, Int.natAbs_of_nonneg hm, Int.natAbs_of_nonneg hn]
    omega
  omega

def subZ (p q : Pt) : Pt := ⟨p.x - q.x, p.z - q.z⟩
def crossZ (p q : Pt) : Int := p.x * q.z - p.z * q.x
def dotZ (p q : Pt) : Int := p.x * q.x + p.z * q.z
def sideZ (p q r : Pt) : Int := (q.x - p.x) * (r.z - p.z) - (q.z - p.z) * (r.x - p.x)

theorem subW_eq {p q : Pt} {b : Int} (hb : b ≤ 1000000000) (hp : inR b p) (hq : inR b q) : subW p q = subZ p q := by
  unfold inR at hp hq
  unfold subW subZ
  rw [W_in (by omega) (by omega), W_in (by omega) (by omega)]
theorem subZ_in {p q : Pt} {b : Int} (hp : inR b p) (hq : inR b q) : inR (b + b) (subZ p q) := by
  unfold inR subZ at *
  dsimp only
  omega
theorem crossW_eq {p q : Pt} {b c : Int} (hb : b ≤ 1000000000) (hc : c ≤ 1000000000) (hp : inR b p) (hq : inR c q) : crossW p q = crossZ p q := by
  unfold inR at hp hq
  obtain ⟨a1, a2⟩ := mul_bd hp.1 hp.2.1 hq.2.2.1 hq.2.2.2
  obtain ⟨a3, a4⟩ := mul_bd hp.2.2.1 hp.2.2.2 hq.1 hq.2.1
  have hm : b * c ≤ 1000000000 * 1000000000 := Int.mul_le_mul hb hc (by omega) (by omega)
  unfold crossW crossZ
  rw [W_in (n := p.x * q.z) (by omega) (by omega), W_in (n := p.z * q.x) (by omega) (by omega), W_in (by omega) (by omega)]
theorem dotW_eq {p q : Pt} {b c : Int} (hb : b ≤ 1000000000) (hc : c ≤ 1000000000) (hp : inR b p) (hq : inR c q) : dotW p q = dotZ p q := by
  unfold inR at hp hq
  obtain ⟨a1, a2⟩ := mul_bd hp.1 hp.2.1 hq.1 hq.2.1
  obtain ⟨a3, a4⟩ := mul_bd hp.2.2.1 hp.2.2.2 hq.2.2.1 hq.2.2.2
  have hm : b * c ≤ 1000000000 * 1000000000 := Int.mul_le_mul hb hc (by omega) (by omega)
  unfold dotW dotZ
  rw [W_in (n := p.x * q.x) (by omega) (by omega), W_in (n := p.z * q.z) (by omega) (by omega), W_in (by omega) (by omega)]
theorem turn_ring (p q r : Pt) : crossZ (subZ q p) (subZ r q) = sideZ p q r := by
  unfold crossZ subZ sideZ
  dsimp only
  grind
theorem turnW_eq {p q r : Pt} {b : Int} (hb : b ≤ 100000000) (hp : inR b p) (hq : inR b q) (hr : inR b r) : turnW p q r = sideZ p q r := by
  unfold turnW
  rw [subW_eq (by omega) hq hp, subW_eq (by omega) hr hq, crossW_eq (b := b + b) (c := b + b) (by omega) (by omega) (subZ_in hq hp) (subZ_in hr hq), turn_ring]
theorem sideW_eq {p q r : Pt} {b : Int} (hb : b ≤ 100000000) (hp : inR b p) (hq : inR b q) (hr : inR b r) : sideW p q r = sideZ p q r := by
  unfold inR at hp hq hr
  unfold sideW sideZ
  have e1 : W (q.x - p.x) = q.x - p.x := W_in (by omega) (by omega)
  have e2 : W (r.z - p.z) = r.z - p.z := W_in (by omega) (by omega)
  have e3 : W (q.z - p.z) = q.z - p.z := W_in (by omega) (by omega)
  have e4 : W (r.x - p.x) = r.x - p.x := W_in (by omega) (by omega)
  rw [e1, e2, e3, e4]
  obtain ⟨a1, a2⟩ := mul_bd (a := q.x - p.x) (b := r.z - p.z) (m := b + b) (n := b + b) (by omega) (by omega) (by omega) (by omega)
  obtain ⟨a3, a4⟩ := mul_bd (a := q.z - p.z) (b := r.x - p.x) (m := b + b) (n := b + b) (by omega) (by omega) (by omega) (by omega)
  have hm : (b + b) * (b + b) ≤ 200000000 * 200000000 := Int.mul_le_mul (by omega) (by omega) (by omega) (by omega)
  rw [W_in (n := (q.x - p.x) * (r.z - p.z)) (by omega) (by omega), W_in (n := (q.z - p.z) * (r.x - p.x)) (by omega) (by omega), W_in (by omega) (by omega)]
theorem side_cyc (p q r : Pt) : sideZ p q r = sideZ q r p := by
  unfold sideZ
  grind

theorem far_in {p : Pt} (h : farB p = false) : 0 ≤ p.x ∧ p.x ≤ 2000 ∧ 0 ≤ p.z ∧ p.z ≤ 2000 := by
  unfold farB at h
  simp at h
  omega
theorem near {l : List Pt} (h : l.any farB = false) {p : Pt} (hp : p ∈ l) : farB p = false := by
  cases hf : farB p with
  | false => rfl
  | true => rw [List.any_eq_true.2 ⟨p, hp, hf⟩] at h; cases h

/-- corner number i, counted round and round -/
def cor (l : List Pt) (i : Nat) : Pt := l.getD (i % l.length) default

theorem cor_mem {l : List Pt} (h : 0 < l.length) (i : Nat) : cor l i ∈ l := by
  have : i % l.length < l.length := Nat.mod_lt _ h
  unfold cor
  simp [this]
theorem atL_cor {l : List Pt} {i : Int} {n : Nat} (h : i + (l.length : Int) = (n : Int)) : atL l i = cor l n := by
  unfold atL cor
  rw [h]
  rfl
theorem nextL_cor {l : List Pt} (i : Nat) : nextL l (i : Int) = cor l (i + 1) := by
  unfold nextL cor
  rfl
theorem ptAt_cor {l : List Pt} {i : Nat} (h : i < l.length) : ptAt l (i : Int) = cor l i := by
  unfold ptAt cor
  rw [Nat.mod_eq_of_lt h]
  rfl
theorem cor_add {l : List Pt} (i : Nat) : cor l (i + l.length) = cor l i := by
  unfold cor
  rw [Nat.add_mod_right]

/-- all other corners lie to the left of each edge -/
def Cvx (l : List Pt) : Prop := ∀ i k, i < l.length → 2 ≤ k → k < l.length → 0 < sideZ (cor l i) (cor l (i + 1)) (cor l (i + k))

theorem cor_in {l : List Pt} (hf : l.any farB = false) (h : 0 < l.length) (i : Nat) : inR 2000 (cor l i) := by
  have := far_in (near hf (cor_mem h i))
  unfold inR
  omega

theorem convex_iff {l : List Pt} (hf : l.any farB = false) (h3 : 3 ≤ l.length) (h12 : l.length ≤ 12) : convexB l = true ↔ Cvx l := by
  have hin := cor_in hf (by omega)
  have e1 : ∀ i : Nat, i < l.length → cvx1 l i = decide (0 < sideZ (cor l (i + (l.length - 1))) (cor l i) (cor l (i + 1))) := fun i hi => by
    unfold cvx1
    rw [atL_cor (n := i + (l.length - 1)) (by omega), ptAt_cor hi, atL_cor (i := (i : Int) + 1) (n := i + 1 + l.length) (by omega), cor_add]
    rw [turnW_eq (b := 2000) (by omega) (hin _) (hin _) (hin _)]
  have e2 : ∀ i k : Nat, i < l.length → cvx2 l i (k : Nat) = decide (0 < sideZ (cor l i) (cor l (i + 1)) (cor l (i + k))) := fun i k hi => by
    unfold cvx2
    rw [ptAt_cor hi, atL_cor (i := (i : Int) + 1) (n := i + 1 + l.length) (by omega), atL_cor (n := i + k + l.length) (by omega), cor_add, cor_add]
    rw [turnW_eq (b := 2000) (by omega) (hin _) (hin _) (hin _)]
  unfold convexB
  rw [decide_eq_true (by omega), decide_eq_true (by omega), Bool.and_self, Bool.true_and, allI_iff]
  constructor
  · intro h i k hi hk2 hk
    have hi2 := h i hi
    unfold cvxI at hi2
    rw [Bool.and_eq_true, allI_iff] at hi2
    by_cases hkn : k = l.length - 1
    · have := hi2.1
      rw [e1 i hi, decide_eq_true_eq, side_cyc] at this
      rw [hkn]
      exact this
    · have := hi2.2 (k - 2) (by omega)
      rw [show k - 2 + 2 = k from by omega, e2 i k hi, decide_eq_true_eq] at this
      exact this
  · intro h i hi
    unfold cvxI
    rw [Bool.and_eq_true, allI_iff]
    refine ⟨?_, fun k hk => ?_⟩
    · rw [e1 i hi, decide_eq_true_eq, side_cyc]
      exact h i (l.length - 1) hi (by omega) (by omega)
    · rw [e2 i (k + 2) hi, decide_eq_true_eq]
      exact h i (k + 2) hi (by omega) (by omega)

theorem rconvex_iff {l : List Pt} (hf : l.any farB = false) (h3 : 3 ≤ l.length) (h12 : l.length ≤ 12) : rconvexB l = true ↔ Cvx l := by
  have hin := cor_in hf (by omega)
  have e1 : ∀ i k : Nat, i < l.length → k < l.length → (rcv l i k = true ↔ (k = i ∨ k = (i + 1) % l.length ∨ 0 < sideZ (cor l i) (cor l (i + 1)) (cor l k))) := fun i k hi hk => by
    unfold rcv
    rw [ptAt_cor hi, nextL_cor, ptAt_cor hk, sideW_eq (b := 2000) (by omega) (hin _) (hin _) (hin _)]
    have e : ((i : Int) + 1).tmod (l.length : Int) = (((i + 1) % l.length : Nat) : Int) := rfl
    rw [e]
    simp only [Bool.or_eq_true, Bool.not_eq_true', Bool.and_eq_false_iff, Bool.not_eq_false', decide_eq_true_eq]
    omega
  unfold rconvexB
  have hz : (decide ((l.length : Int) < 3) || decide (12 < (l.length : Int))) = false := by
    rw [decide_eq_false (by omega), decide_eq_false (by omega)]; rfl
  rw [hz, Bool.not_false, Bool.true_and, allI_iff]
  unfold rcvI
  simp only [allI_iff]
  constructor
  · intro h i k hi hk2 hk
    have hlt : (i + k) % l.length < l.length := Nat.mod_lt _ (by omega)
    have := (e1 i ((i + k) % l.length) hi hlt).1 (h i hi _ hlt)
    have hc : cor l ((i + k) % l.length) = cor l (i + k) := by unfold cor; rw [Nat.mod_mod]
    rw [hc] at this
    rcases this with h1 | h1 | h1
    · exfalso
      rcases Nat.lt_or_ge (i + k) l.length with g | g
      · rw [Nat.mod_eq_of_lt g] at h1; omega
      · rw [Nat.mod_eq_sub_mod g, Nat.mod_eq_of_lt (by omega)] at h1; omega
    · exfalso
      rcases Nat.lt_or_ge (i + k) l.length with g | g
      · rw [Nat.mod_eq_of_lt g, Nat.mod_eq_of_lt (by omega)] at h1; omega
      · rw [Nat.mod_eq_sub_mod g, Nat.mod_eq_of_lt (by omega)] at h1
        rcases Nat.lt_or_ge (i + 1) l.length with g' | g'
        · rw [Nat.mod_eq_of_lt g'] at h1; omega
        · rw [Nat.mod_eq_sub_mod g', Nat.mod_eq_of_lt (by omega)] at h1; omega
    · exact h1
  · intro h i hi k hk
    rw [e1 i k hi hk]
    by_cases h1 : k = i
    · exact .inl h1
    · by_cases h2 : k = (i + 1) % l.length
      · exact .inr (.inl h2)
      · refine .inr (.inr ?_)
        rcases Nat.lt_or_ge i k with g | g
        · have : 2 ≤ k - i := by
            rw [Nat.mod_eq_of_lt (by omega)] at h2; omega
          have := h i (k - i) hi this (by omega)
          rwa [show i + (k - i) = k from by omega] at this
        · have h4 : 2 ≤ k + l.length - i := by
            rcases Nat.lt_or_ge (i + 1) l.length with g' | g'
            · omega
            · rw [Nat.mod_eq_sub_mod g', Nat.mod_eq_of_lt (by omega)] at h2; omega
          have := h i (k + l.length - i) hi h4 (by omega)
          rw [show i + (k + l.length - i) = k + l.length from by omega, cor_add] at this
          exact this

theorem convex_eq {l : List Pt} (hf : l.any farB = false) : convexB l = rconvexB l := by
  by_cases h : 3 ≤ l.length ∧ l.length ≤ 12
  · rw [Bool.eq_iff_iff, convex_iff hf h.1 h.2, rconvex_iff hf h.1 h.2]
  · have e1 : convexB l = false := by
      refine convex_no ?_
      rw [Bool.not_eq_true']
      by_cases h1 : 3 ≤ l.length
      · rw [decide_eq_false (p := (l.length : Int) ≤ 12) (by omega), Bool.and_false]
      · rw [decide_eq_false (p := 3 ≤ (l.length : Int)) (by omega), Bool.false_and]
    have e2 : rconvexB l = false := by
      refine rconvex_no ?_
      by_cases h1 : 3 ≤ l.length
      · rw [decide_eq_true (p := 12 < (l.length : Int)) (by omega), Bool.or_true]
      · rw [decide_eq_true (p := (l.length : Int) < 3) (by omega), Bool.true_or]
    rw [e1, e2]

/-! ### the lowest corner -/
def Lo (p q : Pt) : Prop := p.z < q.z ∨ (p.z = q.z ∧ p.x < q.x)
instance (p q : Pt) : Decidable (Lo p q) := by unfold Lo; exact inferInstance

theorem lower_lt {p q : Pt} : lowerW p q < 0 ↔ Lo p q := by
  unfold lowerW cmpI Lo
  simp only [orI]
  repeat' split
  all_goals omega
theorem Lo.trans {p q r : Pt} (h : Lo p q) (k : Lo q r) : Lo p r := by
  unfold Lo at *; omega
theorem Lo.irrefl {p : Pt} : ¬ Lo p p := by
  unfold Lo; omega
theorem Lo.total {p q : Pt} (h : ¬ Lo p q) (k : ¬ Lo q p) : p = q := by
  cases p; cases q
  unfold Lo at *
  simp only [Pt.mk.injEq]
  dsimp only at *
  omega
theorem Lo.of_not {p q r : Pt} (h : Lo p q) (k : ¬ Lo r q) : Lo p r := by
  unfold Lo at *; omega

theorem rfirst_test {p q : Pt} : (decide (p.z < q.z) || (decide (p.z = q.z) && decide (p.x < q.x))) = true ↔ Lo p q := by
  unfold Lo; simp

/-- the index of the first one of the lowest -/
theorem rfirstN_spec (l : List Pt) : ∀ n, n ≤ l.length → 0 < n → ∃ m : Nat, rfirstN l n = (m : Int) ∧ m < n ∧ (∀ j, j < n → ¬ Lo (l.getD j default) (l.getD m default)) ∧ ∀ j, j < m → Lo (l.getD m default) (l.getD j default) := by
  intro n
  induction n with
  | zero => intro _ h; omega
  | succ n ih =>
    intro hn _
    rw [rfirstN]
    by_cases h0 : n = 0
    · subst h0
      refine ⟨0, ?_, by omega, fun j hj => ?_, fun j hj => by omega⟩
      · simp [rfirstN]
      · have : j = 0 := by omega
        subst this; exact Lo.irrefl
    · obtain ⟨m, h1, h2, h3, h4⟩ := ih (by omega) (by omega)
      rw [h1]
      by_cases hlo : Lo (l.getD n default) (l.getD m default)
      · rw [if_pos (rfirst_test.2 (by simpa [ptAt] using hlo))]
        refine ⟨n, rfl, by omega, fun j hj => ?_, fun j hj => ?_⟩
        · by_cases hjn : j = n
          · subst hjn; exact Lo.irrefl
          · exact fun h => h3 j (by omega) (h.trans hlo)
        · exact hlo.of_not (h3 j hj)
      · rw [if_neg (fun h => hlo (by simpa [ptAt] using rfirst_test.1 h))]
        refine ⟨m, rfl, by omega, fun j hj => ?_, h4⟩
        by_cases hjn : j = n
        · subst hjn; exact hlo
        · exact h3 j (by omega)

theorem rfirst_spec {l : List Pt} (h : 0 < l.length) : ∃ m : Nat, rfirst l = (m : Int) ∧ m < l.length ∧ (∀ j, j < l.length → ¬ Lo (l.getD j default) (l.getD m default)) ∧ ∀ j, j < m → Lo (l.getD m default) (l.getD j default) :=
  rfirstN_spec l l.length (Nat.le_refl _) h

theorem minF_spec {l : List Pt} (h : 0 < l.length) : minF lowerW l ∈ l ∧ ∀ p ∈ l, ¬ Lo p (minF lowerW l) := by
  have key : ∀ (r : List Pt) (m : Pt), let x := r.foldl (fun m p => if lowerW p m < 0 then p else m) m; (x = m ∨ x ∈ r) ∧ ¬ Lo m x ∧ ∀ p ∈ r, ¬ Lo p x := by
    intro r
    induction r with
    | nil => intro m; exact ⟨.inl rfl, Lo.irrefl, fun p hp => by cases hp⟩
    | cons q r ih =>
      intro m
      simp only [List.foldl_cons]
      obtain ⟨h1, h2, h3⟩ := ih (if lowerW q m < 0 then q else m)
      by_cases hq : lowerW q m < 0
      · simp only [if_pos hq] at h1 h2 h3 ⊢
        have hlo := lower_lt.1 hq
        refine ⟨?_, fun hm => h2 ?_, fun p hp => ?_⟩
        · rcases h1 with h1 | h1
          · exact .inr (by rw [h1]; exact List.mem_cons_self ..)
          · exact .inr (List.mem_cons_of_mem _ h1)
        · exact hlo.trans hm
        · rcases List.mem_cons.1 hp with rfl | hp
          · exact h2
          · exact h3 p hp
      · simp only [if_neg hq] at h1 h2 h3 ⊢
        have hlo : ¬ Lo q m := fun h => hq (lower_lt.2 h)
        refine ⟨?_, h2, fun p hp => ?_⟩
        · rcases h1 with h1 | h1
          · exact .inl h1
          · exact .inr (List.mem_cons_of_mem _ h1)
        · rcases List.mem_cons.1 hp with rfl | hp
          · exact fun hpx => (by
              by_cases hmx : Lo p m
              · exact hlo hmx
              · exact h2 ((Classical.byContradiction fun hn => by
                  have := Lo.of_not hpx hn
                  exact hmx this) ))
          · exact h3 p hp
  cases l with
  | nil => simp at h
  | cons q r =>
    have := key r q
    unfold minF
    simp only [List.drop_succ_cons, List.drop_zero, List.getD_cons_zero]
    obtain ⟨h1, h2, h3⟩ := this
    refine ⟨?_, fun p hp => ?_⟩
    · rcases h1 with h1 | h1
      · rw [h1]; exact List.mem_cons_self ..
      · exact List.mem_cons_of_mem _ h1
    · rcases List.mem_cons.1 hp with rfl | hp
      · exact h2
      · exact h3 p hp

theorem getD_mem {l : List Pt} {i : Nat} (h : i < l.length) : l.getD i default ∈ l := by simp [h]

theorem minF_first {l : List Pt} (h : 0 < l.length) : ∃ m : Nat, rfirst l = (m : Int) ∧ m < l.length ∧ minF lowerW l = l.getD m default ∧ ∀ j, j < m → l.getD j default ≠ l.getD m default := by
  obtain ⟨m, h1, h2, h3, h4⟩ := rfirst_spec h
  obtain ⟨g1, g2⟩ := minF_spec h
  refine ⟨m, h1, h2, Lo.total (fun hl => ?_) (g2 _ (getD_mem h2)), fun j hj he => Lo.irrefl (he ▸ h4 j hj)⟩
  obtain ⟨j, hj, he⟩ := List.getElem_of_mem g1
  refine h3 j hj ?_
  rw [show l.getD j default = minF lowerW l from by simp [hj, he]]
  exact hl

theorem first_zero {l : List Pt} (h : 0 < l.length) : rfirst l = 0 ↔ minF lowerW l = l.getD 0 default := by
  obtain ⟨m, h1, h2, h3, h4⟩ := minF_first h
  rw [h1, h3]
  constructor
  · intro hm
    have : m = 0 := by omega
    rw [this]
  · intro hm
    have : ¬ 0 < m := fun h0 => h4 0 h0 hm.symm
    omega

theorem pt_eq {p q : Pt} : (decide (p.x = q.x) && decide (p.z = q.z)) = decide (p = q) := by
  cases p; cases q
  rw [Bool.eq_iff_iff]
  simp

theorem placed_eq (l : List Pt) : placedB l = rplacedB l := by
  cases hf : l.any farB with
  | true =>
    have e1 : placedB l = false := placed_no (by rw [hf]; rfl)
    obtain ⟨p, hp, hpf⟩ := List.any_eq_true.1 hf
    obtain ⟨i, hi, rfl⟩ := List.getElem_of_mem hp
    have e2 : rplacedB l = false := rplaced_no (i := (i : Int)) (by omega) (by omega) (by simpa [hi] using hpf)
    rw [e1, e2]
  | false =>
    have hall : allI l.length (fun i => !farB (l.getD i default)) = true := allI_true fun i hi => by
      rw [near hf (getD_mem hi)]; rfl
    unfold placedB rplacedB
    rw [hf, hall, Bool.false_or, Bool.not_not, Bool.true_and, convex_eq hf]
    cases hc : rconvexB l with
    | false => rfl
    | true =>
      have hpos := rconvex_pos hc
      rw [pt_eq]
      simp only [Bool.true_and]
      congr 1
      rw [Bool.eq_iff_iff, decide_eq_true_eq, decide_eq_true_eq, first_zero hpos]

theorem grained_eq (s : Stn) : grainedB s = ((((!decide (s.grain.x = 0)) || (!decide (s.grain.z = 0))) && (decide (-100 ≤ s.grain.x) && decide (s.grain.x ≤ 100))) && (decide (-100 ≤ s.grain.z) && decide (s.grain.z ≤ 100))) := by
  unfold grainedB
  rw [Bool.not_and]

/-- **the program's answer on a stone is the document's** -/
theorem check_valid (s : Stn) : checkI s = if rvalidB s = true then 0 else 2 := by
  have : badB s = !rvalidB s := by
    unfold badB rvalidB
    rw [named_eq, placed_eq, grained_eq]
    cases rnamedB s.name <;> cases rplacedB s.shape <;> simp [Bool.and_assoc, Bool.or_assoc]
  unfold checkI
  rw [this]
  cases rvalidB s <;> rfl
end Go.Stn
