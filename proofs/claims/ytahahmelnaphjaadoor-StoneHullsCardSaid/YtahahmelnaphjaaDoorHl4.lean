/- What the proof of the root text leans on, part 4: the layer, plain facts and walks. No statement of the seat is proved in this text. -/
import Derived.Shelf.SlSortCmp.NoneTotal
import Derived.Test.YtahahmelnaphjaaDoorHl3
namespace Go.Stn
open Go Go.K Go.RowKit
def rfarW (p q : Pt) : Int := W (W (W (p.x - q.x) * W (p.x - q.x)) + W (W (p.z - q.z) * W (p.z - q.z)))
def scanB (p q r : Pt) : Bool := ((decide (q.x = p.x) && decide (q.z = p.z)) || decide (sideW p q r < 0)) || (decide (sideW p q r = 0) && decide (rfarW p q < rfarW p r))
def scanF (p q r : Pt) : Pt := if scanB p q r = true then r else q
def scanN (l : List Pt) (p : Pt) (n : Nat) : Pt := (l.take n).foldl (scanF p) p
def farZ (p q : Pt) : Int := (p.x - q.x) * (p.x - q.x) + (p.z - q.z) * (p.z - q.z)
theorem rfar_eq {p q : Pt} (hp : inR 2000 p) (hq : inR 2000 q) : rfarW p q = farZ p q := by
  unfold inR at hp hq
  unfold rfarW farZ
  rw [show W (p.x - q.x) = p.x - q.x from W_in (by omega) (by omega), show W (p.z - q.z) = p.z - q.z from W_in (by omega) (by omega)]
  obtain ⟨a1, a2⟩ := mul_bd (a := p.x - q.x) (b := p.x - q.x) (m := 4000) (n := 4000) (by omega) (by omega) (by omega) (by omega)
  obtain ⟨b1, b2⟩ := mul_bd (a := p.z - q.z) (b := p.z - q.z) (m := 4000) (n := 4000) (by omega) (by omega) (by omega) (by omega)
  rw [show W ((p.x - q.x) * (p.x - q.x)) = (p.x - q.x) * (p.x - q.x) from W_in (by omega) (by omega), show W ((p.z - q.z) * (p.z - q.z)) = (p.z - q.z) * (p.z - q.z) from W_in (by omega) (by omega), W_in (by omega) (by omega)]
/-- in line behind p, and no corner: nearer than the corner -/
theorem nearer {m p q n r : Pt} (hpq : p ≠ q) (hrp : r ≠ p) (hrq : r ≠ q) (h0 : sideZ p q r = 0) (hm : 0 < sideZ m p q) (hm2 : 0 ≤ sideZ m p r) (hn : 0 < sideZ p q n) (hn2 : 0 ≤ sideZ q n r) : farZ p r < farZ p q := by
  have hD := dot_pos hpq
  have id1 : dotZ (subZ q p) (subZ q p) * sideZ m p r = dotZ (subZ r p) (subZ q p) * sideZ m p q + sideZ p q r * ((p.x - m.x) * (q.x - p.x) + (p.z - m.z) * (q.z - p.z)) := by unfold dotZ subZ sideZ; dsimp only; grind
  have id2 : dotZ (subZ q p) (subZ q p) * sideZ q n r = (dotZ (subZ q p) (subZ q p) - dotZ (subZ r p) (subZ q p)) * sideZ p q n + sideZ p q r * ((n.x - q.x) * (q.x - p.x) + (n.z - q.z) * (q.z - p.z)) := by unfold dotZ subZ sideZ; dsimp only; grind
  have id3 : dotZ (subZ r p) (subZ q p) * dotZ (subZ r p) (subZ q p) = farZ p r * dotZ (subZ q p) (subZ q p) - sideZ p q r * sideZ p q r := by unfold dotZ subZ sideZ farZ; dsimp only; grind
  have id4 : farZ p q = dotZ (subZ q p) (subZ q p) := by unfold dotZ subZ farZ; dsimp only; grind
  have ex : dotZ (subZ q p) (subZ q p) * (r.x - p.x) = dotZ (subZ r p) (subZ q p) * (q.x - p.x) - (q.z - p.z) * sideZ p q r := (onH_id p q r).1
  have ez : dotZ (subZ q p) (subZ q p) * (r.z - p.z) = dotZ (subZ r p) (subZ q p) * (q.z - p.z) + (q.x - p.x) * sideZ p q r := by unfold dotZ subZ sideZ; dsimp only; grind
  rw [h0, Int.zero_mul, Int.add_zero] at id1 id2
  rw [h0, Int.zero_mul, Int.sub_zero] at id3
  rw [h0, Int.mul_zero, Int.sub_zero] at ex
  rw [h0, Int.mul_zero, Int.add_zero] at ez
  rw [id4]
  generalize dotZ (subZ q p) (subZ q p) = D at *
  generalize dotZ (subZ r p) (subZ q p) = t at *
  have t0 : 0 ≤ t := by
    refine Classical.byContradiction fun h => ?_
    have a1 := Int.mul_nonneg (Int.le_of_lt hD) hm2
    have a2 := Int.mul_pos (show 0 < -t by omega) hm
    have e : -t * sideZ m p q = -(t * sideZ m p q) := by grind
    omega
  have tn0 : t ≠ 0 := fun h => by
    rw [h, Int.zero_mul] at ex ez
    have z1 := mul_zero_of hD ex
    have z2 := mul_zero_of hD ez
    apply hrp
    cases r; cases p
    simp only [Pt.mk.injEq]
    dsimp only at z1 z2
    omega
  have tD : t ≤ D := by
    refine Classical.byContradiction fun h => ?_
    have a1 := Int.mul_nonneg (Int.le_of_lt hD) hn2
    have a2 := Int.mul_pos (show 0 < t - D by omega) hn
    have e : (t - D) * sideZ p q n = -((D - t) * sideZ p q n) := by grind
    omega
  have tnD : t ≠ D := fun h => by
    rw [h] at ex ez
    have z1 : r.x - p.x = q.x - p.x := Int.eq_of_mul_eq_mul_left (by omega) ex
    have z2 : r.z - p.z = q.z - p.z := Int.eq_of_mul_eq_mul_left (by omega) ez
    apply hrq
    cases r; cases q
    simp only [Pt.mk.injEq]
    dsimp only at z1 z2
    omega
  have b1 := Int.mul_pos (show 0 < t by omega) (show 0 < D - t by omega)
  refine Classical.byContradiction fun h => ?_
  have b2 := Int.mul_nonneg (show 0 ≤ farZ p r - D by omega) (Int.le_of_lt hD)
  have b3 := Int.mul_pos (show 0 < D by omega) (show 0 < D - t by omega)
  have e1 : t * (D - t) = t * D - t * t := by grind
  have e2 : (farZ p r - D) * D = farZ p r * D - D * D := by grind
  have e3 : D * (D - t) = D * D - t * D := by grind
  omega
theorem scan_one {l : List Pt} {m p q n : Pt} (hl : ∀ x ∈ l, inR 2000 x) (hp : inR 2000 p) (hq : q ∈ l) (hpq : p ≠ q) (h1 : ∀ r ∈ l, 0 ≤ sideZ p q r) (hm : 0 < sideZ m p q) (hm2 : ∀ r ∈ l, 0 ≤ sideZ m p r) (hn : 0 < sideZ p q n) (hn2 : ∀ r ∈ l, 0 ≤ sideZ q n r) :
    l.foldl (scanF p) p = q := by
  have hin : inR 2000 q := hl q hq
  have near : ∀ r ∈ l, r ≠ p → r ≠ q → sideZ p q r = 0 → farZ p r < farZ p q := fun r hr a b h0 => nearer hpq a b h0 hm (hm2 r hr) hn (hn2 r hr)
  have stay : ∀ r ∈ l, scanF p q r = q := fun r hr => by
    unfold scanF
    rw [if_neg]
    unfold scanB
    rw [sideW_eq (b := 2000) (by decide) hp hin (hl r hr), rfar_eq hp hin, rfar_eq hp (hl r hr)]
    have hne : ¬ (q.x = p.x ∧ q.z = p.z) := fun h => hpq (by cases p; cases q; simp only [Pt.mk.injEq]; dsimp only at h; omega)
    have h2 := h1 r hr
    simp only [Bool.or_eq_true, Bool.and_eq_true, decide_eq_true_eq, not_or, not_and]
    refine ⟨⟨fun a b => hne ⟨a, b⟩, by omega⟩, fun h0 => ?_⟩
    by_cases hrp : r = p
    · subst hrp
      have e : farZ r r = 0 := by unfold farZ; grind
      have e2 : farZ r q = dotZ (subZ q r) (subZ q r) := by unfold farZ dotZ subZ; dsimp only; grind
      have := dot_pos hpq
      omega
    · by_cases hrq : r = q
      · subst hrq; omega
      · have := near r hr hrp hrq h0; omega
  have take : ∀ x, (x = p ∨ x ∈ l) → x ≠ q → scanF p x q = q := fun x hx hxq => by
    unfold scanF
    by_cases hxp : x = p
    · subst hxp
      rw [if_pos]
      unfold scanB
      simp
    · have hxl : x ∈ l := hx.resolve_left hxp
      rw [if_pos]
      unfold scanB
      rw [sideW_eq (b := 2000) (by decide) hp (hl x hxl) hin, rfar_eq hp (hl x hxl), rfar_eq hp hin]
      have h2 := h1 x hxl
      have h3 : sideZ p x q = -sideZ p q x := side_swap _ _ _
      simp only [Bool.or_eq_true, Bool.and_eq_true, decide_eq_true_eq]
      rcases Int.lt_or_eq_of_le h2 with h | h
      · exact .inl (.inr (by omega))
      · exact .inr ⟨by omega, near x hxl hxp hxq h.symm⟩
  have key : ∀ (r : List Pt) (x : Pt), (∀ y ∈ r, y ∈ l) → (x = p ∨ x ∈ l) → (x = q ∨ q ∈ r) → r.foldl (scanF p) x = q := by
    intro r
    induction r with
    | nil => intro x _ _ h; exact h.resolve_right (by simp)
    | cons y r ih =>
      intro x hr hx h
      rw [List.foldl_cons]
      have hy := hr y (List.mem_cons_self ..)
      have hr' : ∀ z ∈ r, z ∈ l := fun z hz => hr z (List.mem_cons_of_mem _ hz)
      by_cases hxq : x = q
      · rw [hxq, stay y hy]
        exact ih q hr' (.inr hq) (.inl rfl)
      · by_cases hyq : y = q
        · rw [hyq, take x hx hxq]
          exact ih q hr' (.inr hq) (.inl rfl)
        · have hq2 : q ∈ r := by
            rcases List.mem_cons.1 (h.resolve_left hxq) with h | h
            · exact absurd h.symm hyq
            · exact h
          refine ih _ hr' ?_ (.inr hq2)
          unfold scanF
          split
          · exact .inr hy
          · exact hx
  exact key l p (fun _ h => h) (.inl rfl) (.inr hq)
/-- **once round: each corner's next one is found; no corner comes twice** -/
structure Wrap (l F : List Pt) : Prop where
  len : 4 ≤ F.length
  next : ∀ i, i + 1 < F.length → l.foldl (scanF (gD F i)) (gD F i) = gD F (i + 1)
  new : ∀ i j, i < j → j + 1 < F.length → gD F i ≠ gD F j
  round : gD F (F.length - 1) = gD F 0
  mem : ∀ i, i < F.length → gD F i ∈ l
  first : ∀ x ∈ l, x = gD F 0 ∨ Lo (gD F 0) x
theorem wrap_of {l R hl hu : List Pt} {r0 rt : Pt} (t : Two R r0 rt hl hu) (hm : ∀ x, x ∈ R ↔ x ∈ l) (hin : ∀ x ∈ l, inR 2000 x) (hf : ¬ FlatL R) : Wrap l (joinL hl hu) := by
  have hlen := t.len_round hf
  refine ⟨hlen, fun i hi => ?_, fun i j hij hj => t.inj hf hij hj, t.final.trans t.first.symm, fun i hi => (hm _).1 (t.memJ hi), fun x hx => ?_⟩
  · obtain ⟨e1, e2⟩ := t.edge hi
    have hpi : inR 2000 (gD (joinL hl hu) i) := hin _ ((hm _).1 (t.memJ (by omega)))
    -- the corner before, the corner behind
    obtain ⟨m, m1, m2⟩ : ∃ m, 0 < sideZ m (gD (joinL hl hu) i) (gD (joinL hl hu) (i + 1)) ∧ ∀ q ∈ R, 0 ≤ sideZ m (gD (joinL hl hu) i) q := by
      by_cases h0 : i = 0
      · subst h0
        have h1 := t.turn0 hf
        have h2 := (t.edge (i := (joinL hl hu).length - 2) (by omega)).1
        rw [show (joinL hl hu).length - 2 + 1 = (joinL hl hu).length - 1 from by omega, t.final] at h2
        exact ⟨_, by rw [t.first]; exact h1, by rw [t.first]; exact h2⟩
      · obtain ⟨k, rfl⟩ : ∃ k, i = k + 1 := ⟨i - 1, by omega⟩
        exact ⟨_, t.turn hf (i := k) (by omega), (t.edge (i := k) (by omega)).1⟩
    obtain ⟨n, n1, n2⟩ : ∃ n, 0 < sideZ (gD (joinL hl hu) i) (gD (joinL hl hu) (i + 1)) n ∧ ∀ q ∈ R, 0 ≤ sideZ (gD (joinL hl hu) (i + 1)) n q := by
      by_cases h0 : i + 2 < (joinL hl hu).length
      · exact ⟨_, t.turn hf h0, (t.edge (i := i + 1) (by omega)).1⟩
      · have h1 := t.turn0 hf
        have h2 := (t.edge (i := 0) (by omega)).1
        rw [t.first] at h2
        have e : i = (joinL hl hu).length - 2 := by omega
        have e3 : i + 1 = (joinL hl hu).length - 1 := by omega
        refine ⟨gD (joinL hl hu) 1, ?_, ?_⟩
        · rw [e3, t.final, e]; exact h1
        · rw [e3, t.final]; exact h2
    exact scan_one hin hpi ((hm _).1 (t.memJ hi)) e2 (fun r hr => e1 r ((hm r).2 hr)) m1 (fun r hr => m2 r ((hm r).2 hr)) n1 (fun r hr => n2 r ((hm r).2 hr))
  · rw [t.first]
    exact t.low x ((hm x).2 hx)
end Go.Stn

namespace Go.Stn
open Go Go.K Go.RowKit
def farX (p : Pt) : Bool := !(decide (-2000 ≤ p.x) && decide (p.x ≤ 2000)) || !(decide (-2000 ≤ p.z) && decide (p.z ≤ 2000))
def sortL (l : List Pt) : List Pt := l.mergeSort fun x y => !(decide (lowerW y x < 0))
theorem sort_perm (l : List Pt) : (sortL l).Perm l := List.mergeSort_perm l _
theorem sort_len (l : List Pt) : (sortL l).length = l.length := (sort_perm l).length_eq
theorem sort_le (l : List Pt) : (sortL l).Pairwise fun x y => ¬ Lo y x := by
  have h := List.pairwise_mergeSort (le := fun x y : Pt => !(decide (lowerW y x < 0))) (fun a b c h1 h2 => by
    simp only [Bool.not_eq_true', decide_eq_false_iff_not, lower_lt] at h1 h2 ⊢
    unfold Lo at *
    omega) (fun a b => by
    simp only [Bool.or_eq_true, Bool.not_eq_true', decide_eq_false_iff_not, lower_lt]
    unfold Lo
    omega) l
  refine h.imp fun {a b} hab => ?_
  simpa only [Bool.not_eq_true', decide_eq_false_iff_not, lower_lt] using hab
def compL (l : List Pt) : List Pt := l.foldl (fun o p => if o.getLast? = some p then o else o ++ [p]) []
theorem comp_snoc (u : List Pt) (p : Pt) : compL (u ++ [p]) = if (compL u).getLast? = some p then compL u else compL u ++ [p] := by
  unfold compL
  rw [List.foldl_append]; rfl
theorem list_snoc {P : List Pt → Prop} (h0 : P []) (h1 : ∀ u p, P u → P (u ++ [p])) (l : List Pt) : P l := by
  have : ∀ r : List Pt, P r.reverse := fun r => by
    induction r with
    | nil => exact h0
    | cons a r ih => rw [List.reverse_cons]; exact h1 _ _ ih
  have h := this l.reverse
  rwa [List.reverse_reverse] at h
theorem comp_last (l : List Pt) : (compL l).getLast? = l.getLast? := by
  refine list_snoc (P := fun l => (compL l).getLast? = l.getLast?) rfl (fun u p _ => ?_) l
  rw [comp_snoc]
  split
  · rename_i h; rw [h]; simp
  · simp
theorem comp_mem (l : List Pt) : ∀ x, x ∈ compL l ↔ x ∈ l := by
  refine list_snoc (P := fun l => ∀ x, x ∈ compL l ↔ x ∈ l) (fun x => Iff.rfl) (fun u p ih x => ?_) l
  rw [comp_snoc]
  split
  · rename_i h
    have hp : p ∈ compL u := List.mem_of_getLast? h
    rw [ih] at hp ⊢
    simp only [List.mem_append, List.mem_singleton]
    exact ⟨.inl, fun h => h.elim id fun h => h ▸ hp⟩
  · simp only [List.mem_append, List.mem_singleton, ih]
theorem comp_len (l : List Pt) : (compL l).length ≤ l.length := by
  refine list_snoc (P := fun l => (compL l).length ≤ l.length) (Nat.le_refl _) (fun u p ih => ?_) l
  rw [comp_snoc]
  split <;> simp <;> omega
theorem comp_lo (l : List Pt) : (l.Pairwise fun x y => ¬ Lo y x) → (compL l).Pairwise Lo := by
  refine list_snoc (P := fun l => (l.Pairwise fun x y => ¬ Lo y x) → (compL l).Pairwise Lo) (fun _ => .nil) (fun u p ih h => ?_) l
  rw [List.pairwise_append] at h
  have hu := ih h.1
  rw [comp_snoc]
  split
  · exact hu
  · rename_i hl
    rw [List.pairwise_append]
    refine ⟨hu, List.pairwise_singleton .., fun x hx y hy => ?_⟩
    rw [List.mem_singleton] at hy
    subst hy
    have hx' := h.2.2 x ((comp_mem u x).1 hx) y (List.mem_singleton.2 rfl)
    rcases Classical.em (x = y) with he | he
    · subst he
      cases hc : (compL u).getLast? with
      | none => rw [List.getLast?_eq_none_iff] at hc; rw [hc] at hx; cases hx
      | some e =>
        have he : e ∈ compL u := List.mem_of_getLast? hc
        have hne : x ≠ e := fun h => hl (by rw [hc, h])
        obtain ⟨r, hr⟩ := List.getLast?_eq_some_iff.1 hc
        rw [hr, List.mem_append, List.mem_singleton] at hx
        rw [hr, List.pairwise_append] at hu
        rcases hx with hx | hx
        · exact absurd (hu.2.2 x hx e (List.mem_singleton.2 rfl)) (h.2.2 e ((comp_mem u e).1 he) x (List.mem_singleton.2 rfl))
        · exact absurd hx hne
    · rcases lo_ord.tot x y he with h1 | h1
      · exact h1
      · exact absurd h1 hx'
theorem take_last {l : List Pt} {n : Nat} (h0 : 0 < n) (h1 : n ≤ l.length) : (l.take n).getLast? = some (l.getD (n - 1) default) := by
  rw [List.getLast?_eq_getElem?, List.length_take, Nat.min_eq_left h1, List.getElem?_take, if_pos (by omega), List.getD_eq_getElem?_getD, List.getElem?_eq_getElem (by omega)]; rfl
theorem comp_take {l : List Pt} {n : Nat} (h0 : 0 < n) (h1 : n < l.length) :
    compL (l.take (n + 1)) = if l.getD n default = l.getD (n - 1) default then compL (l.take n) else compL (l.take n) ++ [l.getD n default] := by
  have : l.take (n + 1) = l.take n ++ [l.getD n default] := by
    rw [List.take_add_one, List.getElem?_eq_getElem h1, List.getD_eq_getElem?_getD, List.getElem?_eq_getElem h1]; rfl
  rw [this, comp_snoc, comp_last, take_last h0 (by omega)]
  simp only [Option.some.injEq]
  by_cases h : l.getD n default = l.getD (n - 1) default
  · rw [if_pos h, if_pos h.symm]
  · rw [if_neg h, if_neg fun he => h he.symm]
theorem comp_one {l : List Pt} (h : l.length < 2) : compL l = l := by
  match l, h with
  | [], _ => rfl
  | [a], _ => rfl
def compZ (l : List Pt) : List Pt := compL l ++ List.replicate (l.length - (compL l).length) ⟨0, 0⟩
/-- compacting, first loop: nothing is left out -/
structure CmpS (l : List Pt) (k : Int) : Prop where
  k1 : 1 ≤ k
  kl : k ≤ (l.length : Int)
  same : compL (l.take k.toNat) = l.take k.toNat
theorem cmp_s0 {l : List Pt} (h : ¬ (l.length : Int) < 2) : CmpS l 1 :=
  ⟨by omega, by omega, comp_one (by simp; omega)⟩
theorem CmpS.keep {l : List Pt} {k : Int} (h : CmpS l k) (hk : k < (l.length : Int)) (hne : l.getD k.toNat default ≠ l.getD (k - 1).toNat default) : CmpS l (k + 1) := by
  have h1 := h.k1
  refine ⟨by omega, by omega, ?_⟩
  rw [show (k + 1).toNat = k.toNat + 1 from by omega, comp_take (by omega) (by omega), show k.toNat - 1 = (k - 1).toNat from by omega, if_neg hne, h.same]
  rw [List.take_add_one, List.getElem?_eq_getElem (by omega), List.getD_eq_getElem?_getD, List.getElem?_eq_getElem (by omega)]; rfl
theorem CmpS.done {l : List Pt} {k : Int} (h : CmpS l k) (hk : ¬ k < (l.length : Int)) : compL l = l := by
  have h2 := h.kl
  have := h.same
  rwa [List.take_of_length_le (by omega)] at this
/-- second loop: behind the first that was seen twice -/
structure CmpI (l m : List Pt) (K k j : Int) : Prop where
  K1 : 1 ≤ K
  Kk : K ≤ k
  kj : k < K + j
  j1 : 1 ≤ j
  jl : K + j ≤ (l.length : Int)
  len : m.length = l.length
  front : m.take k.toNat = compL (l.take (K + j).toNat)
  back : m.drop (K + j - 1).toNat = l.drop (K + j - 1).toNat
theorem CmpS.turn {l : List Pt} {K : Int} (h : CmpS l K) (hk : K < (l.length : Int)) (he : l.getD K.toNat default = l.getD (K - 1).toNat default) : CmpI l l K K 1 := by
  have h1 := h.k1
  refine ⟨h1, by omega, by omega, by omega, by omega, rfl, ?_, rfl⟩
  rw [show (K + 1).toNat = K.toNat + 1 from by omega, comp_take (by omega) (by omega), show K.toNat - 1 = (K - 1).toNat from by omega, if_pos he, h.same]
theorem CmpI.at_ {l m : List Pt} {K k j : Int} (h : CmpI l m K k j) (i : Nat) (hi : K + j - 1 ≤ (i : Int)) : m.getD i default = l.getD i default := by
  have h1 := h.K1; have h2 := h.j1
  have := congrArg (fun x => x.getD (i - (K + j - 1).toNat) default) h.back
  simp only [List.getD_eq_getElem?_getD, List.getElem?_drop, show (K + j - 1).toNat + (i - (K + j - 1).toNat) = i from by omega] at this
  simpa [List.getD_eq_getElem?_getD] using this
theorem drop_getD (m : List Pt) (a b : Nat) : (m.drop a).getD b default = m.getD (a + b) default := by
  rw [List.getD_eq_getElem?_getD, List.getElem?_drop, List.getD_eq_getElem?_getD]
theorem CmpI.skip {l m : List Pt} {K k j : Int} (h : CmpI l m K k j) (hj : K + j < (l.length : Int)) (he : (m.drop K.toNat).getD j.toNat default = (m.drop K.toNat).getD (j - 1).toNat default) : CmpI l m K k (j + 1) := by
  have h1 := h.K1; have h2 := h.j1; have h3 := h.kj; have h4 := h.Kk
  rw [drop_getD, drop_getD, h.at_ _ (by omega), h.at_ _ (by omega)] at he
  refine ⟨h1, h4, by omega, by omega, by omega, h.len, ?_, ?_⟩
  · rw [h.front, show (K + (j + 1)).toNat = (K + j).toNat + 1 from by omega, comp_take (by omega) (by omega), if_pos]
    rw [show (K + j).toNat = K.toNat + j.toNat from by omega, show K.toNat + j.toNat - 1 = K.toNat + (j - 1).toNat from by omega]
    exact he
  · have := congrArg (List.drop 1) h.back
    rw [List.drop_drop, List.drop_drop] at this
    rw [show (K + (j + 1) - 1).toNat = (K + j - 1).toNat + 1 from by omega]
    exact this
theorem CmpI.keep {l m : List Pt} {K k j : Int} (h : CmpI l m K k j) (hj : K + j < (l.length : Int)) (he : (m.drop K.toNat).getD j.toNat default ≠ (m.drop K.toNat).getD (j - 1).toNat default) :
    CmpI l (m.set k.toNat ((m.drop K.toNat).getD j.toNat default)) K (k + 1) (j + 1) := by
  have h1 := h.K1; have h2 := h.j1; have h3 := h.kj; have h4 := h.Kk; have h5 := h.len
  have ev : (m.drop K.toNat).getD j.toNat default = l.getD (K.toNat + j.toNat) default := by rw [drop_getD, h.at_ _ (by omega)]
  rw [drop_getD m K.toNat (j - 1).toNat, h.at_ (K.toNat + (j - 1).toNat) (by omega), ev] at he
  rw [ev]
  have hk : k.toNat < m.length := by omega
  refine ⟨h1, by omega, by omega, by omega, by omega, by simp [h5], ?_, ?_⟩
  · rw [show (K + (j + 1)).toNat = (K + j).toNat + 1 from by omega, comp_take (by omega) (by omega), show (K + j).toNat = K.toNat + j.toNat from by omega,
      show K.toNat + j.toNat - 1 = K.toNat + (j - 1).toNat from by omega, if_neg he, ← show (K + j).toNat = K.toNat + j.toNat from by omega, ← h.front, show (k + 1).toNat = k.toNat + 1 from by omega]
    rw [List.take_add_one, List.take_set, List.getElem?_set_self hk]
    rw [List.set_eq_of_length_le (by simp; omega)]; rfl
  · rw [List.drop_set, if_pos (by omega)]
    have := congrArg (List.drop 1) h.back
    rw [List.drop_drop, List.drop_drop] at this
    rw [show (K + (j + 1) - 1).toNat = (K + j - 1).toNat + 1 from by omega]
    exact this
theorem CmpI.done {l m : List Pt} {K k j : Int} (h : CmpI l m K k j) (hj : ¬ K + j < (l.length : Int)) : m.take k.toNat = compL l ∧ k.toNat = (compL l).length ∧ k ≤ (l.length : Int) := by
  have h1 := h.K1; have h2 := h.j1; have h3 := h.kj; have h4 := h.Kk; have h5 := h.len; have h6 := h.jl
  have hf := h.front
  rw [List.take_of_length_le (l := l) (by omega)] at hf
  refine ⟨hf, ?_, by omega⟩
  rw [← hf, List.length_take]; omega
def addW : List Pt → Pt → List Pt
  | b :: a :: r, p => if turnW a b p ≤ 0 then addW (a :: r) p else p :: b :: a :: r
  | S, p => p :: S
theorem addW_len (p : Pt) : ∀ S, (addW S p).length ≤ S.length + 1
  | [] => Nat.le_refl _
  | [a] => Nat.le_refl _
  | b :: a :: r => by
    unfold addW
    split
    · have := addW_len p (a :: r); simp at this ⊢; omega
    · simp
theorem addW_head (p : Pt) : ∀ S, (addW S p).head? = some p
  | [] => rfl
  | [a] => rfl
  | b :: a :: r => by
    unfold addW
    split
    · exact addW_head p (a :: r)
    · rfl
def restL (l : List Pt) : List Pt := compL (sortL l)
def lowW (R : List Pt) : List Pt := R.foldl addW []
def backF (R : List Pt) (S : List Pt) (p : Pt) : List Pt := if (decide (1 < R.length) && !eqB p (R.getD (R.length - 1) default)) = true then addW S p else S
def backW (R : List Pt) (n : Nat) : List Pt := (R.reverse.take n).foldl (backF R) (lowW R).head?.toList
def chainW (R : List Pt) (n : Nat) : List Pt := (lowW R).reverse.dropLast ++ (backW R n).reverse
theorem fold_len (F : List Pt → Pt → List Pt) (hF : ∀ S p, (F S p).length ≤ S.length + 1) : ∀ (R S : List Pt), (R.foldl F S).length ≤ S.length + R.length
  | [], S => Nat.le_refl _
  | p :: R, S => by
    have h1 := fold_len F hF R (F S p)
    have h2 := hF S p
    simp only [List.foldl_cons, List.length_cons]
    omega
theorem lowW_len (R : List Pt) : (lowW R).length ≤ R.length := by
  have := fold_len addW (fun S p => addW_len p S) R []
  simpa [lowW] using this
theorem backF_len (R S : List Pt) (p : Pt) : (backF R S p).length ≤ S.length + 1 := by
  unfold backF
  split
  · exact addW_len p S
  · omega
theorem backW_len (R : List Pt) (n : Nat) : (backW R n).length ≤ 1 + R.length := by
  have h := fold_len (backF R) (backF_len R) (R.reverse.take n) (lowW R).head?.toList
  have h2 : (R.reverse.take n).length ≤ R.length := by simp; omega
  have h3 : (lowW R).head?.toList.length ≤ 1 := by cases (lowW R).head? <;> simp
  unfold backW
  omega
theorem chainW_zero (R : List Pt) : chainW R 0 = (lowW R).reverse := by
  unfold chainW backW
  cases lowW R with
  | nil => rfl
  | cons a r => simp
theorem chainW_len (R : List Pt) (n : Nat) : (chainW R n).length ≤ 2 * R.length + 1 := by
  have h1 := lowW_len R
  have h2 := backW_len R n
  unfold chainW
  simp
  omega
def hullC (l : List Pt) : List Pt := chainW (restL l) (restL l).length
def hullO (l : List Pt) : List Pt := settledW (hullC l).dropLast
def hullE (l : List Pt) : Int := if l.any farX = true then 3 else if ((hullC l).length : Int) < 4 then 2 else if (decide (12 < ((hullO l).length : Int)) || decide (2000 < max (mostL (hullO l)).x (mostL (hullO l)).z)) = true then 5 else 0
def hullL (l : List Pt) : List Pt := if hullE l = 0 then hullO l else []
theorem restL_len (l : List Pt) : (restL l).length ≤ l.length := by
  have := comp_len (sortL l)
  rw [sort_len] at this
  exact this
end Go.Stn

namespace Go.Proofs.YtahahmelnaphjaaDoor
open Go.K Go.Stn Go.RowKit
theorem en101 : En Tryd.prog 101 := en_of Tryd.func101 (by kernel_rfl) (by kernel_rfl)
theorem pt_ext {p q : Pt} (h1 : p.x = q.x) (h2 : p.z = q.z) : p = q := by cases p; cases q; cases h1; cases h2; rfl
theorem ones_get {l : List Pt} {i : Int} (h0 : 0 ≤ i) (h1 : i < (l.length : Int)) : (l.map onePt)[i.toNat]? = some [ptV (l.getD i.toNat default)] := by
  rw [List.getElem?_map, List.getElem?_eq_getElem (by omega), List.getD_eq_getElem?_getD, List.getElem?_eq_getElem (by omega)]; rfl
def backVs (l : List Pt) : List (List Value) := (List.range l.length).map fun n : Nat => [.int .i64 ((l.length : Int) - 1 - (n : Int)), ptV (l.reverse.getD n default)]
theorem back_len (l : List Pt) : (backVs l).length = l.length := by simp [backVs]
theorem back_two (l : List Pt) : ∀ a ∈ backVs l, a.length = 2 := fun a ha => by
  obtain ⟨e, _, rfl⟩ := List.mem_map.1 ha; rfl
theorem back_inv {l : List Pt} {n : Nat} {args : List Value} (h : (backVs l)[n]? = some args) : n < l.length ∧ args = [.int .i64 ((l.length : Int) - 1 - (n : Int)), ptV (l.reverse.getD n default)] := by
  unfold backVs at h
  rw [List.getElem?_map] at h
  cases he : (List.range l.length)[n]? with
  | none => rw [he] at h; cases h
  | some e =>
    rw [he] at h
    obtain ⟨h1, h2⟩ := List.getElem?_eq_some_iff.1 he
    rw [List.length_range] at h1
    rw [List.getElem_range] at h2
    subst h2
    exact ⟨h1, by simpa using h.symm⟩
theorem back_get {l : List Pt} {i : Int} (h0 : 0 ≤ i) (h1 : i < (l.length : Int)) : (backVs l)[((l.length : Int) - 1 - i).toNat]? = some [.int .i64 i, ptV (l.getD i.toNat default)] := by
  unfold backVs
  rw [List.getElem?_map, List.getElem?_range (by omega)]
  simp only [Option.map_some, Option.some.injEq, List.cons.injEq, and_true]
  refine ⟨congrArg _ (by omega), ?_⟩
  rw [List.getD_eq_getElem?_getD, List.getD_eq_getElem?_getD, List.getElem?_reverse (by omega), show l.length - 1 - ((l.length : Int) - 1 - i).toNat = i.toNat from by omega]
set_option maxRecDepth 100000 in
set_option maxHeartbeats 1000000 in
theorem values_c (a : Option Addr) (cap : Nat) (l : List Pt) (w : World)  :
    Calls Tryd.prog 105 #[.slice a l.length cap] w (Gives (fun b : Nat => .func (.func 129) #[] #[.pointer (some ⟨b, 0, none⟩)]) (fun b => Box b [.slice a l.length cap] 31) w) := by
  refine calls_of_gk (vs := [_]) Tryd.func105 rfl rfl (Nat.le_of_ble_eq_true rfl) ?_
  refine gk_seq ?_
  refine gk_region ?_
  refine gk_yx rfl rfl (yx_box (vs := [_]) rfl rfl) fun b1 => ?_
  refine gk_y rfl rfl (y_assign rfl) ?_
  refine gk_nil (gk_sub (T' := [(1,_), (2,_)]) ⟨rfl, rfl, trivial⟩ ?_)
  refine gk_seq ?_
  refine gk_region ?_
  refine gk_y rfl rfl (y_makeFunc («as» := []) (bs := [_]) rfl rfl) ?_
  refine gk_y rfl rfl (y_assign rfl) ?_
  refine gk_nil (gk_sub (T' := [(2,_)]) ⟨rfl, trivial⟩ ?_)
  refine gk_ret ?_
  refine gk_gives b1 0 (rv_one rfl (r1_tmp rfl)) ?_ rfl
  rfl
set_option maxRecDepth 100000 in
set_option maxHeartbeats 1000000 in
theorem values1_c (a : Option Addr) (cap : Nat) (l : List Pt) (b : Nat) (hs : Small l.length) :
    SeqC Tryd.prog 129 [.pointer (some ⟨b, 0, none⟩)] (l.map onePt) (fun w => Has w (Box b [.slice a l.length cap] 31) ∧ Has w (Pts a l)) := by
  intro X J Rl D y w B x0 hB hA h0 hM hy
  refine calls_of_gkB hB hA (vs := [_, _]) Tryd.func129 rfl rfl (Nat.le_of_ble_eq_true rfl) ?_
  have hmem : ∀ {cz : Cx} {Hz : List Res} {xz : X} {pz : Nat} {w' : World}, Inside (fun k => k < w.heap.size ∧ ¬ B k) w cz → Hz[pz]? = some (J xz) → Hp cz.U cz.w0 Hz w' → (Has w' (Box b [.slice a l.length cap] 31) ∧ Has w' (Pts a l)) := fun hin hp hw => by
    obtain ⟨B', q1, q2, q3, q4⟩ := own_of_in hin hp hw
    exact hM _ _ B' q4 q1 q2 q3
  have ins0 := insideB Tryd.prog Tryd.f129.ntmps w B
  refine gk_seq ?_
  refine gk_region ?_
  refine gk_y rfl rfl (y_load1 tf31 rfl (fun _ hw => has_box_cell (hmem ins0 (pz := 0) rfl hw).1 rfl)) ?_
  refine gk_y rfl rfl (y_lenS (Tryd.underlying31) rfl) ?_
  refine gk_y rfl rfl (y_move rfl) ?_
  refine gk_nil (gk_sub (T' := [(0,_), (5,_), (6,_), (7,_)]) ⟨rfl, rfl, rfl, rfl, trivial⟩ ?_)
  refine gk_block ?_
  refine gk_loop (X := Int × X) (fun ⟨i, x⟩ => [(0, .func (.yield y) #[] #[]), (5, .slice a l.length cap), (6, .int .i64 (l.length : Int)), (7, .int .i64 i)]) (fun ⟨i, x⟩ => [J x]) (fun ⟨i, x⟩ => (0 ≤ i ∧ i ≤ l.length ∧ Rl i.toNat x)) (fun ⟨i, x⟩ => (l.length - i).toNat) (0, x0) ⟨rfl, rfl, rfl, rfl, trivial⟩ rfl ?_ ?_
  · exact ⟨by omega, by omega, h0⟩
  · rintro ⟨i, x⟩ hI
    obtain ⟨g0, g1, g2⟩ := hI
    refine gk_seq ?_
    refine gk_region ?_
    refine gk_y rfl rfl (y_lss rfl rfl) ?_
    refine gk_nil (gk_sub (T' := [(0,_), (5,_), (6,_), (7,_), (8,_)]) ⟨rfl, rfl, rfl, rfl, rfl, trivial⟩ ?_)
    refine gk_seq ?_
    refine gk_cond rfl (fun hc8 => ?_) (fun hc8 => ?_)
    · have hc8 := of_decide_eq_true hc8
      refine gk_skip ?_
      refine gk_seq ?_
      refine gk_block ?_
      refine gk_seq ?_
      refine gk_region ?_
      refine gk_y rfl rfl (y_indexE se31 rfl rfl (fun _ hw => (hmem ins0 (pz := 0) rfl hw).2) (by omega) (by omega)) ?_
      refine gk_y rfl rfl (y_loadE (vs := [_, _]) tf32 rfl (fun _ hw => (hmem ins0 (pz := 0) rfl hw).2) (by omega) (by omega) rfl) ?_
      refine gk_yx rfl rfl (yx_alloc tf32 (zs := [_, _]) rfl) fun b4 => ?_
      refine gk_storeV 0 tf32 rfl rfl (vs := [_, _]) rfl rfl rfl rfl rfl ?_
      refine gk_nil (gk_sub (T' := [(0,_), (4,_), (5,_), (6,_), (7,_)]) ⟨rfl, rfl, rfl, rfl, rfl, trivial⟩ ?_)
      refine gk_seq ?_
      refine gk_region ?_
      refine gk_y rfl rfl (y_move rfl) ?_
      refine gk_y rfl rfl (y_loadBA 0 tf32 rfl rfl (vs := [_, _]) rfl rfl) ?_
      refine gk_yield 1 ins0 rfl rfl rfl rfl (hy _ _ _ (ones_get g0 (by omega)) g2) fun b13 x13 hp13 => ?_
      refine gk_y rfl rfl (y_not rfl) ?_
      refine gk_nil (gk_sub (T' := [(0,_), (5,_), (6,_), (7,_), (14,_)]) ⟨rfl, rfl, rfl, rfl, rfl, trivial⟩ ?_)
      refine gk_cond rfl (fun hc14 => ?_) (fun hc14 => ?_)
      · skip
        refine gk_ret ?_
        refine gk_turns x13 1 (rv_none rfl) rfl rfl (.inr (by have := hp13; rwa [show b13 = false from by simpa using hc14, if_neg Bool.false_ne_true] at this))
      · skip
        refine gk_skip ?_
        refine gk_region ?_
        refine gk_y rfl rfl (y_addI rfl rfl (by omega) (by omega)) ?_
        refine gk_y rfl rfl (y_move rfl) ?_
        refine gk_nil (gk_sub (T' := [(0,_), (5,_), (6,_), (7,_)]) ⟨rfl, rfl, rfl, rfl, trivial⟩ ?_)
        refine gk_dropAt 0 rfl ?_
        exact gk_next (i + 1, x13) ⟨rfl, rfl, rfl, rfl, trivial⟩ rfl ⟨by omega, by omega, by have := hp13; rw [show b13 = true from by simpa using hc14, if_pos rfl] at this; rwa [show (i + 1).toNat = i.toNat + 1 from by omega]⟩ (by simp only []; omega)
    · have hc8 := of_decide_eq_false hc8
      refine gk_exit rfl ?_
      refine gk_turns x 0 (rv_none rfl) rfl rfl (.inl (by rw [List.length_map]; rwa [show i.toNat = l.length from by omega] at g2))
set_option maxRecDepth 100000 in
set_option maxHeartbeats 1000000 in
theorem backward_c (a : Option Addr) (cap : Nat) (l : List Pt) (w : World)  :
    Calls Tryd.prog 109 #[.slice a l.length cap] w (Gives (fun b : Nat => .func (.func 132) #[] #[.pointer (some ⟨b, 0, none⟩)]) (fun b => Box b [.slice a l.length cap] 31) w) := by
  refine calls_of_gk (vs := [_]) Tryd.func109 rfl rfl (Nat.le_of_ble_eq_true rfl) ?_
  refine gk_seq ?_
  refine gk_region ?_
  refine gk_yx rfl rfl (yx_box (vs := [_]) rfl rfl) fun b1 => ?_
  refine gk_y rfl rfl (y_assign rfl) ?_
  refine gk_nil (gk_sub (T' := [(1,_), (2,_)]) ⟨rfl, rfl, trivial⟩ ?_)
  refine gk_seq ?_
  refine gk_region ?_
  refine gk_y rfl rfl (y_makeFunc («as» := []) (bs := [_]) rfl rfl) ?_
  refine gk_y rfl rfl (y_assign rfl) ?_
  refine gk_nil (gk_sub (T' := [(2,_)]) ⟨rfl, trivial⟩ ?_)
  refine gk_ret ?_
  refine gk_gives b1 0 (rv_one rfl (r1_tmp rfl)) ?_ rfl
  rfl
set_option maxRecDepth 100000 in
set_option maxHeartbeats 1000000 in
theorem backward1_c (a : Option Addr) (cap : Nat) (l : List Pt) (b : Nat) (hs : Small l.length) :
    SeqC Tryd.prog 132 [.pointer (some ⟨b, 0, none⟩)] (backVs l) (fun w => Has w (Box b [.slice a l.length cap] 31) ∧ Has w (Pts a l)) := by
  intro X J Rl D y w B x0 hB hA h0 hM hy
  refine calls_of_gkB hB hA (vs := [_, _]) Tryd.func132 rfl rfl (Nat.le_of_ble_eq_true rfl) ?_
  have hmem : ∀ {cz : Cx} {Hz : List Res} {xz : X} {pz : Nat} {w' : World}, Inside (fun k => k < w.heap.size ∧ ¬ B k) w cz → Hz[pz]? = some (J xz) → Hp cz.U cz.w0 Hz w' → (Has w' (Box b [.slice a l.length cap] 31) ∧ Has w' (Pts a l)) := fun hin hp hw => by
    obtain ⟨B', q1, q2, q3, q4⟩ := own_of_in hin hp hw
    exact hM _ _ B' q4 q1 q2 q3
  have ins0 := insideB Tryd.prog Tryd.f132.ntmps w B
  refine gk_seq ?_
  refine gk_region ?_
  refine gk_y rfl rfl (y_load1 tf31 rfl (fun _ hw => has_box_cell (hmem ins0 (pz := 0) rfl hw).1 rfl)) ?_
  refine gk_y rfl rfl (y_lenS (Tryd.underlying31) rfl) ?_
  refine gk_y rfl rfl (y_subI rfl rfl (by omega) (by omega)) ?_
  refine gk_y rfl rfl (y_assign rfl) ?_
  refine gk_nil (gk_sub (T' := [(0,_), (1,_), (3,_)]) ⟨rfl, rfl, rfl, trivial⟩ ?_)
  refine gk_block ?_
  refine gk_loop (X := Int × X) (fun ⟨i, x⟩ => [(0, .func (.yield y) #[] #[]), (1, .pointer (some ⟨b, 0, none⟩)), (3, .int .i64 i)]) (fun ⟨i, x⟩ => [J x]) (fun ⟨i, x⟩ => (-1 ≤ i ∧ i < l.length ∧ Rl ((l.length : Int) - 1 - i).toNat x)) (fun ⟨i, x⟩ => (i + 1).toNat) ((l.length : Int) - 1, x0) ⟨rfl, rfl, rfl, trivial⟩ rfl ?_ ?_
  · exact ⟨by omega, by omega, by rw [show ((l.length : Int) - 1 - ((l.length : Int) - 1)).toNat = 0 from by omega]; exact h0⟩
  · rintro ⟨i, x⟩ hI
    obtain ⟨g0, g1, g2⟩ := hI
    refine gk_seq ?_
    refine gk_seq ?_
    refine gk_region ?_
    refine gk_y rfl rfl (y_move rfl) ?_
    refine gk_y rfl rfl (y_geq rfl rfl) ?_
    refine gk_nil (gk_sub (T' := [(0,_), (1,_), (3,_), (8,_)]) ⟨rfl, rfl, rfl, rfl, trivial⟩ ?_)
    refine gk_cond rfl (fun hc8 => ?_) (fun hc8 => ?_)
    · have hc8 := of_decide_eq_true hc8
      refine gk_skip ?_
      refine gk_seq ?_
      refine gk_block ?_
      refine gk_seq ?_
      refine gk_region ?_
      refine gk_y rfl rfl (y_move rfl) ?_
      refine gk_y rfl rfl (y_move rfl) ?_
      refine gk_y rfl rfl (y_load1 tf31 rfl (fun _ hw => has_box_cell (hmem ins0 (pz := 0) rfl hw).1 rfl)) ?_
      refine gk_y rfl rfl (y_move rfl) ?_
      refine gk_y rfl rfl (y_indexE se31 rfl rfl (fun _ hw => (hmem ins0 (pz := 0) rfl hw).2) (by omega) (by omega)) ?_
      refine gk_y rfl rfl (y_loadE (vs := [_, _]) tf32 rfl (fun _ hw => (hmem ins0 (pz := 0) rfl hw).2) (by omega) (by omega) rfl) ?_
      refine gk_yield 0 ins0 rfl rfl rfl rfl (hy _ _ _ (back_get (by omega) (by omega)) g2) fun b17 x17 hp17 => ?_
      refine gk_y rfl rfl (y_not rfl) ?_
      refine gk_nil (gk_sub (T' := [(0,_), (1,_), (3,_), (18,_)]) ⟨rfl, rfl, rfl, rfl, trivial⟩ ?_)
      refine gk_cond rfl (fun hc18 => ?_) (fun hc18 => ?_)
      · skip
        refine gk_ret ?_
        refine gk_turns x17 0 (rv_none rfl) rfl rfl (.inr (by have := hp17; rwa [show b17 = false from by simpa using hc18, if_neg Bool.false_ne_true] at this))
      · skip
        refine gk_skip ?_
        refine gk_region ?_
        refine gk_y rfl rfl (y_move rfl) ?_
        refine gk_y rfl rfl (y_subI rfl rfl (by omega) (by omega)) ?_
        refine gk_y rfl rfl (y_assign rfl) ?_
        refine gk_nil (gk_sub (T' := [(0,_), (1,_), (3,_)]) ⟨rfl, rfl, rfl, trivial⟩ ?_)
        exact gk_next (i - 1, x17) ⟨rfl, rfl, rfl, trivial⟩ rfl ⟨by omega, by omega, by have := hp17; rw [show b17 = true from by simpa using hc18, if_pos rfl] at this; rwa [show ((l.length : Int) - 1 - (i - 1)).toNat = ((l.length : Int) - 1 - i).toNat + 1 from by omega]⟩ (by simp only []; omega)
    · have hc8 := of_decide_eq_false hc8
      refine gk_exit rfl ?_
      refine gk_turns x 0 (rv_none rfl) rfl rfl (.inl (by rw [back_len]; rwa [show ((l.length : Int) - 1 - i).toNat = l.length from by omega] at g2))
set_option maxRecDepth 100000 in
set_option maxHeartbeats 1000000 in
theorem hull1_c (p : Pt) (w : World)  :
    Calls Tryd.prog 101 #[.agg #[.int .i64 p.x, .int .i64 p.z]] w (Pure (.bool (farX p)) w) := by
  refine calls_of_gk (vs := [_]) Tryd.func101 rfl rfl (Nat.le_of_ble_eq_true rfl) ?_
  refine gk_seq ?_
  refine gk_region ?_
  refine gk_yx rfl rfl (yx_box (vs := [_, _]) rfl rfl) fun b1 => ?_
  refine gk_y rfl rfl (y_assign rfl) ?_
  refine gk_nil (gk_sub (T' := [(1,_), (2,_)]) ⟨rfl, rfl, trivial⟩ ?_)
  refine gk_seq ?_
  refine gk_any 11 (fun _ => mixed) (by kernel_rfl) ?_
  refine ph_y (y_fieldAddr fo32_0 rfl) ?_
  refine ph_y (y_loadB1 0 tf3 rfl rfl rfl) ?_
  refine ph_y (y_call en55 rfl (fun w hw => within_c _ _ _ w)) ?_
  refine ph_y (y_not rfl) ?_
  refine ph_y (y_move rfl) ?_
  refine ph_gF rfl rfl (fun hgd => by (try rw [hgd]); exact (y_fieldAddr fo32_1 rfl)) ?_
  refine ph_gF rfl rfl (fun hgd => by (try rw [hgd]); exact (y_loadB1 0 tf3 rfl rfl rfl)) ?_
  refine ph_gF rfl rfl (fun hgd => by (try rw [hgd]); exact (y_call (v := .bool (decide ((-2000) ≤ p.z) && decide (p.z ≤ 2000))) en55 rfl (fun w hw => within_c _ _ _ w))) ?_
  refine ph_gF rfl rfl (fun hgd => by (try rw [hgd]); exact (y_not rfl)) ?_
  refine ph_y (y_pickOr rfl rfl rfl) ?_
  refine ph_y (y_assign rfl) ?_
  refine gk_nil (gk_sub (T' := [(2,_)]) ⟨rfl, trivial⟩ ?_)
  refine gk_ret ?_
  refine gk_pure (rv_one rfl (r1_tmp rfl)) ?_
  rfl
theorem find_any {u : Pt → Bool} (l : List Pt) : decide (0 ≤ findI u l) = l.any u := by
  unfold findI
  by_cases h : l.any u = true
  · rw [if_pos h, h]; exact decide_eq_true (by omega)
  · rw [if_neg h, Bool.eq_false_iff.2 h]; exact decide_eq_false (by omega)
set_option maxRecDepth 100000 in
set_option maxHeartbeats 1000000 in
theorem containsfar_c (a : Option Addr) (cap : Nat) (l : List Pt) (w : World) (hl : Has w (Pts a l)) (hs : Small l.length) :
    Calls Tryd.prog 102 #[.slice a l.length cap, .func (.func 101) #[] #[]] w (Pure (.bool (l.any farX)) w) := by
  refine calls_of_gk (vs := [_, _]) Tryd.func102 rfl rfl (Nat.le_of_ble_eq_true rfl) ?_
  refine gk_seq ?_
  refine gk_region ?_
  refine gk_y rfl rfl (y_assign rfl) ?_
  refine gk_nil (gk_sub (T' := [(0,_), (1,_), (4,_)]) ⟨rfl, rfl, rfl, trivial⟩ ?_)
  refine gk_seq ?_
  refine gk_region ?_
  refine gk_y rfl rfl (y_move rfl) ?_
  refine gk_y rfl rfl (y_move rfl) ?_
  refine gk_y rfl rfl (y_call en127 rfl (fun w hw => indexfunc_c _ _ l farX _ [] w (Rd.has (Has.rd hl) hw) (by assumption) (fun _ => True) (fun _ _ => trivial) en101 (fun p w' _ => hull1_c p w'))) ?_
  refine gk_y rfl rfl (y_geq rfl rfl) ?_
  refine gk_y rfl rfl (y_assign rfl) ?_
  refine gk_nil (gk_sub (T' := [(4,_)]) ⟨rfl, trivial⟩ ?_)
  refine gk_ret ?_
  refine gk_pure (rv_one rfl (r1_tmp rfl)) ?_
  rw [← find_any]
set_option maxRecDepth 100000 in
set_option maxHeartbeats 1000000 in
theorem compact_c (a : Option Addr) (cap : Nat) (l : List Pt) (w : World) (B : Nat → Prop) (hB : ∀ k, B k → k < w.heap.size) (hA : (Row a 2 cap 32 encPt l).A B w) (hs : Small l.length) :
    Calls Tryd.prog 103 #[.slice a l.length cap] w (Turns (fun _ : Unit => .slice a (compL l).length cap) (fun _ => Row a 2 cap 32 encPt (compZ l)) (fun _ => True) B w) := by
  have hsub : ∀ n, subA a 2 0 n = a := fun n => row_sub0 hA
  have hcap : l.length ≤ cap := Row.bounds hA
  refine calls_of_gkB hB hA (vs := [_]) Tryd.func103 rfl rfl (Nat.le_of_ble_eq_true rfl) ?_
  refine gk_seq ?_
  refine gk_region ?_
  refine gk_y rfl rfl (y_assign rfl) ?_
  refine gk_nil (gk_sub (T' := [(0,_), (2,_)]) ⟨rfl, rfl, trivial⟩ ?_)
  refine gk_seq ?_
  refine gk_seq ?_
  refine gk_region ?_
  refine gk_y rfl rfl (y_move rfl) ?_
  refine gk_y rfl rfl (y_lenS (Tryd.underlying31) rfl) ?_
  refine gk_y rfl rfl (y_lss rfl rfl) ?_
  refine gk_nil (gk_sub (T' := [(0,_), (2,_), (8,_)]) ⟨rfl, rfl, rfl, trivial⟩ ?_)
  refine gk_cond rfl (fun hc8 => ?_) (fun hc8 => ?_)
  · have hc8 := of_decide_eq_true hc8
    have hL := comp_one (l := l) (by omega)
    refine gk_seq ?_
    refine gk_region ?_
    refine gk_y rfl rfl (y_move rfl) ?_
    refine gk_y rfl rfl (y_assign rfl) ?_
    refine gk_nil (gk_sub (T' := [(0,_), (2,_)]) ⟨rfl, rfl, trivial⟩ ?_)
    refine gk_sub (T' := [(0,_), (2, .slice a (compL l).length cap)]) ⟨rfl, (by rw [hL]; rfl), trivial⟩ ?_
    refine gk_conv (R' := Row a 2 cap 32 encPt (compZ l)) 0 rfl (fun B w hA => by unfold compZ; rw [hL, Nat.sub_self, List.replicate_zero, List.append_nil]; exact hA) ?_
    refine gk_ret ?_
    refine gk_turns () 0 (rv_one rfl (r1_tmp rfl)) rfl rfl trivial
  · have hc8 := of_decide_eq_false hc8
    refine gk_skip ?_
    refine gk_seq ?_
    refine gk_seq ?_
    refine gk_region ?_
    refine gk_y rfl rfl (y_assign rfl) ?_
    refine gk_nil (gk_sub (T' := [(0,_), (2,_), (3,_)]) ⟨rfl, rfl, rfl, trivial⟩ ?_)
    refine gk_block ?_
    refine gk_loop (X := Int) (fun (K : Int) => [(0, .slice a l.length cap), (2, .slice none 0 0), (3, .int .i64 K)]) (fun (K : Int) => [Row a 2 cap 32 encPt l]) (fun (K : Int) => CmpS l K) (fun (K : Int) => (l.length - K).toNat) 1 ⟨rfl, rfl, rfl, trivial⟩ rfl ?_ ?_
    · exact cmp_s0 hc8
    · rintro K hI
      have hS : CmpS l K := hI
      have hk1 := hS.k1
      have hk2 := hS.kl
      refine gk_seq ?_
      refine gk_seq ?_
      refine gk_region ?_
      refine gk_y rfl rfl (y_move rfl) ?_
      refine gk_y rfl rfl (y_move rfl) ?_
      refine gk_y rfl rfl (y_lenS (Tryd.underlying31) rfl) ?_
      refine gk_y rfl rfl (y_lss rfl rfl) ?_
      refine gk_nil (gk_sub (T' := [(0,_), (2,_), (3,_), (13,_)]) ⟨rfl, rfl, rfl, rfl, trivial⟩ ?_)
      refine gk_cond rfl (fun hc13 => ?_) (fun hc13 => ?_)
      · have hc13 := of_decide_eq_true hc13
        refine gk_skip ?_
        refine gk_seq ?_
        refine gk_block ?_
        refine gk_seq ?_
        refine gk_any 10 (fun _ => mixed) (by kernel_rfl) ?_
        refine ph_y (y_move rfl) ?_
        refine ph_y (y_move rfl) ?_
        refine ph_y (y_indexE se31 rfl rfl (fun _ hw => (has_row encPt_ok (hw.has (p := 0) rfl))) (by omega) (by omega)) ?_
        refine ph_y (y_loadE (vs := [_, _]) tf32 rfl (fun _ hw => (has_row encPt_ok (hw.has (p := 0) rfl))) (by omega) (by omega) rfl) ?_
        refine ph_y (y_move rfl) ?_
        refine ph_y (y_move rfl) ?_
        refine ph_y (y_subI rfl rfl (by omega) (by omega)) ?_
        refine ph_y (y_indexE se31 rfl rfl (fun _ hw => (has_row encPt_ok (hw.has (p := 0) rfl))) (by omega) (by omega)) ?_
        refine ph_y (y_loadE (vs := [_, _]) tf32 rfl (fun _ hw => (has_row encPt_ok (hw.has (p := 0) rfl))) (by omega) (by omega) rfl) ?_
        refine ph_y (y_eql32 rfl rfl) ?_
        refine gk_nil (gk_sub (T' := [(0,_), (2,_), (3,_), (25,_)]) ⟨rfl, rfl, rfl, rfl, trivial⟩ ?_)
        refine gk_cond rfl (fun hc25 => ?_) (fun hc25 => ?_)
        · have he25 : l.getD K.toNat default = l.getD (K - 1).toNat default := by simp only [Bool.and_eq_true, decide_eq_true_eq] at hc25; exact pt_ext hc25.1 hc25.2
          have hT := hS.turn hc13 he25
          refine gk_seq ?_
          refine gk_region ?_
          refine gk_y rfl rfl (y_move rfl) ?_
          refine gk_y rfl rfl (y_move rfl) ?_
          refine gk_y rfl rfl (y_sliceLoL se31 rfl rfl (by omega) (by omega)) ?_
          refine gk_y rfl rfl (y_assign rfl) ?_
          refine gk_nil (gk_sub (T' := [(0,_), (2,_), (3,_), (4,_)]) ⟨rfl, rfl, rfl, rfl, trivial⟩ ?_)
          refine gk_seq ?_
          refine gk_seq ?_
          refine gk_region ?_
          refine gk_y rfl rfl (y_assign rfl) ?_
          refine gk_nil (gk_sub (T' := [(0,_), (2,_), (3,_), (4,_), (5,_)]) ⟨rfl, rfl, rfl, rfl, rfl, trivial⟩ ?_)
          refine gk_block ?_
          refine gk_loop (X := Int × Int × List Pt) (fun ⟨k, j, m⟩ => [(0, .slice a l.length cap), (2, .slice none 0 0), (3, .int .i64 k), (4, .slice (subA a 2 K.toNat cap) (l.drop K.toNat).length (cap - K.toNat)), (5, .int .i64 j)]) (fun ⟨k, j, m⟩ => [Row a 2 cap 32 encPt m]) (fun ⟨k, j, m⟩ => CmpI l m K k j) (fun ⟨k, j, m⟩ => (l.length - j).toNat) (K, 1, l) ⟨rfl, rfl, rfl, rfl, rfl, trivial⟩ rfl ?_ ?_
          · exact hT
          · rintro ⟨k, j, m⟩ hI
            have hD : CmpI l m K k j := hI
            have hK1 := hD.K1
            have hKk := hD.Kk
            have hkj := hD.kj
            have hj1 := hD.j1
            have hjl := hD.jl
            have hml := hD.len
            have hdm : (m.drop K.toNat).length = m.length - K.toNat := List.length_drop
            have hdl : (l.drop K.toNat).length = l.length - K.toNat := List.length_drop
            refine gk_seq ?_
            refine gk_seq ?_
            refine gk_region ?_
            refine gk_y rfl rfl (y_move rfl) ?_
            refine gk_y rfl rfl (y_move rfl) ?_
            refine gk_y rfl rfl (y_lenS (Tryd.underlying31) rfl) ?_
            refine gk_y rfl rfl (y_lss rfl rfl) ?_
            refine gk_nil (gk_sub (T' := [(0,_), (2,_), (3,_), (4,_), (5,_), (32,_)]) ⟨rfl, rfl, rfl, rfl, rfl, rfl, trivial⟩ ?_)
            refine gk_cond rfl (fun hc32 => ?_) (fun hc32 => ?_)
            · have hc32 := of_decide_eq_true hc32
              have hj : K + j < (l.length : Int) := by rw [List.length_drop] at hc32; omega
              refine gk_skip ?_
              refine gk_seq ?_
              refine gk_block ?_
              refine gk_seq ?_
              refine gk_any 10 (fun _ => mixed) (by kernel_rfl) ?_
              refine ph_y (y_move rfl) ?_
              refine ph_y (y_move rfl) ?_
              refine ph_y (y_indexN se31 rfl rfl (fun _ hw => (elems_drop (has_row encPt_ok (hw.has (p := 0) rfl)) (show m.length ≤ cap by omega) (by omega))) (by rw [List.length_drop, List.length_drop, hD.len]) (by omega) (by omega)) ?_
              refine ph_y (y_loadE (vs := [_, _]) tf32 rfl (fun _ hw => (elems_drop (has_row encPt_ok (hw.has (p := 0) rfl)) (show m.length ≤ cap by omega) (by omega))) (by omega) (by omega) rfl) ?_
              refine ph_y (y_move rfl) ?_
              refine ph_y (y_move rfl) ?_
              refine ph_y (y_subI rfl rfl (by omega) (by omega)) ?_
              refine ph_y (y_indexN se31 rfl rfl (fun _ hw => (elems_drop (has_row encPt_ok (hw.has (p := 0) rfl)) (show m.length ≤ cap by omega) (by omega))) (by rw [List.length_drop, List.length_drop, hD.len]) (by omega) (by omega)) ?_
              refine ph_y (y_loadE (vs := [_, _]) tf32 rfl (fun _ hw => (elems_drop (has_row encPt_ok (hw.has (p := 0) rfl)) (show m.length ≤ cap by omega) (by omega))) (by omega) (by omega) rfl) ?_
              refine ph_y (y_neq32 rfl rfl) ?_
              refine gk_nil (gk_sub (T' := [(0,_), (2,_), (3,_), (4,_), (5,_), (44,_)]) ⟨rfl, rfl, rfl, rfl, rfl, rfl, trivial⟩ ?_)
              refine gk_cond rfl (fun hc44 => ?_) (fun hc44 => ?_)
              · have he44 : (m.drop K.toNat).getD j.toNat default ≠ (m.drop K.toNat).getD (j - 1).toNat default := fun he => by rw [he] at hc44; simp at hc44
                refine gk_seq ?_
                refine gk_region ?_
                refine gk_y rfl rfl (y_move rfl) ?_
                refine gk_y rfl rfl (y_move rfl) ?_
                refine gk_y rfl rfl (y_move rfl) ?_
                refine gk_y rfl rfl (y_move rfl) ?_
                refine gk_y rfl rfl (y_indexN se31 rfl rfl (fun _ hw => (elems_drop (has_row encPt_ok (hw.has (p := 0) rfl)) (show m.length ≤ cap by omega) (by omega))) (by rw [List.length_drop, List.length_drop, hD.len]) (by omega) (by omega)) ?_
                refine gk_y rfl rfl (y_loadE (vs := [_, _]) tf32 rfl (fun _ hw => (elems_drop (has_row encPt_ok (hw.has (p := 0) rfl)) (show m.length ≤ cap by omega) (by omega))) (by omega) (by omega) rfl) ?_
                refine gk_y rfl rfl (y_indexN se31 rfl rfl (fun _ hw => (has_row encPt_ok (hw.has (p := 0) rfl))) hD.len (by omega) (by omega)) ?_
                refine gk_storeE (x' := ⟨(((m.drop K.toNat).getD (j).toNat default).x), (((m.drop K.toNat).getD (j).toNat default).z)⟩) 0 encPt_ok tf32 rfl rfl (vs := [_, _]) rfl rfl rfl (by omega) (by omega) ?_
                refine gk_nil (gk_sub (T' := [(0,_), (2,_), (3,_), (4,_), (5,_)]) ⟨rfl, rfl, rfl, rfl, rfl, trivial⟩ ?_)
                refine gk_region ?_
                refine gk_y rfl rfl (y_move rfl) ?_
                refine gk_y rfl rfl (y_addI rfl rfl (by omega) (by omega)) ?_
                refine gk_y rfl rfl (y_assign rfl) ?_
                refine gk_nil (gk_sub (T' := [(0,_), (2,_), (3,_), (4,_), (5,_)]) ⟨rfl, rfl, rfl, rfl, rfl, trivial⟩ ?_)
                refine gk_region ?_
                refine gk_y rfl rfl (y_move rfl) ?_
                refine gk_y rfl rfl (y_addI rfl rfl (by omega) (by omega)) ?_
                refine gk_y rfl rfl (y_assign rfl) ?_
                refine gk_nil (gk_sub (T' := [(0,_), (2,_), (3,_), (4,_), (5,_)]) ⟨rfl, rfl, rfl, rfl, rfl, trivial⟩ ?_)
                exact gk_next (_, j + 1, _) ⟨rfl, rfl, rfl, rfl, rfl, trivial⟩ rfl (by first | exact hD.keep hj he44 | exact hD.skip hj he44) (by simp only []; omega)
              · have he44 : (m.drop K.toNat).getD j.toNat default = (m.drop K.toNat).getD (j - 1).toNat default := by simp only [Bool.not_eq_false', Bool.and_eq_true, decide_eq_true_eq] at hc44; exact pt_ext hc44.1 hc44.2
                refine gk_skip ?_
                refine gk_region ?_
                refine gk_y rfl rfl (y_move rfl) ?_
                refine gk_y rfl rfl (y_addI rfl rfl (by omega) (by omega)) ?_
                refine gk_y rfl rfl (y_assign rfl) ?_
                refine gk_nil (gk_sub (T' := [(0,_), (2,_), (3,_), (4,_), (5,_)]) ⟨rfl, rfl, rfl, rfl, rfl, trivial⟩ ?_)
                exact gk_next (_, j + 1, _) ⟨rfl, rfl, rfl, rfl, rfl, trivial⟩ rfl (by first | exact hD.keep hj he44 | exact hD.skip hj he44) (by simp only []; omega)
            · have hc32 := of_decide_eq_false hc32
              obtain ⟨d1, d2, d3⟩ := hD.done (by rw [List.length_drop] at hc32; omega)
              refine gk_exit rfl ?_
              refine gk_seq ?_
              refine gk_region ?_
              refine gk_y rfl rfl (y_move rfl) ?_
              refine gk_y rfl rfl (y_move rfl) ?_
              refine gk_y rfl rfl (y_sliceLoL se31 rfl rfl (by omega) (by omega)) ?_
              refine gk_clear m (⟨0, 0⟩ : Pt) 0 encPt_ok (Tryd.underlying31) tf32 rfl rfl (by rw [List.length_drop, List.length_drop, hD.len]) rfl (by have := hD.K1; have := hD.Kk; have := hD.jl; have := hD.kj; have := hD.len; omega) rfl ?_
              refine gk_nil (gk_sub (T' := [(0,_), (2,_), (3,_)]) ⟨rfl, rfl, rfl, trivial⟩ ?_)
              refine gk_conv (R' := Row a 2 cap 32 encPt (compZ l)) 0 rfl (fun B w hA => by unfold compZ; rw [← d1, ← hml, List.length_take, Nat.min_eq_left (by omega)]; exact hA) ?_
              refine gk_seq ?_
              refine gk_region ?_
              refine gk_y rfl rfl (y_move rfl) ?_
              refine gk_y rfl rfl (y_move rfl) ?_
              refine gk_y rfl rfl (y_sliceHiL se31 rfl rfl (by omega) (by omega) hcap) ?_
              refine gk_y rfl rfl (y_assign rfl) ?_
              refine gk_nil (gk_sub (T' := [(0,_), (2,_), (3,_)]) ⟨rfl, rfl, rfl, trivial⟩ ?_)
              refine gk_sub (T' := [(0,_), (2, .slice a (compL l).length cap), (3,_)]) ⟨rfl, (by rw [show (compL l).length = (l.take k.toNat).length from by rw [List.length_take]; omega, hsub cap]; rfl), rfl, trivial⟩ ?_
              refine gk_ret ?_
              refine gk_turns () 0 (rv_one rfl (r1_tmp rfl)) rfl rfl trivial
        · have he25 : l.getD K.toNat default ≠ l.getD (K - 1).toNat default := fun he => by rw [he] at hc25; simp at hc25
          refine gk_skip ?_
          refine gk_region ?_
          refine gk_y rfl rfl (y_move rfl) ?_
          refine gk_y rfl rfl (y_addI rfl rfl (by omega) (by omega)) ?_
          refine gk_y rfl rfl (y_assign rfl) ?_
          refine gk_nil (gk_sub (T' := [(0,_), (2,_), (3,_)]) ⟨rfl, rfl, rfl, trivial⟩ ?_)
          exact gk_next (K + 1) ⟨rfl, rfl, rfl, trivial⟩ rfl (hS.keep hc13 he25) (by omega)
      · have hc13 := of_decide_eq_false hc13
        have hL := hS.done hc13
        refine gk_exit rfl ?_
        refine gk_seq ?_
        refine gk_region ?_
        refine gk_y rfl rfl (y_move rfl) ?_
        refine gk_y rfl rfl (y_assign rfl) ?_
        refine gk_nil (gk_sub (T' := [(2,_)]) ⟨rfl, trivial⟩ ?_)
        refine gk_sub (T' := [(2, .slice a (compL l).length cap)]) ⟨(by rw [hL]; rfl), trivial⟩ ?_
        refine gk_conv (R' := Row a 2 cap 32 encPt (compZ l)) 0 rfl (fun B w hA => by unfold compZ; rw [hL, Nat.sub_self, List.replicate_zero, List.append_nil]; exact hA) ?_
        refine gk_ret ?_
        refine gk_turns () 0 (rv_one rfl (r1_tmp rfl)) rfl rfl trivial
end Go.Proofs.YtahahmelnaphjaaDoor

namespace Go.Stn
open Go Go.K Go.RowKit
def hasB (l : List Pt) (p : Pt) : Bool := l.any fun q => decide (q.x = p.x) && decide (q.z = p.z)
theorem has_iff {l : List Pt} {p : Pt} : hasB l p = true ↔ p ∈ l := by
  unfold hasB
  rw [List.any_eq_true]
  constructor
  · rintro ⟨q, hq, h⟩
    simp only [Bool.and_eq_true, decide_eq_true_eq] at h
    obtain ⟨h1, h2⟩ := h
    cases p; cases q
    dsimp only at h1 h2
    subst h1 h2
    exact hq
  · intro h
    exact ⟨p, h, by simp⟩
def rowF (l : List Pt) (p : Pt) (n : Nat) : Bool := (l.take n).all fun q => decide (sideW (l.getD 0 default) p q = 0)
def flatN (l : List Pt) (n : Nat) : Bool := (l.take n).all fun p => rowF l p l.length
abbrev rflatB (l : List Pt) : Bool := flatN l l.length
theorem rowF_succ {l : List Pt} {p : Pt} {k : Int} (h0 : 0 ≤ k) (h1 : k < (l.length : Int)) : rowF l p (k + 1).toNat = (rowF l p k.toNat && decide (sideW (l.getD 0 default) p (l.getD k.toNat default) = 0)) := by
  unfold rowF
  rw [take_succ h0 h1, List.all_append]
  simp
theorem flatN_succ {l : List Pt} {i : Int} (h0 : 0 ≤ i) (h1 : i < (l.length : Int)) : flatN l (i + 1).toNat = (flatN l i.toNat && rowF l (l.getD i.toNat default) l.length) := by
  unfold flatN
  rw [take_succ h0 h1, List.all_append]
  simp
theorem scan_succ {l : List Pt} {p : Pt} {k : Int} (h0 : 0 ≤ k) (h1 : k < (l.length : Int)) : scanN l p (k + 1).toNat = scanF p (scanN l p k.toNat) (l.getD k.toNat default) := by
  unfold scanN
  rw [take_succ h0 h1, List.foldl_append]; rfl
/-- what is had of the way round, from the first corner on -/
structure Round (l F : List Pt) : Prop where
  wrap : Wrap l F
  start : gD F 0 = l.getD (rfirst l).toNat default
theorem Round.more {l F : List Pt} (h : Round l F) {i : Nat} (hi : i < F.length) (hh : hasB (F.take i) (gD F i) = false) : i + 1 < F.length ∧ gD F (i + 1) = scanN l (gD F i) l.length := by
  have h4 := h.wrap.len
  have hl : i + 1 < F.length := Classical.byContradiction fun hn => by
    have hi2 : i = F.length - 1 := by omega
    subst hi2
    have : hasB (F.take (F.length - 1)) (gD F (F.length - 1)) = true := by
      rw [has_iff, h.wrap.round, List.mem_iff_getElem?]
      refine ⟨0, ?_⟩
      rw [List.getElem?_take, if_pos (by omega)]
      unfold gD
      rw [List.getD_eq_getElem?_getD, List.getElem?_eq_getElem (by omega)]; rfl
    rw [this] at hh
    cases hh
  refine ⟨hl, ?_⟩
  rw [← h.wrap.next i hl]
  unfold scanN
  rw [List.take_length]
theorem Round.stop {l F : List Pt} (h : Round l F) {i : Nat} (hi : i < F.length) (hh : hasB (F.take i) (gD F i) = true) : F.take i = F.dropLast := by
  have h4 := h.wrap.len
  have : i + 1 = F.length := Classical.byContradiction fun hn => by
    rw [has_iff, List.mem_iff_getElem?] at hh
    obtain ⟨j, hj⟩ := hh
    rw [List.getElem?_take] at hj
    split at hj
    · rename_i hji
      refine h.wrap.new j i hji (by omega) ?_
      unfold gD
      rw [List.getD_eq_getElem?_getD, hj]; rfl
    · cases hj
  rw [List.dropLast_eq_take, show F.length - 1 = i from by omega]
theorem gD_take {F : List Pt} {i : Nat} (hi : i < F.length) : F.take (i + 1) = F.take i ++ [gD F i] := by
  unfold gD
  rw [List.take_add_one, List.getElem?_eq_getElem hi, List.getD_eq_getElem?_getD, List.getElem?_eq_getElem hi]; rfl
def rhullL (l F : List Pt) : List Pt := if rflatB l = true then [] else settleW F.dropLast
end Go.Stn

namespace Go.Proofs.YtahahmelnaphjaaDoor
open Go.K Go.Stn Go.RowKit
theorem en111 : En Tryd.prog 111 := en_of Tryd.func111 (by kernel_rfl) (by kernel_rfl)
theorem en112 : En Tryd.prog 112 := en_of Tryd.func112 (by kernel_rfl) (by kernel_rfl)
set_option maxRecDepth 100000 in
set_option maxHeartbeats 1000000 in
theorem rhas_c (a : Option Addr) (cap : Nat) (l : List Pt) (p : Pt) (w : World) (hl : Has w (Pts a l)) (hs : Small l.length) :
    Calls Tryd.prog 111 #[.slice a l.length cap, .agg #[.int .i64 p.x, .int .i64 p.z]] w (Pure (.bool (hasB l p)) w) := by
  refine calls_of_gk (vs := [_, _]) Tryd.func111 rfl rfl (Nat.le_of_ble_eq_true rfl) ?_
  refine gk_seq ?_
  refine gk_region ?_
  refine gk_yx rfl rfl (yx_box (vs := [_, _]) rfl rfl) fun b3 => ?_
  refine gk_y rfl rfl (y_assign rfl) ?_
  refine gk_nil (gk_sub (T' := [(0,_), (3,_), (4,_)]) ⟨rfl, rfl, rfl, trivial⟩ ?_)
  refine gk_seq ?_
  refine gk_seq ?_
  refine gk_region ?_
  refine gk_y rfl rfl (y_assign rfl) ?_
  refine gk_nil (gk_sub (T' := [(0,_), (3,_), (4,_), (5,_)]) ⟨rfl, rfl, rfl, rfl, trivial⟩ ?_)
  refine gk_block ?_
  refine gk_loop (X := Int) (fun (i : Int) => [(0, .slice a l.length cap), (3, .pointer (some ⟨b3, 0, none⟩)), (4, .bool false), (5, .int .i64 i)]) (fun (i : Int) => [Box b3 [.int .i64 p.x, .int .i64 p.z] 24]) (fun (i : Int) => (0 ≤ i ∧ i ≤ l.length ∧ hasB (l.take i.toNat) p = false)) (fun (i : Int) => (l.length - i).toNat) 0 ⟨rfl, rfl, rfl, rfl, trivial⟩ rfl ?_ ?_
  · exact ⟨by omega, by omega, rfl⟩
  · rintro i hI
    obtain ⟨g0, g1, g2⟩ := hI
    refine gk_seq ?_
    refine gk_seq ?_
    refine gk_region ?_
    refine gk_y rfl rfl (y_move rfl) ?_
    refine gk_y rfl rfl (y_move rfl) ?_
    refine gk_y rfl rfl (y_lenS (Tryd.underlying22) rfl) ?_
    refine gk_y rfl rfl (y_lss rfl rfl) ?_
    refine gk_nil (gk_sub (T' := [(0,_), (3,_), (4,_), (5,_), (9,_)]) ⟨rfl, rfl, rfl, rfl, rfl, trivial⟩ ?_)
    refine gk_cond rfl (fun hc9 => ?_) (fun hc9 => ?_)
    · have hc9 := of_decide_eq_true hc9
      refine gk_skip ?_
      refine gk_seq ?_
      refine gk_block ?_
      refine gk_seq ?_
      refine gk_any 6 (fun _ => mixed) (by kernel_rfl) ?_
      refine ph_y (y_move rfl) ?_
      refine ph_y (y_move rfl) ?_
      refine ph_y (y_indexE se22 rfl rfl (fun _ hw => (Rd.has (Has.rd hl) hw)) (by omega) (by omega)) ?_
      refine ph_y (y_loadE (vs := [_, _]) tf24 rfl (fun _ hw => (Rd.has (Has.rd hl) hw)) (by omega) (by omega) rfl) ?_
      refine ph_y (y_loadBA 0 tf24 rfl rfl (vs := [_, _]) rfl rfl) ?_
      refine ph_y (y_eql24 rfl rfl) ?_
      refine gk_nil (gk_sub (T' := [(0,_), (3,_), (4,_), (5,_), (17,_)]) ⟨rfl, rfl, rfl, rfl, rfl, trivial⟩ ?_)
      refine gk_cond rfl (fun hc17 => ?_) (fun hc17 => ?_)
      · skip
        refine gk_seq ?_
        refine gk_region ?_
        refine gk_y rfl rfl (y_assign rfl) ?_
        refine gk_nil (gk_sub (T' := [(0,_), (3,_), (4,_), (5,_)]) ⟨rfl, rfl, rfl, rfl, trivial⟩ ?_)
        refine gk_ret ?_
        refine gk_pure (rv_one rfl (r1_tmp rfl)) ?_
        have hlt : i.toNat < l.length := by omega
        have : hasB l p = true := by
          unfold hasB
          refine List.any_eq_true.2 ⟨l.getD i.toNat default, ?_, hc17⟩
          rw [List.getD_eq_getElem?_getD, List.getElem?_eq_getElem hlt]
          exact List.getElem_mem hlt
        rw [this]
      · skip
        refine gk_skip ?_
        refine gk_region ?_
        refine gk_y rfl rfl (y_move rfl) ?_
        refine gk_y rfl rfl (y_addI rfl rfl (by omega) (by omega)) ?_
        refine gk_y rfl rfl (y_assign rfl) ?_
        refine gk_nil (gk_sub (T' := [(0,_), (3,_), (4,_), (5,_)]) ⟨rfl, rfl, rfl, rfl, trivial⟩ ?_)
        exact gk_next (i + 1) ⟨rfl, rfl, rfl, rfl, trivial⟩ rfl ⟨by omega, by omega, by rw [hasB, take_succ g0 hc9, List.any_append, ← hasB, g2]; simpa using hc17⟩ (by omega)
    · have hc9 := of_decide_eq_false hc9
      refine gk_exit rfl ?_
      refine gk_seq ?_
      refine gk_region ?_
      refine gk_y rfl rfl (y_assign rfl) ?_
      refine gk_nil (gk_sub (T' := [(4,_)]) ⟨rfl, trivial⟩ ?_)
      refine gk_ret ?_
      refine gk_pure (rv_one rfl (r1_tmp rfl)) ?_
      rw [List.take_of_length_le (by omega)] at g2; rw [g2]
set_option maxRecDepth 100000 in
set_option maxHeartbeats 1000000 in
theorem rfar_c (p q : Pt) (w : World)  :
    Calls Tryd.prog 112 #[.agg #[.int .i64 p.x, .int .i64 p.z], .agg #[.int .i64 q.x, .int .i64 q.z]] w (Pure (.int .i64 (rfarW p q)) w) := by
  refine calls_of_gk (vs := [_, _]) Tryd.func112 rfl rfl (Nat.le_of_ble_eq_true rfl) ?_
  refine gk_seq ?_
  refine gk_region ?_
  refine gk_yx rfl rfl (yx_box (vs := [_, _]) rfl rfl) fun b2 => ?_
  refine gk_yx rfl rfl (yx_box (vs := [_, _]) rfl rfl) fun b3 => ?_
  refine gk_y rfl rfl (y_assign rfl) ?_
  refine gk_nil (gk_sub (T' := [(2,_), (3,_), (4,_)]) ⟨rfl, rfl, rfl, trivial⟩ ?_)
  refine gk_seq ?_
  refine gk_region ?_
  refine gk_y rfl rfl (y_fieldAddr fo24_0 rfl) ?_
  refine gk_y rfl rfl (y_loadB1 1 tf3 rfl rfl rfl) ?_
  refine gk_y rfl rfl (y_fieldAddr fo24_0 rfl) ?_
  refine gk_y rfl rfl (y_loadB1 0 tf3 rfl rfl rfl) ?_
  refine gk_y rfl rfl (y_sub rfl rfl) ?_
  refine gk_y rfl rfl (y_fieldAddr fo24_0 rfl) ?_
  refine gk_y rfl rfl (y_loadB1 1 tf3 rfl rfl rfl) ?_
  refine gk_y rfl rfl (y_fieldAddr fo24_0 rfl) ?_
  refine gk_y rfl rfl (y_loadB1 0 tf3 rfl rfl rfl) ?_
  refine gk_y rfl rfl (y_sub rfl rfl) ?_
  refine gk_y rfl rfl (y_mul rfl rfl) ?_
  refine gk_y rfl rfl (y_fieldAddr fo24_1 rfl) ?_
  refine gk_y rfl rfl (y_loadB1 1 tf3 rfl rfl rfl) ?_
  refine gk_y rfl rfl (y_fieldAddr fo24_1 rfl) ?_
  refine gk_y rfl rfl (y_loadB1 0 tf3 rfl rfl rfl) ?_
  refine gk_y rfl rfl (y_sub rfl rfl) ?_
  refine gk_y rfl rfl (y_fieldAddr fo24_1 rfl) ?_
  refine gk_y rfl rfl (y_loadB1 1 tf3 rfl rfl rfl) ?_
  refine gk_y rfl rfl (y_fieldAddr fo24_1 rfl) ?_
  refine gk_y rfl rfl (y_loadB1 0 tf3 rfl rfl rfl) ?_
  refine gk_y rfl rfl (y_sub rfl rfl) ?_
  refine gk_y rfl rfl (y_mul rfl rfl) ?_
  refine gk_y rfl rfl (y_add rfl rfl) ?_
  refine gk_y rfl rfl (y_assign rfl) ?_
  refine gk_nil (gk_sub (T' := [(4,_)]) ⟨rfl, trivial⟩ ?_)
  refine gk_ret ?_
  refine gk_pure (rv_one rfl (r1_tmp rfl)) ?_
  rfl
set_option maxRecDepth 100000 in
set_option maxHeartbeats 1000000 in
theorem rhull_c (a : Option Addr) (cap : Nat) (l : List Pt) (F : List Pt) (w : World) (hl : Has w (Pts a l)) (hs : Small l.length) (hsF : Small F.length) (hF : rflatB l = false → Round l F) :
    Calls Tryd.prog 51 #[.slice a l.length cap] w (Gives (fun z : Option Addr × Nat => .tuple #[.slice z.1 (rhullL l F).length z.2, .bool (!rflatB l)]) (fun z => Row z.1 2 z.2 24 encPt (rhullL l F)) w) := by
  refine calls_of_gk (vs := [_]) Tryd.func51 rfl rfl (Nat.le_of_ble_eq_true rfl) ?_
  refine gk_seq ?_
  refine gk_region ?_
  refine gk_y rfl rfl (y_assign rfl) ?_
  refine gk_y rfl rfl (y_assign rfl) ?_
  refine gk_nil (gk_sub (T' := [(0,_), (2,_), (3,_)]) ⟨rfl, rfl, rfl, trivial⟩ ?_)
  refine gk_seq ?_
  refine gk_region ?_
  refine gk_y rfl rfl (y_assign rfl) ?_
  refine gk_nil (gk_sub (T' := [(0,_), (2,_), (3,_), (4,_)]) ⟨rfl, rfl, rfl, rfl, trivial⟩ ?_)
  refine gk_seq ?_
  refine gk_seq ?_
  refine gk_region ?_
  refine gk_y rfl rfl (y_assign rfl) ?_
  refine gk_nil (gk_sub (T' := [(0,_), (2,_), (3,_), (4,_), (5,_)]) ⟨rfl, rfl, rfl, rfl, rfl, trivial⟩ ?_)
  refine gk_block ?_
  refine gk_loop (X := Int) (fun (i : Int) => [(0, .slice a l.length cap), (2, .slice none 0 0), (3, .bool false), (4, .bool (flatN l i.toNat)), (5, .int .i64 i)]) (fun (i : Int) => []) (fun (i : Int) => (0 ≤ i ∧ i ≤ l.length)) (fun (i : Int) => (l.length - i).toNat) 0 ⟨rfl, rfl, rfl, rfl, rfl, trivial⟩ rfl ?_ ?_
  · exact ⟨by omega, by omega⟩
  · rintro i hI
    obtain ⟨g0, g1⟩ := hI
    refine gk_seq ?_
    refine gk_seq ?_
    refine gk_region ?_
    refine gk_y rfl rfl (y_move rfl) ?_
    refine gk_y rfl rfl (y_move rfl) ?_
    refine gk_y rfl rfl (y_lenS (Tryd.underlying22) rfl) ?_
    refine gk_y rfl rfl (y_lss rfl rfl) ?_
    refine gk_nil (gk_sub (T' := [(0,_), (2,_), (3,_), (4,_), (5,_), (16,_)]) ⟨rfl, rfl, rfl, rfl, rfl, rfl, trivial⟩ ?_)
    refine gk_cond rfl (fun hc16 => ?_) (fun hc16 => ?_)
    · have hc16 := of_decide_eq_true hc16
      refine gk_skip ?_
      refine gk_seq ?_
      refine gk_block ?_
      refine gk_seq ?_
      refine gk_region ?_
      refine gk_y rfl rfl (y_assign rfl) ?_
      refine gk_nil (gk_sub (T' := [(0,_), (2,_), (3,_), (4,_), (5,_), (6,_)]) ⟨rfl, rfl, rfl, rfl, rfl, rfl, trivial⟩ ?_)
      refine gk_sub (T' := [(0,_), (2,_), (3,_), (4, .bool (flatN l i.toNat && rowF l (l.getD i.toNat default) (Int.toNat 0))), (5,_), (6,_)]) ⟨rfl, rfl, rfl, (by rw [show rowF l _ (Int.toNat 0) = true from rfl, Bool.and_true]; rfl), rfl, rfl, trivial⟩ ?_
      refine gk_block ?_
      refine gk_loop (X := Int) (fun (k : Int) => [(0, .slice a l.length cap), (2, .slice none 0 0), (3, .bool false), (4, .bool (flatN l i.toNat && rowF l (l.getD i.toNat default) k.toNat)), (5, .int .i64 i), (6, .int .i64 k)]) (fun (k : Int) => []) (fun (k : Int) => (0 ≤ k ∧ k ≤ l.length)) (fun (k : Int) => (l.length - k).toNat) 0 ⟨rfl, rfl, rfl, rfl, rfl, rfl, trivial⟩ rfl ?_ ?_
      · exact ⟨by omega, by omega⟩
      · rintro k hI
        obtain ⟨k0, k1⟩ := hI
        refine gk_seq ?_
        refine gk_seq ?_
        refine gk_region ?_
        refine gk_y rfl rfl (y_move rfl) ?_
        refine gk_y rfl rfl (y_move rfl) ?_
        refine gk_y rfl rfl (y_lenS (Tryd.underlying22) rfl) ?_
        refine gk_y rfl rfl (y_lss rfl rfl) ?_
        refine gk_nil (gk_sub (T' := [(0,_), (2,_), (3,_), (4,_), (5,_), (6,_), (22,_)]) ⟨rfl, rfl, rfl, rfl, rfl, rfl, rfl, trivial⟩ ?_)
        refine gk_cond rfl (fun hc22 => ?_) (fun hc22 => ?_)
        · have hc22 := of_decide_eq_true hc22
          refine gk_skip ?_
          refine gk_seq ?_
          refine gk_block ?_
          refine gk_any 17 (fun _ => mixed) (by kernel_rfl) ?_
          refine ph_y (y_move rfl) ?_
          refine ph_y (y_move rfl) ?_
          refine ph_gT rfl rfl (fun hgd => by (try rw [hgd]); exact (y_move rfl)) ?_
          refine ph_gT rfl rfl (fun hgd => by (try rw [hgd]); exact (y_indexE se22 rfl rfl (fun _ hw => (Rd.has (Has.rd hl) hw)) (by omega) (by omega))) ?_
          refine ph_gT rfl rfl (fun hgd => by (try rw [hgd]); exact (y_loadE (vs := [_, _]) tf24 rfl (fun _ hw => (Rd.has (Has.rd hl) hw)) (by omega) (by omega) rfl)) ?_
          refine ph_gT rfl rfl (fun hgd => by (try rw [hgd]); exact (y_move rfl)) ?_
          refine ph_gT rfl rfl (fun hgd => by (try rw [hgd]); exact (y_move rfl)) ?_
          refine ph_gT rfl rfl (fun hgd => by (try rw [hgd]); exact (y_indexE se22 rfl rfl (fun _ hw => (Rd.has (Has.rd hl) hw)) (by omega) (by omega))) ?_
          refine ph_gT rfl rfl (fun hgd => by (try rw [hgd]); exact (y_loadE (vs := [_, _]) tf24 rfl (fun _ hw => (Rd.has (Has.rd hl) hw)) (by omega) (by omega) rfl)) ?_
          refine ph_gT rfl rfl (fun hgd => by (try rw [hgd]); exact (y_move rfl)) ?_
          refine ph_gT rfl rfl (fun hgd => by (try rw [hgd]); exact (y_move rfl)) ?_
          refine ph_gT rfl rfl (fun hgd => by (try rw [hgd]); exact (y_indexE se22 rfl rfl (fun _ hw => (Rd.has (Has.rd hl) hw)) (by omega) (by omega))) ?_
          refine ph_gT rfl rfl (fun hgd => by (try rw [hgd]); exact (y_loadE (vs := [_, _]) tf24 rfl (fun _ hw => (Rd.has (Has.rd hl) hw)) (by omega) (by omega) rfl)) ?_
          refine ph_gT rfl rfl (fun hgd => by (try rw [hgd]); exact (y_call (v := .int .i64 (sideW (l.getD 0 default) (l.getD i.toNat default) (l.getD k.toNat default))) en79 rfl (fun w hw => side_c ⟨_, _⟩ ⟨_, _⟩ ⟨_, _⟩ w))) ?_
          refine ph_gT rfl rfl (fun hgd => by (try rw [hgd]); exact (y_eql rfl rfl)) ?_
          refine ph_y (y_pickAnd rfl rfl rfl) ?_
          refine ph_y (y_assign rfl) ?_
          refine gk_nil (gk_sub (T' := [(0,_), (2,_), (3,_), (4,_), (5,_), (6,_)]) ⟨rfl, rfl, rfl, rfl, rfl, rfl, trivial⟩ ?_)
          refine gk_sub (T' := [(0,_), (2,_), (3,_), (4, .bool (flatN l i.toNat && rowF l (l.getD i.toNat default) (k + 1).toNat)), (5,_), (6,_)]) ⟨rfl, rfl, rfl, (by rw [rowF_succ k0 hc22, ← Bool.and_assoc]; rfl), rfl, rfl, trivial⟩ ?_
          refine gk_region ?_
          refine gk_y rfl rfl (y_move rfl) ?_
          refine gk_y rfl rfl (y_addI rfl rfl (by omega) (by omega)) ?_
          refine gk_y rfl rfl (y_assign rfl) ?_
          refine gk_nil (gk_sub (T' := [(0,_), (2,_), (3,_), (4,_), (5,_), (6,_)]) ⟨rfl, rfl, rfl, rfl, rfl, rfl, trivial⟩ ?_)
          exact gk_next (k + 1) ⟨rfl, rfl, rfl, rfl, rfl, rfl, trivial⟩ rfl ⟨by omega, by omega⟩ (by omega)
        · have hc22 := of_decide_eq_false hc22
          obtain rfl : k = (l.length : Int) := by omega
          refine gk_exit rfl ?_
          refine gk_region ?_
          refine gk_y rfl rfl (y_move rfl) ?_
          refine gk_y rfl rfl (y_addI rfl rfl (by omega) (by omega)) ?_
          refine gk_y rfl rfl (y_assign rfl) ?_
          refine gk_nil (gk_sub (T' := [(0,_), (2,_), (3,_), (4,_), (5,_)]) ⟨rfl, rfl, rfl, rfl, rfl, trivial⟩ ?_)
          refine gk_sub (T' := [(0,_), (2,_), (3,_), (4, .bool (flatN l (i + 1).toNat)), (5,_)]) ⟨rfl, rfl, rfl, (by rw [flatN_succ g0 hc16]; rfl), rfl, trivial⟩ ?_
          exact gk_next (i + 1) ⟨rfl, rfl, rfl, rfl, rfl, trivial⟩ rfl ⟨by omega, by omega⟩ (by omega)
    · have hc16 := of_decide_eq_false hc16
      obtain rfl : i = (l.length : Int) := by omega
      refine gk_exit rfl ?_
      refine gk_seq ?_
      refine gk_seq ?_
      refine gk_region ?_
      refine gk_y rfl rfl (y_move rfl) ?_
      refine gk_nil (gk_sub (T' := [(0,_), (2,_), (3,_), (41,_)]) ⟨rfl, rfl, rfl, rfl, trivial⟩ ?_)
      refine gk_cond rfl (fun hc41 => ?_) (fun hc41 => ?_)
      · have hfl : rflatB l = true := hc41
        refine gk_newNil 24 encPt 2 ?_
        refine gk_seq ?_
        refine gk_region ?_
        refine gk_y rfl rfl (y_assign rfl) ?_
        refine gk_y rfl rfl (y_assign rfl) ?_
        refine gk_nil (gk_sub (T' := [(0,_), (2,_), (3,_)]) ⟨rfl, rfl, rfl, trivial⟩ ?_)
        refine gk_ret ?_
        refine gk_gives (none, 0) 0 (rv_two rfl (r1_tmp rfl) (r1_tmp rfl)) ?_ (by simp only [rhullL, if_pos hfl]; rfl)
        simp only [rhullL, if_pos hfl]; rw [hfl]; rfl
      · have hfl : rflatB l = false := hc41
        have hR := hF hfl
        have h4 := hR.wrap.len
        have h0 : 0 < l.length := List.length_pos_of_mem (hR.wrap.mem 0 (by omega))
        obtain ⟨f0, f1⟩ := rfirst_in h0
        refine gk_skip ?_
        refine gk_seq ?_
        refine gk_region ?_
        refine gk_y rfl rfl (y_move rfl) ?_
        refine gk_y rfl rfl (y_move rfl) ?_
        refine gk_y rfl rfl (y_call en110 rfl (fun w hw => rfirst_c _ _ l w (Rd.has (Has.rd hl) hw) (by assumption))) ?_
        refine gk_y rfl rfl (y_indexE se22 rfl rfl (fun _ hw => (Rd.has (Has.rd hl) hw)) (by omega) (by omega)) ?_
        refine gk_y rfl rfl (y_loadE (vs := [_, _]) tf24 rfl (fun _ hw => (Rd.has (Has.rd hl) hw)) (by omega) (by omega) rfl) ?_
        refine gk_yx rfl rfl (yx_alloc tf24 (zs := [_, _]) rfl) fun b7 => ?_
        refine gk_storeV 0 tf24 rfl rfl (vs := [_, _]) rfl rfl rfl rfl rfl ?_
        refine gk_nil (gk_sub (T' := [(0,_), (2,_), (3,_), (7,_)]) ⟨rfl, rfl, rfl, rfl, trivial⟩ ?_)
        refine gk_conv (R' := Box b7 [.int .i64 ((gD F 0).x), .int .i64 ((gD F 0).z)] 24) 0 rfl (fun B w hA => by rw [hR.start]; exact hA) ?_
        refine gk_seq ?_
        refine gk_region ?_
        refine gk_y rfl rfl (y_assign rfl) ?_
        refine gk_nil (gk_sub (T' := [(0,_), (2,_), (3,_), (7,_), (8,_)]) ⟨rfl, rfl, rfl, rfl, rfl, trivial⟩ ?_)
        refine gk_newNil 24 encPt 2 ?_
        refine gk_seq ?_
        refine gk_seq ?_
        refine gk_region ?_
        refine gk_y rfl rfl (y_loadBA 1 tf24 rfl rfl (vs := [_, _]) rfl rfl) ?_
        refine gk_yx rfl rfl (yx_alloc tf24 (zs := [_, _]) rfl) fun b9 => ?_
        refine gk_storeV 0 tf24 rfl rfl (vs := [_, _]) rfl rfl rfl rfl rfl ?_
        refine gk_nil (gk_sub (T' := [(0,_), (2,_), (3,_), (8,_), (9,_)]) ⟨rfl, rfl, rfl, rfl, rfl, trivial⟩ ?_)
        refine gk_block ?_
        refine gk_loop (X := Nat × Nat × Option Addr × Nat) (fun ⟨i, b9, b, bc⟩ => [(0, .slice a l.length cap), (2, .slice none 0 0), (3, .bool false), (8, .slice b (F.take i).length bc), (9, .pointer (some ⟨b9, 0, none⟩))]) (fun ⟨i, b9, b, bc⟩ => [Box b9 [.int .i64 ((gD F i).x), .int .i64 ((gD F i).z)] 24, Row b 2 bc 24 encPt (F.take i), Box b7 [.int .i64 ((gD F 0).x), .int .i64 ((gD F 0).z)] 24]) (fun ⟨i, b9, b, bc⟩ => (i < F.length)) (fun ⟨i, b9, b, bc⟩ => (F.length - i)) (0, b9, none, 0) ⟨rfl, rfl, rfl, rfl, rfl, trivial⟩ rfl ?_ ?_
        · exact (by omega : 0 < F.length)
        · rintro ⟨i, b9, b, bc⟩ hI
          have hi : i < F.length := hI
          have hso : Small (F.take i).length := by rw [List.length_take]; unfold Small at *; omega
          refine gk_seq ?_
          refine gk_seq ?_
          refine gk_region ?_
          refine gk_y rfl rfl (y_move rfl) ?_
          refine gk_y rfl rfl (y_loadBA 0 tf24 rfl rfl (vs := [_, _]) rfl rfl) ?_
          refine gk_y rfl rfl (y_call en111 rfl (fun w hw => rhas_c _ _ (F.take i) (gD F i) w (has_row encPt_ok (hw.has (p := 1) rfl)) (by first | assumption | (unfold Small; omega)))) ?_
          refine gk_y rfl rfl (y_not rfl) ?_
          refine gk_nil (gk_sub (T' := [(0,_), (2,_), (3,_), (8,_), (9,_), (51,_)]) ⟨rfl, rfl, rfl, rfl, rfl, rfl, trivial⟩ ?_)
          refine gk_cond rfl (fun hc51 => ?_) (fun hc51 => ?_)
          · have hmo := hR.more hi (by simpa using hc51)
            refine gk_skip ?_
            refine gk_seq ?_
            refine gk_block ?_
            refine gk_seq ?_
            refine gk_region ?_
            refine gk_y rfl rfl (y_move rfl) ?_
            refine gk_y rfl rfl (y_loadBA 0 tf24 rfl rfl (vs := [_, _]) rfl rfl) ?_
            refine gk_yx rfl rfl (yx_buildSlice rfl (bs22_1 _ _) encPt_ok rfl) fun b54 => ?_
            refine gk_append (m := [⟨((gD F i).x), ((gD F i).z)⟩]) 2 af22 encPt_ok rfl rfl rfl rfl (fun _ hw => (has_row encPt_ok (hw.has (p := 0) rfl))) (by first | omega | (simp only [List.length_cons, List.length_nil]; omega)) (by first | (unfold maxLen; omega) | (simp only [List.length_cons, List.length_nil, maxLen]; omega)) fun a55 c55 => ?_
            refine gk_y rfl rfl (y_assign rfl) ?_
            refine gk_nil (gk_sub (T' := [(0,_), (2,_), (3,_), (8,_), (9,_)]) ⟨rfl, rfl, rfl, rfl, rfl, trivial⟩ ?_)
            refine gk_sub (T' := [(0,_), (2,_), (3,_), (8, .slice a55 (F.take (i + 1)).length c55), (9,_)]) ⟨rfl, rfl, rfl, (by rw [gD_take hi]; rfl), rfl, trivial⟩ ?_
            refine gk_conv (R' := Row a55 2 c55 24 encPt (F.take (i + 1))) 2 rfl (fun B w hA => by rw [gD_take hi]; exact hA) ?_
            refine gk_dropAt 0 rfl ?_
            refine gk_seq ?_
            refine gk_region ?_
            refine gk_y rfl rfl (y_loadBA 0 tf24 rfl rfl (vs := [_, _]) rfl rfl) ?_
            refine gk_yx rfl rfl (yx_alloc tf24 (zs := [_, _]) rfl) fun b10 => ?_
            refine gk_storeV 0 tf24 rfl rfl (vs := [_, _]) rfl rfl rfl rfl rfl ?_
            refine gk_nil (gk_sub (T' := [(0,_), (2,_), (3,_), (8,_), (9,_), (10,_)]) ⟨rfl, rfl, rfl, rfl, rfl, rfl, trivial⟩ ?_)
            refine gk_conv (R' := Box b10 [.int .i64 ((scanN l (gD F i) 0).x), .int .i64 ((scanN l (gD F i) 0).z)] 24) 0 rfl (fun B w hA => hA) ?_
            refine gk_seq ?_
            refine gk_seq ?_
            refine gk_region ?_
            refine gk_y rfl rfl (y_assign rfl) ?_
            refine gk_nil (gk_sub (T' := [(0,_), (2,_), (3,_), (8,_), (9,_), (10,_), (11,_)]) ⟨rfl, rfl, rfl, rfl, rfl, rfl, rfl, trivial⟩ ?_)
            refine gk_block ?_
            refine gk_loop (X := Int) (fun (k : Int) => [(0, .slice a l.length cap), (2, .slice none 0 0), (3, .bool false), (8, .slice a55 (F.take (i + 1)).length c55), (9, .pointer (some ⟨b9, 0, none⟩)), (10, .pointer (some ⟨b10, 0, none⟩)), (11, .int .i64 k)]) (fun (k : Int) => [Box b10 [.int .i64 ((scanN l (gD F i) k.toNat).x), .int .i64 ((scanN l (gD F i) k.toNat).z)] 24, Box b9 [.int .i64 ((gD F i).x), .int .i64 ((gD F i).z)] 24, Row a55 2 c55 24 encPt (F.take (i + 1)), Box b7 [.int .i64 ((gD F 0).x), .int .i64 ((gD F 0).z)] 24]) (fun (k : Int) => (0 ≤ k ∧ k ≤ l.length)) (fun (k : Int) => (l.length - k).toNat) 0 ⟨rfl, rfl, rfl, rfl, rfl, rfl, rfl, trivial⟩ rfl ?_ ?_
            · exact ⟨by omega, by omega⟩
            · rintro k hI
              obtain ⟨k0, k1⟩ := hI
              refine gk_seq ?_
              refine gk_seq ?_
              refine gk_region ?_
              refine gk_y rfl rfl (y_move rfl) ?_
              refine gk_y rfl rfl (y_move rfl) ?_
              refine gk_y rfl rfl (y_lenS (Tryd.underlying22) rfl) ?_
              refine gk_y rfl rfl (y_lss rfl rfl) ?_
              refine gk_nil (gk_sub (T' := [(0,_), (2,_), (3,_), (8,_), (9,_), (10,_), (11,_), (60,_)]) ⟨rfl, rfl, rfl, rfl, rfl, rfl, rfl, rfl, trivial⟩ ?_)
              refine gk_cond rfl (fun hc60 => ?_) (fun hc60 => ?_)
              · have hc60 := of_decide_eq_true hc60
                refine gk_skip ?_
                refine gk_seq ?_
                refine gk_block ?_
                refine gk_seq ?_
                refine gk_region ?_
                refine gk_y rfl rfl (y_move rfl) ?_
                refine gk_y rfl rfl (y_move rfl) ?_
                refine gk_y rfl rfl (y_indexE se22 rfl rfl (fun _ hw => (Rd.has (Has.rd hl) hw)) (by omega) (by omega)) ?_
                refine gk_y rfl rfl (y_loadE (vs := [_, _]) tf24 rfl (fun _ hw => (Rd.has (Has.rd hl) hw)) (by omega) (by omega) rfl) ?_
                refine gk_yx rfl rfl (yx_alloc tf24 (zs := [_, _]) rfl) fun b12 => ?_
                refine gk_storeV 0 tf24 rfl rfl (vs := [_, _]) rfl rfl rfl rfl rfl ?_
                refine gk_nil (gk_sub (T' := [(0,_), (2,_), (3,_), (8,_), (9,_), (10,_), (11,_), (12,_)]) ⟨rfl, rfl, rfl, rfl, rfl, rfl, rfl, rfl, trivial⟩ ?_)
                refine gk_seq ?_
                refine gk_any 26 (fun _ => mixed) (by kernel_rfl) ?_
                refine ph_y (y_loadBA 1 tf24 rfl rfl (vs := [_, _]) rfl rfl) ?_
                refine ph_y (y_loadBA 2 tf24 rfl rfl (vs := [_, _]) rfl rfl) ?_
                refine ph_y (y_eql24 rfl rfl) ?_
                refine ph_y (y_move rfl) ?_
                refine ph_gF rfl rfl (fun hgd => by (try rw [hgd]); exact (y_loadBA 2 tf24 rfl rfl (vs := [_, _]) rfl rfl)) ?_
                refine ph_gF rfl rfl (fun hgd => by (try rw [hgd]); exact (y_loadBA 1 tf24 rfl rfl (vs := [_, _]) rfl rfl)) ?_
                refine ph_gF rfl rfl (fun hgd => by (try rw [hgd]); exact (y_loadBA 0 tf24 rfl rfl (vs := [_, _]) rfl rfl)) ?_
                refine ph_gF rfl rfl (fun hgd => by (try rw [hgd]); exact (y_call (v := .int .i64 (sideW (gD F i) (scanN l (gD F i) k.toNat) (l.getD (k).toNat default))) en79 rfl (fun w hw => side_c ⟨_, _⟩ ⟨_, _⟩ ⟨_, _⟩ w))) ?_
                refine ph_gF rfl rfl (fun hgd => by (try rw [hgd]); exact (y_lss rfl rfl)) ?_
                refine ph_y (y_pickOr rfl rfl rfl) ?_
                refine ph_y (y_move rfl) ?_
                refine ph_gF rfl rfl (fun hgd => by (try rw [hgd]); exact (y_loadBA 2 tf24 rfl rfl (vs := [_, _]) rfl rfl)) ?_
                refine ph_gF rfl rfl (fun hgd => by (try rw [hgd]); exact (y_loadBA 1 tf24 rfl rfl (vs := [_, _]) rfl rfl)) ?_
                refine ph_gF rfl rfl (fun hgd => by (try rw [hgd]); exact (y_loadBA 0 tf24 rfl rfl (vs := [_, _]) rfl rfl)) ?_
                refine ph_gF rfl rfl (fun hgd => by (try rw [hgd]); exact (y_call (v := .int .i64 (sideW (gD F i) (scanN l (gD F i) k.toNat) (l.getD (k).toNat default))) en79 rfl (fun w hw => side_c ⟨_, _⟩ ⟨_, _⟩ ⟨_, _⟩ w))) ?_
                refine ph_gF rfl rfl (fun hgd => by (try rw [hgd]); exact (y_eql rfl rfl)) ?_
                refine ph_gF rfl rfl (fun hgd => by (try rw [hgd]); exact (y_move rfl)) ?_
                refine ph_gTT rfl rfl (fun hgd => by (try rw [hgd]); exact (y_loadBA 2 tf24 rfl rfl (vs := [_, _]) rfl rfl)) ?_
                refine ph_gTT rfl rfl (fun hgd => by (try rw [hgd]); exact (y_loadBA 0 tf24 rfl rfl (vs := [_, _]) rfl rfl)) ?_
                refine ph_gTT rfl rfl (fun hgd => by (try rw [hgd]); exact (y_call (v := .int .i64 (rfarW (gD F i) (l.getD (k).toNat default))) en112 rfl (fun w hw => rfar_c ⟨_, _⟩ ⟨_, _⟩ w))) ?_
                refine ph_gTT rfl rfl (fun hgd => by (try rw [hgd]); exact (y_loadBA 2 tf24 rfl rfl (vs := [_, _]) rfl rfl)) ?_
                refine ph_gTT rfl rfl (fun hgd => by (try rw [hgd]); exact (y_loadBA 1 tf24 rfl rfl (vs := [_, _]) rfl rfl)) ?_
                refine ph_gTT rfl rfl (fun hgd => by (try rw [hgd]); exact (y_call (v := .int .i64 (rfarW (gD F i) (scanN l (gD F i) k.toNat))) en112 rfl (fun w hw => rfar_c ⟨_, _⟩ ⟨_, _⟩ w))) ?_
                refine ph_gTT rfl rfl (fun hgd => by (try rw [hgd]); exact (y_gtr rfl rfl)) ?_
                refine ph_gF rfl rfl (fun hgd => by (try rw [hgd]); exact (y_pickAnd rfl rfl rfl)) ?_
                refine ph_y (y_pickOr rfl rfl rfl) ?_
                refine gk_nil (gk_sub (T' := [(0,_), (2,_), (3,_), (8,_), (9,_), (10,_), (11,_), (12,_), (92,_)]) ⟨rfl, rfl, rfl, rfl, rfl, rfl, rfl, rfl, rfl, trivial⟩ ?_)
                refine gk_cond rfl (fun hc92 => ?_) (fun hc92 => ?_)
                · skip
                  refine gk_region ?_
                  refine gk_y rfl rfl (y_loadBA 0 tf24 rfl rfl (vs := [_, _]) rfl rfl) ?_
                  refine gk_storeV 1 tf24 rfl rfl (vs := [_, _]) rfl rfl rfl rfl rfl ?_
                  refine gk_nil (gk_sub (T' := [(0,_), (2,_), (3,_), (8,_), (9,_), (10,_), (11,_)]) ⟨rfl, rfl, rfl, rfl, rfl, rfl, rfl, trivial⟩ ?_)
                  refine gk_region ?_
                  refine gk_y rfl rfl (y_move rfl) ?_
                  refine gk_y rfl rfl (y_addI rfl rfl (by omega) (by omega)) ?_
                  refine gk_y rfl rfl (y_assign rfl) ?_
                  refine gk_nil (gk_sub (T' := [(0,_), (2,_), (3,_), (8,_), (9,_), (10,_), (11,_)]) ⟨rfl, rfl, rfl, rfl, rfl, rfl, rfl, trivial⟩ ?_)
                  refine gk_conv (R' := Box b10 [.int .i64 ((scanN l (gD F i) (k + 1).toNat).x), .int .i64 ((scanN l (gD F i) (k + 1).toNat).z)] 24) 1 rfl (fun B w hA => by rw [scan_succ k0 hc60]; unfold scanF; first | (rw [if_pos (show scanB (gD F i) (scanN l (gD F i) k.toNat) (l.getD k.toNat default) = true from hc92)]; exact hA) | (rw [if_neg (show ¬ scanB (gD F i) (scanN l (gD F i) k.toNat) (l.getD k.toNat default) = true from by rw [show scanB (gD F i) (scanN l (gD F i) k.toNat) (l.getD k.toNat default) = false from hc92]; exact Bool.false_ne_true)]; exact hA)) ?_
                  refine gk_dropAt 0 rfl ?_
                  exact gk_next (k + 1) ⟨rfl, rfl, rfl, rfl, rfl, rfl, rfl, trivial⟩ rfl ⟨by omega, by omega⟩ (by omega)
                · skip
                  refine gk_skip ?_
                  refine gk_region ?_
                  refine gk_y rfl rfl (y_move rfl) ?_
                  refine gk_y rfl rfl (y_addI rfl rfl (by omega) (by omega)) ?_
                  refine gk_y rfl rfl (y_assign rfl) ?_
                  refine gk_nil (gk_sub (T' := [(0,_), (2,_), (3,_), (8,_), (9,_), (10,_), (11,_)]) ⟨rfl, rfl, rfl, rfl, rfl, rfl, rfl, trivial⟩ ?_)
                  refine gk_conv (R' := Box b10 [.int .i64 ((scanN l (gD F i) (k + 1).toNat).x), .int .i64 ((scanN l (gD F i) (k + 1).toNat).z)] 24) 1 rfl (fun B w hA => by rw [scan_succ k0 hc60]; unfold scanF; first | (rw [if_pos (show scanB (gD F i) (scanN l (gD F i) k.toNat) (l.getD k.toNat default) = true from hc92)]; exact hA) | (rw [if_neg (show ¬ scanB (gD F i) (scanN l (gD F i) k.toNat) (l.getD k.toNat default) = true from by rw [show scanB (gD F i) (scanN l (gD F i) k.toNat) (l.getD k.toNat default) = false from hc92]; exact Bool.false_ne_true)]; exact hA)) ?_
                  refine gk_dropAt 0 rfl ?_
                  exact gk_next (k + 1) ⟨rfl, rfl, rfl, rfl, rfl, rfl, rfl, trivial⟩ rfl ⟨by omega, by omega⟩ (by omega)
              · have hc60 := of_decide_eq_false hc60
                obtain rfl : k = (l.length : Int) := by omega
                refine gk_exit rfl ?_
                refine gk_region ?_
                refine gk_y rfl rfl (y_loadBA 0 tf24 rfl rfl (vs := [_, _]) rfl rfl) ?_
                refine gk_storeV 1 tf24 rfl rfl (vs := [_, _]) rfl rfl rfl rfl rfl ?_
                refine gk_nil (gk_sub (T' := [(0,_), (2,_), (3,_), (8,_), (9,_)]) ⟨rfl, rfl, rfl, rfl, rfl, trivial⟩ ?_)
                refine gk_seq ?_
                refine gk_region ?_
                refine gk_y rfl rfl (y_loadBA 1 tf24 rfl rfl (vs := [_, _]) rfl rfl) ?_
                refine gk_nil (gk_sub (T' := [(0,_), (2,_), (3,_), (8,_), (9,_), (95,_)]) ⟨rfl, rfl, rfl, rfl, rfl, rfl, trivial⟩ ?_)
                refine gk_region ?_
                refine gk_yx rfl rfl (yx_alloc tf24 (zs := [_, _]) rfl) fun b9' => ?_
                refine gk_storeV 0 tf24 rfl rfl (vs := [_, _]) rfl rfl rfl rfl rfl ?_
                refine gk_nil (gk_sub (T' := [(0,_), (2,_), (3,_), (8,_), (9,_)]) ⟨rfl, rfl, rfl, rfl, rfl, trivial⟩ ?_)
                refine gk_dropAt 2 rfl ?_
                refine gk_conv (R' := Box b9' [.int .i64 (gD F (i + 1)).x, .int .i64 (gD F (i + 1)).z] 24) 0 rfl (fun B w hA => by rw [hmo.2]; exact hA) ?_
                refine gk_dropAt 1 rfl ?_
                exact gk_next (i + 1, b9', a55, c55) ⟨rfl, rfl, rfl, rfl, rfl, trivial⟩ rfl hmo.1 (by have := hmo.1; simp only []; omega)
          · have hst := hR.stop hi (by simpa using hc51)
            have hlp : 0 < (F.take i).length := by rw [hst, List.length_dropLast]; omega
            refine gk_exit rfl ?_
            refine gk_seq ?_
            refine gk_region ?_
            refine gk_y rfl rfl (y_move rfl) ?_
            refine gk_yx rfl rfl (yx_call en62 rfl (fun w hw => settle_c _ _ (F.take i) w (has_row encPt_ok (hw.has (p := 1) rfl)) (by assumption) (by assumption))) fun p97 => ?_
            refine gk_y rfl rfl (y_assign rfl) ?_
            refine gk_y rfl rfl (y_assign rfl) ?_
            refine gk_nil (gk_sub (T' := [(2,_), (3,_)]) ⟨rfl, rfl, trivial⟩ ?_)
            refine gk_ret ?_
            refine gk_gives p97 0 (rv_two rfl (r1_tmp rfl) (r1_tmp rfl)) ?_ (by simp only [rhullL, if_neg (show ¬ rflatB l = true from by rw [hfl]; decide), hst]; rfl)
            simp only [rhullL, if_neg (show ¬ rflatB l = true from by rw [hfl]; decide), hst]; rw [hfl]; rfl
end Go.Proofs.YtahahmelnaphjaaDoor

namespace Go.Proofs.YtahahmelnaphjaaDoor
open Go.K Go.Stn Go.RowKit
theorem sep_row {α : Type} {R : Res} {a : Option Addr} {k cap : Nat} {e : TypeId} {enc : α → List Value} {l : List α} {B : Nat → Prop} {w : World} (h : (SepR [R, Row a k cap e enc l]).A B w) : ∀ n, subA a k 0 n = a := fun n => by
  obtain ⟨_, _, _, _, _, _, _, _, _, hA, _⟩ := h
  exact row_sub0 hA
theorem sep_cap {α : Type} {R : Res} {a : Option Addr} {k cap : Nat} {e : TypeId} {enc : α → List Value} {l : List α} {B : Nat → Prop} {w : World} (h : (SepR [R, Row a k cap e enc l]).A B w) : l.length ≤ cap := by
  obtain ⟨_, _, _, _, _, _, _, _, _, hA, _⟩ := h
  exact Row.bounds hA
theorem chain_pop {base S : List Pt} {p : Pt} (h : (decide ((base.length : Int) + 1 < ((base ++ S.reverse).length : Int)) && decide (turnW ((base ++ S.reverse).getD (((base ++ S.reverse).length : Int) - 2).toNat default) ((base ++ S.reverse).getD (((base ++ S.reverse).length : Int) - 1).toNat default) p ≤ 0)) = true) :
    addW S.tail p = addW S p ∧ (base ++ S.reverse).take (((base ++ S.reverse).length : Int) - 1).toNat = base ++ S.tail.reverse ∧ S.length = S.tail.length + 1 := by
  rw [Bool.and_eq_true, decide_eq_true_eq, decide_eq_true_eq] at h
  obtain ⟨h1, h2⟩ := h
  match S, h1 with
  | [], h1 => simp at h1; omega
  | [x], h1 => simp at h1
  | b :: a :: r, _ =>
    have hl : (base ++ (b :: a :: r).reverse).length = base.length + r.length + 2 := by simp; omega
    have e : base ++ (b :: a :: r).reverse = base ++ r.reverse ++ [a, b] := by simp
    rw [hl] at h2 ⊢
    have g1 : (base ++ (b :: a :: r).reverse).getD (((base.length + r.length + 2 : Nat) : Int) - 2).toNat default = a := by
      rw [e, List.getD_eq_getElem?_getD, List.getElem?_append_right (by simp; omega)]
      rw [show (((base.length + r.length + 2 : Nat) : Int) - 2).toNat - (base ++ r.reverse).length = 0 from by simp <;> omega]; rfl
    have g2 : (base ++ (b :: a :: r).reverse).getD (((base.length + r.length + 2 : Nat) : Int) - 1).toNat default = b := by
      rw [e, List.getD_eq_getElem?_getD, List.getElem?_append_right (by simp; omega)]
      rw [show (((base.length + r.length + 2 : Nat) : Int) - 1).toNat - (base ++ r.reverse).length = 1 from by simp <;> omega]; rfl
    rw [g1, g2] at h2
    refine ⟨?_, ?_, by simp⟩
    · show addW (a :: r) p = addW (b :: a :: r) p
      conv => rhs; unfold addW
      rw [if_pos h2]
    · show _ = base ++ (a :: r).reverse
      rw [show base ++ (b :: a :: r).reverse = (base ++ (a :: r).reverse) ++ [b] from by simp]
      rw [List.take_append_of_le_length (by simp; omega), List.take_of_length_le (by simp; omega)]
theorem chain_stop {base S : List Pt} {p : Pt} (h : (decide ((base.length : Int) + 1 < ((base ++ S.reverse).length : Int)) && decide (turnW ((base ++ S.reverse).getD (((base ++ S.reverse).length : Int) - 2).toNat default) ((base ++ S.reverse).getD (((base ++ S.reverse).length : Int) - 1).toNat default) p ≤ 0)) = false) :
    addW S p = p :: S := by
  match S with
  | [] => rfl
  | [x] => rfl
  | b :: a :: r =>
    have hl : (base ++ (b :: a :: r).reverse).length = base.length + r.length + 2 := by simp; omega
    have e : base ++ (b :: a :: r).reverse = base ++ r.reverse ++ [a, b] := by simp
    rw [Bool.and_eq_false_iff, decide_eq_false_iff_not, decide_eq_false_iff_not, hl] at h
    have g1 : (base ++ (b :: a :: r).reverse).getD (((base.length + r.length + 2 : Nat) : Int) - 2).toNat default = a := by
      rw [e, List.getD_eq_getElem?_getD, List.getElem?_append_right (by simp; omega)]
      rw [show (((base.length + r.length + 2 : Nat) : Int) - 2).toNat - (base ++ r.reverse).length = 0 from by simp <;> omega]; rfl
    have g2 : (base ++ (b :: a :: r).reverse).getD (((base.length + r.length + 2 : Nat) : Int) - 1).toNat default = b := by
      rw [e, List.getD_eq_getElem?_getD, List.getElem?_append_right (by simp; omega)]
      rw [show (((base.length + r.length + 2 : Nat) : Int) - 1).toNat - (base ++ r.reverse).length = 1 from by simp <;> omega]; rfl
    rw [g1, g2] at h
    unfold addW
    rw [if_neg (h.resolve_left (fun h => h (by omega)))]
set_option maxRecDepth 100000 in
set_option maxHeartbeats 1000000 in
theorem hull2_c (base S0 : List Pt) (p : Pt) (a : Option Addr) (cap0 b : Nat) (w : World) (B : Nat → Prop) (hB : ∀ k, B k → k < w.heap.size) (hA : (SepR [Box b [.slice a (base ++ S0.reverse).length cap0] 31, Row a 2 cap0 32 encPt (base ++ S0.reverse)]).A B w) (hs : base.length + S0.length ≤ 1000000) :
    Calls Tryd.prog 107 #[.agg #[.int .i64 p.x, .int .i64 p.z], .int .i64 base.length, .pointer (some ⟨b, 0, none⟩)] w (Turns (fun _ : Option Addr × Nat => .tuple #[]) (fun z => SepR [Box b [.slice z.1 (base ++ (addW S0 p).reverse).length z.2] 31, Row z.1 2 z.2 32 encPt (base ++ (addW S0 p).reverse)]) (fun _ => True) B w) := by
  have hsub := sep_row hA
  have hcap0 := sep_cap hA
  refine calls_of_gkB hB hA (vs := [_, _, _]) Tryd.func107 rfl rfl (Nat.le_of_ble_eq_true rfl) ?_
  refine gk_split ?_
  refine gk_seq ?_
  refine gk_region ?_
  refine gk_yx rfl rfl (yx_box (vs := [_, _]) rfl rfl) fun b3 => ?_
  refine gk_nil (gk_sub (T' := [(1,_), (2,_), (3,_)]) ⟨rfl, rfl, rfl, trivial⟩ ?_)
  refine gk_seq ?_
  refine gk_block ?_
  refine gk_loop (X := Nat × List Pt) (fun ⟨cap, S⟩ => [(1, .int .i64 base.length), (2, .pointer (some ⟨b, 0, none⟩)), (3, .pointer (some ⟨b3, 0, none⟩))]) (fun ⟨cap, S⟩ => [Box b3 [.int .i64 p.x, .int .i64 p.z] 32, Box b [.slice a (base ++ S.reverse).length cap] 31, Row a 2 cap 32 encPt (base ++ S.reverse)]) (fun ⟨cap, S⟩ => (addW S p = addW S0 p ∧ S.length ≤ S0.length ∧ (base ++ S.reverse).length ≤ cap)) (fun ⟨cap, S⟩ => S.length) (cap0, S0) ⟨rfl, rfl, rfl, trivial⟩ rfl ?_ ?_
  · exact ⟨rfl, Nat.le_refl _, hcap0⟩
  · rintro ⟨cap, S⟩ hI
    obtain ⟨g0, g1, g2⟩ := hI
    have hlen : (base ++ S.reverse).length = base.length + S.length := by simp
    refine gk_seq ?_
    refine gk_seq ?_
    refine gk_any 22 (fun _ => mixed) (by kernel_rfl) ?_
    refine ph_y (y_loadB1 1 tf31 rfl rfl rfl) ?_
    refine ph_y (y_lenS (Tryd.underlying31) rfl) ?_
    refine ph_y (y_move rfl) ?_
    refine ph_y (y_addI rfl rfl (by omega) (by omega)) ?_
    refine ph_y (y_gtr rfl rfl) ?_
    refine ph_y (y_move rfl) ?_
    refine ph_gT rfl rfl (fun hgd => by (try rw [hgd]); have hgd2 := of_decide_eq_true hgd; exact (y_loadB1 1 tf31 rfl rfl rfl)) ?_
    refine ph_gT rfl rfl (fun hgd => by (try rw [hgd]); have hgd2 := of_decide_eq_true hgd; exact (y_loadB1 1 tf31 rfl rfl rfl)) ?_
    refine ph_gT rfl rfl (fun hgd => by (try rw [hgd]); have hgd2 := of_decide_eq_true hgd; exact (y_lenS (Tryd.underlying31) rfl)) ?_
    refine ph_gT rfl rfl (fun hgd => by (try rw [hgd]); have hgd2 := of_decide_eq_true hgd; exact (y_subI rfl rfl (by omega) (by omega))) ?_
    refine ph_gT rfl rfl (fun hgd => by (try rw [hgd]); have hgd2 := of_decide_eq_true hgd; exact (y_indexE se31 rfl rfl (fun _ hw => (has_row encPt_ok (hw.has (p := 2) rfl))) (by omega) (by omega))) ?_
    refine ph_gT rfl rfl (fun hgd => by (try rw [hgd]); have hgd2 := of_decide_eq_true hgd; exact (y_loadE (vs := [_, _]) tf32 rfl (fun _ hw => (has_row encPt_ok (hw.has (p := 2) rfl))) (by omega) (by omega) rfl)) ?_
    refine ph_gT rfl rfl (fun hgd => by (try rw [hgd]); have hgd2 := of_decide_eq_true hgd; exact (y_loadB1 1 tf31 rfl rfl rfl)) ?_
    refine ph_gT rfl rfl (fun hgd => by (try rw [hgd]); have hgd2 := of_decide_eq_true hgd; exact (y_loadB1 1 tf31 rfl rfl rfl)) ?_
    refine ph_gT rfl rfl (fun hgd => by (try rw [hgd]); have hgd2 := of_decide_eq_true hgd; exact (y_lenS (Tryd.underlying31) rfl)) ?_
    refine ph_gT rfl rfl (fun hgd => by (try rw [hgd]); have hgd2 := of_decide_eq_true hgd; exact (y_subI rfl rfl (by omega) (by omega))) ?_
    refine ph_gT rfl rfl (fun hgd => by (try rw [hgd]); have hgd2 := of_decide_eq_true hgd; exact (y_indexE se31 rfl rfl (fun _ hw => (has_row encPt_ok (hw.has (p := 2) rfl))) (by omega) (by omega))) ?_
    refine ph_gT rfl rfl (fun hgd => by (try rw [hgd]); have hgd2 := of_decide_eq_true hgd; exact (y_loadE (vs := [_, _]) tf32 rfl (fun _ hw => (has_row encPt_ok (hw.has (p := 2) rfl))) (by omega) (by omega) rfl)) ?_
    refine ph_gT rfl rfl (fun hgd => by (try rw [hgd]); have hgd2 := of_decide_eq_true hgd; exact (y_loadBA 0 tf32 rfl rfl (vs := [_, _]) rfl rfl)) ?_
    refine ph_gT rfl rfl (fun hgd => by (try rw [hgd]); have hgd2 := of_decide_eq_true hgd; exact (y_call (v := .int .i64 (turnW ((base ++ S.reverse).getD ((((base ++ S.reverse).length : Int) - 2)).toNat default) ((base ++ S.reverse).getD ((((base ++ S.reverse).length : Int) - 1)).toNat default) p)) en108 rfl (fun w hw => turn_c ⟨_, _⟩ ⟨_, _⟩ ⟨_, _⟩ w))) ?_
    refine ph_gT rfl rfl (fun hgd => by (try rw [hgd]); have hgd2 := of_decide_eq_true hgd; exact (y_leq rfl rfl)) ?_
    refine ph_y (y_pickAnd rfl rfl rfl) ?_
    refine gk_nil (gk_sub (T' := [(1,_), (2,_), (3,_), (26,_)]) ⟨rfl, rfl, rfl, rfl, trivial⟩ ?_)
    refine gk_cond rfl (fun hc26 => ?_) (fun hc26 => ?_)
    · obtain ⟨hp, ht, hl1⟩ := chain_pop hc26
      have hl2 : base.length + 1 < (base ++ S.reverse).length := by rw [Bool.and_eq_true, decide_eq_true_eq] at hc26; omega
      refine gk_skip ?_
      refine gk_block ?_
      refine gk_region ?_
      refine gk_y rfl rfl (y_loadB1 1 tf31 rfl rfl rfl) ?_
      refine gk_y rfl rfl (y_loadB1 1 tf31 rfl rfl rfl) ?_
      refine gk_y rfl rfl (y_lenS (Tryd.underlying31) rfl) ?_
      refine gk_y rfl rfl (y_subI rfl rfl (by omega) (by omega)) ?_
      refine gk_y rfl rfl (y_loadB1 1 tf31 rfl rfl rfl) ?_
      refine gk_y rfl rfl (y_lenS (Tryd.underlying31) rfl) ?_
      refine gk_y rfl rfl (y_subI rfl rfl (by omega) (by omega)) ?_
      refine gk_y rfl rfl (y_slice3L se31 rfl rfl rfl (by omega) (by omega) (by omega) (by omega)) ?_
      refine gk_storeV 1 tf31 rfl rfl (vs := [_]) rfl rfl rfl rfl rfl ?_
      refine gk_nil (gk_sub (T' := [(1,_), (2,_), (3,_)]) ⟨rfl, rfl, rfl, trivial⟩ ?_)
      refine gk_conv (R' := Box b [.slice a (base ++ S.tail.reverse).length (((base ++ S.reverse).length : Int) - 1).toNat] 31) 1 rfl (fun B w hA => by rw [← ht]; rw [hsub] at hA; exact hA) ?_
      refine gk_conv (R' := Row a 2 (((base ++ S.reverse).length : Int) - 1).toNat 32 encPt (base ++ S.tail.reverse)) 2 rfl (fun B w hA => by rw [← ht]; exact row_shrink encPt_ok (by omega) B w hA) ?_
      exact gk_next (_, S.tail) ⟨rfl, rfl, rfl, trivial⟩ rfl ⟨hp.trans g0, by omega, by have := congrArg List.length ht; rw [List.length_take] at this; omega⟩ (by simp only []; omega)
    · have hfin : base ++ (addW S0 p).reverse = base ++ S.reverse ++ [p] := by rw [← g0, chain_stop hc26]; simp
      refine gk_exit rfl ?_
      refine gk_region ?_
      refine gk_y rfl rfl (y_loadB1 1 tf31 rfl rfl rfl) ?_
      refine gk_y rfl rfl (y_loadBA 0 tf32 rfl rfl (vs := [_, _]) rfl rfl) ?_
      refine gk_yx rfl rfl (yx_buildSlice rfl (bs31_1 _ _) encPt_ok rfl) fun b37 => ?_
      refine gk_append (m := [⟨p.x, p.z⟩]) 3 af31 encPt_ok rfl rfl rfl rfl (fun _ hw => (has_row encPt_ok (hw.has (p := 0) rfl))) (by first | omega | (simp only [List.length_cons, List.length_nil]; omega)) (by first | (unfold maxLen; omega) | (simp only [List.length_cons, List.length_nil, maxLen]; omega)) fun a38 c38 => ?_
      refine gk_storeV 2 tf31 rfl rfl (vs := [_]) rfl rfl rfl rfl rfl ?_
      refine gk_nil (gk_sub (T' := []) trivial ?_)
      refine gk_conv (R' := Box b [.slice a38 (base ++ (addW S0 p).reverse).length c38] 31) 2 rfl (fun B w hA => by rw [hfin]; exact hA) ?_
      refine gk_conv (R' := Row a38 2 c38 32 encPt (base ++ (addW S0 p).reverse)) 3 rfl (fun B w hA => by rw [hfin]; exact hA) ?_
      refine gk_front 3 rfl ?_
      refine gk_front 3 rfl ?_
      refine gk_pack 2 ?_
      refine gk_turns (a38, c38) 0 (rv_none rfl) rfl rfl trivial
end Go.Proofs.YtahahmelnaphjaaDoor

namespace Go.K
open Go Go.RowKit
/-- all that lay lies as it lay: the world itself -/
theorem Ext.grown {w w' : World} (h : Ext w w') : ∃ q os', w' = Go.Sort.grow (w.drewN q) os' := by
  refine ⟨w'.drawn - w.drawn, w'.heap.extract w.heap.size w'.heap.size, ?_⟩
  obtain ⟨heap, tape, drawn, os, output⟩ := w
  obtain ⟨heap', tape', drawn', os', output'⟩ := w'
  have h1 : os' = os := h.os
  have h2 : tape' = tape := h.tape.eq
  have h3 : output' = output := h.output
  have h4 : drawn ≤ drawn' := h.tape.le
  have h5 : heap.size ≤ heap'.size := h.size
  have h6 : ∀ k, k < heap.size → heap'[k]? = heap[k]? := h.block
  subst h1 h2 h3
  show (⟨heap', tape', drawn', os', output'⟩ : World) = ⟨heap ++ heap'.extract heap.size heap'.size, tape', drawn + (drawn' - drawn), os', output'⟩
  congr 1
  · apply Array.ext_getElem?
    intro k
    rw [Array.getElem?_append]
    split
    · rename_i hk; exact h6 k hk
    · rename_i hk
      rw [Array.getElem?_extract]
      by_cases hk2 : k < heap'.size
      · rw [if_pos (by omega)]; congr 1; omega
      · rw [if_neg (by omega), Array.getElem?_eq_none (by omega)]
  · omega
section
variable {α : Type} [Inhabited α] {k : Nat} {enc : α → List Value}
theorem flatK_list (he : Enc k enc) (hk : 0 < k) (l : List α) (t : Nat) (ht : t < l.length * k) : (l.flatMap enc)[t]? = some ((Go.Sort.flatK enc k l.toArray)[t]!) := by
  have hi : t / k < l.length := Nat.div_lt_of_lt_mul (by rwa [Nat.mul_comm])
  have h := flat_get he l (t / k) l[t / k] (List.getElem?_eq_getElem hi)
  have hm : t % k < k := Nat.mod_lt _ hk
  have e1 : t = t / k * k + t % k := by rw [Nat.mul_comm]; exact (Nat.div_add_mod t k).symm
  have h2 := congrArg (fun z => z[t % k]?) h
  simp only [List.getElem?_take, if_pos hm, List.getElem?_drop, ← e1] at h2
  rw [h2, Go.Sort.get_flatK _ _ _ _ (by simpa using ht)]
  have e2 : l.toArray[t / k]! = l[t / k] := by simp [hi]
  have hl : t % k < (enc l[t / k]).length := by rw [he.len]; exact hm
  rw [e2, List.getElem?_eq_getElem hl, List.getElem!_eq_getElem?_getD, List.getElem?_eq_getElem hl]; rfl
theorem holds_row (he : Enc k enc) (hk : 0 < k) {w : World} {b off : Nat} {cs : List Value} {e : TypeId} {l : List α} (hb : w.heap[b]? = some (.cells cs.toArray e (0, 0))) (h3 : (cs.drop off).take (l.length * k) = l.flatMap enc) :
    Go.Sort.HoldsK enc k w b off l.toArray := by
  intro j hj
  rw [Go.Sort.size_flatK] at hj
  have hj' : j < l.length * k := by simpa using hj
  refine ⟨?_, ?_⟩
  · rw [row_cells hb]
    have h := flatK_list he hk l j hj'
    rw [← h3, List.getElem?_take, if_pos hj', List.getElem?_drop] at h
    exact h
  · unfold World.frozen?
    rw [hb]
    simp
theorem row_sorted (he : Enc k enc) (hk : 0 < k) {w : World} {B : Nat → Prop} {a : Option Addr} {b off cap n : Nat} {cs : List Value} {e : TypeId} {l m : List α} {os : Array Obj} (hml : m.length = l.length) (hBl : ∀ i, B i → i < w.heap.size) (ha : a = some ⟨b, off, none⟩) (hB : ∀ j, B j ↔ j = b)
    (hb : w.heap[b]? = some (.cells cs.toArray e (0, 0))) (h1 : l.length ≤ cap) (h2 : off + cap * k ≤ cs.length) :
    Mod B w (Go.Proofs.sortWorldK enc k w b off n m.toArray os) ∧ (Row a k cap e enc m).A B (Go.Proofs.sortWorldK enc k w b off n m.toArray os) := by
  have hbl : b < w.heap.size := hBl b ((hB b).2 rfl)
  have hh : ∀ i, i < w.heap.size → (Go.Proofs.sortWorldK enc k w b off n m.toArray os).heap[i]? = if i = b then some (.cells (Go.Sort.putCells id off (Go.Sort.flatK enc k m.toArray) cs.toArray) e (0, 0)) else w.heap[i]? := fun i hi => by
    show (w.heap.modify b (Go.Sort.onCells (Go.Sort.putCells id off (Go.Sort.flatK enc k m.toArray))) ++ os)[i]? = _
    rw [Array.getElem?_append, if_pos (by simpa using hi), Array.getElem?_modify]
    by_cases hib : i = b
    · rw [if_pos hib.symm, if_pos hib, hib, hb]; rfl
    · rw [if_neg (fun h => hib h.symm), if_neg hib]
  refine ⟨⟨rfl, ⟨rfl, Nat.le_add_right _ _⟩, rfl, ?_, fun i hi hnb => ?_⟩, ?_⟩
  · show w.heap.size ≤ (w.heap.modify b _ ++ os).size
    simp
  · rw [hh i hi, if_neg (fun h => hnb ((hB i).2 h))]
  · refine .inr ⟨b, off, (Go.Sort.putCells id off (Go.Sort.flatK enc k m.toArray) cs.toArray).toList, ha, hB, by rw [hh b hbl, if_pos rfl, Array.toArray_toList], by omega, ?_, ?_⟩
    · unfold Go.Sort.putCells
      simpa using h2
    · have hle : m.length * k ≤ cap * k := Nat.mul_le_mul_right _ (by omega)
      apply List.ext_getElem?
      intro t
      by_cases ht : t < m.length * k
      · rw [List.getElem?_take, if_pos ht, List.getElem?_drop, flatK_list he hk m t ht]
        unfold Go.Sort.putCells
        rw [Array.getElem?_toList, Array.getElem?_mapIdx, Array.getElem?_eq_getElem (by simp; omega), Option.map_some, if_pos ⟨by omega, by rw [Go.Sort.size_flatK]; simp; omega⟩, show off + t - off = t from by omega]; rfl
      · rw [List.getElem?_eq_none (by simp; omega), List.getElem?_eq_none (by rw [flat_len he]; omega)]
open Go.Proofs in
/-- **slices.SortFunc at a row** -/
theorem sort_turns {P : Program} {ρ : Go.Shelf.Ren} (L : SlLaysF0.n6 P ρ) (aE : ∀ w, (isAgg (ρ.t 24)).run P w = .ok true w) (zE : ∀ w, (Go.sizeOf (ρ.t 24)).run P w = .ok k w) (he : Enc k enc) (hk : 0 < k) (h1 : ∀ x, ∀ v ∈ enc x, v.oneCell' = true)
    (cf : α → α → Int) (hO : Go.Sort.SWO (ltOf cf)) (hT : ∀ x y, (ltOf cf) x y = false → (ltOf cf) y x = false → x = y) (g : Nat) (eg : En P g) (hc : ∀ x y w, Calls P g #[.agg (enc x).toArray, .agg (enc y).toArray] w (Pure (.int .i64 (cf x y)) w))
    {a : Option Addr} {cap : Nat} {e : TypeId} {l : List α} {w : World} {B : Nat → Prop} (hB : ∀ i, B i → i < w.heap.size) (hA : (Row a k cap e enc l).A B w) (hs : l.length < 4611686018427387904) :
    Calls P (ρ.f 6) #[.slice a l.length cap, .func (.func g) #[] #[]] w (Turns (fun _ : Unit => .tuple #[]) (fun _ => Row a k cap e enc (l.mergeSort fun x y => !(ltOf cf) y x)) (fun _ => True) B w) := by
  rcases hA with ⟨rfl, rfl, rfl⟩ | ⟨b, off, cs, ha, hBb, hb, g1, g2, g3⟩
  · refine (AnyF.slices_SortFunc_none L none 0 (.func (.func g) #[] #[]) w).mono ?_
    rintro _ _ ⟨rfl, rfl⟩
    exact ⟨(), B, rfl, trivial, Mod.rfl, fun _ hk => .inl hk, .inl ⟨rfl, rfl, by simp⟩⟩
  · have hbl : b < w.heap.size := hB b ((hBb b).2 rfl)
    have hcmp : CmpLays P g #[] enc k cf b off l.toArray.size w := fun m os dk _ x y => by
      refine (hc x y (Go.Proofs.sortWorldK enc k w b off m dk os)).mono ?_
      rintro _ w' ⟨rfl, hx⟩
      exact ⟨rfl, hx.grown⟩
    have h := AnyQ.slices_SortFunc_total L k aE zE enc he.len h1 cf hO g #[] b off cap l.toArray w eg hcmp (holds_row he hk hb g3) hbl (by simpa using hs) hT
    subst ha
    refine h.mono ?_
    rintro _ _ ⟨rfl, n, os, rfl⟩
    obtain ⟨q1, q2⟩ := row_sorted (n := n) (os := os) he hk (m := l.mergeSort fun x y => !(ltOf cf) y x) (l := l) (List.length_mergeSort ..) hB rfl hBb hb g1 g2
    exact ⟨(), B, rfl, trivial, q1, fun _ hk => .inl hk, q2⟩
end
end Go.K

namespace Go.Proofs.YtahahmelnaphjaaDoor
open Go.K Go.Stn Go.RowKit
theorem en128 : En Tryd.prog 128 := en_of Tryd.func128 (by kernel_rfl) (by kernel_rfl)
open Go.Proofs Go.Shelf in
def sortPt_ren : Go.Shelf.Ren := ⟨fun | 6 => 128 | 15 => 136 | 14 => 135 | 28 => 148 | 29 => 149 | 20 => 140 | 21 => 141 | 22 => 142 | 23 => 143 | 24 => 144 | 25 => 145 | 26 => 146 | 27 => 147 | 46 => 150 | 47 => 151 | 48 => 152 | 49 => 153 | 50 => 154 | 57 => 155 | n => n, fun | 22 => 31 | 24 => 32 | 25 => 122 | 3 => 3 | 39 => 55 | 0 => 0 | 53 => 172 | 55 => 174 | 4 => 4 | 46 => 165 | 45 => 164 | 50 => 169 | 5 => 5 | 9 => 9 | 66 => 175 | 70 => 179 | 76 => 181 | 77 => 77 | n => n, fun | n => n⟩
open Go.Proofs Go.Shelf in
theorem sortPt : Go.Proofs.SlLaysF0.n6 Tryd.prog sortPt_ren where
  mixed := by kernel_rfl
  f6 := ⟨Tryd.f128.name, by kernel_rfl, Tryd.func128.trans (congrArg some (by kernel_rfl))⟩
  f14 := ⟨Tryd.f135.name, by kernel_rfl, Tryd.func135.trans (congrArg some (by kernel_rfl))⟩
  f15 := Tryd.func136.trans (congrArg some (by kernel_rfl))
  f20 := ⟨Tryd.f140.name, by kernel_rfl, Tryd.func140.trans (congrArg some (by kernel_rfl))⟩
  f21 := ⟨Tryd.f141.name, by kernel_rfl, Tryd.func141.trans (congrArg some (by kernel_rfl))⟩
  f22 := ⟨Tryd.f142.name, by kernel_rfl, Tryd.func142.trans (congrArg some (by kernel_rfl))⟩
  f23 := ⟨Tryd.f143.name, by kernel_rfl, Tryd.func143.trans (congrArg some (by kernel_rfl))⟩
  f24 := ⟨Tryd.f144.name, by kernel_rfl, Tryd.func144.trans (congrArg some (by kernel_rfl))⟩
  f25 := ⟨Tryd.f145.name, by kernel_rfl, Tryd.func145.trans (congrArg some (by kernel_rfl))⟩
  f26 := ⟨Tryd.f146.name, by kernel_rfl, Tryd.func146.trans (congrArg some (by kernel_rfl))⟩
  f27 := ⟨Tryd.f147.name, by kernel_rfl, Tryd.func147.trans (congrArg some (by kernel_rfl))⟩
  f28 := Tryd.func148.trans (congrArg some (by kernel_rfl))
  f29 := Tryd.func149.trans (congrArg some (by kernel_rfl))
  f46 := ⟨Tryd.f150.name, by kernel_rfl, Tryd.func150.trans (congrArg some (by kernel_rfl))⟩
  f47 := Tryd.func151.trans (congrArg some (by kernel_rfl))
  f48 := Tryd.func152.trans (congrArg some (by kernel_rfl))
  f49 := ⟨Tryd.f153.name, by kernel_rfl, Tryd.func153.trans (congrArg some (by kernel_rfl))⟩
  f50 := ⟨Tryd.f154.name, by kernel_rfl, Tryd.func154.trans (congrArg some (by kernel_rfl))⟩
  f57 := ⟨Tryd.f155.name, by kernel_rfl, Tryd.func155.trans (congrArg some (by kernel_rfl))⟩
  t0 := Tryd.underlying0
  a0 := Tryd.isAgg0
  z0 := Tryd.sizeOf0
  v0 := Tryd.zeroValue0
  t3 := Tryd.underlying3
  a3 := Tryd.isAgg3
  z3 := Tryd.sizeOf3
  v3 := Tryd.zeroValue3
  t4 := Tryd.underlying4
  a4 := Tryd.isAgg4
  z4 := Tryd.sizeOf4
  v4 := Tryd.zeroValue4
  t5 := Tryd.underlying5
  a5 := Tryd.isAgg5
  z5 := Tryd.sizeOf5
  v5 := Tryd.zeroValue5
  t9 := Tryd.underlying9
  a9 := Tryd.isAgg9
  z9 := Tryd.sizeOf9
  v9 := Tryd.zeroValue9
  t22 := Tryd.underlying31
  a22 := Tryd.isAgg31
  z22 := Tryd.sizeOf31
  v22 := Tryd.zeroValue31
  t25 := Tryd.underlying122
  a25 := Tryd.isAgg122
  z25 := Tryd.sizeOf122
  v25 := Tryd.zeroValue122
  t39 := Tryd.underlying55
  a39 := Tryd.isAgg55
  z39 := Tryd.sizeOf55
  v39 := Tryd.zeroValue55
  t45 := Tryd.underlying164
  a45 := Tryd.isAgg164
  z45 := Tryd.sizeOf164
  v45 := Tryd.zeroValue164
  t46 := Tryd.underlying165
  a46 := Tryd.isAgg165
  z46 := Tryd.sizeOf165
  v46 := Tryd.zeroValue165
  t50 := Tryd.underlying169
  a50 := Tryd.isAgg169
  z50 := Tryd.sizeOf169
  v50 := Tryd.zeroValue169
  t53 := Tryd.underlying172
  a53 := Tryd.isAgg172
  z53 := Tryd.sizeOf172
  v53 := Tryd.zeroValue172
  t55 := Tryd.underlying174
  a55 := Tryd.isAgg174
  z55 := Tryd.sizeOf174
  v55 := Tryd.zeroValue174
  t66 := Tryd.underlying175
  a66 := Tryd.isAgg175
  z66 := Tryd.sizeOf175
  v66 := Tryd.zeroValue175
  t70 := Tryd.underlying179
  a70 := Tryd.isAgg179
  z70 := Tryd.sizeOf179
  v70 := Tryd.zeroValue179
  t76 := Tryd.underlying181
  a76 := Tryd.isAgg181
  z76 := Tryd.sizeOf181
  v76 := Tryd.zeroValue181
  t77 := Tryd.underlying77
  a77 := Tryd.isAgg77
  z77 := Tryd.sizeOf77
  v77 := Tryd.zeroValue77
theorem swo_lower : Go.Sort.SWO (Go.Proofs.ltOf lowerW) := by
  have h : ∀ x y, Go.Proofs.ltOf lowerW x y = decide (Lo x y) := fun x y => by
    unfold Go.Proofs.ltOf
    by_cases hx : Lo x y
    · rw [decide_eq_true hx, decide_eq_true (lower_lt.2 hx)]
    · rw [decide_eq_false hx, decide_eq_false fun h => hx (lower_lt.1 h)]
  refine ⟨fun x => ?_, fun x y z h1 h2 => ?_, fun x y z h1 h2 => ?_⟩
  · rw [h]; exact decide_eq_false Lo.irrefl
  · rw [h, decide_eq_true_eq] at h1 h2 ⊢
    exact Lo.trans h1 h2
  · rw [h, decide_eq_false_iff_not] at h1 h2 ⊢
    unfold Lo at *
    omega
theorem sortfunc_c (l : List Pt) (a : Option Addr) (cap : Nat) (w : World) (B : Nat → Prop) (hB : ∀ k, B k → k < w.heap.size) (hA : (Row a 2 cap 32 encPt l).A B w) (hs : Small l.length) :
    Calls Tryd.prog 128 #[.slice a l.length cap, .func (.func 106) #[] #[]] w (Turns (fun _ : Unit => .tuple #[]) (fun _ => Row a 2 cap 32 encPt (sortL l)) (fun _ => True) B w) :=
  sort_turns sortPt (fun _ => tf32.agg) (fun _ => tf32.size) encPt_ok (by decide) (fun x v hv => by
    simp only [encPt, List.mem_cons, List.not_mem_nil, or_false] at hv
    rcases hv with rfl | rfl <;> rfl) lowerW swo_lower (fun x y h1 h2 => by
    unfold Go.Proofs.ltOf at h1 h2
    rw [decide_eq_false_iff_not, lower_lt] at h1 h2
    exact Classical.byContradiction fun he => (lo_ord.tot x y he).elim h1 h2) 106 en106 (fun x y w => lower_c x y w) hB hA (by unfold Small at hs; omega)
set_option maxRecDepth 100000 in
set_option maxHeartbeats 1000000 in
theorem sortedfunc_c (xs : List Pt) (gg : FuncId) (gcap : List Value) (w : World) (hs : Small xs.length) (M : World → Prop) (hM : ∀ w', Ext w w' → M w') (hen : En Tryd.prog gg) (hseq : SeqC Tryd.prog gg gcap (xs.map onePt) M) :
    Calls Tryd.prog 104 #[.func (.func gg) #[] gcap.toArray, .func (.func 106) #[] #[]] w (Gives (fun z : Option Addr × Nat => .slice z.1 (sortL xs).length z.2) (fun z => Row z.1 2 z.2 32 encPt (sortL xs)) w) := by
  refine calls_of_gk (vs := [_, _]) Tryd.func104 rfl rfl (Nat.le_of_ble_eq_true rfl) ?_
  refine gk_seq ?_
  refine gk_region ?_
  refine gk_y rfl rfl (y_assign rfl) ?_
  refine gk_nil (gk_sub (T' := [(0,_), (1,_), (4,_)]) ⟨rfl, rfl, rfl, trivial⟩ ?_)
  refine gk_seq ?_
  refine gk_region ?_
  refine gk_y rfl rfl (y_move rfl) ?_
  refine gk_yx rfl rfl (yx_call en65 rfl (fun w hw => collect_c xs _ _ w (by assumption) M (fun w' hx => hM w' (hw.base.ext0.trans hx)) hen hseq)) fun p7 => ?_
  refine gk_y rfl rfl (y_assign rfl) ?_
  refine gk_nil (gk_sub (T' := [(1,_), (4,_), (5,_)]) ⟨rfl, rfl, rfl, trivial⟩ ?_)
  refine gk_seq ?_
  refine gk_region ?_
  refine gk_y rfl rfl (y_move rfl) ?_
  refine gk_y rfl rfl (y_move rfl) ?_
  refine gk_callU 0 en128 rfl rfl rfl (fun w B hF => sortfunc_c xs _ _ w B (fun k hk => (hF.own k hk).2) hF.A (by assumption)) fun u10 hq10 => ?_
  refine gk_nil (gk_sub (T' := [(4,_), (5,_)]) ⟨rfl, rfl, trivial⟩ ?_)
  refine gk_seq ?_
  refine gk_region ?_
  refine gk_y rfl rfl (y_move rfl) ?_
  refine gk_y rfl rfl (y_assign rfl) ?_
  refine gk_nil (gk_sub (T' := [(4,_)]) ⟨rfl, trivial⟩ ?_)
  refine gk_ret ?_
  refine gk_gives p7 0 (rv_one rfl (r1_tmp rfl)) ?_ rfl
  rw [sort_len]
end Go.Proofs.YtahahmelnaphjaaDoor

namespace Go.Stn
open Go Go.K Go.RowKit
theorem addW_eq {p : Pt} (hp : inR 2000 p) : ∀ S : List Pt, (∀ x ∈ S, inR 2000 x) → addW S p = addR S p
  | [], _ => rfl
  | [_], _ => rfl
  | b :: a :: r, h => by
    have hb := h b (by simp)
    have ha := h a (by simp)
    unfold addW addR
    rw [turnW_eq (b := 2000) (by omega) ha hb hp, addW_eq hp (a :: r) fun x hx => h x (List.mem_cons_of_mem _ hx)]
theorem fold_addW : ∀ (R S : List Pt), (∀ x ∈ R, inR 2000 x) → (∀ x ∈ S, inR 2000 x) → R.foldl addW S = R.foldl addR S
  | [], _, _, _ => rfl
  | p :: R, S, hR, hS => by
    have hp := hR p (List.mem_cons_self ..)
    simp only [List.foldl_cons]
    rw [addW_eq hp S hS]
    exact fold_addW R _ (fun x hx => hR x (List.mem_cons_of_mem _ hx)) fun x hx => by
      rcases add_mem S hx with rfl | hx
      · exact hp
      · exact hS x hx
theorem lo_nodup {R : List Pt} (h : R.Pairwise Lo) : R.Nodup := h.imp fun {a b} hab he => by subst he; exact Lo.irrefl hab
theorem lowW_eq {R : List Pt} (hR : ∀ x ∈ R, inR 2000 x) : lowW R = lowS R := fold_addW R [] hR fun x hx => by cases hx
theorem lowW_head {R : List Pt} (h : R ≠ []) : (lowW R).head? = some (R.getLastD default) := by
  obtain ⟨r, p, rfl⟩ : ∃ r p, R = r ++ [p] := ⟨R.dropLast, R.getLast h, (List.dropLast_concat_getLast h).symm⟩
  unfold lowW
  rw [List.foldl_append]
  show (addW _ p).head? = _
  rw [addW_head]
  simp
theorem back_fold {R : List Pt} (h2 : 1 < R.length) : ∀ (T S : List Pt), (∀ x ∈ T, x ≠ R.getD (R.length - 1) default) → T.foldl (backF R) S = T.foldl addW S
  | [], _, _ => rfl
  | p :: T, S, h => by
    simp only [List.foldl_cons]
    rw [show backF R S p = addW S p from by
      unfold backF
      rw [if_pos]
      have : eqB p (R.getD (R.length - 1) default) = false := by
        rw [Bool.eq_false_iff]
        exact fun he => h p (List.mem_cons_self ..) (eqB_iff.1 he)
      rw [this, decide_eq_true h2]; rfl]
    exact back_fold h2 T _ fun x hx => h x (List.mem_cons_of_mem _ hx)
theorem getD_last' {R : List Pt} : R.getD (R.length - 1) default = R.getLastD default := by
  rw [List.getD_eq_getElem?_getD, ← List.getLast?_eq_getElem?, List.getLastD_eq_getLast?]
theorem backW_eq {R : List Pt} (hlo : R.Pairwise Lo) (h2 : 2 ≤ R.length) (hR : ∀ x ∈ R, inR 2000 x) : backW R R.length = upS R := by
  have hne : R ≠ [] := fun h => by rw [h] at h2; simp at h2
  have hnd := lo_nodup hlo
  have hl : R.getLastD default ∈ R := by
    rw [← getD_last', List.getD_eq_getElem?_getD, List.getElem?_eq_getElem (by omega)]
    exact List.getElem_mem _
  obtain ⟨r, p, rfl⟩ : ∃ r p, R = r ++ [p] := ⟨R.dropLast, R.getLast hne, (List.dropLast_concat_getLast hne).symm⟩
  have hp : (r ++ [p]).getLastD default = p := by simp
  unfold backW upS
  rw [lowW_head hne, hp, List.take_of_length_le (by simp), List.reverse_append]
  simp only [List.reverse_cons, List.reverse_nil, List.nil_append, List.singleton_append, List.tail_cons, List.foldl_cons, Option.toList]
  rw [show backF (r ++ [p]) [p] p = [p] from by
    unfold backF
    rw [if_neg]
    rw [getD_last', hp, show eqB p p = true from eqB_iff.2 rfl]
    simp]
  rw [back_fold (by omega) r.reverse [p] fun x hx => by
    rw [getD_last', hp]
    intro he
    subst he
    rw [List.nodup_append] at hnd
    exact hnd.2.2 x (List.mem_reverse.1 hx) x (by simp) rfl]
  exact fold_addW _ _ (fun x hx => hR x (by simp at hx ⊢; exact .inl hx)) fun x hx => by rw [List.mem_singleton] at hx; rw [hx]; exact hR p (by simp)
theorem rest_mem (l : List Pt) (x : Pt) : x ∈ restL l ↔ x ∈ l := by
  unfold restL
  rw [comp_mem]
  exact (sort_perm l).mem_iff
theorem rest_lo (l : List Pt) : (restL l).Pairwise Lo := comp_lo _ (sort_le l)
theorem farX_in {l : List Pt} (h : l.any farX = false) : ∀ x ∈ l, inR 2000 x := fun x hx => by
  have : farX x = false := Bool.eq_false_iff.2 fun hf => by rw [List.any_eq_true.2 ⟨x, hx, hf⟩] at h; cases h
  unfold farX at this
  simp only [Bool.or_eq_false_iff, Bool.not_eq_false', Bool.and_eq_true, decide_eq_true_eq] at this
  unfold inR
  omega
theorem hullC_full {l : List Pt} (h : l.any farX = false) (h2 : 2 ≤ (restL l).length) : hullC l = fullL (restL l) := by
  have hR : ∀ x ∈ restL l, inR 2000 x := fun x hx => farX_in h x ((rest_mem l x).1 hx)
  unfold hullC chainW fullL
  rw [lowW_eq hR, backW_eq (rest_lo l) h2 hR]
theorem hullC_few {l : List Pt} (h2 : (restL l).length < 2) : (hullC l).length < 4 := by
  have := chainW_len (restL l) (restL l).length
  unfold hullC
  omega
theorem flat_iff {l : List Pt} (h : ∀ x ∈ l, inR 2000 x) : rflatB l = true ↔ FlatL (restL l) := by
  unfold rflatB flatN rowF
  rw [List.take_length, List.all_eq_true]
  simp only [List.all_eq_true, decide_eq_true_eq]
  have h0 : ∀ x ∈ l, l.getD 0 default ∈ l := fun x hx => by
    have := List.length_pos_of_mem hx
    rw [List.getD_eq_getElem?_getD, List.getElem?_eq_getElem this]
    exact List.getElem_mem _
  constructor
  · intro hf
    by_cases hall : ∀ x ∈ l, x = l.getD 0 default
    · intro x hx y hy z hz
      rw [rest_mem] at hx hy hz
      rw [hall x hx, hall y hy, hall z hz]
      unfold sideZ
      simp
    · obtain ⟨a, ha, hne⟩ : ∃ a ∈ l, a ≠ l.getD 0 default := Classical.byContradiction fun hn => hall fun x hx => Classical.byContradiction fun he => hn ⟨x, hx, he⟩
      refine flat_of (a := l.getD 0 default) (b := a) (fun he => hne he.symm) fun q hq => ?_
      rw [rest_mem] at hq
      rw [← sideW_eq (b := 2000) (by omega) (h _ (h0 a ha)) (h a ha) (h q hq)]
      exact hf a ha q hq
  · intro hf p hp q hq
    rw [sideW_eq (b := 2000) (by omega) (h _ (h0 p hp)) (h p hp) (h q hq)]
    exact hf _ ((rest_mem l _).2 (h0 p hp)) _ ((rest_mem l _).2 hp) _ ((rest_mem l _).2 hq)
theorem flat_few {R : List Pt} (h : R.length < 2) : FlatL R := by
  match R, h with
  | [], _ => intro x hx; cases hx
  | [a], _ =>
    intro x hx y hy z hz
    rw [List.mem_singleton] at hx hy hz
    subst hx hy hz
    unfold sideZ
    simp
theorem hull_flat {l : List Pt} (h : l.any farX = false) (hf : rflatB l = true) : hullE l = 2 := by
  have hfl := (flat_iff (farX_in h)).1 hf
  have h4 : (hullC l).length < 4 := by
    by_cases h2 : 2 ≤ (restL l).length
    · rw [hullC_full h h2]
      have := (two_of (rest_lo l) h2).len_flat hfl
      have e : fullL (restL l) = joinL (lowS (restL l)).reverse (upS (restL l)).reverse := rfl
      rw [e]
      omega
    · exact hullC_few (by omega)
  unfold hullE
  rw [if_neg (by rw [h]; decide), if_pos (by omega)]
theorem hull_round {l : List Pt} (h : l.any farX = false) (hf : rflatB l = false) : Round l (hullC l) ∧ 4 ≤ (hullC l).length := by
  have hin := farX_in h
  have hfl : ¬ FlatL (restL l) := fun hn => by rw [(flat_iff hin).2 hn] at hf; cases hf
  have h2 : 2 ≤ (restL l).length := Classical.byContradiction fun hn => hfl (flat_few (by omega))
  have t := two_of (rest_lo l) h2
  rw [hullC_full h h2]
  have hw : Wrap l (fullL (restL l)) := wrap_of t (rest_mem l) hin hfl
  refine ⟨⟨hw, ?_⟩, hw.len⟩
  have h0 := hw.mem 0 (by have := hw.len; omega)
  have hlen := List.length_pos_of_mem h0
  obtain ⟨m, e1, e2, e3, _⟩ := minF_first hlen
  obtain ⟨m1, m2⟩ := minF_spec hlen
  rw [e1, show ((m : Nat) : Int).toNat = m from by omega, ← e3]
  rcases hw.first _ m1 with hm | hm
  · exact hm.symm
  · exact absurd hm (m2 _ h0)
theorem hull_out {l : List Pt} (h : l.any farX = false) (hf : rflatB l = false) : rhullL l (hullC l) = hullO l ∧
    hullE l = if (decide (12 < ((hullO l).length : Int)) || decide (2000 < max (mostL (hullO l)).x (mostL (hullO l)).z)) = true then 5 else 0 := by
  have h4 := (hull_round h hf).2
  refine ⟨?_, ?_⟩
  · unfold rhullL hullO
    rw [if_neg (by rw [hf]; decide), settle_eq (by rw [List.length_dropLast]; omega)]
  · conv => lhs; unfold hullE
    rw [if_neg (by rw [h]; decide), if_neg (by omega)]
end Go.Stn

namespace Go.Proofs.YtahahmelnaphjaaDoor
open Go.K Go.Stn Go.RowKit
theorem tf138 : TF Tryd.prog 138 false 1 (.nilFunc) := ⟨by kernel_rfl, by kernel_rfl⟩
theorem en103 : En Tryd.prog 103 := en_of Tryd.func103 (by kernel_rfl) (by kernel_rfl)
theorem en104 : En Tryd.prog 104 := en_of Tryd.func104 (by kernel_rfl) (by kernel_rfl)
theorem en105 : En Tryd.prog 105 := en_of Tryd.func105 (by kernel_rfl) (by kernel_rfl)
theorem en107 : En Tryd.prog 107 := en_of Tryd.func107 (by kernel_rfl) (by kernel_rfl)
theorem en109 : En Tryd.prog 109 := en_of Tryd.func109 (by kernel_rfl) (by kernel_rfl)
theorem en129 : En Tryd.prog 129 := en_of Tryd.func129 (by kernel_rfl) (by kernel_rfl)
theorem en132 : En Tryd.prog 132 := en_of Tryd.func132 (by kernel_rfl) (by kernel_rfl)
theorem gk_rowcap {α : Type} {k : Nat} {enc : α → List Value} {c : Cx} {ds : List Deferred} {T : List (Nat × Value)} {H : List Res} {K : Act → World → Prop} {a : Option Addr} {cap : Nat} {e : TypeId} {l : List α} (i : Nat) (hi : H[i]? = some (Row a k cap e enc l)) (h : l.length ≤ cap → GK c ds K T H) : GK c ds K T H := fun A w ha hw =>
  h (row_cap (hw.has hi)) A w ha hw
theorem low_succ {R : List Pt} {i : Int} (h0 : 0 ≤ i) (h1 : i < (R.length : Int)) : lowW (R.take (i + 1).toNat) = addW (lowW (R.take i.toNat)) (R.getD i.toNat default) := by
  unfold lowW
  rw [take_succ h0 h1, List.foldl_append]; rfl
theorem low_all {R : List Pt} {i : Int} (h0 : ¬ i < (R.length : Int)) : lowW (R.take i.toNat) = lowW R := by rw [List.take_of_length_le (by omega)]
theorem back_succ {R : List Pt} {n : Nat} (h : n < R.length) : backW R (n + 1) = backF R (backW R n) (R.reverse.getD n default) := by
  have hn : n < R.reverse.length := by simpa using h
  unfold backW
  rw [List.take_add_one, List.getElem?_eq_getElem hn, List.foldl_append, List.getD_eq_getElem?_getD, List.getElem?_eq_getElem hn]; rfl
abbrev baseL (R : List Pt) : List Pt := (lowW R).reverse.dropLast
theorem base_zero (R : List Pt) : (lowW R).reverse = baseL R ++ (backW R 0).reverse := (chainW_zero R).symm
theorem base_len {R : List Pt} (h : 0 < R.length) : (((lowW R).reverse.length : Int) - 1) = ((baseL R).length : Int) := by
  have hne : R ≠ [] := fun he => by rw [he] at h; simp at h
  have h1 := lowW_head hne
  have h2 : 0 < (lowW R).length := by
    cases hl : lowW R with
    | nil => rw [hl] at h1; cases h1
    | cons a r => simp
  simp
  omega
theorem back_yes {R S : List Pt} {p : Pt} (h : (decide (1 < (R.length : Int)) && !(decide (p.x = (R.getD ((R.length : Int) - 1).toNat default).x) && decide (p.z = (R.getD ((R.length : Int) - 1).toNat default).z))) = true) : addW S p = backF R S p := by
  rw [show ((R.length : Int) - 1).toNat = R.length - 1 from by omega] at h
  unfold backF eqB
  rw [if_pos]
  rw [Bool.and_eq_true, decide_eq_true_eq] at h ⊢
  exact ⟨by omega, h.2⟩
theorem back_no {R S : List Pt} {p : Pt} (h : (decide (1 < (R.length : Int)) && !(decide (p.x = (R.getD ((R.length : Int) - 1).toNat default).x) && decide (p.z = (R.getD ((R.length : Int) - 1).toNat default).z))) = false) : S = backF R S p := by
  rw [show ((R.length : Int) - 1).toNat = R.length - 1 from by omega] at h
  unfold backF eqB
  rw [if_neg]
  intro hn
  rw [Bool.and_eq_true, decide_eq_true_eq] at hn
  rw [Bool.and_eq_false_iff, decide_eq_false_iff_not] at h
  rcases h with h | h
  · omega
  · rw [hn.2] at h; cases h
theorem hullC_eq (l : List Pt) : baseL (restL l) ++ (backW (restL l) (backVs (restL l)).length).reverse = hullC l := by
  rw [back_len]; rfl
set_option maxRecDepth 100000 in
set_option maxHeartbeats 1000000 in
theorem Hull_c (a : Option Addr) (cap : Nat) (l : List Pt) (w : World) (hl : Has w (Pts a l)) (h40 : l.length ≤ 40) :
    Calls Tryd.prog 49 #[.slice a l.length cap] w (Gives (fun z : Option Addr × Nat => .tuple #[.slice z.1 (hullL l).length z.2, .int .i64 (hullE l)]) (fun z => Row z.1 2 z.2 32 encPt (hullL l)) w) := by
  have hs : Small l.length := by unfold Small; omega
  have hr40 : (restL l).length ≤ 40 := Nat.le_trans (restL_len l) h40
  have hb40 : (baseL (restL l)).length ≤ 40 := by unfold baseL; rw [List.length_dropLast, List.length_reverse]; have := lowW_len (restL l); omega
  refine calls_of_gk (vs := [_]) Tryd.func49 rfl rfl (Nat.le_of_ble_eq_true rfl) ?_
  refine gk_seq ?_
  refine gk_region ?_
  refine gk_y rfl rfl (y_assign rfl) ?_
  refine gk_y rfl rfl (y_assign rfl) ?_
  refine gk_nil (gk_sub (T' := [(0,_), (2,_), (3,_)]) ⟨rfl, rfl, rfl, trivial⟩ ?_)
  refine gk_seq ?_
  refine gk_region ?_
  refine gk_y rfl rfl (y_assign rfl) ?_
  refine gk_nil (gk_sub (T' := [(0,_), (2,_), (3,_), (4,_)]) ⟨rfl, rfl, rfl, rfl, trivial⟩ ?_)
  refine gk_seq ?_
  refine gk_seq ?_
  refine gk_region ?_
  refine gk_y rfl rfl (y_move rfl) ?_
  refine gk_y rfl rfl (y_move rfl) ?_
  refine gk_y rfl rfl (y_call en102 rfl (fun w hw => containsfar_c _ _ l w (Rd.has (Has.rd hl) hw) (by assumption))) ?_
  refine gk_nil (gk_sub (T' := [(0,_), (2,_), (3,_), (16,_)]) ⟨rfl, rfl, rfl, rfl, trivial⟩ ?_)
  refine gk_cond rfl (fun hc16 => ?_) (fun hc16 => ?_)
  · have hE : hullE l = 3 := by rw [hullE, if_pos hc16]
    refine gk_newNil 32 encPt 2 ?_
    refine gk_seq ?_
    refine gk_region ?_
    refine gk_y rfl rfl (y_assign rfl) ?_
    refine gk_y rfl rfl (y_assign rfl) ?_
    refine gk_nil (gk_sub (T' := [(0,_), (2,_), (3,_)]) ⟨rfl, rfl, rfl, trivial⟩ ?_)
    refine gk_ret ?_
    refine gk_gives (none, 0) 0 (rv_two rfl (r1_tmp rfl) (r1_tmp rfl)) ?_ (by simp only [hullL, hE]; rfl)
    simp only [hullL, hE]; rfl
  · skip
    refine gk_skip ?_
    refine gk_seq ?_
    refine gk_region ?_
    refine gk_y rfl rfl (y_move rfl) ?_
    refine gk_yx rfl rfl (yx_call en105 rfl (fun w hw => values_c _ _ l w)) fun p18 => ?_
    refine gk_yx rfl rfl (yx_call en104 rfl (fun w hw => sortedfunc_c l 129 [_] w (by assumption) (fun w' => Has w' (Box p18 [.slice a l.length cap] 31) ∧ Has w' (Pts a l)) (fun w' hx => ⟨Has.ext (hw.has (p := 0) rfl) hx, Has.ext (Rd.has (Has.rd hl) hw) hx⟩) en129 (values1_c _ _ l p18 (by assumption)))) fun p19 => ?_
    refine gk_callU 0 en103 rfl rfl rfl (fun w B hF => compact_c _ _ (sortL l) w B (fun k hk => (hF.own k hk).2) hF.A (by rw [sort_len]; assumption)) fun u20 hq20 => ?_
    refine gk_yx rfl rfl (yx_alloc tf31 (zs := [_]) rfl) fun b5 => ?_
    refine gk_storeV 0 tf31 rfl rfl (vs := [_]) rfl rfl rfl rfl rfl ?_
    refine gk_nil (gk_sub (T' := [(2,_), (3,_), (5,_)]) ⟨rfl, rfl, rfl, trivial⟩ ?_)
    refine gk_seq ?_
    refine gk_region ?_
    refine gk_yx rfl rfl (yx_alloc tf31 (zs := [_]) rfl) fun b6 => ?_
    refine gk_nil (gk_sub (T' := [(2,_), (3,_), (5,_), (6,_)]) ⟨rfl, rfl, rfl, rfl, trivial⟩ ?_)
    refine gk_seq ?_
    refine gk_region ?_
    refine gk_y rfl rfl (y_makeFunc («as» := []) (bs := [_]) rfl rfl) ?_
    refine gk_yx rfl rfl (yx_alloc tf138 (zs := [_]) rfl) fun b7 => ?_
    refine gk_storeV 0 tf138 rfl rfl (vs := [_]) rfl rfl rfl rfl rfl ?_
    refine gk_nil (gk_sub (T' := [(2,_), (3,_), (5,_), (6,_), (7,_)]) ⟨rfl, rfl, rfl, rfl, rfl, trivial⟩ ?_)
    refine gk_seq ?_
    refine gk_seq ?_
    refine gk_region ?_
    refine gk_y rfl rfl (y_loadB1 2 tf31 rfl rfl rfl) ?_
    refine gk_y rfl rfl (y_lenS (Tryd.underlying31) rfl) ?_
    refine gk_y rfl rfl (y_move rfl) ?_
    refine gk_nil (gk_sub (T' := [(2,_), (3,_), (5,_), (6,_), (7,_), (22,_), (23,_), (24,_)]) ⟨rfl, rfl, rfl, rfl, rfl, rfl, rfl, rfl, trivial⟩ ?_)
    refine gk_block ?_
    refine gk_newNil 32 encPt 2 ?_
    refine gk_loop (X := Int × Option Addr × Nat) (fun ⟨i, b, bc⟩ => [(2, .slice none 0 0), (3, .int .i64 0), (5, .pointer (some ⟨b5, 0, none⟩)), (6, .pointer (some ⟨b6, 0, none⟩)), (7, .pointer (some ⟨b7, 0, none⟩)), (22, .slice p19.1 (restL l).length p19.2), (23, .int .i64 ((restL l).length : Int)), (24, .int .i64 i)]) (fun ⟨i, b, bc⟩ => [Row b 2 bc 32 encPt ((lowW ((restL l).take i.toNat)).reverse), Box b7 [.func (.func 107) #[] #[.pointer (some ⟨b6, 0, none⟩)]] 138, Box b6 [.slice b ((lowW ((restL l).take i.toNat)).reverse).length bc] 31, Box b5 [.slice p19.1 (restL l).length p19.2] 31, Row p19.1 2 p19.2 32 encPt (compZ (sortL l)), Box p18 [.slice a l.length cap] 31]) (fun ⟨i, b, bc⟩ => (0 ≤ i ∧ i ≤ (restL l).length)) (fun ⟨i, b, bc⟩ => ((restL l).length - i).toNat) (0, none, 0) ⟨rfl, rfl, rfl, rfl, rfl, rfl, rfl, rfl, trivial⟩ rfl ?_ ?_
    · exact ⟨by omega, by omega⟩
    · rintro ⟨i, b, bc⟩ hI
      obtain ⟨g0, g1⟩ := hI
      have hcl := lowW_len ((restL l).take i.toNat)
      rw [List.length_take] at hcl
      refine gk_seq ?_
      refine gk_region ?_
      refine gk_y rfl rfl (y_lss rfl rfl) ?_
      refine gk_nil (gk_sub (T' := [(2,_), (3,_), (5,_), (6,_), (7,_), (22,_), (23,_), (24,_), (25,_)]) ⟨rfl, rfl, rfl, rfl, rfl, rfl, rfl, rfl, rfl, trivial⟩ ?_)
      refine gk_seq ?_
      refine gk_cond rfl (fun hc25 => ?_) (fun hc25 => ?_)
      · have hc25 := of_decide_eq_true hc25
        refine gk_skip ?_
        refine gk_seq ?_
        refine gk_block ?_
        refine gk_seq ?_
        refine gk_region ?_
        refine gk_y rfl rfl (y_indexE se31 rfl rfl (fun _ hw => (elems_front (l := restL l) (has_row encPt_ok (hw.has (p := 4) rfl)))) (by omega) (by omega)) ?_
        refine gk_y rfl rfl (y_loadE (vs := [_, _]) tf32 rfl (fun _ hw => (elems_front (l := restL l) (has_row encPt_ok (hw.has (p := 4) rfl)))) (by omega) (by omega) rfl) ?_
        refine gk_yx rfl rfl (yx_alloc tf32 (zs := [_, _]) rfl) fun b9 => ?_
        refine gk_storeV 0 tf32 rfl rfl (vs := [_, _]) rfl rfl rfl rfl rfl ?_
        refine gk_nil (gk_sub (T' := [(2,_), (3,_), (5,_), (6,_), (7,_), (9,_), (22,_), (23,_), (24,_)]) ⟨rfl, rfl, rfl, rfl, rfl, rfl, rfl, rfl, rfl, trivial⟩ ?_)
        refine gk_region ?_
        refine gk_y rfl rfl (y_loadB1 2 tf138 rfl rfl rfl) ?_
        refine gk_y rfl rfl (y_loadBA 0 tf32 rfl rfl (vs := [_, _]) rfl rfl) ?_
        refine gk_front 1 rfl ?_
        refine gk_front 3 rfl ?_
        refine gk_pack 2 ?_
        refine gk_callVU (fs := []) (cap := [_]) 0 en107 rfl rfl rfl rfl (fun w B hF => hull2_c [] (lowW ((restL l).take i.toNat)) ((restL l).getD (i).toNat default) _ _ _ w B (fun k hk => (hF.own k hk).2) hF.A (by simp only [List.length_nil]; omega)) fun z30 hq30 => ?_
        refine gk_conv (R' := SepR [Box b6 [.slice z30.1 ((lowW ((restL l).take (i + 1).toNat)).reverse).length z30.2] 31, Row z30.1 2 z30.2 32 encPt ((lowW ((restL l).take (i + 1).toNat)).reverse)]) 0 rfl (fun B w hA => by rw [low_succ g0 hc25]; exact hA) ?_
        refine gk_split ?_
        refine gk_front 6 rfl ?_
        refine gk_front 6 rfl ?_
        refine gk_front 6 rfl ?_
        refine gk_front 3 rfl ?_
        refine gk_front 6 rfl ?_
        refine gk_front 5 rfl ?_
        refine gk_front 6 rfl ?_
        refine gk_nil (gk_sub (T' := [(2,_), (3,_), (5,_), (6,_), (7,_), (22,_), (23,_), (24,_)]) ⟨rfl, rfl, rfl, rfl, rfl, rfl, rfl, rfl, trivial⟩ ?_)
        refine gk_region ?_
        refine gk_y rfl rfl (y_addI rfl rfl (by omega) (by omega)) ?_
        refine gk_y rfl rfl (y_move rfl) ?_
        refine gk_nil (gk_sub (T' := [(2,_), (3,_), (5,_), (6,_), (7,_), (22,_), (23,_), (24,_)]) ⟨rfl, rfl, rfl, rfl, rfl, rfl, rfl, rfl, trivial⟩ ?_)
        refine gk_dropAt 0 rfl ?_
        exact gk_next (i + 1, z30.1, z30.2) ⟨rfl, rfl, rfl, rfl, rfl, rfl, rfl, rfl, trivial⟩ rfl ⟨by omega, by omega⟩ (by simp only []; omega)
      · have hc25 := of_decide_eq_false hc25
        have hlow := low_all hc25
        have hcr : ((lowW ((restL l).take i.toNat)).reverse).length = (lowW ((restL l).take i.toNat)).length := List.length_reverse
        refine gk_exit rfl ?_
        refine gk_seq ?_
        refine gk_region ?_
        refine gk_y rfl rfl (y_loadB1 2 tf31 rfl rfl rfl) ?_
        refine gk_y rfl rfl (y_lenS (Tryd.underlying31) rfl) ?_
        refine gk_y rfl rfl (y_subI rfl rfl (by omega) (by omega)) ?_
        refine gk_yx rfl rfl (yx_alloc tf3 (zs := [_]) rfl) fun b10 => ?_
        refine gk_storeV 0 tf3 rfl rfl (vs := [_]) rfl rfl rfl rfl rfl ?_
        refine gk_nil (gk_sub (T' := [(2,_), (3,_), (5,_), (6,_), (7,_), (10,_)]) ⟨rfl, rfl, rfl, rfl, rfl, rfl, trivial⟩ ?_)
        refine gk_seq ?_
        refine gk_seq ?_
        refine gk_region ?_
        refine gk_y rfl rfl (y_loadB1 4 tf31 rfl rfl rfl) ?_
        refine gk_yx rfl rfl (yx_call en109 rfl (fun w hw => backward_c _ _ (restL l) w)) fun p36 => ?_
        refine gk_nil (gk_sub (T' := [(2,_), (3,_), (5,_), (6,_), (7,_), (10,_), (36,_)]) ⟨rfl, rfl, rfl, rfl, rfl, rfl, rfl, trivial⟩ ?_)
        refine gk_conv (R' := Box b6 [.slice b ((baseL (restL l)) ++ (backW (restL l) 0).reverse).length bc] 31) 4 rfl (fun B w hA => by rw [← base_zero, ← hlow]; exact hA) ?_
        refine gk_conv (R' := Row b 2 bc 32 encPt ((baseL (restL l)) ++ (backW (restL l) 0).reverse)) 2 rfl (fun B w hA => by rw [← base_zero, ← hlow]; exact hA) ?_
        refine gk_block ?_
        refine gk_sub (T' := [(2,_), (3,_), (5,_), (6,_), (7,_), (10,_), (36,_)]) ⟨rfl, rfl, rfl, rfl, rfl, rfl, rfl, trivial⟩ ?_
        refine gk_rangeFunc (X := Option Addr × Nat × List Pt) (fun ⟨b, bc, S⟩ => [Box p36 [.slice p19.1 (restL l).length p19.2] 31, Box b10 [.int .i64 ((((lowW ((restL l).take i.toNat)).reverse).length : Int) - 1)] 3, Row b 2 bc 32 encPt ((baseL (restL l)) ++ S.reverse), Box b7 [.func (.func 107) #[] #[.pointer (some ⟨b6, 0, none⟩)]] 138, Box b6 [.slice b ((baseL (restL l)) ++ S.reverse).length bc] 31, Box b5 [.slice p19.1 (restL l).length p19.2] 31, Row p19.1 2 p19.2 32 encPt (compZ (sortL l)), Box p18 [.slice a l.length cap] 31]) (fun n ⟨b, bc, S⟩ => S = backW (restL l) n) (fun ⟨b, bc, S⟩ => False) [] (_, _, backW (restL l) 0) rfl en132 rfl rfl rfl (backward1_c _ _ (restL l) _ (by unfold Small; omega)) (fun ⟨b, bc, S⟩ w hw => ⟨hw.has (p := 0) rfl, elems_front (l := restL l) (has_row encPt_ok (hw.has (p := 6) rfl))⟩) (back_two _) rfl ?_ ?_ ?_ ?_
        · rintro R1 R2 rl U' w' n ⟨b, bc, S⟩ args hget hR hrd hins hbeg
          obtain ⟨hn, rfl⟩ := back_inv hget
          have hR : S = backW (restL l) n := hR
          have hSl : S.length ≤ 1 + (restL l).length := by rw [hR]; exact backW_len _ _
          refine gk_sub (T' := [(5,_), (7,_), (10,_), (38,_)]) ⟨rfl, rfl, rfl, rfl, trivial⟩ ?_
          refine gk_region ?_
          refine gk_yx rfl rfl (yx_alloc tf32 (zs := [_, _]) rfl) fun b12 => ?_
          refine gk_storeV 0 tf32 rfl rfl (vs := [_, _]) rfl rfl rfl rfl rfl ?_
          refine gk_nil (gk_sub (T' := [(5,_), (7,_), (10,_), (12,_)]) ⟨rfl, rfl, rfl, rfl, trivial⟩ ?_)
          refine gk_front 1 rfl ?_
          refine hbeg _ _ _ ?_
          refine gk_block ?_
          refine gk_seq ?_
          refine gk_any 13 (fun _ => mixed) (by kernel_rfl) ?_
          refine ph_y (y_loadB1 7 tf31 rfl rfl rfl) ?_
          refine ph_y (y_lenS (Tryd.underlying31) rfl) ?_
          refine ph_y (y_gtr rfl rfl) ?_
          refine ph_y (y_move rfl) ?_
          refine ph_gT rfl rfl (fun hgd => by (try rw [hgd]); exact (y_loadBA 1 tf32 rfl rfl (vs := [_, _]) rfl rfl)) ?_
          refine ph_gT rfl rfl (fun hgd => by (try rw [hgd]); exact (y_loadB1 7 tf31 rfl rfl rfl)) ?_
          refine ph_gT rfl rfl (fun hgd => by (try rw [hgd]); exact (y_loadB1 7 tf31 rfl rfl rfl)) ?_
          refine ph_gT rfl rfl (fun hgd => by (try rw [hgd]); exact (y_lenS (Tryd.underlying31) rfl)) ?_
          refine ph_gT rfl rfl (fun hgd => by (try rw [hgd]); exact (y_subI rfl rfl (by omega) (by omega))) ?_
          refine ph_gT rfl rfl (fun hgd => by (try rw [hgd]); exact (y_indexE se31 rfl rfl (fun _ hw => (elems_front (l := restL l) (has_row encPt_ok (hw.has (p := 8) rfl)))) (by omega) (by omega))) ?_
          refine ph_gT rfl rfl (fun hgd => by (try rw [hgd]); exact (y_loadE (vs := [_, _]) tf32 rfl (fun _ hw => (elems_front (l := restL l) (has_row encPt_ok (hw.has (p := 8) rfl)))) (by omega) (by omega) rfl)) ?_
          refine ph_gT rfl rfl (fun hgd => by (try rw [hgd]); exact (y_neq32 rfl rfl)) ?_
          refine ph_y (y_pickAnd rfl rfl rfl) ?_
          refine gk_nil (gk_sub (T' := [(7,_), (10,_), (12,_), (51,_)]) ⟨rfl, rfl, rfl, rfl, trivial⟩ ?_)
          refine gk_cond rfl (fun hc51 => ?_) (fun hc51 => ?_)
          · skip
            refine gk_region ?_
            refine gk_y rfl rfl (y_loadB1 5 tf138 rfl rfl rfl) ?_
            refine gk_y rfl rfl (y_loadBA 1 tf32 rfl rfl (vs := [_, _]) rfl rfl) ?_
            refine gk_y rfl rfl (y_loadB1 3 tf3 rfl rfl rfl) ?_
            refine gk_sub (T' := [(7,_), (10,_), (12,_), (51,_), (52,_), (53,_), (54, .int .i64 ((baseL (restL l)).length : Int))]) ⟨rfl, rfl, rfl, rfl, rfl, rfl, (by rw [← base_len (R := restL l) (by omega), ← hlow]; rfl), trivial⟩ ?_
            refine gk_front 4 rfl ?_
            refine gk_front 6 rfl ?_
            refine gk_pack 2 ?_
            refine gk_callVU (fs := []) (cap := [_]) 0 en107 rfl rfl rfl rfl (fun w B hF => hull2_c (baseL (restL l)) S ((restL l).reverse.getD n default) _ _ _ w B (fun k hk => (hF.own k hk).2) hF.A (by omega)) fun z55 hq55 => ?_
            refine gk_conv (R' := SepR [Box b6 [.slice z55.1 ((baseL (restL l)) ++ (addW S ((restL l).reverse.getD n default)).reverse).length z55.2] 31, Row z55.1 2 z55.2 32 encPt ((baseL (restL l)) ++ (addW S ((restL l).reverse.getD n default)).reverse)]) 0 rfl (fun B w hA => by rw [show addW S _ = addW S _ from rfl]; exact hA) ?_
            refine gk_split ?_
            refine gk_front 9 rfl ?_
            refine gk_front 9 rfl ?_
            refine gk_front 9 rfl ?_
            refine gk_front 3 rfl ?_
            refine gk_front 9 rfl ?_
            refine gk_front 5 rfl ?_
            refine gk_front 9 rfl ?_
            refine gk_front 9 rfl ?_
            refine gk_front 9 rfl ?_
            refine gk_front 9 rfl ?_
            refine gk_nil (gk_sub (T' := []) trivial ?_)
            refine gk_dropAt 1 rfl ?_
            exact gk_joined (z55.1, z55.2, addW S ((restL l).reverse.getD n default)) trivial rfl (by rw [back_succ hn, ← hR]; first | exact back_yes hc51 | exact back_no hc51)
          · skip
            refine gk_skip ?_
            refine gk_dropAt 1 rfl ?_
            exact gk_joined (b, bc, S) trivial rfl (by rw [back_succ hn, ← hR]; first | exact back_yes hc51 | exact back_no hc51)
        · rintro Dm ⟨b, bc, S⟩ hR
          have hC : baseL (restL l) ++ S.reverse = hullC l := by rw [hR, hullC_eq]
          refine gk_seq ?_
          refine gk_seq ?_
          refine gk_region ?_
          refine gk_y rfl rfl (y_loadB1 5 tf31 rfl rfl rfl) ?_
          refine gk_y rfl rfl (y_lenS (Tryd.underlying31) rfl) ?_
          refine gk_y rfl rfl (y_lss rfl rfl) ?_
          refine gk_nil (gk_sub (T' := [(2,_), (3,_), (6,_), (58,_)]) ⟨rfl, rfl, rfl, rfl, trivial⟩ ?_)
          refine gk_conv (R' := Box b6 [.slice b (hullC l).length bc] 31) 5 rfl (fun B w hA => by rw [← hC]; exact hA) ?_
          refine gk_conv (R' := Row b 2 bc 32 encPt (hullC l)) 3 rfl (fun B w hA => by rw [← hC]; exact hA) ?_
          refine gk_rowcap 3 rfl fun hcap => ?_
          have hC81 := chainW_len (restL l) (restL l).length
          have hC81 : (hullC l).length ≤ 81 := by unfold hullC; omega
          rw [hC]
          refine gk_cond rfl (fun hc58 => ?_) (fun hc58 => ?_)
          · have hc58 := of_decide_eq_true hc58
            have hE : hullE l = 2 := by rw [hullE, if_neg (by rw [hc16]; decide), if_pos hc58]
            refine gk_newNil 32 encPt 2 ?_
            refine gk_seq ?_
            refine gk_region ?_
            refine gk_y rfl rfl (y_assign rfl) ?_
            refine gk_y rfl rfl (y_assign rfl) ?_
            refine gk_nil (gk_sub (T' := [(2,_), (3,_), (6,_)]) ⟨rfl, rfl, rfl, trivial⟩ ?_)
            refine gk_ret ?_
            refine gk_unmark 1 rfl ?_
            refine gk_gives (none, 0) 0 (rv_two rfl (r1_tmp rfl) (r1_tmp rfl)) ?_ (by simp only [hullL, hE]; rfl)
            simp only [hullL, hE]; rfl
          · have hc58 := of_decide_eq_false hc58
            have hdl : ((hullC l).take (((hullC l).length : Int) - 1).toNat) = (hullC l).dropLast := by rw [List.dropLast_eq_take]; congr 1; omega
            have hd0 : 0 < (hullC l).dropLast.length := by rw [List.length_dropLast]; omega
            have hts : Small ((hullC l).take (((hullC l).length : Int) - 1).toNat).length := by rw [List.length_take]; unfold Small; omega
            have ht0 : 0 < ((hullC l).take (((hullC l).length : Int) - 1).toNat).length := by rw [hdl]; exact hd0
            have htc : ((hullC l).take (((hullC l).length : Int) - 1).toNat).length ≤ bc := by rw [List.length_take]; omega
            have hO : settledW ((hullC l).take (((hullC l).length : Int) - 1).toNat) = hullO l := by unfold hullO; rw [← hdl]
            have hO1 : (hullO l).length = (hullC l).dropLast.length := by unfold hullO; exact settled_len hd0
            have hOd : (hullC l).dropLast.length ≤ 81 := by rw [List.length_dropLast]; omega
            have hOs : Small (hullO l).length := by unfold Small; omega
            refine gk_skip ?_
            refine gk_seq ?_
            refine gk_region ?_
            refine gk_y rfl rfl (y_loadB1 5 tf31 rfl rfl rfl) ?_
            refine gk_y rfl rfl (y_loadB1 5 tf31 rfl rfl rfl) ?_
            refine gk_y rfl rfl (y_lenS (Tryd.underlying31) rfl) ?_
            refine gk_y rfl rfl (y_subI rfl rfl (by omega) (by omega)) ?_
            refine gk_y rfl rfl (y_sliceHiL se31 rfl rfl (by omega) (by omega) hcap) ?_
            refine gk_yx rfl rfl (yx_call en60 rfl (fun w hw => settled_c _ _ ((hullC l).take (((hullC l).length : Int) - 1).toNat) w (elems_take (has_row encPt_ok (hw.has (p := 3) rfl)) (by omega) (by omega)) hts ht0 htc)) fun p64 => ?_
            refine gk_storeV 6 tf31 rfl rfl (vs := [_]) rfl rfl rfl rfl rfl ?_
            refine gk_nil (gk_sub (T' := [(2,_), (3,_), (6,_)]) ⟨rfl, rfl, rfl, trivial⟩ ?_)
            refine gk_conv (R' := Box b6 [.slice p64.1 (hullO l).length p64.2] 31) 6 rfl (fun B w hA => by rw [← hO]; exact hA) ?_
            refine gk_conv (R' := Row p64.1 2 p64.2 32 encPt (hullO l)) 0 rfl (fun B w hA => by rw [← hO]; exact hA) ?_
            refine gk_seq ?_
            refine gk_seq ?_
            refine gk_region ?_
            refine gk_y rfl rfl (y_loadB1 6 tf31 rfl rfl rfl) ?_
            refine gk_y rfl rfl (y_call en94 rfl (fun w hw => most_c _ _ (hullO l) w (has_row encPt_ok (hw.has (p := 0) rfl)) (by assumption) (by omega))) ?_
            refine gk_yx rfl rfl (yx_alloc tf32 (zs := [_, _]) rfl) fun b13 => ?_
            refine gk_storeV 0 tf32 rfl rfl (vs := [_, _]) rfl rfl rfl rfl rfl ?_
            refine gk_nil (gk_sub (T' := [(2,_), (3,_), (6,_), (13,_)]) ⟨rfl, rfl, rfl, rfl, trivial⟩ ?_)
            refine gk_seq ?_
            refine gk_any 11 (fun _ => mixed) (by kernel_rfl) ?_
            refine ph_y (y_loadB1 7 tf31 rfl rfl rfl) ?_
            refine ph_y (y_lenS (Tryd.underlying31) rfl) ?_
            refine ph_y (y_gtr rfl rfl) ?_
            refine ph_y (y_move rfl) ?_
            refine ph_gF rfl rfl (fun hgd => by (try rw [hgd]); exact (y_fieldAddr fo32_0 rfl)) ?_
            refine ph_gF rfl rfl (fun hgd => by (try rw [hgd]); exact (y_loadB1 0 tf3 rfl rfl rfl)) ?_
            refine ph_gF rfl rfl (fun hgd => by (try rw [hgd]); exact (y_fieldAddr fo32_1 rfl)) ?_
            refine ph_gF rfl rfl (fun hgd => by (try rw [hgd]); exact (y_loadB1 0 tf3 rfl rfl rfl)) ?_
            refine ph_gF rfl rfl (fun hgd => by (try rw [hgd]); exact (y_max rfl rfl)) ?_
            refine ph_gF rfl rfl (fun hgd => by (try rw [hgd]); exact (y_gtr rfl rfl)) ?_
            refine ph_y (y_pickOr rfl rfl rfl) ?_
            refine gk_nil (gk_sub (T' := [(2,_), (3,_), (6,_), (77,_)]) ⟨rfl, rfl, rfl, rfl, trivial⟩ ?_)
            refine gk_cond rfl (fun hc77 => ?_) (fun hc77 => ?_)
            · have hE : hullE l = 5 := by rw [hullE, if_neg (by rw [hc16]; decide), if_neg hc58, if_pos hc77]
              refine gk_newNil 32 encPt 2 ?_
              refine gk_seq ?_
              refine gk_region ?_
              refine gk_y rfl rfl (y_assign rfl) ?_
              refine gk_y rfl rfl (y_assign rfl) ?_
              refine gk_nil (gk_sub (T' := [(2,_), (3,_), (6,_)]) ⟨rfl, rfl, rfl, trivial⟩ ?_)
              refine gk_ret ?_
              refine gk_unmark 3 rfl ?_
              refine gk_gives (none, 0) 0 (rv_two rfl (r1_tmp rfl) (r1_tmp rfl)) ?_ (by simp only [hullL, hE]; rfl)
              simp only [hullL, hE]; rfl
            · have hE : hullE l = 0 := by rw [hullE, if_neg (by rw [hc16]; decide), if_neg hc58, if_neg (by rw [hc77]; decide)]
              refine gk_skip ?_
              refine gk_seq ?_
              refine gk_region ?_
              refine gk_y rfl rfl (y_loadB1 7 tf31 rfl rfl rfl) ?_
              refine gk_y rfl rfl (y_assign rfl) ?_
              refine gk_y rfl rfl (y_assign rfl) ?_
              refine gk_nil (gk_sub (T' := [(2,_), (3,_)]) ⟨rfl, rfl, trivial⟩ ?_)
              refine gk_ret ?_
              refine gk_unmark 2 rfl ?_
              refine gk_gives p64 1 (rv_two rfl (r1_tmp rfl) (r1_tmp rfl)) ?_ (by simp only [hullL, if_pos hE]; rfl)
              simp only [hullL, if_pos hE]; rw [hE]
        · exact fun _ _ h => h.elim
        · exact fun _ _ _ _ h => absurd h (by simp)
end Go.Proofs.YtahahmelnaphjaaDoor

namespace Go.Proofs.YtahahmelnaphjaaDoor
open Go.K Go.Stn Go.RowKit
theorem en49 : En Tryd.prog 49 := en_of Tryd.func49 (by kernel_rfl) (by kernel_rfl)
theorem en51 : En Tryd.prog 51 := en_of Tryd.func51 (by kernel_rfl) (by kernel_rfl)
theorem far_hull {l : List Pt} {i : Int} (h1 : i.toNat < l.length) (h : farX (l.getD i.toNat default) = true) : hullE l = 3 := by
  rw [hullE, if_pos (List.any_eq_true.2 ⟨l.getD i.toNat default, getD_mem h1, h⟩)]
theorem hullO_len {l : List Pt} (h : 4 ≤ (hullC l).length) : (hullO l).length = (hullC l).length - 1 := by
  unfold hullO
  rw [settled_len (by rw [List.length_dropLast]; omega), List.length_dropLast]
theorem far_none {l : List Pt} {i : Int} (hi : ¬ i < (l.length : Int)) (g2 : ∀ j : Nat, (j : Int) < i → farX (l.getD j default) = false) : l.any farX = false := by
  rw [Bool.eq_false_iff]
  intro ht
  obtain ⟨x, hx, hf⟩ := List.any_eq_true.1 ht
  obtain ⟨j, hj, rfl⟩ := List.getElem_of_mem hx
  have := g2 j (by omega)
  rw [List.getD_eq_getElem?_getD, List.getElem?_eq_getElem hj] at this
  rw [show farX l[j] = false from this] at hf
  cases hf
set_option maxRecDepth 100000 in
set_option maxHeartbeats 1000000 in
theorem StoneHulls_c (a : Option Addr) (cap : Nat) (l : List Pt) (w : World) (hl : Has w (Pts a l)) (hways : Has w (Elems (some ⟨0, 0, none⟩) 1 encVal [.func (.func 173) #[] #[], .func (.func 174) #[] #[], .func (.func 175) #[] #[], .func (.func 176) #[] #[]])) :
    Calls Tryd.prog 14 #[.slice a l.length cap] w (Pure (.bool true) w) := by
  refine calls_of_gk (vs := [_]) Tryd.func14 rfl rfl (Nat.le_of_ble_eq_true rfl) ?_
  refine gk_seq ?_
  refine gk_region ?_
  refine gk_y rfl rfl (y_assign rfl) ?_
  refine gk_nil (gk_sub (T' := [(0,_), (2,_)]) ⟨rfl, rfl, trivial⟩ ?_)
  refine gk_seq ?_
  refine gk_seq ?_
  refine gk_region ?_
  refine gk_y rfl rfl (y_move rfl) ?_
  refine gk_y rfl rfl (y_lenS (Tryd.underlying22) rfl) ?_
  refine gk_y rfl rfl (y_gtr rfl rfl) ?_
  refine gk_nil (gk_sub (T' := [(0,_), (2,_), (12,_)]) ⟨rfl, rfl, rfl, trivial⟩ ?_)
  refine gk_cond rfl (fun hc12 => ?_) (fun hc12 => ?_)
  · skip
    refine gk_seq ?_
    refine gk_region ?_
    refine gk_y rfl rfl (y_call en15 rfl (fun w hw => wakes_c w (Rd.has (Has.rd hways) hw))) ?_
    refine gk_y rfl rfl (y_assign rfl) ?_
    refine gk_nil (gk_sub (T' := [(0,_), (2,_)]) ⟨rfl, rfl, trivial⟩ ?_)
    refine gk_ret ?_
    refine gk_pure (rv_one rfl (r1_tmp rfl)) ?_
    rfl
  · have hc12 := of_decide_eq_false hc12
    have hs : Small l.length := by unfold Small; omega
    have h40 : l.length ≤ 40 := by omega
    have hC81 : Small (hullC l).length := by have h1 := chainW_len (restL l) (restL l).length; have h2 := restL_len l; unfold hullC Small; omega
    refine gk_skip ?_
    refine gk_seq ?_
    refine gk_region ?_
    refine gk_y rfl rfl (y_move rfl) ?_
    refine gk_yx rfl rfl (yx_call en48 rfl (fun w hw => points_c _ _ l w (Rd.has (Has.rd hl) hw) (by assumption))) fun p15 => ?_
    refine gk_y rfl rfl (y_assign rfl) ?_
    refine gk_nil (gk_sub (T' := [(0,_), (2,_), (3,_)]) ⟨rfl, rfl, rfl, trivial⟩ ?_)
    refine gk_seq ?_
    refine gk_region ?_
    refine gk_y rfl rfl (y_move rfl) ?_
    refine gk_yx rfl rfl (yx_call en49 rfl (fun w hw => Hull_c _ _ l w (has_row encPt_ok (hw.has (p := 0) rfl)) (by assumption))) fun p18 => ?_
    refine gk_y rfl rfl (y_move rfl) ?_
    refine gk_y rfl rfl (y_extract rfl rfl) ?_
    refine gk_y rfl rfl (y_extract rfl rfl) ?_
    refine gk_y rfl rfl (y_assign rfl) ?_
    refine gk_y rfl rfl (y_assign rfl) ?_
    refine gk_nil (gk_sub (T' := [(0,_), (2,_), (3,_), (4,_), (5,_)]) ⟨rfl, rfl, rfl, rfl, rfl, trivial⟩ ?_)
    refine gk_seq ?_
    refine gk_seq ?_
    refine gk_region ?_
    refine gk_y rfl rfl (y_assign rfl) ?_
    refine gk_nil (gk_sub (T' := [(0,_), (2,_), (3,_), (4,_), (5,_), (6,_)]) ⟨rfl, rfl, rfl, rfl, rfl, rfl, trivial⟩ ?_)
    refine gk_block ?_
    refine gk_loop (X := Int) (fun (i : Int) => [(0, .slice a l.length cap), (2, .bool false), (3, .slice p15.1 l.length p15.2), (4, .slice p18.1 (hullL l).length p18.2), (5, .int .i64 (hullE l)), (6, .int .i64 i)]) (fun (i : Int) => [Row p18.1 2 p18.2 32 encPt (hullL l), Row p15.1 2 p15.2 32 encPt l]) (fun (i : Int) => (0 ≤ i ∧ i ≤ l.length ∧ ∀ j : Nat, (j : Int) < i → farX (l.getD j default) = false)) (fun (i : Int) => (l.length - i).toNat) 0 ⟨rfl, rfl, rfl, rfl, rfl, rfl, trivial⟩ rfl ?_ ?_
    · exact ⟨by omega, by omega, fun j hj => by omega⟩
    · rintro i hI
      obtain ⟨g0, g1, g2⟩ := hI
      refine gk_seq ?_
      refine gk_seq ?_
      refine gk_region ?_
      refine gk_y rfl rfl (y_move rfl) ?_
      refine gk_y rfl rfl (y_move rfl) ?_
      refine gk_y rfl rfl (y_lenS (Tryd.underlying22) rfl) ?_
      refine gk_y rfl rfl (y_lss rfl rfl) ?_
      refine gk_nil (gk_sub (T' := [(0,_), (2,_), (3,_), (4,_), (5,_), (6,_), (24,_)]) ⟨rfl, rfl, rfl, rfl, rfl, rfl, rfl, trivial⟩ ?_)
      refine gk_cond rfl (fun hc24 => ?_) (fun hc24 => ?_)
      · have hc24 := of_decide_eq_true hc24
        refine gk_skip ?_
        refine gk_seq ?_
        refine gk_block ?_
        refine gk_seq ?_
        refine gk_any 16 (fun _ => mixed) (by kernel_rfl) ?_
        refine ph_y (y_move rfl) ?_
        refine ph_y (y_move rfl) ?_
        refine ph_y (y_indexE se22 rfl rfl (fun _ hw => (Rd.has (Has.rd hl) hw)) (by omega) (by omega)) ?_
        refine ph_y (y_fieldE fo24_0 rfl (fun w hw => elems_addr (i := i) (Rd.has (Has.rd hl) hw) (by omega) (by omega))) ?_
        refine ph_y (y_loadEF tf3 rfl (fun _ hw => (Rd.has (Has.rd hl) hw)) (by omega) (by omega) rfl) ?_
        refine ph_y (y_call en50 rfl (fun w hw => in_c _ _ _ w)) ?_
        refine ph_y (y_not rfl) ?_
        refine ph_y (y_move rfl) ?_
        refine ph_gF rfl rfl (fun hgd => by (try rw [hgd]); exact (y_move rfl)) ?_
        refine ph_gF rfl rfl (fun hgd => by (try rw [hgd]); exact (y_move rfl)) ?_
        refine ph_gF rfl rfl (fun hgd => by (try rw [hgd]); exact (y_indexE se22 rfl rfl (fun _ hw => (Rd.has (Has.rd hl) hw)) (by omega) (by omega))) ?_
        refine ph_gF rfl rfl (fun hgd => by (try rw [hgd]); exact (y_fieldE fo24_1 rfl (fun w hw => elems_addr (i := i) (Rd.has (Has.rd hl) hw) (by omega) (by omega)))) ?_
        refine ph_gF rfl rfl (fun hgd => by (try rw [hgd]); exact (y_loadEF tf3 rfl (fun _ hw => (Rd.has (Has.rd hl) hw)) (by omega) (by omega) rfl)) ?_
        refine ph_gF rfl rfl (fun hgd => by (try rw [hgd]); exact (y_call (v := .bool (decide ((-2000) ≤ ((l.getD (i).toNat default).z)) && decide (((l.getD (i).toNat default).z) ≤ 2000))) en50 rfl (fun w hw => in_c _ _ _ w))) ?_
        refine ph_gF rfl rfl (fun hgd => by (try rw [hgd]); exact (y_not rfl)) ?_
        refine ph_y (y_pickOr rfl rfl rfl) ?_
        refine gk_nil (gk_sub (T' := [(0,_), (2,_), (3,_), (4,_), (5,_), (6,_), (42,_)]) ⟨rfl, rfl, rfl, rfl, rfl, rfl, rfl, trivial⟩ ?_)
        refine gk_cond rfl (fun hc42 => ?_) (fun hc42 => ?_)
        · have hE := far_hull (l := l) (i := i) (by omega) hc42
          have hL : hullL l = [] := by unfold hullL; rw [if_neg (by rw [hE]; decide)]
          refine gk_seq ?_
          refine gk_region ?_
          refine gk_y rfl rfl (y_move rfl) ?_
          refine gk_y rfl rfl (y_castT (y_eql rfl rfl) (by exact decide_eq_true (hE))) ?_
          refine gk_y rfl rfl (y_move rfl) ?_
          refine gk_guard rfl rfl rfl rfl (fun _ => ?_) (fun h => absurd h (by decide))
          refine gk_y rfl rfl (y_move rfl) ?_
          refine gk_guard rfl rfl rfl rfl (fun _ => ?_) (fun h => absurd h (by decide))
          refine gk_y rfl rfl (y_lenS (Tryd.underlying31) rfl) ?_
          refine gk_guard rfl rfl rfl rfl (fun _ => ?_) (fun h => absurd h (by decide))
          refine gk_y rfl rfl (y_castT (y_eql rfl rfl) (by exact decide_eq_true (by rw [hL]; rfl))) ?_
          refine gk_y rfl rfl (y_pick rfl rfl rfl) ?_
          refine gk_y rfl rfl (y_move rfl) ?_
          refine gk_guard rfl rfl rfl rfl (fun _ => ?_) (fun h => absurd h (by decide))
          refine gk_y rfl rfl (y_call en15 rfl (fun w hw => wakes_c w (Rd.has (Has.rd hways) hw))) ?_
          refine gk_y rfl rfl (y_pick rfl rfl rfl) ?_
          refine gk_y rfl rfl (y_assign rfl) ?_
          refine gk_nil (gk_sub (T' := [(0,_), (2,_), (3,_), (4,_), (5,_), (6,_)]) ⟨rfl, rfl, rfl, rfl, rfl, rfl, trivial⟩ ?_)
          refine gk_ret ?_
          refine gk_pure (rv_one rfl (r1_tmp rfl)) ?_
          rfl
        · skip
          refine gk_skip ?_
          refine gk_region ?_
          refine gk_y rfl rfl (y_move rfl) ?_
          refine gk_y rfl rfl (y_addI rfl rfl (by omega) (by omega)) ?_
          refine gk_y rfl rfl (y_assign rfl) ?_
          refine gk_nil (gk_sub (T' := [(0,_), (2,_), (3,_), (4,_), (5,_), (6,_)]) ⟨rfl, rfl, rfl, rfl, rfl, rfl, trivial⟩ ?_)
          exact gk_next (i + 1) ⟨rfl, rfl, rfl, rfl, rfl, rfl, trivial⟩ rfl ⟨by omega, by omega, fun j hj => by
                rcases Int.lt_or_eq_of_le (show (j : Int) ≤ i by omega) with h | h
                · exact g2 j h
                · rw [show j = i.toNat from by omega]; exact hc42⟩ (by omega)
      · have hc24 := of_decide_eq_false hc24
        have hfar := far_none hc24 g2
        refine gk_exit rfl ?_
        refine gk_seq ?_
        refine gk_region ?_
        refine gk_y rfl rfl (y_move rfl) ?_
        refine gk_yx rfl rfl (yx_call en51 rfl (fun w hw => rhull_c _ _ l (hullC l) w (Rd.has (Has.rd hl) hw) (by assumption) (by assumption) (fun hf => (hull_round hfar hf).1))) fun p55 => ?_
        refine gk_y rfl rfl (y_move rfl) ?_
        refine gk_y rfl rfl (y_extract rfl rfl) ?_
        refine gk_y rfl rfl (y_extract rfl rfl) ?_
        refine gk_y rfl rfl (y_assign rfl) ?_
        refine gk_y rfl rfl (y_assign rfl) ?_
        refine gk_nil (gk_sub (T' := [(0,_), (2,_), (3,_), (4,_), (5,_), (7,_), (8,_)]) ⟨rfl, rfl, rfl, rfl, rfl, rfl, rfl, trivial⟩ ?_)
        refine gk_seq ?_
        refine gk_seq ?_
        refine gk_region ?_
        refine gk_y rfl rfl (y_move rfl) ?_
        refine gk_y rfl rfl (y_not rfl) ?_
        refine gk_nil (gk_sub (T' := [(0,_), (2,_), (3,_), (4,_), (5,_), (7,_), (59,_)]) ⟨rfl, rfl, rfl, rfl, rfl, rfl, rfl, trivial⟩ ?_)
        refine gk_cond rfl (fun hc59 => ?_) (fun hc59 => ?_)
        · have hE := hull_flat hfar (by simpa using hc59)
          have hL : hullL l = [] := by unfold hullL; rw [if_neg (by rw [hE]; decide)]
          refine gk_seq ?_
          refine gk_region ?_
          refine gk_y rfl rfl (y_move rfl) ?_
          refine gk_y rfl rfl (y_castT (y_eql rfl rfl) (by exact decide_eq_true (hE))) ?_
          refine gk_y rfl rfl (y_move rfl) ?_
          refine gk_guard rfl rfl rfl rfl (fun _ => ?_) (fun h => absurd h (by decide))
          refine gk_y rfl rfl (y_move rfl) ?_
          refine gk_guard rfl rfl rfl rfl (fun _ => ?_) (fun h => absurd h (by decide))
          refine gk_y rfl rfl (y_lenS (Tryd.underlying31) rfl) ?_
          refine gk_guard rfl rfl rfl rfl (fun _ => ?_) (fun h => absurd h (by decide))
          refine gk_y rfl rfl (y_castT (y_eql rfl rfl) (by exact decide_eq_true (by rw [hL]; rfl))) ?_
          refine gk_y rfl rfl (y_pick rfl rfl rfl) ?_
          refine gk_y rfl rfl (y_move rfl) ?_
          refine gk_guard rfl rfl rfl rfl (fun _ => ?_) (fun h => absurd h (by decide))
          refine gk_y rfl rfl (y_call en15 rfl (fun w hw => wakes_c w (Rd.has (Has.rd hways) hw))) ?_
          refine gk_y rfl rfl (y_pick rfl rfl rfl) ?_
          refine gk_y rfl rfl (y_assign rfl) ?_
          refine gk_nil (gk_sub (T' := [(0,_), (2,_), (3,_), (4,_), (5,_), (7,_)]) ⟨rfl, rfl, rfl, rfl, rfl, rfl, trivial⟩ ?_)
          refine gk_ret ?_
          refine gk_pure (rv_one rfl (r1_tmp rfl)) ?_
          rfl
        · have hfl : rflatB l = false := by simpa using hc59
          obtain ⟨hO, hEE⟩ := hull_out hfar hfl
          have h4 := (hull_round hfar hfl).2
          have hOl := hullO_len h4
          have hrl : (rhullL l (hullC l)).length = (hullC l).length - 1 := by rw [hO, hOl]
          have hrs : Small (rhullL l (hullC l)).length := by unfold Small at *; omega
          refine gk_skip ?_
          refine gk_seq ?_
          refine gk_region ?_
          refine gk_y rfl rfl (y_move rfl) ?_
          refine gk_y rfl rfl (y_call en30 rfl (fun w hw => high_c _ _ (rhullL l (hullC l)) w (has_row encPt_ok (hw.has (p := 0) rfl)) (by assumption) (by omega))) ?_
          refine gk_yx rfl rfl (yx_alloc tf24 (zs := [_, _]) rfl) fun b9 => ?_
          refine gk_storeV 0 tf24 rfl rfl (vs := [_, _]) rfl rfl rfl rfl rfl ?_
          refine gk_nil (gk_sub (T' := [(0,_), (2,_), (3,_), (4,_), (5,_), (7,_), (9,_)]) ⟨rfl, rfl, rfl, rfl, rfl, rfl, rfl, trivial⟩ ?_)
          refine gk_seq ?_
          refine gk_seq ?_
          refine gk_any 13 (fun _ => mixed) (by kernel_rfl) ?_
          refine ph_y (y_move rfl) ?_
          refine ph_y (y_lenS (Tryd.underlying22) rfl) ?_
          refine ph_y (y_gtr rfl rfl) ?_
          refine ph_y (y_move rfl) ?_
          refine ph_gF rfl rfl (fun hgd => by (try rw [hgd]); exact (y_fieldAddr fo24_0 rfl)) ?_
          refine ph_gF rfl rfl (fun hgd => by (try rw [hgd]); exact (y_loadB1 0 tf3 rfl rfl rfl)) ?_
          refine ph_gF rfl rfl (fun hgd => by (try rw [hgd]); exact (y_gtr rfl rfl)) ?_
          refine ph_y (y_pickOr rfl rfl rfl) ?_
          refine ph_y (y_move rfl) ?_
          refine ph_gF rfl rfl (fun hgd => by (try rw [hgd]); exact (y_fieldAddr fo24_1 rfl)) ?_
          refine ph_gF rfl rfl (fun hgd => by (try rw [hgd]); exact (y_loadB1 0 tf3 rfl rfl rfl)) ?_
          refine ph_gF rfl rfl (fun hgd => by (try rw [hgd]); exact (y_gtr rfl rfl)) ?_
          refine ph_y (y_pickOr rfl rfl rfl) ?_
          refine gk_nil (gk_sub (T' := [(0,_), (2,_), (3,_), (4,_), (5,_), (7,_), (84,_)]) ⟨rfl, rfl, rfl, rfl, rfl, rfl, rfl, trivial⟩ ?_)
          refine gk_cond rfl (fun hc84 => ?_) (fun hc84 => ?_)
          · have hE : hullE l = 5 := by rw [hEE, if_pos]; rw [hO] at hc84; simp only [Bool.or_eq_true, decide_eq_true_eq] at hc84 ⊢; omega
            have hL : hullL l = [] := by unfold hullL; rw [if_neg (by rw [hE]; decide)]
            refine gk_seq ?_
            refine gk_region ?_
            refine gk_y rfl rfl (y_move rfl) ?_
            refine gk_y rfl rfl (y_castT (y_eql rfl rfl) (by exact decide_eq_true (hE))) ?_
            refine gk_y rfl rfl (y_move rfl) ?_
            refine gk_guard rfl rfl rfl rfl (fun _ => ?_) (fun h => absurd h (by decide))
            refine gk_y rfl rfl (y_move rfl) ?_
            refine gk_guard rfl rfl rfl rfl (fun _ => ?_) (fun h => absurd h (by decide))
            refine gk_y rfl rfl (y_lenS (Tryd.underlying31) rfl) ?_
            refine gk_guard rfl rfl rfl rfl (fun _ => ?_) (fun h => absurd h (by decide))
            refine gk_y rfl rfl (y_castT (y_eql rfl rfl) (by exact decide_eq_true (by rw [hL]; rfl))) ?_
            refine gk_y rfl rfl (y_pick rfl rfl rfl) ?_
            refine gk_y rfl rfl (y_move rfl) ?_
            refine gk_guard rfl rfl rfl rfl (fun _ => ?_) (fun h => absurd h (by decide))
            refine gk_y rfl rfl (y_call en15 rfl (fun w hw => wakes_c w (Rd.has (Has.rd hways) hw))) ?_
            refine gk_y rfl rfl (y_pick rfl rfl rfl) ?_
            refine gk_y rfl rfl (y_assign rfl) ?_
            refine gk_nil (gk_sub (T' := [(0,_), (2,_), (3,_), (4,_), (5,_), (7,_)]) ⟨rfl, rfl, rfl, rfl, rfl, rfl, trivial⟩ ?_)
            refine gk_ret ?_
            refine gk_pure (rv_one rfl (r1_tmp rfl)) ?_
            rfl
          · have hE : hullE l = 0 := by rw [hEE, if_neg]; rw [hO] at hc84; simp only [Bool.or_eq_true, Bool.or_eq_false_iff, decide_eq_true_eq, decide_eq_false_iff_not] at hc84 ⊢; omega
            have hL : hullL l = hullO l := by unfold hullL; rw [if_pos hE]
            have hls : Small (hullL l).length := by rw [hL, ← hO]; exact hrs
            refine gk_skip ?_
            refine gk_seq ?_
            refine gk_region ?_
            refine gk_y rfl rfl (y_move rfl) ?_
            refine gk_y rfl rfl (y_castT (y_eql rfl rfl) (by exact decide_eq_true (hE))) ?_
            refine gk_y rfl rfl (y_move rfl) ?_
            refine gk_guard rfl rfl rfl rfl (fun _ => ?_) (fun h => absurd h (by decide))
            refine gk_y rfl rfl (y_move rfl) ?_
            refine gk_guard rfl rfl rfl rfl (fun _ => ?_) (fun h => absurd h (by decide))
            refine gk_y rfl rfl (y_move rfl) ?_
            refine gk_guard rfl rfl rfl rfl (fun _ => ?_) (fun h => absurd h (by decide))
            refine gk_y rfl rfl (y_castT (b := (decide ((hullL l) = (rhullL l (hullC l))))) (y_call en24 rfl (fun w hw => samepoints_c _ _ (hullL l) _ _ (rhullL l (hullC l)) w (has_row encPt_ok (hw.has (p := 2) rfl)) (has_row encPt_ok (hw.has (p := 1) rfl)) (by assumption))) (by exact decide_eq_true (hL.trans hO.symm))) ?_
            refine gk_y rfl rfl (y_pick rfl rfl rfl) ?_
            refine gk_y rfl rfl (y_move rfl) ?_
            refine gk_guard rfl rfl rfl rfl (fun _ => ?_) (fun h => absurd h (by decide))
            refine gk_y rfl rfl (y_move rfl) ?_
            refine gk_guard rfl rfl rfl rfl (fun _ => ?_) (fun h => absurd h (by decide))
            refine gk_y rfl rfl (y_move rfl) ?_
            refine gk_guard rfl rfl rfl rfl (fun _ => ?_) (fun h => absurd h (by decide))
            refine gk_y rfl rfl (y_castT (b := (decide (l = l))) (y_call en24 rfl (fun w hw => samepoints_c _ _ l _ _ l w (has_row encPt_ok (hw.has (p := 3) rfl)) (Rd.has (Has.rd hl) hw) (by assumption))) (by exact decide_eq_true rfl)) ?_
            refine gk_y rfl rfl (y_pick rfl rfl rfl) ?_
            refine gk_y rfl rfl (y_move rfl) ?_
            refine gk_guard rfl rfl rfl rfl (fun _ => ?_) (fun h => absurd h (by decide))
            refine gk_y rfl rfl (y_call en15 rfl (fun w hw => wakes_c w (Rd.has (Has.rd hways) hw))) ?_
            refine gk_y rfl rfl (y_pick rfl rfl rfl) ?_
            refine gk_y rfl rfl (y_assign rfl) ?_
            refine gk_nil (gk_sub (T' := [(2,_)]) ⟨rfl, trivial⟩ ?_)
            refine gk_ret ?_
            refine gk_pure (rv_one rfl (r1_tmp rfl)) ?_
            rfl
end Go.Proofs.YtahahmelnaphjaaDoor

namespace Go.K
open Go Go.Stn Go.ChangeShapes Go.WideShapes Go.ChangeAt Go.WideElems Go.RowKit
theorem open_list {H : Type} {enc : TypeId × Value → H} {P : Program} {w : World} {base : Nat} {spare : Nat → Bool} {held : Bool} {t e : TypeId} {fx fz : Field} {r : Reach} {b0 : Nat} {v : Value} {d : DataW H} {p : List MemPlace}
    (ht : P.underlying t = some (.slice e)) (T : PtT P e fx fz) (hv : Value.okWide P w r b0 t v) (h : DataW.Trod enc P w base spare held t v d p) :
    ∃ (a : Option Addr) (l : List Pt) (cap : Nat), Has w (Pts a l) ∧ l.length ≤ cap ∧ (∀ p ∈ l, PtIn p) ∧ v = .slice a l.length cap := by
  obtain ⟨a0, len, c0, rfl⟩ := okWide_slice ht hv
  obtain ⟨fuel, hf⟩ := h
  obtain ⟨a, l, cap, h1, h2, h3, h4⟩ := open_pts ht T hf
  refine ⟨a, l, cap, h2, h3, h4, ?_⟩
  simpa [Value.cells] using h1
end Go.K
