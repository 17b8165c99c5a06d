/- A layer for walks, thirteenth text: regions in any order with one store among the free operations. No statement of the seat is proved in this text. -/
import Derived.Test.YtahahmelnaphjaaDoorK12
namespace Go.K
open Go Go.RowKit

def Emp : Res := ⟨fun _ _ => True, fun _ _ _ _ _ => trivial⟩

def inL : List Nat → Nat → Bool
  | [], _ => false
  | x :: r, i => Nat.beq x i || inL r i

/-- a store turns R to R' -/
structure StoreOb (c : Cx) (ds : List Deferred) (T : List (Nat × Value)) (H : List Res) (st : Oper) (R R' : Res) : Prop where
  run : ∀ a w B, Sat c.n T ds a → Hp c.U c.w0 H w → (∀ k, B k → k < w.heap.size) → R.A B w → Yld c.P st a w (fun _ w' => Mod B w w' ∧ ∃ B', Own B B' w w' ∧ R'.A B' w')

/-- the lexical walk; what operation i is shown hangs on i -/
def PHs (c : Cx) (ds : List Deferred) (pre : List Oper) (T0 : List (Nat × Value)) (Hf : Nat → List Res) (K : Ents → Prop) : Nat → List Oper → Ents → Prop
  | _, [], S => K S
  | i, o :: r, S => ∃ d e, o.dst = some d ∧ Ob c ds pre T0 (Hf i) i o S e ∧ PHs c ds pre T0 Hf K (i + 1) r ((i, d, e) :: S)

def closedS (n : Nat) (pre : List Oper) (st : Oper) (suf : List Oper) (late : List Nat) : Bool :=
  backEdges 0 (pre ++ st :: suf) && noDefer (pre ++ st :: suf) && distinct (dsts pre) && pre.all (fun o => dstOk o.dst n) && st.dst.isNone && st.guard.isNone &&
  (suf.isEmpty || ((List.range (pre.length + 1)).all fun j => reach (pre ++ st :: suf) 64 (pre.length + 1) j)) && chain (pre ++ st :: suf) (pre.length + 1) &&
  ((List.range pre.length).all fun j => inL late j || reach (pre ++ st :: suf) 64 pre.length j)

section
variable {c : Cx} {ds : List Deferred} {p : Post} {ops pre suf : List Oper} {st : Oper} {T0 : List (Nat × Value)} {H : List Res} {S : Ents} {listed : Array Bool} {a : Act} {w : World}

theorem holds_emp {w : World} : ∀ (H : List Res) (q : Nat) (U : Nat → Prop), Holds H U w → Holds (H.set q Emp) U w
  | [], _, _, h => h
  | _ :: _, 0, _, ⟨B, hB, _, hr⟩ => ⟨B, hB, trivial, hr⟩
  | _ :: r, q + 1, _, ⟨B, hB, hA, hr⟩ => ⟨B, hB, hA, holds_emp r q _ hr⟩

theorem set_set' {H : List Res} {q : Nat} {R : Res} : (H.set q R).set q Emp = H.set q Emp := by simp

theorem Inv.emp (h : Inv c ds ops pre T0 H S listed a w) (q : Nat) : Inv c ds ops pre T0 (H.set q Emp) S listed a w := by
  obtain ⟨v, R, B, h1, h2, h3, h4⟩ := h.fam
  exact ⟨h.base, h.size, h.defers, h.closed, h.old, v, R, B, h1, h2, h3, holds_emp H q _ h4⟩

theorem holds_upd {w w' : World} {H : List Res} {q : Nat} {R R' : Res} {U B B' : Nat → Prop} (hq : H[q]? = some R) (hU : ∀ k, U k → k < w.heap.size) (hB : ∀ k, B k → ¬ U k ∧ k < w.heap.size)
    (hr : Holds (H.eraseIdx q) (fun k => U k ∨ B k) w) (hm : Mod B w w') (ho : Own B B' w w') (hA : R'.A B' w') : Holds (H.set q R') U w' := by
  refine Holds.back H q hq ⟨B', fun k hk => ?_, hA, ?_⟩
  · rcases ho k hk with hk' | ⟨h1, h2⟩
    · exact ⟨(hB k hk').1, Nat.lt_of_lt_of_le (hB k hk').2 hm.size⟩
    · exact ⟨fun hu => by have := hU k hu; omega, h2⟩
  · have key : ∀ (L : List Res) (V : Nat → Prop), (∀ k, B k → V k) → Holds L V w → Holds L (fun k => V k ∨ B' k) w' := by
      intro L
      induction L with
      | nil => intro _ _ _; trivial
      | cons S r ih =>
        rintro V hV ⟨C, hC, hA, hr⟩
        refine ⟨C, fun k hk => ⟨fun hv => ?_, Nat.lt_of_lt_of_le (hC k hk).2 hm.size⟩, S.loc C w w' (fun k hk => hm.same k (hC k hk).2 (fun hb => (hC k hk).1 (hV k hb))) hA, ?_⟩
        · rcases hv with hv | hv
          · exact (hC k hk).1 hv
          · rcases ho k hv with hb | ⟨h1, _⟩
            · exact (hC k hk).1 (hV k hb)
            · have := (hC k hk).2; omega
        · exact Holds.anti r (fun k hk => by rcases hk with (h | h) | h <;> simp [h]) (ih _ (fun k hk => .inl (hV k hk)) hr)
    exact Holds.anti _ (fun k hk => by rcases hk with h | h <;> simp [h]) (key _ _ (fun k hk => .inr hk) hr)

/-- the store is done -/
theorem inv_store (hI : Inv c ds ops pre T0 H S listed a w) {m q : Nat} {R R' : Res} (hst : ops[m]? = some st) (hml : m < listed.size) (hclo : ∀ j, bindsTo st j = true → isOn listed j)
    (hpm : pre[m]? = none) (hSm : ∀ j dj ej, (j, dj, ej) ∈ S → j ≠ m) (hun : ¬ isOn listed m) (hq : H[q]? = some R) :
    ∃ B, (∀ k, B k → k < w.heap.size) ∧ R.A B w ∧ ∀ w' B', Mod B w w' → Own B B' w w' → R'.A B' w' → Inv c ds ops pre T0 (H.set q R') S (listed.setIfInBounds m true) a w' := by
  obtain ⟨v0, R0, B0, h1, h2, h3, h4⟩ := hI.fam
  obtain ⟨B, hB, hA, hr⟩ := Holds.front H q hq h4
  have hon : ∀ j, isOn (listed.setIfInBounds m true) j ↔ j = m ∨ isOn listed j := isOn_set hml
  refine ⟨B, fun k hk => (hB k hk).2, hA, fun w' B' hm ho hA' => ?_⟩
  have hUw : ∀ k, (c.U k ∨ ∃ i, isOn listed i ∧ (R0 i).isSome = true ∧ B0 i k) → k < w.heap.size := by
    rintro k (hu | ⟨i, hi, hs, hb⟩)
    · exact Nat.lt_of_lt_of_le (hI.base.lt k hu) hI.base.size
    · obtain ⟨r, hr⟩ := Option.isSome_iff_exists.1 hs
      exact ((h2 i r hi hr).2 k hb).2
  refine ⟨hI.base.mod hm (fun k hk hu => (hB k hk).1 (.inl hu)), hI.size, hI.defers, ?_, ?_, v0, fun j => if j = m then none else R0 j, B0, ?_, ?_, ?_, ?_⟩
  · intro k ok hk honk j hj
    rcases (hon k).1 honk with rfl | hk'
    · rw [hst] at hk; cases hk
      exact (hon j).2 (.inr (hclo j hj))
    · exact (hon j).2 (.inr (hI.closed k ok hk hk' j hj))
  · intro s u hs hno
    refine hI.old s u hs fun k o hk hok => ?_
    exact hno k o hk ((hon k).2 (.inr hok))
  · intro i d e hi hoi
    have him := hSm i d e hi
    simp only [if_neg him]
    exact h1 i d e hi (((hon i).1 hoi).resolve_left him)
  · intro i r hoi hri
    replace hri : (if i = m then none else R0 i) = some r := hri
    by_cases him : i = m
    · rw [if_pos him] at hri; cases hri
    · rw [if_neg him] at hri
      have hoi' := ((hon i).1 hoi).resolve_left him
      obtain ⟨g1, g2⟩ := h2 i r hoi' hri
      refine ⟨r.loc _ w w' (fun k hk => hm.same k (g2 k hk).2 (fun hb => (hB k hb).1 (.inr ⟨i, hoi', by rw [hri]; rfl, hk⟩))) g1, fun k hk => ⟨(g2 k hk).1, Nat.lt_of_lt_of_le (g2 k hk).2 hm.size⟩⟩
  · intro i j hoi hoj hri hrj hij
    replace hri : (if i = m then none else R0 i).isSome = true := hri
    replace hrj : (if j = m then none else R0 j).isSome = true := hrj
    by_cases him : i = m
    · rw [if_pos him] at hri; cases hri
    · by_cases hjm : j = m
      · rw [if_pos hjm] at hrj; cases hrj
      · rw [if_neg him] at hri; rw [if_neg hjm] at hrj
        exact h3 i j (((hon i).1 hoi).resolve_left him) (((hon j).1 hoj).resolve_left hjm) hri hrj hij
  · refine Holds.anti _ ?_ (holds_upd hq hUw hB hr hm ho hA')
    rintro k (hu | ⟨i, hoi, hri, hb⟩)
    · exact .inl hu
    · replace hri : (if i = m then none else R0 i).isSome = true := hri
      by_cases him : i = m
      · rw [if_pos him] at hri; cases hri
      · rw [if_neg him] at hri
        exact .inr ⟨i, ((hon i).1 hoi).resolve_left him, hri, hb⟩

theorem phs_out {K : Ents → Prop} {Hf : Nat → List Res} : ∀ (r : List Oper) (i : Nat) (Sa : Ents), PHs c ds pre T0 Hf K i r Sa → ∃ S, K S ∧ (∃ q, S = q ++ Sa ∧ q.map (·.1) = (List.range' i r.length).reverse) ∧
    ∀ (j : Nat) o, r[j]? = some o → ∃ d e S', o.dst = some d ∧ Ob c ds pre T0 (Hf (i + j)) (i + j) o S' e ∧ ∃ q, S = q ++ (i + j, d, e) :: S'
  | [], i, Sa, h => ⟨Sa, h, ⟨[], rfl, rfl⟩, fun j o hj => by simp at hj⟩
  | o :: r, i, Sa, h => by
    obtain ⟨d, e, hd, hO, hr⟩ := h
    obtain ⟨S, hK, ⟨q, hq, hq2⟩, hall⟩ := phs_out r (i + 1) _ hr
    refine ⟨S, hK, ⟨q ++ [(i, d, e)], by rw [hq]; simp, ?_⟩, ?_⟩
    · simp only [List.map_append, hq2, List.map_cons, List.map_nil, List.length_cons, List.range'_succ, List.reverse_cons]
    · intro j oj hj
      cases j with
      | zero =>
        simp only [List.getElem?_cons_zero, Option.some.injEq] at hj
        subst hj
        exact ⟨d, e, Sa, hd, hO, q, hq⟩
      | succ j =>
        simp only [List.getElem?_cons_succ] at hj
        obtain ⟨d', e', S', h1, h2, h3⟩ := hall j oj hj
        exact ⟨d', e', S', h1, by rwa [show i + (j + 1) = i + 1 + j from by omega], by rwa [show i + (j + 1) = i + 1 + j from by omega]⟩

theorem ents_uniq : ∀ (L : Ents), (L.map (·.1)).Nodup → ∀ x ∈ L, ∀ y ∈ L, x.1 = y.1 → x = y := by
  intro L
  induction L with
  | nil => intro _ x hx; cases hx
  | cons z r ih =>
    intro hn x hx y hy hxy
    simp only [List.map_cons, List.nodup_cons] at hn
    rcases List.mem_cons.1 hx with rfl | hx' <;> rcases List.mem_cons.1 hy with rfl | hy'
    · rfl
    · exact absurd (List.mem_map.2 ⟨y, hy', hxy.symm⟩) hn.1
    · exact absurd (List.mem_map.2 ⟨x, hx', hxy⟩) hn.1
    · exact ih hn.2 x hx' y hy' hxy

theorem phase1s {late : List Nat} {q : Nat} {R R' : Res} (hc : closedS c.n pre st suf late = true) {S : Ents} (hS1 : S.map (·.1) = (List.range' 0 pre.length).reverse) (hqR : H[q]? = some R)
    (hall : ∀ (j : Nat) o, pre[j]? = some o → ∃ d e S', o.dst = some d ∧ Ob c ds pre T0 (bif inL late (0 + j) then H.set q Emp else H) (0 + j) o S' e ∧ ∃ q, S = q ++ (0 + j, d, e) :: S')
    (hstore : finE (deps st S) (baseT pre pre.length T0) H (fun T H' => StoreOb c ds T H' st R R'))
    (hK : finE (allE S) (keepT pre T0) (H.set q R') (fun T H' => GK c ds (KL c (pre ++ st :: suf).toArray p suf) T H')) :
    ∀ (fuel : Nat) (listed : Array Bool) (a : Act) (w : World), ((List.range (pre ++ st :: suf).length).filter (fun i => !listed.getD i false)).length ≤ fuel → listed.size = (pre ++ st :: suf).length →
      (∀ k, pre.length < k → ¬ isOn listed k) → ((¬ isOn listed pre.length ∧ Inv c ds (pre ++ st :: suf) pre T0 H S listed a w) ∨ (isOn listed pre.length ∧ Inv c ds (pre ++ st :: suf) pre T0 (H.set q R') S listed a w)) →
      wpAnyIn (FW c.r) 0 c.P .any (pre ++ st :: suf).toArray p.Q fuel listed a w := by
  simp only [closedS, Bool.and_eq_true] at hc
  obtain ⟨⟨⟨⟨⟨⟨⟨⟨hback, hdef⟩, hdst⟩, hok⟩, hstd⟩, hstg⟩, hfirst⟩, hchain⟩, hlate⟩ := hc
  have hnodup : (S.map (·.1)).Nodup := by
    rw [hS1]
    unfold List.Nodup
    rw [List.pairwise_reverse]
    exact (List.nodup_range' (s := 0) (n := pre.length) (step := 1)).imp Ne.symm
  have huniq := ents_uniq S hnodup
  have hpre : ∀ (k : Nat) o, pre[k]? = some o → (pre ++ st :: suf)[k]? = some o := fun k o h => by
    have := (List.getElem?_eq_some_iff.1 h).1
    rw [List.getElem?_append_left this]; exact h
  have hstm : (pre ++ st :: suf)[pre.length]? = some st := by rw [List.getElem?_append_right (Nat.le_refl _)]; simp
  have hjlt : ∀ j dj ej, (j, dj, ej) ∈ S → j < pre.length := by
    intro j dj ej hj
    have hjm : j ∈ S.map (·.1) := List.mem_map.2 ⟨_, hj, rfl⟩
    rw [hS1, List.mem_reverse, List.mem_range'_1] at hjm
    omega
  have hSop : ∀ j dj ej, (j, dj, ej) ∈ S → ∃ oj, pre[j]? = some oj ∧ oj.dst = some dj := by
    intro j dj ej hj
    have hlt := hjlt j dj ej hj
    obtain ⟨d, e, S', hd, _, q, hq⟩ := hall j pre[j] (by simp [hlt])
    rw [Nat.zero_add] at hq
    have hmem : (j, d, e) ∈ S := by rw [hq]; simp
    have := huniq _ hj _ hmem rfl
    simp only [Prod.mk.injEq, true_and] at this
    exact ⟨pre[j], by simp [hlt], by rw [hd, this.1]⟩
  have hkeep : ∀ {H' : List Res} {listed : Array Bool} {a : Act} {w : World}, Inv c ds (pre ++ st :: suf) pre T0 H' S listed a w → Sat c.n (keepT pre T0) ds a := by
    intro H' listed a w hI
    refine ⟨hI.size, fun t v h => ?_, hI.defers⟩
    rw [keepT_eq] at h
    obtain ⟨h1, h2⟩ := lk_filter (fun s => pre.all (fun f => match f.dst with | some d => !Nat.beq d s | none => true)) T0 _ (fun _ _ _ _ => trivial) rfl t v h
    refine hI.old t v h1 fun k o hk _ hd => ?_
    rw [List.all_eq_true] at h2
    have h3 := h2 o (List.mem_of_getElem? hk)
    rw [hd] at h3
    simp at h3
  -- all of them are done
  have hend : ∀ (fuel : Nat) (listed : Array Bool) (a : Act) (w : World), ((List.range (pre ++ st :: suf).length).filter (fun i => !listed.getD i false)).length ≤ fuel → listed.size = (pre ++ st :: suf).length → (∀ k, pre.length < k → ¬ isOn listed k) →
      (∀ i, i < pre.length + 1 → isOn listed i) → Inv c ds (pre ++ st :: suf) pre T0 (H.set q R') S listed a w → wpAnyIn (FW c.r) 0 c.P .any (pre ++ st :: suf).toArray p.Q fuel listed a w := by
    intro fuel listed a w hf hsz hsuf hallon hI
    obtain ⟨T', H', hg, hsat, hhp⟩ := inv_deps (S := S) (S1 := S) (f := fun _ => true) (L := allE) (K := fun T H' => GK c ds (KL c (pre ++ st :: suf).toArray p suf) T H') (T1 := keepT pre T0) hI (fun _ h => h)
      (fun x hx _ => hallon x.1 (by have := hjlt x.1 x.2.1 x.2.2 hx; omega)) (hkeep hI) rfl (fun _ _ _ _ => rfl) hnodup hK
    have hl := hg a w hsat hhp
    have hcnt : suf.length ≤ fuel := by
      refine Nat.le_trans ?_ hf
      have hlen : (pre ++ st :: suf).length = (pre.length + 1) + suf.length := by simp; omega
      rw [hlen, List.range_eq_range', ← List.range'_append_1, List.filter_append, List.length_append]
      refine Nat.le_trans ?_ (Nat.le_add_left _ _)
      rw [List.filter_eq_self.2 (fun x hx => ?_)]
      · simp
      · rw [List.mem_range'_1] at hx
        have := hsuf x (by omega)
        unfold isOn at this
        simp only [Bool.not_eq_true] at this
        rw [this]; rfl
    refine phase2 (m := pre.length + 1) hback hchain suf.length 0 fuel listed a w (by simp; omega) hcnt hsz (fun k hk => ⟨fun hon => ?_, fun h => hallon k (by omega)⟩) ?_
    · rcases Nat.lt_or_ge k (pre.length + 1) with h | h
      · omega
      · exact absurd hon (hsuf k (by omega))
    rw [Nat.add_zero, show (pre ++ st :: suf).drop (pre.length + 1) = suf from by rw [← List.drop_drop, List.drop_left]; rfl]
    exact hl
  have hmode : ∀ {listed : Array Bool} {a : Act} {w : World}, ((¬ isOn listed pre.length ∧ Inv c ds (pre ++ st :: suf) pre T0 H S listed a w) ∨ (isOn listed pre.length ∧ Inv c ds (pre ++ st :: suf) pre T0 (H.set q R') S listed a w)) →
      isOn listed pre.length → Inv c ds (pre ++ st :: suf) pre T0 (H.set q R') S listed a w := fun h hon => by
    rcases h with ⟨h, _⟩ | ⟨_, h⟩
    · exact absurd hon h
    · exact h
  intro fuel
  induction fuel with
  | zero =>
    intro listed a w hf hsz hsuf hI
    by_cases hallon : ∀ i, i < pre.length + 1 → isOn listed i
    · exact hend 0 listed a w hf hsz hsuf hallon (hmode hI (hallon _ (by omega)))
    · exfalso
      obtain ⟨i, hi⟩ := Classical.not_forall.1 hallon
      obtain ⟨hi1, hi2⟩ := Classical.not_imp.1 hi
      have hmem : i ∈ (List.range (pre ++ st :: suf).length).filter (fun i => !listed.getD i false) := by
        rw [List.mem_filter, List.mem_range]
        refine ⟨by simp; omega, ?_⟩
        unfold isOn at hi2
        simp only [Bool.not_eq_true] at hi2
        rw [hi2]; rfl
      have := List.length_pos_of_mem hmem
      omega
  | succ fuel ih =>
    intro listed a w hf hsz hsuf hI
    by_cases hallon : ∀ i, i < pre.length + 1 → isOn listed i
    · exact hend _ listed a w hf hsz hsuf hallon (hmode hI (hallon _ (by omega)))
    · have hex : ∃ i, i < pre.length + 1 ∧ ¬ isOn listed i := by
        obtain ⟨i, hi⟩ := Classical.not_forall.1 hallon
        exact ⟨i, Classical.not_imp.1 hi⟩
      have hclosed : ∀ (k : Nat) (o : Oper), (pre ++ st :: suf)[k]? = some o → isOn listed k → ∀ j, bindsTo o j = true → isOn listed j := by
        rcases hI with ⟨_, h⟩ | ⟨_, h⟩ <;> exact h.closed
      refine ⟨fun h0 => ?_, fun i hi => ?_⟩
      · exfalso
        have least : ∀ n, (∃ i, i < n ∧ ¬ isOn listed i) → ∃ i, i < n ∧ ¬ isOn listed i ∧ ∀ k, k < i → isOn listed k := by
          intro n
          induction n with
          | zero => rintro ⟨i, hi, _⟩; omega
          | succ n ih =>
            rintro ⟨i, hi, hno⟩
            by_cases h : ∃ i, i < n ∧ ¬ isOn listed i
            · obtain ⟨j, h1, h2, h3⟩ := ih h
              exact ⟨j, by omega, h2, h3⟩
            · refine ⟨i, hi, hno, fun k hk => Classical.byContradiction fun hn => h ⟨k, by omega, hn⟩⟩
        obtain ⟨i, h1, h2, h3⟩ := least _ hex
        have hlt : i < (pre ++ st :: suf).length := by simp; omega
        have : i ∈ Region.ready .any (pre ++ st :: suf).toArray listed := by
          refine (isOn_ready (by simpa using hsz)).2 ⟨by simpa using hlt, h2, (pre ++ st :: suf)[i], by simp, fun j hj => ?_⟩
          have := backEdges_spec _ 0 hback i (pre ++ st :: suf)[i] (by simp) j hj
          exact h3 j (by omega)
        rw [h0] at this
        cases this
      · obtain ⟨g1, g2, o, ho, g3⟩ := (isOn_ready (by simpa using hsz)).1 hi
        simp only [List.size_toArray] at g1
        have ho' : (pre ++ st :: suf)[i]? = some o := by simpa using ho
        have him : i < pre.length + 1 := by
          rcases Nat.lt_or_ge i (pre.length + 1) with h | h
          · exact h
          · exfalso
            rcases Nat.lt_or_ge (pre.length + 1) i with hgt | hle
            · unfold chain at hchain
              have := List.all_eq_true.1 hchain (i - (pre.length + 1) - 1) (by rw [List.mem_range]; omega)
              rw [show pre.length + 1 + (i - (pre.length + 1) - 1) + 1 = i from by omega, ho'] at this
              exact hsuf _ (by omega) (g3 _ this)
            · have hie : i = pre.length + 1 := by omega
              have hne : suf.isEmpty = false := by
                cases suf with
                | nil => simp at g1; omega
                | cons _ _ => rfl
              rw [hne, Bool.false_or] at hfirst
              obtain ⟨k, hk1, hk2⟩ := hex
              have := List.all_eq_true.1 hfirst k (List.mem_range.2 hk1)
              rw [← hie] at this
              exact hk2 (reach_spec hclosed 64 i k (fun o'' h'' => by rw [ho'] at h''; cases h''; exact g3) this)
        have hilt : i < listed.size := by omega
        have hcnt : ((List.range (pre ++ st :: suf).length).filter (fun k => !(listed.setIfInBounds i true).getD k false)).length ≤ fuel := by
          have := cnt_lt (l := List.range (pre ++ st :: suf).length) (q := fun i => !listed.getD i false) (q' := fun k => !(listed.setIfInBounds i true).getD k false) (i := i) ?_ (List.mem_range.2 g1) ?_ ?_
          · omega
          · intro x hx'
            have : ¬ isOn (listed.setIfInBounds i true) x := by unfold isOn; simpa using hx'
            have : ¬ isOn listed x := fun h => this ((isOn_set hilt x).2 (.inr h))
            unfold isOn at this
            simpa using this
          · unfold isOn at g2; simpa using g2
          · have : isOn (listed.setIfInBounds i true) i := (isOn_set hilt i).2 (.inl rfl)
            unfold isOn at this
            simp only [this]; rfl
        have hsuf' : ∀ k, pre.length < k → ¬ isOn (listed.setIfInBounds i true) k := fun k hk hon => by
          rcases (isOn_set hilt k).1 hon with rfl | h
          · omega
          · exact hsuf k hk h
        rcases Nat.lt_or_ge i pre.length with hip | hip
        · -- one of the first ones
          have hpi : pre[i]? = some o := by rw [List.getElem?_append_left hip] at ho'; exact ho'
          obtain ⟨d, e, S', hd, hOb, q', hq⟩ := hall i o hpi
          rw [Nat.zero_add] at hOb hq
          have hsubS : ∀ x ∈ S', x ∈ S := fun x hx => by rw [hq]; simp [hx]
          have hmem : (i, d, e) ∈ S := by rw [hq]; simp
          have hndS' : (S'.map (·.1)).Nodup := by
            have := hnodup
            rw [hq, List.map_append, List.nodup_append] at this
            have := this.2.1
            rw [List.map_cons, List.nodup_cons] at this
            exact this.2
          -- what the operation is shown holds now
          have hshow : ∃ HS, Inv c ds (pre ++ st :: suf) pre T0 HS S listed a w ∧ HS = (bif inL late i then H.set q Emp else H) := by
            cases hl : inL late i with
            | true =>
              simp only [cond_true]
              rcases hI with ⟨_, h⟩ | ⟨_, h⟩
              · exact ⟨_, h.emp q, rfl⟩
              · exact ⟨_, h.emp q, set_set'⟩
            | false =>
              simp only [cond_false]
              rcases hI with ⟨_, h⟩ | ⟨hon, _⟩
              · exact ⟨_, h, rfl⟩
              · exfalso
                have := List.all_eq_true.1 hlate i (List.mem_range.2 hip)
                rw [hl, Bool.false_or] at this
                exact g2 (reach_spec hclosed 64 pre.length i (fun o'' h'' => hclosed _ _ h'' hon) this)
          obtain ⟨HS, hIS, hHS⟩ := hshow
          rw [← hHS] at hOb
          have hsatb : Sat c.n (baseT pre i T0) ds a := sat_base hIS hpre g2
          have hdn : d < c.n := by
            have := List.all_eq_true.1 hok o (List.mem_of_getElem? hpi)
            rw [hd] at this
            exact Nat.le_of_ble_eq_true this
          have hnd : isDef o = false := by
            have := List.all_eq_true.1 hdef o (List.mem_of_getElem? (hpre i o hpi))
            simpa using this
          have hnext : ∀ (v : Value) (r : Option Res) (w' : World), Ext w w' → e.ok v r → (∀ R, r = some R → ∃ B : Nat → Prop, (∀ k, B k → w.heap.size ≤ k ∧ k < w'.heap.size) ∧ R.A B w') →
              wpAnyIn (FW c.r) 0 c.P .any (pre ++ st :: suf).toArray p.Q fuel (listed.setIfInBounds i true) (a.put (some d) v) w' := by
            intro v r w' hx hek hr
            have hnm : isOn (listed.setIfInBounds i true) pre.length ↔ isOn listed pre.length := by
              rw [isOn_set hilt]
              exact ⟨fun h => h.resolve_left (by omega), .inr⟩
            have hstep : ∀ {HS : List Res}, Inv c ds (pre ++ st :: suf) pre T0 HS S listed a w → Inv c ds (pre ++ st :: suf) pre T0 HS S (listed.setIfInBounds i true) (a.put (some d) v) w' := fun hI =>
              inv_step hI hpi ho' hilt hd (fun j oj hj hji => distinct_spec pre hdst i j o oj hpi hj (Ne.symm hji) d hd) hSop
                (fun d' e' h => by have := huniq _ h _ hmem rfl; simp only [Prod.mk.injEq, true_and] at this; exact this) hdn g3 g2 hx hek hr
            refine ih _ _ _ hcnt (by simp [hsz]) hsuf' ?_
            rcases hI with ⟨hno, h⟩ | ⟨hon, h⟩
            · exact .inl ⟨fun x => hno (hnm.1 x), hstep h⟩
            · exact .inr ⟨hnm.2 hon, hstep h⟩
          unfold wpOpIn
          rw [ho]
          simp only []
          have hfun : ∀ {K : List (Nat × Value) → List Res → Prop}, finE (deps o S') (baseT pre i T0) HS K → ∃ T' H', K T' H' ∧ Sat c.n T' ds a ∧ Hp c.U c.w0 H' w := fun h =>
            inv_deps (f := fun j => bindsTo o j) (S1 := S') (L := deps o) hIS hsubS (fun x _ hb => g3 x.1 hb) hsatb rfl (fun _ _ _ _ => rfl) hndS' h
          unfold Ob at hOb
          cases hg : o.guard with
          | none =>
            rw [hg] at hOb
            simp only at hOb
            rw [if_pos (by simp [Region.wanted, hg])]
            obtain ⟨T', H', hst', hsat, hhp⟩ := hfun hOb
            cases e with
            | pure u =>
              refine wpIn_of_yld hnd (hst'.run a w hsat hhp) fun v w' hv => ?_
              obtain ⟨rfl, hx⟩ := hv
              rw [hd]
              exact hnext v none w' hx ⟨rfl, rfl⟩ (fun R h => by cases h)
            | res X V A =>
              refine wpIn_of_yld hnd (hst'.run a w hsat hhp) fun v w' hv => ?_
              obtain ⟨x, rfl, hx, B, hB, hA⟩ := hv
              rw [hd]
              exact hnext _ (some (A x)) w' hx ⟨x, rfl, rfl⟩ (fun R h => by cases h; exact ⟨B, hB, hA⟩)
          | some gw =>
            obtain ⟨j, want⟩ := gw
            rw [hg] at hOb
            rcases hOb with ⟨hlk, hbj, hst0⟩ | ⟨u0, qb, u, hlk, hbj, hq0, rfl, hst'⟩
            · obtain ⟨dj, hj⟩ := lkS_mem S' j _ hlk
              have honj := g3 j hbj
              obtain ⟨oj, hoj, hdj⟩ := hSop j dj _ (hsubS _ hj)
              obtain ⟨v0, R0, B0, h1, _⟩ := hIS.fam
              obtain ⟨hok', hval⟩ := h1 j dj _ (hsubS _ hj) honj
              obtain ⟨hvj, _⟩ := hok'
              rw [hvj] at hval
              have hy : yielded (pre ++ st :: suf).toArray a.tmps j = some want := yielded_some (by simpa using hpre j oj hoj) hdj hval
              rw [if_pos (by simp only [Region.wanted, hg]; rw [hy]; simp)]
              obtain ⟨T', H', hst', hsat, hhp⟩ := hfun hst0
              cases e with
              | pure u =>
                refine wpIn_of_yld hnd (hst'.run a w hsat hhp) fun v w' hv => ?_
                obtain ⟨rfl, hx⟩ := hv
                rw [hd]
                exact hnext v none w' hx ⟨rfl, rfl⟩ (fun R h => by cases h)
              | res X V A =>
                refine wpIn_of_yld hnd (hst'.run a w hsat hhp) fun v w' hv => ?_
                obtain ⟨x, rfl, hx, B, hB, hA⟩ := hv
                rw [hd]
                exact hnext _ (some (A x)) w' hx ⟨x, rfl, rfl⟩ (fun R h => by cases h; exact ⟨B, hB, hA⟩)
            obtain ⟨dj, hj⟩ := lkS_mem S' j _ hlk
            have honj := g3 j hbj
            obtain ⟨oj, hoj, hdj⟩ := hSop j dj _ (hsubS _ hj)
            obtain ⟨v0, R0, B0, h1, _⟩ := hIS.fam
            obtain ⟨hok', hval⟩ := h1 j dj _ (hsubS _ hj) honj
            obtain ⟨hvj, _⟩ := hok'
            rw [hvj] at hval
            have hy : yielded (pre ++ st :: suf).toArray a.tmps j = some want ↔ u0 = .bool want := yielded_iff (by simpa using hpre j oj hoj) hdj hval
            cases hqq : qb with
            | true =>
              rw [if_pos (by simp only [Region.wanted, hg]; rw [hy.2 (hq0.1 hqq)]; simp)]
              obtain ⟨T', H', hst'', hsat, hhp⟩ := hfun (hst' hqq)
              refine wpIn_of_yld hnd (hst''.run a w hsat hhp) fun v w' hv => ?_
              obtain ⟨rfl, hx⟩ := hv
              rw [hd]
              exact hnext v none w' hx ⟨by rw [if_pos hqq], rfl⟩ (fun R h => by cases h)
            | false =>
              have hnw : ¬ yielded (pre ++ st :: suf).toArray a.tmps j = some want := fun h => by
                have := hq0.2 (hy.1 h)
                rw [hqq] at this
                cases this
              rw [if_neg (by simp only [Region.wanted, hg]; simpa using hnw)]
              refine ⟨fun _ _ => trivial, ?_⟩
              rw [hd]
              exact hnext undef none w Ext.rfl ⟨by rw [if_neg (by simp [hqq])], rfl⟩ (fun R h => by cases h)
        · -- the store
          have hie : i = pre.length := by omega
          subst hie
          rw [hstm] at ho'
          simp only [Option.some.injEq] at ho'
          subst ho'
          have hIA : Inv c ds (pre ++ st :: suf) pre T0 H S listed a w := by
            rcases hI with ⟨_, h⟩ | ⟨h, _⟩
            · exact h
            · exact absurd h g2
          obtain ⟨T', H', hst', hsat, hhp⟩ := inv_deps (f := fun j => bindsTo st j) (S1 := S) (L := deps st) hIA (fun _ h => h) (fun x _ hb => g3 x.1 hb) (sat_base hIA hpre g2) rfl (fun _ _ _ _ => rfl) hnodup hstore
          obtain ⟨B, hB, hA, hgo⟩ := inv_store (R' := R') hIA hstm hilt g3 (by simp) (fun j dj ej hj h => by have := hjlt j dj ej hj; omega) g2 hqR
          unfold wpOpIn
          rw [ho]
          simp only []
          have hgn : st.guard = none := by simpa using hstg
          have hdn : st.dst = none := by simpa using hstd
          rw [if_pos (by simp [Region.wanted, hgn])]
          have hnd : isDef st = false := by
            have := List.all_eq_true.1 hdef st (List.mem_of_getElem? hstm)
            simpa using this
          refine wpIn_of_yld hnd (hst'.run a w B hsat hhp hB hA) fun v w' hv => ?_
          obtain ⟨hm, B', ho', hA'⟩ := hv
          rw [hdn]
          exact ih _ _ _ hcnt (by simp [hsz]) hsuf' (.inr ⟨(isOn_set hilt _).2 (.inl rfl), hgo w' B' hm ho' hA'⟩)

/-- **a region, drawn or not: one store among operations in any order, the others behind them one by one** -/
theorem gk_anyS {id : Nat} {l : List Oper} {d : Bool} (m : Nat) (late : List Nat) (q : Nat) {R R' : Res} (hm : d = true → c.P.follows .mixedOrders = true) (hl0 : l.take m ++ st :: l.drop (m + 1) = l) (hlm : (l.take m).length = m)
    (hc : closedS c.n (l.take m) st (l.drop (m + 1)) late = true) (hq : H[q]? = some R)
    (h : PHs c ds (l.take m) T0 (fun i => bif inL late i then H.set q Emp else H) (fun S => finE (deps st S) (baseT (l.take m) m T0) H (fun T H' => StoreOb c ds T H' st R R') ∧
      finE (allE S) (keepT (l.take m) T0) (H.set q R') (fun T H' => GK c ds (KL c l.toArray p (l.drop (m + 1))) T H')) 0 (l.take m) []) : GK c ds (KC c (.region id l.toArray d) p) T0 H := by
  intro a w ha hw
  obtain ⟨S, ⟨hst, hK⟩, ⟨q', hq', hq2⟩, hall⟩ := phs_out _ _ _ h
  rw [List.append_nil] at hq'
  have hmain : ∀ w, Hp c.U c.w0 H w → wpAnyIn (FW c.r) 0 c.P .any l.toArray p.Q l.length (Array.replicate l.length false) a w := by
    intro w hw
    have hoff : ∀ k, ¬ isOn (Array.replicate l.length false) k := fun k => by
      unfold isOn
      by_cases hk : k < l.length
      · simp [hk]
      · simp [hk]
    have := phase1s (c := c) (ds := ds) (p := p) (pre := l.take m) (st := st) (suf := l.drop (m + 1)) (T0 := T0) (H := H) hc (S := S) (by rw [hq']; exact hq2) hq hall (by rw [hlm]; exact hst) (by rw [hl0]; exact hK) l.length (Array.replicate l.length false) a w
      (by rw [hl0]; exact Nat.le_trans (List.length_filter_le _ _) (by simp)) (by rw [hl0]; simp) (fun k _ => hoff k)
      (.inl ⟨hoff _, ⟨hw.base, ha.size, ha.defers, fun k o _ hon => absurd hon (hoff k), fun s v hs _ => ha.val s v hs,
        ⟨fun _ => undef, fun _ => none, fun _ _ => False, fun i _ _ _ hon => absurd hon (hoff i), fun i _ hon => absurd hon (hoff i), fun i _ hon => absurd hon (hoff i),
          Holds.anti H (fun k hk => by
            rcases hk with hk | ⟨_, _, _, hk⟩
            · exact hk
            · exact hk.elim) hw.holds⟩⟩⟩)
    rw [hl0] at this
    exact this
  cases d
  · refine wpIn_region ?_
    have hb : backEdges 0 l = true := by
      simp only [closedS, Bool.and_eq_true] at hc
      obtain ⟨⟨⟨⟨⟨⟨⟨⟨hback, _⟩, _⟩, _⟩, _⟩, _⟩, _⟩, _⟩, _⟩ := hc
      rwa [hl0] at hback
    have := lex_of_any (c := c) (p := p) hb l.length 0 l.length (Array.replicate l.length false) a w (by omega) (Nat.le_refl _) (by simp) (fun i hi => ⟨fun h => by
      unfold isOn at h
      simp [hi] at h, fun h => by omega⟩) (hmain w hw)
    rw [List.range_eq_range']
    simpa using this
  · refine wpIn_region_any (hm rfl) ?_
    have := hmain _ hw.drawn
    simpa using this
end

section
variable {c : Cx} {ds : List Deferred} {pre : List Oper} {T0 : List (Nat × Value)} {Hf : Nat → List Res} {K : Ents → Prop} {i d : Nat} {r : List Oper} {S : Ents} {op : Op} {ty : TypeId} {ps : String} {af : Array Edge}

theorem phs_y {v : Value} (h : finE (deps ⟨some d, op, ty, ps, af, none⟩ S) (baseT pre i T0) (Hf i) (fun T H' => Y c ds H' T ⟨some d, op, ty, ps, af, none⟩ v)) (k : PHs c ds pre T0 Hf K (i + 1) r ((i, d, .pure v) :: S)) :
    PHs c ds pre T0 Hf K i (⟨some d, op, ty, ps, af, none⟩ :: r) S := ⟨d, .pure v, rfl, h, k⟩
theorem phs_yx {X : Type} {V : X → Value} {A : X → Res} (h : finE (deps ⟨some d, op, ty, ps, af, none⟩ S) (baseT pre i T0) (Hf i) (fun T H' => YX c ds H' T ⟨some d, op, ty, ps, af, none⟩ V A))
    (k : PHs c ds pre T0 Hf K (i + 1) r ((i, d, .res X V A) :: S)) : PHs c ds pre T0 Hf K i (⟨some d, op, ty, ps, af, none⟩ :: r) S := ⟨d, .res X V A, rfl, h, k⟩
end

section
variable {c : Cx} {ds : List Deferred} {T : List (Nat × Value)} {H : List Res} {x y : Operand} {v : Value} {ty : TypeId} {ps : String} {af : Array Edge} {g : Option (Nat × Bool)} {d : Option Nat}
theorem so_box {t : TypeId} {gg : Bool} {k b o : Nat} {z : Value} {cs cs' vs : List Value} {e : TypeId} (ht : TF c.P t gg k z) (hx : evo T x = some (.pointer (some ⟨b, o, none⟩))) (hy : evo T y = some v)
    (hv : v.cells = vs.toArray) (hl : vs.length = k) (h1 : vs.all cell1 = true) (ho : Nat.ble (o + k) cs.length = true) (hcs : over cs o vs = cs') : StoreOb c ds T H ⟨d, .store t x y, ty, ps, af, g⟩ (Box b cs e) (Box b cs' e) := by
  subst hcs
  refine ⟨fun a w B ha hw hB hA => ?_⟩
  obtain ⟨w', hr, hm, hb'⟩ := run_storeCells (P := c.P) (o := o) vs cs 0 w hA.2 (by have := Nat.le_of_ble_eq_true ho; omega) h1
  have : (execOp a.eval ⟨d, .store t x y, ty, ps, af, g⟩).run c.P w = .ok .skip w' := by
    simp only [execOp, ha.eval hx, ha.eval hy]
    have h3 : (Instr.storeAt t (.pointer (some ⟨b, o, none⟩)) v).run c.P w = .ok () w' := by
      unfold Instr.storeAt
      rw [run_bind_ok (v := ⟨b, o, none⟩) (w' := w) rfl]
      unfold storeVar
      rw [run_bind_ok ht.size]
      have : v.cells.size = k := by rw [hv]; simpa using hl
      rw [if_neg (by simp [this])]
      rw [hv]
      exact hr
    rw [run_bind_ok h3]
    rfl
  unfold Yld
  rw [this]
  exact ⟨⟨hm.os, hm.tape, hm.output, hm.size, fun k hk hnb => hm.same k hk (fun he => hnb ((hA.1 k).2 he))⟩, B, fun k hk => .inl hk, hA.1, hb'⟩
end
end Go.K
