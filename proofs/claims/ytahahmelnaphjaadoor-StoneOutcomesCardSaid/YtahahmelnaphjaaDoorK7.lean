/- A layer for walks, seventh text: the theorem on regions in any order, and the steps of its lexical walk. No statement of the seat is proved in this text. -/
import Derived.Test.YtahahmelnaphjaaDoorK6
namespace Go.K
open Go Go.RowKit

def keepT (ops : List Oper) : List (Nat × Value) → List (Nat × Value)
  | [] => []
  | (s, v) :: r => bif ops.all (fun f => match f.dst with | some d => !Nat.beq d s | none => true) then (s, v) :: keepT ops r else keepT ops r

theorem keepT_eq (ops : List Oper) : ∀ T, keepT ops T = T.filter (fun x => ops.all (fun f => match f.dst with | some d => !Nat.beq d x.1 | none => true))
  | [] => rfl
  | (s, v) :: r => by
    simp only [keepT, keepT_eq ops r, List.filter_cons]
    cases ops.all (fun f => match f.dst with | some d => !Nat.beq d s | none => true) <;> rfl

def allE : Ents → List (Nat × Ent)
  | [] => []
  | (_, d, e) :: r => (d, e) :: allE r

theorem lkS_mem : ∀ (S : Ents) (j : Nat) (e : Ent), lkS S j = some e → ∃ d, (j, d, e) ∈ S
  | [], _, _, h => by simp [lkS] at h
  | (k, d, e') :: r, j, e, h => by
    have h' : (bif Nat.beq k j then some e' else lkS r j) = some e := h
    cases hb : Nat.beq k j with
    | true =>
      rw [hb] at h'
      simp only [cond_true, Option.some.injEq] at h'
      have := Nat.eq_of_beq_eq_true hb
      subst this; subst h'
      exact ⟨d, List.mem_cons_self ..⟩
    | false =>
      rw [hb] at h'
      obtain ⟨d', hd⟩ := lkS_mem r j e h'
      exact ⟨d', List.mem_cons_of_mem _ hd⟩

theorem yielded_iff {ops : Array Oper} {tmps : Array Value} {j d : Nat} {b : Bool} {u : Value} {o : Oper} (ho : ops[j]? = some o) (hd : o.dst = some d) (h : tmps[d]? = some u) : yielded ops tmps j = some b ↔ u = .bool b := by
  unfold yielded
  simp only [ho, Option.bind_some, hd, h]
  cases u <;> simp

theorem yielded_some {ops : Array Oper} {tmps : Array Value} {j d : Nat} {b : Bool} {o : Oper} (ho : ops[j]? = some o) (hd : o.dst = some d) (h : tmps[d]? = some (.bool b)) : yielded ops tmps j = some b := by
  simp [yielded, ho, hd, h]

section
variable {c : Cx} {ds : List Deferred} {p : Post} {pre suf : List Oper} {T0 : List (Nat × Value)} {H : List Res}

theorem phase1 (hc : closedR c.n pre suf = true) {S : Ents} (hS1 : S.map (·.1) = (List.range' 0 pre.length).reverse)
    (hall : ∀ (j : Nat) o, pre[j]? = some o → ∃ d e S', o.dst = some d ∧ Ob c ds pre T0 H (0 + j) o S' e ∧ ∃ q, S = q ++ (0 + j, d, e) :: S')
    (hK : finE (allE S) (keepT pre T0) H (fun T H' => GK c ds (KL c (pre ++ suf).toArray p suf) T H')) :
    ∀ (fuel : Nat) (listed : Array Bool) (a : Act) (w : World), ((List.range (pre ++ suf).length).filter (fun i => !listed.getD i false)).length ≤ fuel → listed.size = (pre ++ suf).length →
      (∀ k, pre.length ≤ k → ¬ isOn listed k) → Inv c ds (pre ++ suf) pre T0 H S listed a w → wpAnyIn (FW c.r) 0 c.P .any (pre ++ suf).toArray p.Q fuel listed a w := by
  simp only [closedR, Bool.and_eq_true] at hc
  obtain ⟨⟨⟨⟨⟨hback, hdef⟩, hdst⟩, hok⟩, hfirst⟩, hchain⟩ := hc
  have hnodup : (S.map (·.1)).Nodup := by
    rw [hS1]
    unfold List.Nodup
    rw [List.pairwise_reverse]
    exact (List.nodup_range' (s := 0) (n := pre.length) (step := 1)).imp Ne.symm
  have hpre : ∀ (k : Nat) o, pre[k]? = some o → (pre ++ suf)[k]? = some o := fun k o h => by
    have := (List.getElem?_eq_some_iff.1 h).1
    rw [List.getElem?_append_left this]; exact h
  -- an entry's operation
  have hSop : ∀ j dj ej, (j, dj, ej) ∈ S → ∃ oj, pre[j]? = some oj ∧ oj.dst = some dj := by
    intro j dj ej hj
    have hjm : j ∈ S.map (·.1) := List.mem_map.2 ⟨_, hj, rfl⟩
    rw [hS1, List.mem_reverse, List.mem_range'_1] at hjm
    have hlt : j < pre.length := by omega
    obtain ⟨d, e, S', hd, _, q, hq⟩ := hall j pre[j] (by simp [hlt])
    rw [Nat.zero_add] at hq
    have hmem : (j, d, e) ∈ S := by rw [hq]; simp
    -- one entry a number
    have : (j, dj, ej) = (j, d, e) := by
      have key : ∀ (L : Ents), (L.map (·.1)).Nodup → ∀ x ∈ L, ∀ y ∈ L, x.1 = y.1 → x = y := by
        intro L
        induction L with
        | nil => intro _ x hx; cases hx
        | cons z r ih =>
          intro hn x hx y hy hxy
          simp only [List.map_cons, List.nodup_cons] at hn
          rcases List.mem_cons.1 hx with rfl | hx' <;> rcases List.mem_cons.1 hy with rfl | hy'
          · rfl
          · exact absurd (List.mem_map.2 ⟨y, hy', hxy.symm⟩) hn.1
          · exact absurd (List.mem_map.2 ⟨x, hx', hxy⟩) hn.1
          · exact ih hn.2 x hx' y hy' hxy
      exact key S hnodup _ hj _ hmem rfl
    simp only [Prod.mk.injEq, true_and] at this
    exact ⟨pre[j], by simp [hlt], by rw [hd, this.1]⟩
  have huniq : ∀ x ∈ S, ∀ y ∈ S, x.1 = y.1 → x = y := by
    have key : ∀ (L : Ents), (L.map (·.1)).Nodup → ∀ x ∈ L, ∀ y ∈ L, x.1 = y.1 → x = y := by
      intro L
      induction L with
      | nil => intro _ x hx; cases hx
      | cons z r ih =>
        intro hn x hx y hy hxy
        simp only [List.map_cons, List.nodup_cons] at hn
        rcases List.mem_cons.1 hx with rfl | hx' <;> rcases List.mem_cons.1 hy with rfl | hy'
        · rfl
        · exact absurd (List.mem_map.2 ⟨y, hy', hxy.symm⟩) hn.1
        · exact absurd (List.mem_map.2 ⟨x, hx', hxy⟩) hn.1
        · exact ih hn.2 x hx' y hy' hxy
    exact key S hnodup
  intro fuel
  induction fuel with
  | zero =>
    intro listed a w hf hsz hsuf hI
    by_cases hallon : ∀ i, i < pre.length → isOn listed i
    · -- all are done
      obtain ⟨T', H', hg, hsat, hhp⟩ := inv_deps (S := S) (S1 := S) (f := fun _ => true) (L := allE) (K := fun T H' => GK c ds (KL c (pre ++ suf).toArray p suf) T H') (T1 := keepT pre T0) hI (fun _ h => h)
        (fun x hx _ => by
          have hjm : x.1 ∈ S.map (·.1) := List.mem_map.2 ⟨_, hx, rfl⟩
          rw [hS1, List.mem_reverse, List.mem_range'_1] at hjm
          exact hallon x.1 (by omega))
        (by
          refine ⟨hI.size, fun t v h => ?_, hI.defers⟩
          rw [keepT_eq] at h
          obtain ⟨h1, h2⟩ := lk_filter (fun s => pre.all (fun f => match f.dst with | some d => !Nat.beq d s | none => true)) T0 _ (fun _ _ _ _ => trivial) rfl t v h
          refine hI.old t v h1 fun k o hk _ hd => ?_
          rw [List.all_eq_true] at h2
          have h3 := h2 o (List.mem_of_getElem? hk)
          rw [hd] at h3
          simp at h3)
        rfl (fun _ _ _ _ => rfl) hnodup hK
      have hl := hg a w hsat hhp
      have h0 : suf.length = 0 := by
        rcases Nat.eq_zero_or_pos suf.length with h | h
        · exact h
        · exfalso
          have hmem : pre.length ∈ (List.range (pre ++ suf).length).filter (fun i => !listed.getD i false) := by
            rw [List.mem_filter, List.mem_range]
            refine ⟨by simp; omega, ?_⟩
            have := hsuf pre.length (Nat.le_refl _)
            unfold isOn at this
            simp only [Bool.not_eq_true] at this
            rw [this]; rfl
          have := List.length_pos_of_mem hmem
          omega
      refine phase2 (m := pre.length) hback hchain 0 0 0 listed a w (by rw [List.length_append]; omega) (Nat.le_refl _) hsz (fun k hk => ⟨fun _ => by simp at hk; omega, fun h => hallon k (by omega)⟩) ?_
      rw [Nat.add_zero, List.drop_left]
      exact hl
    · exfalso
      obtain ⟨i, hi⟩ := Classical.not_forall.1 hallon
      obtain ⟨hi1, hi2⟩ := Classical.not_imp.1 hi
      have hmem : i ∈ (List.range (pre ++ suf).length).filter (fun i => !listed.getD i false) := by
        rw [List.mem_filter, List.mem_range]
        refine ⟨by simp; omega, ?_⟩
        unfold isOn at hi2
        simp only [Bool.not_eq_true] at hi2
        rw [hi2]; rfl
      have := List.length_pos_of_mem hmem
      omega
  | succ fuel ih =>
    intro listed a w hf hsz hsuf hI
    by_cases hallon : ∀ i, i < pre.length → isOn listed i
    · obtain ⟨T', H', hg, hsat, hhp⟩ := inv_deps (S := S) (S1 := S) (f := fun _ => true) (L := allE) (K := fun T H' => GK c ds (KL c (pre ++ suf).toArray p suf) T H') (T1 := keepT pre T0) hI (fun _ h => h)
        (fun x hx _ => by
          have hjm : x.1 ∈ S.map (·.1) := List.mem_map.2 ⟨_, hx, rfl⟩
          rw [hS1, List.mem_reverse, List.mem_range'_1] at hjm
          exact hallon x.1 (by omega))
        (by
          refine ⟨hI.size, fun t v h => ?_, hI.defers⟩
          rw [keepT_eq] at h
          obtain ⟨h1, h2⟩ := lk_filter (fun s => pre.all (fun f => match f.dst with | some d => !Nat.beq d s | none => true)) T0 _ (fun _ _ _ _ => trivial) rfl t v h
          refine hI.old t v h1 fun k o hk _ hd => ?_
          rw [List.all_eq_true] at h2
          have h3 := h2 o (List.mem_of_getElem? hk)
          rw [hd] at h3
          simp at h3)
        rfl (fun _ _ _ _ => rfl) hnodup hK
      have hl := hg a w hsat hhp
      have hcnt : suf.length ≤ fuel + 1 := by
        refine Nat.le_trans ?_ hf
        rw [List.length_append, List.range_eq_range', ← List.range'_append_1, List.filter_append, List.length_append]
        refine Nat.le_trans ?_ (Nat.le_add_left _ _)
        rw [List.filter_eq_self.2 (fun x hx => ?_)]
        · simp
        · rw [List.mem_range'_1] at hx
          have := hsuf x (by omega)
          unfold isOn at this
          simp only [Bool.not_eq_true] at this
          rw [this]; rfl
      refine phase2 (m := pre.length) hback hchain suf.length 0 (fuel + 1) listed a w (by simp) hcnt hsz (fun k hk => ⟨fun hon => ?_, fun h => hallon k (by omega)⟩) ?_
      · rcases Nat.lt_or_ge k pre.length with h | h
        · omega
        · exact absurd hon (hsuf k h)
      rw [Nat.add_zero, List.drop_left]
      exact hl
    · -- some operation of the first part is still to come
      have hex : ∃ i, i < pre.length ∧ ¬ isOn listed i := by
        obtain ⟨i, hi⟩ := Classical.not_forall.1 hallon
        exact ⟨i, Classical.not_imp.1 hi⟩
      refine ⟨fun h0 => ?_, fun i hi => ?_⟩
      · -- the least of them may come up
        exfalso
        have least : ∀ n, (∃ i, i < n ∧ ¬ isOn listed i) → ∃ i, i < n ∧ ¬ isOn listed i ∧ ∀ k, k < i → isOn listed k := by
          intro n
          induction n with
          | zero => rintro ⟨i, hi, _⟩; omega
          | succ n ih =>
            rintro ⟨i, hi, hno⟩
            by_cases h : ∃ i, i < n ∧ ¬ isOn listed i
            · obtain ⟨j, h1, h2, h3⟩ := ih h
              exact ⟨j, by omega, h2, h3⟩
            · refine ⟨i, hi, hno, fun k hk => Classical.byContradiction fun hn => h ⟨k, by omega, hn⟩⟩
        obtain ⟨i, h1, h2, h3⟩ := least _ hex
        have hlt : i < (pre ++ suf).length := by simp; omega
        have : i ∈ Region.ready .any (pre ++ suf).toArray listed := by
          refine (isOn_ready (by simpa using hsz)).2 ⟨by simpa using hlt, h2, (pre ++ suf)[i], by simp, fun j hj => ?_⟩
          have := backEdges_spec _ 0 hback i (pre ++ suf)[i] (by simp) j hj
          exact h3 j (by omega)
        rw [h0] at this
        cases this
      · obtain ⟨g1, g2, o, ho, g3⟩ := (isOn_ready (by simpa using hsz)).1 hi
        simp only [List.size_toArray] at g1
        have ho' : (pre ++ suf)[i]? = some o := by simpa using ho
        -- it is one of the first part
        have him : i < pre.length := by
          rcases Nat.lt_or_ge i pre.length with h | h
          · exact h
          · exfalso
            rcases Nat.lt_or_ge pre.length i with hgt | hle
            · unfold chain at hchain
              have := List.all_eq_true.1 hchain (i - pre.length - 1) (by rw [List.mem_range]; omega)
              rw [show pre.length + (i - pre.length - 1) + 1 = i from by omega, ho'] at this
              exact hsuf _ (by omega) (g3 _ this)
            · have hie : i = pre.length := by omega
              have hne : suf.isEmpty = false := by
                cases suf with
                | nil => simp at g1; omega
                | cons _ _ => rfl
              rw [hne, Bool.false_or] at hfirst
              obtain ⟨k, hk1, hk2⟩ := hex
              unfold firstWaits at hfirst
              have := List.all_eq_true.1 hfirst k (List.mem_range.2 hk1)
              rw [← hie] at this
              exact hk2 (reach_spec hI.closed 64 i k (fun o'' h'' => by rw [ho'] at h''; cases h''; exact g3) this)
        have hpi : pre[i]? = some o := by rw [List.getElem?_append_left him] at ho'; exact ho'
        obtain ⟨d, e, S', hd, hOb, q, hq⟩ := hall i o hpi
        rw [Nat.zero_add] at hOb hq
        have hsubS : ∀ x ∈ S', x ∈ S := fun x hx => by rw [hq]; simp [hx]
        have hmem : (i, d, e) ∈ S := by rw [hq]; simp
        have hndS' : (S'.map (·.1)).Nodup := by
          have := hnodup
          rw [hq, List.map_append, List.nodup_append] at this
          have := this.2.1
          rw [List.map_cons, List.nodup_cons] at this
          exact this.2
        have hsatb : Sat c.n (baseT pre i T0) ds a := sat_base hI hpre g2
        have hdn : d < c.n := by
          have := List.all_eq_true.1 hok o (List.mem_of_getElem? hpi)
          rw [hd] at this
          exact Nat.le_of_ble_eq_true this
        have hnd : isDef o = false := by
          have := List.all_eq_true.1 hdef o (List.mem_of_getElem? (hpre i o hpi))
          simpa using this
        have hnext : ∀ (v : Value) (r : Option Res) (w' : World), Ext w w' → e.ok v r → (∀ R, r = some R → ∃ B : Nat → Prop, (∀ k, B k → w.heap.size ≤ k ∧ k < w'.heap.size) ∧ R.A B w') →
            wpAnyIn (FW c.r) 0 c.P .any (pre ++ suf).toArray p.Q fuel (listed.setIfInBounds i true) (a.put (some d) v) w' := by
          intro v r w' hx hek hr
          have hilt : i < listed.size := by omega
          refine ih _ _ _ ?_ (by simp [hsz]) (fun k hk hon => ?_) ?_
          · have := cnt_lt (l := List.range (pre ++ suf).length) (q := fun i => !listed.getD i false) (q' := fun k => !(listed.setIfInBounds i true).getD k false) (i := i) ?_ (List.mem_range.2 g1) ?_ ?_
            · omega
            · intro x hx'
              have : ¬ isOn (listed.setIfInBounds i true) x := by unfold isOn; simpa using hx'
              have : ¬ isOn listed x := fun h => this ((isOn_set hilt x).2 (.inr h))
              unfold isOn at this
              simpa using this
            · unfold isOn at g2; simpa using g2
            · have : isOn (listed.setIfInBounds i true) i := (isOn_set hilt i).2 (.inl rfl)
              unfold isOn at this
              simp only [this]; rfl
          · rcases (isOn_set hilt k).1 hon with rfl | h
            · omega
            · exact hsuf k hk h
          · exact inv_step hI hpi ho' hilt hd (fun j oj hj hji => distinct_spec pre hdst i j o oj hpi hj (Ne.symm hji) d hd) hSop
              (fun d' e' h => by have := huniq _ h _ hmem rfl; simp only [Prod.mk.injEq, true_and] at this; exact this) hdn g3 g2 hx hek hr
        unfold wpOpIn
        rw [ho]
        simp only []
        have hfun : ∀ {K : List (Nat × Value) → List Res → Prop}, finE (deps o S') (baseT pre i T0) H K → ∃ T' H', K T' H' ∧ Sat c.n T' ds a ∧ Hp c.U c.w0 H' w := fun h =>
          inv_deps (f := fun j => bindsTo o j) (S1 := S') (L := deps o) hI hsubS (fun x _ hb => g3 x.1 hb) hsatb rfl (fun _ _ _ _ => rfl) hndS' h
        unfold Ob at hOb
        cases hg : o.guard with
        | none =>
          rw [hg] at hOb
          simp only at hOb
          rw [if_pos (by simp [Region.wanted, hg])]
          obtain ⟨T', H', hst, hsat, hhp⟩ := hfun hOb
          cases e with
          | pure u =>
            refine wpIn_of_yld hnd (hst.run a w hsat hhp) fun v w' hv => ?_
            obtain ⟨rfl, hx⟩ := hv
            rw [hd]
            exact hnext v none w' hx ⟨rfl, rfl⟩ (fun R h => by cases h)
          | res X V A =>
            refine wpIn_of_yld hnd (hst.run a w hsat hhp) fun v w' hv => ?_
            obtain ⟨x, rfl, hx, B, hB, hA⟩ := hv
            rw [hd]
            exact hnext _ (some (A x)) w' hx ⟨x, rfl, rfl⟩ (fun R h => by cases h; exact ⟨B, hB, hA⟩)
        | some gw =>
          obtain ⟨j, want⟩ := gw
          rw [hg] at hOb
          rcases hOb with ⟨hlk, hbj, hst⟩ | ⟨u0, q, u, hlk, hbj, hq0, rfl, hst⟩
          · obtain ⟨dj, hj⟩ := lkS_mem S' j _ hlk
            have honj := g3 j hbj
            obtain ⟨oj, hoj, hdj⟩ := hSop j dj _ (hsubS _ hj)
            obtain ⟨v0, R0, B0, h1, _⟩ := hI.fam
            obtain ⟨hok', hval⟩ := h1 j dj _ (hsubS _ hj) honj
            obtain ⟨hvj, _⟩ := hok'
            rw [hvj] at hval
            have hy : yielded (pre ++ suf).toArray a.tmps j = some want := yielded_some (by simpa using hpre j oj hoj) hdj hval
            rw [if_pos (by simp only [Region.wanted, hg]; rw [hy]; simp)]
            obtain ⟨T', H', hst', hsat, hhp⟩ := hfun hst
            cases e with
            | pure u =>
              refine wpIn_of_yld hnd (hst'.run a w hsat hhp) fun v w' hv => ?_
              obtain ⟨rfl, hx⟩ := hv
              rw [hd]
              exact hnext v none w' hx ⟨rfl, rfl⟩ (fun R h => by cases h)
            | res X V A =>
              refine wpIn_of_yld hnd (hst'.run a w hsat hhp) fun v w' hv => ?_
              obtain ⟨x, rfl, hx, B, hB, hA⟩ := hv
              rw [hd]
              exact hnext _ (some (A x)) w' hx ⟨x, rfl, rfl⟩ (fun R h => by cases h; exact ⟨B, hB, hA⟩)
          obtain ⟨dj, hj⟩ := lkS_mem S' j _ hlk
          have honj := g3 j hbj
          obtain ⟨oj, hoj, hdj⟩ := hSop j dj _ (hsubS _ hj)
          obtain ⟨v0, R0, B0, h1, _⟩ := hI.fam
          obtain ⟨hok', hval⟩ := h1 j dj _ (hsubS _ hj) honj
          obtain ⟨hvj, _⟩ := hok'
          rw [hvj] at hval
          have hy : yielded (pre ++ suf).toArray a.tmps j = some want ↔ u0 = .bool want := yielded_iff (by simpa using hpre j oj hoj) hdj hval
          cases hqq : q with
          | true =>
            rw [if_pos (by simp only [Region.wanted, hg]; rw [hy.2 (hq0.1 hqq)]; simp)]
            obtain ⟨T', H', hst', hsat, hhp⟩ := hfun (hst hqq)
            refine wpIn_of_yld hnd (hst'.run a w hsat hhp) fun v w' hv => ?_
            obtain ⟨rfl, hx⟩ := hv
            rw [hd]
            exact hnext v none w' hx ⟨by rw [if_pos hqq], rfl⟩ (fun R h => by cases h)
          | false =>
            have hnw : ¬ yielded (pre ++ suf).toArray a.tmps j = some want := fun h => by
              have := hq0.2 (hy.1 h)
              rw [hqq] at this
              cases this
            rw [if_neg (by simp only [Region.wanted, hg]; simpa using hnw)]
            refine ⟨fun _ _ => trivial, ?_⟩
            rw [hd]
            exact hnext undef none w Ext.rfl ⟨by rw [if_neg (by simp [hqq])], rfl⟩ (fun R h => by cases h)

theorem Hp.drawn {U : Nat → Prop} {w0 w : World} {H : List Res} (h : Hp U w0 H w) : Hp U w0 H { w with drawn := w.drawn + 1 } := h.ext (Below.refl _ _).drew

/-- **a region, drawn or not: its first operations in any order, the others behind them one by one** -/
theorem gk_any {id : Nat} {l : List Oper} {d : Bool} (m : Nat) (hm : d = true → c.P.follows .mixedOrders = true) (hc : closedR c.n (l.take m) (l.drop m) = true)
    (h : PH c ds (l.take m) T0 H (fun S => finE (allE S) (keepT (l.take m) T0) H (fun T H' => GK c ds (KL c l.toArray p (l.drop m)) T H')) 0 (l.take m) []) : GK c ds (KC c (.region id l.toArray d) p) T0 H := by
  intro a w ha hw
  obtain ⟨S, hK, ⟨q, hq, hq2⟩, hall⟩ := ph_out _ _ _ h
  rw [List.append_nil] at hq
  have hl : l.take m ++ l.drop m = l := List.take_append_drop m l
  have hmain : ∀ w, Hp c.U c.w0 H w → wpAnyIn (FW c.r) 0 c.P .any l.toArray p.Q l.length (Array.replicate l.length false) a w := by
    intro w hw
    have hoff : ∀ k, ¬ isOn (Array.replicate l.length false) k := fun k => by
      unfold isOn
      by_cases hk : k < l.length
      · simp [hk]
      · simp [hk]
    have := phase1 (c := c) (ds := ds) (p := p) (pre := l.take m) (suf := l.drop m) (T0 := T0) (H := H) hc (S := S) (by rw [hq]; exact hq2) hall (by rw [hl]; exact hK) l.length (Array.replicate l.length false) a w
      (by rw [hl]; exact Nat.le_trans (List.length_filter_le _ _) (by simp)) (by rw [hl]; simp) (fun k _ => hoff k)
      ⟨hw.base, ha.size, ha.defers, fun k o _ hon => absurd hon (hoff k), fun s v hs _ => ha.val s v hs,
        ⟨fun _ => undef, fun _ => none, fun _ _ => False, fun i _ _ _ hon => absurd hon (hoff i), fun i _ hon => absurd hon (hoff i), fun i _ hon => absurd hon (hoff i),
          Holds.anti H (fun k hk => by
            rcases hk with hk | ⟨_, _, _, hk⟩
            · exact hk
            · exact hk.elim) hw.holds⟩⟩
    rw [hl] at this
    exact this
  cases d
  · refine wpIn_region ?_
    have hb : backEdges 0 l = true := by
      simp only [closedR, Bool.and_eq_true] at hc
      obtain ⟨⟨⟨⟨⟨hback, _⟩, _⟩, _⟩, _⟩, _⟩ := hc
      rwa [hl] at hback
    have := lex_of_any (c := c) (p := p) hb l.length 0 l.length (Array.replicate l.length false) a w (by omega) (Nat.le_refl _) (by simp) (fun i hi => ⟨fun h => by
      unfold isOn at h
      simp [hi] at h, fun h => by omega⟩) (hmain w hw)
    rw [List.range_eq_range']
    simpa using this
  · refine wpIn_region_any (hm rfl) ?_
    have := hmain _ hw.drawn
    simpa using this
end

/-! ### the steps of the lexical walk -/
section
variable {c : Cx} {ds : List Deferred} {pre : List Oper} {T0 : List (Nat × Value)} {H : List Res} {K : Ents → Prop} {i d : Nat} {r : List Oper} {S : Ents} {op : Op} {ty : TypeId} {ps : String} {af : Array Edge}

theorem ph_y {v : Value} (h : finE (deps ⟨some d, op, ty, ps, af, none⟩ S) (baseT pre i T0) H (fun T H' => Y c ds H' T ⟨some d, op, ty, ps, af, none⟩ v)) (k : PH c ds pre T0 H K (i + 1) r ((i, d, .pure v) :: S)) :
    PH c ds pre T0 H K i (⟨some d, op, ty, ps, af, none⟩ :: r) S := ⟨d, .pure v, rfl, h, k⟩
theorem ph_yx {X : Type} {V : X → Value} {A : X → Res} (h : finE (deps ⟨some d, op, ty, ps, af, none⟩ S) (baseT pre i T0) H (fun T H' => YX c ds H' T ⟨some d, op, ty, ps, af, none⟩ V A))
    (k : PH c ds pre T0 H K (i + 1) r ((i, d, .res X V A) :: S)) : PH c ds pre T0 H K i (⟨some d, op, ty, ps, af, none⟩ :: r) S := ⟨d, .res X V A, rfl, h, k⟩
theorem ph_gT {v : Value} {j : Nat} {b : Bool} (hb : lkS S j = some (.pure (.bool b))) (hj : bindsTo ⟨some d, op, ty, ps, af, some (j, true)⟩ j = true)
    (h : b = true → finE (deps ⟨some d, op, ty, ps, af, some (j, true)⟩ S) (baseT pre i T0) H (fun T H' => Y c ds H' T ⟨some d, op, ty, ps, af, some (j, true)⟩ v))
    (k : PH c ds pre T0 H K (i + 1) r ((i, d, .pure (if b = true then v else undef)) :: S)) : PH c ds pre T0 H K i (⟨some d, op, ty, ps, af, some (j, true)⟩ :: r) S :=
  ⟨d, _, rfl, Or.inr ⟨_, b, v, hb, hj, by cases b <;> simp, rfl, h⟩, k⟩
theorem ph_gF {v : Value} {j : Nat} {b : Bool} (hb : lkS S j = some (.pure (.bool b))) (hj : bindsTo ⟨some d, op, ty, ps, af, some (j, false)⟩ j = true)
    (h : (!b) = true → finE (deps ⟨some d, op, ty, ps, af, some (j, false)⟩ S) (baseT pre i T0) H (fun T H' => Y c ds H' T ⟨some d, op, ty, ps, af, some (j, false)⟩ v))
    (k : PH c ds pre T0 H K (i + 1) r ((i, d, .pure (if (!b) = true then v else undef)) :: S)) : PH c ds pre T0 H K i (⟨some d, op, ty, ps, af, some (j, false)⟩ :: r) S :=
  ⟨d, _, rfl, Or.inr ⟨_, !b, v, hb, hj, by cases b <;> simp, rfl, h⟩, k⟩
/-- a guard that is known -/
theorem ph_gk {v : Value} {j : Nat} {b : Bool} (hb : lkS S j = some (.pure (.bool b))) (hj : bindsTo ⟨some d, op, ty, ps, af, some (j, b)⟩ j = true)
    (h : finE (deps ⟨some d, op, ty, ps, af, some (j, b)⟩ S) (baseT pre i T0) H (fun T H' => Y c ds H' T ⟨some d, op, ty, ps, af, some (j, b)⟩ v)) (k : PH c ds pre T0 H K (i + 1) r ((i, d, .pure v) :: S)) :
    PH c ds pre T0 H K i (⟨some d, op, ty, ps, af, some (j, b)⟩ :: r) S := ⟨d, .pure v, rfl, Or.inl ⟨hb, hj, h⟩, k⟩
theorem ph_gkx {X : Type} {V : X → Value} {A : X → Res} {j : Nat} {b : Bool} (hb : lkS S j = some (.pure (.bool b))) (hj : bindsTo ⟨some d, op, ty, ps, af, some (j, b)⟩ j = true)
    (h : finE (deps ⟨some d, op, ty, ps, af, some (j, b)⟩ S) (baseT pre i T0) H (fun T H' => YX c ds H' T ⟨some d, op, ty, ps, af, some (j, b)⟩ V A)) (k : PH c ds pre T0 H K (i + 1) r ((i, d, .res X V A) :: S)) :
    PH c ds pre T0 H K i (⟨some d, op, ty, ps, af, some (j, b)⟩ :: r) S := ⟨d, .res X V A, rfl, Or.inl ⟨hb, hj, h⟩, k⟩
/-- a guard that is guarded itself -/
theorem ph_gTT {v : Value} {j : Nat} {q b : Bool} (hb : lkS S j = some (.pure (if q = true then .bool b else undef))) (hj : bindsTo ⟨some d, op, ty, ps, af, some (j, true)⟩ j = true)
    (h : (q && b) = true → finE (deps ⟨some d, op, ty, ps, af, some (j, true)⟩ S) (baseT pre i T0) H (fun T H' => Y c ds H' T ⟨some d, op, ty, ps, af, some (j, true)⟩ v))
    (k : PH c ds pre T0 H K (i + 1) r ((i, d, .pure (if (q && b) = true then v else undef)) :: S)) : PH c ds pre T0 H K i (⟨some d, op, ty, ps, af, some (j, true)⟩ :: r) S :=
  ⟨d, _, rfl, Or.inr ⟨_, q && b, v, hb, hj, by cases q <;> cases b <;> simp [undef], rfl, h⟩, k⟩
theorem ph_gTF {v : Value} {j : Nat} {q b : Bool} (hb : lkS S j = some (.pure (if q = true then .bool b else undef))) (hj : bindsTo ⟨some d, op, ty, ps, af, some (j, false)⟩ j = true)
    (h : (q && !b) = true → finE (deps ⟨some d, op, ty, ps, af, some (j, false)⟩ S) (baseT pre i T0) H (fun T H' => Y c ds H' T ⟨some d, op, ty, ps, af, some (j, false)⟩ v))
    (k : PH c ds pre T0 H K (i + 1) r ((i, d, .pure (if (q && !b) = true then v else undef)) :: S)) : PH c ds pre T0 H K i (⟨some d, op, ty, ps, af, some (j, false)⟩ :: r) S :=
  ⟨d, _, rfl, Or.inr ⟨_, q && !b, v, hb, hj, by cases q <;> cases b <;> simp [undef], rfl, h⟩, k⟩
end
end Go.K
