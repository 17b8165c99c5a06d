/- A layer for walks, sixth text: a region whose operations may come in any order. No statement of the seat is proved in this text. -/
import Derived.Test.YtahahmelnaphjaaDoorK5
namespace Go.K
open Go Go.RowKit

/-- what an operation leaves: one value; or one of a family of values with a resource in new memory -/
inductive Ent where
  | pure (v : Value)
  | res (X : Type) (V : X → Value) (A : X → Res)

def Ent.ok : Ent → Value → Option Res → Prop
  | .pure u, v, r => v = u ∧ r = none
  | .res _ V A, v, r => ∃ x, v = V x ∧ r = some (A x)

/-- the states that entries leave -/
def finE : List (Nat × Ent) → List (Nat × Value) → List Res → (List (Nat × Value) → List Res → Prop) → Prop
  | [], T, H, K => K T H
  | (d, .pure v) :: r, T, H, K => finE r ((d, v) :: T) H K
  | (d, .res _ V A) :: r, T, H, K => ∀ x, finE r ((d, V x) :: T) (A x :: H) K

abbrev Ents := List (Nat × Nat × Ent)

def lkS : Ents → Nat → Option Ent
  | [], _ => none
  | (k, _, e) :: r, t => bif Nat.beq k t then some e else lkS r t

def bindsTo (o : Oper) (i : Nat) : Bool := o.after.toList.any fun e => Region.binds .any e && Nat.beq e.on i

def deps (o : Oper) : Ents → List (Nat × Ent)
  | [] => []
  | (i, d, e) :: r => bif bindsTo o i then (d, e) :: deps o r else deps o r

/-- the slots that still hold what they held when operation i comes up -/
def baseT (ops : List Oper) (i : Nat) : List (Nat × Value) → List (Nat × Value)
  | [] => []
  | (s, v) :: r => bif ops.all (fun f => (match f.dst with | some d => !Nat.beq d s | none => true) || bindsTo f i) then (s, v) :: baseT ops i r else baseT ops i r

def stepOK (c : Cx) (ds : List Deferred) (H : List Res) (T : List (Nat × Value)) (o : Oper) : Ent → Prop
  | .pure v => Y c ds H T o v
  | .res _ V A => YX c ds H T o V A

/-- what is owed for one operation -/
def Ob (c : Cx) (ds : List Deferred) (pre : List Oper) (T0 : List (Nat × Value)) (H : List Res) (i : Nat) (o : Oper) (S : Ents) (e : Ent) : Prop :=
  match o.guard with
  | none => finE (deps o S) (baseT pre i T0) H (fun T H' => stepOK c ds H' T o e)
  | some (j, want) => (lkS S j = some (.pure (.bool want)) ∧ bindsTo o j = true ∧ finE (deps o S) (baseT pre i T0) H (fun T H' => stepOK c ds H' T o e)) ∨ ∃ (u0 : Value) (q : Bool) (u : Value), lkS S j = some (.pure u0) ∧ bindsTo o j = true ∧ (q = true ↔ u0 = .bool want) ∧ e = .pure (if q = true then u else undef) ∧
      (q = true → finE (deps o S) (baseT pre i T0) H (fun T H' => Y c ds H' T o u))

/-- the lexical walk over the entries -/
def PH (c : Cx) (ds : List Deferred) (pre : List Oper) (T0 : List (Nat × Value)) (H : List Res) (K : Ents → Prop) : Nat → List Oper → Ents → Prop
  | _, [], S => K S
  | i, o :: r, S => ∃ d e, o.dst = some d ∧ Ob c ds pre T0 H i o S e ∧ PH c ds pre T0 H K (i + 1) r ((i, d, e) :: S)

/-! closed facts on a region -/
def dsts (ops : List Oper) : List (Option Nat) := ops.map (·.dst)

def backEdges : Nat → List Oper → Bool
  | _, [] => true
  | i, o :: r => (o.after.toList.all fun e => !Region.binds .any e || Nat.blt e.on i) && backEdges (i + 1) r

def noDefer (ops : List Oper) : Bool := ops.all fun o => !isDef o

def distinct : List (Option Nat) → Bool
  | [] => true
  | some d :: r => r.all (fun x => match x with | some e => !Nat.beq d e | none => true) && distinct r
  | none :: _ => false

/-- i waits for j, at last -/
def reach (ops : List Oper) : Nat → Nat → Nat → Bool
  | 0, _, _ => false
  | n + 1, i, j => match ops[i]? with
    | none => false
    | some o => bindsTo o j || o.after.toList.any fun e => Region.binds .any e && reach ops n e.on j

def firstWaits (ops : List Oper) (m : Nat) : Bool := (List.range m).all fun j => reach ops 64 m j
def chain (ops : List Oper) (m : Nat) : Bool := (List.range (ops.length - m - 1)).all fun j => match ops[m + j + 1]? with
  | some o => bindsTo o (m + j)
  | none => true

def closedR (n : Nat) (pre suf : List Oper) : Bool :=
  backEdges 0 (pre ++ suf) && noDefer (pre ++ suf) && distinct (dsts pre) && pre.all (fun o => dstOk o.dst n) &&
  (suf.isEmpty || firstWaits (pre ++ suf) pre.length) && chain (pre ++ suf) pre.length

/-! ### the proof -/
def isOn (l : Array Bool) (i : Nat) : Prop := l.getD i false = true

theorem isOn_set {l : Array Bool} {i : Nat} (hi : i < l.size) (j : Nat) : isOn (l.setIfInBounds i true) j ↔ j = i ∨ isOn l j := by
  unfold isOn
  by_cases h : i = j
  · subst h; simp [hi]
  · rw [getD_set_ne false h]
    constructor
    · exact .inr
    · rintro (h' | h')
      · exact absurd h'.symm h
      · exact h'

/-- the state when the operations of 'listed' are done -/
structure Inv (c : Cx) (ds : List Deferred) (ops pre : List Oper) (T0 : List (Nat × Value)) (H : List Res) (S : Ents) (listed : Array Bool) (a : Act) (w : World) : Prop where
  base : Base c.U c.w0 w
  size : a.tmps.size = c.n
  defers : a.defers = ds
  closed : ∀ (k : Nat) (o : Oper), ops[k]? = some o → isOn listed k → ∀ j, bindsTo o j = true → isOn listed j
  old : ∀ s v, lk T0 s = some v → (∀ (i : Nat) (o : Oper), pre[i]? = some o → isOn listed i → o.dst ≠ some s) → a.tmps[s]? = some v
  fam : ∃ (v : Nat → Value) (R : Nat → Option Res) (B : Nat → Nat → Prop),
    (∀ i d e, (i, d, e) ∈ S → isOn listed i → e.ok (v i) (R i) ∧ a.tmps[d]? = some (v i)) ∧
    (∀ i r, isOn listed i → R i = some r → r.A (B i) w ∧ ∀ k, B i k → ¬ c.U k ∧ k < w.heap.size) ∧
    (∀ i j, isOn listed i → isOn listed j → (R i).isSome = true → (R j).isSome = true → i ≠ j → ∀ k, B i k → ¬ B j k) ∧
    Holds H (fun k => c.U k ∨ ∃ i, isOn listed i ∧ (R i).isSome = true ∧ B i k) w

section
variable {c : Cx} {ds : List Deferred} {p : Post} {ops pre suf : List Oper} {T0 : List (Nat × Value)} {H : List Res} {S : Ents} {listed : Array Bool} {a : Act} {w : World}

theorem inv_step (hI : Inv c ds ops pre T0 H S listed a w) {i d : Nat} {o : Oper} {e : Ent} (hp : pre[i]? = some o) (ho : ops[i]? = some o) (hil : i < listed.size) (hd : o.dst = some d)
    (hdist : ∀ j oj, pre[j]? = some oj → j ≠ i → oj.dst ≠ some d)
    (hS : ∀ j dj ej, (j, dj, ej) ∈ S → ∃ oj, pre[j]? = some oj ∧ oj.dst = some dj) (huniq : ∀ d' e', (i, d', e') ∈ S → d' = d ∧ e' = e)
    (hn : d < c.n) (hclo : ∀ j, bindsTo o j = true → isOn listed j) (hun : ¬ isOn listed i)
    {v : Value} {r : Option Res} {w' : World} (hx : Ext w w') (hok : e.ok v r) (hr : ∀ R, r = some R → ∃ B : Nat → Prop, (∀ k, B k → w.heap.size ≤ k ∧ k < w'.heap.size) ∧ R.A B w') :
    Inv c ds ops pre T0 H S (listed.setIfInBounds i true) (a.put (some d) v) w' := by
  obtain ⟨v0, R0, B0, h1, h2, h3, h4⟩ := hI.fam
  have hon : ∀ j, isOn (listed.setIfInBounds i true) j ↔ j = i ∨ isOn listed j := isOn_set hil
  obtain ⟨Bn, hBn⟩ : ∃ Bn : Nat → Prop, ∀ R, r = some R → (∀ k, Bn k → w.heap.size ≤ k ∧ k < w'.heap.size) ∧ R.A Bn w' := by
    cases r with
    | none => exact ⟨fun _ => False, fun R h => by cases h⟩
    | some R => obtain ⟨B, hB⟩ := hr R rfl; exact ⟨B, fun R' h => by cases h; exact hB⟩
  have hUlt : ∀ k, c.U k → k < w.heap.size := fun k hk => Nat.lt_of_lt_of_le (hI.base.lt k hk) hI.base.size
  have hput : ∀ t u, t ≠ d → a.tmps[t]? = some u → (a.put (some d) v).tmps[t]? = some u := fun t u ht hu => by
    simp only [Act.put]
    rw [Array.getElem?_setIfInBounds_ne (Ne.symm ht)]; exact hu
  refine ⟨hI.base.ext hx, by simp [Act.put, hI.size], hI.defers, ?_, ?_, ?_⟩
  · intro k ok hk honk j hj
    rcases (hon k).1 honk with rfl | hk'
    · rw [ho] at hk; cases hk
      exact (hon j).2 (.inr (hclo j hj))
    · exact (hon j).2 (.inr (hI.closed k ok hk hk' j hj))
  · intro s u hs hno
    have hsd : s ≠ d := fun h => hno i o hp ((hon i).2 (.inl rfl)) (by rw [hd, h])
    exact hput s u hsd (hI.old s u hs (fun k ok hk hlk => hno k ok hk ((hon k).2 (.inr hlk))))
  · refine ⟨fun j => if j = i then v else v0 j, fun j => if j = i then r else R0 j, fun j => if j = i then Bn else B0 j, ?_, ?_, ?_, ?_⟩
    · intro j dj ej hj hoj
      by_cases hji : j = i
      · subst hji
        obtain ⟨rfl, rfl⟩ := huniq dj ej hj
        simp only [if_true]
        refine ⟨hok, ?_⟩
        simp [Act.put, hI.size, hn]
      · have hlj : isOn listed j := ((hon j).1 hoj).resolve_left hji
        obtain ⟨g1, g2⟩ := h1 j dj ej hj hlj
        simp only [if_neg hji]
        refine ⟨g1, hput dj _ ?_ g2⟩
        intro hdd
        obtain ⟨oj, hoj', hdj⟩ := hS j dj ej hj
        exact hdist j oj hoj' hji (by rw [hdj, hdd])
    · intro j rj hoj hrj
      by_cases hji : j = i
      · subst hji
        simp only [if_true] at hrj ⊢
        obtain ⟨g1, g2⟩ := hBn rj hrj
        refine ⟨g2, fun k hk => ⟨fun hu => ?_, (g1 k hk).2⟩⟩
        have := hUlt k hu; have := (g1 k hk).1; omega
      · have hlj : isOn listed j := ((hon j).1 hoj).resolve_left hji
        simp only [if_neg hji] at hrj ⊢
        obtain ⟨g1, g2⟩ := h2 j rj hlj hrj
        exact ⟨rj.loc _ w w' (fun k hk => hx.block k (g2 k hk).2) g1, fun k hk => ⟨(g2 k hk).1, Nat.lt_of_lt_of_le (g2 k hk).2 hx.size⟩⟩
    · intro j k hoj hok' hrj hrk hjk x hxj hxk
      by_cases hji : j = i
      · subst hji
        simp only [if_true] at hrj hxj
        have hkj : ¬ k = j := fun h => hjk h.symm
        simp only [if_neg hkj] at hrk hxk
        have hlk : isOn listed k := ((hon k).1 hok').resolve_left hkj
        obtain ⟨rk, hrk'⟩ := Option.isSome_iff_exists.1 hrk
        obtain ⟨R, hR⟩ := Option.isSome_iff_exists.1 hrj
        have := ((h2 k rk hlk hrk').2 x hxk).2
        have := ((hBn R hR).1 x hxj).1
        omega
      · simp only [if_neg hji] at hrj hxj
        have hlj : isOn listed j := ((hon j).1 hoj).resolve_left hji
        by_cases hki : k = i
        · subst hki
          simp only [if_true] at hrk hxk
          obtain ⟨rj, hrj'⟩ := Option.isSome_iff_exists.1 hrj
          obtain ⟨R, hR⟩ := Option.isSome_iff_exists.1 hrk
          have := ((h2 j rj hlj hrj').2 x hxj).2
          have := ((hBn R hR).1 x hxk).1
          omega
        · simp only [if_neg hki] at hrk hxk
          have hlk : isOn listed k := ((hon k).1 hok').resolve_left hki
          exact h3 j k hlj hlk hrj hrk hjk x hxj hxk
    · -- the resources that were there lie below the new block
      have key : ∀ (L : List Res) (V V' : Nat → Prop), (∀ k, k < w.heap.size → V' k → V k) → Holds L V w → Holds L V' w' := by
        intro L
        induction L with
        | nil => intro _ _ _ _; trivial
        | cons R L ih =>
          intro V V' hV hh
          obtain ⟨C, hC, hA, hr'⟩ := hh
          refine ⟨C, fun k hk => ⟨fun hv => (hC k hk).1 (hV k (hC k hk).2 hv), Nat.lt_of_lt_of_le (hC k hk).2 hx.size⟩, R.loc C w w' (fun k hk => hx.block k (hC k hk).2) hA, ?_⟩
          exact ih _ _ (fun k hk hv => hv.imp (hV k hk) id) hr'
      refine key H _ _ ?_ h4
      rintro k hk (hu | ⟨j, hoj, hrj, hbj⟩)
      · exact .inl hu
      · by_cases hji : j = i
        · subst hji
          simp only [if_true] at hrj hbj
          obtain ⟨R, hR⟩ := Option.isSome_iff_exists.1 hrj
          have := ((hBn R hR).1 k hbj).1
          omega
        · simp only [if_neg hji] at hrj hbj
          exact .inr ⟨j, ((hon j).1 hoj).resolve_left hji, hrj, hbj⟩

/-- the state that an operation is shown: its own forerunners' entries -/
theorem inv_deps (hI : Inv c ds ops pre T0 H S listed a w) {f : Nat → Bool} {S1 : Ents} (hsub1 : ∀ x ∈ S1, x ∈ S) (hf : ∀ x ∈ S1, f x.1 = true → isOn listed x.1) {K : List (Nat × Value) → List Res → Prop} {T1 : List (Nat × Value)} (hT1 : Sat c.n T1 ds a)
    {L : Ents → List (Nat × Ent)} (hL0 : L [] = []) (hL : ∀ i d e r, L ((i, d, e) :: r) = bif f i then (d, e) :: L r else L r)
    (hnd : (S1.map (·.1)).Nodup) (h : finE (L S1) T1 H K) : ∃ T' H', K T' H' ∧ Sat c.n T' ds a ∧ Hp c.U c.w0 H' w := by
  obtain ⟨v0, R0, B0, h1, h2, h3, h4⟩ := hI.fam
  have key : ∀ (S' : Ents) (T : List (Nat × Value)) (H1 : List Res) (Dn : Nat → Prop), (∀ x ∈ S', x ∈ S1) → (S'.map (·.1)).Nodup → (∀ x ∈ S', ¬ Dn x.1) → Sat c.n T ds a →
      Holds H1 (fun k => c.U k ∨ ∃ i, isOn listed i ∧ (R0 i).isSome = true ∧ ¬ Dn i ∧ B0 i k) w → finE (L S') T H1 K → ∃ T' H', K T' H' ∧ Sat c.n T' ds a ∧ Hp c.U c.w0 H' w := by
    intro S'
    induction S' with
    | nil =>
      intro T H1 Dn _ _ _ hT hH hfin
      rw [hL0] at hfin
      exact ⟨T, H1, hfin, hT, hI.base, Holds.anti H1 (fun k hk => .inl hk) hH⟩
    | cons x r ih =>
      obtain ⟨i, d, e⟩ := x
      intro T H1 Dn hsub hnd' hDn hT hH hfin
      rw [hL] at hfin
      have hnd'' := hnd'
      simp only [List.map_cons, List.nodup_cons] at hnd''
      have hsub' : ∀ x ∈ r, x ∈ S1 := fun x hx => hsub x (List.mem_cons_of_mem _ hx)
      have hDr : ∀ x ∈ r, ¬ Dn x.1 := fun x hx => hDn x (List.mem_cons_of_mem _ hx)
      cases hfi : f i with
      | false =>
        rw [hfi] at hfin
        exact ih T H1 Dn hsub' hnd''.2 hDr hT hH hfin
      | true =>
        rw [hfi] at hfin
        simp only [cond_true] at hfin
        have hon := hf _ (hsub _ (List.mem_cons_self ..)) hfi
        obtain ⟨g1, g2⟩ := h1 i d e (hsub1 _ (hsub _ (List.mem_cons_self ..))) hon
        have hsat : Sat c.n ((d, v0 i) :: T) ds a := ⟨hT.size, fun t u ht => by
          by_cases hdt : d = t
          · subst hdt; rw [lk_cons_self] at ht; cases ht; exact g2
          · rw [lk_cons_ne hdt] at ht; exact hT.val t u ht, hT.defers⟩
        cases e with
        | pure u =>
          obtain ⟨g3, _⟩ := g1
          rw [g3] at hsat
          exact ih _ H1 Dn hsub' hnd''.2 hDr hsat hH hfin
        | res X V A =>
          obtain ⟨x, hvx, hRx⟩ := g1
          rw [hvx] at hsat
          have hfin' := hfin x
          refine ih _ _ (fun j => Dn j ∨ j = i) hsub' hnd''.2 (fun y hy => ?_) hsat ?_ hfin'
          · rintro (h | h)
            · exact hDr y hy h
            · exact hnd''.1 (List.mem_map.2 ⟨y, hy, h⟩)
          · obtain ⟨q1, q2⟩ := h2 i (A x) hon hRx
            refine ⟨B0 i, fun k hk => ⟨?_, (q2 k hk).2⟩, q1, Holds.anti H1 ?_ hH⟩
            · rintro (hu | ⟨j, hoj, hsj, hnj, hbj⟩)
              · exact (q2 k hk).1 hu
              · exact h3 i j hon hoj (by rw [hRx]; rfl) hsj (fun h => hnj (.inr h.symm)) k hk hbj
            · rintro k ((hu | ⟨j, hoj, hsj, hnj, hbj⟩) | hk)
              · exact .inl hu
              · exact .inr ⟨j, hoj, hsj, fun h => hnj (.inl h), hbj⟩
              · exact .inr ⟨i, hon, by rw [hRx]; rfl, hDn _ (List.mem_cons_self ..), hk⟩
  refine key S1 T1 H (fun _ => False) (fun _ h => h) hnd (fun _ _ h => h) hT1 (Holds.anti H ?_ h4) h
  rintro k (hu | ⟨i, hi, hs, _, hb⟩)
  · exact .inl hu
  · exact .inr ⟨i, hi, hs, hb⟩

theorem lk_filter (q : Nat → Bool) : ∀ (T T' : List (Nat × Value)), (∀ s v r, T = (s, v) :: r → True) → T' = T.filter (fun x => q x.1) → ∀ t v, lk T' t = some v → lk T t = some v ∧ q t = true
  | [], T', _, h, t, v, hl => by subst h; simp [lk] at hl
  | (s, u) :: r, T', _, h, t, v, hl => by
    subst h
    by_cases hq : q s = true
    · rw [List.filter_cons_of_pos (by simpa using hq)] at hl
      by_cases hst : s = t
      · subst hst; rw [lk_cons_self] at hl ⊢; exact ⟨hl, hq⟩
      · rw [lk_cons_ne hst] at hl ⊢
        exact lk_filter q r _ (fun _ _ _ _ => trivial) rfl t v hl
    · rw [List.filter_cons_of_neg (by simpa using hq)] at hl
      have ih := lk_filter q r _ (fun _ _ _ _ => trivial) rfl t v hl
      by_cases hst : s = t
      · subst hst; exact absurd ih.2 hq
      · rw [lk_cons_ne hst]; exact ih

theorem baseT_eq (ops : List Oper) (i : Nat) : ∀ T, baseT ops i T = T.filter (fun x => ops.all (fun f => (match f.dst with | some d => !Nat.beq d x.1 | none => true) || bindsTo f i))
  | [] => rfl
  | (s, v) :: r => by
    simp only [baseT, baseT_eq ops i r, List.filter_cons]
    cases ops.all (fun f => (match f.dst with | some d => !Nat.beq d s | none => true) || bindsTo f i) <;> rfl

theorem beq_true_iff {a b : Nat} : Nat.beq a b = true ↔ a = b := ⟨Nat.eq_of_beq_eq_true, fun h => by subst h; exact Nat.beq_refl _⟩

theorem sat_base (hI : Inv c ds ops pre T0 H S listed a w) {i : Nat} (hpre : ∀ (k : Nat) o, pre[k]? = some o → ops[k]? = some o) (hun : ¬ isOn listed i) : Sat c.n (baseT pre i T0) ds a := by
  refine ⟨hI.size, fun t v h => ?_, hI.defers⟩
  rw [baseT_eq] at h
  obtain ⟨h1, h2⟩ := lk_filter (fun s => pre.all (fun f => (match f.dst with | some d => !Nat.beq d s | none => true) || bindsTo f i)) T0 _ (fun _ _ _ _ => trivial) rfl t v h
  refine hI.old t v h1 fun k o hk hon hd => ?_
  rw [List.all_eq_true] at h2
  have h3 := h2 o (List.mem_of_getElem? hk)
  rw [hd] at h3
  simp only [Nat.beq_refl, Bool.not_true, Bool.false_or] at h3
  exact hun (hI.closed k o (hpre k o hk) hon i h3)

/-- what the lexical walk comes to -/
theorem ph_out {K : Ents → Prop} : ∀ (r : List Oper) (i : Nat) (Sa : Ents), PH c ds pre T0 H K i r Sa → ∃ S, K S ∧ (∃ q, S = q ++ Sa ∧ q.map (·.1) = (List.range' i r.length).reverse) ∧
    ∀ (j : Nat) o, r[j]? = some o → ∃ d e S', o.dst = some d ∧ Ob c ds pre T0 H (i + j) o S' e ∧ ∃ q, S = q ++ (i + j, d, e) :: S'
  | [], i, Sa, h => ⟨Sa, h, ⟨[], rfl, rfl⟩, fun j o hj => by simp at hj⟩
  | o :: r, i, Sa, h => by
    obtain ⟨d, e, hd, hO, hr⟩ := h
    obtain ⟨S, hK, ⟨q, hq, hq2⟩, hall⟩ := ph_out r (i + 1) _ hr
    refine ⟨S, hK, ⟨q ++ [(i, d, e)], by rw [hq]; simp, ?_⟩, ?_⟩
    · simp only [List.map_append, hq2, List.map_cons, List.map_nil, List.length_cons, List.range'_succ, List.reverse_cons]
    · intro j oj hj
      cases j with
      | zero =>
        simp only [List.getElem?_cons_zero, Option.some.injEq] at hj
        subst hj
        exact ⟨d, e, Sa, hd, hO, q, hq⟩
      | succ j =>
        simp only [List.getElem?_cons_succ] at hj
        obtain ⟨d', e', S', h1, h2, h3⟩ := hall j oj hj
        exact ⟨d', e', S', h1, by rwa [show i + (j + 1) = i + 1 + j from by omega], by rwa [show i + (j + 1) = i + 1 + j from by omega]⟩

theorem cnt_lt {l : List Nat} {q q' : Nat → Bool} (hq : ∀ x, q' x = true → q x = true) {i : Nat} (hi : i ∈ l) (h1 : q i = true) (h2 : q' i = false) : (l.filter q').length < (l.filter q).length := by
  have hle : ∀ l : List Nat, (l.filter q').length ≤ (l.filter q).length := by
    intro l
    induction l with
    | nil => exact Nat.le_refl _
    | cons x r ih =>
      simp only [List.filter_cons]
      cases hx' : q' x with
      | true => simp [hq x hx', ih]
      | false => cases q x <;> simp <;> omega
  induction l with
  | nil => cases hi
  | cons x r ih =>
    simp only [List.filter_cons]
    rcases List.mem_cons.1 hi with rfl | hi'
    · simp only [h1, h2, if_true, Bool.false_eq_true, if_false, List.length_cons]
      have := hle r
      omega
    · have := ih hi'
      cases hx' : q' x with
      | true => simp [hq x hx', this]
      | false => cases q x <;> simp <;> omega

theorem isOn_ready {listed : Array Bool} {l : Array Oper} {i : Nat} (hs : listed.size = l.size) : i ∈ Region.ready .any l listed ↔ i < l.size ∧ ¬ isOn listed i ∧ ∃ o, l[i]? = some o ∧ ∀ j, bindsTo o j = true → isOn listed j := by
  rw [mem_ready]
  constructor
  · rintro ⟨h0, o, ho, hall⟩
    have hlt : i < l.size := (Array.getElem?_eq_some_iff.1 ho).1
    refine ⟨hlt, ?_, o, ho, fun j hj => ?_⟩
    · unfold isOn
      have : i < listed.size := by omega
      simp [this] at h0 ⊢
      exact h0
    · unfold bindsTo at hj
      rw [List.any_eq_true] at hj
      obtain ⟨e, he, hb⟩ := hj
      rw [Bool.and_eq_true, beq_true_iff] at hb
      have := hall e (by simpa using he) hb.1
      rw [hb.2] at this
      exact this
  · rintro ⟨hlt, hno, o, ho, hall⟩
    have hlt' : i < listed.size := by omega
    refine ⟨?_, o, ho, fun e he hb => ?_⟩
    · unfold isOn at hno
      simp [hlt'] at hno ⊢
      exact hno
    · refine hall e.on ?_
      unfold bindsTo
      rw [List.any_eq_true]
      exact ⟨e, by simpa using he, by rw [hb, Nat.beq_refl]; rfl⟩

theorem backEdges_spec : ∀ (l : List Oper) (i : Nat), backEdges i l = true → ∀ (k : Nat) o, l[k]? = some o → ∀ j, bindsTo o j = true → j < i + k
  | [], _, _, k, o, hk, _, _ => by simp at hk
  | x :: r, i, h, k, o, hk, j, hj => by
    simp only [backEdges, Bool.and_eq_true] at h
    cases k with
    | zero =>
      simp only [List.getElem?_cons_zero, Option.some.injEq] at hk
      subst hk
      unfold bindsTo at hj
      rw [List.any_eq_true] at hj
      obtain ⟨e, he, hb⟩ := hj
      rw [Bool.and_eq_true, beq_true_iff] at hb
      have := List.all_eq_true.1 h.1 e he
      rw [hb.1] at this
      simp only [Bool.not_true, Bool.false_or] at this
      have := Nat.le_of_ble_eq_true this
      omega
    | succ k =>
      simp only [List.getElem?_cons_succ] at hk
      have := backEdges_spec r (i + 1) h.2 k o hk j hj
      omega

theorem reach_spec {l : List Oper} {listed : Array Bool} (hc : ∀ (k : Nat) o, l[k]? = some o → isOn listed k → ∀ j, bindsTo o j = true → isOn listed j) :
    ∀ (n i j : Nat), (∀ o, l[i]? = some o → ∀ j, bindsTo o j = true → isOn listed j) → reach l n i j = true → isOn listed j
  | 0, _, _, _, h => by simp [reach] at h
  | n + 1, i, j, hi, h => by
    unfold reach at h
    cases ho : l[i]? with
    | none => rw [ho] at h; cases h
    | some o =>
      rw [ho] at h
      simp only [Bool.or_eq_true] at h
      rcases h with h | h
      · exact hi o ho j h
      · rw [List.any_eq_true] at h
        obtain ⟨e, he, hb⟩ := h
        rw [Bool.and_eq_true] at hb
        have hon : isOn listed e.on := hi o ho e.on (by
          unfold bindsTo
          rw [List.any_eq_true]
          exact ⟨e, he, by rw [hb.1, Nat.beq_refl]; rfl⟩)
        exact reach_spec hc n e.on j (fun o' ho' => hc e.on o' ho' hon) hb.2

theorem distinct_spec : ∀ (l : List Oper), distinct (dsts l) = true → ∀ (i j : Nat) (oi oj : Oper), l[i]? = some oi → l[j]? = some oj → i ≠ j → ∀ d, oi.dst = some d → oj.dst ≠ some d
  | [], _, i, _, _, _, h, _, _, _, _ => by simp at h
  | x :: r, h, i, j, oi, oj, hi, hj, hij, d, hd => by
    simp only [dsts, List.map_cons] at h
    cases hx : x.dst with
    | none => rw [hx] at h; simp [distinct] at h
    | some dx =>
      rw [hx] at h
      simp only [distinct, Bool.and_eq_true] at h
      have hr : ∀ (k : Nat) o, r[k]? = some o → o.dst ≠ some dx := fun k o hk he => by
        have := List.all_eq_true.1 h.1 o.dst (List.mem_map.2 ⟨o, List.mem_of_getElem? hk, rfl⟩)
        rw [he] at this
        simp at this
      cases i with
      | zero =>
        simp only [List.getElem?_cons_zero, Option.some.injEq] at hi
        subst hi
        rw [hx] at hd
        cases hd
        cases j with
        | zero => exact absurd rfl hij
        | succ j => exact hr j oj (by simpa using hj)
      | succ i =>
        cases j with
        | zero =>
          simp only [List.getElem?_cons_zero, Option.some.injEq] at hj
          subst hj
          intro he
          rw [hx] at he
          cases he
          exact hr i oi (by simpa using hi) hd
        | succ j => exact distinct_spec r h.2 i j oi oj (by simpa using hi) (by simpa using hj) (by omega) d hd
end

section
variable {c : Cx} {p : Post} {l : List Oper} {m : Nat}

/-- behind the operations that may come in any order the others come one by one -/
theorem phase2 (hb : backEdges 0 l = true) (hch : chain l m = true) : ∀ (s j fuel : Nat) (listed : Array Bool) (a : Act) (w : World), m + j + s = l.length → s ≤ fuel → listed.size = l.length →
    (∀ k, k < l.length → (isOn listed k ↔ k < m + j)) → wpListIn (FW c.r) 0 c.P l.toArray p.Q (l.drop (m + j)) a w → wpAnyIn (FW c.r) 0 c.P .any l.toArray p.Q fuel listed a w := by
  intro s
  induction s with
  | zero =>
    intro j fuel listed a w hs _ hsz hon h
    have hready : Region.ready .any l.toArray listed = [] := by
      rw [List.eq_nil_iff_forall_not_mem]
      intro i hi
      obtain ⟨h1, h2, _⟩ := (isOn_ready (by simpa using hsz)).1 hi
      simp only [List.size_toArray] at h1
      exact h2 ((hon i h1).2 (by omega))
    rw [List.drop_eq_nil_of_le (by omega)] at h
    exact wpAnyIn_done hready h fuel
  | succ s ih =>
    intro j fuel listed a w hs hf hsz hon h
    obtain ⟨fuel, rfl⟩ : ∃ f, fuel = f + 1 := ⟨fuel - 1, by omega⟩
    have hlt : m + j < l.length := by omega
    have hdrop : l.drop (m + j) = l[m + j] :: l.drop (m + j + 1) := List.drop_eq_getElem_cons hlt
    have hin : m + j ∈ Region.ready .any l.toArray listed := by
      refine (isOn_ready (by simpa using hsz)).2 ⟨by simpa using hlt, fun h => ?_, l[m + j], by simp [hlt], fun k hk => ?_⟩
      · have := (hon _ hlt).1 h; omega
      · have := backEdges_spec l 0 hb (m + j) l[m + j] (by simp [hlt]) k hk
        exact (hon k (by omega)).2 (by omega)
    refine ⟨fun h0 => (by rw [h0] at hin; cases hin), fun i hi => ?_⟩
    obtain ⟨h1, h2, o, ho, h3⟩ := (isOn_ready (by simpa using hsz)).1 hi
    simp only [List.size_toArray] at h1
    have hge : m + j ≤ i := by
      rcases Nat.lt_or_ge i (m + j) with h | h
      · exact absurd ((hon i h1).2 h) h2
      · exact h
    have hi' : i = m + j := by
      rcases Nat.lt_or_ge (m + j) i with hgt | hle
      · exfalso
        unfold chain at hch
        have := List.all_eq_true.1 hch (i - m - 1) (by rw [List.mem_range]; omega)
        rw [show m + (i - m - 1) + 1 = i from by omega] at this
        have ho' : l[i]? = some o := by simpa using ho
        rw [ho'] at this
        have hx := h3 _ this
        have := (hon (m + (i - m - 1)) (by omega)).1 hx
        omega
      · omega
    subst hi'
    rw [hdrop] at h
    have key : wpOpIn (FW c.r) 0 c.P l.toArray p.Q (m + j) (wpListIn (FW c.r) 0 c.P l.toArray p.Q (l.drop (m + j + 1))) a w := by
      unfold wpOpIn
      have hg : l.toArray[m + j]? = some l[m + j] := by simp [hlt]
      rw [hg]
      unfold wpListIn at h
      exact h
    refine wpOpIn_mono (fun a' w' h' => ?_) key
    refine ih (j + 1) fuel _ a' w' (by omega) (by omega) (by simp [hsz]) (fun k hk => ?_) (by rwa [show m + (j + 1) = m + j + 1 from by omega])
    rw [isOn_set (by omega), hon k hk]
    omega

/-- the lexical order is one of the orders -/
theorem lex_of_any (hb : backEdges 0 l = true) : ∀ (s k fuel : Nat) (listed : Array Bool) (a : Act) (w : World), k + s = l.length → s ≤ fuel → listed.size = l.length → (∀ i, i < l.length → (isOn listed i ↔ i < k)) →
    wpAnyIn (FW c.r) 0 c.P .any l.toArray p.Q fuel listed a w → wpOpsIn (FW c.r) 0 c.P l.toArray p.Q (List.range' k s) a w := by
  intro s
  induction s with
  | zero =>
    intro k fuel listed a w hs _ hsz hon h
    have hready : Region.ready .any l.toArray listed = [] := by
      rw [List.eq_nil_iff_forall_not_mem]
      intro i hi
      obtain ⟨h1, h2, _⟩ := (isOn_ready (by simpa using hsz)).1 hi
      simp only [List.size_toArray] at h1
      exact h2 ((hon i h1).2 (by omega))
    cases fuel with
    | zero => exact h.2
    | succ f => exact h.1 hready
  | succ s ih =>
    intro k fuel listed a w hs hf hsz hon h
    obtain ⟨fuel, rfl⟩ : ∃ f, fuel = f + 1 := ⟨fuel - 1, by omega⟩
    have hlt : k < l.length := by omega
    have hin : k ∈ Region.ready .any l.toArray listed := by
      refine (isOn_ready (by simpa using hsz)).2 ⟨by simpa using hlt, fun h => ?_, l[k], by simp [hlt], fun j hj => ?_⟩
      · have := (hon _ hlt).1 h; omega
      · have := backEdges_spec l 0 hb k l[k] (by simp [hlt]) j hj
        exact (hon j (by omega)).2 (by omega)
    rw [List.range'_succ, wpOpsIn_cons]
    refine wpOpIn_mono (fun a' w' h' => ?_) (h.2 k hin)
    refine ih (k + 1) fuel _ a' w' (by omega) (by omega) (by simp [hsz]) (fun i hi => ?_) h'
    rw [isOn_set (by omega), hon i hi]
    omega
end
end Go.K
