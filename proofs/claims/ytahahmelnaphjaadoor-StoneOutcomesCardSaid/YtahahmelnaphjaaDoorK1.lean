/- A layer for walks: the state of a walk is a list of temporaries, a list of heap resources and a base world; one rule per kind of operation. No statement of the seat is proved in this text. -/
import Derived.WalkKit
import Derived.RangeFuncNested
import Derived.RangeFuncBound
import Derived.RangeFuncCalls
import Derived.RangeFuncLeaves
import Derived.OrdersIn
namespace Go.K
open Go Go.RowKit

/-! ### temporaries -/

/-- what a temporary is known to hold -/
def lk : List (Nat × Value) → Nat → Option Value
  | [], _ => none
  | (k, v) :: r, t => bif Nat.beq k t then some v else lk r t

def sub : List (Nat × Value) → List (Nat × Value) → Prop
  | [], _ => True
  | (k, v) :: r, T => lk T k = some v ∧ sub r T

structure Sat (n : Nat) (T : List (Nat × Value)) (ds : List Deferred) (a : Act) : Prop where
  size : a.tmps.size = n
  val : ∀ t v, lk T t = some v → a.tmps[t]? = some v
  defers : a.defers = ds

theorem sub_lk {T' : List (Nat × Value)} : ∀ (T : List (Nat × Value)), sub T T' → ∀ t v, lk T t = some v → lk T' t = some v
  | [], _, _, _, h => by simp [lk] at h
  | (k, u) :: r, hs, t, v, h => by
    unfold lk at h
    cases hb : Nat.beq k t with
    | true =>
      rw [hb] at h
      simp only [cond_true, Option.some.injEq] at h
      have : k = t := Nat.eq_of_beq_eq_true hb
      subst this; subst h
      exact hs.1
    | false =>
      rw [hb] at h
      exact sub_lk r hs.2 t v h

section
variable {n : Nat} {T T' : List (Nat × Value)} {ds : List Deferred} {a : Act}

theorem Sat.mono (h : Sat n T ds a) (hs : sub T' T) : Sat n T' ds a := ⟨h.size, fun t v ht => h.val t v (sub_lk T' hs t v ht), h.defers⟩

theorem lk_cons_ne {d t : Nat} {v : Value} (h : d ≠ t) : lk ((d, v) :: T) t = lk T t := by
  show (bif Nat.beq d t then some v else lk T t) = lk T t
  have : Nat.beq d t = false := by
    cases hb : Nat.beq d t with
    | false => rfl
    | true => exact absurd (Nat.eq_of_beq_eq_true hb) h
  rw [this]; rfl

theorem lk_cons_self {d : Nat} {v : Value} : lk ((d, v) :: T) d = some v := by
  show (bif Nat.beq d d then some v else lk T d) = some v
  rw [Nat.beq_refl]; rfl

theorem Sat.put (h : Sat n T ds a) {d : Nat} (hd : d < n) (v : Value) : Sat n ((d, v) :: T) ds (a.put (some d) v) := by
  refine ⟨by simp [Act.put, h.size], fun t u ht => ?_, h.defers⟩
  simp only [Act.put]
  by_cases hdt : d = t
  · subst hdt
    rw [lk_cons_self] at ht
    cases ht
    simp [h.size, hd]
  · rw [lk_cons_ne hdt] at ht
    rw [Array.getElem?_setIfInBounds_ne hdt]
    exact h.val t u ht

/-- what an operand is known to hold -/
def evo (T : List (Nat × Value)) : Operand → Option Value
  | .tmp t => lk T t
  | .const v => some v
  | .global g => some (.pointer (some ⟨g, 0, none⟩))
  | .func f => some (.func (.func f) #[] #[])

theorem Sat.eval (h : Sat n T ds a) {x : Operand} {v : Value} (hx : evo T x = some v) : a.eval x = v := by
  cases x with
  | tmp t => simp only [evo] at hx; simp [Act.eval, h.val t v hx]
  | const u => simp only [evo, Option.some.injEq] at hx; exact hx
  | global g => simp only [evo, Option.some.injEq] at hx; exact hx
  | func f => simp only [evo, Option.some.injEq] at hx; exact hx

def evs (T : List (Nat × Value)) : List Operand → Option (List Value)
  | [] => some []
  | x :: r => match evo T x, evs T r with
    | some v, some vs => some (v :: vs)
    | _, _ => none

theorem Sat.evals (h : Sat n T ds a) : ∀ {xs : List Operand} {vs : List Value}, evs T xs = some vs → xs.map a.eval = vs
  | [], vs, hv => by simp only [evs, Option.some.injEq] at hv; subst hv; rfl
  | x :: r, vs, hv => by
    simp only [evs] at hv
    cases h1 : evo T x with
    | none => rw [h1] at hv; cases hv
    | some v =>
      cases h2 : evs T r with
      | none => rw [h1, h2] at hv; cases hv
      | some us =>
        rw [h1, h2] at hv
        simp only [Option.some.injEq] at hv
        subst hv
        simp [h.eval h1, h.evals h2]
end

/-! ### resources -/

structure Res where
  A : (Nat → Prop) → World → Prop
  loc : ∀ B w w', (∀ k, B k → w'.heap[k]? = w.heap[k]?) → A B w → A B w'

def Holds : List Res → (Nat → Prop) → World → Prop
  | [], _, _ => True
  | R :: r, U, w => ∃ B, (∀ k, B k → ¬ U k ∧ k < w.heap.size) ∧ R.A B w ∧ Holds r (fun k => U k ∨ B k) w

structure Base (U : Nat → Prop) (w0 w : World) : Prop where
  os : w.os = w0.os
  tape : w.tape = w0.tape
  output : w.output = w0.output
  size : w0.heap.size ≤ w.heap.size
  lt : ∀ k, U k → k < w0.heap.size
  same : ∀ k, U k → w.heap[k]? = w0.heap[k]?

structure Hp (U : Nat → Prop) (w0 : World) (H : List Res) (w : World) : Prop where
  base : Base U w0 w
  holds : Holds H U w

/-- blocks that lay in w and are not in B lie as they lay -/
structure Mod (B : Nat → Prop) (w w' : World) : Prop where
  os : w'.os = w.os
  tape : w'.tape = w.tape
  output : w'.output = w.output
  size : w.heap.size ≤ w'.heap.size
  same : ∀ k, k < w.heap.size → ¬ B k → w'.heap[k]? = w.heap[k]?

abbrev Ext (w w' : World) : Prop := Below w.heap.size w w'

theorem Ext.mod {w w' : World} (h : Ext w w') (B : Nat → Prop) : Mod B w w' := ⟨h.os, h.tape, h.output, h.size, fun k hk _ => h.block k hk⟩
theorem Mod.ext {w w' : World} (h : Mod (fun _ => False) w w') : Ext w w' := ⟨h.os, h.tape, h.output, h.size, fun k hk => h.same k hk (fun x => x)⟩

theorem Ext.trans {a b c : World} (h : Ext a b) (k : Ext b c) : Ext a c := Below.trans h (Below.mono k h.size)
theorem Ext.rfl {a : World} : Ext a a := Below.refl _ _

theorem Holds.mod {B : Nat → Prop} {w w' : World} (hm : Mod B w w') : ∀ (H : List Res) (U : Nat → Prop), (∀ k, B k → U k) → Holds H U w → Holds H U w'
  | [], _, _, _ => trivial
  | R :: r, U, hB, h => by
    obtain ⟨C, hC, hA, hr⟩ := h
    refine ⟨C, fun k hk => ⟨(hC k hk).1, Nat.lt_of_lt_of_le (hC k hk).2 hm.size⟩, R.loc C w w' (fun k hk => ?_) hA, Holds.mod hm r _ (fun k hk => .inl (hB k hk)) hr⟩
    exact hm.same k (hC k hk).2 (fun hb => (hC k hk).1 (hB k hb))

theorem Holds.ext {w w' : World} (h : Ext w w') {H : List Res} {U : Nat → Prop} (hh : Holds H U w) : Holds H U w' :=
  Holds.mod (h.mod (fun _ => False)) H U (fun _ x => x.elim) hh

theorem Base.mod {U B : Nat → Prop} {w0 w w' : World} (h : Base U w0 w) (hm : Mod B w w') (hB : ∀ k, B k → ¬ U k) : Base U w0 w' :=
  ⟨hm.os.trans h.os, hm.tape.trans h.tape, hm.output.trans h.output, Nat.le_trans h.size hm.size, h.lt, fun k hk =>
    (hm.same k (Nat.lt_of_lt_of_le (h.lt k hk) h.size) (fun hb => hB k hb hk)).trans (h.same k hk)⟩

theorem Base.ext {U : Nat → Prop} {w0 w w' : World} (h : Base U w0 w) (hm : Ext w w') : Base U w0 w' := h.mod (hm.mod (fun _ => False)) (fun _ x => x.elim)

theorem Hp.ext {U : Nat → Prop} {w0 w w' : World} {H : List Res} (h : Hp U w0 H w) (hm : Ext w w') : Hp U w0 H w' := ⟨h.base.ext hm, Holds.ext hm h.holds⟩

theorem Holds.anti {w : World} : ∀ (H : List Res) {U V : Nat → Prop}, (∀ k, V k → U k) → Holds H U w → Holds H V w
  | [], _, _, _, _ => trivial
  | R :: r, U, V, hV, h => by
    obtain ⟨C, hC, hA, hr⟩ := h
    exact ⟨C, fun k hk => ⟨fun hv => (hC k hk).1 (hV k hv), (hC k hk).2⟩, hA, Holds.anti r (fun k hk => hk.imp (hV k) id) hr⟩

/-- a new resource, in new memory -/
theorem Hp.new {U : Nat → Prop} {w0 w w' : World} {H : List Res} (h : Hp U w0 H w) (hm : Ext w w') {R : Res} {B : Nat → Prop}
    (hB : ∀ k, B k → w.heap.size ≤ k ∧ k < w'.heap.size) (hA : R.A B w') : Hp U w0 (R :: H) w' := by
  refine ⟨h.base.ext hm, B, fun k hk => ⟨fun hu => ?_, (hB k hk).2⟩, hA, ?_⟩
  · have := h.base.lt k hu
    have := h.base.size
    have := (hB k hk).1
    omega
  · -- the others lie below
    have key : ∀ (H : List Res) (V : Nat → Prop), Holds H V w → Holds H (fun k => V k ∨ B k) w' := by
      intro H
      induction H with
      | nil => intro _ _; trivial
      | cons R r ih =>
        intro V hh
        obtain ⟨C, hC, hA, hr⟩ := hh
        refine ⟨C, fun k hk => ⟨fun hv => ?_, Nat.lt_of_lt_of_le (hC k hk).2 hm.size⟩, R.loc C w w' (fun k hk => hm.block k (hC k hk).2) hA, ?_⟩
        · rcases hv with hv | hv
          · exact (hC k hk).1 hv
          · have := (hB k hv).1; have := (hC k hk).2; omega
        · exact Holds.anti r (fun k hk => by rcases hk with (h | h) | h <;> simp [h]) (ih _ hr)
    exact key H U h.holds

/-! focus on the resource at a place -/
theorem Holds.swap {R S : Res} {r : List Res} {U : Nat → Prop} {w : World} (h : Holds (R :: S :: r) U w) : Holds (S :: R :: r) U w := by
  obtain ⟨B, hB, hA, C, hC, hA', hr⟩ := h
  exact ⟨C, fun k hk => ⟨fun hu => (hC k hk).1 (.inl hu), (hC k hk).2⟩, hA', B, fun k hk => ⟨fun hu => hu.elim (hB k hk).1 (fun hc => (hC k hc).1 (.inr hk)), (hB k hk).2⟩, hA,
    Holds.anti r (fun k hk => by rcases hk with (h | h) | h <;> simp [h]) hr⟩

theorem Holds.front {w : World} : ∀ (H : List Res) (p : Nat) {R : Res} {U : Nat → Prop}, H[p]? = some R → Holds H U w → Holds (R :: H.eraseIdx p) U w
  | [], _, _, _, h, _ => by simp at h
  | S :: r, 0, R, U, h, hh => by simp only [List.getElem?_cons_zero, Option.some.injEq] at h; subst h; exact hh
  | S :: r, p + 1, R, U, h, hh => by
    simp only [List.getElem?_cons_succ] at h
    obtain ⟨B, hB, hA, hr⟩ := hh
    exact Holds.swap ⟨B, hB, hA, Holds.front r p h hr⟩

theorem Holds.back {w : World} : ∀ (H : List Res) (p : Nat) {R R' : Res} {U : Nat → Prop}, H[p]? = some R → Holds (R' :: H.eraseIdx p) U w → Holds (H.set p R') U w
  | [], _, _, _, _, h, _ => by simp at h
  | S :: r, 0, R, R', U, h, hh => hh
  | S :: r, p + 1, R, R', U, h, hh => by
    simp only [List.getElem?_cons_succ] at h
    obtain ⟨B, hB, hA, hr⟩ := Holds.swap (R := R') (S := S) (r := r.eraseIdx p) hh
    exact ⟨B, hB, hA, Holds.back r p h hr⟩

theorem Hp.drop {U : Nat → Prop} {w0 w : World} {R : Res} {H : List Res} (h : Hp U w0 (R :: H) w) : Hp U w0 H w :=
  ⟨h.base, let ⟨_, _, _, hr⟩ := h.holds; Holds.anti H (fun _ hk => .inl hk) hr⟩

theorem Hp.swap {U : Nat → Prop} {w0 w : World} {R S : Res} {H : List Res} (h : Hp U w0 (R :: S :: H) w) : Hp U w0 (S :: R :: H) w := ⟨h.base, h.holds.swap⟩

/-- R holds somewhere in w -/
def Has (w : World) (R : Res) : Prop := ∃ B, (∀ k, B k → k < w.heap.size) ∧ R.A B w

theorem Has.ext {w w' : World} {R : Res} (h : Has w R) (hm : Ext w w') : Has w' R := by
  obtain ⟨B, hB, hA⟩ := h
  exact ⟨B, fun k hk => Nat.lt_of_lt_of_le (hB k hk) hm.size, R.loc B w w' (fun k hk => hm.block k (hB k hk)) hA⟩

theorem Hp.has {U : Nat → Prop} {w0 w : World} {H : List Res} (h : Hp U w0 H w) {p : Nat} {R : Res} (hp : H[p]? = some R) : Has w R := by
  obtain ⟨B, hB, hA, _⟩ := Holds.front H p hp h.holds
  exact ⟨B, fun k hk => (hB k hk).2, hA⟩

/-- R holds in the protected part -/
def Rd (U : Nat → Prop) (w : World) (R : Res) : Prop := ∃ B, (∀ k, B k → U k) ∧ R.A B w

theorem Rd.has {U : Nat → Prop} {w0 w : World} {H : List Res} {R : Res} (h : Rd U w0 R) (hp : Hp U w0 H w) : Has w R := by
  obtain ⟨B, hB, hA⟩ := h
  exact ⟨B, fun k hk => Nat.lt_of_lt_of_le (hp.base.lt k (hB k hk)) hp.base.size, R.loc B w0 w (fun k hk => hp.base.same k (hB k hk)) hA⟩

theorem Has.rd {w : World} {R : Res} (h : Has w R) : Rd (· < w.heap.size) w R := h

/-- an update of the resource at a place -/
theorem Hp.upd {U : Nat → Prop} {w0 w w' : World} {H : List Res} (h : Hp U w0 H w) {p : Nat} {R R' : Res} (hp : H[p]? = some R)
    (hu : ∀ B, (∀ k, B k → k < w.heap.size) → R.A B w → ∃ B', Mod B w w' ∧ (∀ k, B' k → B k ∨ (w.heap.size ≤ k ∧ k < w'.heap.size)) ∧ R'.A B' w') : Hp U w0 (H.set p R') w' := by
  obtain ⟨B, hB, hA, hr⟩ := Holds.front H p hp h.holds
  obtain ⟨B', hm, hB', hA'⟩ := hu B (fun k hk => (hB k hk).2) hA
  refine ⟨h.base.mod hm (fun k hk => (hB k hk).1), Holds.back H p hp ⟨B', fun k hk => ?_, hA', ?_⟩⟩
  · rcases hB' k hk with hb | ⟨h1, h2⟩
    · exact ⟨(hB k hb).1, Nat.lt_of_lt_of_le (hB k hb).2 hm.size⟩
    · refine ⟨fun hu => ?_, h2⟩
      have := h.base.lt k hu; have := h.base.size; omega
  · have key : ∀ (H : List Res) (V : Nat → Prop), (∀ k, V k → k < w.heap.size → ¬ B' k ∨ V k) → Holds H (fun k => V k ∨ B k) w → Holds H (fun k => V k ∨ B' k) w' := by
      intro H
      induction H with
      | nil => intro _ _ _; trivial
      | cons S r ih =>
        intro V hV hh
        obtain ⟨C, hC, hA, hr⟩ := hh
        refine ⟨C, fun k hk => ⟨fun hv => ?_, Nat.lt_of_lt_of_le (hC k hk).2 hm.size⟩, S.loc C w w' (fun k hk => hm.same k (hC k hk).2 (fun hb => (hC k hk).1 (.inr hb))) hA, ?_⟩
        · rcases hv with hv | hv
          · exact (hC k hk).1 (.inl hv)
          · rcases hB' k hv with hb | ⟨h1, _⟩
            · exact (hC k hk).1 (.inr hb)
            · have := (hC k hk).2; omega
        · have := ih (fun k => V k ∨ C k) (fun k hk _ => .inr hk) (Holds.anti r (fun k hk => by rcases hk with (h | h) | h <;> simp [h]) hr)
          exact Holds.anti r (fun k hk => by rcases hk with (h | h) | h <;> simp [h]) this
    exact key _ U (fun k hk _ => .inr hk) hr

end Go.K
