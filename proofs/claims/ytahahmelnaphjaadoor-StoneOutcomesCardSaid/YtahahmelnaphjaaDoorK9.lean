/- A layer for walks, ninth text: memory that a callee may turn; loops over functions. No statement of the seat is proved in this text. -/
import Derived.Test.YtahahmelnaphjaaDoorK8
import Derived.RangeFuncRecord
namespace Go.K
open Go Go.RowKit

/-- what was owned, or new memory -/
def Own (B B' : Nat → Prop) (w w' : World) : Prop := ∀ k, B' k → B k ∨ (w.heap.size ≤ k ∧ k < w'.heap.size)

theorem Mod.rfl {B : Nat → Prop} {w : World} : Mod B w w := ⟨_root_.rfl, _root_.rfl, _root_.rfl, Nat.le_refl _, fun _ _ _ => _root_.rfl⟩

/-! ### all resources of a list as one -/
def All : List Res → (Nat → Prop) → World → Prop
  | [], _, _ => True
  | R :: r, B, w => ∃ C E : Nat → Prop, (∀ k, C k → B k) ∧ (∀ k, E k → B k ∧ ¬ C k) ∧ R.A C w ∧ All r E w

theorem All.loc : ∀ (H : List Res) (B : Nat → Prop) (w w' : World), (∀ k, B k → w'.heap[k]? = w.heap[k]?) → All H B w → All H B w'
  | [], _, _, _, _, _ => trivial
  | R :: r, _, w, w', h, ⟨C, E, hC, hE, hA, hr⟩ => ⟨C, E, hC, hE, R.loc C w w' (fun k hk => h k (hC k hk)) hA, All.loc r E w w' (fun k hk => h k (hE k hk).1) hr⟩

def SepR (H : List Res) : Res where
  A B w := All H B w
  loc B w w' h hA := All.loc H B w w' h hA

theorem all_of_holds {w : World} : ∀ (H : List Res) (U : Nat → Prop), Holds H U w → ∃ B, (∀ k, B k → ¬ U k ∧ k < w.heap.size) ∧ All H B w
  | [], _, _ => ⟨fun _ => False, fun _ h => h.elim, trivial⟩
  | R :: r, U, ⟨C, hC, hA, hr⟩ => by
    obtain ⟨E, hE, hAll⟩ := all_of_holds r _ hr
    refine ⟨fun k => C k ∨ E k, fun k hk => ?_, C, E, fun k hk => .inl hk, fun k hk => ⟨.inr hk, fun hc => (hE k hk).1 (.inr hc)⟩, hA, hAll⟩
    rcases hk with hk | hk
    · exact hC k hk
    · exact ⟨fun hu => (hE k hk).1 (.inl hu), (hE k hk).2⟩

theorem holds_of_all {w : World} : ∀ (H : List Res) (U B : Nat → Prop), (∀ k, B k → ¬ U k ∧ k < w.heap.size) → All H B w → Holds H U w
  | [], _, _, _, _ => trivial
  | _ :: r, _, _, hB, ⟨C, E, hC, hE, hA, hr⟩ =>
    ⟨C, fun k hk => hB k (hC k hk), hA, holds_of_all r _ E (fun k hk => ⟨fun h => h.elim (hB k (hE k hk).1).1 (hE k hk).2, (hB k (hE k hk).1).2⟩) hr⟩

theorem Hp.split {U : Nat → Prop} {w0 w : World} {L H : List Res} (h : Hp U w0 (SepR L :: H) w) : Hp U w0 (L ++ H) w := by
  obtain ⟨hb, B, hB, hA, hr⟩ := h
  refine ⟨hb, ?_⟩
  have key : ∀ (L : List Res) (U B : Nat → Prop), (∀ k, B k → ¬ U k ∧ k < w.heap.size) → All L B w → Holds H (fun k => U k ∨ B k) w → Holds (L ++ H) U w := by
    intro L
    induction L with
    | nil => intro U B _ _ hr; exact Holds.anti H (fun k hk => .inl hk) hr
    | cons R r ih =>
      rintro U B hB ⟨C, E, hC, hE, hA, hAll⟩ hr
      refine ⟨C, fun k hk => hB k (hC k hk), hA, ih _ E (fun k hk => ⟨fun h => h.elim (hB k (hE k hk).1).1 (hE k hk).2, (hB k (hE k hk).1).2⟩) hAll (Holds.anti H ?_ hr)⟩
      rintro k ((hu | hc) | he)
      · exact .inl hu
      · exact .inr (hC k hc)
      · exact .inr (hE k he).1
  exact key L U B hB hA hr

theorem Hp.pack {U : Nat → Prop} {w0 w : World} {L H : List Res} (h : Hp U w0 (L ++ H) w) : Hp U w0 (SepR L :: H) w := by
  obtain ⟨hb, hh⟩ := h
  have key : ∀ (L : List Res) (U : Nat → Prop), Holds (L ++ H) U w → ∃ B, (∀ k, B k → ¬ U k ∧ k < w.heap.size) ∧ All L B w ∧ Holds H (fun k => U k ∨ B k) w := by
    intro L
    induction L with
    | nil => intro U hr; exact ⟨fun _ => False, fun _ h => h.elim, trivial, Holds.anti H (fun k hk => hk.elim id False.elim) hr⟩
    | cons R r ih =>
      rintro U ⟨C, hC, hA, hr⟩
      obtain ⟨E, hE, hAll, hH⟩ := ih _ hr
      refine ⟨fun k => C k ∨ E k, fun k hk => ?_, ⟨C, E, fun k hk => .inl hk, fun k hk => ⟨.inr hk, fun hc => (hE k hk).1 (.inr hc)⟩, hA, hAll⟩, Holds.anti H ?_ hH⟩
      · rcases hk with hk | hk
        · exact hC k hk
        · exact ⟨fun hu => (hE k hk).1 (.inl hu), (hE k hk).2⟩
      · rintro k (hu | hc | he)
        · exact .inl (.inl hu)
        · exact .inl (.inr hc)
        · exact .inr he
  obtain ⟨B, hB, hA, hr⟩ := key L U hh
  exact ⟨hb, B, hB, hA, hr⟩

/-! ### a function that may turn memory of its caller's -/
def cxB (P : Program) (n : Nat) (w : World) (B : Nat → Prop) : Cx := { r := none, P := P, n := n, U := fun k => k < w.heap.size ∧ ¬ B k, w0 := w }

theorem hp_startB (w : World) {B : Nat → Prop} {R : Res} (hB : ∀ k, B k → k < w.heap.size) (hA : R.A B w) : Hp (fun k => k < w.heap.size ∧ ¬ B k) w [R] w :=
  ⟨⟨rfl, rfl, rfl, Nat.le_refl _, fun _ h => h.1, fun _ _ => rfl⟩, B, fun k hk => ⟨fun h => h.2 hk, hB k hk⟩, hA, trivial⟩

theorem calls_of_gkB {P : Program} {f : FuncId} {fn : Func} {code : Code} {n : Nat} {vs : List Value} {w : World} {B : Nat → Prop} {A : Res} {R : Ending → World → Prop}
    (hB : ∀ k, B k → k < w.heap.size) (hA : A.A B w)
    (hf : P.funcs[f]? = some fn) (hb : fn.body = some code) (hn : fn.ntmps = n) (hl : vs.length ≤ n)
    (h : GK (cxB P n w B) [] (KC (cxB P n w B) code (poOf P fn R)) (idx 0 vs) [A]) : Calls P f vs.toArray w R := by
  subst hn
  refine callsIn_wide (n := 0).1 (callsIn_of_wp_marks hf hb trivial ?_)
  refine Go.wpIn_mono (h _ _ (sat_args hl) (hp_startB w hB hA)) ?_
  intro e a w hq
  cases e with
  | normal => exact hq
  | ret => exact hq
  | exit id => exact hq.elim
  | goto l => exact hq.elim
  | panic ch => exact hq.elim
  | outgrown => exact hq.elim

def Turns {X : Type} (V : X → Value) (J : X → Res) (Q : X → Prop) (B : Nat → Prop) (w : World) : Ending → World → Prop :=
  fun e w' => ∃ x B', e = .returned (V x) ∧ Q x ∧ Mod B w w' ∧ Own B B' w w' ∧ (J x).A B' w'

theorem own_of_hp {w w' : World} {B : Nat → Prop} {H : List Res} (h : Hp (fun k => k < w.heap.size ∧ ¬ B k) w H w') {p : Nat} {R : Res} (hp : H[p]? = some R) :
    ∃ B', Mod B w w' ∧ Own B B' w w' ∧ (∀ k, B' k → k < w'.heap.size) ∧ R.A B' w' := by
  obtain ⟨B', hB', hA, _⟩ := Holds.front H p hp h.holds
  refine ⟨B', ⟨h.base.os, h.base.tape, h.base.output, h.base.size, fun k hk hb => h.base.same k ⟨hk, hb⟩⟩, fun k hk => ?_, fun k hk => (hB' k hk).2, hA⟩
  by_cases hb : B k
  · exact .inl hb
  · refine .inr ⟨?_, (hB' k hk).2⟩
    have := (hB' k hk).1
    exact Nat.le_of_not_lt fun hlt => this ⟨hlt, hb⟩

theorem gk_turns {P : Program} {n : Nat} {w0 : World} {B : Nat → Prop} {T : List (Nat × Value)} {H : List Res} {fn : Func} {v : Value} {X : Type} {V : X → Value} {J : X → Res} {Q : X → Prop} (x : X) (i : Nat)
    (hv : RV (cxB P n w0 B) [] T H fn v) (hu : v = V x) (hi : H[i]? = some (J x)) (hq : Q x) :
    GK (cxB P n w0 B) [] (RetP P fn (Turns V J Q B w0)) T H := gk_return hv fun w hw => by
  obtain ⟨B', h1, h2, _, h3⟩ := own_of_hp hw hi
  exact ⟨x, B', by rw [hu], hq, h1, h2, h3⟩

/-- the resource at p is in B; all others lie apart from it -/
structure Foc (c : Cx) (H : List Res) (p : Nat) (R : Res) (B : Nat → Prop) (w : World) : Prop where
  hp : Hp c.U c.w0 H w
  own : ∀ k, B k → ¬ c.U k ∧ k < w.heap.size
  A : R.A B w
  others : Holds (H.eraseIdx p) (fun k => c.U k ∨ B k) w

theorem holds_rd {w : World} {S : Res} : ∀ (H : List Res) (q : Nat) (U B : Nat → Prop), (∀ k, B k → U k) → H[q]? = some S → Holds H U w → Rd (fun k => k < w.heap.size ∧ ¬ B k) w S := fun H q U B hBU hq h => by
  obtain ⟨C, hC, hA, _⟩ := Holds.front H q hq h
  exact ⟨C, fun k hk => ⟨(hC k hk).2, fun hb => (hC k hk).1 (hBU k hb)⟩, hA⟩

theorem Foc.other {c : Cx} {H : List Res} {p : Nat} {R S : Res} {B : Nat → Prop} {w : World} (h : Foc c H p R B w) (q : Nat) (hq : (H.eraseIdx p)[q]? = some S) : Rd (fun k => k < w.heap.size ∧ ¬ B k) w S :=
  holds_rd _ q _ B (fun _ hk => .inr hk) hq h.others

theorem Foc.rd {c : Cx} {H : List Res} {p : Nat} {R S : Res} {B : Nat → Prop} {w : World} (h : Foc c H p R B w) (hS : Rd c.U c.w0 S) : Rd (fun k => k < w.heap.size ∧ ¬ B k) w S := by
  obtain ⟨C, hC, hA⟩ := hS
  exact ⟨C, fun k hk => ⟨Nat.lt_of_lt_of_le (h.hp.base.lt k (hC k hk)) h.hp.base.size, fun hb => (h.own k hb).1 (hC k hk)⟩, S.loc C c.w0 w (fun k hk => h.hp.base.same k (hC k hk)) hA⟩

theorem Hp.foc {c : Cx} {H : List Res} {p : Nat} {R : Res} {w : World} (h : Hp c.U c.w0 H w) (hp : H[p]? = some R) : ∃ B, Foc c H p R B w := by
  obtain ⟨B, hB, hA, hr⟩ := Holds.front H p hp h.holds
  exact ⟨B, h, hB, hA, hr⟩

theorem Foc.upd {c : Cx} {H : List Res} {p : Nat} {R R' : Res} {B B' : Nat → Prop} {w w' : World} (h : Foc c H p R B w) (hp : H[p]? = some R) (hm : Mod B w w') (ho : Own B B' w w') (hA : R'.A B' w') : Hp c.U c.w0 (H.set p R') w' := by
  have h1 : Hp c.U c.w0 (R :: H.eraseIdx p) w := ⟨h.hp.base, B, h.own, h.A, h.others⟩
  have hb : Base c.U c.w0 w' := h.hp.base.mod hm (fun k hk => (h.own k hk).1)
  refine ⟨hb, Holds.back H p hp ⟨B', fun k hk => ?_, hA, ?_⟩⟩
  · rcases ho k hk with hk' | ⟨h1, h2⟩
    · exact ⟨(h.own k hk').1, Nat.lt_of_lt_of_le (h.own k hk').2 hm.size⟩
    · exact ⟨fun hu => by have := h.hp.base.lt k hu; have := h.hp.base.size; omega, h2⟩
  · have key : ∀ (L : List Res) (V : Nat → Prop), (∀ k, B k → V k) → Holds L V w → Holds L (fun k => V k ∨ B' k) w' := by
      intro L
      induction L with
      | nil => intro _ _ _; trivial
      | cons S r ih =>
        rintro V hV ⟨C, hC, hA, hr⟩
        refine ⟨C, fun k hk => ⟨fun hv => ?_, Nat.lt_of_lt_of_le (hC k hk).2 hm.size⟩, S.loc C w w' (fun k hk => hm.same k (hC k hk).2 (fun hb => (hC k hk).1 (hV k hb))) hA, ?_⟩
        · rcases hv with hv | hv
          · exact (hC k hk).1 hv
          · rcases ho k hv with hb | ⟨h1, _⟩
            · exact (hC k hk).1 (hV k hb)
            · have := (hC k hk).2; omega
        · exact Holds.anti r (fun k hk => by rcases hk with (h | h) | h <;> simp [h]) (ih _ (fun k hk => .inl (hV k hk)) hr)
    have := key _ _ (fun k hk => .inr hk) h.others
    exact Holds.anti _ (fun k hk => by rcases hk with h | h <;> simp [h]) this

section
variable {c : Cx} {ds : List Deferred} {p : Post} {T : List (Nat × Value)} {H : List Res} {ops : Array Oper} {rest : List Oper} {d : Nat} {ty : TypeId} {ps : String} {af : Array Edge}

/-- a call that turns the resource at a place -/
theorem gk_callU {X : Type} {V : X → Value} {J : X → Res} {Q : X → Prop} {R : Res} {f : FuncId} (i : Nat) (he : En c.P f) {as : List Operand} {tys : Array TypeId} {vs : List Value} (hn : Nat.blt d c.n = true) (ha : evs T as = some vs) (hi : H[i]? = some R)
    (hc : ∀ w B, Foc c H i R B w → Calls c.P f vs.toArray w (Turns V J Q B w)) (k : ∀ x, Q x → GK c ds (KL c ops p rest) ((d, V x) :: T) (H.set i (J x))) :
    GK c ds (KL c ops p (⟨some d, .call ⟨.value (.func f), as.toArray, tys⟩, ty, ps, af, none⟩ :: rest)) T H := by
  refine gk_gen (X := { x : X // Q x }) (fun x => V x.1) (fun x => H.set i (J x.1)) rfl rfl hn ?_ (fun x => k x.1 x.2)
  intro a w hs hw
  obtain ⟨B, hF⟩ := hw.foc hi
  unfold Yld
  rw [run_call he ha hs w]
  refine (hc w B hF).mono ?_
  rintro e w' ⟨x, B', rfl, hq, hm, ho, hA⟩
  exact ⟨V x, rfl, ⟨x, hq⟩, rfl, hF.upd hi hm ho hA⟩

theorem gk_callVU {X : Type} {V : X → Value} {J : X → Res} {Q : X → Prop} {R : Res} {t : Nat} {f : FuncId} (i : Nat) (he : En c.P f) {fs cap : List Value} (hf : evo T (.tmp t) = some (.func (.func f) fs.toArray cap.toArray)) {as : List Operand} {tys : Array TypeId} {vs : List Value} (hn : Nat.blt d c.n = true)
    (ha : evs T as = some vs) (hi : H[i]? = some R) (hc : ∀ w B, Foc c H i R B w → Calls c.P f (fs ++ vs ++ cap).toArray w (Turns V J Q B w)) (k : ∀ x, Q x → GK c ds (KL c ops p rest) ((d, V x) :: T) (H.set i (J x))) :
    GK c ds (KL c ops p (⟨some d, .call ⟨.value (.tmp t), as.toArray, tys⟩, ty, ps, af, none⟩ :: rest)) T H := by
  refine gk_gen (X := { x : X // Q x }) (fun x => V x.1) (fun x => H.set i (J x.1)) rfl rfl hn ?_ (fun x => k x.1 x.2)
  intro a w hs hw
  obtain ⟨B, hF⟩ := hw.foc hi
  unfold Yld
  rw [run_callV he hf ha hs w]
  have := hc w B hF
  rw [show (fs ++ vs ++ cap).toArray = fs.toArray ++ vs.toArray ++ cap.toArray from by simp] at this
  refine this.mono ?_
  rintro e w' ⟨x, B', rfl, hq, hm, ho, hA⟩
  exact ⟨V x, rfl, ⟨x, hq⟩, rfl, hF.upd hi hm ho hA⟩
end

/-! ### loops over functions -/
/-- what a call of yield does -/
def YieldC (P : Program) (w0 : World) (B0 : Nat → Prop) (l : Nat) (args : List Value) {X : Type} (J : X → Res) (x : X) (post : Bool → X → Prop) : Prop :=
  ∀ w B, Mod B0 w0 w → Own B0 B w0 w → (∀ k, B k → k < w.heap.size) → (J x).A B w →
    YieldAt Fence.wide 0 P l args.toArray w (fun e w' => ∃ b x' B', e = .returned (.bool b) ∧ post b x' ∧ Mod B w w' ∧ Own B B' w w' ∧ (J x').A B' w')

/-- the function f with what it has caught yields xs, one behind the other; M: what it reads -/
def SeqC (P : Program) (f : FuncId) (cap : List Value) (xs : List (List Value)) (M : World → Prop) : Prop :=
  ∀ {X : Type} (J : X → Res) (Rl : Nat → X → Prop) (D : X → Prop) (l : Nat) (w : World) (B : Nat → Prop) (x0 : X), (∀ k, B k → k < w.heap.size) → (J x0).A B w → Rl 0 x0 →
    (∀ x w' B', (J x).A B' w' → Mod B w w' → Own B B' w w' → (∀ k, B' k → k < w'.heap.size) → M w') →
    (∀ i x args, xs[i]? = some args → Rl i x → YieldC P w B l args J x (fun b x' => if b = true then Rl (i + 1) x' else D x')) →
    Calls P f (Value.func (.yield l) #[] #[] :: cap).toArray w (Turns (fun _ => .tuple #[]) J (fun x => Rl xs.length x ∨ D x) B w)

section
variable {c : Cx} {ds : List Deferred} {p : Post} {T : List (Nat × Value)} {H : List Res} {ops : Array Oper} {rest : List Oper} {d : Nat} {ty : TypeId} {ps : String} {af : Array Edge}

/-- a context that lies within an elder one: what is protected there is protected here, and lies as it lay -/
structure Inside (U0 : Nat → Prop) (w0 : World) (c : Cx) : Prop where
  sub : ∀ k, U0 k → c.U k
  base : Base U0 w0 c.w0

theorem Inside.base' {U0 : Nat → Prop} {w0 : World} {c : Cx} {H : List Res} {w : World} (h : Inside U0 w0 c) (hw : Hp c.U c.w0 H w) : Base U0 w0 w :=
  ⟨hw.base.os.trans h.base.os, hw.base.tape.trans h.base.tape, hw.base.output.trans h.base.output, Nat.le_trans h.base.size hw.base.size, h.base.lt,
    fun k hk => (hw.base.same k (h.sub k hk)).trans (h.base.same k hk)⟩
theorem insideB (P : Program) (n : Nat) (w : World) (B : Nat → Prop) : Inside (fun k => k < w.heap.size ∧ ¬ B k) w (cxB P n w B) :=
  ⟨fun _ h => h, ⟨rfl, rfl, rfl, Nat.le_refl _, fun _ h => h.1, fun _ _ => rfl⟩⟩
theorem Inside.rd {U0 : Nat → Prop} {w0 : World} {c : Cx} {S : Res} (h : Inside U0 w0 c) (hS : Rd U0 w0 S) : Rd c.U c.w0 S := by
  obtain ⟨C, hC, hA⟩ := hS
  exact ⟨C, fun k hk => h.sub k (hC k hk), S.loc C w0 c.w0 (fun k hk => h.base.same k (hC k hk)) hA⟩

theorem Inside.foc {w0 : World} {B0 : Nat → Prop} {c : Cx} (hin : Inside (fun k => k < w0.heap.size ∧ ¬ B0 k) w0 c) {H : List Res} {i : Nat} {R : Res} {B : Nat → Prop} {w : World} (hF : Foc c H i R B w) : Mod B0 w0 w ∧ Own B0 B w0 w := by
  have hb := hin.base' hF.hp
  refine ⟨⟨hb.os, hb.tape, hb.output, hb.size, fun k hk hb0 => hb.same k ⟨hk, hb0⟩⟩, fun k hk => ?_⟩
  by_cases hb0 : B0 k
  · exact .inl hb0
  · exact .inr ⟨Nat.le_of_not_lt fun hlt => (hF.own k hk).1 (hin.sub k ⟨hlt, hb0⟩), (hF.own k hk).2⟩

theorem own_of_in {w w' : World} {B : Nat → Prop} {c : Cx} (hin : Inside (fun k => k < w.heap.size ∧ ¬ B k) w c) {H : List Res} {p : Nat} {R : Res} (hp : H[p]? = some R) (h : Hp c.U c.w0 H w') :
    ∃ B', Mod B w w' ∧ Own B B' w w' ∧ (∀ k, B' k → k < w'.heap.size) ∧ R.A B' w' := by
  obtain ⟨B', hF⟩ := h.foc hp
  obtain ⟨h1, h2⟩ := hin.foc hF
  exact ⟨B', h1, h2, fun k hk => (hF.own k hk).2, hF.A⟩

theorem gk_yield {w0 : World} {B0 : Nat → Prop} {X : Type} {J : X → Res} {x : X} {post : Bool → X → Prop} {t l : Nat} (i : Nat) (hin : Inside (fun k => k < w0.heap.size ∧ ¬ B0 k) w0 c) (hf : lk T t = some (.func (.yield l) #[] #[])) {as : List Operand} {tys : Array TypeId} {vs : List Value} (hn : Nat.blt d c.n = true)
    (ha : evs T as = some vs) (hi : H[i]? = some (J x)) (hy : YieldC c.P w0 B0 l vs J x post) (k : ∀ b x', post b x' → GK c ds (KL c ops p rest) ((d, .bool b) :: T) (H.set i (J x'))) :
    GK c ds (KL c ops p (⟨some d, .call ⟨.value (.tmp t), as.toArray, tys⟩, ty, ps, af, none⟩ :: rest)) T H := by
  refine gk_gen (X := { bx : Bool × X // post bx.1 bx.2 }) (fun z => .bool z.1.1) (fun z => H.set i (J z.1.2)) rfl rfl hn ?_ (fun z => k z.1.1 z.1.2 z.2)
  intro a w hs hw
  obtain ⟨B, hF⟩ := hw.foc hi
  obtain ⟨hm, ho⟩ := hin.foc hF
  obtain ⟨fn, tmps, assign, body, hrun, hround⟩ := hy w B hm ho (fun k hk => (hF.own k hk).2) hF.A
  have e1 : as.toArray.map a.eval = vs.toArray := by rw [List.map_toArray, hs.evals ha]
  have hex : (execOp a.eval ⟨some d, .call ⟨.value (.tmp t), as.toArray, tys⟩, ty, ps, af, none⟩).run c.P w = .ok (.round l fn tmps assign body) w := by
    simp only [execOp]
    rw [run_bind_ok (v := ({ target := .fn (.yield l) #[], args := vs.toArray } : Deferred)) (w' := w) (by
      have : a.eval (.tmp t) = _ := hs.eval (x := .tmp t) hf
      simp only [resolve, e1, this, Deferred.ofValue]
      simp [pure])]
    exact hrun
  show Yld c.P _ a w _
  unfold Yld
  rw [hex]
  refine RoundIn.mono hround ?_
  rintro e w' ⟨b, x', B', rfl, hpost, hm', ho', hA'⟩
  exact ⟨_, rfl, ⟨(b, x'), hpost⟩, rfl, hF.upd hi hm' ho' hA'⟩

/-- an operation under a guard, in its turn -/
theorem gk_guard {op : Op} {d : Option Nat} {j dj : Nat} {want b : Bool} {oj : Oper} (hj : ops[j]? = some oj) (hd : oj.dst = some dj) (hv : lk T dj = some (.bool b)) (hn : dstOk d c.n = true)
    (h1 : b = want → GK c ds (KL c ops p (⟨d, op, ty, ps, af, none⟩ :: rest)) T H) (h0 : b = (!want) → GK c ds (KL c ops p rest) (putT d undef T) H) :
    GK c ds (KL c ops p (⟨d, op, ty, ps, af, some (j, want)⟩ :: rest)) T H := by
  intro a w ha hw
  have hy : yielded ops a.tmps j = some b := yielded_some hj hd (ha.val dj _ hv)
  show wpListIn (FW c.r) 0 c.P ops p.Q (_ :: rest) a w
  unfold wpListIn
  by_cases hb : b = want
  · rw [if_pos (by simp [Region.wanted, hy, hb])]
    have := h1 hb a w ha hw
    change wpListIn (FW c.r) 0 c.P ops p.Q (_ :: rest) a w at this
    unfold wpListIn at this
    rwa [if_pos (by simp [Region.wanted])] at this
  · have hb' : b = (!want) := by cases b <;> cases want <;> simp_all
    rw [if_neg (by simp [Region.wanted, hy]; exact hb)]
    exact ⟨fun _ _ => trivial, h0 hb' _ w (ha.putT hn _) hw⟩
theorem gk_guardU {op : Op} {d : Option Nat} {j dj : Nat} {want : Bool} {oj : Oper} (hj : ops[j]? = some oj) (hd : oj.dst = some dj) (hv : lk T dj = some undef) (hn : dstOk d c.n = true)
    (h0 : GK c ds (KL c ops p rest) (putT d undef T) H) : GK c ds (KL c ops p (⟨d, op, ty, ps, af, some (j, want)⟩ :: rest)) T H := by
  intro a w ha hw
  have hy : yielded ops a.tmps j = none := by
    have := ha.val dj _ hv
    simp [yielded, hj, hd, this, undef]
  show wpListIn (FW c.r) 0 c.P ops p.Q (_ :: rest) a w
  unfold wpListIn
  rw [if_neg (by simp [Region.wanted, hy])]
  exact ⟨fun _ _ => trivial, h0 _ w (ha.putT hn _) hw⟩
end

/-! the record of a loop, and the block for its rounds' deferred calls -/
def Rec (l : Nat) (st : LoopState) (pe : Option Code) (fn : FuncId) (tmps : Array Value) (ps : Array Tmp) (assign body : Code) (D : Nat) : Res where
  A B w := (∀ k, B k ↔ k = l) ∧ w.heap[l]? = some (.loop { state := st, pending := pe, fn := fn, tmps := tmps, params := ps, assign := assign, body := body, defers := D })
  loc _ _ _ h hA := ⟨hA.1, (h l ((hA.1 l).2 rfl)).trans hA.2⟩

def Dfr (D : Nat) : Res where
  A B w := (∀ k, B k ↔ k = D) ∧ w.heap[D]? = some (.deferred (some []))
  loc _ _ _ h hA := ⟨hA.1, (h D ((hA.1 D).2 rfl)).trans hA.2⟩

def mark (D : Nat) : Deferred := { target := .collected D, args := #[] }

/-- the round begins -/
def Beg (P : Program) (l : Nat) (K : Act → World → Prop) : Act → World → Prop := fun a w => ∃ w₂, (Instr.beginRound l).run P w = .ok () w₂ ∧ K a w₂

def zipT : List Tmp → List Value → List (Nat × Value) → List (Nat × Value)
  | t :: ts, v :: vs, T => zipT ts vs ((t, v) :: T)
  | _, _, T => T

theorem sat_zip {n : Nat} : ∀ (ts : List Tmp) (vs : List Value) (T : List (Nat × Value)) (tm : Array Value), (∀ t ∈ ts, t < n) → Sat n T [] { tmps := tm, defers := [] } →
    Sat n (zipT ts vs T) [] { tmps := (ts.zip vs).foldl (fun t (p, v) => t.setIfInBounds p v) tm, defers := [] }
  | [], vs, T, tm, _, h => by cases vs <;> exact h
  | t :: ts, [], T, tm, _, h => h
  | t :: ts, v :: vs, T, tm, hn, h => by
    have := sat_zip ts vs ((t, v) :: T) (tm.setIfInBounds t v) (fun s hs => hn s (List.mem_cons_of_mem _ hs)) (h.put (hn t (List.mem_cons_self ..)) v)
    exact this

theorem mod_put {w : World} {l : Nat} {o : Obj} {B : Nat → Prop} (hB : B l) : Mod B w (w.putObj l o) :=
  ⟨rfl, rfl, rfl, Nat.le_of_eq (World.putObj_size).symm, fun _ _ hb => World.putObj_heap_other (fun h => hb (h ▸ hB))⟩

/-- the record turns -/
theorem hp_rec {U : Nat → Prop} {w0 w : World} {H : List Res} {l D : Nat} {st st' : LoopState} {pe pe' : Option Code} {fn : FuncId} {tmps : Array Value} {ps : Array Tmp} {assign body : Code}
    (h : Hp U w0 (SepR [Rec l st pe fn tmps ps assign body D, Dfr D] :: H) w) :
    w.heap[l]? = some (.loop { state := st, pending := pe, fn := fn, tmps := tmps, params := ps, assign := assign, body := body, defers := D }) ∧
    Hp U w0 (SepR [Rec l st' pe' fn tmps ps assign body D, Dfr D] :: H) (w.putObj l (.loop { state := st', pending := pe', fn := fn, tmps := tmps, params := ps, assign := assign, body := body, defers := D })) := by
  have h1 : Hp U w0 (Rec l st pe fn tmps ps assign body D :: Dfr D :: H) w := Hp.split (L := [_, _]) h
  have hl : w.heap[l]? = some (.loop { state := st, pending := pe, fn := fn, tmps := tmps, params := ps, assign := assign, body := body, defers := D }) := by
    obtain ⟨_, B, _, hA, _⟩ := h1
    exact hA.2
  refine ⟨hl, Hp.pack (L := [_, _]) (H := H) ?_⟩
  have := Hp.upd (R' := Rec l st' pe' fn tmps ps assign body D) h1 (p := 0) rfl (w' := w.putObj l (.loop { state := st', pending := pe', fn := fn, tmps := tmps, params := ps, assign := assign, body := body, defers := D })) (fun B hB hA =>
    ⟨B, mod_put ((hA.1 l).2 rfl), fun k hk => .inl hk, hA.1, World.putObj_heap_same (Array.getElem?_eq_some_iff.1 hl).1⟩)
  exact this

/-- the ways out of a round -/
def rndPost (c : Cx) {X : Type} (R : Res) (Hf : X → List Res) (N Dr : X → Prop) (exs : List (Nat × (X → Prop))) : Post where
  nrm := Join c [] (fun _ => []) (fun x => R :: Hf x) N
  ret := Join c [] (fun _ => []) (fun x => R :: Hf x) Dr
  ex := exs.map fun e => (e.1, Join c [] (fun _ => []) (fun x => R :: Hf x) e.2)

theorem lke_map {X : Type} (g : (X → Prop) → (Act → World → Prop)) : ∀ (exs : List (Nat × (X → Prop))) (id : Nat) (K : Act → World → Prop), lke (exs.map fun e => (e.1, g e.2)) id = some K → ∃ Q, (id, Q) ∈ exs ∧ K = g Q
  | [], _, _, h => by simp [lke] at h
  | (k, Q) :: r, id, K, h => by
    simp only [List.map_cons, lke] at h
    cases hb : Nat.beq k id with
    | true =>
      rw [hb] at h
      simp only [cond_true, Option.some.injEq] at h
      have := Nat.eq_of_beq_eq_true hb
      subst this
      exact ⟨Q, List.mem_cons_self .., h.symm⟩
    | false =>
      rw [hb] at h
      obtain ⟨Q', h1, h2⟩ := lke_map g r id K h
      exact ⟨Q', List.mem_cons_of_mem _ h1, h2⟩

theorem gk_rangeFunc {c : Cx} {ds : List Deferred} {p : Post} {T : List (Nat × Value)} {H : List Res} {g : Operand} {ps : List Tmp} {assign body : Code} {f : FuncId} {cap : List Value} {xs : List (List Value)} {M : World → Prop} {X : Type}
    (Hf : X → List Res) (Rl : Nat → X → Prop) (Dr : X → Prop) (exs : List (Nat × (X → Prop))) (x0 : X)
    (hr : c.r = none) (he : En c.P f) (hg : evo T g = some (.func (.func f) #[] cap.toArray)) (hH : Hf x0 = H) (h0 : Rl 0 x0)
    (hseq : SeqC c.P f cap xs M) (hM : ∀ x w, Hp c.U c.w0 (Hf x) w → M w) (hps : ∀ a ∈ xs, a.length = ps.length) (hpn' : ps.all (fun t => Nat.blt t c.n) = true)
    (hbody : ∀ (R1 R2 : Res) (l : Nat) (U' : Nat → Prop) (w' : World) (i : Nat) (x : X) (args : List Value), xs[i]? = some args → Rl i x →
      (∀ S, Rd c.U c.w0 S → Rd U' w' S) → Inside c.U c.w0 ⟨some l, c.P, c.n, U', w'⟩ → (∀ T' H' K, GK ⟨some l, c.P, c.n, U', w'⟩ [] K T' (R2 :: H') → GK ⟨some l, c.P, c.n, U', w'⟩ [] (Beg c.P l K) T' (R1 :: H')) →
      GK ⟨some l, c.P, c.n, U', w'⟩ [] (KC ⟨some l, c.P, c.n, U', w'⟩ assign { nrm := Beg c.P l (KC ⟨some l, c.P, c.n, U', w'⟩ body (rndPost ⟨some l, c.P, c.n, U', w'⟩ R2 Hf (Rl (i + 1)) Dr exs)), ret := fun _ _ => False, ex := [] }) (zipT ps args T) (R1 :: Hf x))
    (hnext : ∀ D x, Rl xs.length x → GK c (mark D :: ds) p.nrm T (Dfr D :: Hf x))
    (hret : ∀ D x, Dr x → GK c (mark D :: ds) p.ret T (Dfr D :: Hf x))
    (hex : ∀ D x id Q, (id, Q) ∈ exs → Q x → ∃ K, lke p.ex id = some K ∧ GK c (mark D :: ds) K T (Dfr D :: Hf x)) :
    GK c ds (KC c (.rangeFunc g ps.toArray assign body) p) T H := by
  subst hH
  have hpn : ∀ t ∈ ps, t < c.n := fun t ht => Nat.le_of_ble_eq_true (List.all_eq_true.1 hpn' t ht)
  intro a w ha hw
  show (Code.rangeFunc g ps.toArray assign body).wpIn (FW c.r) 0 c.P p.Q a w
  rw [hr]
  refine wpIn_rangeFunc ?_
  intro fn hfn
  let D := w.heap.size
  let l := w.heap.size + 1
  let rec_ : LoopState → Option Code → Res := fun st pe => SepR [Rec l st pe fn a.tmps ps.toArray assign body D, Dfr D]
  obtain ⟨W1, hW1⟩ : ∃ W1, W1 = (w.alloc (.deferred (some []))).alloc (.loop { state := .ready, pending := none, fn := fn, tmps := a.tmps, params := ps.toArray, assign := assign, body := body, defers := D }) := ⟨_, rfl⟩
  have hdef : Hp c.U c.w0 (Dfr D :: Hf x0) (w.alloc (.deferred (some []))) :=
    hw.new (ext_alloc _) (B := fun k => k = D) (fun k hk => by subst hk; exact ⟨Nat.le_refl _, by simp [D]⟩) ⟨fun _ => Iff.rfl, World.alloc_heap_new w _⟩
  have hrec : Hp c.U c.w0 (Rec l .ready none fn a.tmps ps.toArray assign body D :: Dfr D :: Hf x0) W1 := by
    rw [hW1]
    refine hdef.new (ext_alloc _) (B := fun k => k = l) (fun k hk => by subst hk; exact ⟨by simp [l], by simp [l]⟩) ⟨fun _ => Iff.rfl, ?_⟩
    have := World.alloc_heap_new (w.alloc (.deferred (some []))) (.loop { state := .ready, pending := none, fn := fn, tmps := a.tmps, params := ps.toArray, assign := assign, body := body, defers := D })
    rwa [World.size_alloc] at this
  have hst : Hp c.U c.w0 (rec_ .ready none :: Hf x0) W1 := Hp.pack (L := [_, _]) hrec
  let J : X × LoopState × Option Code → Res := fun z => SepR (rec_ z.2.1 z.2.2 :: Hf z.1)
  have hJ : ∃ B, (∀ k, B k → ¬ c.U k ∧ k < W1.heap.size) ∧ (J (x0, .ready, none)).A B W1 := all_of_holds _ _ hst.holds
  obtain ⟨B, hB, hA⟩ := hJ
  have hcalls := hseq J (fun i z => z.2.1 = .ready ∧ z.2.2 = none ∧ Rl i z.1)
    (fun z => z.2.1 = .done ∧ ((z.2.2 = some .ret ∧ Dr z.1) ∨ ∃ id Q, z.2.2 = some (.exit id) ∧ (id, Q) ∈ exs ∧ Q z.1))
    l W1 B (x0, .ready, none) (fun k hk => (hB k hk).2) hA ⟨rfl, rfl, h0⟩ ?mem ?rounds
  case mem =>
    intro z w' B' hA' hm ho hlt
    have : Hp c.U c.w0 (rec_ z.2.1 z.2.2 :: Hf z.1) w' := ⟨hst.base.mod hm (fun k hk => (hB k hk).1), holds_of_all _ _ B' (fun k hk => ⟨fun hu => by
      rcases ho k hk with hb | ⟨h1, _⟩
      · exact (hB k hb).1 hu
      · have := hst.base.lt k hu; have := hst.base.size; omega, hlt k hk⟩) hA'⟩
    exact hM z.1 w' this.drop
  case rounds =>
    rintro i ⟨x, st, pe⟩ args hargs ⟨hst1, hst2, hR⟩
    simp only at hst1 hst2 hR
    subst hst1; subst hst2
    intro w' B' hm ho hlt hA'
    have hp1 : Hp (fun k => k < w'.heap.size ∧ ¬ B' k) w' (rec_ .ready none :: Hf x) w' :=
      ⟨⟨rfl, rfl, rfl, Nat.le_refl _, fun _ h => h.1, fun _ _ => rfl⟩, holds_of_all _ _ B' (fun k hk => ⟨fun h => h.2 hk, hlt k hk⟩) hA'⟩
    have hl := (hp_rec (st' := .ready) (pe' := none) hp1).1
    have hy := run_yield (P := c.P) (args := args.toArray) hl (by simp [hps args (List.mem_of_getElem? hargs)])
    refine ⟨_, _, _, _, hy, roundIn_of_wpIn trivial ?_⟩
    have hb := hbody (rec_ .ready none) (rec_ .busy none) l (fun k => k < w'.heap.size ∧ ¬ B' k) w' i x args hargs hR ?rd ?ins ?beg
    case ins =>
      have hb' : Base c.U c.w0 w' := hst.base.mod hm (fun k hk => (hB k hk).1)
      refine ⟨fun k hk => ⟨Nat.lt_of_lt_of_le (hb'.lt k hk) hb'.size, fun hbk => ?_⟩, hb'⟩
      rcases ho k hbk with hb2 | ⟨h1, _⟩
      · exact (hB k hb2).1 hk
      · have := hst.base.lt k hk; have := hst.base.size; omega
    case rd =>
      rintro S ⟨C, hC, hS⟩
      have hb' : Base c.U c.w0 w' := hst.base.mod hm (fun k hk => (hB k hk).1)
      refine ⟨C, fun k hk => ⟨Nat.lt_of_lt_of_le (hb'.lt k (hC k hk)) hb'.size, fun hbk => ?_⟩, S.loc C c.w0 w' (fun k hk => hb'.same k (hC k hk)) hS⟩
      rcases ho k hbk with hb2 | ⟨h1, _⟩
      · exact (hB k hb2).1 (hC k hk)
      · have := hst.base.lt k (hC k hk); have := hst.base.size; omega
    case beg =>
      intro T' H' K hK a1 w1 ha1 hw1
      obtain ⟨hl1, hw2⟩ := hp_rec (st' := .busy) (pe' := none) hw1
      exact ⟨_, run_beginRound hl1 rfl, hK a1 _ ha1 hw2⟩
    have hs := sat_zip ps args T a.tmps hpn (Sat.mk ha.size ha.val rfl)
    have hwalk := hb _ w' hs hp1
    have harr : ((ps.toArray.zip args.toArray).foldl (fun tmps (t, a) => tmps.setIfInBounds t a) a.tmps) = (ps.zip args).foldl (fun t (p, v) => t.setIfInBounds p v) a.tmps := by
      rw [List.zip_toArray, List.foldl_toArray]
    rw [harr]
    refine Go.wpIn_mono hwalk ?_
    intro e a1 w1 hq
    cases e with
    | normal =>
      obtain ⟨w2, hbr, hwb⟩ := hq
      refine ⟨w2, hbr, Go.wpIn_mono hwb ?_⟩
      intro e a2 w2 hq2
      have fin : ∀ (x' : X) (j : Option Code), Hp (fun k => k < w'.heap.size ∧ ¬ B' k) w' (rec_ .busy none :: Hf x') w2 → ∃ w4, (Instr.endRound l j).run c.P w2 = .ok (.bool j.isNone) w4 ∧
          ∃ B'', Mod B' w' w4 ∧ Own B' B'' w' w4 ∧ (J (x', (if j.isNone then .ready else .done), j)).A B'' w4 := by
        intro x' j hw2
        obtain ⟨hl2, hw4⟩ := hp_rec (st' := if j.isNone then .ready else .done) (pe' := j) hw2
        refine ⟨_, run_endRound j hl2, ?_⟩
        obtain ⟨B'', hB'', hA''⟩ := all_of_holds _ _ hw4.holds
        refine ⟨B'', ⟨hw4.base.os, hw4.base.tape, hw4.base.output, hw4.base.size, fun k hk hb => hw4.base.same k ⟨hk, hb⟩⟩, fun k hk => ?_, hA''⟩
        by_cases hbk : B' k
        · exact .inl hbk
        · exact .inr ⟨Nat.le_of_not_lt fun hlt => (hB'' k hk).1 ⟨hlt, hbk⟩, (hB'' k hk).2⟩
      cases e with
      | normal =>
        obtain ⟨x', _, hw3, hN⟩ := hq2
        obtain ⟨w4, hend, B'', hm4, ho4, hA4⟩ := fin x' none hw3
        exact ⟨_, w4, hend, true, (x', .ready, none), B'', rfl, (if_pos rfl).mpr ⟨rfl, rfl, hN⟩, hm4, ho4, hA4⟩
      | ret =>
        obtain ⟨x', _, hw3, hD⟩ := hq2
        obtain ⟨w4, hend, B'', hm4, ho4, hA4⟩ := fin x' (some .ret) hw3
        exact ⟨_, w4, hend, false, (x', .done, some .ret), B'', rfl, (if_neg Bool.false_ne_true).mpr ⟨rfl, .inl ⟨rfl, hD⟩⟩, hm4, ho4, hA4⟩
      | exit id =>
        change (match lke (exs.map fun e => (e.1, Join _ [] (fun _ => []) (fun x => rec_ .busy none :: Hf x) e.2)) id with | some K => K a2 w2 | none => False) at hq2
        cases hk : lke (exs.map fun e => (e.1, Join _ [] (fun _ => []) (fun x => rec_ .busy none :: Hf x) e.2)) id with
        | none => rw [hk] at hq2; exact hq2.elim
        | some K =>
          rw [hk] at hq2
          obtain ⟨Q, hmem, rfl⟩ := lke_map (fun Q => Join _ [] (fun _ => []) (fun x => rec_ .busy none :: Hf x) Q) exs id K hk
          obtain ⟨x', _, hw3, hD⟩ := hq2
          obtain ⟨w4, hend, B'', hm4, ho4, hA4⟩ := fin x' (some (.exit id)) hw3
          exact ⟨_, w4, hend, false, (x', .done, some (.exit id)), B'', rfl, (if_neg Bool.false_ne_true).mpr ⟨rfl, .inr ⟨id, Q, rfl, hmem, hD⟩⟩, hm4, ho4, hA4⟩
      | goto t => exact hq2.elim
      | panic ch => exact hq2.elim
      | outgrown => exact hq2.elim
    | ret => exact hq.elim
    | exit id => exact hq.elim
    | goto t => exact hq.elim
    | panic ch => exact hq.elim
    | outgrown => exact hq.elim
  refine ⟨l, [mark D], W1, { target := .fn (.func f) cap.toArray, args := #[.func (.yield l) #[] #[]] }, W1, f, #[.func (.yield l) #[] #[]] ++ cap.toArray, W1, ?_, ?_, fun _ _ => trivial, ?_, fun h => by simp [FW] at h, ?_⟩
  · rw [hW1]; exact run_enterLoop_outer _ _ _ _ _
  · simp only [resolve, ha.eval hg, Deferred.ofValue]
    simp [pure, Act.eval]
  · exact he _ W1
  · refine callsIn_FW.2 ?_
    have e2 : (#[Value.func (.yield l) #[] #[]] ++ cap.toArray : Array Value) = (Value.func (.yield l) #[] #[] :: cap).toArray := by simp
    rw [e2]
    refine hcalls.mono ?_
    rintro e w3 ⟨⟨x', st, pe⟩, B', rfl, hQ, hm, ho, hA'⟩
    have hlt' : ∀ k, B' k → k < w3.heap.size := fun k hk => by
      rcases ho k hk with hb | ⟨_, h2⟩
      · exact Nat.lt_of_lt_of_le (hB k hb).2 hm.size
      · exact h2
    have hw3 : Hp c.U c.w0 (rec_ st pe :: Hf x') w3 := ⟨hst.base.mod hm (fun k hk => (hB k hk).1), holds_of_all _ _ B' (fun k hk => ⟨fun hu => by
      rcases ho k hk with hb | ⟨h1, _⟩
      · exact (hB k hb).1 hu
      · have := hst.base.lt k hu; have := hst.base.size; omega, hlt' k hk⟩) hA'⟩
    obtain ⟨hl3, hw4⟩ := hp_rec (st' := .exhausted) (pe' := pe) hw3
    have hnb : st ≠ .busy := by rcases hQ with ⟨h, _⟩ | ⟨h, _⟩ <;> (simp only at h; subst h; decide)
    refine ⟨pe, _, run_endLoop hl3 hnb, ?_⟩
    have hw5 : Hp c.U c.w0 (Dfr D :: Hf x') _ := (Hp.split (L := [_, _]) hw4).drop
    have ha5 : Sat c.n T (mark D :: ds) { a with defers := [mark D] ++ a.defers } := ⟨ha.size, ha.val, by simp [ha.defers]⟩
    rcases hQ with ⟨_, h2, h3⟩ | ⟨_, ⟨h2, h3⟩ | ⟨id, Q, h2, h3, h4⟩⟩
    · simp only at h2 h3; subst h2
      exact hnext D x' h3 _ _ ha5 hw5
    · simp only at h2 h3; subst h2
      exact wpIn_ret (hret D x' h3 _ _ ha5 hw5)
    · simp only at h2 h4; subst h2
      obtain ⟨K, hk, hG⟩ := hex D x' id Q h3 h4
      exact wpIn_exit (by show (match lke p.ex id with | some K => K _ _ | none => False); rw [hk]; exact hG _ _ ha5 hw5)

/-- leaving a function, past the mark of a loop -/
theorem gk_unmark {c : Cx} {ds : List Deferred} {T : List (Nat × Value)} {H : List Res} {fn : Func} {R : Ending → World → Prop} {D : Nat} (i : Nat) (hi : H[i]? = some (Dfr D)) (h : GK c ds (RetP c.P fn R) T (H.eraseIdx i)) : GK c (mark D :: ds) (RetP c.P fn R) T H := by
  intro a w ha hw
  have hw1 : Hp c.U c.w0 (Dfr D :: H.eraseIdx i) w := ⟨hw.base, Holds.front H i hi hw.holds⟩
  have hD : w.heap[D]? = some (.deferred (some [])) := by obtain ⟨_, B, _, hA, _⟩ := hw1; exact hA.2
  have hw2 : Hp c.U c.w0 (SepR [] :: H.eraseIdx i) (w.putObj D (.deferred none)) :=
    Hp.upd (R' := SepR []) hw1 (p := 0) rfl (fun B hB hA => ⟨fun _ => False, mod_put ((hA.1 D).2 rfl), fun _ h => h.elim, trivial⟩)
  have h2 := h { a with defers := ds } _ ⟨ha.size, ha.val, rfl⟩ hw2.drop
  show LeavesInM Fence.wide 0 c.P fn a.tmps R a.defers .returning w
  rw [ha.defers]
  exact ⟨by simp, .inl ⟨D, _, rfl, run_takeDeferred hD, h2⟩⟩
end Go.K
