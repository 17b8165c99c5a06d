/- A layer for walks, second text: the judgements and the rules for the forms of code. No statement of the seat is proved in this text. -/
import Derived.Test.YtahahmelnaphjaaDoorK1
namespace Go.K
open Go Go.RowKit

def FW (r : Option Nat) : Fence := { fn := fun _ => True, depth := none, alive := false, round := r }

theorem callsIn_FW {r : Option Nat} {n : Nat} {P : Program} {f : FuncId} {args : Array Value} {w : World} {R : Ending → World → Prop} :
    CallsIn (FW r) n P f args w R ↔ Calls P f args w R := by
  show CallsIn Fence.wide n P f args w R ↔ _
  exact callsIn_wide

structure Cx where
  r : Option Nat
  P : Program
  n : Nat
  U : Nat → Prop
  w0 : World

structure Post where
  nrm : Act → World → Prop
  ret : Act → World → Prop
  ex : List (Nat × (Act → World → Prop))

def lke : List (Nat × (Act → World → Prop)) → Nat → Option (Act → World → Prop)
  | [], _ => none
  | (k, v) :: r, t => bif Nat.beq k t then some v else lke r t

def Post.Q (p : Post) : Exit → Act → World → Prop
  | .normal, a, w => p.nrm a w
  | .ret, a, w => p.ret a w
  | .exit id, a, w => match lke p.ex id with
    | some K => K a w
    | none => False
  | .goto _, _, _ => False
  | .panic _, _, _ => False
  | .outgrown, _, _ => False

def KC (c : Cx) (code : Code) (p : Post) : Act → World → Prop := fun a w => code.wpIn (FW c.r) 0 c.P p.Q a w
def KL (c : Cx) (ops : Array Oper) (p : Post) (rest : List Oper) : Act → World → Prop := fun a w => wpListIn (FW c.r) 0 c.P ops p.Q rest a w
def GK (c : Cx) (ds : List Deferred) (K : Act → World → Prop) (T : List (Nat × Value)) (H : List Res) : Prop :=
  ∀ a w, Sat c.n T ds a → Hp c.U c.w0 H w → K a w

section
variable {c : Cx} {ds : List Deferred} {p : Post} {T T' : List (Nat × Value)} {H H' : List Res} {K : Act → World → Prop}

theorem gk_sub (hs : sub T' T) (h : GK c ds K T' H) : GK c ds K T H := fun a w ha hw => h a w (ha.mono hs) hw
theorem gk_drop {R : Res} (h : GK c ds K T H) : GK c ds K T (R :: H) := fun a w ha hw => h a w ha hw.drop
theorem gk_swap {R S : Res} (h : GK c ds K T (S :: R :: H)) : GK c ds K T (R :: S :: H) := fun a w ha hw => h a w ha hw.swap
/-- the resource at a place comes to the front -/
theorem gk_front {R : Res} (i : Nat) (hR : H[i]? = some R) (h : GK c ds K T (R :: H.eraseIdx i)) : GK c ds K T H := fun a w ha hw => h a w ha ⟨hw.base, Holds.front H i hR hw.holds⟩
theorem gk_dropAt (i : Nat) {R : Res} (hR : H[i]? = some R) (h : GK c ds K T (H.eraseIdx i)) : GK c ds K T H := gk_front i hR (gk_drop h)

/-- what holds in the world at hand -/
theorem gk_with {X : Prop} (hx : ∀ w, Hp c.U c.w0 H w → X) (h : X → GK c ds K T H) : GK c ds K T H := fun a w ha hw => h (hx w hw) a w ha hw

theorem gk_seq {x y : Code} (h : GK c ds (KC c x { nrm := KC c y p, ret := p.ret, ex := p.ex }) T H) : GK c ds (KC c (.seq x y) p) T H := by
  intro a w ha hw
  refine wpIn_seq (Go.wpIn_mono (h a w ha hw) ?_)
  intro e a w hq
  cases e <;> first | exact hq | exact hq.elim

theorem gk_region {id : Nat} {l : List Oper} (h : GK c ds (KL c l.toArray p l) T H) : GK c ds (KC c (.region id l.toArray false) p) T H :=
  fun a w ha hw => wpIn_region_lit (h a w ha hw)

theorem gk_nil {ops : Array Oper} (h : GK c ds p.nrm T H) : GK c ds (KL c ops p []) T H := fun a w ha hw => h a w ha hw

theorem gk_skip (h : GK c ds p.nrm T H) : GK c ds (KC c .skip p) T H := fun a w ha hw => wpIn_skip (h a w ha hw)
theorem gk_ret (h : GK c ds p.ret T H) : GK c ds (KC c .ret p) T H := fun a w ha hw => wpIn_ret (h a w ha hw)

theorem gk_exit {id : Nat} (hk : lke p.ex id = some K) (h : GK c ds K T H) : GK c ds (KC c (.exit id) p) T H :=
  fun a w ha hw => wpIn_exit (by show (match lke p.ex id with | some K => K a w | none => False); rw [hk]; exact h a w ha hw)

theorem gk_block {id : Nat} {body : Code} (h : GK c ds (KC c body { nrm := p.nrm, ret := p.ret, ex := (id, p.nrm) :: p.ex }) T H) : GK c ds (KC c (.block id body) p) T H := by
  intro a w ha hw
  refine wpIn_block (Go.wpIn_mono (h a w ha hw) ?_)
  intro e a w hq
  cases e with
  | exit id' =>
    show (if id' = id then p.Q .normal a w else p.Q (.exit id') a w)
    change (match lke ((id, p.nrm) :: p.ex) id' with | some K => K a w | none => False) at hq
    by_cases he : id' = id
    · subst he
      rw [if_pos rfl]
      have : lke ((id', p.nrm) :: p.ex) id' = some p.nrm := by show (bif Nat.beq id' id' then _ else _) = _; rw [Nat.beq_refl]; rfl
      rw [this] at hq
      exact hq
    · rw [if_neg he]
      have : lke ((id, p.nrm) :: p.ex) id' = lke p.ex id' := by
        show (bif Nat.beq id id' then _ else _) = _
        have hb : Nat.beq id id' = false := by
          cases hb : Nat.beq id id' with
          | false => rfl
          | true => exact absurd (Nat.eq_of_beq_eq_true hb).symm he
        rw [hb]; rfl
      rw [this] at hq
      exact hq
  | normal => exact hq
  | ret => exact hq
  | goto l => exact hq.elim
  | panic ch => exact hq.elim
  | outgrown => exact hq.elim

theorem gk_cond {x : Operand} {A B : Code} {b : Bool} (hx : evo T x = some (.bool b)) (h1 : b = true → GK c ds (KC c A p) T H) (h2 : b = false → GK c ds (KC c B p) T H) :
    GK c ds (KC c (.cond x A B) p) T H := fun a w ha hw =>
  wpIn_cond_split (ha.eval hx) (fun hb => h1 hb a w ha hw) (fun hb => h2 hb a w ha hw)
theorem gk_condT {x : Operand} {A B : Code} (hx : evo T x = some (.bool true)) (h1 : GK c ds (KC c A p) T H) : GK c ds (KC c (.cond x A B) p) T H := fun a w ha hw => wpIn_cond_true (ha.eval hx) (h1 a w ha hw)
theorem gk_condF {x : Operand} {A B : Code} (hx : evo T x = some (.bool false)) (h1 : GK c ds (KC c B p) T H) : GK c ds (KC c (.cond x A B) p) T H := fun a w ha hw => wpIn_cond_false (ha.eval hx) (h1 a w ha hw)

/-- some state of a family holds, and goes down -/
def Nxt (c : Cx) (ds : List Deferred) {X : Type} (Tf : X → List (Nat × Value)) (Hf : X → List Res) (I : X → Prop) (μ : X → Nat) (m : Nat) : Act → World → Prop :=
  fun a w => ∃ x', Sat c.n (Tf x') ds a ∧ Hp c.U c.w0 (Hf x') w ∧ I x' ∧ μ x' < m
def Join (c : Cx) (ds : List Deferred) {X : Type} (Tf : X → List (Nat × Value)) (Hf : X → List Res) (I : X → Prop) : Act → World → Prop :=
  fun a w => ∃ x', Sat c.n (Tf x') ds a ∧ Hp c.U c.w0 (Hf x') w ∧ I x'

theorem gk_next {X : Type} {Tf : X → List (Nat × Value)} {Hf : X → List Res} {I : X → Prop} {μ : X → Nat} {m : Nat} (x' : X) (hT : sub (Tf x') T) (hH : Hf x' = H) (hI : I x') (hm : μ x' < m) :
    GK c ds (Nxt c ds Tf Hf I μ m) T H := fun _ _ ha hw => ⟨x', ha.mono hT, hH ▸ hw, hI, hm⟩
theorem gk_joined {X : Type} {Tf : X → List (Nat × Value)} {Hf : X → List Res} {I : X → Prop} (x' : X) (hT : sub (Tf x') T) (hH : Hf x' = H) (hI : I x') :
    GK c ds (Join c ds Tf Hf I) T H := fun _ _ ha hw => ⟨x', ha.mono hT, hH ▸ hw, hI⟩

theorem gk_loop {body : Code} {X : Type} (Tf : X → List (Nat × Value)) (Hf : X → List Res) (I : X → Prop) (μ : X → Nat) (x0 : X) (hT : sub (Tf x0) T) (hH : Hf x0 = H) (hI : I x0)
    (round : ∀ x, I x → GK c ds (KC c body { nrm := Nxt c ds Tf Hf I μ (μ x), ret := p.ret, ex := p.ex }) (Tf x) (Hf x)) : GK c ds (KC c (.loop body) p) T H := by
  subst hH
  intro a w ha hw
  -- the rounds are counted down by a number that the state bears
  have key : ∀ (m : Nat) (x : X), μ x = m → I x → ∀ a w, Sat c.n (Tf x) ds a → Hp c.U c.w0 (Hf x) w →
      ∀ (b : Frame) (k : List Item) (cs : List Frame), b.roundOf = (FW c.r).round → (FW c.r).fn b.fn → (FW c.r).room (cs.length + 1 + 0) →
      ∃ e a' w', p.Q e a' w' ∧ ArrivesIn (Machine.fenced c.P (FW c.r)) c.P (lone (b.atR a (.code body :: .inLoop body :: k)) cs w) b k cs e a' w' := by
    intro m
    induction m using Nat.strongRecOn with
    | _ m ih =>
      intro x hm hI a w ha hw b k cs hro hb hr
      obtain ⟨e, a₁, w₁, hq, harr⟩ := round x hI a w ha hw b (.inLoop body :: k) cs hro hb hr
      cases e with
      | normal =>
        obtain ⟨x', ha', hw', hI', hlt⟩ := hq
        obtain ⟨e₂, a₂, w₂, hq₂, harr₂⟩ := ih (μ x') (hm ▸ hlt) x' rfl hI' a₁ w₁ ha' hw' b k cs hro hb hr
        exact ⟨e₂, a₂, w₂, hq₂, .of_steps (StepsIn.trans harr (.one (fenced_calm hb hr rfl) stepR_inLoop)) harr₂⟩
      | exit id => exact ⟨.exit id, a₁, w₁, hq, .pass (x := .inLoop body) rfl (fun _ _ => .inl (by simp)) harr⟩
      | ret => exact ⟨.ret, a₁, w₁, hq, .pass (x := .inLoop body) rfl (fun _ _ => .inl (by simp)) harr⟩
      | goto l => exact hq.elim
      | panic ch => exact hq.elim
      | outgrown => exact hq.elim
  intro b k cs hro hb hr
  obtain ⟨e, a', w', hq, harr⟩ := key _ x0 rfl hI a w (ha.mono hT) hw b k cs hro hb hr
  exact ⟨e, a', w', hq, .of_steps (.one (fenced_calm hb hr rfl) stepR_loop) harr⟩

/-- ways that meet again -/
theorem gk_join {x y : Code} {X : Type} (Tf : X → List (Nat × Value)) (Hf : X → List Res) (I : X → Prop)
    (h1 : GK c ds (KC c x { nrm := Join c ds Tf Hf I, ret := p.ret, ex := p.ex }) T H)
    (h2 : ∀ x, I x → GK c ds (KC c y p) (Tf x) (Hf x)) : GK c ds (KC c (.seq x y) p) T H := by
  refine gk_seq ?_
  intro a w ha hw
  refine Go.wpIn_mono (h1 a w ha hw) ?_
  intro e a w hq
  cases e with
  | normal =>
    obtain ⟨x', ha', hw', hI⟩ := hq
    exact h2 x' hI a w ha' hw'
  | exit id => exact hq
  | ret => exact hq
  | goto l => exact hq.elim
  | panic ch => exact hq.elim
  | outgrown => exact hq.elim
end

/-! ### functions -/
def idx : Nat → List Value → List (Nat × Value)
  | _, [] => []
  | i, v :: r => (i, v) :: idx (i + 1) r

theorem lk_idx : ∀ (l : List Value) (i t : Nat) (v : Value), lk (idx i l) t = some v → i ≤ t ∧ l[t - i]? = some v
  | [], _, _, _, h => by simp [idx, lk] at h
  | u :: r, i, t, v, h => by
    by_cases hit : i = t
    · subst hit
      rw [idx, lk_cons_self] at h
      simp at h
      subst h
      simp
    · rw [idx, lk_cons_ne hit] at h
      obtain ⟨h1, h2⟩ := lk_idx r (i + 1) t v h
      refine ⟨by omega, ?_⟩
      have : t - i = (t - (i + 1)) + 1 := by omega
      rw [this]
      simpa using h2

theorem sat_args {n : Nat} {vs : List Value} (hn : vs.length ≤ n) : Sat n (idx 0 vs) [] { tmps := vs.toArray ++ Array.replicate (n - vs.toArray.size) undef, defers := [] } := by
  refine ⟨by simp; omega, fun t v h => ?_, rfl⟩
  obtain ⟨_, h2⟩ := lk_idx vs 0 t v h
  simp only [Nat.sub_zero] at h2
  have hlt : t < vs.length := (List.getElem?_eq_some_iff.1 h2).1
  rw [Array.getElem?_append_left (by simpa using hlt)]
  simpa using h2

def RetP (P : Program) (fn : Func) (R : Ending → World → Prop) : Act → World → Prop := fun a w => LeavesInM Fence.wide 0 P fn a.tmps R a.defers .returning w

def cxOf (P : Program) (n : Nat) (w : World) : Cx := { r := none, P := P, n := n, U := fun k => k < w.heap.size, w0 := w }
def poOf (P : Program) (fn : Func) (R : Ending → World → Prop) : Post := { nrm := RetP P fn R, ret := RetP P fn R, ex := [] }

theorem hp_start (w : World) : Hp (fun k => k < w.heap.size) w [] w := ⟨⟨rfl, rfl, rfl, Nat.le_refl _, fun _ h => h, fun _ _ => rfl⟩, trivial⟩

theorem calls_of_gk {P : Program} {f : FuncId} {fn : Func} {code : Code} {n : Nat} {vs : List Value} {w : World} {R : Ending → World → Prop}
    (hf : P.funcs[f]? = some fn) (hb : fn.body = some code) (hn : fn.ntmps = n) (hl : vs.length ≤ n)
    (h : GK (cxOf P n w) [] (KC (cxOf P n w) code (poOf P fn R)) (idx 0 vs) []) : Calls P f vs.toArray w R := by
  subst hn
  refine callsIn_wide (n := 0).1 (callsIn_of_wp_marks hf hb trivial ?_)
  refine Go.wpIn_mono (h _ _ (sat_args hl) (hp_start w)) ?_
  intro e a w hq
  cases e with
  | normal => exact hq
  | ret => exact hq
  | exit id => exact hq.elim
  | goto l => exact hq.elim
  | panic ch => exact hq.elim
  | outgrown => exact hq.elim

/-- what the results are -/
def RV (c : Cx) (ds : List Deferred) (T : List (Nat × Value)) (H : List Res) (fn : Func) (v : Value) : Prop :=
  ∀ a w, Sat c.n T ds a → Hp c.U c.w0 H w → (results fn a.tmps).run c.P w = .ok v w

theorem gk_return {c : Cx} {T : List (Nat × Value)} {H : List Res} {fn : Func} {R : Ending → World → Prop} {v : Value} (hv : RV c [] T H fn v)
    (h : ∀ w, Hp c.U c.w0 H w → R (.returned v) w) : GK c [] (RetP c.P fn R) T H := by
  intro a w ha hw
  show LeavesInM Fence.wide 0 c.P fn a.tmps R a.defers .returning w
  rw [ha.defers]
  exact ⟨v, hv a w ha hw, h w hw⟩

/-! ### one operation -/
def isDef (o : Oper) : Bool := match o.op with
  | .defer _ => true
  | _ => false

/-- what one operation leaves -/
def Yld (P : Program) (o : Oper) (a : Act) (w : World) (R : Value → World → Prop) : Prop :=
  match (execOp a.eval o).run P w with
  | .ok (.value v) w' => R v w'
  | .ok .skip w' => R undef w'
  | .ok (.enter f args) w' => Calls P f args w' (fun e w'' => ∃ v, e = .returned v ∧ R v w'')
  | .ok (.round l f tmps assign body) w' => RoundIn Fence.wide 0 P l f tmps assign body w' (fun e w'' => ∃ v, e = .returned v ∧ R v w'')
  | _ => False

theorem Yld.mono {P : Program} {o : Oper} {a : Act} {w : World} {R R' : Value → World → Prop} (h : Yld P o a w R) (hr : ∀ v w', R v w' → R' v w') : Yld P o a w R' := by
  unfold Yld at *
  generalize (execOp a.eval o).run P w = r at *
  cases r with
  | halt x w' => exact h
  | ok n w' =>
    cases n <;> first
      | exact hr _ _ h
      | exact Calls.mono h (fun e w'' ⟨v, he, hv⟩ => ⟨v, he, hr _ _ hv⟩)
      | exact RoundIn.mono h (fun e w'' ⟨v, he, hv⟩ => ⟨v, he, hr _ _ hv⟩)
      | exact h

theorem wpIn_of_yld {r : Option Nat} {P : Program} {o : Oper} {a : Act} {w : World} {R : Value → World → Prop} {next : Act → World → Prop} {Q : Exit → Act → World → Prop}
    (hd : isDef o = false) (h : Yld P o a w R) (hn : ∀ v w', R v w' → next (a.put o.dst v) w') : o.wpIn (FW r) 0 P a w next Q := by
  refine ⟨fun _ _ => trivial, ?_⟩
  rw [Oper.semAt_eq _ _ _ (fun c hc => by simp [isDef, hc] at hd)]
  unfold Yld at h
  generalize (execOp a.eval o).run P w = x at *
  cases x with
  | halt x w' => exact h.elim
  | ok n w' =>
    cases n with
    | value v => exact hn _ _ h
    | skip => exact hn _ _ h
    | enter f args =>
      refine ⟨fun hx => by simp [FW] at hx, callsIn_FW.2 (Calls.mono h ?_)⟩
      rintro e w'' ⟨v, rfl, hv⟩
      exact hn _ _ hv
    | round l f tmps assign body =>
      refine ⟨fun hx => by simp [FW] at hx, ?_⟩
      have h2 : RoundIn (FW r) (0 - 1) P l f tmps assign body w' (fun e w'' => ∃ v, e = .returned v ∧ R v w'') := ⟨trivial, fun c cs _ => h.2 c cs (room_wide _)⟩
      refine h2.mono ?_
      rintro e w'' ⟨v, rfl, hv⟩
      exact hn _ _ hv
    | _ => exact h.elim

def putT (dst : Option Nat) (v : Value) (T : List (Nat × Value)) : List (Nat × Value) := match dst with
  | some d => (d, v) :: T
  | none => T

def dstOk (dst : Option Nat) (n : Nat) : Bool := match dst with
  | some d => Nat.blt d n
  | none => true

theorem Sat.putT {n : Nat} {T : List (Nat × Value)} {ds : List Deferred} {a : Act} (h : Sat n T ds a) {dst : Option Nat} (hd : dstOk dst n = true) (v : Value) : Sat n (putT dst v T) ds (a.put dst v) := by
  cases dst with
  | none => exact h
  | some d => exact h.put (Nat.le_of_ble_eq_true hd) v

section
variable {c : Cx} {ds : List Deferred} {p : Post} {T : List (Nat × Value)} {H : List Res} {ops : Array Oper} {rest : List Oper} {o : Oper}

theorem gk_op (hg : o.guard = none) (hd : isDef o = false)
    (h : ∀ a w, Sat c.n T ds a → Hp c.U c.w0 H w → Yld c.P o a w (fun v w' => KL c ops p rest (a.put o.dst v) w')) : GK c ds (KL c ops p (o :: rest)) T H := by
  intro a w ha hw
  show wpListIn (FW c.r) 0 c.P ops p.Q (o :: rest) a w
  unfold wpListIn
  rw [if_pos (by simp [Region.wanted, hg])]
  exact wpIn_of_yld hd (h a w ha hw) (fun v w' h => h)

/-- an operation that yields one of a family of values, with a state for each -/
theorem gk_gen {X : Type} (V : X → Value) (Hf : X → List Res) (hg : o.guard = none) (hd : isDef o = false) (hn : dstOk o.dst c.n = true)
    (h : ∀ a w, Sat c.n T ds a → Hp c.U c.w0 H w → Yld c.P o a w (fun v w' => ∃ x, v = V x ∧ Hp c.U c.w0 (Hf x) w'))
    (k : ∀ x, GK c ds (KL c ops p rest) (putT o.dst (V x) T) (Hf x)) : GK c ds (KL c ops p (o :: rest)) T H :=
  gk_op hg hd fun a w ha hw => (h a w ha hw).mono fun v w' ⟨x, hv, hw'⟩ => by subst hv; exact k x _ _ (ha.putT hn _) hw'

/-- one value, the heap extended at most -/
structure Y (c : Cx) (ds : List Deferred) (H : List Res) (T : List (Nat × Value)) (o : Oper) (v : Value) : Prop where
  run : ∀ a w, Sat c.n T ds a → Hp c.U c.w0 H w → Yld c.P o a w (fun v' w' => v' = v ∧ Ext w w')

/-- a value and a resource in new memory -/
structure YX (c : Cx) (ds : List Deferred) (H : List Res) (T : List (Nat × Value)) (o : Oper) {X : Type} (V : X → Value) (A : X → Res) : Prop where
  run : ∀ a w, Sat c.n T ds a → Hp c.U c.w0 H w → Yld c.P o a w (fun v w' => ∃ x, v = V x ∧ Ext w w' ∧ ∃ B : Nat → Prop, (∀ k, B k → w.heap.size ≤ k ∧ k < w'.heap.size) ∧ (A x).A B w')

end

def isDefOp (o : Op) : Bool := match o with
  | .defer _ => true
  | _ => false

section
variable {c : Cx} {ds : List Deferred} {p : Post} {T : List (Nat × Value)} {H : List Res} {ops : Array Oper} {rest : List Oper} {op : Op} {d : Nat} {ty : TypeId} {ps : String} {af : Array Edge}

theorem isDef_of (h : isDefOp op = false) {dst : Option Nat} {g : Option (Nat × Bool)} : isDef ⟨dst, op, ty, ps, af, g⟩ = false := by
  unfold isDef
  cases op <;> first | rfl | simp [isDefOp] at h

theorem gk_y {v : Value} (hd : isDefOp op = false) (hn : Nat.blt d c.n = true) (h : Y c ds H T ⟨some d, op, ty, ps, af, none⟩ v)
    (k : GK c ds (KL c ops p rest) ((d, v) :: T) H) : GK c ds (KL c ops p (⟨some d, op, ty, ps, af, none⟩ :: rest)) T H :=
  gk_op rfl (isDef_of hd) fun a w ha hw => (h.run a w ha hw).mono fun v w' ⟨hv, hw'⟩ => by subst hv; exact k _ _ (ha.putT (dst := some d) hn _) (hw.ext hw')

theorem gk_yx {X : Type} {V : X → Value} {A : X → Res} (hd : isDefOp op = false) (hn : Nat.blt d c.n = true) (h : YX c ds H T ⟨some d, op, ty, ps, af, none⟩ V A)
    (k : ∀ x, GK c ds (KL c ops p rest) ((d, V x) :: T) (A x :: H)) : GK c ds (KL c ops p (⟨some d, op, ty, ps, af, none⟩ :: rest)) T H :=
  gk_op rfl (isDef_of hd) fun a w ha hw => (h.run a w ha hw).mono fun v w' ⟨x, hv, hw', B, hB, hA⟩ => by subst hv; exact k x _ _ (ha.putT (dst := some d) hn _) (hw.new hw' hB hA)

/-- an operation that turns the heap only -/
theorem gk_heap {H' : List Res} (hd : isDefOp op = false) (h : ∀ a w, Sat c.n T ds a → Hp c.U c.w0 H w → Yld c.P ⟨none, op, ty, ps, af, none⟩ a w (fun _ w' => Hp c.U c.w0 H' w'))
    (k : GK c ds (KL c ops p rest) T H') : GK c ds (KL c ops p (⟨none, op, ty, ps, af, none⟩ :: rest)) T H :=
  gk_op rfl (isDef_of hd) fun a w ha hw => (h a w ha hw).mono fun v _ hw' => k _ _ (ha.putT (dst := none) rfl v) hw'
end
end Go.K
