/- A layer for walks, fourth text: memory, calls. No statement of the seat is proved in this text. -/
import Derived.Test.YtahahmelnaphjaaDoorK3
namespace Go.K
open Go Go.RowKit

section
variable {P : Program} {w : World}
theorem addr_add (b o k : Nat) : Addr.add ⟨b, o, none⟩ k = ⟨b, o + k, none⟩ := by unfold Addr.add; split <;> simp_all

theorem FO.run {S : TypeId} {f k : Nat} (h : FO P S f k) (b o : Nat) : (Instr.fieldAt S (.pointer (some ⟨b, o, none⟩)) f).run P w = .ok (.pointer (some ⟨b, o + k, none⟩)) w := by
  have ho := h.o
  cases hu : P.underlying S with
  | none => rw [hu] at ho; cases ho
  | some d =>
    rw [hu] at ho
    cases d with
    | struct fs =>
      simp only [Option.bind_some] at ho
      cases hf : fs[f]? with
      | none => rw [hf] at ho; cases ho
      | some fl =>
        rw [hf] at ho
        simp only [Option.bind_some] at ho
        cases hi : P.info? fl.type with
        | none => rw [hi] at ho; cases ho
        | some i =>
          rw [hi] at ho
          simp only [Option.map_some, Option.some.injEq, Prod.mk.injEq] at ho
          have hs : i.size ≠ 0 := by
            have : 1 ≤ i.size := Nat.le_of_ble_eq_true ho.2
            omega
          unfold Instr.fieldAt
          rw [run_bind_ok (run_underlying' hu)]
          simp only [hf]
          show (Instr.sureAddr _ >>= _).run P w = _
          rw [run_bind_ok (v := ⟨b, o, none⟩) (w' := w) rfl]
          have hp : (fieldPlace ⟨b, o, none⟩ fl).run P w = .ok ⟨b, o + k, none⟩ w := by
            unfold fieldPlace
            have hz : (sizeOf fl.type).run P w = .ok i.size w := by
              unfold sizeOf
              rw [run_bind_ok (run_info hi)]
              rfl
            rw [run_bind_ok hz, if_neg hs]
            simp only [addr_add, ho.1]
            rfl
          rw [run_bind_ok hp]
          rfl
    | _ => cases ho
end

section
variable {c : Cx} {ds : List Deferred} {H : List Res} {T : List (Nat × Value)} {d : Option Nat} {ty : TypeId} {ps : String} {af : Array Edge} {g : Option (Nat × Bool)} {x y z : Operand} {u v : Value}

theorem y_fieldAddr {S : TypeId} {f k b o : Nat} (h : FO c.P S f k) (hx : evo T x = some (.pointer (some ⟨b, o, none⟩))) : Y c ds H T ⟨d, .fieldAddr S x f, ty, ps, af, g⟩ (.pointer (some ⟨b, o + k, none⟩)) :=
  y_run fun a w ha _ => by
    simp only [execOp, ha.eval hx]
    exact run_val (h.run b o)

/-- a load of one cell, of several cells -/
theorem y_load1 {t : TypeId} {k b o : Nat} {z : Value} (ht : TF c.P t false k z) (hx : evo T x = some (.pointer (some ⟨b, o, none⟩))) (h : ∀ w, Hp c.U c.w0 H w → w.cell? ⟨b, o, none⟩ = some v) :
    Y c ds H T ⟨d, .load t x, ty, ps, af, g⟩ v :=
  y_run fun a w ha hw => by
    simp only [execOp, ha.eval hx]
    refine run_val ?_
    unfold Instr.loadAt
    rw [run_bind_ok (v := ⟨b, o, none⟩) (w' := w) rfl]
    exact run_loadVar_one ht (h w hw)
theorem y_loadA {t : TypeId} {k b o : Nat} {z : Value} {vs : List Value} (ht : TF c.P t true k z) (hx : evo T x = some (.pointer (some ⟨b, o, none⟩))) (hl : vs.length = k)
    (h : ∀ w, Hp c.U c.w0 H w → CellsAt w b o vs) : Y c ds H T ⟨d, .load t x, ty, ps, af, g⟩ (.agg vs.toArray) :=
  y_run fun a w ha hw => by
    simp only [execOp, ha.eval hx]
    refine run_val ?_
    unfold Instr.loadAt
    rw [run_bind_ok (v := ⟨b, o, none⟩) (w' := w) rfl]
    exact run_loadVar_agg ht hl (h w hw)

/-- .. out of the block at place i -/
theorem y_loadB1 {t : TypeId} {k b o : Nat} {z : Value} {cs : List Value} {e : TypeId} (i : Nat) (ht : TF c.P t false k z) (hx : evo T x = some (.pointer (some ⟨b, o, none⟩))) (hi : H[i]? = some (Box b cs e)) (hv : cs[o]? = some v) :
    Y c ds H T ⟨d, .load t x, ty, ps, af, g⟩ v := y_load1 ht hx fun _ hw => has_box_cell (hw.has hi) hv
theorem y_loadBA {t : TypeId} {k b o : Nat} {z : Value} {cs vs : List Value} {e : TypeId} (i : Nat) (ht : TF c.P t true k z) (hx : evo T x = some (.pointer (some ⟨b, o, none⟩))) (hi : H[i]? = some (Box b cs e))
    (hv : (cs.drop o).take k = vs) (hl : vs.length = k) : Y c ds H T ⟨d, .load t x, ty, ps, af, g⟩ (.agg vs.toArray) := y_loadA ht hx hl fun _ hw => has_box_cells (hw.has hi) hv
/-- .. out of a block of the protected part -/
theorem y_loadR1 {t : TypeId} {k b o : Nat} {z : Value} {cs : List Value} {e : TypeId} (ht : TF c.P t false k z) (hx : evo T x = some (.pointer (some ⟨b, o, none⟩))) (hi : Rd c.U c.w0 (Box b cs e)) (hv : cs[o]? = some v) :
    Y c ds H T ⟨d, .load t x, ty, ps, af, g⟩ v := y_load1 ht hx fun _ hw => has_box_cell (hi.has hw) hv
theorem y_loadRA {t : TypeId} {k b o : Nat} {z : Value} {cs vs : List Value} {e : TypeId} (ht : TF c.P t true k z) (hx : evo T x = some (.pointer (some ⟨b, o, none⟩))) (hi : Rd c.U c.w0 (Box b cs e))
    (hv : (cs.drop o).take k = vs) (hl : vs.length = k) : Y c ds H T ⟨d, .load t x, ty, ps, af, g⟩ (.agg vs.toArray) := y_loadA ht hx hl fun _ hw => has_box_cells (hi.has hw) hv

/-! new blocks -/
theorem yx_alloc {t : TypeId} {gg : Bool} {k : Nat} {z : Value} {zs : List Value} (ht : TF c.P t gg k z) (hz : z.cells = zs.toArray) : YX c ds H T ⟨d, .alloc t, ty, ps, af, g⟩ (fun b => .pointer (some ⟨b, 0, none⟩)) (fun b => Box b zs t) := by
  refine ⟨fun a w ha hw => ?_⟩
  unfold Yld
  have : (execOp a.eval ⟨d, .alloc t, ty, ps, af, g⟩).run c.P w = .ok (.value (.pointer (some ⟨w.heap.size, 0, none⟩))) (w.alloc (.cells z.cells t)) := by
    simp only [execOp]
    refine run_val ?_
    unfold Instr.alloc
    rw [run_bind_ok ht.zero]
    rfl
  rw [this]
  refine ⟨w.heap.size, rfl, ext_alloc _, (· = w.heap.size), fun k hk => by subst hk; simp, fun k => Iff.rfl, ?_⟩
  rw [hz]
  exact World.alloc_heap_new w _

theorem yx_box {t : TypeId} {vs : List Value} (hx : evo T x = some v) (hv : v.cells = vs.toArray) : YX c ds H T ⟨d, .box t x, ty, ps, af, g⟩ (fun b => .pointer (some ⟨b, 0, none⟩)) (fun b => Box b vs t) := by
  refine ⟨fun a w ha hw => ?_⟩
  unfold Yld
  have : (execOp a.eval ⟨d, .box t x, ty, ps, af, g⟩).run c.P w = .ok (.value (.pointer (some ⟨w.heap.size, 0, none⟩))) (w.alloc (.cells v.cells t)) := by
    simp only [execOp, ha.eval hx]
    exact run_val rfl
  rw [this]
  refine ⟨w.heap.size, rfl, ext_alloc _, (· = w.heap.size), fun k hk => by subst hk; simp, fun k => Iff.rfl, ?_⟩
  rw [hv]
  exact World.alloc_heap_new w _

/-! stores -/
def cell1 : Value → Bool
  | .agg _ => false
  | .tuple _ => false
  | _ => true

def over (cs : List Value) : Nat → List Value → List Value
  | _, [] => cs
  | o, v :: r => over (cs.set o v) (o + 1) r

theorem over_length : ∀ (vs : List Value) (cs : List Value) (o : Nat), (over cs o vs).length = cs.length
  | [], _, _ => rfl
  | v :: r, cs, o => by rw [over, over_length r]; simp

theorem run_store {P : Program} {w : World} {b o : Nat} {t : TypeId} {cs : List Value} {v : Value} (hb : w.heap[b]? = some (.cells cs.toArray t (0, 0))) (ho : o < cs.length) (h1 : cell1 v = true) :
    (store ⟨b, o, none⟩ v).run P w = .ok () (w.setCell ⟨b, o, none⟩ v) := by
  have hc : ∃ u, w.cell? ⟨b, o, none⟩ = some u := ⟨cs[o], by simp [World.cell?, hb, ho]⟩
  obtain ⟨u, hu⟩ := hc
  have hf : w.frozen? ⟨b, o, none⟩ = false := by simp [World.frozen?, hb]
  cases v <;> first
    | (simp [cell1] at h1; done)
    | simp [store, Sem.run, hu, hf]

theorem setCell_block {w : World} {b o : Nat} {t : TypeId} {cs : List Value} {v : Value} (hb : w.heap[b]? = some (.cells cs.toArray t (0, 0))) :
    (w.setCell ⟨b, o, none⟩ v).heap[b]? = some (.cells (cs.set o v).toArray t (0, 0)) := by
  simp [World.setCell, Array.getElem?_modify, hb]

theorem setCell_mod (w : World) (b o : Nat) (v : Value) : Mod (· = b) w (w.setCell ⟨b, o, none⟩ v) :=
  ⟨rfl, rfl, rfl, by simp [World.setCell], fun k _ hk => Below.heap_setCell w ⟨b, o, none⟩ v k hk⟩

theorem Mod.trans {B : Nat → Prop} {a b c : World} (h : Mod B a b) (k : Mod B b c) : Mod B a c :=
  ⟨k.os.trans h.os, k.tape.trans h.tape, k.output.trans h.output, Nat.le_trans h.size k.size, fun i hi hb => (k.same i (Nat.lt_of_lt_of_le hi h.size) hb).trans (h.same i hi hb)⟩

theorem Mod.refl (B : Nat → Prop) (w : World) : Mod B w w := ⟨rfl, rfl, rfl, Nat.le_refl _, fun _ _ _ => rfl⟩

theorem run_storeCells {P : Program} {b o : Nat} {t : TypeId} : ∀ (vs cs : List Value) (i : Nat) (w : World), w.heap[b]? = some (.cells cs.toArray t (0, 0)) → o + i + vs.length ≤ cs.length → vs.all cell1 = true →
    ∃ w', (storeCells ⟨b, o, none⟩ vs i).run P w = .ok () w' ∧ Mod (· = b) w w' ∧ w'.heap[b]? = some (.cells (over cs (o + i) vs).toArray t (0, 0))
  | [], cs, i, w, hb, _, _ => ⟨w, rfl, Mod.refl _ _, hb⟩
  | v :: r, cs, i, w, hb, hl, h1 => by
    simp only [List.all_cons, Bool.and_eq_true] at h1
    simp only [List.length_cons] at hl
    have h2 := run_store (P := P) (o := o + i) (v := v) (cs := cs) hb (by omega) h1.1
    obtain ⟨w', hr, hm, hb'⟩ := run_storeCells (P := P) (b := b) (o := o) (t := t) r (cs.set (o + i) v) (i + 1) _ (setCell_block (o := o + i) (v := v) hb) (by simp; omega) h1.2
    refine ⟨w', ?_, (setCell_mod w b (o + i) v).trans hm, ?_⟩
    · unfold storeCells
      rw [run_bind_ok (by rw [addr_add]; exact h2)]
      exact hr
    · rw [over, show o + i + 1 = o + (i + 1) from by omega]
      exact hb'

section
variable {p : Post} {ops : Array Oper} {rest : List Oper}
theorem gk_storeV {t : TypeId} {gg : Bool} {k b o : Nat} {z : Value} {cs vs : List Value} {e : TypeId} (i : Nat) (ht : TF c.P t gg k z) (hx : evo T x = some (.pointer (some ⟨b, o, none⟩))) (hy : evo T y = some v)
    (hv : v.cells = vs.toArray) (hl : vs.length = k) (h1 : vs.all cell1 = true) (hi : H[i]? = some (Box b cs e)) (ho : Nat.ble (o + k) cs.length = true)
    (kk : GK c ds (KL c ops p rest) T (H.set i (Box b (over cs o vs) e))) : GK c ds (KL c ops p (⟨none, .store t x y, ty, ps, af, none⟩ :: rest)) T H := by
  refine gk_heap rfl (fun a w ha hw => ?_) kk
  obtain ⟨B0, hB0, hA0⟩ := hw.has hi
  obtain ⟨w', hr, hm, hb'⟩ := run_storeCells (P := c.P) (o := o) vs cs 0 w hA0.2 (by have := Nat.le_of_ble_eq_true ho; omega) h1
  unfold Yld
  have : (execOp a.eval ⟨none, .store t x y, ty, ps, af, none⟩).run c.P w = .ok .skip w' := by
    simp only [execOp, ha.eval hx, ha.eval hy]
    have h3 : (Instr.storeAt t (.pointer (some ⟨b, o, none⟩)) v).run c.P w = .ok () w' := by
      unfold Instr.storeAt
      rw [run_bind_ok (v := ⟨b, o, none⟩) (w' := w) rfl]
      unfold storeVar
      rw [run_bind_ok ht.size]
      have : v.cells.size = k := by rw [hv]; simpa using hl
      rw [if_neg (by simp [this])]
      rw [hv]
      exact hr
    rw [run_bind_ok h3]
    rfl
  rw [this]
  refine hw.upd hi fun B hB hA => ⟨B, ?_, fun k hk => .inl hk, hA.1, hb'⟩
  exact ⟨hm.os, hm.tape, hm.output, hm.size, fun k hk hnb => hm.same k hk (fun he => hnb ((hA.1 k).2 he))⟩
end

/-! a value built -/
theorem y_build {t : TypeId} {parts : Array (Nat × Operand)} {pv : Array (Nat × Value)} (hp : ∀ a, Sat c.n T ds a → parts.map (fun (i, x) => (i, a.eval x)) = pv) (hr : ∀ w, (Instr.build t pv).run c.P w = .ok v w) :
    Y c ds H T ⟨d, .build t parts, ty, ps, af, g⟩ v :=
  y_run fun a w ha _ => by
    simp only [execOp]
    have := hp a ha
    rw [this]
    exact run_val (hr w)

def evp (T : List (Nat × Value)) : List (Nat × Operand) → Option (List (Nat × Value))
  | [] => some []
  | (i, x) :: r => match evo T x, evp T r with
    | some v, some vs => some ((i, v) :: vs)
    | _, _ => none

theorem Sat.evalp {n : Nat} {T : List (Nat × Value)} {ds : List Deferred} {a : Act} (h : Sat n T ds a) : ∀ {xs : List (Nat × Operand)} {vs : List (Nat × Value)}, evp T xs = some vs → xs.map (fun (i, x) => (i, a.eval x)) = vs
  | [], vs, hv => by simp only [evp, Option.some.injEq] at hv; subst hv; rfl
  | (i, x) :: r, vs, hv => by
    simp only [evp] at hv
    cases h1 : evo T x with
    | none => rw [h1] at hv; cases hv
    | some v =>
      cases h2 : evp T r with
      | none => rw [h1, h2] at hv; cases hv
      | some us =>
        rw [h1, h2] at hv
        simp only [Option.some.injEq] at hv
        subst hv
        simp [h.eval h1, h.evalp h2]

theorem y_buildL {t : TypeId} {parts : List (Nat × Operand)} {pv : List (Nat × Value)} (hp : evp T parts = some pv) (hr : ∀ w, (Instr.build t pv.toArray).run c.P w = .ok v w) :
    Y c ds H T ⟨d, .build t parts.toArray, ty, ps, af, g⟩ v := y_build (pv := pv.toArray) (fun a ha => by rw [← ha.evalp hp]; simp) hr

theorem y_extract {i : Nat} {vs : Array Value} (hx : evo T x = some (.tuple vs)) (hi : vs.toList[i]? = some v) : Y c ds H T ⟨d, .extract x i, ty, ps, af, g⟩ v :=
  y_run fun a w ha _ => by
    have hi' : vs[i]? = some v := by rw [← hi]; simp
    simp only [execOp, ha.eval hx]
    refine run_val ?_
    unfold Instr.extract
    simp only [hi']
    rfl

theorem y_makeFunc {f : Fn} {as bs : List Operand} {av bv : List Value} (h1 : evs T as = some av) (h2 : evs T bs = some bv) : Y c ds H T ⟨d, .makeFunc f as.toArray bs.toArray, ty, ps, af, g⟩ (.func f av.toArray bv.toArray) :=
  y_run fun a w ha _ => by
    simp only [execOp, Instr.makeFunc, List.map_toArray, ha.evals h1, ha.evals h2]
    rfl

theorem y_convInt {s t : TypeId} {k j : IntKind} {n : Int} (hs : (c.P.underlying s).isSome = true) (ht : c.P.underlying t = some (.int k)) (hx : evo T x = some (.int j n)) : Y c ds H T ⟨d, .convert s t x, ty, ps, af, g⟩ (.int k (k.wrap n)) :=
  y_run fun a w ha _ => by
    simp only [execOp, ha.eval hx]
    refine run_val ?_
    unfold convert
    obtain ⟨ss, hss⟩ := Option.isSome_iff_exists.1 hs
    rw [run_bind_ok (run_underlying' hss), run_bind_ok (run_underlying' ht)]
    cases ss <;> rfl

/-! ### calls -/
theorem run_call {f : FuncId} (he : En c.P f) {as : List Operand} {tys : Array TypeId} {vs : List Value} (ha : evs T as = some vs) {a : Act} (hs : Sat c.n T ds a) (w : World) :
    (execOp a.eval ⟨d, .call ⟨.value (.func f), as.toArray, tys⟩, ty, ps, af, g⟩).run c.P w = .ok (.enter f vs.toArray) w := by
  have e1 : as.toArray.map a.eval = vs.toArray := by rw [List.map_toArray, hs.evals ha]
  simp only [execOp]
  rw [run_bind_ok (v := ({ target := .fn (.func f) #[], args := vs.toArray } : Deferred)) (w' := w) (by
    simp only [resolve, e1]
    show (Deferred.ofValue (.func (.func f) #[] #[]) vs.toArray).run c.P w = _
    simp [Deferred.ofValue, pure])]
  simp only [invoke, Array.append_empty]
  exact he _ w

theorem y_call {f : FuncId} (he : En c.P f) {as : List Operand} {tys : Array TypeId} {vs : List Value} (ha : evs T as = some vs)
    (hc : ∀ w, Hp c.U c.w0 H w → Calls c.P f vs.toArray w (fun e w' => e = .returned v ∧ Ext w w')) : Y c ds H T ⟨d, .call ⟨.value (.func f), as.toArray, tys⟩, ty, ps, af, g⟩ v := by
  refine ⟨fun a w hs hw => ?_⟩
  unfold Yld
  rw [run_call he ha hs w]
  exact (hc w hw).mono fun e w' ⟨he, hx⟩ => ⟨v, he, rfl, hx⟩

/-- fresh memory that bears R -/
def New (w w' : World) (R : Res) : Prop := ∃ B : Nat → Prop, (∀ k, B k → w.heap.size ≤ k ∧ k < w'.heap.size) ∧ R.A B w'

theorem yx_call {X : Type} {V : X → Value} {A : X → Res} {f : FuncId} (he : En c.P f) {as : List Operand} {tys : Array TypeId} {vs : List Value} (ha : evs T as = some vs)
    (hc : ∀ w, Hp c.U c.w0 H w → Calls c.P f vs.toArray w (fun e w' => ∃ x, e = .returned (V x) ∧ Ext w w' ∧ New w w' (A x))) : YX c ds H T ⟨d, .call ⟨.value (.func f), as.toArray, tys⟩, ty, ps, af, g⟩ V A := by
  refine ⟨fun a w hs hw => ?_⟩
  unfold Yld
  rw [run_call he ha hs w]
  exact (hc w hw).mono fun e w' ⟨x, he, hx, hn⟩ => ⟨V x, he, x, rfl, hx, hn⟩

theorem run_callV {t : Nat} {f : FuncId} (he : En c.P f) {fs cap : Array Value} (hf : evo T (.tmp t) = some (.func (.func f) fs cap)) {as : List Operand} {tys : Array TypeId} {vs : List Value} (ha : evs T as = some vs) {a : Act} (hs : Sat c.n T ds a) (w : World) :
    (execOp a.eval ⟨d, .call ⟨.value (.tmp t), as.toArray, tys⟩, ty, ps, af, g⟩).run c.P w = .ok (.enter f (fs ++ vs.toArray ++ cap)) w := by
  have e1 : as.toArray.map a.eval = vs.toArray := by rw [List.map_toArray, hs.evals ha]
  simp only [execOp]
  rw [run_bind_ok (v := ({ target := .fn (.func f) cap, args := fs ++ vs.toArray } : Deferred)) (w' := w) (by
    simp only [resolve, e1, hs.eval hf]
    rfl)]
  simp only [invoke]
  exact he _ w

theorem y_callV {t : Nat} {f : FuncId} (he : En c.P f) {fs cap : List Value} (hf : evo T (.tmp t) = some (.func (.func f) fs.toArray cap.toArray)) {as : List Operand} {tys : Array TypeId} {vs : List Value} (ha : evs T as = some vs)
    (hc : ∀ w, Hp c.U c.w0 H w → Calls c.P f (fs ++ vs ++ cap).toArray w (fun e w' => e = .returned v ∧ Ext w w')) : Y c ds H T ⟨d, .call ⟨.value (.tmp t), as.toArray, tys⟩, ty, ps, af, g⟩ v := by
  refine ⟨fun a w hs hw => ?_⟩
  unfold Yld
  rw [run_callV he hf ha hs w]
  have := hc w hw
  rw [show (fs ++ vs ++ cap).toArray = fs.toArray ++ vs.toArray ++ cap.toArray from by simp] at this
  exact this.mono fun e w' ⟨he, hx⟩ => ⟨v, he, rfl, hx⟩

/-! builtins -/
theorem run_builtin {b : Builtin} {as : List Operand} {tys : Array TypeId} {vs : List Value} (ha : evs T as = some vs) {a : Act} (hs : Sat c.n T ds a) (w : World) :
    (execOp a.eval ⟨d, .call ⟨.builtin b, as.toArray, tys⟩, ty, ps, af, g⟩).run c.P w = (builtin b tys ty (as.toArray.map fun | .const _ => true | _ => false) vs.toArray).run c.P w := by
  have e1 : as.toArray.map a.eval = vs.toArray := by rw [List.map_toArray, hs.evals ha]
  simp only [execOp]
  rw [run_bind_ok (v := ({ target := .builtin b tys ty (as.toArray.map fun | .const _ => true | _ => false), args := vs.toArray } : Deferred)) (w' := w) (by
    simp only [resolve, e1]
    rfl)]
  rfl

theorem y_lenS {x : Operand} {t e : TypeId} {a0 : Option Addr} {n k : Nat} (ht : c.P.underlying t = some (.slice e)) (hx : evo T x = some (.slice a0 n k)) :
    Y c ds H T ⟨d, .call ⟨.builtin .len, #[x], #[t]⟩, ty, ps, af, g⟩ (.int .i64 (n : Int)) :=
  y_run fun a w hs _ => by
    rw [run_builtin (as := [x]) (vs := [.slice a0 n k]) (by simp [evs, hx]) hs w]
    simp only [builtin]
    refine run_val ?_
    unfold Builtin.len_
    show (underlying t >>= _).run c.P w = _
    rw [run_bind_ok (run_underlying' ht)]
    rfl
theorem y_lenStr {x : Operand} {t : TypeId} {s : ByteArray} (ht : c.P.underlying t = some .string) (hx : evo T x = some (.string s)) :
    Y c ds H T ⟨d, .call ⟨.builtin .len, #[x], #[t]⟩, ty, ps, af, g⟩ (.int .i64 (s.size : Int)) :=
  y_run fun a w hs _ => by
    rw [run_builtin (as := [x]) (vs := [.string s]) (by simp [evs, hx]) hs w]
    simp only [builtin]
    refine run_val ?_
    unfold Builtin.len_
    show (underlying t >>= _).run c.P w = _
    rw [run_bind_ok (run_underlying' ht)]
    rfl
theorem y_max {x y : Operand} {tys : Array TypeId} {k : IntKind} {m n : Int} (hx : evo T x = some (.int k m)) (hy : evo T y = some (.int k n)) :
    Y c ds H T ⟨d, .call ⟨.builtin .max, #[x, y], tys⟩, ty, ps, af, g⟩ (.int k (max m n)) :=
  y_run fun a w hs _ => by
    rw [run_builtin (as := [x, y]) (vs := [.int k m, .int k n]) (by simp [evs, hx, hy]) hs w]
    simp only [builtin]
    refine run_val ?_
    show Result.ok (Value.int k (if n > m then n else m)) w = _
    congr 2
    by_cases h : n > m
    · rw [if_pos h, Int.max_eq_right (by omega)]
    · rw [if_neg h, Int.max_eq_left (by omega)]
theorem y_min {x y : Operand} {tys : Array TypeId} {k : IntKind} {m n : Int} (hx : evo T x = some (.int k m)) (hy : evo T y = some (.int k n)) :
    Y c ds H T ⟨d, .call ⟨.builtin .min, #[x, y], tys⟩, ty, ps, af, g⟩ (.int k (min m n)) :=
  y_run fun a w hs _ => by
    rw [run_builtin (as := [x, y]) (vs := [.int k m, .int k n]) (by simp [evs, hx, hy]) hs w]
    simp only [builtin]
    refine run_val ?_
    show Result.ok (Value.int k (if n < m then n else m)) w = _
    congr 2
    by_cases h : n < m
    · rw [if_pos h, Int.min_eq_right (by omega)]
    · rw [if_neg h, Int.min_eq_left (by omega)]
end
end Go.K
