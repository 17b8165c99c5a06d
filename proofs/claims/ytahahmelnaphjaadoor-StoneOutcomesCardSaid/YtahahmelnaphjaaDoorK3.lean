/- A layer for walks, third text: the operations. No statement of the seat is proved in this text. -/
import Derived.Test.YtahahmelnaphjaaDoorK2
namespace Go.K
open Go Go.RowKit

/-! ### closed facts on types -/
structure TF (P : Program) (t : TypeId) (agg : Bool) (k : Nat) (z : Value) : Prop where
  a : (P.underlying t).map (fun d => match d with | .struct _ => true | .array _ _ => true | _ => false) = some agg
  i : (P.info? t).map (fun i => (i.size, i.zero)) = some (k, some z)

/-- field f of the struct S lies at cell k -/
structure FO (P : Program) (S : TypeId) (f k : Nat) : Prop where
  o : (P.underlying S).bind (fun d => match d with | .struct fs => (fs[f]?).bind (fun fl => ((P.info? fl.type).map (fun i => (fl.offset, Nat.blt 0 i.size)))) | _ => none) = some (k, true)

/-- t is a slice type of elements e of k cells -/
structure SE (P : Program) (t e : TypeId) (k : Nat) : Prop where
  u : P.underlying t = some (.slice e)
  i : (P.info? e).map (fun i => i.size) = some k

/-- a function with a body -/
def En (P : Program) (f : FuncId) : Prop := ∀ args w, (callFunc f args).run P w = .ok (.enter f args) w

section
variable {P : Program} {w : World}

theorem run_bind_ok {α β : Type} {s : Sem α} {f : α → Sem β} {v : α} {w' : World} (h : s.run P w = .ok v w') : (s >>= f).run P w = (f v).run P w' := by
  simp [Sem.run_bind, h, Result.andThen]

theorem run_info {t : TypeId} {i : TypeInfo} (h : P.info? t = some i) : (typeInfo t).run P w = .ok i w := by
  simp [typeInfo, program, h, bind, Sem.bind, Sem.run, pure]

theorem run_underlying' {t : TypeId} {d : TypeDesc} (h : P.underlying t = some d) : (underlying t).run P w = .ok d w := by
  simp [underlying, program, h, bind, Sem.bind, Sem.run, pure]

theorem TF.agg {t : TypeId} {g : Bool} {k : Nat} {z : Value} (h : TF P t g k z) : (isAgg t).run P w = .ok g w := by
  have ha := h.a
  cases hu : P.underlying t with
  | none => rw [hu] at ha; cases ha
  | some d =>
    rw [hu] at ha
    simp only [Option.map_some, Option.some.injEq] at ha
    unfold isAgg
    rw [run_bind_ok (run_underlying' hu)]
    cases d <;> simp_all [pure]

theorem TF.size {t : TypeId} {g : Bool} {k : Nat} {z : Value} (h : TF P t g k z) : (sizeOf t).run P w = .ok k w := by
  have hi := h.i
  cases hu : P.info? t with
  | none => rw [hu] at hi; cases hi
  | some i =>
    rw [hu] at hi
    simp only [Option.map_some, Option.some.injEq, Prod.mk.injEq] at hi
    unfold sizeOf
    rw [run_bind_ok (run_info hu)]
    simp [pure, hi.1]

theorem TF.zero {t : TypeId} {g : Bool} {k : Nat} {z : Value} (h : TF P t g k z) : (zeroValue t).run P w = .ok z w := by
  have hi := h.i
  cases hu : P.info? t with
  | none => rw [hu] at hi; cases hi
  | some i =>
    rw [hu] at hi
    simp only [Option.map_some, Option.some.injEq, Prod.mk.injEq] at hi
    unfold zeroValue
    rw [run_bind_ok (run_info hu)]
    simp [pure, hi.2]

theorem run_newVar (t : TypeId) (v : Value) : (newVar t v).run P w = .ok ⟨w.heap.size, 0, none⟩ (w.alloc (.cells v.cells t)) := rfl

theorem ext_alloc (o : Obj) : Ext w (w.alloc o) := (Below.refl _ _).alloc (Nat.le_refl _) _
end

/-! ### a block of cells -/
def Box (b : Nat) (cs : List Value) (t : TypeId) : Res where
  A B w := (∀ k, B k ↔ k = b) ∧ w.heap[b]? = some (.cells cs.toArray t (0, 0))
  loc _ _ _ h hA := ⟨hA.1, (h b ((hA.1 b).2 rfl)).trans hA.2⟩

theorem has_box_cell {w : World} {b : Nat} {cs : List Value} {t : TypeId} (h : Has w (Box b cs t)) {o : Nat} {v : Value} (hv : cs[o]? = some v) : w.cell? ⟨b, o, none⟩ = some v := by
  obtain ⟨B, hB, hA⟩ := h
  simp only [World.cell?, hA.2]
  simpa using hv

/-- cells from a place on -/
def CellsAt (w : World) (b : Nat) : Nat → List Value → Prop
  | _, [] => True
  | o, v :: r => w.cell? ⟨b, o, none⟩ = some v ∧ CellsAt w b (o + 1) r

theorem cellsAt_of {w : World} {b : Nat} : ∀ (vs : List Value) (o : Nat), (∀ i v, vs[i]? = some v → w.cell? ⟨b, o + i, none⟩ = some v) → CellsAt w b o vs
  | [], _, _ => trivial
  | v :: r, o, h => ⟨h 0 v rfl, cellsAt_of r (o + 1) (fun i u hu => by
      have := h (i + 1) u (by simpa using hu)
      rwa [show o + 1 + i = o + (i + 1) from by omega])⟩

theorem has_box_cells {w : World} {b : Nat} {cs : List Value} {t : TypeId} (h : Has w (Box b cs t)) {o k : Nat} {vs : List Value} (hv : (cs.drop o).take k = vs) : CellsAt w b o vs := by
  refine cellsAt_of vs o fun i v hi => has_box_cell h ?_
  subst hv
  rw [List.getElem?_take] at hi
  split at hi
  · simpa using hi
  · cases hi

section
variable {P : Program} {w : World}
theorem run_load {b o : Nat} {v : Value} (h : w.cell? ⟨b, o, none⟩ = some v) : (load ⟨b, o, none⟩).run P w = .ok v w := by
  simp [load, Sem.run, h]

theorem run_loadCellsFrom {b o : Nat} : ∀ (vs : List Value) (i : Nat) (acc : Array Value), CellsAt w b (o + i) vs → (loadCellsFrom ⟨b, o, none⟩ i vs.length acc).run P w = .ok (acc ++ vs.toArray) w
  | [], i, acc, _ => by simp [loadCellsFrom, pure]
  | v :: r, i, acc, h => by
    obtain ⟨h1, h2⟩ := h
    have ha : Addr.add ⟨b, o, none⟩ i = ⟨b, o + i, none⟩ := by unfold Addr.add; split <;> simp_all
    have h3 := run_loadCellsFrom r (i + 1) (acc.push v) (by rwa [show o + (i + 1) = o + i + 1 from by omega])
    simp only [List.length_cons, loadCellsFrom]
    rw [run_bind_ok (by rw [ha]; exact run_load h1), h3]
    simp

theorem run_loadVar_one {t : TypeId} {k : Nat} {z : Value} (ht : TF P t false k z) {b o : Nat} {v : Value} (h : w.cell? ⟨b, o, none⟩ = some v) : (loadVar t ⟨b, o, none⟩).run P w = .ok v w := by
  unfold loadVar
  rw [run_bind_ok ht.agg]
  exact run_load h

theorem run_loadVar_agg {t : TypeId} {k : Nat} {z : Value} (ht : TF P t true k z) {b o : Nat} {vs : List Value} (hl : vs.length = k) (h : CellsAt w b o vs) : (loadVar t ⟨b, o, none⟩).run P w = .ok (.agg vs.toArray) w := by
  unfold loadVar
  rw [run_bind_ok ht.agg]
  simp only [if_true]
  rw [run_bind_ok ht.size]
  have := run_loadCellsFrom (P := P) (w := w) (b := b) (o := o) vs 0 #[] h
  rw [hl] at this
  unfold loadCells
  rw [run_bind_ok this]
  simp [pure]
end

/-! ### operations that yield one value -/
section
variable {c : Cx} {ds : List Deferred} {H : List Res} {T : List (Nat × Value)} {d : Option Nat} {ty : TypeId} {ps : String} {af : Array Edge} {g : Option (Nat × Bool)} {x y z : Operand} {u v : Value}

/-- an operation whose run is known -/
theorem y_run {o : Oper} {v : Value} (h : ∀ a w, Sat c.n T ds a → Hp c.U c.w0 H w → (execOp a.eval o).run c.P w = .ok (.value v) w) : Y c ds H T o v := by
  refine ⟨fun a w ha hw => ?_⟩
  unfold Yld
  rw [h a w ha hw]
  exact ⟨rfl, Ext.rfl⟩

theorem run_val {s : Sem Value} {P : Program} {w : World} {v : Value} {w' : World} (h : s.run P w = .ok v w') : (do pure (Next.value (← s)) : Sem Next).run P w = .ok (.value v) w' := by
  rw [run_bind_ok h]; rfl

theorem y_move (hx : evo T x = some v) : Y c ds H T ⟨d, .move x, ty, ps, af, g⟩ v :=
  y_run fun a w ha _ => by simp [execOp, ha.eval hx, pure]
theorem y_assign (hx : evo T x = some v) : Y c ds H T ⟨d, .assign x, ty, ps, af, g⟩ v :=
  y_run fun a w ha _ => by simp [execOp, ha.eval hx, pure]
theorem y_pick {b : Bool} (hx : evo T x = some (.bool b)) (hy : evo T y = some u) (hz : evo T z = some v) : Y c ds H T ⟨d, .pick x y z, ty, ps, af, g⟩ (if b = true then u else v) :=
  y_run fun a w ha _ => by simp only [execOp, ha.eval hx, ha.eval hy, ha.eval hz]; cases b <;> rfl
theorem y_pickAnd {b e : Bool} (hx : evo T x = some (.bool b)) (hy : evo T y = some (if b = true then .bool e else undef)) (hz : evo T z = some (.bool false)) : Y c ds H T ⟨d, .pick x y z, ty, ps, af, g⟩ (.bool (b && e)) :=
  y_run fun a w ha _ => by simp only [execOp, ha.eval hx, ha.eval hy, ha.eval hz]; cases b <;> rfl
theorem y_pickOr {b e : Bool} (hx : evo T x = some (.bool b)) (hy : evo T y = some (.bool true)) (hz : evo T z = some (if (!b) = true then .bool e else undef)) : Y c ds H T ⟨d, .pick x y z, ty, ps, af, g⟩ (.bool (b || e)) :=
  y_run fun a w ha _ => by simp only [execOp, ha.eval hx, ha.eval hy, ha.eval hz]; cases b <;> rfl
theorem y_not {b : Bool} {t : TypeId} (hx : evo T x = some (.bool b)) : Y c ds H T ⟨d, .unOp .not t x, ty, ps, af, g⟩ (.bool !b) :=
  y_run fun a w ha _ => by simp only [execOp, ha.eval hx]; rfl
theorem y_neg {k : IntKind} {n : Int} {t : TypeId} (hx : evo T x = some (.int k n)) : Y c ds H T ⟨d, .unOp .neg t x, ty, ps, af, g⟩ (.int k (k.wrap (-n))) :=
  y_run fun a w ha _ => by simp only [execOp, ha.eval hx, Op.unary, Op.intArith, Int.zero_sub]; rfl

theorem run_eqGuard_int {op : BinOp} {t : TypeId} {x y : Operand} {k j : IntKind} {m n : Int} {P : Program} {w : World} : (eqGuard op t x y (.int k m) (.int j n)).run P w = .ok () w := by
  unfold eqGuard
  cases op <;> rfl
theorem run_eqGuard_bool {op : BinOp} {t : TypeId} {x y : Operand} {m n : Bool} {P : Program} {w : World} : (eqGuard op t x y (.bool m) (.bool n)).run P w = .ok () w := by
  unfold eqGuard
  cases op <;> rfl
theorem run_eqGuard_string {op : BinOp} {t : TypeId} {x y : Operand} {m n : ByteArray} {P : Program} {w : World} : (eqGuard op t x y (.string m) (.string n)).run P w = .ok () w := by
  unfold eqGuard
  cases op <;> rfl

theorem y_binInt {op : BinOp} {t t' : TypeId} {k j : IntKind} {m n : Int} (hx : evo T x = some (.int k m)) (hy : evo T y = some (.int j n)) (hv : ∀ P w, (binOp op t (.int k m) (.int j n)).run P w = .ok v w) :
    Y c ds H T ⟨d, .binOp op t x y t', ty, ps, af, g⟩ v :=
  y_run fun a w ha _ => by
    simp only [execOp, ha.eval hx, ha.eval hy]
    exact run_val (by rw [run_bind_ok run_eqGuard_int]; exact hv _ _)

section
variable {t t' : TypeId} {k : IntKind} {m n : Int} (hx : evo T x = some (.int k m)) (hy : evo T y = some (.int k n))
include hx hy
theorem y_add : Y c ds H T ⟨d, .binOp .add t x y t', ty, ps, af, g⟩ (.int k (k.wrap (m + n))) := y_binInt hx hy fun P w => by simp [binOp, Op.intArith, pure]
theorem y_sub : Y c ds H T ⟨d, .binOp .sub t x y t', ty, ps, af, g⟩ (.int k (k.wrap (m - n))) := y_binInt hx hy fun P w => by simp [binOp, Op.intArith, pure]
theorem y_mul : Y c ds H T ⟨d, .binOp .mul t x y t', ty, ps, af, g⟩ (.int k (k.wrap (m * n))) := y_binInt hx hy fun P w => by simp [binOp, Op.intArith, pure]
theorem y_quo (h0 : n ≠ 0) : Y c ds H T ⟨d, .binOp .quo t x y t', ty, ps, af, g⟩ (.int k (k.wrap (m.tdiv n))) := y_binInt hx hy fun P w => by simp [binOp, Op.intDiv, h0, pure]
theorem y_rem (h0 : n ≠ 0) : Y c ds H T ⟨d, .binOp .rem t x y t', ty, ps, af, g⟩ (.int k (m.tmod n)) := y_binInt hx hy fun P w => by simp [binOp, Op.intDiv, h0, pure]
theorem y_lss : Y c ds H T ⟨d, .binOp .lss t x y t', ty, ps, af, g⟩ (.bool (decide (m < n))) := y_binInt hx hy fun P w => by simp [binOp, Op.intCmp, pure]
theorem y_leq : Y c ds H T ⟨d, .binOp .leq t x y t', ty, ps, af, g⟩ (.bool (decide (m ≤ n))) := y_binInt hx hy fun P w => by simp [binOp, Op.intCmp, pure]
theorem y_gtr : Y c ds H T ⟨d, .binOp .gtr t x y t', ty, ps, af, g⟩ (.bool (decide (n < m))) := y_binInt hx hy fun P w => by simp [binOp, Op.intCmp, pure]
theorem y_geq : Y c ds H T ⟨d, .binOp .geq t x y t', ty, ps, af, g⟩ (.bool (decide (n ≤ m))) := y_binInt hx hy fun P w => by simp [binOp, Op.intCmp, pure]
theorem y_eql : Y c ds H T ⟨d, .binOp .eql t x y t', ty, ps, af, g⟩ (.bool (decide (m = n))) := y_binInt hx hy fun P w => by
  simp only [binOp, Op.intCmp, ne_eq, not_true_eq_false, if_false]
  show Result.ok _ _ = _
  congr 2
theorem y_neq : Y c ds H T ⟨d, .binOp .neq t x y t', ty, ps, af, g⟩ (.bool (!decide (m = n))) := y_binInt hx hy fun P w => by
  simp only [binOp, Op.intCmp, ne_eq, not_true_eq_false, if_false]
  show Result.ok _ _ = _
  congr 2
end

/-- sums that stay within range -/
theorem wrap64_in {n : Int} (h1 : -9223372036854775808 ≤ n) (h2 : n ≤ 9223372036854775807) : IntKind.i64.wrap n = n := by
  simp only [IntKind.wrap, IntKind.signed, IntKind.bits]
  simp
  omega
end
end Go.K
