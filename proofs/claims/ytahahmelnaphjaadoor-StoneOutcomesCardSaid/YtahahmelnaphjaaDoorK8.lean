/- A layer for walks, eighth text: sums within range, strings, slices of structs. No statement of the seat is proved in this text. -/
import Derived.Test.YtahahmelnaphjaaDoorK7
namespace Go.K
open Go Go.RowKit

theorem en_of {P : Program} {f : FuncId} {fn : Func} (hf : P.funcs[f]? = some fn) (hn : (fn.name == "runtime.NumGoroutine") = false) (hb : fn.body.isNone = false) : En P f := fun args w => by
  unfold callFunc
  rw [run_bind_ok (v := P) (w' := w) rfl]
  simp only [hf, hn, hb, Bool.false_eq_true, if_false]
  rfl

section
variable {c : Cx} {ds : List Deferred} {H : List Res} {T : List (Nat × Value)} {d : Option Nat} {ty : TypeId} {ps : String} {af : Array Edge} {g : Option (Nat × Bool)} {x y z : Operand} {u v : Value}
section
variable {t t' : TypeId} {m n : Int} (hx : evo T x = some (.int .i64 m)) (hy : evo T y = some (.int .i64 n))
include hx hy
theorem y_addI (h1 : -9223372036854775808 ≤ m + n) (h2 : m + n ≤ 9223372036854775807) : Y c ds H T ⟨d, .binOp .add t x y t', ty, ps, af, g⟩ (.int .i64 (m + n)) := by
  have := y_add (c := c) (ds := ds) (H := H) (d := d) (ty := ty) (ps := ps) (af := af) (g := g) (t := t) (t' := t') hx hy
  rwa [wrap64_in h1 h2] at this
theorem y_subI (h1 : -9223372036854775808 ≤ m - n) (h2 : m - n ≤ 9223372036854775807) : Y c ds H T ⟨d, .binOp .sub t x y t', ty, ps, af, g⟩ (.int .i64 (m - n)) := by
  have := y_sub (c := c) (ds := ds) (H := H) (d := d) (ty := ty) (ps := ps) (af := af) (g := g) (t := t) (t' := t') hx hy
  rwa [wrap64_in h1 h2] at this
theorem y_mulI (h1 : -9223372036854775808 ≤ m * n) (h2 : m * n ≤ 9223372036854775807) : Y c ds H T ⟨d, .binOp .mul t x y t', ty, ps, af, g⟩ (.int .i64 (m * n)) := by
  have := y_mul (c := c) (ds := ds) (H := H) (d := d) (ty := ty) (ps := ps) (af := af) (g := g) (t := t) (t' := t') hx hy
  rwa [wrap64_in h1 h2] at this
end

theorem y_conv64 {s t : TypeId} {n : Int} (hs : (c.P.underlying s).isSome = true) (ht : c.P.underlying t = some (.int .i64)) (hx : evo T x = some (.int .i64 n)) (h1 : -9223372036854775808 ≤ n) (h2 : n ≤ 9223372036854775807) :
    Y c ds H T ⟨d, .convert s t x, ty, ps, af, g⟩ (.int .i64 n) := by
  have := y_convInt (c := c) (ds := ds) (H := H) (d := d) (ty := ty) (ps := ps) (af := af) (g := g) hs ht hx
  rwa [wrap64_in h1 h2] at this

theorem y_convStr {s t : TypeId} {b : ByteArray} (hs : c.P.underlying s = some .string) (ht : c.P.underlying t = some .string) (hx : evo T x = some (.string b)) : Y c ds H T ⟨d, .convert s t x, ty, ps, af, g⟩ (.string b) :=
  y_run fun a w ha _ => by
    simp only [execOp, ha.eval hx]
    refine run_val ?_
    unfold convert
    rw [run_bind_ok (run_underlying' hs), run_bind_ok (run_underlying' ht)]
    rfl

theorem y_binStr {op : BinOp} {t t' : TypeId} {m n : ByteArray} (hx : evo T x = some (.string m)) (hy : evo T y = some (.string n)) (hv : ∀ P w, (Op.stringOp op m n).run P w = .ok v w) (ho : ∀ P w, (binOp op t (.string m) (.string n)).run P w = (Op.stringOp op m n).run P w) :
    Y c ds H T ⟨d, .binOp op t x y t', ty, ps, af, g⟩ v :=
  y_run fun a w ha _ => by
    simp only [execOp, ha.eval hx, ha.eval hy]
    exact run_val (by rw [run_bind_ok run_eqGuard_string, ho]; exact hv _ _)
section
variable {t t' : TypeId} {m n : ByteArray} (hx : evo T x = some (.string m)) (hy : evo T y = some (.string n))
include hx hy
theorem y_strEq : Y c ds H T ⟨d, .binOp .eql t x y t', ty, ps, af, g⟩ (.bool (m.toList == n.toList)) := y_binStr hx hy (fun _ _ => rfl) (fun _ _ => rfl)
theorem y_strNe : Y c ds H T ⟨d, .binOp .neq t x y t', ty, ps, af, g⟩ (.bool (!(m.toList == n.toList))) := y_binStr hx hy (fun _ _ => rfl) (fun _ _ => rfl)
theorem y_strLt : Y c ds H T ⟨d, .binOp .lss t x y t', ty, ps, af, g⟩ (.bool (Op.bytesLess m.toList n.toList)) := y_binStr hx hy (fun _ _ => rfl) (fun _ _ => rfl)
theorem y_strAdd (h : ((m.size + n.size : Nat) : Int) ≤ 9223372036854775807) : Y c ds H T ⟨d, .binOp .add t x y t', ty, ps, af, g⟩ (.string (m ++ n)) := y_binStr hx hy (fun P w => by
  have h' : ¬ (((m.size + n.size : Nat) : Int) > IntKind.i64.max) := by
    show ¬ (((m.size + n.size : Nat) : Int) > 9223372036854775807)
    omega
  simp only [Op.stringOp, if_neg h']
  rfl) (fun P w => rfl)
end

/-! ### slices whose elements take k cells each -/
def epx (a : Option Addr) (o : Nat) : Value := .pointer (a.map fun x => x.add o)

/-- the elements l lie from a on, k cells each -/
def Elems {α : Type} (a : Option Addr) (k : Nat) (enc : α → List Value) (l : List α) : Res where
  A B w := l = [] ∨ ∃ b off, a = some ⟨b, off, none⟩ ∧ (∀ j, B j ↔ j = b) ∧ ∀ i x, l[i]? = some x → CellsAt w b (off + i * k) (enc x)
  loc B w w' h hA := by
    rcases hA with hA | ⟨b, off, ha, hB, hc⟩
    · exact .inl hA
    · refine .inr ⟨b, off, ha, hB, fun i x hi => ?_⟩
      have key : ∀ (vs : List Value) (o : Nat), CellsAt w b o vs → CellsAt w' b o vs := by
        intro vs
        induction vs with
        | nil => intro _ _; trivial
        | cons v r ih =>
          intro o hh
          refine ⟨?_, ih _ hh.2⟩
          rw [← hh.1]
          simp only [World.cell?]
          rw [h b ((hB b).2 rfl)]
      exact key _ _ (hc i x hi)

theorem elems_at {α : Type} {w : World} {a : Option Addr} {k : Nat} {enc : α → List Value} {l : List α} (h : Has w (Elems a k enc l)) {i : Nat} {x : α} (hx : l[i]? = some x) : ∃ b off, a = some ⟨b, off, none⟩ ∧ CellsAt w b (off + i * k) (enc x) := by
  obtain ⟨B, hB, hA⟩ := h
  rcases hA with hA | ⟨b, off, ha, hb, hc⟩
  · subst hA; simp at hx
  · exact ⟨b, off, ha, hc i x hx⟩

theorem cellsAt_get {w : World} {b : Nat} : ∀ (vs : List Value) (o i : Nat) (v : Value), CellsAt w b o vs → vs[i]? = some v → w.cell? ⟨b, o + i, none⟩ = some v
  | [], _, _, _, _, h => by simp at h
  | u :: r, o, 0, v, hc, h => by simp at h; subst h; exact hc.1
  | u :: r, o, i + 1, v, hc, h => by
    have := cellsAt_get r (o + 1) i v hc.2 (by simpa using h)
    rwa [show o + 1 + i = o + (i + 1) from by omega] at this

theorem elems_index {α : Type} {l : List α} {i : Int} (h0 : 0 ≤ i) (h1 : i < (l.length : Int)) [Inhabited α] : l[i.toNat]? = some (l.getD i.toNat default) := by
  have : i.toNat < l.length := by omega
  simp [this]

theorem y_indexE {α : Type} {t e : TypeId} {k cap : Nat} {a0 : Option Addr} {kd : IntKind} {i : Int} {enc : α → List Value} {l : List α} (ht : SE c.P t e k) (hx : evo T x = some (.slice a0 l.length cap)) (hy : evo T y = some (.int kd i))
    (hh : ∀ w, Hp c.U c.w0 H w → Has w (Elems a0 k enc l)) (h0 : 0 ≤ i) (h1 : i < (l.length : Int)) : Y c ds H T ⟨d, .indexAddr t x y, ty, ps, af, g⟩ (epx a0 (i.toNat * k)) :=
  y_run fun a w ha hw => by
    have hlt : i.toNat < l.length := by omega
    obtain ⟨b, off, hab, _⟩ := elems_at (hh w hw) (i := i.toNat) (x := l[i.toNat]) (by simp [hlt])
    subst hab
    simp only [execOp, ha.eval hx, ha.eval hy]
    refine run_val ?_
    unfold Instr.indexAt
    rw [run_bind_ok (v := (kd, i)) (w' := w) rfl]
    simp only []
    have hz : (sizeOf e).run c.P w = .ok k w := by
      have hi := ht.i
      cases hu : c.P.info? e with
      | none => rw [hu] at hi; cases hi
      | some j =>
        rw [hu] at hi
        simp only [Option.map_some, Option.some.injEq] at hi
        unfold sizeOf
        rw [run_bind_ok (run_info hu)]
        simp [pure, hi]
    have hu := run_underlying' (w := w) ht.u
    rw [run_bind_ok hu]
    simp only []
    rw [run_bind_ok (v := (some ⟨b, off, none⟩, l.length, e)) (w' := w) rfl, run_bind_ok hu]
    simp only []
    rw [if_pos ⟨h0, h1⟩, run_bind_ok hz]
    rfl

theorem y_fieldE {S : TypeId} {f k o : Nat} {a0 : Option Addr} (h : FO c.P S f k) (hx : evo T x = some (epx a0 o)) (ha0 : ∀ w, Hp c.U c.w0 H w → ∃ b off, a0 = some ⟨b, off, none⟩) : Y c ds H T ⟨d, .fieldAddr S x f, ty, ps, af, g⟩ (epx a0 (o + k)) :=
  y_run fun a w ha hw => by
    obtain ⟨b, off, rfl⟩ := ha0 w hw
    simp only [execOp, ha.eval hx]
    refine run_val ?_
    simp only [epx, Option.map_some, addr_add]
    rw [h.run b (off + o), Nat.add_assoc]

theorem y_loadE {α : Type} [Inhabited α] {t : TypeId} {k : Nat} {z : Value} {a0 : Option Addr} {i : Int} {enc : α → List Value} {l : List α} {vs : List Value} (ht : TF c.P t true k z) (hx : evo T x = some (epx a0 (i.toNat * k)))
    (hh : ∀ w, Hp c.U c.w0 H w → Has w (Elems a0 k enc l)) (h0 : 0 ≤ i) (h1 : i < (l.length : Int)) (hv : enc (l.getD i.toNat default) = vs) (hl : vs.length = k := by rfl) : Y c ds H T ⟨d, .load t x, ty, ps, af, g⟩ (.agg vs.toArray) :=
  y_run fun a w ha hw => by
    obtain ⟨b, off, hab, hc⟩ := elems_at (hh w hw) (elems_index h0 h1)
    subst hab
    simp only [execOp, ha.eval hx, epx, Option.map_some, addr_add]
    refine run_val ?_
    unfold Instr.loadAt
    rw [run_bind_ok (v := ⟨b, off + i.toNat * k, none⟩) (w' := w) rfl]
    rw [hv] at hc
    exact run_loadVar_agg ht hl hc

/-- elements of one cell -/
theorem y_loadE1 {α : Type} [Inhabited α] {t : TypeId} {k : Nat} {z : Value} {a0 : Option Addr} {i : Int} {enc : α → List Value} {l : List α} (ht : TF c.P t false k z) (hx : evo T x = some (epx a0 (i.toNat * k)))
    (hh : ∀ w, Hp c.U c.w0 H w → Has w (Elems a0 k enc l)) (h0 : 0 ≤ i) (h1 : i < (l.length : Int)) (hv : enc (l.getD i.toNat default) = [v]) : Y c ds H T ⟨d, .load t x, ty, ps, af, g⟩ v :=
  y_run fun a w ha hw => by
    obtain ⟨b, off, hab, hc⟩ := elems_at (hh w hw) (elems_index h0 h1)
    subst hab
    simp only [execOp, ha.eval hx, epx, Option.map_some, addr_add]
    refine run_val ?_
    unfold Instr.loadAt
    rw [run_bind_ok (v := ⟨b, off + i.toNat * k, none⟩) (w' := w) rfl]
    rw [hv] at hc
    exact run_loadVar_one ht hc.1

/-- a field of an element -/
theorem y_loadEF {α : Type} [Inhabited α] {t : TypeId} {k k' f : Nat} {z : Value} {a0 : Option Addr} {i : Int} {enc : α → List Value} {l : List α} (ht : TF c.P t false k' z) (hx : evo T x = some (epx a0 (i.toNat * k + f)))
    (hh : ∀ w, Hp c.U c.w0 H w → Has w (Elems a0 k enc l)) (h0 : 0 ≤ i) (h1 : i < (l.length : Int)) (hv : (enc (l.getD i.toNat default))[f]? = some v) : Y c ds H T ⟨d, .load t x, ty, ps, af, g⟩ v :=
  y_run fun a w ha hw => by
    obtain ⟨b, off, hab, hc⟩ := elems_at (hh w hw) (elems_index h0 h1)
    subst hab
    simp only [execOp, ha.eval hx, epx, Option.map_some, addr_add]
    refine run_val ?_
    unfold Instr.loadAt
    rw [run_bind_ok (v := ⟨b, off + (i.toNat * k + f), none⟩) (w' := w) rfl]
    refine run_loadVar_one ht ?_
    have := cellsAt_get _ _ f v hc hv
    rwa [Nat.add_assoc] at this
end

/-- an address of elements, where there is one -/
theorem elems_addr {α : Type} {w : World} {a : Option Addr} {k : Nat} {enc : α → List Value} {l : List α} (h : Has w (Elems a k enc l)) {i : Int} (h0 : 0 ≤ i) (h1 : i < (l.length : Int)) : ∃ b off, a = some ⟨b, off, none⟩ := by
  have hlt : i.toNat < l.length := by omega
  obtain ⟨b, off, hab, _⟩ := elems_at h (i := i.toNat) (x := l[i.toNat]) (by simp [hlt])
  exact ⟨b, off, hab⟩
end Go.K
