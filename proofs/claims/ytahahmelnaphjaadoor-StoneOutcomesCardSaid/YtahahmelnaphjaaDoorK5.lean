/- A layer for walks, fifth text: results. No statement of the seat is proved in this text. -/
import Derived.Test.YtahahmelnaphjaaDoorK4
namespace Go.K
open Go Go.RowKit

def one (tmps : Array Value) : ResultVar → Sem Value
  | .tmp t => pure (tmps.getD t undef)
  | .cell a t => do loadVar t (← asAddr (tmps.getD a undef))

/-- what one result is -/
def R1 (c : Cx) (ds : List Deferred) (T : List (Nat × Value)) (H : List Res) (r : ResultVar) (v : Value) : Prop :=
  ∀ a w, Sat c.n T ds a → Hp c.U c.w0 H w → (one a.tmps r).run c.P w = .ok v w

def F2 {α β : Type} (R : α → β → Prop) : List α → List β → Prop
  | [], [] => True
  | x :: xs, y :: ys => R x y ∧ F2 R xs ys
  | _, _ => False

def RL (c : Cx) (ds : List Deferred) (T : List (Nat × Value)) (H : List Res) : List ResultVar → List Value → Prop
  | [], [] => True
  | r :: rs, v :: vs => R1 c ds T H r v ∧ RL c ds T H rs vs
  | _, _ => False

section
variable {c : Cx} {ds : List Deferred} {H : List Res} {T : List (Nat × Value)} {v : Value}

theorem r1_tmp {t : Nat} (h : lk T t = some v) : R1 c ds T H (.tmp t) v := fun a w ha _ => by
  have := ha.val t v h
  simp [one, this, pure]

theorem r1_cell1 {s b o i k : Nat} {t e : TypeId} {z : Value} {cs : List Value} (ht : TF c.P t false k z) (h : lk T s = some (.pointer (some ⟨b, o, none⟩))) (hi : H[i]? = some (Box b cs e)) (hv : cs[o]? = some v) : R1 c ds T H (.cell s t) v := fun a w ha hw => by
  have := ha.val s _ h
  simp only [one, Array.getD_eq_getD_getElem?, this, Option.getD_some]
  rw [run_bind_ok (v := ⟨b, o, none⟩) (w' := w) rfl]
  exact run_loadVar_one ht (has_box_cell (hw.has hi) hv)
theorem r1_cellA {s b o i k : Nat} {t e : TypeId} {z : Value} {cs vs : List Value} (ht : TF c.P t true k z) (h : lk T s = some (.pointer (some ⟨b, o, none⟩))) (hi : H[i]? = some (Box b cs e)) (hv : (cs.drop o).take k = vs) (hl : vs.length = k) :
    R1 c ds T H (.cell s t) (.agg vs.toArray) := fun a w ha hw => by
  have := ha.val s _ h
  simp only [one, Array.getD_eq_getD_getElem?, this, Option.getD_some]
  rw [run_bind_ok (v := ⟨b, o, none⟩) (w' := w) rfl]
  exact run_loadVar_agg ht hl (has_box_cells (hw.has hi) hv)

theorem mapM_run {P : Program} {w : World} {α β : Type} (f : α → Sem β) : ∀ (xs : List α) (ys : List β), F2 (fun x y => (f x).run P w = .ok y w) xs ys → (xs.mapM f).run P w = .ok ys w
  | [], [], _ => rfl
  | [], _ :: _, h => h.elim
  | _ :: _, [], h => h.elim
  | x :: xs, y :: ys, h => by
    rw [List.mapM_cons, run_bind_ok h.1, run_bind_ok (mapM_run f xs ys h.2)]
    rfl

theorem run_results {P : Program} {w : World} {fn : Func} {tmps : Array Value} {rs : List ResultVar} {vs : List Value} (hf : fn.results = rs.toArray) (h : F2 (fun r v => (one tmps r).run P w = .ok v w) rs vs) :
    (results fn tmps).run P w = .ok (match vs with | [v] => v | vs => .tuple vs.toArray) w := by
  have hm : (fn.results.mapM (one tmps)).run P w = .ok vs.toArray w := by
    rw [hf, List.mapM_toArray]
    show ((fun l : List Value => l.toArray) <$> rs.mapM (one tmps)).run P w = _
    have : ((fun l : List Value => l.toArray) <$> rs.mapM (one tmps)) = (rs.mapM (one tmps) >>= fun l => pure l.toArray) := rfl
    rw [this, run_bind_ok (mapM_run _ rs vs h)]
    rfl
  have he : results fn tmps = (fn.results.mapM (one tmps) >>= fun vs => pure (if h : vs.size = 1 then vs[0] else .tuple vs)) := by
    unfold results
    congr 1
  rw [he, run_bind_ok hm]
  match vs with
  | [] => rfl
  | [v] => rfl
  | a :: b :: r => rfl

theorem RL.all {a : Act} {w : World} (ha : Sat c.n T ds a) (hw : Hp c.U c.w0 H w) : ∀ (rs : List ResultVar) (vs : List Value), RL c ds T H rs vs → F2 (fun r v => (one a.tmps r).run c.P w = .ok v w) rs vs
  | [], [], _ => trivial
  | [], _ :: _, h => h.elim
  | _ :: _, [], h => h.elim
  | _ :: rs, _ :: vs, h => ⟨h.1 a w ha hw, RL.all ha hw rs vs h.2⟩

theorem rv_one {fn : Func} {r : ResultVar} (hf : fn.results = #[r]) (h : R1 c ds T H r v) : RV c ds T H fn v := fun _ _ ha hw =>
  run_results (rs := [r]) (vs := [v]) hf (RL.all ha hw _ _ ⟨h, trivial⟩)
theorem rv_none {fn : Func} (hf : fn.results = #[]) : RV c ds T H fn (.tuple #[]) := fun _ _ _ _ => run_results (rs := []) (vs := []) hf trivial
theorem rv_two {fn : Func} {r1 r2 : ResultVar} {v1 v2 : Value} (hf : fn.results = #[r1, r2]) (h1 : R1 c ds T H r1 v1) (h2 : R1 c ds T H r2 v2) : RV c ds T H fn (.tuple #[v1, v2]) := fun _ _ ha hw =>
  run_results (rs := [r1, r2]) (vs := [v1, v2]) hf (RL.all ha hw _ _ ⟨h1, h2, trivial⟩)
theorem rv_three {fn : Func} {r1 r2 r3 : ResultVar} {v1 v2 v3 : Value} (hf : fn.results = #[r1, r2, r3]) (h1 : R1 c ds T H r1 v1) (h2 : R1 c ds T H r2 v2) (h3 : R1 c ds T H r3 v3) : RV c ds T H fn (.tuple #[v1, v2, v3]) := fun _ _ ha hw =>
  run_results (rs := [r1, r2, r3]) (vs := [v1, v2, v3]) hf (RL.all ha hw _ _ ⟨h1, h2, h3, trivial⟩)
theorem rv_four {fn : Func} {r1 r2 r3 r4 : ResultVar} {v1 v2 v3 v4 : Value} (hf : fn.results = #[r1, r2, r3, r4]) (h1 : R1 c ds T H r1 v1) (h2 : R1 c ds T H r2 v2) (h3 : R1 c ds T H r3 v3) (h4 : R1 c ds T H r4 v4) : RV c ds T H fn (.tuple #[v1, v2, v3, v4]) := fun _ _ ha hw =>
  run_results (rs := [r1, r2, r3, r4]) (vs := [v1, v2, v3, v4]) hf (RL.all ha hw _ _ ⟨h1, h2, h3, h4, trivial⟩)
end

/-- the post of a function that hands back one value, which bears no memory -/
def Pure (v : Value) (w : World) : Ending → World → Prop := fun e w' => e = .returned v ∧ Ext w w'
/-- .. that hands back one of a family of values, each with a resource in new memory -/
def Gives {X : Type} (V : X → Value) (A : X → Res) (w : World) : Ending → World → Prop := fun e w' => ∃ x, e = .returned (V x) ∧ Ext w w' ∧ New w w' (A x)

theorem Base.ext0 {w0 w : World} (h : Base (fun k => k < w0.heap.size) w0 w) : Ext w0 w := ⟨h.os, h.tape, h.output, h.size, h.same⟩

theorem gk_pure {P : Program} {n : Nat} {w0 : World} {T : List (Nat × Value)} {H : List Res} {fn : Func} {v u : Value} (hv : RV (cxOf P n w0) [] T H fn v) (hu : v = u) :
    GK (cxOf P n w0) [] (RetP P fn (Pure u w0)) T H := gk_return hv fun _ hw => ⟨by rw [hu], hw.base.ext0⟩

theorem gk_gives {P : Program} {n : Nat} {w0 : World} {T : List (Nat × Value)} {H : List Res} {fn : Func} {v : Value} {X : Type} {V : X → Value} {A : X → Res} (x : X) (i : Nat) (hv : RV (cxOf P n w0) [] T H fn v) (hu : v = V x) (hi : H[i]? = some (A x)) :
    GK (cxOf P n w0) [] (RetP P fn (Gives V A w0)) T H := gk_return hv fun w hw => by
  obtain ⟨B, hB, hA, _⟩ := Holds.front H i hi hw.holds
  refine ⟨x, by rw [hu], hw.base.ext0, B, fun k hk => ⟨?_, (hB k hk).2⟩, hA⟩
  have := (hB k hk).1
  simp only [cxOf] at this
  omega
end Go.K
