/- From a law's contract to its row: arguments opened, the end of a law. No statement of the seat is proved in this text. -/
import Derived.Test.YtahahmelnaphjaaDoorK16
import Derived.Test.YtahahmelnaphjaaDoorD2
import Derived.ProofKit
import Derived.OpenShut
import Derived.LaidMore
import Derived.LaidLaws
import Derived.LaidHandle
import Derived.Stop.Joined
import Derived.Deep.Slices
import Derived.WideKeyArgs
import Derived.ChangeSame
namespace Go.K
open Go Go.Stn Go.ChangeShapes Go.WideShapes Go.ChangeAt Go.WideElems Go.RowKit

def I64 (n : Int) : Prop := -9223372036854775808 ≤ n ∧ n ≤ 9223372036854775807
def PtIn (p : Pt) : Prop := I64 p.x ∧ I64 p.z

theorem list_of {α : Type} {Q : Nat → α → Prop} : ∀ n, (∀ i, i < n → ∃ x, Q i x) → ∃ l : List α, l.length = n ∧ ∀ i x, l[i]? = some x → Q i x
  | 0, _ => ⟨[], rfl, fun i x h => by simp at h⟩
  | n + 1, h => by
    obtain ⟨l, hl, hq⟩ := list_of n (fun i hi => h i (by omega))
    obtain ⟨x, hx⟩ := h n (by omega)
    refine ⟨l ++ [x], by simp [hl], fun i y hy => ?_⟩
    rcases Nat.lt_or_ge i n with hi | hi
    · rw [List.getElem?_append_left (by omega)] at hy; exact hq i y hy
    · rw [List.getElem?_append_right (by omega), hl] at hy
      have : i = n := by
        rcases Nat.lt_or_ge n i with g | g
        · rw [List.getElem?_eq_none (by simp; omega)] at hy; cases hy
        · omega
      subst this
      simp at hy
      subst hy; exact hx

section
variable {H : Type} {enc : TypeId × Value → H} {P : Program} {w : World} {base : Nat} {spare : Nat → Bool} {held : Bool}

/-- P has points at type e -/
structure PtT (P : Program) (e : TypeId) (fx fz : Field) : Prop where
  u : P.underlying e = some (.struct #[fx, fz])
  ox : fx.offset = 0
  oz : fz.offset = 1
  tx : P.underlying fx.type = some (.int .i64)
  tz : P.underlying fz.type = some (.int .i64)
  cx : P.cellsOf fx.type = 1
  cz : P.cellsOf fz.type = 1
  c : P.cellsOf e = 2

theorem open_pt {e : TypeId} {fx fz : Field} {fuel : Nat} {cs : List Value} {x : DataW H × List MemPlace} (T : PtT P e fx fz) (h : DataW.trod enc P w base spare held fuel e cs = some x) : ∃ p : Pt, PtIn p ∧ cs = encPt p := by
  obtain ⟨ys, n, _, _, hlen, _, hf⟩ := DataW.trod_struct T.u h
  rw [T.c] at hlen
  match cs, hlen with
  | [c0, c1], _ =>
    have h0 := hf 0 fx rfl
    have h1 := hf 1 fz rfl
    rw [T.ox, T.cx] at h0
    rw [T.oz, T.cz] at h1
    have hy : ys.length = 2 := by
      obtain ⟨ys', n', _, hx', _, hl', _⟩ := DataW.trod_struct T.u h
      have : (ys.map (·.1)).length = (ys'.map (·.1)).length := by
        have := ‹x = (.agg (ys.map (·.1)), ys.flatMap (·.2))›.symm.trans hx'
        simp only [Prod.mk.injEq, DataW.agg.injEq] at this
        rw [this.1]
      simp only [List.length_map] at this
      rw [this]; exact hl'
    match ys, hy with
    | [y0, y1], _ =>
      obtain ⟨a, e1, _, w1⟩ := DataW.trod_int T.tx (show DataW.trod enc P w base spare held n fx.type [c0] = some y0 from h0)
      obtain ⟨b, e2, _, w2⟩ := DataW.trod_int T.tz (show DataW.trod enc P w base spare held n fz.type [c1] = some y1 from h1)
      simp only [List.cons.injEq, and_true] at e1 e2
      subst e1; subst e2
      exact ⟨⟨a, b⟩, ⟨bounds_i64 w1, bounds_i64 w2⟩, rfl⟩

theorem open_pts {t e : TypeId} {fx fz : Field} {fuel : Nat} {cs : List Value} {x : DataW H × List MemPlace} (ht : P.underlying t = some (.slice e)) (T : PtT P e fx fz) (h : DataW.trod enc P w base spare held fuel t cs = some x) :
    ∃ (a : Option Addr) (l : List Pt) (cap : Nat), cs = [.slice a l.length cap] ∧ Has w (Pts a l) ∧ l.length ≤ cap ∧ ∀ p ∈ l, PtIn p := by
  rcases Go.Deep.open_slice ht h with ⟨rfl, _⟩ | ⟨a, len, cap, m, n, D, Pl, rfl, hb, hl, hm, hmm, hx, hi⟩
  · exact ⟨none, [], 0, rfl, has_nil, Nat.le_refl _, fun p hp => by cases hp⟩
  · have hlm : len ≤ m := by rw [hmm]; split <;> omega
    obtain ⟨l, hll, hq⟩ := list_of (Q := fun i (p : Pt) => PtIn p ∧ w.cell? (a.add (i * 2)) = some (.int .i64 p.x) ∧ w.cell? (a.add (i * 2 + 1)) = some (.int .i64 p.z)) len (fun i hil => by
      obtain ⟨cs', hc, ht'⟩ := hi i (by omega)
      obtain ⟨p, hp, rfl⟩ := open_pt T ht'
      rw [T.c] at hc
      obtain ⟨_, _, hat⟩ := World.cells?_some hc
      have h0 := hat 0 (by decide)
      have h1 := hat 1 (by decide)
      rw [Go.Deep.add_add] at h0 h1
      exact ⟨p, hp, h0, h1⟩)
    refine ⟨some a, l, cap, by rw [hll], ?_, by omega, fun p hp => ?_⟩
    · cases l with
      | nil => exact has_nil
      | cons p0 r =>
        have hc0 := (hq 0 p0 rfl).2.1
        obtain ⟨b, off, sp⟩ := a
        have hsp : sp = none := by
          cases sp with
          | none => rfl
          | some s =>
            exfalso
            simp only [World.cell?, Addr.add] at hc0
            split at hc0 <;> simp_all
        subst hsp
        have hbs : b < w.heap.size := by
          rcases Nat.lt_or_ge b w.heap.size with h | h
          · exact h
          · exfalso
            rw [addr_add] at hc0
            simp [World.cell?, Array.getElem?_eq_none h] at hc0
        refine ⟨(· = b), fun k hk => by rw [hk]; exact hbs, .inr ⟨b, off, rfl, fun _ => Iff.rfl, fun i p hp => ?_⟩⟩
        obtain ⟨_, h1, h2⟩ := hq i p hp
        rw [addr_add] at h1 h2
        exact ⟨h1, by rw [Nat.add_assoc]; exact h2, trivial⟩
    · obtain ⟨i, hi', rfl⟩ := List.getElem_of_mem hp
      exact (hq i _ (by simp [hi'])).1

/-- P has stones at type t -/
structure StnT (P : Program) (t tl e : TypeId) (f0 f1 f2 f3 f4 fx fz : Field) : Prop where
  u : P.underlying t = some (.struct #[f0, f1, f2, f3, f4])
  o0 : f0.offset = 0
  o1 : f1.offset = 1
  o2 : f2.offset = 2
  o3 : f3.offset = 3
  o4 : f4.offset = 4
  t0 : P.underlying f0.type = some .string
  t1 : f1.type = tl
  ul : P.underlying tl = some (.slice e)
  t2 : P.underlying f2.type = some (.int .i64)
  t3 : P.underlying f3.type = some (.int .i64)
  t4 : f4.type = e
  c0 : P.cellsOf f0.type = 1
  c1 : P.cellsOf tl = 1
  c2 : P.cellsOf f2.type = 1
  c3 : P.cellsOf f3.type = 1
  c : P.cellsOf t = 6
  pt : PtT P e fx fz

structure StnIn (s : Stn) : Prop where
  name : s.name.size ≤ maxLen
  shape : ∀ p ∈ s.shape, PtIn p
  depth : I64 s.depth
  density : I64 s.density
  grain : PtIn s.grain

theorem open_stn {t tl e : TypeId} {f0 f1 f2 f3 f4 fx fz : Field} {fuel : Nat} {cs : List Value} {x : DataW H × List MemPlace} (T : StnT P t tl e f0 f1 f2 f3 f4 fx fz) (h : DataW.trod enc P w base spare held fuel t cs = some x) :
    ∃ (s : Stn) (a : Option Addr) (cap : Nat), StnIn s ∧ Has w (Pts a s.shape) ∧ s.shape.length ≤ cap ∧ cs = [.string s.name, .slice a s.shape.length cap, .int .i64 s.depth, .int .i64 s.density, .int .i64 s.grain.x, .int .i64 s.grain.z] := by
  obtain ⟨ys, n, _, _, hlen, hyl, hf⟩ := DataW.trod_struct T.u h
  rw [T.c] at hlen
  match cs, hlen with
  | [c0, c1, c2, c3, c4, c5], _ =>
    match ys, hyl with
    | [y0, y1, y2, y3, y4], _ =>
      have h0 := hf 0 f0 rfl
      have h1 := hf 1 f1 rfl
      have h2 := hf 2 f2 rfl
      have h3 := hf 3 f3 rfl
      have h4 := hf 4 f4 rfl
      rw [T.o0, T.c0] at h0
      rw [T.o1, T.t1, T.c1] at h1
      rw [T.o2, T.c2] at h2
      rw [T.o3, T.c3] at h3
      rw [T.o4, T.t4, T.pt.c] at h4
      obtain ⟨s, e0, _, w0⟩ := DataW.trod_string T.t0 (show DataW.trod enc P w base spare held n f0.type [c0] = some y0 from h0)
      obtain ⟨a, l, cap, e1, hp, hc, hin⟩ := open_pts T.ul T.pt (show DataW.trod enc P w base spare held n tl [c1] = some y1 from h1)
      obtain ⟨d, e2, _, w2⟩ := DataW.trod_int T.t2 (show DataW.trod enc P w base spare held n f2.type [c2] = some y2 from h2)
      obtain ⟨k, e3, _, w3⟩ := DataW.trod_int T.t3 (show DataW.trod enc P w base spare held n f3.type [c3] = some y3 from h3)
      obtain ⟨g, wg, e4⟩ := open_pt T.pt (show DataW.trod enc P w base spare held n e [c4, c5] = some y4 from h4)
      simp only [List.cons.injEq, and_true] at e0 e1 e2 e3 e4
      obtain ⟨e4, e5⟩ := e4
      subst e0; subst e1; subst e2; subst e3; subst e4; subst e5
      exact ⟨⟨s, l, d, k, g⟩, a, cap, ⟨w0, hin, bounds_i64 w2, bounds_i64 w3, wg⟩, hp, hc, rfl⟩

theorem open_stone {t tl e : TypeId} {f0 f1 f2 f3 f4 fx fz : Field} {r : Reach} {b0 : Nat} {v : Value} {d : DataW H} {p : List MemPlace} (T : StnT P t tl e f0 f1 f2 f3 f4 fx fz) (hv : Value.okWide P w r b0 t v) (h : DataW.Trod enc P w base spare held t v d p) :
    ∃ (s : Stn) (a : Option Addr) (cap : Nat), StnIn s ∧ Has w (Pts a s.shape) ∧ s.shape.length ≤ cap ∧ v = stnV s a cap := by
  obtain ⟨cs, rfl, hsz⟩ := okWide_struct T.u hv
  obtain ⟨fuel, hf⟩ := h
  obtain ⟨s, a, cap, h1, h2, h3, h4⟩ := open_stn T hf
  refine ⟨s, a, cap, h1, h2, h3, ?_⟩
  obtain ⟨ls⟩ := cs
  have h5 : ls = _ := h4
  rw [h5]
theorem open_point {e : TypeId} {fx fz : Field} {r : Reach} {b0 : Nat} {v : Value} {d : DataW H} {p : List MemPlace} (T : PtT P e fx fz) (hv : Value.okWide P w r b0 e v) (h : DataW.Trod enc P w base spare held e v d p) : ∃ q : Pt, PtIn q ∧ v = ptV q := by
  obtain ⟨cs, rfl, hsz⟩ := okWide_struct T.u hv
  obtain ⟨fuel, hf⟩ := h
  obtain ⟨q, h1, h2⟩ := open_pt T hf
  refine ⟨q, h1, ?_⟩
  obtain ⟨ls⟩ := cs
  have h3 : ls = _ := h2
  rw [h3]
end

/-! ### the end of a law -/
section
variable {H : Type} {enc : TypeId × Value → H} {P : Program}
theorem trodAll_stays (hl : laidOutB P = true) {W W' : World} {sp' : Nat → Bool} : ∀ (ts : List TypeId) (vs : List Value) (ds : List (DataW H)) (ps : List MemPlace), (∀ t ∈ ts, P.readableRec t = true ∧ t < P.types.size) →
    DataW.TrodAll enc P W 0 (fun _ => true) true ts vs ds ps → (∀ p ∈ ps, W.sameAt W' p) → (∀ p ∈ ps, sp' p.block = true) → DataW.TrodAll enc P W' 0 sp' true ts vs ds ps
  | [], [], [], ps, _, h, _, _ => h
  | t :: ts, v :: vs, d :: ds, ps, hr, ⟨p, q, h1, h2, he⟩, hs, hsp => by
    subst he
    exact ⟨p, q, Trod_stays hl (hr t (List.mem_cons_self ..)).1 (hr t (List.mem_cons_self ..)).2 h1 (fun x hx => hs x (List.mem_append_left _ hx)) (fun x hx => hsp x (List.mem_append_left _ hx)),
      trodAll_stays hl ts vs ds q (fun x hx => hr x (List.mem_cons_of_mem _ hx)) h2 (fun x hx => hs x (List.mem_append_right _ hx)) (fun x hx => hsp x (List.mem_append_right _ hx)), rfl⟩
  | [], [], _ :: _, _, _, h, _, _ => h.elim
  | [], _ :: _, _, _, _, h, _, _ => h.elim
  | _ :: _, [], _, _, _, h, _, _ => h.elim
  | _ :: _, _ :: _, [], _, _, h, _, _ => h.elim

theorem law_post {f : Func} {s : ChangeSpec} {apart fresh handsOn again : Bool} {W W' : World} {args : Array Value} {ds : List (DataW H)} {before : List MemPlace} {tb : TypeId} (hl : laidOutB P = true)
    (hW : DataW.Whole enc P f.params.toList s.vars apart W args.toList ds [] before) (hvars : s.vars = []) (hread : f.params.toList.all (fun t => P.readableRec t && decide (t < P.types.size)) = true)
    (hfn : s.fn H (ds ++ []) = { results := [.lit (.bool true)], args := ds }) (hrt : f.resultTypes = #[tb]) (htb : P.underlying tb = some .bool) (hb : Ext W W') : s.post enc P f apart fresh handsOn again W args (.bool true) W' := by
  have hlt : ∀ p ∈ before, p.block < W.heap.size := fun p hp => hW.lt p hp
  have hold : ∀ p ∈ before, (fun b => decide (b < W.heap.size)) p.block = true := fun p hp => by simpa using hlt p hp
  have hW0 := hW
  obtain ⟨p, q, hA, hV, hpq, hz, hn⟩ := hW
  rw [hvars] at hV
  obtain ⟨_, rfl⟩ := trodVars_none hV
  rw [List.append_nil] at hpq
  subst hpq
  have hr : ∀ t ∈ f.params.toList, P.readableRec t = true ∧ t < P.types.size := fun t ht => by
    have := List.all_eq_true.1 hread t ht
    simpa using this
  have hsame : ∀ x ∈ before, W.sameAt W' x := fun x hx => by
    have hlx := hlt x hx
    cases x with
    | cell b off => exact hb.cell (p := ⟨b, off, none⟩) hlx
    | map b => exact hb.block b hlx
  have hargs : ∀ sp : Nat → Bool, (∀ p ∈ before, sp p.block = true) → DataW.TrodAll enc P W' 0 sp true f.params.toList args.toList ds before := fun sp hsp => trodAll_stays hl _ _ _ _ hr hA hsame hsp
  have hres : ∀ (b : Nat) (sp : Nat → Bool) (hd : Bool), DataW.TrodAll enc P W' b sp hd f.resultTypes.toList ((Value.bool true).resultList f.resultTypes.size) [.lit (.bool true)] [] := fun b sp hd => by
    rw [hrt]
    exact ⟨[], [], ⟨1, by simp [DataW.trod, Value.cells, htb]⟩, rfl, rfl⟩
  refine ⟨ds, [], before, [], before, [], hW0, ?_, ?_, ?_, World.keptBut_mono (fun p hp => ⟨hp, Or.inr (Or.inl hp)⟩) (hb.frame (· ∈ before)), fun _ => ?_⟩
  · rw [hfn]; exact hres _ _ _
  · rw [hfn]; exact hargs _ hold
  · rw [hfn, hvars]; rfl
  · refine ⟨fun j t r ht hrr => ?_, ds.cons (.lit (.bool true)), [], before, ⟨before, [], ?_, by rw [hvars]; rfl, by simp, ?_, ?_⟩, fun x hx _ => hx⟩
    · rw [hrt] at ht hrr
      have h0 : t = tb := by
        rcases j with _ | j
        · simpa using ht.symm
        · simp at ht
      have h1 : r = .bool true := by
        rcases j with _ | j
        · simpa [Value.resultList] using hrr.symm
        · simp at ht
      subst h0; subst h1
      exact okWide_bool_mk htb true
    · have h1 := trodAll_append (hargs (fun _ => true) (fun _ _ => rfl)) (hres 0 (fun _ => true) true)
      simpa using h1
    · intro b off hp
      rw [hb.frozen (hlt _ hp)]
      exact hz b off (by simpa using hp)
    · intro ha
      have := hn ha
      simpa using this
end

/-! ### a table of functions -/
theorem funcs_at {P : Program} {W : World} {l : List (String × DataW Unit)} (h : laidMetH P l W) {n : String} {x d : DataW Unit} (hm : (n, x) ∈ l) (hh : x.handleName?.isSome = true) (hd : x.funcsIn? = some d) : funcsAt P W n d := by
  unfold laidMetH at h
  have hmem : (n, x) ∈ l.filter fun x => x.2.handleName?.isSome := List.mem_filter.2 ⟨hm, hh⟩
  split at h
  · rename_i hf
    rw [hf] at hmem; cases hmem
  · rename_i y ys hf
    rw [hf] at hmem
    have := h.2 _ hmem
    simp only [hd] at this
    exact this
end Go.K
