/- A layer for walks, tenth text: slices in memory of one's own; append, slicing, strings. No statement of the seat is proved in this text. -/
import Derived.Test.YtahahmelnaphjaaDoorK9
import Derived.ArgAppend
namespace Go.K
open Go Go.RowKit

/-- the elements l lie from a on, in a block of one's own, with room for cap elements -/
def Row {α : Type} (a : Option Addr) (k cap : Nat) (e : TypeId) (enc : α → List Value) (l : List α) : Res where
  A B w := (a = none ∧ cap = 0 ∧ l = []) ∨ ∃ b off cs, a = some ⟨b, off, none⟩ ∧ (∀ j, B j ↔ j = b) ∧ w.heap[b]? = some (.cells (List.toArray cs) e (0, 0)) ∧
    l.length ≤ cap ∧ off + cap * k ≤ cs.length ∧ (cs.drop off).take (l.length * k) = l.flatMap enc
  loc B w w' h hA := by
    rcases hA with hA | ⟨b, off, cs, ha, hB, hb, h1, h2, h3⟩
    · exact .inl hA
    · exact .inr ⟨b, off, cs, ha, hB, (h b ((hB b).2 rfl)).trans hb, h1, h2, h3⟩

/-- an encoding in k cells -/
structure Enc {α : Type} (k : Nat) (enc : α → List Value) : Prop where
  len : ∀ x, (enc x).length = k
  one : ∀ x, (enc x).all cell1 = true
  pos : 0 < k

section
variable {α : Type} {k : Nat} {enc : α → List Value}

theorem flat_len (h : Enc k enc) : ∀ (l : List α), (l.flatMap enc).length = l.length * k
  | [] => by simp
  | x :: r => by simp [List.flatMap_cons, h.len, flat_len h r, Nat.add_mul, Nat.add_comm]

theorem flat_get (h : Enc k enc) : ∀ (l : List α) (i : Nat) (x : α), l[i]? = some x → ((l.flatMap enc).drop (i * k)).take k = enc x
  | [], _, _, hx => by simp at hx
  | y :: r, 0, x, hx => by
    simp at hx; subst hx
    simp only [List.flatMap_cons, Nat.zero_mul, List.drop_zero]
    rw [← h.len y, List.take_left]
  | y :: r, i + 1, x, hx => by
    have ih := flat_get h r i x (by simpa using hx)
    rw [List.flatMap_cons, Nat.add_mul, Nat.one_mul, ← List.drop_drop]
    rw [show (enc y ++ r.flatMap enc).drop (i * k) = (enc y ++ r.flatMap enc).drop (i * k) from rfl]
    rw [List.drop_drop, Nat.add_comm (i * k) k, ← List.drop_drop]
    have : (enc y ++ r.flatMap enc).drop k = r.flatMap enc := by rw [← h.len y, List.drop_left]
    rw [this]
    exact ih

theorem flat_all (h : Enc k enc) : ∀ (l : List α), (l.flatMap enc).all cell1 = true
  | [] => rfl
  | x :: r => by simp [List.flatMap_cons, h.one, flat_all h r]

theorem cellsAt_iff {w : World} {b : Nat} : ∀ (vs : List Value) (o : Nat), CellsAt w b o vs ↔ ∀ i v, vs[i]? = some v → w.cell? ⟨b, o + i, none⟩ = some v
  | [], o => by simp [CellsAt]
  | v :: r, o => by
    constructor
    · intro h i u hu
      exact cellsAt_get _ o i u h hu
    · exact fun h => cellsAt_of _ o h

theorem row_cells {w : World} {b : Nat} {e : TypeId} {cs : List Value} (hb : w.heap[b]? = some (.cells cs.toArray e (0, 0))) (o : Nat) : w.cell? ⟨b, o, none⟩ = cs[o]? := by
  simp [World.cell?, hb]

theorem Row.elems (h : Enc k enc) {a : Option Addr} {cap : Nat} {e : TypeId} {l : List α} {B : Nat → Prop} {w : World} (hA : (Row a k cap e enc l).A B w) : (Elems a k enc l).A B w := by
  rcases hA with ⟨_, _, rfl⟩ | ⟨b, off, cs, ha, hB, hb, h1, h2, h3⟩
  · exact .inl rfl
  · refine .inr ⟨b, off, ha, hB, fun i x hx => (cellsAt_iff _ _).2 fun j v hv => ?_⟩
    rw [row_cells hb]
    have hi : i < l.length := (List.getElem?_eq_some_iff.1 hx).1
    have hj : j < k := by have := (List.getElem?_eq_some_iff.1 hv).1; rwa [h.len] at this
    have hg := flat_get h l i x hx
    rw [← h3] at hg
    rw [← hg] at hv
    rw [List.getElem?_take, if_pos hj, List.getElem?_drop, List.getElem?_take] at hv
    have : i * k + j < l.length * k := by
      have : (i + 1) * k ≤ l.length * k := Nat.mul_le_mul_right _ hi
      rw [Nat.add_mul] at this; omega
    rw [if_pos this, List.getElem?_drop] at hv
    rwa [Nat.add_assoc]

theorem has_row (h : Enc k enc) {a : Option Addr} {cap : Nat} {e : TypeId} {l : List α} {w : World} (hR : Has w (Row a k cap e enc l)) : Has w (Elems a k enc l) := by
  obtain ⟨B, hB, hA⟩ := hR
  exact ⟨B, hB, Row.elems h hA⟩
theorem rd_row (h : Enc k enc) {U : Nat → Prop} {a : Option Addr} {cap : Nat} {e : TypeId} {l : List α} {w : World} (hR : Rd U w (Row a k cap e enc l)) : Rd U w (Elems a k enc l) := by
  obtain ⟨B, hB, hA⟩ := hR
  exact ⟨B, hB, Row.elems h hA⟩

theorem Row.bounds {a : Option Addr} {cap : Nat} {e : TypeId} {l : List α} {B : Nat → Prop} {w : World} (hA : (Row a k cap e enc l).A B w) : l.length ≤ cap := by
  rcases hA with ⟨_, rfl, rfl⟩ | ⟨_, _, _, _, _, _, h, _⟩
  · simp
  · exact h
end

/-- closed facts on an append to slices of type t -/
structure AF (P : Program) (t e : TypeId) (k by_ : Nat) (zs : List Value) : Prop where
  u : P.underlying t = some (.slice e)
  i : (P.info? e).map (fun i => (i.size, i.bytes, i.zero.map (fun z => z.cells.toList))) = some (k, by_, some zs)
  zl : zs.length = k

theorem oneCell_of {v : Value} (h : cell1 v = true) : v.oneCell' = true := by
  cases v <;> first | rfl | simp [cell1] at h

theorem over_take : ∀ (vs cs : List Value) (o : Nat), o + vs.length ≤ cs.length → (over cs o vs).take o = cs.take o ∧ ((over cs o vs).drop o).take vs.length = vs
  | [], cs, o, _ => ⟨rfl, by simp⟩
  | v :: r, cs, o, h => by
    simp only [List.length_cons] at h
    obtain ⟨h1, h2⟩ := over_take r (cs.set o v) (o + 1) (by simp; omega)
    rw [over]
    have hlen : (over (cs.set o v) (o + 1) r).length = cs.length := by rw [over_length]; simp
    have ho : (over (cs.set o v) (o + 1) r)[o]? = some v := by
      have := congrArg (fun l : List Value => l[o]?) h1
      change (List.take (o + 1) _)[o]? = (List.take (o + 1) _)[o]? at this
      rw [List.getElem?_take, List.getElem?_take, if_pos (by omega), if_pos (by omega)] at this
      rw [this, List.getElem?_set_self (by omega)]
    refine ⟨?_, ?_⟩
    · have := congrArg (List.take o) h1
      rw [List.take_take, List.take_take, Nat.min_eq_left (by omega)] at this
      rw [this]
      apply List.ext_getElem?
      intro i
      rw [List.getElem?_take, List.getElem?_take]
      split
      · rw [List.getElem?_set_ne (by omega)]
      · rfl
    · have hd : (over (cs.set o v) (o + 1) r).drop o = v :: (over (cs.set o v) (o + 1) r).drop (o + 1) := by
        have hlt : o < (over (cs.set o v) (o + 1) r).length := by omega
        rw [List.drop_eq_getElem_cons hlt]
        congr 1
        exact (List.getElem?_eq_some_iff.1 ho).2
      rw [hd, List.length_cons, List.take_succ_cons, h2]

section
variable {P : Program} {α : Type} {k : Nat} {enc : α → List Value}

theorem run_append_row {t ty e : TypeId} {by_ : Nat} {zs : List Value} (hf : AF P t e k by_ zs) (he : Enc k enc) {a a2 : Option Addr} {cap c2 : Nat} {l m : List α} {w : World} {B : Nat → Prop}
    (hR : (Row a k cap e enc l).A B w) (hm : Has w (Elems a2 k enc m)) (hb : (l.length + m.length) * by_ ≤ 140737488355328) (hl : l.length + m.length ≤ maxLen) :
    ∃ a' cap' w' B', (Builtin.append_ #[t, t] ty #[.slice a l.length cap, .slice a2 m.length c2]).run P w = .ok (.slice a' (l ++ m).length cap') w' ∧ Mod B w w' ∧ Own B B' w w' ∧ (Row a' k cap' e enc (l ++ m)).A B' w' := by
  have hi := hf.i
  cases hu : P.info? e with
  | none => rw [hu] at hi; cases hi
  | some i =>
  rw [hu] at hi
  simp only [Option.map_some, Option.some.injEq, Prod.mk.injEq] at hi
  obtain ⟨hsz, hby, hz⟩ := hi
  cases hz0 : i.zero with
  | none => rw [hz0] at hz; cases hz
  | some z =>
  have hzl : z.cells.size = i.size := by
    rw [hz0] at hz
    simp only [Option.map_some, Option.some.injEq] at hz
    rw [hsz, ← hf.zl, ← hz]; simp
  have hcap := Row.bounds hR
  have hsmall : l.length + m.length ≤ 9223372036854775807 := by simp only [maxLen] at hl; omega
  by_cases hm0 : m = []
  · subst hm0
    refine ⟨a, cap, w, B, ?_, Mod.rfl, fun k hk => .inl hk, by simpa using hR⟩
    have hfc : (Builtin.firstCells i.size 0 (.slice a2 0 c2)).run P w = .ok #[] w := by
      cases a2 with
      | none => exact run_firstCells_none w _ _ _ _
      | some b2 => exact run_firstCells_some w i.size 0 b2 _ _ [] (by simp) (by simp)
    cases a with
    | none => simp [Builtin.append_, run_underlying hf.u, sizeOf, typeInfo, hu, Builtin.lenOf, hcap, hfc]
    | some b1 => simp [Builtin.append_, run_underlying hf.u, sizeOf, typeInfo, hu, Builtin.lenOf, hcap, hfc, storeCells]
  · obtain ⟨x0, m', hm1⟩ : ∃ x m', m = x :: m' := by cases m with
      | nil => exact absurd rfl hm0
      | cons x m' => exact ⟨x, m', rfl⟩
    obtain ⟨b2, off2, ha2, _⟩ := elems_at hm (i := 0) (x := x0) (by rw [hm1]; rfl)
    have hmlen : 0 < m.length := by rw [hm1]; simp
    have hnl : (m.flatMap enc).length = m.length * i.size := by rw [flat_len he, hsz]
    have hnews : ∀ j v, (m.flatMap enc)[j]? = some v → w.cell? ((⟨b2, off2, none⟩ : Addr).add j) = some v := by
      intro j v hj
      have hjl : j < m.length * k := by rw [← flat_len he]; exact (List.getElem?_eq_some_iff.1 hj).1
      have hq : j / k < m.length := Nat.div_lt_of_lt_mul (by rwa [Nat.mul_comm])
      obtain ⟨b3, off3, ha3, hc3⟩ := elems_at hm (i := j / k) (x := m[j / k]) (by simp [hq])
      rw [ha2] at ha3
      simp only [Option.some.injEq, Addr.mk.injEq] at ha3
      obtain ⟨rfl, rfl, _⟩ := ha3
      have hg := flat_get he m (j / k) m[j / k] (by simp [hq])
      have hmod : j % k < k := Nat.mod_lt _ he.pos
      have hdm : j / k * k + j % k = j := by rw [Nat.mul_comm]; exact Nat.div_add_mod j k
      have hv : (enc m[j / k])[j % k]? = some v := by
        rw [← hg, List.getElem?_take, if_pos hmod, List.getElem?_drop, hdm]; exact hj
      have := cellsAt_get _ _ _ _ hc3 hv
      rw [addr_add]
      rwa [Nat.add_assoc, hdm] at this
    have hone : ∀ u ∈ m.flatMap enc, u.oneCell' = true := fun u hu' => oneCell_of (List.all_eq_true.1 (flat_all he m) u hu')
    subst hsz; subst hby
    by_cases hroom : l.length + m.length ≤ cap
    · -- room
      rcases hR with ⟨_, rfl, rfl⟩ | ⟨b, off, cs, ha, hB, hbk, h1, h2, h3⟩
      · omega
      · subst ha
        have hfit : off + l.length * i.size + (m.flatMap enc).length ≤ cs.length := by
          have : (l.length + m.length) * i.size ≤ cap * i.size := Nat.mul_le_mul_right _ hroom
          rw [Nat.add_mul] at this
          rw [hnl]; omega
        obtain ⟨w', hr, hmd, hb'⟩ := run_storeCells (P := P) (b := b) (o := off) (m.flatMap enc) cs (l.length * i.size) w hbk (by omega) (flat_all he m)
        have hst : (storeCells (Addr.add ⟨b, off, none⟩ (l.length * i.size)) (m.flatMap enc)).run P w = .ok () w' := by
          obtain ⟨w2, hr2, hmd2, hb2⟩ := run_storeCells (P := P) (b := b) (o := off + l.length * i.size) (m.flatMap enc) cs 0 w hbk (by omega) (flat_all he m)
          rw [addr_add]
          have key : ∀ (vs : List Value) (j : Nat) (w : World), (storeCells ⟨b, off, none⟩ vs (l.length * i.size + j)).run P w = (storeCells ⟨b, off + l.length * i.size, none⟩ vs j).run P w := by
            intro vs
            induction vs with
            | nil => intro j w; rfl
            | cons v r ih =>
              intro j w
              unfold storeCells
              simp only [Sem.run_bind, addr_add]
              rw [show off + (l.length * i.size + j) = off + l.length * i.size + j from by omega]
              congr 1
              funext _ w1
              rw [show l.length * i.size + j + 1 = l.length * i.size + (j + 1) from by omega]
              exact ih (j + 1) w1
          rw [← key _ 0 w]
          exact hr
        refine ⟨some ⟨b, off, none⟩, cap, w', (· = b), ?_, ⟨hmd.os, hmd.tape, hmd.output, hmd.size, fun j hj hbj => hmd.same j hj (fun h => hbj ((hB j).2 h))⟩, fun j hj => .inl ((hB j).2 hj), ?_⟩
        · have hfc := run_firstCells_some (P := P) w i.size m.length ⟨b2, off2, none⟩ m.length c2 (m.flatMap enc) hnl hnews
          subst ha2
          simp [Builtin.append_, run_underlying hf.u, sizeOf, typeInfo, hu, Builtin.lenOf, hroom, hfc, hst]
        · refine .inr ⟨b, off, over cs (off + l.length * i.size) (m.flatMap enc), rfl, fun _ => Iff.rfl, hb', by simpa using hroom, by rw [over_length]; exact h2, ?_⟩
          obtain ⟨t1, t2⟩ := over_take (m.flatMap enc) cs (off + l.length * i.size) (by omega)
          have hlen2 : (over cs (off + l.length * i.size) (m.flatMap enc)).length = cs.length := over_length _ _ _
          rw [List.flatMap_append, List.length_append, Nat.add_mul, ← hnl]
          have e1 : ((over cs (off + l.length * i.size) (m.flatMap enc)).drop off).take (l.length * i.size) = l.flatMap enc := by
            rw [← h3]
            have := congrArg (List.drop off) t1
            rwa [List.drop_take, List.drop_take, Nat.add_sub_cancel_left] at this
          rw [List.take_add, e1, List.drop_drop]
          congr 1
    · -- grown
      have hg : cap < l.length + m.length := by omega
      rcases hR with ⟨ha, hc0, hl0⟩ | ⟨b, off, cs, ha, hB, hbk, h1, h2, h3⟩
      · subst ha; subst hc0; subst hl0
        have hr := run_append_nil (P := P) w t ty e i z hf.u hu hz0 ⟨b2, off2, none⟩ m.length c2 (m.flatMap enc) hnl hnews hmlen (by simp at hsmall; omega) (by simp at hb; omega)
        subst ha2
        refine ⟨some ⟨w.heap.size, 0, none⟩, grownCap w m.length 0 e, w.drew.alloc (.cells ((m.flatMap enc).toArray ++ Builtin.zeroCells z.cells (grownCap w m.length 0 e - m.length)) e), (· = w.heap.size), by simpa only [List.length_nil, Nat.zero_add, List.nil_append] using hr, ⟨rfl, rfl, rfl, by simp, fun j hj _ => heap_alloc_old w.drew _ hj⟩, fun j hj => .inr ⟨by omega, by subst hj; simp⟩, .inr ⟨w.heap.size, 0, m.flatMap enc ++ (Builtin.zeroCells z.cells (grownCap w m.length 0 e - m.length)).toList, rfl, fun _ => Iff.rfl, ?_, ?_, ?_, ?_⟩⟩
        · refine (World.alloc_heap_new w.drew _).trans ?_
          congr 2
          exact Array.ext' (by simp)
        · simpa using grownCap_ge w m.length 0 e
        · have := grownCap_ge w m.length 0 e
          simp only [List.length_append, hnl, Array.length_toList, size_zeroCells, hzl, Nat.zero_add, ← Nat.add_mul]
          exact Nat.mul_le_mul_right _ (by omega)
        · simp only [List.drop_zero, List.nil_append, ← hnl, List.take_left]
      · subst ha
        have holds : ∀ j v, (l.flatMap enc)[j]? = some v → w.cell? ((⟨b, off, none⟩ : Addr).add j) = some v := by
          intro j v hj
          rw [addr_add, row_cells hbk]
          rw [← h3, List.getElem?_take] at hj
          split at hj
          · rwa [List.getElem?_drop] at hj
          · cases hj
        have hlo : (l.flatMap enc).length = l.length * i.size := flat_len he l
        have hr := run_append_grow (P := P) w t ty e i z hf.u hu hz0 ⟨b, off, none⟩ l.length cap (l.flatMap enc) hlo holds ⟨b2, off2, none⟩ m.length c2 (m.flatMap enc) hnl hnews hg (by omega) (growslice_fits hg hb)
        subst ha2
        refine ⟨some ⟨w.heap.size, 0, none⟩, grownCap w (l.length + m.length) cap e, w.drew.alloc (.cells ((l.flatMap enc).toArray ++ (m.flatMap enc).toArray ++ Builtin.zeroCells z.cells (grownCap w (l.length + m.length) cap e - (l.length + m.length))) e), (· = w.heap.size), by simpa only [List.length_append] using hr, ⟨rfl, rfl, rfl, by simp, fun j hj _ => heap_alloc_old w.drew _ hj⟩, fun j hj => .inr ⟨by omega, by subst hj; simp⟩, .inr ⟨w.heap.size, 0, l.flatMap enc ++ m.flatMap enc ++ (Builtin.zeroCells z.cells (grownCap w (l.length + m.length) cap e - (l.length + m.length))).toList, rfl, fun _ => Iff.rfl, ?_, ?_, ?_, ?_⟩⟩
        · refine (World.alloc_heap_new w.drew _).trans ?_
          congr 2
          exact Array.ext' (by simp)
        · simpa using grownCap_ge w (l.length + m.length) cap e
        · have := grownCap_ge w (l.length + m.length) cap e
          simp only [List.length_append, hnl, hlo, Array.length_toList, size_zeroCells, hzl, Nat.zero_add, ← Nat.add_mul]
          exact Nat.mul_le_mul_right _ (by omega)
        · simp only [List.drop_zero, List.flatMap_append, List.length_append, Nat.add_mul]
          rw [← hlo, ← hnl, ← List.length_append, List.take_left]
end
end Go.K
