/- A layer for walks, eleventh text: the rules for slices in memory of one's own, for slicing, for strings. No statement of the seat is proved in this text. -/
import Derived.Test.YtahahmelnaphjaaDoorK10
namespace Go.K
open Go Go.RowKit

section
variable {c : Cx} {ds : List Deferred} {p : Post} {T : List (Nat × Value)} {H : List Res} {ops : Array Oper} {rest : List Oper} {d : Nat} {dd : Option Nat} {ty : TypeId} {ps : String} {af : Array Edge} {g : Option (Nat × Bool)} {x y z : Operand} {u v : Value}
variable {α : Type} {k : Nat} {enc : α → List Value}

/-- a row is known otherwise -/
theorem gk_conv {K : Act → World → Prop} {R R' : Res} (i : Nat) (hi : H[i]? = some R) (hc : ∀ B w, R.A B w → R'.A B w) (h : GK c ds K T (H.set i R')) : GK c ds K T H := fun a w ha hw =>
  h a w ha (Hp.upd hw hi fun B _ hA => ⟨B, Mod.rfl, fun _ hk => .inl hk, hc B w hA⟩)

theorem row_nil {e : TypeId} {B : Nat → Prop} {w : World} : (Row (α := α) none k 0 e enc []).A B w := .inl ⟨rfl, rfl, rfl⟩

/-- an empty row, of a nil slice -/
theorem gk_newNil {K : Act → World → Prop} (e : TypeId) (enc : α → List Value) (k : Nat) (h : GK c ds K T (Row (α := α) none k 0 e enc [] :: H)) : GK c ds K T H := fun a w ha hw =>
  h a w ha ⟨hw.base, fun _ => False, fun _ hk => hk.elim, .inl ⟨rfl, rfl, rfl⟩, Holds.anti H (fun _ hk => hk.elim id False.elim) hw.holds⟩

theorem flat_take (he : Enc k enc) {n : Nat} {l : List α} (hn : n ≤ l.length) : (l.flatMap enc).take (n * k) = (l.take n).flatMap enc := by
  conv => lhs; rw [← List.take_append_drop n l, List.flatMap_append]
  have : ((l.take n).flatMap enc).length = n * k := by rw [flat_len he, List.length_take, Nat.min_eq_left hn]
  rw [← this, List.take_left]
theorem flat_drop (he : Enc k enc) {n : Nat} {l : List α} (hn : n ≤ l.length) : (l.flatMap enc).drop (n * k) = (l.drop n).flatMap enc := by
  conv => lhs; rw [← List.take_append_drop n l, List.flatMap_append]
  have : ((l.take n).flatMap enc).length = n * k := by rw [flat_len he, List.length_take, Nat.min_eq_left hn]
  rw [← this, List.drop_left]

theorem over_eq : ∀ (vs cs : List Value) (o : Nat), o + vs.length ≤ cs.length → over cs o vs = cs.take o ++ vs ++ cs.drop (o + vs.length)
  | [], cs, o, _ => by simp [over]
  | v :: r, cs, o, h => by
    simp only [List.length_cons] at h
    rw [over, over_eq r _ (o + 1) (by simp; omega)]
    have h1 : (cs.set o v).take (o + 1) = cs.take o ++ [v] := by
      rw [List.set_eq_take_append_cons_drop, if_pos (by omega), List.take_append, List.take_of_length_le (by simp; omega)]
      simp
      rw [show o + 1 - min o cs.length = 1 from by omega]
      simp
    have h2 : (cs.set o v).drop (o + 1 + r.length) = cs.drop (o + 1 + r.length) := by
      apply List.ext_getElem?
      intro i
      rw [List.getElem?_drop, List.getElem?_drop, List.getElem?_set_ne (by omega)]
    rw [h1, h2]
    simp only [List.length_cons, List.append_assoc, List.cons_append, List.nil_append]
    rw [show o + (r.length + 1) = o + 1 + r.length from by omega]

theorem row_shrink (he : Enc k enc) {a : Option Addr} {cap n : Nat} {e : TypeId} {l : List α} (hn : n ≤ l.length) : ∀ B w, (Row a k cap e enc l).A B w → (Row a k n e enc (l.take n)).A B w := by
  rintro B w (⟨rfl, rfl, rfl⟩ | ⟨b, off, cs, ha, hB, hb, h1, h2, h3⟩)
  · have : n = 0 := by simpa using hn
    subst this
    exact .inl ⟨rfl, rfl, rfl⟩
  · have hk := Nat.mul_le_mul_right k hn
    have hk2 := Nat.mul_le_mul_right k h1
    refine .inr ⟨b, off, cs, ha, hB, hb, by simp; omega, by omega, ?_⟩
    have hl : (l.take n).length = n := by simp; omega
    rw [hl]
    have e1 : (l.take n).flatMap enc = (l.flatMap enc).take (n * k) := by
      conv => rhs; rw [← List.take_append_drop n l, List.flatMap_append]
      have : ((l.take n).flatMap enc).length = n * k := by rw [flat_len he, hl]
      rw [← this, List.take_left]
    rw [e1, ← h3, List.take_take, Nat.min_eq_left hk]

theorem gk_append {t e : TypeId} {by_ : Nat} {zs : List Value} {a a2 : Option Addr} {cap c2 : Nat} {l m : List α} (i : Nat) (hf : AF c.P t e k by_ zs) (he : Enc k enc) (hn : Nat.blt d c.n = true)
    (hx : evo T x = some (.slice a l.length cap)) (hy : evo T y = some (.slice a2 m.length c2)) (hi : H[i]? = some (Row a k cap e enc l)) (hm : ∀ w, Hp c.U c.w0 H w → Has w (Elems a2 k enc m))
    (hb : (l.length + m.length) * by_ ≤ 140737488355328) (hl : l.length + m.length ≤ maxLen)
    (kk : ∀ a' cap', GK c ds (KL c ops p rest) ((d, .slice a' (l ++ m).length cap') :: T) (H.set i (Row a' k cap' e enc (l ++ m)))) :
    GK c ds (KL c ops p (⟨some d, .call ⟨.builtin .append, #[x, y], #[t, t]⟩, ty, ps, af, none⟩ :: rest)) T H := by
  refine gk_gen (X := Option Addr × Nat) (fun z => .slice z.1 (l ++ m).length z.2) (fun z => H.set i (Row z.1 k z.2 e enc (l ++ m))) rfl rfl hn ?_ (fun z => kk z.1 z.2)
  intro A w hs hw
  obtain ⟨B, hF⟩ := hw.foc hi
  obtain ⟨a', cap', w', B', hr, hmd, ho, hA⟩ := run_append_row (P := c.P) (ty := ty) hf he (c2 := c2) hF.A (hm w hw) hb hl
  unfold Yld
  rw [run_builtin (as := [x, y]) (vs := [.slice a l.length cap, .slice a2 m.length c2]) (by simp [evs, hx, hy]) hs w]
  simp only [builtin]
  rw [run_val hr]
  exact ⟨(a', cap'), rfl, hF.upd hi hmd ho hA⟩

theorem yx_buildSlice {t e : TypeId} {n : Nat} {parts : List (Nat × Operand)} {pv : List (Nat × Value)} {l : List α} (hp : evp T parts = some pv)
    (hr : ∀ w, (Instr.buildSlice t n pv.toArray).run c.P w = .ok (.slice (some ⟨w.heap.size, 0, none⟩) n n) (w.alloc (.cells (l.flatMap enc).toArray e))) (he : Enc k enc) (hl : l.length = n) :
    YX c ds H T ⟨dd, .buildSlice t n parts.toArray, ty, ps, af, g⟩ (fun b => .slice (some ⟨b, 0, none⟩) n n) (fun b => Row (some ⟨b, 0, none⟩) k n e enc l) := by
  refine ⟨fun a w ha hw => ?_⟩
  unfold Yld
  have : (execOp a.eval ⟨dd, .buildSlice t n parts.toArray, ty, ps, af, g⟩).run c.P w = .ok (.value (.slice (some ⟨w.heap.size, 0, none⟩) n n)) (w.alloc (.cells (l.flatMap enc).toArray e)) := by
    simp only [execOp]
    refine run_val ?_
    rw [List.map_toArray, ha.evalp hp]
    exact hr w
  rw [this]
  refine ⟨w.heap.size, rfl, ext_alloc _, (· = w.heap.size), fun k hk => by subst hk; simp, .inr ⟨w.heap.size, 0, l.flatMap enc, rfl, fun _ => Iff.rfl, World.alloc_heap_new w _, by omega, ?_, ?_⟩⟩
  · rw [flat_len he, hl]; omega
  · rw [List.drop_zero, ← flat_len he, List.take_length]

/-- a store into an element -/
theorem gk_storeE {t e : TypeId} {gg : Bool} {zz : Value} {a : Option Addr} {cap : Nat} {l : List α} {ix : Int} {vs : List Value} {x' : α} (i : Nat) (he : Enc k enc) (ht : TF c.P t gg k zz) (hx : evo T x = some (epx a (ix.toNat * k))) (hy : evo T y = some v)
    (hv : v.cells = vs.toArray) (hxx : enc x' = vs) (hi : H[i]? = some (Row a k cap e enc l)) (h0 : 0 ≤ ix) (h1 : ix < (l.length : Int))
    (kk : GK c ds (KL c ops p rest) T (H.set i (Row a k cap e enc (l.set ix.toNat x')))) : GK c ds (KL c ops p (⟨none, .store t x y, ty, ps, af, none⟩ :: rest)) T H := by
  refine gk_heap rfl (fun A w ha hw => ?_) kk
  obtain ⟨B, hF⟩ := hw.foc hi
  have hlt : ix.toNat < l.length := by omega
  rcases hF.A with ⟨_, _, rfl⟩ | ⟨b, off, cs, hab, hB, hbk, g1, g2, g3⟩
  · simp at hlt
  subst hab
  have hvl : vs.length = k := by rw [← hxx]; exact he.len x'
  have hone : vs.all cell1 = true := by rw [← hxx]; exact he.one x'
  have hkk : (ix.toNat + 1) * k ≤ cap * k := Nat.mul_le_mul_right _ (by omega)
  rw [Nat.add_mul, Nat.one_mul] at hkk
  obtain ⟨w', hr, hm, hb'⟩ := run_storeCells (P := c.P) (o := off + ix.toNat * k) vs cs 0 w hbk (by omega) hone
  have hrun : (execOp A.eval ⟨none, .store t x y, ty, ps, af, none⟩).run c.P w = .ok .skip w' := by
    simp only [execOp, ha.eval hx, ha.eval hy, epx, Option.map_some, addr_add]
    have h3 : (Instr.storeAt t (.pointer (some ⟨b, off + ix.toNat * k, none⟩)) v).run c.P w = .ok () w' := by
      unfold Instr.storeAt
      rw [run_bind_ok (v := ⟨b, off + ix.toNat * k, none⟩) (w' := w) rfl]
      unfold storeVar
      rw [run_bind_ok ht.size]
      have : v.cells.size = k := by rw [hv]; simpa using hvl
      simp only [this, ne_eq, not_true_eq_false, if_false]
      rw [hv]
      exact hr
    rw [run_bind_ok h3]
    rfl
  unfold Yld
  rw [hrun]
  refine hF.upd hi ⟨hm.os, hm.tape, hm.output, hm.size, fun j hj hbj => hm.same j hj (fun h => hbj ((hB j).2 h))⟩ (fun j hj => .inl hj) (.inr ⟨b, off, over cs (off + ix.toNat * k) vs, rfl, hB, hb', by simpa using g1, by rw [over_length]; exact g2, ?_⟩)
  rw [List.length_set, over_eq vs cs _ (by omega), hvl]
  have hll : l.length * k ≤ cap * k := Nat.mul_le_mul_right _ g1
  have hik : ix.toNat * k + k ≤ l.length * k := by
    have : (ix.toNat + 1) * k ≤ l.length * k := Nat.mul_le_mul_right _ hlt
    rwa [Nat.add_mul, Nat.one_mul] at this
  have e1 : (cs.take (off + ix.toNat * k)).drop off = (l.take ix.toNat).flatMap enc := by
    rw [List.drop_take, Nat.add_sub_cancel_left, ← flat_take he (by omega), ← g3, List.take_take, Nat.min_eq_left (by omega)]
  have hAl : ((l.take ix.toNat).flatMap enc).length = ix.toNat * k := by rw [flat_len he, List.length_take, Nat.min_eq_left (by omega)]
  have e2 : (cs.take (off + ix.toNat * k) ++ vs ++ cs.drop (off + ix.toNat * k + k)).drop off = (l.take ix.toNat).flatMap enc ++ (vs ++ cs.drop (off + ix.toNat * k + k)) := by
    rw [List.append_assoc, List.drop_append_of_le_length (by rw [List.length_take]; omega), e1]
  rw [e2, List.take_append, hAl, List.take_of_length_le (l := (l.take ix.toNat).flatMap enc) (by rw [hAl]; omega), List.take_append, hvl, List.take_of_length_le (l := vs) (by rw [hvl]; omega)]
  have e3 : (cs.drop (off + ix.toNat * k + k)).take (l.length * k - ix.toNat * k - k) = (l.drop (ix.toNat + 1)).flatMap enc := by
    rw [← flat_drop he (by omega), ← g3, List.drop_take, List.drop_drop, Nat.add_mul, Nat.one_mul]
    congr 1
    · omega
    · rw [Nat.add_assoc]
  rw [e3, List.set_eq_take_append_cons_drop, if_pos hlt, List.flatMap_append, List.flatMap_cons, hxx]
end
end Go.K
