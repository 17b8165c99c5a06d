/- A layer for walks, sixteenth text: elements of arrays. No statement of the seat is proved in this text. -/
import Derived.Test.YtahahmelnaphjaaDoorK15
namespace Go.K
open Go Go.RowKit

/-- t is an array type of n elements e of k cells -/
structure AE (P : Program) (t e : TypeId) (n k : Nat) : Prop where
  u : P.underlying t = some (.array n e)
  i : (P.info? e).map (fun i => i.size) = some k

abbrev encVal (v : Value) : List Value := [v]
theorem elems_cell {w : World} {b o i : Nat} {l : List Value} {v : Value} (h : Has w (Elems (some ⟨b, o, none⟩) 1 encVal l)) (hv : l[i]? = some v) : w.cell? ⟨b, o + i * 1, none⟩ = some v := by
  obtain ⟨b', off, hb, hc⟩ := elems_at h hv
  simp only [Option.some.injEq, Addr.mk.injEq] at hb
  obtain ⟨rfl, rfl, _⟩ := hb
  exact hc.1

section
variable {c : Cx} {ds : List Deferred} {p : Post} {T : List (Nat × Value)} {H : List Res} {ops : Array Oper} {rest : List Oper} {d : Option Nat} {ty : TypeId} {ps : String} {af : Array Edge} {g : Option (Nat × Bool)} {x y z : Operand} {u v : Value}
theorem y_castT {o : Oper} {b : Bool} (h : Y c ds H T o (.bool b)) (hb : b = true) : Y c ds H T o (.bool true) := by subst hb; exact h
theorem y_indexA {t e : TypeId} {n k b o : Nat} {kd : IntKind} {i : Int} (m : Nat) (ht : AE c.P t e n k) (hx : evo T x = some (.pointer (some ⟨b, o, none⟩))) (hy : evo T y = some (.int kd i)) (hm : i = (m : Int)) (h1 : m < n) :
    Y c ds H T ⟨d, .indexAddr t x y, ty, ps, af, g⟩ (.pointer (some ⟨b, o + m * k, none⟩)) :=
  y_run fun a w ha hw => by
    subst hm
    simp only [execOp, ha.eval hx, ha.eval hy]
    refine run_val ?_
    unfold Instr.indexAt
    rw [run_bind_ok (v := (kd, (m : Int))) (w' := w) rfl]
    simp only []
    have hz : (sizeOf e).run c.P w = .ok k w := by
      have hi := ht.i
      cases hu : c.P.info? e with
      | none => rw [hu] at hi; cases hi
      | some j =>
        rw [hu] at hi
        simp only [Option.map_some, Option.some.injEq] at hi
        unfold sizeOf
        rw [run_bind_ok (run_info hu)]
        simp [pure, hi]
    have hu := run_underlying' (w := w) ht.u
    rw [run_bind_ok hu]
    simp only []
    have hs : (Instr.sureAddr (.pointer (some ⟨b, o, none⟩))).run c.P w = .ok ⟨b, o, none⟩ w := rfl
    rw [run_bind_ok hs, run_bind_ok (v := (some ⟨b, o, none⟩, n, e)) (w' := w) rfl, run_bind_ok hu]
    simp only []
    rw [if_pos ⟨by omega, by omega⟩, run_bind_ok hz]
    simp only [addr_add, Int.toNat_natCast]
    rfl
variable {α : Type} {k : Nat} {enc : α → List Value}
/-- a store into an element, among operations in any order -/
theorem so_elem {t e : TypeId} {gg : Bool} {zz : Value} {a : Option Addr} {cap : Nat} {l : List α} {ix : Int} {vs : List Value} {x' : α} (he : Enc k enc) (ht : TF c.P t gg k zz) (hx : evo T x = some (epx a (ix.toNat * k))) (hy : evo T y = some v)
    (hv : v.cells = vs.toArray) (hxx : enc x' = vs) (h0 : 0 ≤ ix) (h1 : ix < (l.length : Int)) : StoreOb c ds T H ⟨d, .store t x y, ty, ps, af, g⟩ (Row a k cap e enc l) (Row a k cap e enc (l.set ix.toNat x')) := by
  refine ⟨fun A w B ha hw hBl hA => ?_⟩
  have hlt : ix.toNat < l.length := by omega
  rcases hA with ⟨_, _, rfl⟩ | ⟨b, off, cs, hab, hB, hbk, g1, g2, g3⟩
  · simp at hlt
  subst hab
  have hvl : vs.length = k := by rw [← hxx]; exact he.len x'
  have hone : vs.all cell1 = true := by rw [← hxx]; exact he.one x'
  have hkk : (ix.toNat + 1) * k ≤ cap * k := Nat.mul_le_mul_right _ (by omega)
  rw [Nat.add_mul, Nat.one_mul] at hkk
  obtain ⟨w', hr, hm, hb'⟩ := run_storeCells (P := c.P) (o := off + ix.toNat * k) vs cs 0 w hbk (by omega) hone
  have hrun : (execOp A.eval ⟨d, .store t x y, ty, ps, af, g⟩).run c.P w = .ok .skip w' := by
    simp only [execOp, ha.eval hx, ha.eval hy, epx, Option.map_some, addr_add]
    have h3 : (Instr.storeAt t (.pointer (some ⟨b, off + ix.toNat * k, none⟩)) v).run c.P w = .ok () w' := by
      unfold Instr.storeAt
      rw [run_bind_ok (v := ⟨b, off + ix.toNat * k, none⟩) (w' := w) rfl]
      unfold storeVar
      rw [run_bind_ok ht.size]
      have : v.cells.size = k := by rw [hv]; simpa using hvl
      simp only [this, ne_eq, not_true_eq_false, if_false]
      rw [hv]
      exact hr
    rw [run_bind_ok h3]
    rfl
  unfold Yld
  rw [hrun]
  refine ⟨⟨hm.os, hm.tape, hm.output, hm.size, fun j hj hbj => hm.same j hj (fun h => hbj ((hB j).2 h))⟩, B, (fun j hj => .inl hj), .inr ⟨b, off, over cs (off + ix.toNat * k) vs, rfl, hB, hb', by simpa using g1, by rw [over_length]; exact g2, ?_⟩⟩
  rw [List.length_set, over_eq vs cs _ (by omega), hvl]
  have hll : l.length * k ≤ cap * k := Nat.mul_le_mul_right _ g1
  have hik : ix.toNat * k + k ≤ l.length * k := by
    have : (ix.toNat + 1) * k ≤ l.length * k := Nat.mul_le_mul_right _ hlt
    rwa [Nat.add_mul, Nat.one_mul] at this
  have e1 : (cs.take (off + ix.toNat * k)).drop off = (l.take ix.toNat).flatMap enc := by
    rw [List.drop_take, Nat.add_sub_cancel_left, ← flat_take he (by omega), ← g3, List.take_take, Nat.min_eq_left (by omega)]
  have hAl : ((l.take ix.toNat).flatMap enc).length = ix.toNat * k := by rw [flat_len he, List.length_take, Nat.min_eq_left (by omega)]
  have e2 : (cs.take (off + ix.toNat * k) ++ vs ++ cs.drop (off + ix.toNat * k + k)).drop off = (l.take ix.toNat).flatMap enc ++ (vs ++ cs.drop (off + ix.toNat * k + k)) := by
    rw [List.append_assoc, List.drop_append_of_le_length (by rw [List.length_take]; omega), e1]
  rw [e2, List.take_append, hAl, List.take_of_length_le (l := (l.take ix.toNat).flatMap enc) (by rw [hAl]; omega), List.take_append, hvl, List.take_of_length_le (l := vs) (by rw [hvl]; omega)]
  have e3 : (cs.drop (off + ix.toNat * k + k)).take (l.length * k - ix.toNat * k - k) = (l.drop (ix.toNat + 1)).flatMap enc := by
    rw [← flat_drop he (by omega), ← g3, List.drop_take, List.drop_drop, Nat.add_mul, Nat.one_mul]
    congr 1
    · omega
    · rw [Nat.add_assoc]
  rw [e3, List.set_eq_take_append_cons_drop, if_pos hlt, List.flatMap_append, List.flatMap_cons, hxx]
end
end Go.K
