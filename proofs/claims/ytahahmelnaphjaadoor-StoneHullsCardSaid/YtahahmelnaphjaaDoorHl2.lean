/- What the proof of the root text leans on, part 2: the layer, plain facts and walks. No statement of the seat is proved in this text. -/
import Derived.ChangeSame
import Derived.Deep.Slices
import Derived.LaidHandle
import Derived.LaidLaws
import Derived.LaidMore
import Derived.OpenShut
import Derived.ProofKit
import Derived.Stop.Joined
import Derived.Test.YtahahmelnaphjaaDoorProg
import Derived.WideKeyArgs
import Derived.Test.YtahahmelnaphjaaDoorHl1
namespace Go.K
open Go Go.RowKit
/-- t is an array type of n elements e of k cells -/
structure AE (P : Program) (t e : TypeId) (n k : Nat) : Prop where
  u : P.underlying t = some (.array n e)
  i : (P.info? e).map (fun i => i.size) = some k
abbrev encVal (v : Value) : List Value := [v]
theorem elems_cell {w : World} {b o i : Nat} {l : List Value} {v : Value} (h : Has w (Elems (some ⟨b, o, none⟩) 1 encVal l)) (hv : l[i]? = some v) : w.cell? ⟨b, o + i * 1, none⟩ = some v := by
  obtain ⟨b', off, hb, hc⟩ := elems_at h hv
  simp only [Option.some.injEq, Addr.mk.injEq] at hb
  obtain ⟨rfl, rfl, _⟩ := hb
  exact hc.1
section
variable {c : Cx} {ds : List Deferred} {p : Post} {T : List (Nat × Value)} {H : List Res} {ops : Array Oper} {rest : List Oper} {d : Option Nat} {ty : TypeId} {ps : String} {af : Array Edge} {g : Option (Nat × Bool)} {x y z : Operand} {u v : Value}
theorem y_castT {o : Oper} {b : Bool} (h : Y c ds H T o (.bool b)) (hb : b = true) : Y c ds H T o (.bool true) := by subst hb; exact h
theorem y_indexA {t e : TypeId} {n k b o : Nat} {kd : IntKind} {i : Int} (m : Nat) (ht : AE c.P t e n k) (hx : evo T x = some (.pointer (some ⟨b, o, none⟩))) (hy : evo T y = some (.int kd i)) (hm : i = (m : Int)) (h1 : m < n) :
    Y c ds H T ⟨d, .indexAddr t x y, ty, ps, af, g⟩ (.pointer (some ⟨b, o + m * k, none⟩)) :=
  y_run fun a w ha hw => by
    subst hm
    simp only [execOp, ha.eval hx, ha.eval hy]
    refine run_val ?_
    unfold Instr.indexAt
    rw [run_bind_ok (v := (kd, (m : Int))) (w' := w) rfl]
    simp only []
    have hz : (sizeOf e).run c.P w = .ok k w := by
      have hi := ht.i
      cases hu : c.P.info? e with
      | none => rw [hu] at hi; cases hi
      | some j =>
        rw [hu] at hi
        simp only [Option.map_some, Option.some.injEq] at hi
        unfold sizeOf
        rw [run_bind_ok (run_info hu)]
        simp [pure, hi]
    have hu := run_underlying' (w := w) ht.u
    rw [run_bind_ok hu]
    simp only []
    have hs : (Instr.sureAddr (.pointer (some ⟨b, o, none⟩))).run c.P w = .ok ⟨b, o, none⟩ w := rfl
    rw [run_bind_ok hs, run_bind_ok (v := (some ⟨b, o, none⟩, n, e)) (w' := w) rfl, run_bind_ok hu]
    simp only []
    rw [if_pos ⟨by omega, by omega⟩, run_bind_ok hz]
    simp only [addr_add, Int.toNat_natCast]
    rfl
variable {α : Type} {k : Nat} {enc : α → List Value}
/-- a store into an element, among operations in any order -/
theorem so_elem {t e : TypeId} {gg : Bool} {zz : Value} {a : Option Addr} {cap : Nat} {l : List α} {ix : Int} {vs : List Value} {x' : α} (he : Enc k enc) (ht : TF c.P t gg k zz) (hx : evo T x = some (epx a (ix.toNat * k))) (hy : evo T y = some v)
    (hv : v.cells = vs.toArray) (hxx : enc x' = vs) (h0 : 0 ≤ ix) (h1 : ix < (l.length : Int)) : StoreOb c ds T H ⟨d, .store t x y, ty, ps, af, g⟩ (Row a k cap e enc l) (Row a k cap e enc (l.set ix.toNat x')) := by
  refine ⟨fun A w B ha hw hBl hA => ?_⟩
  have hlt : ix.toNat < l.length := by omega
  rcases hA with ⟨_, _, rfl⟩ | ⟨b, off, cs, hab, hB, hbk, g1, g2, g3⟩
  · simp at hlt
  subst hab
  have hvl : vs.length = k := by rw [← hxx]; exact he.len x'
  have hone : vs.all cell1 = true := by rw [← hxx]; exact he.one x'
  have hkk : (ix.toNat + 1) * k ≤ cap * k := Nat.mul_le_mul_right _ (by omega)
  rw [Nat.add_mul, Nat.one_mul] at hkk
  obtain ⟨w', hr, hm, hb'⟩ := run_storeCells (P := c.P) (o := off + ix.toNat * k) vs cs 0 w hbk (by omega) hone
  have hrun : (execOp A.eval ⟨d, .store t x y, ty, ps, af, g⟩).run c.P w = .ok .skip w' := by
    simp only [execOp, ha.eval hx, ha.eval hy, epx, Option.map_some, addr_add]
    have h3 : (Instr.storeAt t (.pointer (some ⟨b, off + ix.toNat * k, none⟩)) v).run c.P w = .ok () w' := by
      unfold Instr.storeAt
      rw [run_bind_ok (v := ⟨b, off + ix.toNat * k, none⟩) (w' := w) rfl]
      unfold storeVar
      rw [run_bind_ok ht.size]
      have : v.cells.size = k := by rw [hv]; simpa using hvl
      simp only [this, ne_eq, not_true_eq_false, if_false]
      rw [hv]
      exact hr
    rw [run_bind_ok h3]
    rfl
  unfold Yld
  rw [hrun]
  refine ⟨⟨hm.os, hm.tape, hm.output, hm.size, fun j hj hbj => hm.same j hj (fun h => hbj ((hB j).2 h))⟩, B, (fun j hj => .inl hj), .inr ⟨b, off, over cs (off + ix.toNat * k) vs, rfl, hB, hb', by simpa using g1, by rw [over_length]; exact g2, ?_⟩⟩
  rw [List.length_set, over_eq vs cs _ (by omega), hvl]
  have hll : l.length * k ≤ cap * k := Nat.mul_le_mul_right _ g1
  have hik : ix.toNat * k + k ≤ l.length * k := by
    have : (ix.toNat + 1) * k ≤ l.length * k := Nat.mul_le_mul_right _ hlt
    rwa [Nat.add_mul, Nat.one_mul] at this
  have e1 : (cs.take (off + ix.toNat * k)).drop off = (l.take ix.toNat).flatMap enc := by
    rw [List.drop_take, Nat.add_sub_cancel_left, ← flat_take he (by omega), ← g3, List.take_take, Nat.min_eq_left (by omega)]
  have hAl : ((l.take ix.toNat).flatMap enc).length = ix.toNat * k := by rw [flat_len he, List.length_take, Nat.min_eq_left (by omega)]
  have e2 : (cs.take (off + ix.toNat * k) ++ vs ++ cs.drop (off + ix.toNat * k + k)).drop off = (l.take ix.toNat).flatMap enc ++ (vs ++ cs.drop (off + ix.toNat * k + k)) := by
    rw [List.append_assoc, List.drop_append_of_le_length (by rw [List.length_take]; omega), e1]
  rw [e2, List.take_append, hAl, List.take_of_length_le (l := (l.take ix.toNat).flatMap enc) (by rw [hAl]; omega), List.take_append, hvl, List.take_of_length_le (l := vs) (by rw [hvl]; omega)]
  have e3 : (cs.drop (off + ix.toNat * k + k)).take (l.length * k - ix.toNat * k - k) = (l.drop (ix.toNat + 1)).flatMap enc := by
    rw [← flat_drop he (by omega), ← g3, List.drop_take, List.drop_drop, Nat.add_mul, Nat.one_mul]
    congr 1
    · omega
    · rw [Nat.add_assoc]
  rw [e3, List.set_eq_take_append_cons_drop, if_pos hlt, List.flatMap_append, List.flatMap_cons, hxx]
end
end Go.K

namespace Go.Stn
open Go Go.K Go.RowKit
abbrev W (n : Int) : Int := IntKind.i64.wrap n
structure Pt where
  x : Int
  z : Int
  deriving Inhabited, DecidableEq
abbrev encPt (p : Pt) : List Value := [.int .i64 p.x, .int .i64 p.z]
abbrev ptV (p : Pt) : Value := .agg #[.int .i64 p.x, .int .i64 p.z]
abbrev Pts (a : Option Addr) (l : List Pt) : Res := Elems a 2 encPt l
theorem encPt_ok : Enc 2 encPt := ⟨fun _ => rfl, fun _ => rfl, by decide⟩
abbrev encI (n : Int) : List Value := [.int .i64 n]
abbrev Ints (a : Option Addr) (l : List Int) : Res := Elems a 1 encI l
theorem encI_ok : Enc 1 encI := ⟨fun _ => rfl, fun _ => rfl, by decide⟩
/-- lengths of slices that fit -/
abbrev Small (n : Nat) : Prop := n ≤ 1099511627776
def cmpI (x y : Int) : Int := if x < y then -1 else if y < x then 1 else 0
def subW (p q : Pt) : Pt := ⟨W (p.x - q.x), W (p.z - q.z)⟩
def crossW (p q : Pt) : Int := W (W (p.x * q.z) - W (p.z * q.x))
def dotW (p q : Pt) : Int := W (W (p.x * q.x) + W (p.z * q.z))
def turnW (p q r : Pt) : Int := crossW (subW q p) (subW r q)
def sideW (p q r : Pt) : Int := W (W (W (q.x - p.x) * W (r.z - p.z)) - W (W (q.z - p.z) * W (r.x - p.x)))
/-- for all numbers below n -/
def allI (n : Nat) (p : Nat → Bool) : Bool := (List.range n).all p
theorem allI_iff {n : Nat} {p : Nat → Bool} : allI n p = true ↔ ∀ i, i < n → p i = true := by simp [allI]
theorem allI_true {n : Nat} {p : Nat → Bool} (h : ∀ i, i < n → p i = true) : allI n p = true := allI_iff.2 h
theorem allI_false {n i : Nat} {p : Nat → Bool} (hi : i < n) (h : p i = false) : allI n p = false := by
  cases hb : allI n p with
  | false => rfl
  | true => rw [allI_iff.1 hb i hi] at h; cases h
def orI : List Int → Int
  | [] => 0
  | x :: r => if x ≠ 0 then x else orI r
theorem orI_drop (l : List Int) (n : Nat) (h : n < l.length) : orI (l.drop n) = if l.getD n default ≠ 0 then l.getD n default else orI (l.drop (n + 1)) := by
  rw [List.drop_eq_getElem_cons h]
  simp [orI, h]
theorem orI_step {l : List Int} {i : Int} (h0 : 0 ≤ i) (h1 : i < (l.length : Int)) (h : l.getD i.toNat default = 0) : orI (l.drop (i + 1).toNat) = orI (l.drop i.toNat) := by
  rw [orI_drop l i.toNat (by omega), if_neg (by simpa using h), show (i + 1).toNat = i.toNat + 1 from by omega]
theorem orI_hit {l : List Int} {i : Int} (h0 : 0 ≤ i) (h1 : i < (l.length : Int)) (h : ¬ l.getD i.toNat default = 0) : orI (l.drop i.toNat) = l.getD i.toNat default := by
  rw [orI_drop l i.toNat (by omega), if_pos h]
theorem orI_end {l : List Int} {i : Int} (h : (l.length : Int) ≤ i) : orI (l.drop i.toNat) = 0 := by
  rw [List.drop_of_length_le (by omega)]; rfl
def lowerW (p q : Pt) : Int := orI [cmpI p.z q.z, cmpI p.x q.x]
def atL (l : List Pt) (i : Int) : Pt := l.getD ((i + (l.length : Int)).tmod (l.length : Int)).toNat default
def nextL (l : List Pt) (i : Int) : Pt := l.getD ((i + 1).tmod (l.length : Int)).toNat default
def ptAt (l : List Pt) (i : Int) : Pt := l.getD i.toNat default
def leastL (l : List Pt) : Pt := l.foldl (fun o p => ⟨min o.x p.x, min o.z p.z⟩) (l.getD 0 default)
def mostL (l : List Pt) : Pt := l.foldl (fun o p => ⟨max o.x p.x, max o.z p.z⟩) (l.getD 0 default)
theorem take_succ {α : Type} [Inhabited α] {l : List α} {i : Int} (h0 : 0 ≤ i) (h1 : i < (l.length : Int)) : l.take (i + 1).toNat = l.take i.toNat ++ [l.getD i.toNat default] := by
  have hlt : i.toNat < l.length := by omega
  rw [show (i + 1).toNat = i.toNat + 1 from by omega, List.take_add_one]
  simp [hlt]
theorem fold_take {α β : Type} [Inhabited α] {l : List α} {i : Int} (f : β → α → β) (b : β) (h0 : 0 ≤ i) (h1 : i < (l.length : Int)) : (l.take (i + 1).toNat).foldl f b = f ((l.take i.toNat).foldl f b) (l.getD i.toNat default) := by
  rw [take_succ h0 h1, List.foldl_append]; rfl
theorem take_all {α : Type} {l : List α} {i : Int} (h : (l.length : Int) ≤ i) : l.take i.toNat = l := List.take_of_length_le (by omega)
/-- the index of the first one that is so; -1: none is -/
def findI {α : Type} (p : α → Bool) (l : List α) : Int := if l.any p = true then (l.findIdx p : Int) else -1
theorem findI_hit {α : Type} [Inhabited α] {p : α → Bool} {l : List α} {i : Int} (h0 : 0 ≤ i) (h1 : i < (l.length : Int)) (ha : ∀ j : Nat, (j : Int) < i → p (l.getD j default) = false) (hp : p (l.getD i.toNat default) = true) : findI p l = i := by
  have hlt : i.toNat < l.length := by omega
  have hp' : p l[i.toNat] = true := by simpa [hlt] using hp
  have hany : l.any p = true := List.any_eq_true.2 ⟨l[i.toNat], List.getElem_mem hlt, hp'⟩
  have hidx : l.findIdx p = i.toNat := (List.findIdx_eq hlt).2 ⟨hp', fun j hj => by
    have := ha j (by omega)
    have hj' : j < l.length := by omega
    simpa [hj'] using this⟩
  rw [findI, if_pos hany, hidx]
  omega
theorem findI_none {α : Type} [Inhabited α] {p : α → Bool} {l : List α} (ha : ∀ j : Nat, j < l.length → p (l.getD j default) = false) : findI p l = -1 := by
  have : ¬ l.any p = true := fun h => by
    obtain ⟨x, hx, hp⟩ := List.any_eq_true.1 h
    obtain ⟨j, hj, rfl⟩ := List.getElem_of_mem hx
    have := ha j hj
    simp [hj, hp] at this
  rw [findI, if_neg this]
theorem findI_any {α : Type} (p : α → Bool) (l : List α) : decide (0 ≤ findI p l) = l.any p := by
  unfold findI
  cases h : l.any p with
  | true => simp
  | false => simp
/-- the first one of the least -/
def minF {α : Type} [Inhabited α] (f : α → α → Int) (l : List α) : α := (l.drop 1).foldl (fun m p => if f p m < 0 then p else m) (l.getD 0 default)
theorem minF_take {α : Type} [Inhabited α] {f : α → α → Int} {l : List α} {i : Int} (h0 : 1 ≤ i) (h1 : i < (l.length : Int)) :
    minF f (l.take (i + 1).toNat) = if f (l.getD i.toNat default) (minF f (l.take i.toNat)) < 0 then l.getD i.toNat default else minF f (l.take i.toNat) := by
  have hlt : i.toNat < l.length := by omega
  unfold minF
  have e0 : ∀ n, 0 < n → (l.take n).getD 0 default = l.getD 0 default := fun n hn => by
    simp only [List.getD_eq_getElem?_getD, List.getElem?_take]; rw [if_pos hn]
  rw [take_succ (by omega) h1, List.drop_append_of_le_length (by simp; omega), List.foldl_append, ← take_succ (by omega) h1, e0 _ (by omega), e0 _ (by omega)]
  rfl
def cvx1 (l : List Pt) (i : Int) : Bool := decide (0 < turnW (atL l (i - 1)) (ptAt l i) (atL l (i + 1)))
def cvx2 (l : List Pt) (i k : Int) : Bool := decide (0 < turnW (ptAt l i) (atL l (i + 1)) (atL l (i + k)))
def cvxI (l : List Pt) (i : Int) : Bool := cvx1 l i && allI (l.length - 3) fun k => cvx2 l i (k + 2 : Nat)
def convexB (l : List Pt) : Bool := (decide (3 ≤ (l.length : Int)) && decide ((l.length : Int) ≤ 12)) && allI l.length fun i => cvxI l i
theorem convex_no {l : List Pt} (h : (!(decide (3 ≤ (l.length : Int)) && decide ((l.length : Int) ≤ 12))) = true) : convexB l = false := by
  rw [Bool.not_eq_true'] at h
  rw [convexB, h]; rfl
theorem convex_len {l : List Pt} (h : (!(decide (3 ≤ (l.length : Int)) && decide ((l.length : Int) ≤ 12))) = false) : 3 ≤ l.length ∧ l.length ≤ 12 := by
  simp at h; omega
theorem cvx1_of {l : List Pt} {i : Int} (h : ¬ turnW (atL l (i - 1)) (ptAt l i) (atL l (i + 1)) ≤ 0) : cvx1 l i = true := by
  rw [cvx1, decide_eq_true_eq]; omega
theorem cvx2_of {l : List Pt} {i k : Int} (h : ¬ turnW (ptAt l i) (atL l (i + 1)) (atL l (i + k)) ≤ 0) : cvx2 l i k = true := by
  rw [cvx2, decide_eq_true_eq]; omega
theorem cvxI_true {l : List Pt} {i : Int} {k : Int} (hk : (l.length : Int) - 1 ≤ k) (h1 : cvx1 l i = true) (h2 : ∀ j : Nat, 2 ≤ j → (j : Int) < k → cvx2 l i j = true) : cvxI l i = true := by
  rw [cvxI, h1, Bool.true_and]
  exact allI_true fun j hj => h2 (j + 2) (by omega) (by omega)
theorem convex_bad {l : List Pt} {i : Int} (h0 : 0 ≤ i) (h1 : i < (l.length : Int)) (h : cvxI l i = false) : convexB l = false := by
  rw [convexB, allI_false (i := i.toNat) (by omega) (by rw [show ((i.toNat : Nat) : Int) = i from by omega]; exact h), Bool.and_false]
theorem convex_bad1 {l : List Pt} {i : Int} (h0 : 0 ≤ i) (h1 : i < (l.length : Int)) (h : turnW (atL l (i - 1)) (ptAt l i) (atL l (i + 1)) ≤ 0) : convexB l = false :=
  convex_bad h0 h1 (by rw [cvxI, cvx1, decide_eq_false (by omega), Bool.false_and])
theorem convex_bad2 {l : List Pt} {i k : Int} (h0 : 0 ≤ i) (h1 : i < (l.length : Int)) (h2 : 2 ≤ k) (h3 : k < (l.length : Int) - 1) (h : turnW (ptAt l i) (atL l (i + 1)) (atL l (i + k)) ≤ 0) : convexB l = false :=
  convex_bad h0 h1 (by
    rw [cvxI, allI_false (i := k.toNat - 2) (by omega) ?_, Bool.and_false]
    rw [show ((k.toNat - 2 + 2 : Nat) : Int) = k from by omega, cvx2, decide_eq_false (by omega)])
theorem convex_yes {l : List Pt} {i : Int} (hl : 3 ≤ l.length ∧ l.length ≤ 12) (h : ∀ j : Nat, (j : Int) < i → cvxI l j = true) (hi : (l.length : Int) ≤ i) : convexB l = true := by
  rw [convexB, allI_true (fun j hj => h j (by omega)), Bool.and_true, Bool.and_eq_true, decide_eq_true_eq, decide_eq_true_eq]
  omega
/-- the index of the first one of the lowest -/
def rfirstN (l : List Pt) : Nat → Int
  | 0 => 0
  | n + 1 => if (decide ((ptAt l (n : Int)).z < (ptAt l (rfirstN l n)).z) || (decide ((ptAt l (n : Int)).z = (ptAt l (rfirstN l n)).z) && decide ((ptAt l (n : Int)).x < (ptAt l (rfirstN l n)).x))) = true then (n : Int) else rfirstN l n
def rfirst (l : List Pt) : Int := rfirstN l l.length
theorem rfirstN_succ {l : List Pt} {i : Int} (h0 : 0 ≤ i) : rfirstN l (i + 1).toNat = if (decide ((ptAt l i).z < (ptAt l (rfirstN l i.toNat)).z) || (decide ((ptAt l i).z = (ptAt l (rfirstN l i.toNat)).z) && decide ((ptAt l i).x < (ptAt l (rfirstN l i.toNat)).x))) = true then i else rfirstN l i.toNat := by
  rw [show (i + 1).toNat = i.toNat + 1 from by omega, rfirstN, show ((i.toNat : Nat) : Int) = i from by omega]
theorem rfirstN_all {l : List Pt} {i : Int} (h : i.toNat = l.length) : rfirstN l i.toNat = rfirst l := by rw [h]; rfl
def farB (p : Pt) : Bool := !(decide (0 ≤ p.x) && decide (p.x ≤ 2000)) || !(decide (0 ≤ p.z) && decide (p.z ≤ 2000))
def placedB (l : List Pt) : Bool := !(l.any farB || !convexB l) && ((decide ((leastL l).x = 0) && decide ((leastL l).z = 0)) && (decide ((minF lowerW l).x = (l.getD 0 default).x) && decide ((minF lowerW l).z = (l.getD 0 default).z)))
theorem placed_no {l : List Pt} (h : (l.any farB || !convexB l) = true) : placedB l = false := by rw [placedB, h]; rfl
theorem placed_yes {l : List Pt} (h : (l.any farB || !convexB l) = false) : placedB l = ((decide ((leastL l).x = 0) && decide ((leastL l).z = 0)) && (decide ((minF lowerW l).x = (l.getD 0 default).x) && decide ((minF lowerW l).z = (l.getD 0 default).z))) := by rw [placedB, h]; rfl
theorem convex_lenB {l : List Pt} (h : convexB l = true) : 3 ≤ l.length ∧ l.length ≤ 12 := by
  rw [convexB, Bool.and_eq_true, Bool.and_eq_true, decide_eq_true_eq, decide_eq_true_eq] at h
  omega
theorem placed_pos {l : List Pt} (h : (l.any farB || !convexB l) = false) : 0 < l.length := by
  rw [Bool.or_eq_false_iff, Bool.not_eq_false'] at h
  have := convex_lenB h.2
  omega
def edgesL (l : List Pt) : List (Pt × Pt) := (List.range l.length).map fun (i : Nat) => (ptAt l (i : Int), atL l ((i : Int) + 1))
abbrev edgeV (e : Pt × Pt) : List Value := [ptV e.1, ptV e.2]
abbrev edgeVs (l : List Pt) : List (List Value) := (edgesL l).map edgeV
theorem edges_len (l : List Pt) : (edgeVs l).length = l.length := by simp [edgeVs, edgesL]
theorem edges_len' (l : List Pt) : (edgesL l).length = l.length := by simp [edgesL]
theorem edge_get {l : List Pt} {i : Int} (h0 : 0 ≤ i) (h1 : i < (l.length : Int)) : (edgeVs l)[i.toNat]? = some [ptV (ptAt l i), ptV (atL l (i + 1))] := by
  have hlt : i.toNat < l.length := by omega
  have : ((i.toNat : Nat) : Int) = i := by omega
  simp [edgeVs, edgesL, hlt, this]
theorem edge_inv {l : List Pt} {n : Nat} {args : List Value} (h : (edgeVs l)[n]? = some args) : ∃ e, (edgesL l)[n]? = some e ∧ args = [ptV e.1, ptV e.2] := by
  rw [List.getElem?_map] at h
  cases he : (edgesL l)[n]? with
  | none => rw [he] at h; cases h
  | some e => rw [he] at h; exact ⟨e, rfl, by simpa using h.symm⟩
theorem edges_two (l : List Pt) : ∀ a ∈ edgeVs l, a.length = 2 := fun a ha => by
  obtain ⟨e, _, rfl⟩ := List.mem_map.1 ha; rfl
def twiceW (l : List Pt) : Int := (edgesL l).foldl (fun s e => W (s + crossW e.1 e.2)) 0
theorem fold_succ {α β : Type} {l : List α} {n : Nat} {e : α} (f : β → α → β) (b : β) (h : l[n]? = some e) : (l.take (n + 1)).foldl f b = f ((l.take n).foldl f b) e := by
  rw [List.take_add_one, h, List.foldl_append]; rfl
theorem fold_all {α β : Type} {l : List α} {n : Nat} (f : β → α → β) (b : β) (h : n = l.length) : (l.take n).foldl f b = l.foldl f b := by rw [h, List.take_length]
theorem decode_low {s : ByteArray} {i : Nat} (h : (s.get! i).toNat < 128) : Utf8.decode s i = ((s.get! i).toNat, 1) := by
  unfold Utf8.decode
  simp only [Nat.add_zero]
  rw [if_pos h]
theorem decode_high {s : ByteArray} {i : Nat} (h : ¬ (s.get! i).toNat < 128) : 128 ≤ (Utf8.decode s i).1 ∧ 1 ≤ (Utf8.decode s i).2 := by
  unfold Utf8.decode
  simp only [Nat.add_zero]
  rw [if_neg h]
  simp only [Utf8.runeError]
  repeat' split
  all_goals simp_all
  all_goals omega
theorem decode_pos (s : ByteArray) (i : Nat) : 1 ≤ (Utf8.decode s i).2 := by
  by_cases h : (s.get! i).toNat < 128
  · rw [decode_low h]; exact Nat.le_refl _
  · exact (decode_high h).2
def idxRune (f : Int → Bool) (s : ByteArray) (p : Nat) : Int :=
  if h : p < s.size then (if f ((Utf8.decode s p).1 : Int) = true then (p : Int) else idxRune f s (p + (Utf8.decode s p).2)) else -1
termination_by s.size - p
decreasing_by have := decode_pos s p; omega
theorem idxRune_hit {f : Int → Bool} {s : ByteArray} {p : Nat} (h : p < s.size) (hf : f ((Utf8.decode s p).1 : Int) = true) : idxRune f s p = p := by rw [idxRune, dif_pos h, if_pos hf]
theorem idxRune_next {f : Int → Bool} {s : ByteArray} {p : Nat} (h : p < s.size) (hf : f ((Utf8.decode s p).1 : Int) = false) : idxRune f s p = idxRune f s (p + (Utf8.decode s p).2) := by
  conv => lhs; rw [idxRune, dif_pos h, if_neg (by rw [hf]; exact Bool.false_ne_true)]
theorem idxRune_end {f : Int → Bool} {s : ByteArray} {p : Nat} (h : ¬ p < s.size) : idxRune f s p = -1 := by rw [idxRune, dif_neg h]
def oddR (r : Int) : Bool := !(decide (97 ≤ r) && decide (r ≤ 122)) && !(decide (48 ≤ r) && decide (r ≤ 57))
def namedB (s : ByteArray) : Bool := (decide (1 ≤ (s.size : Int)) && decide ((s.size : Int) ≤ 16)) && !decide (0 ≤ idxRune oddR s 0)
structure Stn where
  name : ByteArray
  shape : List Pt
  depth : Int
  density : Int
  grain : Pt
  deriving DecidableEq
abbrev stnV (s : Stn) (a : Option Addr) (cap : Nat) : Value := .agg #[.string s.name, .slice a s.shape.length cap, .int .i64 s.depth, .int .i64 s.density, .int .i64 s.grain.x, .int .i64 s.grain.z]
def grainedB (s : Stn) : Bool := (((!(decide (s.grain.x = 0) && decide (s.grain.z = 0))) && (decide (-100 ≤ s.grain.x) && decide (s.grain.x ≤ 100))) && (decide (-100 ≤ s.grain.z) && decide (s.grain.z ≤ 100)))
def badB (s : Stn) : Bool := ((((!namedB s.name || !placedB s.shape) || !(decide (1 ≤ s.depth) && decide (s.depth ≤ 2000))) || !(decide (1 ≤ s.density) && decide (s.density ≤ 10000))) || !grainedB s)
def checkI (s : Stn) : Int := if badB s = true then 2 else 0
def brickS : Stn := ⟨⟨#[98, 114, 105, 99, 107]⟩, [⟨0, 0⟩, ⟨200, 0⟩, ⟨200, 80⟩, ⟨0, 80⟩], 100, 2400, ⟨1, 0⟩⟩
end Go.Stn

namespace Go.Stn
open Go Go.K Go.RowKit
def weightW (s : Stn) : Int := W (W (twiceW s.shape * s.depth) * s.density)
def askI (s : Stn) (v : Int) : Int := if checkI s = 0 then v else 0
def askL {α : Type} (s : Stn) (l : List α) : List α := if checkI s = 0 then l else []
/-- all corners are within range -/
def Near (l : List Pt) : Prop := ∀ p ∈ l, farB p = false
theorem near_in {p : Pt} (h : farB p = false) : 0 ≤ p.x ∧ p.x ≤ 2000 ∧ 0 ≤ p.z ∧ p.z ≤ 2000 := by
  unfold farB at h
  simp at h
  omega
theorem near_getD {l : List Pt} (h : Near l) {i : Nat} (hi : i < l.length) : farB (l.getD i default) = false := h _ (by simp [hi])
theorem near_edge {l : List Pt} (h : Near l) {n : Nat} {e : Pt × Pt} (he : (edgesL l)[n]? = some e) : farB e.1 = false ∧ farB e.2 = false := by
  unfold edgesL at he
  rw [List.getElem?_map] at he
  have hn : n < l.length := by
    rcases Nat.lt_or_ge n l.length with h | h
    · exact h
    · rw [List.getElem?_eq_none (by simpa using h)] at he; cases he
  rw [List.getElem?_range hn] at he
  simp only [Option.map_some, Option.some.injEq] at he
  subst he
  refine ⟨?_, ?_⟩
  · exact near_getD h (by omega)
  · unfold atL
    refine near_getD h ?_
    have q0 : 0 ≤ ((n : Int) + 1 + (l.length : Int)).tmod (l.length : Int) := Int.tmod_nonneg _ (by omega)
    have q1 : ((n : Int) + 1 + (l.length : Int)).tmod (l.length : Int) < (l.length : Int) := Int.tmod_lt_of_pos _ (by omega)
    omega
/-- how many steps an edge has -/
def stepsN (p q : Pt) : Nat := Nat.gcd (q.x - p.x).natAbs (q.z - p.z).natAbs
def stepsI (p q : Pt) : Int := (stepsN p q : Int)
/-- a border point of an edge -/
def bpW (p q : Pt) (k : Int) : Pt := ⟨W (p.x + W (W ((subW q p).x.tdiv (stepsI p q)) * k)), W (p.z + W (W ((subW q p).z.tdiv (stepsI p q)) * k))⟩
def borderE (e : Pt × Pt) : List Pt := (List.range (stepsN e.1 e.2)).map fun (k : Nat) => bpW e.1 e.2 (k : Int)
def borderL (l : List Pt) : List Pt := (edgesL l).flatMap borderE
abbrev onePt (p : Pt) : List Value := [ptV p]
abbrev borderVs (l : List Pt) : List (List Value) := (borderL l).map onePt
def preN (l : List Pt) (n : Nat) : Nat := (((edgesL l).take n).flatMap borderE).length
theorem borderE_len (e : Pt × Pt) : (borderE e).length = stepsN e.1 e.2 := by simp [borderE]
theorem preN_zero (l : List Pt) : preN l 0 = 0 := by simp [preN]
theorem preN_succ {l : List Pt} {n : Nat} {e : Pt × Pt} (h : (edgesL l)[n]? = some e) : preN l (n + 1) = preN l n + stepsN e.1 e.2 := by
  unfold preN
  rw [List.take_add_one, h]
  simp [borderE_len]
theorem preN_all (l : List Pt) : preN l (edgeVs l).length = (borderVs l).length := by
  unfold preN
  rw [show (edgeVs l).length = (edgesL l).length from by simp [edgeVs], List.take_length]
  simp [borderVs, borderL]
theorem border_get {l : List Pt} {n : Nat} {e : Pt × Pt} (h : (edgesL l)[n]? = some e) {k : Int} (h0 : 0 ≤ k) (h1 : k < stepsI e.1 e.2) : (borderVs l)[preN l n + k.toNat]? = some [ptV (bpW e.1 e.2 k)] := by
  have hk : k.toNat < stepsN e.1 e.2 := by unfold stepsI at h1; omega
  have hn : n < (edgesL l).length := (List.getElem?_eq_some_iff.1 h).1
  have hsplit : borderL l = ((edgesL l).take n).flatMap borderE ++ (borderE e ++ ((edgesL l).drop (n + 1)).flatMap borderE) := by
    unfold borderL
    conv => lhs; rw [← List.take_append_drop n (edgesL l), List.drop_eq_getElem_cons hn]
    rw [List.flatMap_append, List.flatMap_cons]
    have : (edgesL l)[n] = e := (List.getElem?_eq_some_iff.1 h).2
    rw [this]
  unfold borderVs preN
  rw [List.getElem?_map, hsplit, List.getElem?_append_right (by omega), Nat.add_sub_cancel_left, List.getElem?_append_left (by rw [borderE_len]; omega)]
  unfold borderE
  rw [List.getElem?_map, List.getElem?_range hk]
  simp only [Option.map_some, onePt]
  rw [show ((k.toNat : Nat) : Int) = k from by omega]
theorem ones_one (l : List Pt) : ∀ a ∈ l.map onePt, a.length = 1 := fun a ha => by
  obtain ⟨e, _, rfl⟩ := List.mem_map.1 ha; rfl
theorem ones_inv {l : List Pt} {n : Nat} {args : List Value} (h : (l.map onePt)[n]? = some args) : ∃ p, l[n]? = some p ∧ args = [ptV p] := by
  rw [List.getElem?_map] at h
  cases he : l[n]? with
  | none => rw [he] at h; cases h
  | some e => rw [he] at h; exact ⟨e, rfl, by simpa using h.symm⟩
/-- numbers' greatest common divisor, round by round -/
theorem gcd_step {a b : Int} (ha : 0 ≤ a) (hb : 0 ≤ b) : Nat.gcd b.toNat (a.tmod b).toNat = Nat.gcd a.toNat b.toNat := by
  have h : (a.tmod b).toNat = a.toNat % b.toNat := by
    obtain ⟨m, rfl⟩ := Int.eq_ofNat_of_zero_le ha
    obtain ⟨n, rfl⟩ := Int.eq_ofNat_of_zero_le hb
    rfl
  rw [h, Nat.gcd_comm, ← Nat.gcd_rec, Nat.gcd_comm]
theorem near_sub {p q : Pt} (hp : farB p = false) (hq : farB q = false) : subW q p = ⟨q.x - p.x, q.z - p.z⟩ ∧ -2000 ≤ q.x - p.x ∧ q.x - p.x ≤ 2000 ∧ -2000 ≤ q.z - p.z ∧ q.z - p.z ≤ 2000 := by
  have h1 := near_in hp
  have h2 := near_in hq
  refine ⟨?_, by omega, by omega, by omega, by omega⟩
  unfold subW
  rw [show W (q.x - p.x) = q.x - p.x from wrap64_in (by omega) (by omega), show W (q.z - p.z) = q.z - p.z from wrap64_in (by omega) (by omega)]
theorem steps_le {p q : Pt} (hp : farB p = false) (hq : farB q = false) : stepsN p q ≤ 2000 := by
  have h := near_sub hp hq
  unfold stepsN
  by_cases hx : (q.x - p.x).natAbs = 0
  · rw [hx, Nat.gcd_zero_left]; omega
  · exact Nat.le_trans (Nat.gcd_le_left _ (by omega)) (by omega)
theorem take_snoc {α : Type} {l : List α} {n : Nat} {p : α} (h : l[n]? = some p) : l.take (n + 1) = l.take n ++ [p] := by rw [List.take_add_one, h]; rfl
theorem check_good {s : Stn} (h : checkI s = 0) : badB s = false := by
  unfold checkI at h
  cases hb : badB s with
  | false => rfl
  | true => rw [hb] at h; simp at h
theorem check_placed {s : Stn} (h : checkI s = 0) : placedB s.shape = true := by
  have := check_good h
  unfold badB at this
  simp only [Bool.or_eq_false_iff, Bool.not_eq_false'] at this
  exact this.1.1.1.2
theorem placed_near {l : List Pt} (h : placedB l = true) : Near l ∧ 3 ≤ l.length ∧ l.length ≤ 12 := by
  unfold placedB at h
  rw [Bool.and_eq_true, Bool.not_eq_true', Bool.or_eq_false_iff, Bool.not_eq_false'] at h
  refine ⟨fun p hp => ?_, convex_lenB h.1.2⟩
  cases hf : farB p with
  | false => rfl
  | true => have := h.1.1; rw [List.any_eq_true.2 ⟨p, hp, hf⟩] at this; cases this
theorem check_near {s : Stn} (h : checkI s = 0) : Near s.shape := (placed_near (check_placed h)).1
theorem check_len {s : Stn} (h : checkI s = 0) : 3 ≤ s.shape.length ∧ s.shape.length ≤ 12 := (placed_near (check_placed h)).2
theorem border_len {l : List Pt} (h : Near l) : (borderL l).length ≤ l.length * 2000 := by
  have key : ∀ n, n ≤ l.length → preN l n ≤ n * 2000 := by
    intro n
    induction n with
    | zero => intro _; simp [preN_zero]
    | succ n ih =>
      intro hn
      have hlt : n < (edgesL l).length := by rw [edges_len']; omega
      have he : (edgesL l)[n]? = some (edgesL l)[n] := by simp [hlt]
      have := steps_le (near_edge h he).1 (near_edge h he).2
      rw [preN_succ he]
      have := ih (by omega)
      omega
  have := key l.length (Nat.le_refl _)
  have h2 := preN_all l
  rw [show (edgeVs l).length = l.length from edges_len l] at h2
  rw [h2] at this
  simpa [borderVs] using this
/-- a slice among slices -/
structure Sli where
  a : Option Addr
  cap : Nat
  l : List Pt
instance : Inhabited Sli := ⟨⟨none, 0, []⟩⟩
abbrev encSli (s : Sli) : List Value := [.slice s.a s.l.length s.cap]
theorem encSli_ok : Enc 1 encSli := ⟨fun _ => rfl, fun _ => rfl, by decide⟩
theorem sum_le (ls : List Sli) (n : Nat) : ((ls.take n).flatMap Sli.l).length ≤ (ls.flatMap Sli.l).length := by
  conv => rhs; rw [← List.take_append_drop n ls, List.flatMap_append, List.length_append]
  omega
theorem sum_succ {ls : List Sli} {i : Int} (h0 : 0 ≤ i) (h1 : i < (ls.length : Int)) : (ls.take (i + 1).toNat).flatMap Sli.l = (ls.take i.toNat).flatMap Sli.l ++ (ls.getD i.toNat default).l := by
  rw [take_succ h0 h1, List.flatMap_append]; simp
theorem two_in {w : World} {x y : Sli} (hx : Has w (Pts x.a x.l)) (hy : Has w (Pts y.a y.l)) : ∀ i, i < [x, y].length → Has w (Pts ([x, y].getD i default).a ([x, y].getD i default).l)
  | 0, _ => hx
  | 1, _ => hy
  | n + 2, h => absurd h (by simp)
def eqB (v p : Pt) : Bool := decide (v.x = p.x) && decide (v.z = p.z)
theorem eqB_iff {v p : Pt} : eqB v p = true ↔ v = p := by
  unfold eqB
  cases v; cases p
  simp
end Go.Stn

namespace Go.K
open Go Go.Stn Go.ChangeShapes Go.WideShapes Go.ChangeAt Go.WideElems Go.RowKit
def I64 (n : Int) : Prop := -9223372036854775808 ≤ n ∧ n ≤ 9223372036854775807
def PtIn (p : Pt) : Prop := I64 p.x ∧ I64 p.z
theorem list_of {α : Type} {Q : Nat → α → Prop} : ∀ n, (∀ i, i < n → ∃ x, Q i x) → ∃ l : List α, l.length = n ∧ ∀ i x, l[i]? = some x → Q i x
  | 0, _ => ⟨[], rfl, fun i x h => by simp at h⟩
  | n + 1, h => by
    obtain ⟨l, hl, hq⟩ := list_of n (fun i hi => h i (by omega))
    obtain ⟨x, hx⟩ := h n (by omega)
    refine ⟨l ++ [x], by simp [hl], fun i y hy => ?_⟩
    rcases Nat.lt_or_ge i n with hi | hi
    · rw [List.getElem?_append_left (by omega)] at hy; exact hq i y hy
    · rw [List.getElem?_append_right (by omega), hl] at hy
      have : i = n := by
        rcases Nat.lt_or_ge n i with g | g
        · rw [List.getElem?_eq_none (by simp; omega)] at hy; cases hy
        · omega
      subst this
      simp at hy
      subst hy; exact hx
section
variable {H : Type} {enc : TypeId × Value → H} {P : Program} {w : World} {base : Nat} {spare : Nat → Bool} {held : Bool}
/-- P has points at type e -/
structure PtT (P : Program) (e : TypeId) (fx fz : Field) : Prop where
  u : P.underlying e = some (.struct #[fx, fz])
  ox : fx.offset = 0
  oz : fz.offset = 1
  tx : P.underlying fx.type = some (.int .i64)
  tz : P.underlying fz.type = some (.int .i64)
  cx : P.cellsOf fx.type = 1
  cz : P.cellsOf fz.type = 1
  c : P.cellsOf e = 2
theorem open_pt {e : TypeId} {fx fz : Field} {fuel : Nat} {cs : List Value} {x : DataW H × List MemPlace} (T : PtT P e fx fz) (h : DataW.trod enc P w base spare held fuel e cs = some x) : ∃ p : Pt, PtIn p ∧ cs = encPt p := by
  obtain ⟨ys, n, _, _, hlen, _, hf⟩ := DataW.trod_struct T.u h
  rw [T.c] at hlen
  match cs, hlen with
  | [c0, c1], _ =>
    have h0 := hf 0 fx rfl
    have h1 := hf 1 fz rfl
    rw [T.ox, T.cx] at h0
    rw [T.oz, T.cz] at h1
    have hy : ys.length = 2 := by
      obtain ⟨ys', n', _, hx', _, hl', _⟩ := DataW.trod_struct T.u h
      have : (ys.map (·.1)).length = (ys'.map (·.1)).length := by
        have := ‹x = (.agg (ys.map (·.1)), ys.flatMap (·.2))›.symm.trans hx'
        simp only [Prod.mk.injEq, DataW.agg.injEq] at this
        rw [this.1]
      simp only [List.length_map] at this
      rw [this]; exact hl'
    match ys, hy with
    | [y0, y1], _ =>
      obtain ⟨a, e1, _, w1⟩ := DataW.trod_int T.tx (show DataW.trod enc P w base spare held n fx.type [c0] = some y0 from h0)
      obtain ⟨b, e2, _, w2⟩ := DataW.trod_int T.tz (show DataW.trod enc P w base spare held n fz.type [c1] = some y1 from h1)
      simp only [List.cons.injEq, and_true] at e1 e2
      subst e1; subst e2
      exact ⟨⟨a, b⟩, ⟨bounds_i64 w1, bounds_i64 w2⟩, rfl⟩
theorem open_pts {t e : TypeId} {fx fz : Field} {fuel : Nat} {cs : List Value} {x : DataW H × List MemPlace} (ht : P.underlying t = some (.slice e)) (T : PtT P e fx fz) (h : DataW.trod enc P w base spare held fuel t cs = some x) :
    ∃ (a : Option Addr) (l : List Pt) (cap : Nat), cs = [.slice a l.length cap] ∧ Has w (Pts a l) ∧ l.length ≤ cap ∧ ∀ p ∈ l, PtIn p := by
  rcases Go.Deep.open_slice ht h with ⟨rfl, _⟩ | ⟨a, len, cap, m, n, D, Pl, rfl, hb, hl, hm, hmm, hx, hi⟩
  · exact ⟨none, [], 0, rfl, has_nil, Nat.le_refl _, fun p hp => by cases hp⟩
  · have hlm : len ≤ m := by rw [hmm]; split <;> omega
    obtain ⟨l, hll, hq⟩ := list_of (Q := fun i (p : Pt) => PtIn p ∧ w.cell? (a.add (i * 2)) = some (.int .i64 p.x) ∧ w.cell? (a.add (i * 2 + 1)) = some (.int .i64 p.z)) len (fun i hil => by
      obtain ⟨cs', hc, ht'⟩ := hi i (by omega)
      obtain ⟨p, hp, rfl⟩ := open_pt T ht'
      rw [T.c] at hc
      obtain ⟨_, _, hat⟩ := World.cells?_some hc
      have h0 := hat 0 (by decide)
      have h1 := hat 1 (by decide)
      rw [Go.Deep.add_add] at h0 h1
      exact ⟨p, hp, h0, h1⟩)
    refine ⟨some a, l, cap, by rw [hll], ?_, by omega, fun p hp => ?_⟩
    · cases l with
      | nil => exact has_nil
      | cons p0 r =>
        have hc0 := (hq 0 p0 rfl).2.1
        obtain ⟨b, off, sp⟩ := a
        have hsp : sp = none := by
          cases sp with
          | none => rfl
          | some s =>
            exfalso
            simp only [World.cell?, Addr.add] at hc0
            split at hc0 <;> simp_all
        subst hsp
        have hbs : b < w.heap.size := by
          rcases Nat.lt_or_ge b w.heap.size with h | h
          · exact h
          · exfalso
            rw [addr_add] at hc0
            simp [World.cell?, Array.getElem?_eq_none h] at hc0
        refine ⟨(· = b), fun k hk => by rw [hk]; exact hbs, .inr ⟨b, off, rfl, fun _ => Iff.rfl, fun i p hp => ?_⟩⟩
        obtain ⟨_, h1, h2⟩ := hq i p hp
        rw [addr_add] at h1 h2
        exact ⟨h1, by rw [Nat.add_assoc]; exact h2, trivial⟩
    · obtain ⟨i, hi', rfl⟩ := List.getElem_of_mem hp
      exact (hq i _ (by simp [hi'])).1
end
section
variable {H : Type} {enc : TypeId × Value → H} {P : Program}
theorem trodAll_stays (hl : laidOutB P = true) {W W' : World} {sp' : Nat → Bool} : ∀ (ts : List TypeId) (vs : List Value) (ds : List (DataW H)) (ps : List MemPlace), (∀ t ∈ ts, P.readableRec t = true ∧ t < P.types.size) →
    DataW.TrodAll enc P W 0 (fun _ => true) true ts vs ds ps → (∀ p ∈ ps, W.sameAt W' p) → (∀ p ∈ ps, sp' p.block = true) → DataW.TrodAll enc P W' 0 sp' true ts vs ds ps
  | [], [], [], ps, _, h, _, _ => h
  | t :: ts, v :: vs, d :: ds, ps, hr, ⟨p, q, h1, h2, he⟩, hs, hsp => by
    subst he
    exact ⟨p, q, Trod_stays hl (hr t (List.mem_cons_self ..)).1 (hr t (List.mem_cons_self ..)).2 h1 (fun x hx => hs x (List.mem_append_left _ hx)) (fun x hx => hsp x (List.mem_append_left _ hx)),
      trodAll_stays hl ts vs ds q (fun x hx => hr x (List.mem_cons_of_mem _ hx)) h2 (fun x hx => hs x (List.mem_append_right _ hx)) (fun x hx => hsp x (List.mem_append_right _ hx)), rfl⟩
  | [], [], _ :: _, _, _, h, _, _ => h.elim
  | [], _ :: _, _, _, _, h, _, _ => h.elim
  | _ :: _, [], _, _, _, h, _, _ => h.elim
  | _ :: _, _ :: _, [], _, _, h, _, _ => h.elim
theorem law_post {f : Func} {s : ChangeSpec} {apart fresh handsOn again : Bool} {W W' : World} {args : Array Value} {ds : List (DataW H)} {before : List MemPlace} {tb : TypeId} (hl : laidOutB P = true)
    (hW : DataW.Whole enc P f.params.toList s.vars apart W args.toList ds [] before) (hvars : s.vars = []) (hread : f.params.toList.all (fun t => P.readableRec t && decide (t < P.types.size)) = true)
    (hfn : s.fn H (ds ++ []) = { results := [.lit (.bool true)], args := ds }) (hrt : f.resultTypes = #[tb]) (htb : P.underlying tb = some .bool) (hb : Ext W W') : s.post enc P f apart fresh handsOn again W args (.bool true) W' := by
  have hlt : ∀ p ∈ before, p.block < W.heap.size := fun p hp => hW.lt p hp
  have hold : ∀ p ∈ before, (fun b => decide (b < W.heap.size)) p.block = true := fun p hp => by simpa using hlt p hp
  have hW0 := hW
  obtain ⟨p, q, hA, hV, hpq, hz, hn⟩ := hW
  rw [hvars] at hV
  obtain ⟨_, rfl⟩ := trodVars_none hV
  rw [List.append_nil] at hpq
  subst hpq
  have hr : ∀ t ∈ f.params.toList, P.readableRec t = true ∧ t < P.types.size := fun t ht => by
    have := List.all_eq_true.1 hread t ht
    simpa using this
  have hsame : ∀ x ∈ before, W.sameAt W' x := fun x hx => by
    have hlx := hlt x hx
    cases x with
    | cell b off => exact hb.below.cell (p := ⟨b, off, none⟩) hlx
    | map b => exact hb.block b hlx
  have hargs : ∀ sp : Nat → Bool, (∀ p ∈ before, sp p.block = true) → DataW.TrodAll enc P W' 0 sp true f.params.toList args.toList ds before := fun sp hsp => trodAll_stays hl _ _ _ _ hr hA hsame hsp
  have hres : ∀ (b : Nat) (sp : Nat → Bool) (hd : Bool), DataW.TrodAll enc P W' b sp hd f.resultTypes.toList ((Value.bool true).resultList f.resultTypes.size) [.lit (.bool true)] [] := fun b sp hd => by
    rw [hrt]
    exact ⟨[], [], ⟨1, by simp [DataW.trod, Value.cells, htb]⟩, rfl, rfl⟩
  refine ⟨ds, [], before, [], before, [], hW0, ?_, ?_, ?_, World.keptBut_mono (fun p hp => ⟨hp, Or.inr (Or.inl hp)⟩) (hb.below.frame (· ∈ before)), fun _ => ?_⟩
  · rw [hfn]; exact hres _ _ _
  · rw [hfn]; exact hargs _ hold
  · rw [hfn, hvars]; rfl
  · refine ⟨fun j t r ht hrr => ?_, ds.cons (.lit (.bool true)), [], before, ⟨before, [], ?_, by rw [hvars]; rfl, by simp, ?_, ?_⟩, fun x hx _ => hx⟩
    · rw [hrt] at ht hrr
      have h0 : t = tb := by
        rcases j with _ | j
        · simpa using ht.symm
        · simp at ht
      have h1 : r = .bool true := by
        rcases j with _ | j
        · simpa [Value.resultList] using hrr.symm
        · simp at ht
      subst h0; subst h1
      exact okWide_bool_mk htb true
    · have h1 := trodAll_append (hargs (fun _ => true) (fun _ _ => rfl)) (hres 0 (fun _ => true) true)
      simpa using h1
    · intro b off hp
      rw [hb.below.frozen (hlt _ hp)]
      exact hz b off (by simpa using hp)
    · intro ha
      have := hn ha
      simpa using this
end
theorem funcs_at {P : Program} {W : World} {l : List (String × DataW Unit)} (h : laidMetH P l W) {n : String} {x d : DataW Unit} (hm : (n, x) ∈ l) (hh : x.handleName?.isSome = true) (hd : x.funcsIn? = some d) : funcsAt P W n d := by
  unfold laidMetH at h
  have hmem : (n, x) ∈ l.filter fun x => x.2.handleName?.isSome := List.mem_filter.2 ⟨hm, hh⟩
  split at h
  · rename_i hf
    rw [hf] at hmem; cases hmem
  · rename_i y ys hf
    rw [hf] at hmem
    have := h.2 _ hmem
    simp only [hd] at this
    exact this
end Go.K

namespace Go.Proofs.YtahahmelnaphjaaDoor
open Go.K Go.Stn Go.RowKit
theorem tf3 : TF Tryd.prog 3 false 1 (.int IntKind.i64 0) := ⟨by kernel_rfl, by kernel_rfl⟩
theorem tf32 : TF Tryd.prog 32 true 2 (.agg #[.int IntKind.i64 0, .int IntKind.i64 0]) := ⟨by kernel_rfl, by kernel_rfl⟩
theorem fo24_0 : FO Tryd.prog 24 0 0 := ⟨by kernel_rfl⟩
theorem fo24_1 : FO Tryd.prog 24 1 1 := ⟨by kernel_rfl⟩
theorem fo32_0 : FO Tryd.prog 32 0 0 := ⟨by kernel_rfl⟩
theorem fo32_1 : FO Tryd.prog 32 1 1 := ⟨by kernel_rfl⟩
theorem se160 : SE Tryd.prog 160 3 1 := ⟨Tryd.underlying160, by kernel_rfl⟩
theorem en83 : En Tryd.prog 83 := en_of Tryd.func83 (by kernel_rfl) (by kernel_rfl)
theorem en89 : En Tryd.prog 89 := en_of Tryd.func89 (by kernel_rfl) (by kernel_rfl)
theorem en130 : En Tryd.prog 130 := en_of Tryd.func130 (by kernel_rfl) (by kernel_rfl)
theorem en131 : En Tryd.prog 131 := en_of Tryd.func131 (by kernel_rfl) (by kernel_rfl)
theorem en137 : En Tryd.prog 137 := en_of Tryd.func137 (by kernel_rfl) (by kernel_rfl)
theorem en138 : En Tryd.prog 138 := en_of Tryd.func138 (by kernel_rfl) (by kernel_rfl)
theorem bd32_0i_1i (x0 : Int) (x1 : Int) (w : World) : (Instr.build 32 #[(0, .int .i64 x0), (1, .int .i64 x1)]).run Tryd.prog w = .ok (.agg #[.int .i64 x0, .int .i64 x1]) w := by kernel_rfl
theorem bs160_2 (x0_0 : Int) (x1_0 : Int) (w : World) : (Instr.buildSlice 160 2 #[(0, .int .i64 x0_0), (1, .int .i64 x1_0)]).run Tryd.prog w = .ok (.slice (some ⟨w.heap.size, 0, none⟩) 2 2) (w.alloc (.cells (([x0_0, x1_0] : List (Int)).flatMap encI).toArray 3)) := by kernel_rfl
theorem mixed : Tryd.prog.follows .mixedOrders = true := by kernel_rfl
set_option maxRecDepth 100000 in
set_option maxHeartbeats 1000000 in
theorem sub_c (p q : Pt) (w : World)  :
    Calls Tryd.prog 89 #[.agg #[.int .i64 p.x, .int .i64 p.z], .agg #[.int .i64 q.x, .int .i64 q.z]] w (Pure (ptV (subW p q)) w) := by
  refine calls_of_gk (vs := [_, _]) Tryd.func89 rfl rfl (Nat.le_of_ble_eq_true rfl) ?_
  refine gk_seq ?_
  refine gk_region ?_
  refine gk_yx rfl rfl (yx_box (vs := [_, _]) rfl rfl) fun b2 => ?_
  refine gk_yx rfl rfl (yx_box (vs := [_, _]) rfl rfl) fun b3 => ?_
  refine gk_yx rfl rfl (yx_alloc tf32 (zs := [_, _]) rfl) fun b4 => ?_
  refine gk_nil (gk_sub (T' := [(2,_), (3,_), (4,_)]) ⟨rfl, rfl, rfl, trivial⟩ ?_)
  refine gk_seq ?_
  refine gk_region ?_
  refine gk_y rfl rfl (y_fieldAddr fo32_0 rfl) ?_
  refine gk_y rfl rfl (y_loadB1 2 tf3 rfl rfl rfl) ?_
  refine gk_y rfl rfl (y_fieldAddr fo32_0 rfl) ?_
  refine gk_y rfl rfl (y_loadB1 1 tf3 rfl rfl rfl) ?_
  refine gk_y rfl rfl (y_sub rfl rfl) ?_
  refine gk_y rfl rfl (y_fieldAddr fo32_1 rfl) ?_
  refine gk_y rfl rfl (y_loadB1 2 tf3 rfl rfl rfl) ?_
  refine gk_y rfl rfl (y_fieldAddr fo32_1 rfl) ?_
  refine gk_y rfl rfl (y_loadB1 1 tf3 rfl rfl rfl) ?_
  refine gk_y rfl rfl (y_sub rfl rfl) ?_
  refine gk_y rfl rfl (y_buildL rfl (bd32_0i_1i _ _)) ?_
  refine gk_storeV 0 tf32 rfl rfl (vs := [_, _]) rfl rfl rfl rfl rfl ?_
  refine gk_nil (gk_sub (T' := [(4,_)]) ⟨rfl, trivial⟩ ?_)
  refine gk_ret ?_
  refine gk_pure (rv_one rfl (r1_cellA (i := 0) (vs := [_, _]) tf32 rfl rfl rfl rfl)) ?_
  rfl
set_option maxRecDepth 100000 in
set_option maxHeartbeats 1000000 in
theorem cross_c (p q : Pt) (w : World)  :
    Calls Tryd.prog 83 #[.agg #[.int .i64 p.x, .int .i64 p.z], .agg #[.int .i64 q.x, .int .i64 q.z]] w (Pure (.int .i64 (crossW p q)) w) := by
  refine calls_of_gk (vs := [_, _]) Tryd.func83 rfl rfl (Nat.le_of_ble_eq_true rfl) ?_
  refine gk_seq ?_
  refine gk_region ?_
  refine gk_yx rfl rfl (yx_box (vs := [_, _]) rfl rfl) fun b2 => ?_
  refine gk_yx rfl rfl (yx_box (vs := [_, _]) rfl rfl) fun b3 => ?_
  refine gk_y rfl rfl (y_assign rfl) ?_
  refine gk_nil (gk_sub (T' := [(2,_), (3,_), (4,_)]) ⟨rfl, rfl, rfl, trivial⟩ ?_)
  refine gk_seq ?_
  refine gk_region ?_
  refine gk_y rfl rfl (y_fieldAddr fo32_0 rfl) ?_
  refine gk_y rfl rfl (y_loadB1 1 tf3 rfl rfl rfl) ?_
  refine gk_y rfl rfl (y_fieldAddr fo32_1 rfl) ?_
  refine gk_y rfl rfl (y_loadB1 0 tf3 rfl rfl rfl) ?_
  refine gk_y rfl rfl (y_mul rfl rfl) ?_
  refine gk_y rfl rfl (y_fieldAddr fo32_1 rfl) ?_
  refine gk_y rfl rfl (y_loadB1 1 tf3 rfl rfl rfl) ?_
  refine gk_y rfl rfl (y_fieldAddr fo32_0 rfl) ?_
  refine gk_y rfl rfl (y_loadB1 0 tf3 rfl rfl rfl) ?_
  refine gk_y rfl rfl (y_mul rfl rfl) ?_
  refine gk_y rfl rfl (y_sub rfl rfl) ?_
  refine gk_y rfl rfl (y_assign rfl) ?_
  refine gk_nil (gk_sub (T' := [(4,_)]) ⟨rfl, trivial⟩ ?_)
  refine gk_ret ?_
  refine gk_pure (rv_one rfl (r1_tmp rfl)) ?_
  rfl
set_option maxRecDepth 100000 in
set_option maxHeartbeats 1000000 in
theorem dot_c (p q : Pt) (w : World)  :
    Calls Tryd.prog 123 #[.agg #[.int .i64 p.x, .int .i64 p.z], .agg #[.int .i64 q.x, .int .i64 q.z]] w (Pure (.int .i64 (dotW p q)) w) := by
  refine calls_of_gk (vs := [_, _]) Tryd.func123 rfl rfl (Nat.le_of_ble_eq_true rfl) ?_
  refine gk_seq ?_
  refine gk_region ?_
  refine gk_yx rfl rfl (yx_box (vs := [_, _]) rfl rfl) fun b2 => ?_
  refine gk_yx rfl rfl (yx_box (vs := [_, _]) rfl rfl) fun b3 => ?_
  refine gk_y rfl rfl (y_assign rfl) ?_
  refine gk_nil (gk_sub (T' := [(2,_), (3,_), (4,_)]) ⟨rfl, rfl, rfl, trivial⟩ ?_)
  refine gk_seq ?_
  refine gk_region ?_
  refine gk_y rfl rfl (y_fieldAddr fo32_0 rfl) ?_
  refine gk_y rfl rfl (y_loadB1 1 tf3 rfl rfl rfl) ?_
  refine gk_y rfl rfl (y_fieldAddr fo32_0 rfl) ?_
  refine gk_y rfl rfl (y_loadB1 0 tf3 rfl rfl rfl) ?_
  refine gk_y rfl rfl (y_mul rfl rfl) ?_
  refine gk_y rfl rfl (y_fieldAddr fo32_1 rfl) ?_
  refine gk_y rfl rfl (y_loadB1 1 tf3 rfl rfl rfl) ?_
  refine gk_y rfl rfl (y_fieldAddr fo32_1 rfl) ?_
  refine gk_y rfl rfl (y_loadB1 0 tf3 rfl rfl rfl) ?_
  refine gk_y rfl rfl (y_mul rfl rfl) ?_
  refine gk_y rfl rfl (y_add rfl rfl) ?_
  refine gk_y rfl rfl (y_assign rfl) ?_
  refine gk_nil (gk_sub (T' := [(4,_)]) ⟨rfl, trivial⟩ ?_)
  refine gk_ret ?_
  refine gk_pure (rv_one rfl (r1_tmp rfl)) ?_
  rfl
set_option maxRecDepth 100000 in
set_option maxHeartbeats 1000000 in
theorem turn_c (p q r : Pt) (w : World)  :
    Calls Tryd.prog 108 #[.agg #[.int .i64 p.x, .int .i64 p.z], .agg #[.int .i64 q.x, .int .i64 q.z], .agg #[.int .i64 r.x, .int .i64 r.z]] w (Pure (.int .i64 (turnW p q r)) w) := by
  refine calls_of_gk (vs := [_, _, _]) Tryd.func108 rfl rfl (Nat.le_of_ble_eq_true rfl) ?_
  refine gk_seq ?_
  refine gk_region ?_
  refine gk_yx rfl rfl (yx_box (vs := [_, _]) rfl rfl) fun b3 => ?_
  refine gk_yx rfl rfl (yx_box (vs := [_, _]) rfl rfl) fun b4 => ?_
  refine gk_yx rfl rfl (yx_box (vs := [_, _]) rfl rfl) fun b5 => ?_
  refine gk_y rfl rfl (y_assign rfl) ?_
  refine gk_nil (gk_sub (T' := [(3,_), (4,_), (5,_), (6,_)]) ⟨rfl, rfl, rfl, rfl, trivial⟩ ?_)
  refine gk_seq ?_
  refine gk_any 8 (fun _ => mixed) (by kernel_rfl) ?_
  refine ph_y (y_loadBA 1 tf32 rfl rfl (vs := [_, _]) rfl rfl) ?_
  refine ph_y (y_loadBA 2 tf32 rfl rfl (vs := [_, _]) rfl rfl) ?_
  refine ph_y (y_call en89 rfl (fun w hw => sub_c ⟨_, _⟩ ⟨_, _⟩ w)) ?_
  refine ph_y (y_loadBA 0 tf32 rfl rfl (vs := [_, _]) rfl rfl) ?_
  refine ph_y (y_loadBA 1 tf32 rfl rfl (vs := [_, _]) rfl rfl) ?_
  refine ph_y (y_call en89 rfl (fun w hw => sub_c ⟨_, _⟩ ⟨_, _⟩ w)) ?_
  refine ph_y (y_call en83 rfl (fun w hw => cross_c ⟨_, _⟩ ⟨_, _⟩ w)) ?_
  refine ph_y (y_assign rfl) ?_
  refine gk_nil (gk_sub (T' := [(6,_)]) ⟨rfl, trivial⟩ ?_)
  refine gk_ret ?_
  refine gk_pure (rv_one rfl (r1_tmp rfl)) ?_
  rfl
set_option maxRecDepth 100000 in
set_option maxHeartbeats 1000000 in
theorem within_c (n lo hi : Int) (w : World)  :
    Calls Tryd.prog 55 #[.int .i64 n, .int .i64 lo, .int .i64 hi] w (Pure (.bool (decide (lo ≤ n) && decide (n ≤ hi))) w) := by
  refine calls_of_gk (vs := [_, _, _]) Tryd.func55 rfl rfl (Nat.le_of_ble_eq_true rfl) ?_
  refine gk_seq ?_
  refine gk_region ?_
  refine gk_y rfl rfl (y_assign rfl) ?_
  refine gk_nil (gk_sub (T' := [(0,_), (1,_), (2,_), (6,_)]) ⟨rfl, rfl, rfl, rfl, trivial⟩ ?_)
  refine gk_seq ?_
  refine gk_any 9 (fun _ => mixed) (by kernel_rfl) ?_
  refine ph_y (y_move rfl) ?_
  refine ph_y (y_move rfl) ?_
  refine ph_y (y_geq rfl rfl) ?_
  refine ph_y (y_move rfl) ?_
  refine ph_gT rfl rfl (fun hgd => by (try rw [hgd]); exact (y_move rfl)) ?_
  refine ph_gT rfl rfl (fun hgd => by (try rw [hgd]); exact (y_move rfl)) ?_
  refine ph_gT rfl rfl (fun hgd => by (try rw [hgd]); exact (y_leq rfl rfl)) ?_
  refine ph_y (y_pickAnd rfl rfl rfl) ?_
  refine ph_y (y_assign rfl) ?_
  refine gk_nil (gk_sub (T' := [(6,_)]) ⟨rfl, trivial⟩ ?_)
  refine gk_ret ?_
  refine gk_pure (rv_one rfl (r1_tmp rfl)) ?_
  rfl
set_option maxRecDepth 100000 in
set_option maxHeartbeats 1000000 in
theorem in_c (n lo hi : Int) (w : World)  :
    Calls Tryd.prog 50 #[.int .i64 n, .int .i64 lo, .int .i64 hi] w (Pure (.bool (decide (lo ≤ n) && decide (n ≤ hi))) w) := by
  refine calls_of_gk (vs := [_, _, _]) Tryd.func50 rfl rfl (Nat.le_of_ble_eq_true rfl) ?_
  refine gk_seq ?_
  refine gk_region ?_
  refine gk_y rfl rfl (y_assign rfl) ?_
  refine gk_nil (gk_sub (T' := [(0,_), (1,_), (2,_), (6,_)]) ⟨rfl, rfl, rfl, rfl, trivial⟩ ?_)
  refine gk_seq ?_
  refine gk_any 9 (fun _ => mixed) (by kernel_rfl) ?_
  refine ph_y (y_move rfl) ?_
  refine ph_y (y_move rfl) ?_
  refine ph_y (y_geq rfl rfl) ?_
  refine ph_y (y_move rfl) ?_
  refine ph_gT rfl rfl (fun hgd => by (try rw [hgd]); exact (y_move rfl)) ?_
  refine ph_gT rfl rfl (fun hgd => by (try rw [hgd]); exact (y_move rfl)) ?_
  refine ph_gT rfl rfl (fun hgd => by (try rw [hgd]); exact (y_leq rfl rfl)) ?_
  refine ph_y (y_pickAnd rfl rfl rfl) ?_
  refine ph_y (y_assign rfl) ?_
  refine gk_nil (gk_sub (T' := [(6,_)]) ⟨rfl, trivial⟩ ?_)
  refine gk_ret ?_
  refine gk_pure (rv_one rfl (r1_tmp rfl)) ?_
  rfl
set_option maxRecDepth 100000 in
set_option maxHeartbeats 1000000 in
theorem side_c (p q r : Pt) (w : World)  :
    Calls Tryd.prog 79 #[.agg #[.int .i64 p.x, .int .i64 p.z], .agg #[.int .i64 q.x, .int .i64 q.z], .agg #[.int .i64 r.x, .int .i64 r.z]] w (Pure (.int .i64 (sideW p q r)) w) := by
  refine calls_of_gk (vs := [_, _, _]) Tryd.func79 rfl rfl (Nat.le_of_ble_eq_true rfl) ?_
  refine gk_seq ?_
  refine gk_region ?_
  refine gk_yx rfl rfl (yx_box (vs := [_, _]) rfl rfl) fun b3 => ?_
  refine gk_yx rfl rfl (yx_box (vs := [_, _]) rfl rfl) fun b4 => ?_
  refine gk_yx rfl rfl (yx_box (vs := [_, _]) rfl rfl) fun b5 => ?_
  refine gk_y rfl rfl (y_assign rfl) ?_
  refine gk_nil (gk_sub (T' := [(3,_), (4,_), (5,_), (6,_)]) ⟨rfl, rfl, rfl, rfl, trivial⟩ ?_)
  refine gk_seq ?_
  refine gk_region ?_
  refine gk_y rfl rfl (y_fieldAddr fo24_0 rfl) ?_
  refine gk_y rfl rfl (y_loadB1 1 tf3 rfl rfl rfl) ?_
  refine gk_y rfl rfl (y_fieldAddr fo24_0 rfl) ?_
  refine gk_y rfl rfl (y_loadB1 2 tf3 rfl rfl rfl) ?_
  refine gk_y rfl rfl (y_sub rfl rfl) ?_
  refine gk_y rfl rfl (y_fieldAddr fo24_1 rfl) ?_
  refine gk_y rfl rfl (y_loadB1 0 tf3 rfl rfl rfl) ?_
  refine gk_y rfl rfl (y_fieldAddr fo24_1 rfl) ?_
  refine gk_y rfl rfl (y_loadB1 2 tf3 rfl rfl rfl) ?_
  refine gk_y rfl rfl (y_sub rfl rfl) ?_
  refine gk_y rfl rfl (y_mul rfl rfl) ?_
  refine gk_y rfl rfl (y_fieldAddr fo24_1 rfl) ?_
  refine gk_y rfl rfl (y_loadB1 1 tf3 rfl rfl rfl) ?_
  refine gk_y rfl rfl (y_fieldAddr fo24_1 rfl) ?_
  refine gk_y rfl rfl (y_loadB1 2 tf3 rfl rfl rfl) ?_
  refine gk_y rfl rfl (y_sub rfl rfl) ?_
  refine gk_y rfl rfl (y_fieldAddr fo24_0 rfl) ?_
  refine gk_y rfl rfl (y_loadB1 0 tf3 rfl rfl rfl) ?_
  refine gk_y rfl rfl (y_fieldAddr fo24_0 rfl) ?_
  refine gk_y rfl rfl (y_loadB1 2 tf3 rfl rfl rfl) ?_
  refine gk_y rfl rfl (y_sub rfl rfl) ?_
  refine gk_y rfl rfl (y_mul rfl rfl) ?_
  refine gk_y rfl rfl (y_sub rfl rfl) ?_
  refine gk_y rfl rfl (y_assign rfl) ?_
  refine gk_nil (gk_sub (T' := [(6,_)]) ⟨rfl, trivial⟩ ?_)
  refine gk_ret ?_
  refine gk_pure (rv_one rfl (r1_tmp rfl)) ?_
  rfl
set_option maxRecDepth 100000 in
set_option maxHeartbeats 1000000 in
theorem nan_c (n : Int) (w : World)  :
    Calls Tryd.prog 138 #[.int .i64 n] w (Pure (.bool false) w) := by
  refine calls_of_gk (vs := [_]) Tryd.func138 rfl rfl (Nat.le_of_ble_eq_true rfl) ?_
  refine gk_seq ?_
  refine gk_region ?_
  refine gk_y rfl rfl (y_assign rfl) ?_
  refine gk_nil (gk_sub (T' := [(0,_), (2,_)]) ⟨rfl, rfl, trivial⟩ ?_)
  refine gk_seq ?_
  refine gk_region ?_
  refine gk_y rfl rfl (y_move rfl) ?_
  refine gk_y rfl rfl (y_move rfl) ?_
  refine gk_y rfl rfl (y_neq rfl rfl) ?_
  refine gk_y rfl rfl (y_assign rfl) ?_
  refine gk_nil (gk_sub (T' := [(2,_)]) ⟨rfl, trivial⟩ ?_)
  refine gk_ret ?_
  refine gk_pure (rv_one rfl (r1_tmp rfl)) ?_
  simp
set_option maxRecDepth 100000 in
set_option maxHeartbeats 1000000 in
theorem compare_c (x y : Int) (w : World)  :
    Calls Tryd.prog 131 #[.int .i64 x, .int .i64 y] w (Pure (.int .i64 (cmpI x y)) w) := by
  refine calls_of_gk (vs := [_, _]) Tryd.func131 rfl rfl (Nat.le_of_ble_eq_true rfl) ?_
  refine gk_seq ?_
  refine gk_region ?_
  refine gk_y rfl rfl (y_assign rfl) ?_
  refine gk_nil (gk_sub (T' := [(0,_), (1,_), (4,_)]) ⟨rfl, rfl, rfl, trivial⟩ ?_)
  refine gk_seq ?_
  refine gk_region ?_
  refine gk_y rfl rfl (y_move rfl) ?_
  refine gk_y rfl rfl (y_call en138 rfl (fun w hw => nan_c _ w)) ?_
  refine gk_y rfl rfl (y_assign rfl) ?_
  refine gk_nil (gk_sub (T' := [(0,_), (1,_), (4,_), (5,_)]) ⟨rfl, rfl, rfl, rfl, trivial⟩ ?_)
  refine gk_seq ?_
  refine gk_region ?_
  refine gk_y rfl rfl (y_move rfl) ?_
  refine gk_y rfl rfl (y_call en138 rfl (fun w hw => nan_c _ w)) ?_
  refine gk_y rfl rfl (y_assign rfl) ?_
  refine gk_nil (gk_sub (T' := [(0,_), (1,_), (4,_), (5,_), (6,_)]) ⟨rfl, rfl, rfl, rfl, rfl, trivial⟩ ?_)
  refine gk_seq ?_
  refine gk_seq ?_
  refine gk_region ?_
  refine gk_y rfl rfl (y_move rfl) ?_
  refine gk_nil (gk_sub (T' := [(0,_), (1,_), (4,_), (6,_), (11,_)]) ⟨rfl, rfl, rfl, rfl, rfl, trivial⟩ ?_)
  refine gk_condF rfl ?_
  refine gk_skip ?_
  refine gk_seq ?_
  refine gk_seq ?_
  refine gk_region ?_
  refine gk_y rfl rfl (y_move rfl) ?_
  refine gk_nil (gk_sub (T' := [(0,_), (1,_), (4,_), (13,_)]) ⟨rfl, rfl, rfl, rfl, trivial⟩ ?_)
  refine gk_condF rfl ?_
  refine gk_skip ?_
  refine gk_seq ?_
  refine gk_seq ?_
  refine gk_region ?_
  refine gk_y rfl rfl (y_move rfl) ?_
  refine gk_y rfl rfl (y_move rfl) ?_
  refine gk_y rfl rfl (y_lss rfl rfl) ?_
  refine gk_nil (gk_sub (T' := [(0,_), (1,_), (4,_), (16,_)]) ⟨rfl, rfl, rfl, rfl, trivial⟩ ?_)
  refine gk_cond rfl (fun hc16 => ?_) (fun hc16 => ?_)
  · simp only [decide_eq_true_eq] at hc16
    refine gk_seq ?_
    refine gk_region ?_
    refine gk_y rfl rfl (y_assign rfl) ?_
    refine gk_nil (gk_sub (T' := [(0,_), (1,_), (4,_)]) ⟨rfl, rfl, rfl, trivial⟩ ?_)
    refine gk_ret ?_
    refine gk_pure (rv_one rfl (r1_tmp rfl)) ?_
    simp only [cmpI]; rw [if_pos (by omega)]
  · simp only [decide_eq_false_iff_not] at hc16
    refine gk_skip ?_
    refine gk_seq ?_
    refine gk_seq ?_
    refine gk_region ?_
    refine gk_y rfl rfl (y_move rfl) ?_
    refine gk_y rfl rfl (y_move rfl) ?_
    refine gk_y rfl rfl (y_gtr rfl rfl) ?_
    refine gk_nil (gk_sub (T' := [(4,_), (19,_)]) ⟨rfl, rfl, trivial⟩ ?_)
    refine gk_cond rfl (fun hc19 => ?_) (fun hc19 => ?_)
    · simp only [decide_eq_true_eq] at hc19
      refine gk_seq ?_
      refine gk_region ?_
      refine gk_y rfl rfl (y_assign rfl) ?_
      refine gk_nil (gk_sub (T' := [(4,_)]) ⟨rfl, trivial⟩ ?_)
      refine gk_ret ?_
      refine gk_pure (rv_one rfl (r1_tmp rfl)) ?_
      simp only [cmpI]; rw [if_neg (by omega), if_pos (by omega)]
    · simp only [decide_eq_false_iff_not] at hc19
      refine gk_skip ?_
      refine gk_seq ?_
      refine gk_region ?_
      refine gk_y rfl rfl (y_assign rfl) ?_
      refine gk_nil (gk_sub (T' := [(4,_)]) ⟨rfl, trivial⟩ ?_)
      refine gk_ret ?_
      refine gk_pure (rv_one rfl (r1_tmp rfl)) ?_
      simp only [cmpI]; rw [if_neg (by omega), if_neg (by omega)]
set_option maxRecDepth 100000 in
set_option maxHeartbeats 1000000 in
theorem or_c (a : Option Addr) (cap : Nat) (l : List Int) (w : World) (hl : Has w (Ints a l)) (hs : Small l.length) :
    Calls Tryd.prog 137 #[.slice a l.length cap] w (Pure (.int .i64 (orI l)) w) := by
  refine calls_of_gk (vs := [_]) Tryd.func137 rfl rfl (Nat.le_of_ble_eq_true rfl) ?_
  refine gk_seq ?_
  refine gk_region ?_
  refine gk_y rfl rfl (y_assign rfl) ?_
  refine gk_nil (gk_sub (T' := [(0,_), (2,_)]) ⟨rfl, rfl, trivial⟩ ?_)
  refine gk_seq ?_
  refine gk_region ?_
  refine gk_y rfl rfl (y_assign rfl) ?_
  refine gk_nil (gk_sub (T' := [(0,_), (2,_), (3,_)]) ⟨rfl, rfl, rfl, trivial⟩ ?_)
  refine gk_seq ?_
  refine gk_seq ?_
  refine gk_region ?_
  refine gk_y rfl rfl (y_move rfl) ?_
  refine gk_y rfl rfl (y_lenS (Tryd.underlying160) rfl) ?_
  refine gk_y rfl rfl (y_move rfl) ?_
  refine gk_nil (gk_sub (T' := [(2,_), (3,_), (6,_), (7,_), (8,_)]) ⟨rfl, rfl, rfl, rfl, rfl, trivial⟩ ?_)
  refine gk_block ?_
  refine gk_loop (X := Int) (fun (i : Int) => [(2, .int .i64 0), (3, .int .i64 0), (6, .slice a l.length cap), (7, .int .i64 (l.length : Int)), (8, .int .i64 i)]) (fun (i : Int) => []) (fun (i : Int) => (0 ≤ i ∧ i ≤ l.length ∧ orI (l.drop i.toNat) = orI l)) (fun (i : Int) => (l.length - i).toNat) 0 ⟨rfl, rfl, rfl, rfl, rfl, trivial⟩ rfl ?_ ?_
  · exact ⟨by omega, by omega, rfl⟩
  · rintro i hI
    obtain ⟨h0, h1, h2⟩ := hI
    refine gk_seq ?_
    refine gk_region ?_
    refine gk_y rfl rfl (y_lss rfl rfl) ?_
    refine gk_nil (gk_sub (T' := [(2,_), (3,_), (6,_), (7,_), (8,_), (9,_)]) ⟨rfl, rfl, rfl, rfl, rfl, rfl, trivial⟩ ?_)
    refine gk_seq ?_
    refine gk_cond rfl (fun hc9 => ?_) (fun hc9 => ?_)
    · simp only [decide_eq_true_eq] at hc9
      refine gk_skip ?_
      refine gk_seq ?_
      refine gk_block ?_
      refine gk_seq ?_
      refine gk_region ?_
      refine gk_y rfl rfl (y_indexE se160 rfl rfl (fun _ hw => (Rd.has (Has.rd hl) hw)) (by omega) (by omega)) ?_
      refine gk_y rfl rfl (y_loadE1 tf3 rfl (fun _ hw => (Rd.has (Has.rd hl) hw)) (by omega) (by omega) rfl) ?_
      refine gk_y rfl rfl (y_assign rfl) ?_
      refine gk_nil (gk_sub (T' := [(2,_), (3,_), (5,_), (6,_), (7,_), (8,_)]) ⟨rfl, rfl, rfl, rfl, rfl, rfl, trivial⟩ ?_)
      refine gk_seq ?_
      refine gk_region ?_
      refine gk_y rfl rfl (y_move rfl) ?_
      refine gk_y rfl rfl (y_move rfl) ?_
      refine gk_y rfl rfl (y_neq rfl rfl) ?_
      refine gk_nil (gk_sub (T' := [(2,_), (3,_), (5,_), (6,_), (7,_), (8,_), (14,_)]) ⟨rfl, rfl, rfl, rfl, rfl, rfl, rfl, trivial⟩ ?_)
      refine gk_cond rfl (fun hc14 => ?_) (fun hc14 => ?_)
      · simp only [Bool.not_eq_true', decide_eq_false_iff_not] at hc14
        refine gk_seq ?_
        refine gk_region ?_
        refine gk_y rfl rfl (y_move rfl) ?_
        refine gk_y rfl rfl (y_assign rfl) ?_
        refine gk_nil (gk_sub (T' := [(2,_), (3,_), (6,_), (7,_), (8,_)]) ⟨rfl, rfl, rfl, rfl, rfl, trivial⟩ ?_)
        refine gk_ret ?_
        refine gk_pure (rv_one rfl (r1_tmp rfl)) ?_
        rw [← h2]; exact congrArg _ (orI_hit h0 (by omega) hc14).symm
      · simp only [Bool.not_eq_false', decide_eq_true_eq] at hc14
        refine gk_skip ?_
        refine gk_region ?_
        refine gk_y rfl rfl (y_addI rfl rfl (by omega) (by omega)) ?_
        refine gk_y rfl rfl (y_move rfl) ?_
        refine gk_nil (gk_sub (T' := [(2,_), (3,_), (6,_), (7,_), (8,_)]) ⟨rfl, rfl, rfl, rfl, rfl, trivial⟩ ?_)
        exact gk_next _ ⟨rfl, rfl, rfl, rfl, rfl, trivial⟩ rfl (by refine ⟨by omega, by omega, ?_⟩; exact (orI_step h0 (by omega) hc14).trans h2) (by omega)
    · simp only [decide_eq_false_iff_not] at hc9
      refine gk_exit rfl ?_
      refine gk_seq ?_
      refine gk_region ?_
      refine gk_y rfl rfl (y_move rfl) ?_
      refine gk_y rfl rfl (y_assign rfl) ?_
      refine gk_nil (gk_sub (T' := [(2,_)]) ⟨rfl, trivial⟩ ?_)
      refine gk_ret ?_
      refine gk_pure (rv_one rfl (r1_tmp rfl)) ?_
      rw [← h2]; exact congrArg _ (orI_end (by omega)).symm
set_option maxRecDepth 100000 in
set_option maxHeartbeats 1000000 in
theorem order_c (a : Option Addr) (cap : Nat) (l : List Int) (w : World) (hl : Has w (Ints a l)) (hs : Small l.length) :
    Calls Tryd.prog 130 #[.slice a l.length cap] w (Pure (.int .i64 (orI l)) w) := by
  refine calls_of_gk (vs := [_]) Tryd.func130 rfl rfl (Nat.le_of_ble_eq_true rfl) ?_
  refine gk_seq ?_
  refine gk_region ?_
  refine gk_y rfl rfl (y_assign rfl) ?_
  refine gk_nil (gk_sub (T' := [(0,_), (2,_)]) ⟨rfl, rfl, trivial⟩ ?_)
  refine gk_seq ?_
  refine gk_region ?_
  refine gk_y rfl rfl (y_move rfl) ?_
  refine gk_y rfl rfl (y_call en137 rfl (fun w hw => or_c _ _ l w (Rd.has (Has.rd hl) hw) hs)) ?_
  refine gk_y rfl rfl (y_assign rfl) ?_
  refine gk_nil (gk_sub (T' := [(2,_)]) ⟨rfl, trivial⟩ ?_)
  refine gk_ret ?_
  refine gk_pure (rv_one rfl (r1_tmp rfl)) ?_
  rfl
set_option maxRecDepth 100000 in
set_option maxHeartbeats 1000000 in
theorem lower_c (p q : Pt) (w : World)  :
    Calls Tryd.prog 106 #[.agg #[.int .i64 p.x, .int .i64 p.z], .agg #[.int .i64 q.x, .int .i64 q.z]] w (Pure (.int .i64 (lowerW p q)) w) := by
  refine calls_of_gk (vs := [_, _]) Tryd.func106 rfl rfl (Nat.le_of_ble_eq_true rfl) ?_
  refine gk_seq ?_
  refine gk_region ?_
  refine gk_yx rfl rfl (yx_box (vs := [_, _]) rfl rfl) fun b2 => ?_
  refine gk_yx rfl rfl (yx_box (vs := [_, _]) rfl rfl) fun b3 => ?_
  refine gk_y rfl rfl (y_assign rfl) ?_
  refine gk_nil (gk_sub (T' := [(2,_), (3,_), (4,_)]) ⟨rfl, rfl, rfl, trivial⟩ ?_)
  refine gk_seq ?_
  refine gk_any 13 (fun _ => mixed) (by kernel_rfl) ?_
  refine ph_y (y_fieldAddr fo32_1 rfl) ?_
  refine ph_y (y_loadB1 1 tf3 rfl rfl rfl) ?_
  refine ph_y (y_fieldAddr fo32_1 rfl) ?_
  refine ph_y (y_loadB1 0 tf3 rfl rfl rfl) ?_
  refine ph_y (y_call en131 rfl (fun w hw => compare_c _ _ w)) ?_
  refine ph_y (y_fieldAddr fo32_0 rfl) ?_
  refine ph_y (y_loadB1 1 tf3 rfl rfl rfl) ?_
  refine ph_y (y_fieldAddr fo32_0 rfl) ?_
  refine ph_y (y_loadB1 0 tf3 rfl rfl rfl) ?_
  refine ph_y (y_call en131 rfl (fun w hw => compare_c _ _ w)) ?_
  refine ph_yx (yx_buildSlice rfl (bs160_2 _ _) encI_ok rfl) ?_
  refine ph_y (fun b15 => y_call en130 rfl (fun w hw => order_c _ _ ([(cmpI p.z q.z), (cmpI p.x q.x)]) w (has_row encI_ok (hw.has (p := 0) rfl)) (by simp [Small]))) ?_
  refine ph_y (fun b15 => y_assign rfl) ?_
  intro b15
  refine gk_nil (gk_sub (T' := [(4,_)]) ⟨rfl, trivial⟩ ?_)
  refine gk_ret ?_
  refine gk_pure (rv_one rfl (r1_tmp rfl)) ?_
  rfl
end Go.Proofs.YtahahmelnaphjaaDoor

namespace Go.Proofs.YtahahmelnaphjaaDoor
open Go.K Go.Stn Go.RowKit
theorem tf24 : TF Tryd.prog 24 true 2 (.agg #[.int IntKind.i64 0, .int IntKind.i64 0]) := ⟨by kernel_rfl, by kernel_rfl⟩
theorem se22 : SE Tryd.prog 22 24 2 := ⟨Tryd.underlying22, by kernel_rfl⟩
theorem se31 : SE Tryd.prog 31 32 2 := ⟨Tryd.underlying31, by kernel_rfl⟩
theorem en50 : En Tryd.prog 50 := en_of Tryd.func50 (by kernel_rfl) (by kernel_rfl)
theorem en55 : En Tryd.prog 55 := en_of Tryd.func55 (by kernel_rfl) (by kernel_rfl)
theorem en78 : En Tryd.prog 78 := en_of Tryd.func78 (by kernel_rfl) (by kernel_rfl)
theorem en79 : En Tryd.prog 79 := en_of Tryd.func79 (by kernel_rfl) (by kernel_rfl)
theorem en90 : En Tryd.prog 90 := en_of Tryd.func90 (by kernel_rfl) (by kernel_rfl)
theorem en99 : En Tryd.prog 99 := en_of Tryd.func99 (by kernel_rfl) (by kernel_rfl)
theorem en102 : En Tryd.prog 102 := en_of Tryd.func102 (by kernel_rfl) (by kernel_rfl)
theorem en106 : En Tryd.prog 106 := en_of Tryd.func106 (by kernel_rfl) (by kernel_rfl)
theorem en108 : En Tryd.prog 108 := en_of Tryd.func108 (by kernel_rfl) (by kernel_rfl)
theorem en110 : En Tryd.prog 110 := en_of Tryd.func110 (by kernel_rfl) (by kernel_rfl)
theorem en116 : En Tryd.prog 116 := en_of Tryd.func116 (by kernel_rfl) (by kernel_rfl)
theorem en117 : En Tryd.prog 117 := en_of Tryd.func117 (by kernel_rfl) (by kernel_rfl)
theorem en118 : En Tryd.prog 118 := en_of Tryd.func118 (by kernel_rfl) (by kernel_rfl)
theorem en127 : En Tryd.prog 127 := en_of Tryd.func127 (by kernel_rfl) (by kernel_rfl)
theorem bd32_  (w : World) : (Instr.build 32 #[]).run Tryd.prog w = .ok (.agg #[.int IntKind.i64 0, .int IntKind.i64 0]) w := by kernel_rfl
set_option maxRecDepth 100000 in
theorem y_eql32 {c : Cx} {ds : List Deferred} {H : List Res} {T : List (Nat × Value)} {d : Option Nat} {ty : TypeId} {ps : String} {af : Array Edge} {g : Option (Nat × Bool)} {x y : Operand} {t' : TypeId} {a0 a1 c0 c1 : Int}
    (hx : evo T x = some (.agg #[.int .i64 a0, .int .i64 a1])) (hy : evo T y = some (.agg #[.int .i64 c0, .int .i64 c1])) (hP : c.P = Tryd.prog := by rfl) : Y c ds H T ⟨d, .binOp .eql 32 x y t', ty, ps, af, g⟩ (.bool ((decide (a0 = c0) && decide (a1 = c1)))) := by
  refine ⟨fun a w ha _ => ?_⟩
  unfold Yld
  simp only [execOp, ha.eval hx, ha.eval hy]
  rw [hP]
  by_cases h0 : a0 = c0
  · subst h0
    by_cases h1 : a1 = c1
    · subst h1
      (go_simp; try exact Ext.rfl)
    · (go_simp; try exact Ext.rfl)
  · (go_simp; try exact Ext.rfl)
set_option maxRecDepth 100000 in
theorem y_neq32 {c : Cx} {ds : List Deferred} {H : List Res} {T : List (Nat × Value)} {d : Option Nat} {ty : TypeId} {ps : String} {af : Array Edge} {g : Option (Nat × Bool)} {x y : Operand} {t' : TypeId} {a0 a1 c0 c1 : Int}
    (hx : evo T x = some (.agg #[.int .i64 a0, .int .i64 a1])) (hy : evo T y = some (.agg #[.int .i64 c0, .int .i64 c1])) (hP : c.P = Tryd.prog := by rfl) : Y c ds H T ⟨d, .binOp .neq 32 x y t', ty, ps, af, g⟩ (.bool (!(decide (a0 = c0) && decide (a1 = c1)))) := by
  refine ⟨fun a w ha _ => ?_⟩
  unfold Yld
  simp only [execOp, ha.eval hx, ha.eval hy]
  rw [hP]
  by_cases h0 : a0 = c0
  · subst h0
    by_cases h1 : a1 = c1
    · subst h1
      (go_simp; try exact Ext.rfl)
    · (go_simp; try exact Ext.rfl)
  · (go_simp; try exact Ext.rfl)
set_option maxRecDepth 100000 in
set_option maxHeartbeats 1000000 in
theorem at_c (a : Option Addr) (cap : Nat) (l : List Pt) (i : Int) (w : World) (hl : Has w (Pts a l)) (hs : Small l.length) (h0 : 0 < l.length) (h1 : -(l.length : Int) ≤ i) (h2 : i ≤ 4398046511104) :
    Calls Tryd.prog 90 #[.slice a l.length cap, .int .i64 i] w (Pure (ptV (atL l i)) w) := by
  have q0 : 0 ≤ (i + (l.length : Int)).tmod (l.length : Int) := Int.tmod_nonneg _ (by omega)
  have q1 : (i + (l.length : Int)).tmod (l.length : Int) < (l.length : Int) := Int.tmod_lt_of_pos _ (by omega)
  refine calls_of_gk (vs := [_, _]) Tryd.func90 rfl rfl (Nat.le_of_ble_eq_true rfl) ?_
  refine gk_seq ?_
  refine gk_region ?_
  refine gk_yx rfl rfl (yx_alloc tf32 (zs := [_, _]) rfl) fun b4 => ?_
  refine gk_nil (gk_sub (T' := [(0,_), (1,_), (4,_)]) ⟨rfl, rfl, rfl, trivial⟩ ?_)
  refine gk_seq ?_
  refine gk_region ?_
  refine gk_y rfl rfl (y_move rfl) ?_
  refine gk_y rfl rfl (y_move rfl) ?_
  refine gk_y rfl rfl (y_move rfl) ?_
  refine gk_y rfl rfl (y_lenS (Tryd.underlying31) rfl) ?_
  refine gk_y rfl rfl (y_addI rfl rfl (by omega) (by omega)) ?_
  refine gk_y rfl rfl (y_move rfl) ?_
  refine gk_y rfl rfl (y_lenS (Tryd.underlying31) rfl) ?_
  refine gk_y rfl rfl (y_rem rfl rfl (by omega)) ?_
  refine gk_y rfl rfl (y_indexE se31 rfl rfl (fun _ hw => (Rd.has (Has.rd hl) hw)) (by omega) (by omega)) ?_
  refine gk_y rfl rfl (y_loadE (vs := [_, _]) tf32 rfl (fun _ hw => (Rd.has (Has.rd hl) hw)) (by omega) (by omega) rfl) ?_
  refine gk_storeV 0 tf32 rfl rfl (vs := [_, _]) rfl rfl rfl rfl rfl ?_
  refine gk_nil (gk_sub (T' := [(4,_)]) ⟨rfl, trivial⟩ ?_)
  refine gk_ret ?_
  refine gk_pure (rv_one rfl (r1_cellA (i := 0) (vs := [_, _]) tf32 rfl rfl rfl rfl)) ?_
  rfl
set_option maxRecDepth 100000 in
set_option maxHeartbeats 1000000 in
theorem least_c (a : Option Addr) (cap : Nat) (l : List Pt) (w : World) (hl : Has w (Pts a l)) (hs : Small l.length) (h0 : 0 < l.length) :
    Calls Tryd.prog 99 #[.slice a l.length cap] w (Pure (ptV (leastL l)) w) := by
  refine calls_of_gk (vs := [_]) Tryd.func99 rfl rfl (Nat.le_of_ble_eq_true rfl) ?_
  refine gk_seq ?_
  refine gk_region ?_
  refine gk_yx rfl rfl (yx_alloc tf32 (zs := [_, _]) rfl) fun b2 => ?_
  refine gk_nil (gk_sub (T' := [(0,_), (2,_)]) ⟨rfl, rfl, trivial⟩ ?_)
  refine gk_seq ?_
  refine gk_region ?_
  refine gk_y rfl rfl (y_move rfl) ?_
  refine gk_y rfl rfl (y_indexE se31 rfl rfl (fun _ hw => (Rd.has (Has.rd hl) hw)) (by omega) (by omega)) ?_
  refine gk_y rfl rfl (y_loadE (vs := [_, _]) tf32 rfl (fun _ hw => (Rd.has (Has.rd hl) hw)) (by omega) (by omega) rfl) ?_
  refine gk_yx rfl rfl (yx_alloc tf32 (zs := [_, _]) rfl) fun b3 => ?_
  refine gk_storeV 0 tf32 rfl rfl (vs := [_, _]) rfl rfl rfl rfl rfl ?_
  refine gk_nil (gk_sub (T' := [(0,_), (2,_), (3,_)]) ⟨rfl, rfl, rfl, trivial⟩ ?_)
  refine gk_seq ?_
  refine gk_seq ?_
  refine gk_region ?_
  refine gk_y rfl rfl (y_move rfl) ?_
  refine gk_y rfl rfl (y_lenS (Tryd.underlying31) rfl) ?_
  refine gk_y rfl rfl (y_move rfl) ?_
  refine gk_nil (gk_sub (T' := [(2,_), (3,_), (9,_), (10,_), (11,_)]) ⟨rfl, rfl, rfl, rfl, rfl, trivial⟩ ?_)
  refine gk_block ?_
  refine gk_loop (X := Int × Pt) (fun ⟨i, o⟩ => [(2, .pointer (some ⟨b2, 0, none⟩)), (3, .pointer (some ⟨b3, 0, none⟩)), (9, .slice a l.length cap), (10, .int .i64 (l.length : Int)), (11, .int .i64 i)]) (fun ⟨i, o⟩ => [Box b3 [.int .i64 o.x, .int .i64 o.z] 32, Box b2 [.int .i64 0, .int .i64 0] 32]) (fun ⟨i, o⟩ => (0 ≤ i ∧ i ≤ l.length ∧ o = (l.take i.toNat).foldl (fun (o p : Pt) => (⟨min o.x p.x, min o.z p.z⟩ : Pt)) (l.getD 0 default))) (fun ⟨i, o⟩ => (l.length - i).toNat) (0, l.getD 0 default) ⟨rfl, rfl, rfl, rfl, rfl, trivial⟩ rfl ?_ ?_
  · exact ⟨by simp, by simp, rfl⟩
  · rintro ⟨i, o⟩ hI
    obtain ⟨g0, g1, g2⟩ := hI
    refine gk_seq ?_
    refine gk_region ?_
    refine gk_y rfl rfl (y_lss rfl rfl) ?_
    refine gk_nil (gk_sub (T' := [(2,_), (3,_), (9,_), (10,_), (11,_), (12,_)]) ⟨rfl, rfl, rfl, rfl, rfl, rfl, trivial⟩ ?_)
    refine gk_seq ?_
    refine gk_cond rfl (fun hc12 => ?_) (fun hc12 => ?_)
    · simp only [decide_eq_true_eq] at hc12
      refine gk_skip ?_
      refine gk_seq ?_
      refine gk_block ?_
      refine gk_seq ?_
      refine gk_region ?_
      refine gk_y rfl rfl (y_indexE se31 rfl rfl (fun _ hw => (Rd.has (Has.rd hl) hw)) (by omega) (by omega)) ?_
      refine gk_y rfl rfl (y_loadE (vs := [_, _]) tf32 rfl (fun _ hw => (Rd.has (Has.rd hl) hw)) (by omega) (by omega) rfl) ?_
      refine gk_yx rfl rfl (yx_alloc tf32 (zs := [_, _]) rfl) fun b5 => ?_
      refine gk_storeV 0 tf32 rfl rfl (vs := [_, _]) rfl rfl rfl rfl rfl ?_
      refine gk_nil (gk_sub (T' := [(2,_), (3,_), (5,_), (9,_), (10,_), (11,_)]) ⟨rfl, rfl, rfl, rfl, rfl, rfl, trivial⟩ ?_)
      refine gk_region ?_
      refine gk_y rfl rfl (y_fieldAddr fo32_0 rfl) ?_
      refine gk_y rfl rfl (y_loadB1 1 tf3 rfl rfl rfl) ?_
      refine gk_y rfl rfl (y_fieldAddr fo32_0 rfl) ?_
      refine gk_y rfl rfl (y_loadB1 0 tf3 rfl rfl rfl) ?_
      refine gk_y rfl rfl (y_min rfl rfl) ?_
      refine gk_y rfl rfl (y_fieldAddr fo32_1 rfl) ?_
      refine gk_y rfl rfl (y_loadB1 1 tf3 rfl rfl rfl) ?_
      refine gk_y rfl rfl (y_fieldAddr fo32_1 rfl) ?_
      refine gk_y rfl rfl (y_loadB1 0 tf3 rfl rfl rfl) ?_
      refine gk_y rfl rfl (y_min rfl rfl) ?_
      refine gk_y rfl rfl (y_buildL rfl (bd32_0i_1i _ _)) ?_
      refine gk_storeV 1 tf32 rfl rfl (vs := [_, _]) rfl rfl rfl rfl rfl ?_
      refine gk_nil (gk_sub (T' := [(2,_), (3,_), (9,_), (10,_), (11,_)]) ⟨rfl, rfl, rfl, rfl, rfl, trivial⟩ ?_)
      refine gk_region ?_
      refine gk_y rfl rfl (y_addI rfl rfl (by omega) (by omega)) ?_
      refine gk_y rfl rfl (y_move rfl) ?_
      refine gk_nil (gk_sub (T' := [(2,_), (3,_), (9,_), (10,_), (11,_)]) ⟨rfl, rfl, rfl, rfl, rfl, trivial⟩ ?_)
      refine gk_dropAt 0 rfl ?_
      exact gk_next (i + 1, ⟨_, _⟩) ⟨rfl, rfl, rfl, rfl, rfl, trivial⟩ rfl ⟨by omega, by omega, by rw [fold_take _ _ g0 (by omega), ← g2]⟩ (by simp only []; omega)
    · simp only [decide_eq_false_iff_not] at hc12
      refine gk_exit rfl ?_
      refine gk_seq ?_
      refine gk_region ?_
      refine gk_y rfl rfl (y_loadBA 0 tf32 rfl rfl (vs := [_, _]) rfl rfl) ?_
      refine gk_storeV 1 tf32 rfl rfl (vs := [_, _]) rfl rfl rfl rfl rfl ?_
      refine gk_nil (gk_sub (T' := [(2,_)]) ⟨rfl, trivial⟩ ?_)
      refine gk_ret ?_
      refine gk_pure (rv_one rfl (r1_cellA (i := 1) (vs := [_, _]) tf32 rfl rfl rfl rfl)) ?_
      rw [g2, take_all (by omega)]; rfl
set_option maxRecDepth 100000 in
set_option maxHeartbeats 1000000 in
theorem most_c (a : Option Addr) (cap : Nat) (l : List Pt) (w : World) (hl : Has w (Pts a l)) (hs : Small l.length) (h0 : 0 < l.length) :
    Calls Tryd.prog 94 #[.slice a l.length cap] w (Pure (ptV (mostL l)) w) := by
  refine calls_of_gk (vs := [_]) Tryd.func94 rfl rfl (Nat.le_of_ble_eq_true rfl) ?_
  refine gk_seq ?_
  refine gk_region ?_
  refine gk_yx rfl rfl (yx_alloc tf32 (zs := [_, _]) rfl) fun b2 => ?_
  refine gk_nil (gk_sub (T' := [(0,_), (2,_)]) ⟨rfl, rfl, trivial⟩ ?_)
  refine gk_seq ?_
  refine gk_region ?_
  refine gk_y rfl rfl (y_move rfl) ?_
  refine gk_y rfl rfl (y_indexE se31 rfl rfl (fun _ hw => (Rd.has (Has.rd hl) hw)) (by omega) (by omega)) ?_
  refine gk_y rfl rfl (y_loadE (vs := [_, _]) tf32 rfl (fun _ hw => (Rd.has (Has.rd hl) hw)) (by omega) (by omega) rfl) ?_
  refine gk_yx rfl rfl (yx_alloc tf32 (zs := [_, _]) rfl) fun b3 => ?_
  refine gk_storeV 0 tf32 rfl rfl (vs := [_, _]) rfl rfl rfl rfl rfl ?_
  refine gk_nil (gk_sub (T' := [(0,_), (2,_), (3,_)]) ⟨rfl, rfl, rfl, trivial⟩ ?_)
  refine gk_seq ?_
  refine gk_seq ?_
  refine gk_region ?_
  refine gk_y rfl rfl (y_move rfl) ?_
  refine gk_y rfl rfl (y_lenS (Tryd.underlying31) rfl) ?_
  refine gk_y rfl rfl (y_move rfl) ?_
  refine gk_nil (gk_sub (T' := [(2,_), (3,_), (9,_), (10,_), (11,_)]) ⟨rfl, rfl, rfl, rfl, rfl, trivial⟩ ?_)
  refine gk_block ?_
  refine gk_loop (X := Int × Pt) (fun ⟨i, o⟩ => [(2, .pointer (some ⟨b2, 0, none⟩)), (3, .pointer (some ⟨b3, 0, none⟩)), (9, .slice a l.length cap), (10, .int .i64 (l.length : Int)), (11, .int .i64 i)]) (fun ⟨i, o⟩ => [Box b3 [.int .i64 o.x, .int .i64 o.z] 32, Box b2 [.int .i64 0, .int .i64 0] 32]) (fun ⟨i, o⟩ => (0 ≤ i ∧ i ≤ l.length ∧ o = (l.take i.toNat).foldl (fun (o p : Pt) => (⟨max o.x p.x, max o.z p.z⟩ : Pt)) (l.getD 0 default))) (fun ⟨i, o⟩ => (l.length - i).toNat) (0, l.getD 0 default) ⟨rfl, rfl, rfl, rfl, rfl, trivial⟩ rfl ?_ ?_
  · exact ⟨by simp, by simp, rfl⟩
  · rintro ⟨i, o⟩ hI
    obtain ⟨g0, g1, g2⟩ := hI
    refine gk_seq ?_
    refine gk_region ?_
    refine gk_y rfl rfl (y_lss rfl rfl) ?_
    refine gk_nil (gk_sub (T' := [(2,_), (3,_), (9,_), (10,_), (11,_), (12,_)]) ⟨rfl, rfl, rfl, rfl, rfl, rfl, trivial⟩ ?_)
    refine gk_seq ?_
    refine gk_cond rfl (fun hc12 => ?_) (fun hc12 => ?_)
    · simp only [decide_eq_true_eq] at hc12
      refine gk_skip ?_
      refine gk_seq ?_
      refine gk_block ?_
      refine gk_seq ?_
      refine gk_region ?_
      refine gk_y rfl rfl (y_indexE se31 rfl rfl (fun _ hw => (Rd.has (Has.rd hl) hw)) (by omega) (by omega)) ?_
      refine gk_y rfl rfl (y_loadE (vs := [_, _]) tf32 rfl (fun _ hw => (Rd.has (Has.rd hl) hw)) (by omega) (by omega) rfl) ?_
      refine gk_yx rfl rfl (yx_alloc tf32 (zs := [_, _]) rfl) fun b5 => ?_
      refine gk_storeV 0 tf32 rfl rfl (vs := [_, _]) rfl rfl rfl rfl rfl ?_
      refine gk_nil (gk_sub (T' := [(2,_), (3,_), (5,_), (9,_), (10,_), (11,_)]) ⟨rfl, rfl, rfl, rfl, rfl, rfl, trivial⟩ ?_)
      refine gk_region ?_
      refine gk_y rfl rfl (y_fieldAddr fo32_0 rfl) ?_
      refine gk_y rfl rfl (y_loadB1 1 tf3 rfl rfl rfl) ?_
      refine gk_y rfl rfl (y_fieldAddr fo32_0 rfl) ?_
      refine gk_y rfl rfl (y_loadB1 0 tf3 rfl rfl rfl) ?_
      refine gk_y rfl rfl (y_max rfl rfl) ?_
      refine gk_y rfl rfl (y_fieldAddr fo32_1 rfl) ?_
      refine gk_y rfl rfl (y_loadB1 1 tf3 rfl rfl rfl) ?_
      refine gk_y rfl rfl (y_fieldAddr fo32_1 rfl) ?_
      refine gk_y rfl rfl (y_loadB1 0 tf3 rfl rfl rfl) ?_
      refine gk_y rfl rfl (y_max rfl rfl) ?_
      refine gk_y rfl rfl (y_buildL rfl (bd32_0i_1i _ _)) ?_
      refine gk_storeV 1 tf32 rfl rfl (vs := [_, _]) rfl rfl rfl rfl rfl ?_
      refine gk_nil (gk_sub (T' := [(2,_), (3,_), (9,_), (10,_), (11,_)]) ⟨rfl, rfl, rfl, rfl, rfl, trivial⟩ ?_)
      refine gk_region ?_
      refine gk_y rfl rfl (y_addI rfl rfl (by omega) (by omega)) ?_
      refine gk_y rfl rfl (y_move rfl) ?_
      refine gk_nil (gk_sub (T' := [(2,_), (3,_), (9,_), (10,_), (11,_)]) ⟨rfl, rfl, rfl, rfl, rfl, trivial⟩ ?_)
      refine gk_dropAt 0 rfl ?_
      exact gk_next (i + 1, ⟨_, _⟩) ⟨rfl, rfl, rfl, rfl, rfl, trivial⟩ rfl ⟨by omega, by omega, by rw [fold_take _ _ g0 (by omega), ← g2]⟩ (by simp only []; omega)
    · simp only [decide_eq_false_iff_not] at hc12
      refine gk_exit rfl ?_
      refine gk_seq ?_
      refine gk_region ?_
      refine gk_y rfl rfl (y_loadBA 0 tf32 rfl rfl (vs := [_, _]) rfl rfl) ?_
      refine gk_storeV 1 tf32 rfl rfl (vs := [_, _]) rfl rfl rfl rfl rfl ?_
      refine gk_nil (gk_sub (T' := [(2,_)]) ⟨rfl, trivial⟩ ?_)
      refine gk_ret ?_
      refine gk_pure (rv_one rfl (r1_cellA (i := 1) (vs := [_, _]) tf32 rfl rfl rfl rfl)) ?_
      rw [g2, take_all (by omega)]; rfl
set_option maxRecDepth 100000 in
set_option maxHeartbeats 1000000 in
theorem low_c (a : Option Addr) (cap : Nat) (l : List Pt) (w : World) (hl : Has w (Pts a l)) (hs : Small l.length) (h0 : 0 < l.length) :
    Calls Tryd.prog 78 #[.slice a l.length cap] w (Pure (ptV (leastL l)) w) := by
  refine calls_of_gk (vs := [_]) Tryd.func78 rfl rfl (Nat.le_of_ble_eq_true rfl) ?_
  refine gk_seq ?_
  refine gk_region ?_
  refine gk_yx rfl rfl (yx_alloc tf24 (zs := [_, _]) rfl) fun b2 => ?_
  refine gk_nil (gk_sub (T' := [(0,_), (2,_)]) ⟨rfl, rfl, trivial⟩ ?_)
  refine gk_seq ?_
  refine gk_region ?_
  refine gk_y rfl rfl (y_move rfl) ?_
  refine gk_y rfl rfl (y_indexE se22 rfl rfl (fun _ hw => (Rd.has (Has.rd hl) hw)) (by omega) (by omega)) ?_
  refine gk_y rfl rfl (y_loadE (vs := [_, _]) tf24 rfl (fun _ hw => (Rd.has (Has.rd hl) hw)) (by omega) (by omega) rfl) ?_
  refine gk_yx rfl rfl (yx_alloc tf24 (zs := [_, _]) rfl) fun b3 => ?_
  refine gk_storeV 0 tf24 rfl rfl (vs := [_, _]) rfl rfl rfl rfl rfl ?_
  refine gk_nil (gk_sub (T' := [(0,_), (2,_), (3,_)]) ⟨rfl, rfl, rfl, trivial⟩ ?_)
  refine gk_seq ?_
  refine gk_seq ?_
  refine gk_region ?_
  refine gk_y rfl rfl (y_assign rfl) ?_
  refine gk_nil (gk_sub (T' := [(0,_), (2,_), (3,_), (4,_)]) ⟨rfl, rfl, rfl, rfl, trivial⟩ ?_)
  refine gk_block ?_
  refine gk_loop (X := Int × Pt) (fun ⟨i, o⟩ => [(0, .slice a l.length cap), (2, .pointer (some ⟨b2, 0, none⟩)), (3, .pointer (some ⟨b3, 0, none⟩)), (4, .int .i64 i)]) (fun ⟨i, o⟩ => [Box b3 [.int .i64 o.x, .int .i64 o.z] 24, Box b2 [.int .i64 0, .int .i64 0] 24]) (fun ⟨i, o⟩ => (0 ≤ i ∧ i ≤ l.length ∧ o = (l.take i.toNat).foldl (fun (o p : Pt) => (⟨min o.x p.x, min o.z p.z⟩ : Pt)) (l.getD 0 default))) (fun ⟨i, o⟩ => (l.length - i).toNat) (0, l.getD 0 default) ⟨rfl, rfl, rfl, rfl, trivial⟩ rfl ?_ ?_
  · exact ⟨by simp, by simp, rfl⟩
  · rintro ⟨i, o⟩ hI
    obtain ⟨g0, g1, g2⟩ := hI
    refine gk_seq ?_
    refine gk_seq ?_
    refine gk_region ?_
    refine gk_y rfl rfl (y_move rfl) ?_
    refine gk_y rfl rfl (y_move rfl) ?_
    refine gk_y rfl rfl (y_lenS (Tryd.underlying22) rfl) ?_
    refine gk_y rfl rfl (y_lss rfl rfl) ?_
    refine gk_nil (gk_sub (T' := [(0,_), (2,_), (3,_), (4,_), (11,_)]) ⟨rfl, rfl, rfl, rfl, rfl, trivial⟩ ?_)
    refine gk_cond rfl (fun hc11 => ?_) (fun hc11 => ?_)
    · simp only [decide_eq_true_eq] at hc11
      refine gk_skip ?_
      refine gk_seq ?_
      refine gk_block ?_
      refine gk_anyS (R' := Box b3 [.int .i64 (min o.x ((l.getD (i).toNat default).x)), .int .i64 o.z] 24) 17 [10, 11, 12, 13, 14, 15] 0 (fun _ => mixed) rfl rfl (by kernel_rfl) rfl ?_
      refine phs_y (y_fieldAddr fo24_0 rfl) ?_
      refine phs_y (y_loadB1 0 tf3 rfl rfl rfl) ?_
      refine phs_y (y_move rfl) ?_
      refine phs_y (y_move rfl) ?_
      refine phs_y (y_indexE se22 rfl rfl (fun _ hw => (Rd.has (Has.rd hl) hw)) (by omega) (by omega)) ?_
      refine phs_y (y_fieldE fo24_0 rfl (fun w hw => elems_addr (i := i) (Rd.has (Has.rd hl) hw) (by omega) (by omega))) ?_
      refine phs_y (y_loadEF tf3 rfl (fun _ hw => (Rd.has (Has.rd hl) hw)) (by omega) (by omega) rfl) ?_
      refine phs_y (y_min rfl rfl) ?_
      refine phs_y (y_fieldAddr fo24_1 rfl) ?_
      refine phs_y (y_loadB1 0 tf3 rfl rfl rfl) ?_
      refine phs_y (y_move rfl) ?_
      refine phs_y (y_move rfl) ?_
      refine phs_y (y_indexE se22 rfl rfl (fun _ hw => (Rd.has (Has.rd hl) hw)) (by omega) (by omega)) ?_
      refine phs_y (y_fieldE fo24_1 rfl (fun w hw => elems_addr (i := i) (Rd.has (Has.rd hl) hw) (by omega) (by omega))) ?_
      refine phs_y (y_loadEF tf3 rfl (fun _ hw => (Rd.has (Has.rd hl) hw)) (by omega) (by omega) rfl) ?_
      refine phs_y (y_min rfl rfl) ?_
      refine phs_y (y_fieldAddr fo24_0 rfl) ?_
      refine ⟨so_box tf3 rfl rfl (vs := [_]) rfl rfl rfl rfl rfl, ?_⟩
      refine gk_sub (T' := [(0,_), (2,_), (3,_), (4,_), (29,_)]) ⟨rfl, rfl, rfl, rfl, rfl, trivial⟩ ?_
      refine gk_y rfl rfl (y_fieldAddr fo24_1 rfl) ?_
      refine gk_storeV 0 tf3 rfl rfl (vs := [_]) rfl rfl rfl rfl rfl ?_
      refine gk_nil (gk_sub (T' := [(0,_), (2,_), (3,_), (4,_)]) ⟨rfl, rfl, rfl, rfl, trivial⟩ ?_)
      refine gk_region ?_
      refine gk_y rfl rfl (y_move rfl) ?_
      refine gk_y rfl rfl (y_addI rfl rfl (by omega) (by omega)) ?_
      refine gk_y rfl rfl (y_assign rfl) ?_
      refine gk_nil (gk_sub (T' := [(0,_), (2,_), (3,_), (4,_)]) ⟨rfl, rfl, rfl, rfl, trivial⟩ ?_)
      exact gk_next (i + 1, ⟨_, _⟩) ⟨rfl, rfl, rfl, rfl, trivial⟩ rfl ⟨by omega, by omega, by rw [fold_take _ _ g0 (by omega), ← g2]⟩ (by simp only []; omega)
    · simp only [decide_eq_false_iff_not] at hc11
      refine gk_exit rfl ?_
      refine gk_seq ?_
      refine gk_region ?_
      refine gk_y rfl rfl (y_loadBA 0 tf24 rfl rfl (vs := [_, _]) rfl rfl) ?_
      refine gk_storeV 1 tf24 rfl rfl (vs := [_, _]) rfl rfl rfl rfl rfl ?_
      refine gk_nil (gk_sub (T' := [(2,_)]) ⟨rfl, trivial⟩ ?_)
      refine gk_ret ?_
      refine gk_pure (rv_one rfl (r1_cellA (i := 1) (vs := [_, _]) tf24 rfl rfl rfl rfl)) ?_
      rw [g2, take_all (by omega)]; rfl
set_option maxRecDepth 100000 in
set_option maxHeartbeats 1000000 in
theorem high_c (a : Option Addr) (cap : Nat) (l : List Pt) (w : World) (hl : Has w (Pts a l)) (hs : Small l.length) (h0 : 0 < l.length) :
    Calls Tryd.prog 30 #[.slice a l.length cap] w (Pure (ptV (mostL l)) w) := by
  refine calls_of_gk (vs := [_]) Tryd.func30 rfl rfl (Nat.le_of_ble_eq_true rfl) ?_
  refine gk_seq ?_
  refine gk_region ?_
  refine gk_yx rfl rfl (yx_alloc tf24 (zs := [_, _]) rfl) fun b2 => ?_
  refine gk_nil (gk_sub (T' := [(0,_), (2,_)]) ⟨rfl, rfl, trivial⟩ ?_)
  refine gk_seq ?_
  refine gk_region ?_
  refine gk_y rfl rfl (y_move rfl) ?_
  refine gk_y rfl rfl (y_indexE se22 rfl rfl (fun _ hw => (Rd.has (Has.rd hl) hw)) (by omega) (by omega)) ?_
  refine gk_y rfl rfl (y_loadE (vs := [_, _]) tf24 rfl (fun _ hw => (Rd.has (Has.rd hl) hw)) (by omega) (by omega) rfl) ?_
  refine gk_yx rfl rfl (yx_alloc tf24 (zs := [_, _]) rfl) fun b3 => ?_
  refine gk_storeV 0 tf24 rfl rfl (vs := [_, _]) rfl rfl rfl rfl rfl ?_
  refine gk_nil (gk_sub (T' := [(0,_), (2,_), (3,_)]) ⟨rfl, rfl, rfl, trivial⟩ ?_)
  refine gk_seq ?_
  refine gk_seq ?_
  refine gk_region ?_
  refine gk_y rfl rfl (y_assign rfl) ?_
  refine gk_nil (gk_sub (T' := [(0,_), (2,_), (3,_), (4,_)]) ⟨rfl, rfl, rfl, rfl, trivial⟩ ?_)
  refine gk_block ?_
  refine gk_loop (X := Int × Pt) (fun ⟨i, o⟩ => [(0, .slice a l.length cap), (2, .pointer (some ⟨b2, 0, none⟩)), (3, .pointer (some ⟨b3, 0, none⟩)), (4, .int .i64 i)]) (fun ⟨i, o⟩ => [Box b3 [.int .i64 o.x, .int .i64 o.z] 24, Box b2 [.int .i64 0, .int .i64 0] 24]) (fun ⟨i, o⟩ => (0 ≤ i ∧ i ≤ l.length ∧ o = (l.take i.toNat).foldl (fun (o p : Pt) => (⟨max o.x p.x, max o.z p.z⟩ : Pt)) (l.getD 0 default))) (fun ⟨i, o⟩ => (l.length - i).toNat) (0, l.getD 0 default) ⟨rfl, rfl, rfl, rfl, trivial⟩ rfl ?_ ?_
  · exact ⟨by simp, by simp, rfl⟩
  · rintro ⟨i, o⟩ hI
    obtain ⟨g0, g1, g2⟩ := hI
    refine gk_seq ?_
    refine gk_seq ?_
    refine gk_region ?_
    refine gk_y rfl rfl (y_move rfl) ?_
    refine gk_y rfl rfl (y_move rfl) ?_
    refine gk_y rfl rfl (y_lenS (Tryd.underlying22) rfl) ?_
    refine gk_y rfl rfl (y_lss rfl rfl) ?_
    refine gk_nil (gk_sub (T' := [(0,_), (2,_), (3,_), (4,_), (11,_)]) ⟨rfl, rfl, rfl, rfl, rfl, trivial⟩ ?_)
    refine gk_cond rfl (fun hc11 => ?_) (fun hc11 => ?_)
    · simp only [decide_eq_true_eq] at hc11
      refine gk_skip ?_
      refine gk_seq ?_
      refine gk_block ?_
      refine gk_anyS (R' := Box b3 [.int .i64 (max o.x ((l.getD (i).toNat default).x)), .int .i64 o.z] 24) 17 [10, 11, 12, 13, 14, 15] 0 (fun _ => mixed) rfl rfl (by kernel_rfl) rfl ?_
      refine phs_y (y_fieldAddr fo24_0 rfl) ?_
      refine phs_y (y_loadB1 0 tf3 rfl rfl rfl) ?_
      refine phs_y (y_move rfl) ?_
      refine phs_y (y_move rfl) ?_
      refine phs_y (y_indexE se22 rfl rfl (fun _ hw => (Rd.has (Has.rd hl) hw)) (by omega) (by omega)) ?_
      refine phs_y (y_fieldE fo24_0 rfl (fun w hw => elems_addr (i := i) (Rd.has (Has.rd hl) hw) (by omega) (by omega))) ?_
      refine phs_y (y_loadEF tf3 rfl (fun _ hw => (Rd.has (Has.rd hl) hw)) (by omega) (by omega) rfl) ?_
      refine phs_y (y_max rfl rfl) ?_
      refine phs_y (y_fieldAddr fo24_1 rfl) ?_
      refine phs_y (y_loadB1 0 tf3 rfl rfl rfl) ?_
      refine phs_y (y_move rfl) ?_
      refine phs_y (y_move rfl) ?_
      refine phs_y (y_indexE se22 rfl rfl (fun _ hw => (Rd.has (Has.rd hl) hw)) (by omega) (by omega)) ?_
      refine phs_y (y_fieldE fo24_1 rfl (fun w hw => elems_addr (i := i) (Rd.has (Has.rd hl) hw) (by omega) (by omega))) ?_
      refine phs_y (y_loadEF tf3 rfl (fun _ hw => (Rd.has (Has.rd hl) hw)) (by omega) (by omega) rfl) ?_
      refine phs_y (y_max rfl rfl) ?_
      refine phs_y (y_fieldAddr fo24_0 rfl) ?_
      refine ⟨so_box tf3 rfl rfl (vs := [_]) rfl rfl rfl rfl rfl, ?_⟩
      refine gk_sub (T' := [(0,_), (2,_), (3,_), (4,_), (29,_)]) ⟨rfl, rfl, rfl, rfl, rfl, trivial⟩ ?_
      refine gk_y rfl rfl (y_fieldAddr fo24_1 rfl) ?_
      refine gk_storeV 0 tf3 rfl rfl (vs := [_]) rfl rfl rfl rfl rfl ?_
      refine gk_nil (gk_sub (T' := [(0,_), (2,_), (3,_), (4,_)]) ⟨rfl, rfl, rfl, rfl, trivial⟩ ?_)
      refine gk_region ?_
      refine gk_y rfl rfl (y_move rfl) ?_
      refine gk_y rfl rfl (y_addI rfl rfl (by omega) (by omega)) ?_
      refine gk_y rfl rfl (y_assign rfl) ?_
      refine gk_nil (gk_sub (T' := [(0,_), (2,_), (3,_), (4,_)]) ⟨rfl, rfl, rfl, rfl, trivial⟩ ?_)
      exact gk_next (i + 1, ⟨_, _⟩) ⟨rfl, rfl, rfl, rfl, trivial⟩ rfl ⟨by omega, by omega, by rw [fold_take _ _ g0 (by omega), ← g2]⟩ (by simp only []; omega)
    · simp only [decide_eq_false_iff_not] at hc11
      refine gk_exit rfl ?_
      refine gk_seq ?_
      refine gk_region ?_
      refine gk_y rfl rfl (y_loadBA 0 tf24 rfl rfl (vs := [_, _]) rfl rfl) ?_
      refine gk_storeV 1 tf24 rfl rfl (vs := [_, _]) rfl rfl rfl rfl rfl ?_
      refine gk_nil (gk_sub (T' := [(2,_)]) ⟨rfl, trivial⟩ ?_)
      refine gk_ret ?_
      refine gk_pure (rv_one rfl (r1_cellA (i := 1) (vs := [_, _]) tf24 rfl rfl rfl rfl)) ?_
      rw [g2, take_all (by omega)]; rfl
set_option maxRecDepth 100000 in
set_option maxHeartbeats 1000000 in
theorem minfunc_c (a : Option Addr) (cap : Nat) (l : List Pt) (f : Pt → Pt → Int) (gg : FuncId) (gcap : List Value) (w : World) (hl : Has w (Pts a l)) (hs : Small l.length) (h0 : 0 < l.length) (M : World → Prop) (hM : ∀ w', Ext w w' → M w') (hen : En Tryd.prog gg) (hg : ∀ p q w', M w' → Calls Tryd.prog gg ([ptV p, ptV q] ++ gcap).toArray w' (Pure (.int .i64 (f p q)) w')) :
    Calls Tryd.prog 118 #[.slice a l.length cap, .func (.func gg) #[] gcap.toArray] w (Pure (ptV (minF f l)) w) := by
  refine calls_of_gk (vs := [_, _]) Tryd.func118 rfl rfl (Nat.le_of_ble_eq_true rfl) ?_
  refine gk_seq ?_
  refine gk_region ?_
  refine gk_yx rfl rfl (yx_alloc tf32 (zs := [_, _]) rfl) fun b4 => ?_
  refine gk_nil (gk_sub (T' := [(0,_), (1,_), (4,_)]) ⟨rfl, rfl, rfl, trivial⟩ ?_)
  refine gk_seq ?_
  refine gk_seq ?_
  refine gk_region ?_
  refine gk_y rfl rfl (y_move rfl) ?_
  refine gk_y rfl rfl (y_lenS (Tryd.underlying31) rfl) ?_
  refine gk_y rfl rfl (y_lss rfl rfl) ?_
  refine gk_nil (gk_sub (T' := [(0,_), (1,_), (4,_), (9,_)]) ⟨rfl, rfl, rfl, rfl, trivial⟩ ?_)
  refine gk_cond rfl (fun hc9 => ?_) (fun hc9 => ?_)
  · exfalso; simp at hc9; omega
  · simp only [decide_eq_false_iff_not] at hc9
    refine gk_skip ?_
    refine gk_seq ?_
    refine gk_region ?_
    refine gk_y rfl rfl (y_move rfl) ?_
    refine gk_y rfl rfl (y_indexE se31 rfl rfl (fun _ hw => (Rd.has (Has.rd hl) hw)) (by omega) (by omega)) ?_
    refine gk_y rfl rfl (y_loadE (vs := [_, _]) tf32 rfl (fun _ hw => (Rd.has (Has.rd hl) hw)) (by omega) (by omega) rfl) ?_
    refine gk_yx rfl rfl (yx_alloc tf32 (zs := [_, _]) rfl) fun b5 => ?_
    refine gk_storeV 0 tf32 rfl rfl (vs := [_, _]) rfl rfl rfl rfl rfl ?_
    refine gk_nil (gk_sub (T' := [(0,_), (1,_), (4,_), (5,_)]) ⟨rfl, rfl, rfl, rfl, trivial⟩ ?_)
    refine gk_seq ?_
    refine gk_seq ?_
    refine gk_region ?_
    refine gk_y rfl rfl (y_assign rfl) ?_
    refine gk_nil (gk_sub (T' := [(0,_), (1,_), (4,_), (5,_), (6,_)]) ⟨rfl, rfl, rfl, rfl, rfl, trivial⟩ ?_)
    refine gk_block ?_
    refine gk_loop (X := Int × Pt) (fun ⟨i, o⟩ => [(0, .slice a l.length cap), (1, .func (.func gg) #[] gcap.toArray), (4, .pointer (some ⟨b4, 0, none⟩)), (5, .pointer (some ⟨b5, 0, none⟩)), (6, .int .i64 i)]) (fun ⟨i, o⟩ => [Box b5 [.int .i64 o.x, .int .i64 o.z] 32, Box b4 [.int .i64 0, .int .i64 0] 32]) (fun ⟨i, o⟩ => (1 ≤ i ∧ i ≤ l.length ∧ o = minF f (l.take i.toNat))) (fun ⟨i, o⟩ => (l.length - i).toNat) (1, l.getD 0 default) ⟨rfl, rfl, rfl, rfl, rfl, trivial⟩ rfl ?_ ?_
    · exact ⟨by omega, by omega, by cases l with | nil => simp at h0 | cons p r => rfl⟩
    · rintro ⟨i, o⟩ hI
      obtain ⟨g0, g1, g2⟩ := hI
      refine gk_seq ?_
      refine gk_seq ?_
      refine gk_region ?_
      refine gk_y rfl rfl (y_move rfl) ?_
      refine gk_y rfl rfl (y_move rfl) ?_
      refine gk_y rfl rfl (y_lenS (Tryd.underlying31) rfl) ?_
      refine gk_y rfl rfl (y_lss rfl rfl) ?_
      refine gk_nil (gk_sub (T' := [(0,_), (1,_), (4,_), (5,_), (6,_), (17,_)]) ⟨rfl, rfl, rfl, rfl, rfl, rfl, trivial⟩ ?_)
      refine gk_cond rfl (fun hc17 => ?_) (fun hc17 => ?_)
      · simp only [decide_eq_true_eq] at hc17
        refine gk_skip ?_
        refine gk_seq ?_
        refine gk_block ?_
        refine gk_seq ?_
        refine gk_any 8 (fun _ => mixed) (by kernel_rfl) ?_
        refine ph_y (y_move rfl) ?_
        refine ph_y (y_move rfl) ?_
        refine ph_y (y_move rfl) ?_
        refine ph_y (y_indexE se31 rfl rfl (fun _ hw => (Rd.has (Has.rd hl) hw)) (by omega) (by omega)) ?_
        refine ph_y (y_loadE (vs := [_, _]) tf32 rfl (fun _ hw => (Rd.has (Has.rd hl) hw)) (by omega) (by omega) rfl) ?_
        refine ph_y (y_loadBA 0 tf32 rfl rfl (vs := [_, _]) rfl rfl) ?_
        refine ph_y (y_callV (fs := []) (cap := gcap) hen rfl rfl (fun w hw => hg ⟨_, _⟩ ⟨_, _⟩ w (hM _ hw.base.ext0))) ?_
        refine ph_y (y_lss rfl rfl) ?_
        refine gk_nil (gk_sub (T' := [(0,_), (1,_), (4,_), (5,_), (6,_), (27,_)]) ⟨rfl, rfl, rfl, rfl, rfl, rfl, trivial⟩ ?_)
        refine gk_cond rfl (fun hc27 => ?_) (fun hc27 => ?_)
        · simp only [decide_eq_true_eq] at hc27
          refine gk_region ?_
          refine gk_y rfl rfl (y_move rfl) ?_
          refine gk_y rfl rfl (y_move rfl) ?_
          refine gk_y rfl rfl (y_indexE se31 rfl rfl (fun _ hw => (Rd.has (Has.rd hl) hw)) (by omega) (by omega)) ?_
          refine gk_y rfl rfl (y_loadE (vs := [_, _]) tf32 rfl (fun _ hw => (Rd.has (Has.rd hl) hw)) (by omega) (by omega) rfl) ?_
          refine gk_storeV 0 tf32 rfl rfl (vs := [_, _]) rfl rfl rfl rfl rfl ?_
          refine gk_nil (gk_sub (T' := [(0,_), (1,_), (4,_), (5,_), (6,_)]) ⟨rfl, rfl, rfl, rfl, rfl, trivial⟩ ?_)
          refine gk_region ?_
          refine gk_y rfl rfl (y_move rfl) ?_
          refine gk_y rfl rfl (y_addI rfl rfl (by omega) (by omega)) ?_
          refine gk_y rfl rfl (y_assign rfl) ?_
          refine gk_nil (gk_sub (T' := [(0,_), (1,_), (4,_), (5,_), (6,_)]) ⟨rfl, rfl, rfl, rfl, rfl, trivial⟩ ?_)
          exact gk_next (i + 1, ⟨_, _⟩) ⟨rfl, rfl, rfl, rfl, rfl, trivial⟩ rfl ⟨by omega, by omega, by rw [minF_take g0 (by omega), ← g2]; first | exact (if_pos hc27).symm | exact (if_neg hc27).symm⟩ (by simp only []; omega)
        · simp only [decide_eq_false_iff_not] at hc27
          refine gk_skip ?_
          refine gk_region ?_
          refine gk_y rfl rfl (y_move rfl) ?_
          refine gk_y rfl rfl (y_addI rfl rfl (by omega) (by omega)) ?_
          refine gk_y rfl rfl (y_assign rfl) ?_
          refine gk_nil (gk_sub (T' := [(0,_), (1,_), (4,_), (5,_), (6,_)]) ⟨rfl, rfl, rfl, rfl, rfl, trivial⟩ ?_)
          exact gk_next (i + 1, ⟨_, _⟩) ⟨rfl, rfl, rfl, rfl, rfl, trivial⟩ rfl ⟨by omega, by omega, by rw [minF_take g0 (by omega), ← g2]; first | exact (if_pos hc27).symm | exact (if_neg hc27).symm⟩ (by simp only []; omega)
      · simp only [decide_eq_false_iff_not] at hc17
        refine gk_exit rfl ?_
        refine gk_seq ?_
        refine gk_region ?_
        refine gk_y rfl rfl (y_loadBA 0 tf32 rfl rfl (vs := [_, _]) rfl rfl) ?_
        refine gk_storeV 1 tf32 rfl rfl (vs := [_, _]) rfl rfl rfl rfl rfl ?_
        refine gk_nil (gk_sub (T' := [(4,_)]) ⟨rfl, trivial⟩ ?_)
        refine gk_ret ?_
        refine gk_pure (rv_one rfl (r1_cellA (i := 1) (vs := [_, _]) tf32 rfl rfl rfl rfl)) ?_
        rw [g2, take_all (by omega)]
set_option maxRecDepth 100000 in
set_option maxHeartbeats 1000000 in
theorem indexfunc_c (a : Option Addr) (cap : Nat) (l : List Pt) (f : Pt → Bool) (gg : FuncId) (gcap : List Value) (w : World) (hl : Has w (Pts a l)) (hs : Small l.length) (M : World → Prop) (hM : ∀ w', Ext w w' → M w') (hen : En Tryd.prog gg) (hg : ∀ p w', M w' → Calls Tryd.prog gg ([ptV p] ++ gcap).toArray w' (Pure (.bool (f p)) w')) :
    Calls Tryd.prog 127 #[.slice a l.length cap, .func (.func gg) #[] gcap.toArray] w (Pure (.int .i64 (findI f l)) w) := by
  refine calls_of_gk (vs := [_, _]) Tryd.func127 rfl rfl (Nat.le_of_ble_eq_true rfl) ?_
  refine gk_seq ?_
  refine gk_region ?_
  refine gk_y rfl rfl (y_assign rfl) ?_
  refine gk_nil (gk_sub (T' := [(0,_), (1,_), (4,_)]) ⟨rfl, rfl, rfl, trivial⟩ ?_)
  refine gk_seq ?_
  refine gk_seq ?_
  refine gk_region ?_
  refine gk_y rfl rfl (y_move rfl) ?_
  refine gk_y rfl rfl (y_lenS (Tryd.underlying31) rfl) ?_
  refine gk_y rfl rfl (y_move rfl) ?_
  refine gk_nil (gk_sub (T' := [(0,_), (1,_), (4,_), (7,_), (8,_)]) ⟨rfl, rfl, rfl, rfl, rfl, trivial⟩ ?_)
  refine gk_block ?_
  refine gk_loop (X := Int) (fun (i : Int) => [(0, .slice a l.length cap), (1, .func (.func gg) #[] gcap.toArray), (4, .int .i64 0), (7, .int .i64 (l.length : Int)), (8, .int .i64 i)]) (fun (i : Int) => []) (fun (i : Int) => (0 ≤ i ∧ i ≤ l.length ∧ ∀ j : Nat, (j : Int) < i → f (l.getD j default) = false)) (fun (i : Int) => (l.length - i).toNat) 0 ⟨rfl, rfl, rfl, rfl, rfl, trivial⟩ rfl ?_ ?_
  · exact ⟨by omega, by omega, fun j hj => by omega⟩
  · rintro i hI
    obtain ⟨g0, g1, g2⟩ := hI
    refine gk_seq ?_
    refine gk_region ?_
    refine gk_y rfl rfl (y_lss rfl rfl) ?_
    refine gk_nil (gk_sub (T' := [(0,_), (1,_), (4,_), (7,_), (8,_), (9,_)]) ⟨rfl, rfl, rfl, rfl, rfl, rfl, trivial⟩ ?_)
    refine gk_seq ?_
    refine gk_cond rfl (fun hc9 => ?_) (fun hc9 => ?_)
    · simp only [decide_eq_true_eq] at hc9
      refine gk_skip ?_
      refine gk_seq ?_
      refine gk_block ?_
      refine gk_seq ?_
      refine gk_region ?_
      refine gk_y rfl rfl (y_move rfl) ?_
      refine gk_y rfl rfl (y_assign rfl) ?_
      refine gk_nil (gk_sub (T' := [(0,_), (1,_), (4,_), (5,_), (7,_), (8,_)]) ⟨rfl, rfl, rfl, rfl, rfl, rfl, trivial⟩ ?_)
      refine gk_seq ?_
      refine gk_region ?_
      refine gk_y rfl rfl (y_move rfl) ?_
      refine gk_y rfl rfl (y_move rfl) ?_
      refine gk_y rfl rfl (y_move rfl) ?_
      refine gk_y rfl rfl (y_indexE se31 rfl rfl (fun _ hw => (Rd.has (Has.rd hl) hw)) (by omega) (by omega)) ?_
      refine gk_y rfl rfl (y_loadE (vs := [_, _]) tf32 rfl (fun _ hw => (Rd.has (Has.rd hl) hw)) (by omega) (by omega) rfl) ?_
      refine gk_y rfl rfl (y_callV (fs := []) (cap := gcap) hen rfl rfl (fun w hw => hg ⟨_, _⟩ w (hM _ hw.base.ext0))) ?_
      refine gk_nil (gk_sub (T' := [(0,_), (1,_), (4,_), (5,_), (7,_), (8,_), (16,_)]) ⟨rfl, rfl, rfl, rfl, rfl, rfl, rfl, trivial⟩ ?_)
      refine gk_cond rfl (fun hc16 => ?_) (fun hc16 => ?_)
      · skip
        refine gk_seq ?_
        refine gk_region ?_
        refine gk_y rfl rfl (y_move rfl) ?_
        refine gk_y rfl rfl (y_assign rfl) ?_
        refine gk_nil (gk_sub (T' := [(0,_), (1,_), (4,_), (7,_), (8,_)]) ⟨rfl, rfl, rfl, rfl, rfl, trivial⟩ ?_)
        refine gk_ret ?_
        refine gk_pure (rv_one rfl (r1_tmp rfl)) ?_
        exact congrArg _ (findI_hit g0 (by omega) g2 hc16).symm
      · skip
        refine gk_skip ?_
        refine gk_region ?_
        refine gk_y rfl rfl (y_addI rfl rfl (by omega) (by omega)) ?_
        refine gk_y rfl rfl (y_move rfl) ?_
        refine gk_nil (gk_sub (T' := [(0,_), (1,_), (4,_), (7,_), (8,_)]) ⟨rfl, rfl, rfl, rfl, rfl, trivial⟩ ?_)
        exact gk_next _ ⟨rfl, rfl, rfl, rfl, rfl, trivial⟩ rfl ⟨by omega, by omega, fun j hj => if h : (j : Int) < i then g2 j h else (by rw [show j = i.toNat from by omega]; exact hc16)⟩ (by omega)
    · simp only [decide_eq_false_iff_not] at hc9
      refine gk_exit rfl ?_
      refine gk_seq ?_
      refine gk_region ?_
      refine gk_y rfl rfl (y_assign rfl) ?_
      refine gk_nil (gk_sub (T' := [(4,_)]) ⟨rfl, trivial⟩ ?_)
      refine gk_ret ?_
      refine gk_pure (rv_one rfl (r1_tmp rfl)) ?_
      exact congrArg _ (findI_none (fun j hj => g2 j (by omega))).symm
set_option maxRecDepth 100000 in
set_option maxHeartbeats 1000000 in
theorem containsfunc_c (a : Option Addr) (cap : Nat) (l : List Pt) (f : Pt → Bool) (gg : FuncId) (gcap : List Value) (w : World) (hl : Has w (Pts a l)) (hs : Small l.length) (M : World → Prop) (hM : ∀ w', Ext w w' → M w') (hen : En Tryd.prog gg) (hg : ∀ p w', M w' → Calls Tryd.prog gg ([ptV p] ++ gcap).toArray w' (Pure (.bool (f p)) w')) :
    Calls Tryd.prog 102 #[.slice a l.length cap, .func (.func gg) #[] gcap.toArray] w (Pure (.bool (l.any f)) w) := by
  refine calls_of_gk (vs := [_, _]) Tryd.func102 rfl rfl (Nat.le_of_ble_eq_true rfl) ?_
  refine gk_seq ?_
  refine gk_region ?_
  refine gk_y rfl rfl (y_assign rfl) ?_
  refine gk_nil (gk_sub (T' := [(0,_), (1,_), (4,_)]) ⟨rfl, rfl, rfl, trivial⟩ ?_)
  refine gk_seq ?_
  refine gk_region ?_
  refine gk_y rfl rfl (y_move rfl) ?_
  refine gk_y rfl rfl (y_move rfl) ?_
  refine gk_y rfl rfl (y_call en127 rfl (fun w hw => indexfunc_c _ _ l f _ _ w (Rd.has (Has.rd hl) hw) (by assumption) M (fun w' h => hM w' (hw.base.ext0.trans h)) hen hg)) ?_
  refine gk_y rfl rfl (y_geq rfl rfl) ?_
  refine gk_y rfl rfl (y_assign rfl) ?_
  refine gk_nil (gk_sub (T' := [(4,_)]) ⟨rfl, trivial⟩ ?_)
  refine gk_ret ?_
  refine gk_pure (rv_one rfl (r1_tmp rfl)) ?_
  rw [findI_any]
set_option maxRecDepth 100000 in
set_option maxHeartbeats 1000000 in
theorem convex_c (a : Option Addr) (cap : Nat) (l : List Pt) (w : World) (hl : Has w (Pts a l)) (hs : Small l.length) :
    Calls Tryd.prog 117 #[.slice a l.length cap] w (Pure (.bool (convexB l)) w) := by
  refine calls_of_gk (vs := [_]) Tryd.func117 rfl rfl (Nat.le_of_ble_eq_true rfl) ?_
  refine gk_seq ?_
  refine gk_region ?_
  refine gk_y rfl rfl (y_assign rfl) ?_
  refine gk_nil (gk_sub (T' := [(0,_), (2,_)]) ⟨rfl, rfl, trivial⟩ ?_)
  refine gk_seq ?_
  refine gk_seq ?_
  refine gk_region ?_
  refine gk_y rfl rfl (y_move rfl) ?_
  refine gk_y rfl rfl (y_lenS (Tryd.underlying31) rfl) ?_
  refine gk_y rfl rfl (y_call en55 rfl (fun w hw => within_c _ _ _ w)) ?_
  refine gk_y rfl rfl (y_not rfl) ?_
  refine gk_nil (gk_sub (T' := [(0,_), (2,_), (8,_)]) ⟨rfl, rfl, rfl, trivial⟩ ?_)
  refine gk_cond rfl (fun hc8 => ?_) (fun hc8 => ?_)
  · have hc8 := hc8
    refine gk_seq ?_
    refine gk_region ?_
    refine gk_y rfl rfl (y_assign rfl) ?_
    refine gk_nil (gk_sub (T' := [(0,_), (2,_)]) ⟨rfl, rfl, trivial⟩ ?_)
    refine gk_ret ?_
    refine gk_pure (rv_one rfl (r1_tmp rfl)) ?_
    exact congrArg _ (convex_no hc8).symm
  · have hc8 := hc8
    refine gk_skip ?_
    refine gk_seq ?_
    refine gk_seq ?_
    refine gk_region ?_
    refine gk_y rfl rfl (y_move rfl) ?_
    refine gk_y rfl rfl (y_lenS (Tryd.underlying31) rfl) ?_
    refine gk_y rfl rfl (y_move rfl) ?_
    refine gk_nil (gk_sub (T' := [(0,_), (2,_), (10,_), (11,_)]) ⟨rfl, rfl, rfl, rfl, trivial⟩ ?_)
    refine gk_block ?_
    refine gk_loop (X := Int) (fun (i : Int) => [(0, .slice a l.length cap), (2, .bool false), (10, .int .i64 (l.length : Int)), (11, .int .i64 i)]) (fun (i : Int) => []) (fun (i : Int) => (0 ≤ i ∧ i ≤ l.length ∧ ∀ j : Nat, (j : Int) < i → cvxI l j = true)) (fun (i : Int) => (l.length - i).toNat) 0 ⟨rfl, rfl, rfl, rfl, trivial⟩ rfl ?_ ?_
    · exact ⟨by omega, by omega, fun j hj => by omega⟩
    · rintro i hI
      obtain ⟨g0, g1, g2⟩ := hI
      have hlen := convex_len hc8
      refine gk_seq ?_
      refine gk_region ?_
      refine gk_y rfl rfl (y_lss rfl rfl) ?_
      refine gk_nil (gk_sub (T' := [(0,_), (2,_), (10,_), (11,_), (12,_)]) ⟨rfl, rfl, rfl, rfl, rfl, trivial⟩ ?_)
      refine gk_seq ?_
      refine gk_cond rfl (fun hc12 => ?_) (fun hc12 => ?_)
      · simp only [decide_eq_true_eq] at hc12
        refine gk_skip ?_
        refine gk_seq ?_
        refine gk_block ?_
        refine gk_seq ?_
        refine gk_region ?_
        refine gk_y rfl rfl (y_move rfl) ?_
        refine gk_y rfl rfl (y_assign rfl) ?_
        refine gk_nil (gk_sub (T' := [(0,_), (2,_), (3,_), (10,_), (11,_)]) ⟨rfl, rfl, rfl, rfl, rfl, trivial⟩ ?_)
        refine gk_seq ?_
        refine gk_seq ?_
        refine gk_any 14 (fun _ => mixed) (by kernel_rfl) ?_
        refine ph_y (y_move rfl) ?_
        refine ph_y (y_move rfl) ?_
        refine ph_y (y_subI rfl rfl (by omega) (by omega)) ?_
        refine ph_y (y_call en90 rfl (fun w hw => at_c _ _ l (i - 1) w (Rd.has (Has.rd hl) hw) (by assumption) (by omega) (by omega) (by omega))) ?_
        refine ph_y (y_move rfl) ?_
        refine ph_y (y_move rfl) ?_
        refine ph_y (y_indexE se31 rfl rfl (fun _ hw => (Rd.has (Has.rd hl) hw)) (by omega) (by omega)) ?_
        refine ph_y (y_loadE (vs := [_, _]) tf32 rfl (fun _ hw => (Rd.has (Has.rd hl) hw)) (by omega) (by omega) rfl) ?_
        refine ph_y (y_move rfl) ?_
        refine ph_y (y_move rfl) ?_
        refine ph_y (y_addI rfl rfl (by omega) (by omega)) ?_
        refine ph_y (y_call en90 rfl (fun w hw => at_c _ _ l (i + 1) w (Rd.has (Has.rd hl) hw) (by assumption) (by omega) (by omega) (by omega))) ?_
        refine ph_y (y_call en108 rfl (fun w hw => turn_c ⟨_, _⟩ ⟨_, _⟩ ⟨_, _⟩ w)) ?_
        refine ph_y (y_leq rfl rfl) ?_
        refine gk_nil (gk_sub (T' := [(0,_), (2,_), (3,_), (10,_), (11,_), (27,_)]) ⟨rfl, rfl, rfl, rfl, rfl, rfl, trivial⟩ ?_)
        refine gk_cond rfl (fun hc27 => ?_) (fun hc27 => ?_)
        · simp only [decide_eq_true_eq] at hc27
          refine gk_seq ?_
          refine gk_region ?_
          refine gk_y rfl rfl (y_assign rfl) ?_
          refine gk_nil (gk_sub (T' := [(0,_), (2,_), (3,_), (10,_), (11,_)]) ⟨rfl, rfl, rfl, rfl, rfl, trivial⟩ ?_)
          refine gk_ret ?_
          refine gk_pure (rv_one rfl (r1_tmp rfl)) ?_
          exact congrArg _ (convex_bad1 g0 (by omega) hc27).symm
        · simp only [decide_eq_false_iff_not] at hc27
          refine gk_skip ?_
          refine gk_seq ?_
          refine gk_region ?_
          refine gk_y rfl rfl (y_assign rfl) ?_
          refine gk_nil (gk_sub (T' := [(0,_), (2,_), (3,_), (4,_), (10,_), (11,_)]) ⟨rfl, rfl, rfl, rfl, rfl, rfl, trivial⟩ ?_)
          refine gk_block ?_
          refine gk_loop (X := Int) (fun (k : Int) => [(0, .slice a l.length cap), (2, .bool false), (3, .int .i64 i), (4, .int .i64 k), (10, .int .i64 (l.length : Int)), (11, .int .i64 i)]) (fun (k : Int) => []) (fun (k : Int) => (2 ≤ k ∧ (k ≤ l.length - 1 ∨ k = 2) ∧ cvx1 l i = true ∧ ∀ j : Nat, 2 ≤ j → (j : Int) < k → cvx2 l i j = true)) (fun (k : Int) => (l.length - k).toNat) 2 ⟨rfl, rfl, rfl, rfl, rfl, rfl, trivial⟩ rfl ?_ ?_
          · exact ⟨by omega, by omega, cvx1_of hc27, fun j h1 h2 => by omega⟩
          · rintro k hI
            obtain ⟨k0, k1, k2, k3⟩ := hI
            refine gk_seq ?_
            refine gk_seq ?_
            refine gk_region ?_
            refine gk_y rfl rfl (y_move rfl) ?_
            refine gk_y rfl rfl (y_move rfl) ?_
            refine gk_y rfl rfl (y_lenS (Tryd.underlying31) rfl) ?_
            refine gk_y rfl rfl (y_subI rfl rfl (by omega) (by omega)) ?_
            refine gk_y rfl rfl (y_lss rfl rfl) ?_
            refine gk_nil (gk_sub (T' := [(0,_), (2,_), (3,_), (4,_), (10,_), (11,_), (32,_)]) ⟨rfl, rfl, rfl, rfl, rfl, rfl, rfl, trivial⟩ ?_)
            refine gk_cond rfl (fun hc32 => ?_) (fun hc32 => ?_)
            · simp only [decide_eq_true_eq] at hc32
              refine gk_skip ?_
              refine gk_seq ?_
              refine gk_block ?_
              refine gk_seq ?_
              refine gk_any 15 (fun _ => mixed) (by kernel_rfl) ?_
              refine ph_y (y_move rfl) ?_
              refine ph_y (y_move rfl) ?_
              refine ph_y (y_indexE se31 rfl rfl (fun _ hw => (Rd.has (Has.rd hl) hw)) (by omega) (by omega)) ?_
              refine ph_y (y_loadE (vs := [_, _]) tf32 rfl (fun _ hw => (Rd.has (Has.rd hl) hw)) (by omega) (by omega) rfl) ?_
              refine ph_y (y_move rfl) ?_
              refine ph_y (y_move rfl) ?_
              refine ph_y (y_addI rfl rfl (by omega) (by omega)) ?_
              refine ph_y (y_call en90 rfl (fun w hw => at_c _ _ l (i + 1) w (Rd.has (Has.rd hl) hw) (by assumption) (by omega) (by omega) (by omega))) ?_
              refine ph_y (y_move rfl) ?_
              refine ph_y (y_move rfl) ?_
              refine ph_y (y_move rfl) ?_
              refine ph_y (y_addI rfl rfl (by omega) (by omega)) ?_
              refine ph_y (y_call en90 rfl (fun w hw => at_c _ _ l (i + k) w (Rd.has (Has.rd hl) hw) (by assumption) (by omega) (by omega) (by omega))) ?_
              refine ph_y (y_call en108 rfl (fun w hw => turn_c ⟨_, _⟩ ⟨_, _⟩ ⟨_, _⟩ w)) ?_
              refine ph_y (y_leq rfl rfl) ?_
              refine gk_nil (gk_sub (T' := [(0,_), (2,_), (3,_), (4,_), (10,_), (11,_), (49,_)]) ⟨rfl, rfl, rfl, rfl, rfl, rfl, rfl, trivial⟩ ?_)
              refine gk_cond rfl (fun hc49 => ?_) (fun hc49 => ?_)
              · simp only [decide_eq_true_eq] at hc49
                refine gk_seq ?_
                refine gk_region ?_
                refine gk_y rfl rfl (y_assign rfl) ?_
                refine gk_nil (gk_sub (T' := [(0,_), (2,_), (3,_), (4,_), (10,_), (11,_)]) ⟨rfl, rfl, rfl, rfl, rfl, rfl, trivial⟩ ?_)
                refine gk_ret ?_
                refine gk_pure (rv_one rfl (r1_tmp rfl)) ?_
                exact congrArg _ (convex_bad2 g0 (by omega) k0 (by omega) hc49).symm
              · simp only [decide_eq_false_iff_not] at hc49
                refine gk_skip ?_
                refine gk_region ?_
                refine gk_y rfl rfl (y_move rfl) ?_
                refine gk_y rfl rfl (y_addI rfl rfl (by omega) (by omega)) ?_
                refine gk_y rfl rfl (y_assign rfl) ?_
                refine gk_nil (gk_sub (T' := [(0,_), (2,_), (3,_), (4,_), (10,_), (11,_)]) ⟨rfl, rfl, rfl, rfl, rfl, rfl, trivial⟩ ?_)
                exact gk_next _ ⟨rfl, rfl, rfl, rfl, rfl, rfl, trivial⟩ rfl ⟨by omega, by omega, k2, fun j h1 h2 => if h : (j : Int) < k then k3 j h1 h else (by rw [show (j : Int) = k from by omega]; exact cvx2_of hc49)⟩ (by omega)
            · simp only [decide_eq_false_iff_not] at hc32
              refine gk_exit rfl ?_
              refine gk_region ?_
              refine gk_y rfl rfl (y_addI rfl rfl (by omega) (by omega)) ?_
              refine gk_y rfl rfl (y_move rfl) ?_
              refine gk_nil (gk_sub (T' := [(0,_), (2,_), (10,_), (11,_)]) ⟨rfl, rfl, rfl, rfl, trivial⟩ ?_)
              exact gk_next _ ⟨rfl, rfl, rfl, rfl, trivial⟩ rfl ⟨by omega, by omega, fun j hj => if h : (j : Int) < i then g2 j h else (by rw [show (j : Int) = i from by omega]; exact cvxI_true (by omega) k2 k3)⟩ (by omega)
      · simp only [decide_eq_false_iff_not] at hc12
        refine gk_exit rfl ?_
        refine gk_seq ?_
        refine gk_region ?_
        refine gk_y rfl rfl (y_assign rfl) ?_
        refine gk_nil (gk_sub (T' := [(2,_)]) ⟨rfl, trivial⟩ ?_)
        refine gk_ret ?_
        refine gk_pure (rv_one rfl (r1_tmp rfl)) ?_
        exact congrArg _ (convex_yes hlen g2 (by omega)).symm
set_option maxRecDepth 100000 in
set_option maxHeartbeats 1000000 in
theorem placed1_c (p : Pt) (w : World)  :
    Calls Tryd.prog 116 #[.agg #[.int .i64 p.x, .int .i64 p.z]] w (Pure (.bool (farB p)) w) := by
  refine calls_of_gk (vs := [_]) Tryd.func116 rfl rfl (Nat.le_of_ble_eq_true rfl) ?_
  refine gk_seq ?_
  refine gk_region ?_
  refine gk_yx rfl rfl (yx_box (vs := [_, _]) rfl rfl) fun b1 => ?_
  refine gk_y rfl rfl (y_assign rfl) ?_
  refine gk_nil (gk_sub (T' := [(1,_), (2,_)]) ⟨rfl, rfl, trivial⟩ ?_)
  refine gk_seq ?_
  refine gk_any 11 (fun _ => mixed) (by kernel_rfl) ?_
  refine ph_y (y_fieldAddr fo32_0 rfl) ?_
  refine ph_y (y_loadB1 0 tf3 rfl rfl rfl) ?_
  refine ph_y (y_call en55 rfl (fun w hw => within_c _ _ _ w)) ?_
  refine ph_y (y_not rfl) ?_
  refine ph_y (y_move rfl) ?_
  refine ph_gF rfl rfl (fun hgd => by (try rw [hgd]); exact (y_fieldAddr fo32_1 rfl)) ?_
  refine ph_gF rfl rfl (fun hgd => by (try rw [hgd]); exact (y_loadB1 0 tf3 rfl rfl rfl)) ?_
  refine ph_gF rfl rfl (fun hgd => by (try rw [hgd]); exact (y_call (v := .bool (decide (0 ≤ p.z) && decide (p.z ≤ 2000))) en55 rfl (fun w hw => within_c _ _ _ w))) ?_
  refine ph_gF rfl rfl (fun hgd => by (try rw [hgd]); exact (y_not rfl)) ?_
  refine ph_y (y_pickOr rfl rfl rfl) ?_
  refine ph_y (y_assign rfl) ?_
  refine gk_nil (gk_sub (T' := [(2,_)]) ⟨rfl, trivial⟩ ?_)
  refine gk_ret ?_
  refine gk_pure (rv_one rfl (r1_tmp rfl)) ?_
  rfl
set_option maxRecDepth 100000 in
set_option maxHeartbeats 1000000 in
theorem placed_c (a : Option Addr) (cap : Nat) (l : List Pt) (w : World) (hl : Has w (Pts a l)) (hs : Small l.length) :
    Calls Tryd.prog 57 #[.slice a l.length cap] w (Pure (.bool (placedB l)) w) := by
  refine calls_of_gk (vs := [_]) Tryd.func57 rfl rfl (Nat.le_of_ble_eq_true rfl) ?_
  refine gk_seq ?_
  refine gk_region ?_
  refine gk_y rfl rfl (y_assign rfl) ?_
  refine gk_nil (gk_sub (T' := [(0,_), (2,_)]) ⟨rfl, rfl, trivial⟩ ?_)
  refine gk_seq ?_
  refine gk_region ?_
  refine gk_y rfl rfl (y_assign rfl) ?_
  refine gk_nil (gk_sub (T' := [(0,_), (2,_), (3,_)]) ⟨rfl, rfl, rfl, trivial⟩ ?_)
  refine gk_seq ?_
  refine gk_seq ?_
  refine gk_any 8 (fun _ => mixed) (by kernel_rfl) ?_
  refine ph_y (y_move rfl) ?_
  refine ph_y (y_move rfl) ?_
  refine ph_y (y_call en102 rfl (fun w hw => containsfunc_c _ _ l farB _ [] w (Rd.has (Has.rd hl) hw) (by assumption) (fun _ => True) (fun _ _ => trivial) en116 (fun p w _ => placed1_c p w))) ?_
  refine ph_y (y_move rfl) ?_
  refine ph_gF rfl rfl (fun hgd => by (try rw [hgd]); exact (y_move rfl)) ?_
  refine ph_gF rfl rfl (fun hgd => by (try rw [hgd]); exact (y_call (v := .bool (convexB l)) en117 rfl (fun w hw => convex_c _ _ l w (Rd.has (Has.rd hl) hw) (by assumption)))) ?_
  refine ph_gF rfl rfl (fun hgd => by (try rw [hgd]); exact (y_not rfl)) ?_
  refine ph_y (y_pickOr rfl rfl rfl) ?_
  refine gk_nil (gk_sub (T' := [(0,_), (2,_), (11,_)]) ⟨rfl, rfl, rfl, trivial⟩ ?_)
  refine gk_cond rfl (fun hc11 => ?_) (fun hc11 => ?_)
  · skip
    refine gk_seq ?_
    refine gk_region ?_
    refine gk_y rfl rfl (y_assign rfl) ?_
    refine gk_nil (gk_sub (T' := [(0,_), (2,_)]) ⟨rfl, rfl, trivial⟩ ?_)
    refine gk_ret ?_
    refine gk_pure (rv_one rfl (r1_tmp rfl)) ?_
    exact congrArg _ (placed_no hc11).symm
  · have h0 := placed_pos hc11
    refine gk_skip ?_
    refine gk_seq ?_
    refine gk_any 13 (fun _ => mixed) (by kernel_rfl) ?_
    refine ph_y (y_move rfl) ?_
    refine ph_y (y_call en99 rfl (fun w hw => least_c _ _ l w (Rd.has (Has.rd hl) hw) (by assumption) (by omega))) ?_
    refine ph_y (y_buildL (parts := []) rfl bd32_) ?_
    refine ph_y (y_eql32 rfl rfl) ?_
    refine ph_y (y_move rfl) ?_
    refine ph_gT rfl rfl (fun hgd => by (try rw [hgd]); exact (y_move rfl)) ?_
    refine ph_gT rfl rfl (fun hgd => by (try rw [hgd]); exact (y_call (v := .agg #[.int .i64 ((minF lowerW l).x), .int .i64 ((minF lowerW l).z)]) en118 rfl (fun w hw => minfunc_c _ _ l lowerW _ [] w (Rd.has (Has.rd hl) hw) (by assumption) (by omega) (fun _ => True) (fun _ _ => trivial) en106 (fun p q w _ => lower_c p q w)))) ?_
    refine ph_gT rfl rfl (fun hgd => by (try rw [hgd]); exact (y_move rfl)) ?_
    refine ph_gT rfl rfl (fun hgd => by (try rw [hgd]); exact (y_indexE se31 rfl rfl (fun _ hw => (Rd.has (Has.rd hl) hw)) (by omega) (by omega))) ?_
    refine ph_gT rfl rfl (fun hgd => by (try rw [hgd]); exact (y_loadE (vs := [_, _]) tf32 rfl (fun _ hw => (Rd.has (Has.rd hl) hw)) (by omega) (by omega) rfl)) ?_
    refine ph_gT rfl rfl (fun hgd => by (try rw [hgd]); exact (y_eql32 rfl rfl)) ?_
    refine ph_y (y_pickAnd rfl rfl rfl) ?_
    refine ph_y (y_assign rfl) ?_
    refine gk_nil (gk_sub (T' := [(2,_)]) ⟨rfl, trivial⟩ ?_)
    refine gk_ret ?_
    refine gk_pure (rv_one rfl (r1_tmp rfl)) ?_
    exact congrArg _ (placed_yes hc11).symm
set_option maxRecDepth 100000 in
set_option maxHeartbeats 1000000 in
theorem rfirst_c (a : Option Addr) (cap : Nat) (l : List Pt) (w : World) (hl : Has w (Pts a l)) (hs : Small l.length) :
    Calls Tryd.prog 110 #[.slice a l.length cap] w (Pure (.int .i64 (rfirst l)) w) := by
  refine calls_of_gk (vs := [_]) Tryd.func110 rfl rfl (Nat.le_of_ble_eq_true rfl) ?_
  refine gk_seq ?_
  refine gk_region ?_
  refine gk_y rfl rfl (y_assign rfl) ?_
  refine gk_nil (gk_sub (T' := [(0,_), (2,_)]) ⟨rfl, rfl, trivial⟩ ?_)
  refine gk_seq ?_
  refine gk_region ?_
  refine gk_y rfl rfl (y_assign rfl) ?_
  refine gk_nil (gk_sub (T' := [(0,_), (2,_), (3,_)]) ⟨rfl, rfl, rfl, trivial⟩ ?_)
  refine gk_seq ?_
  refine gk_seq ?_
  refine gk_region ?_
  refine gk_y rfl rfl (y_assign rfl) ?_
  refine gk_nil (gk_sub (T' := [(0,_), (2,_), (3,_), (4,_)]) ⟨rfl, rfl, rfl, rfl, trivial⟩ ?_)
  refine gk_block ?_
  refine gk_loop (X := Int × Int) (fun ⟨i, o⟩ => [(0, .slice a l.length cap), (2, .int .i64 0), (3, .int .i64 o), (4, .int .i64 i)]) (fun ⟨i, o⟩ => []) (fun ⟨i, o⟩ => (0 ≤ i ∧ i ≤ l.length ∧ 0 ≤ o ∧ o ≤ i ∧ o = rfirstN l i.toNat)) (fun ⟨i, o⟩ => (l.length - i).toNat) (0, 0) ⟨rfl, rfl, rfl, rfl, trivial⟩ rfl ?_ ?_
  · exact ⟨by omega, by omega, by omega, by omega, rfl⟩
  · rintro ⟨i, o⟩ hI
    obtain ⟨g0, g1, g2, g3, g4⟩ := hI
    refine gk_seq ?_
    refine gk_seq ?_
    refine gk_region ?_
    refine gk_y rfl rfl (y_move rfl) ?_
    refine gk_y rfl rfl (y_move rfl) ?_
    refine gk_y rfl rfl (y_lenS (Tryd.underlying22) rfl) ?_
    refine gk_y rfl rfl (y_lss rfl rfl) ?_
    refine gk_nil (gk_sub (T' := [(0,_), (2,_), (3,_), (4,_), (8,_)]) ⟨rfl, rfl, rfl, rfl, rfl, trivial⟩ ?_)
    have hne : l ≠ [] → True := fun _ => trivial
    refine gk_cond rfl (fun hc8 => ?_) (fun hc8 => ?_)
    · simp only [decide_eq_true_eq] at hc8
      refine gk_skip ?_
      refine gk_seq ?_
      refine gk_block ?_
      refine gk_seq ?_
      refine gk_any 37 (fun _ => mixed) (by kernel_rfl) ?_
      refine ph_y (y_move rfl) ?_
      refine ph_y (y_move rfl) ?_
      refine ph_y (y_indexE se22 rfl rfl (fun _ hw => (Rd.has (Has.rd hl) hw)) (by omega) (by omega)) ?_
      refine ph_y (y_fieldE fo24_1 rfl (fun w hw => elems_addr (i := i) (Rd.has (Has.rd hl) hw) (by omega) (by omega))) ?_
      refine ph_y (y_loadEF tf3 rfl (fun _ hw => (Rd.has (Has.rd hl) hw)) (by omega) (by omega) rfl) ?_
      refine ph_y (y_move rfl) ?_
      refine ph_y (y_move rfl) ?_
      refine ph_y (y_indexE se22 rfl rfl (fun _ hw => (Rd.has (Has.rd hl) hw)) (by omega) (by omega)) ?_
      refine ph_y (y_fieldE fo24_1 rfl (fun w hw => elems_addr (i := o) (Rd.has (Has.rd hl) hw) (by omega) (by omega))) ?_
      refine ph_y (y_loadEF tf3 rfl (fun _ hw => (Rd.has (Has.rd hl) hw)) (by omega) (by omega) rfl) ?_
      refine ph_y (y_lss rfl rfl) ?_
      refine ph_y (y_move rfl) ?_
      refine ph_gF rfl rfl (fun hgd => by (try rw [hgd]); exact (y_move rfl)) ?_
      refine ph_gF rfl rfl (fun hgd => by (try rw [hgd]); exact (y_move rfl)) ?_
      refine ph_gF rfl rfl (fun hgd => by (try rw [hgd]); exact (y_indexE se22 rfl rfl (fun _ hw => (Rd.has (Has.rd hl) hw)) (by omega) (by omega))) ?_
      refine ph_gF rfl rfl (fun hgd => by (try rw [hgd]); exact (y_fieldE fo24_1 rfl (fun w hw => elems_addr (i := i) (Rd.has (Has.rd hl) hw) (by omega) (by omega)))) ?_
      refine ph_gF rfl rfl (fun hgd => by (try rw [hgd]); exact (y_loadEF tf3 rfl (fun _ hw => (Rd.has (Has.rd hl) hw)) (by omega) (by omega) rfl)) ?_
      refine ph_gF rfl rfl (fun hgd => by (try rw [hgd]); exact (y_move rfl)) ?_
      refine ph_gF rfl rfl (fun hgd => by (try rw [hgd]); exact (y_move rfl)) ?_
      refine ph_gF rfl rfl (fun hgd => by (try rw [hgd]); exact (y_indexE se22 rfl rfl (fun _ hw => (Rd.has (Has.rd hl) hw)) (by omega) (by omega))) ?_
      refine ph_gF rfl rfl (fun hgd => by (try rw [hgd]); exact (y_fieldE fo24_1 rfl (fun w hw => elems_addr (i := o) (Rd.has (Has.rd hl) hw) (by omega) (by omega)))) ?_
      refine ph_gF rfl rfl (fun hgd => by (try rw [hgd]); exact (y_loadEF tf3 rfl (fun _ hw => (Rd.has (Has.rd hl) hw)) (by omega) (by omega) rfl)) ?_
      refine ph_gF rfl rfl (fun hgd => by (try rw [hgd]); exact (y_eql rfl rfl)) ?_
      refine ph_gF rfl rfl (fun hgd => by (try rw [hgd]); exact (y_move rfl)) ?_
      refine ph_gTT rfl rfl (fun hgd => by (try rw [hgd]); exact (y_move rfl)) ?_
      refine ph_gTT rfl rfl (fun hgd => by (try rw [hgd]); exact (y_move rfl)) ?_
      refine ph_gTT rfl rfl (fun hgd => by (try rw [hgd]); exact (y_indexE se22 rfl rfl (fun _ hw => (Rd.has (Has.rd hl) hw)) (by omega) (by omega))) ?_
      refine ph_gTT rfl rfl (fun hgd => by (try rw [hgd]); exact (y_fieldE fo24_0 rfl (fun w hw => elems_addr (i := i) (Rd.has (Has.rd hl) hw) (by omega) (by omega)))) ?_
      refine ph_gTT rfl rfl (fun hgd => by (try rw [hgd]); exact (y_loadEF tf3 rfl (fun _ hw => (Rd.has (Has.rd hl) hw)) (by omega) (by omega) rfl)) ?_
      refine ph_gTT rfl rfl (fun hgd => by (try rw [hgd]); exact (y_move rfl)) ?_
      refine ph_gTT rfl rfl (fun hgd => by (try rw [hgd]); exact (y_move rfl)) ?_
      refine ph_gTT rfl rfl (fun hgd => by (try rw [hgd]); exact (y_indexE se22 rfl rfl (fun _ hw => (Rd.has (Has.rd hl) hw)) (by omega) (by omega))) ?_
      refine ph_gTT rfl rfl (fun hgd => by (try rw [hgd]); exact (y_fieldE fo24_0 rfl (fun w hw => elems_addr (i := o) (Rd.has (Has.rd hl) hw) (by omega) (by omega)))) ?_
      refine ph_gTT rfl rfl (fun hgd => by (try rw [hgd]); exact (y_loadEF tf3 rfl (fun _ hw => (Rd.has (Has.rd hl) hw)) (by omega) (by omega) rfl)) ?_
      refine ph_gTT rfl rfl (fun hgd => by (try rw [hgd]); exact (y_lss rfl rfl)) ?_
      refine ph_gF rfl rfl (fun hgd => by (try rw [hgd]); exact (y_pickAnd rfl rfl rfl)) ?_
      refine ph_y (y_pickOr rfl rfl rfl) ?_
      refine gk_nil (gk_sub (T' := [(0,_), (2,_), (3,_), (4,_), (47,_)]) ⟨rfl, rfl, rfl, rfl, rfl, trivial⟩ ?_)
      refine gk_cond rfl (fun hc47 => ?_) (fun hc47 => ?_)
      · skip
        refine gk_region ?_
        refine gk_y rfl rfl (y_move rfl) ?_
        refine gk_y rfl rfl (y_assign rfl) ?_
        refine gk_nil (gk_sub (T' := [(0,_), (2,_), (3,_), (4,_)]) ⟨rfl, rfl, rfl, rfl, trivial⟩ ?_)
        refine gk_region ?_
        refine gk_y rfl rfl (y_move rfl) ?_
        refine gk_y rfl rfl (y_addI rfl rfl (by omega) (by omega)) ?_
        refine gk_y rfl rfl (y_assign rfl) ?_
        refine gk_nil (gk_sub (T' := [(0,_), (2,_), (3,_), (4,_)]) ⟨rfl, rfl, rfl, rfl, trivial⟩ ?_)
        exact gk_next (i + 1, _) ⟨rfl, rfl, rfl, rfl, trivial⟩ rfl ⟨by omega, by omega, by omega, by omega, by rw [rfirstN_succ g0, ← g4]; first | exact (if_pos hc47).symm | exact (if_neg (fun h => Bool.false_ne_true (hc47.symm.trans h))).symm⟩ (by simp only []; omega)
      · skip
        refine gk_skip ?_
        refine gk_region ?_
        refine gk_y rfl rfl (y_move rfl) ?_
        refine gk_y rfl rfl (y_addI rfl rfl (by omega) (by omega)) ?_
        refine gk_y rfl rfl (y_assign rfl) ?_
        refine gk_nil (gk_sub (T' := [(0,_), (2,_), (3,_), (4,_)]) ⟨rfl, rfl, rfl, rfl, trivial⟩ ?_)
        exact gk_next (i + 1, _) ⟨rfl, rfl, rfl, rfl, trivial⟩ rfl ⟨by omega, by omega, by omega, by omega, by rw [rfirstN_succ g0, ← g4]; first | exact (if_pos hc47).symm | exact (if_neg (fun h => Bool.false_ne_true (hc47.symm.trans h))).symm⟩ (by simp only []; omega)
    · simp only [decide_eq_false_iff_not] at hc8
      refine gk_exit rfl ?_
      refine gk_seq ?_
      refine gk_region ?_
      refine gk_y rfl rfl (y_move rfl) ?_
      refine gk_y rfl rfl (y_assign rfl) ?_
      refine gk_nil (gk_sub (T' := [(2,_)]) ⟨rfl, trivial⟩ ?_)
      refine gk_ret ?_
      refine gk_pure (rv_one rfl (r1_tmp rfl)) ?_
      rw [g4, rfirstN_all (by omega)]
end Go.Proofs.YtahahmelnaphjaaDoor

namespace Go.Proofs.YtahahmelnaphjaaDoor
open Go.K Go.Stn Go.RowKit
theorem tf9 : TF Tryd.prog 9 false 1 (.string ⟨#[]⟩) := ⟨by kernel_rfl, by kernel_rfl⟩
theorem tf31 : TF Tryd.prog 31 false 1 (.slice none 0 0) := ⟨by kernel_rfl, by kernel_rfl⟩
theorem fo34_0 : FO Tryd.prog 34 0 0 := ⟨by kernel_rfl⟩
theorem fo34_1 : FO Tryd.prog 34 1 1 := ⟨by kernel_rfl⟩
theorem fo34_2 : FO Tryd.prog 34 2 2 := ⟨by kernel_rfl⟩
theorem fo34_3 : FO Tryd.prog 34 3 3 := ⟨by kernel_rfl⟩
theorem fo34_4 : FO Tryd.prog 34 4 4 := ⟨by kernel_rfl⟩
theorem en56 : En Tryd.prog 56 := en_of Tryd.func56 (by kernel_rfl) (by kernel_rfl)
theorem en57 : En Tryd.prog 57 := en_of Tryd.func57 (by kernel_rfl) (by kernel_rfl)
theorem en114 : En Tryd.prog 114 := en_of Tryd.func114 (by kernel_rfl) (by kernel_rfl)
theorem en115 : En Tryd.prog 115 := en_of Tryd.func115 (by kernel_rfl) (by kernel_rfl)
theorem en133 : En Tryd.prog 133 := en_of Tryd.func133 (by kernel_rfl) (by kernel_rfl)
theorem en139 : En Tryd.prog 139 := en_of Tryd.func139 (by kernel_rfl) (by kernel_rfl)
set_option maxRecDepth 100000 in
set_option maxHeartbeats 1000000 in
theorem sindexfunc_c (s : ByteArray) (f : Int → Bool) (gg : FuncId) (gcap : List Value) (w : World)  (M : World → Prop) (hM : ∀ w', Ext w w' → M w') (hen : En Tryd.prog gg) (hg : ∀ r w', M w' → Calls Tryd.prog gg ([Value.int .i32 r] ++ gcap).toArray w' (Pure (.bool (f r)) w')) :
    Calls Tryd.prog 139 #[.string s, .func (.func gg) #[] gcap.toArray, .bool true] w (Pure (.int .i64 (idxRune f s 0)) w) := by
  refine calls_of_gk (vs := [_, _, _]) Tryd.func139 rfl rfl (Nat.le_of_ble_eq_true rfl) ?_
  refine gk_seq ?_
  refine gk_region ?_
  refine gk_y rfl rfl (y_assign rfl) ?_
  refine gk_nil (gk_sub (T' := [(0,_), (1,_), (2,_), (6,_)]) ⟨rfl, rfl, rfl, rfl, trivial⟩ ?_)
  refine gk_seq ?_
  refine gk_seq ?_
  refine gk_region ?_
  refine gk_y rfl rfl (y_move rfl) ?_
  refine gk_yx rfl rfl (yx_rangeStr (Tryd.underlying9) rfl) fun b10 => ?_
  refine gk_nil (gk_sub (T' := [(1,_), (2,_), (6,_), (10,_)]) ⟨rfl, rfl, rfl, rfl, trivial⟩ ?_)
  refine gk_block ?_
  refine gk_loop (X := Nat) (fun (p : Nat) => [(1, .func (.func gg) #[] gcap.toArray), (2, .bool true), (6, .int .i64 0), (10, .pointer (some ⟨b10, 0, none⟩))]) (fun (p : Nat) => [Iter b10 s p]) (fun (p : Nat) => (idxRune f s p = idxRune f s 0)) (fun (p : Nat) => s.size - p) 0 ⟨rfl, rfl, rfl, rfl, trivial⟩ rfl ?_ ?_
  · exact rfl
  · rintro p hI
    refine gk_seq ?_
    refine gk_region ?_
    refine gk_nextStr 0 rfl rfl rfl (fun hnx => ?_) (fun hnx => ?_)
    ·
      refine gk_y rfl rfl (y_extract rfl rfl) ?_
      refine gk_nil (gk_sub (T' := [(1,_), (2,_), (6,_), (10,_), (11,_), (12,_)]) ⟨rfl, rfl, rfl, rfl, rfl, rfl, trivial⟩ ?_)
      refine gk_seq ?_
      refine gk_condT rfl ?_
      refine gk_skip ?_
      refine gk_block ?_
      refine gk_seq ?_
      refine gk_region ?_
      refine gk_y rfl rfl (y_extract rfl rfl) ?_
      refine gk_y rfl rfl (y_extract rfl rfl) ?_
      refine gk_y rfl rfl (y_assign rfl) ?_
      refine gk_y rfl rfl (y_assign rfl) ?_
      refine gk_nil (gk_sub (T' := [(1,_), (2,_), (6,_), (7,_), (8,_), (10,_)]) ⟨rfl, rfl, rfl, rfl, rfl, rfl, trivial⟩ ?_)
      refine gk_seq ?_
      refine gk_region ?_
      refine gk_y rfl rfl (y_move rfl) ?_
      refine gk_y rfl rfl (y_move rfl) ?_
      refine gk_y rfl rfl (y_callV (fs := []) (cap := gcap) hen rfl rfl (fun w hw => hg _ w (hM _ hw.base.ext0))) ?_
      refine gk_y rfl rfl (y_move rfl) ?_
      refine gk_y rfl rfl (y_boolEq (Tryd.underlying4) rfl rfl) ?_
      refine gk_nil (gk_sub (T' := [(1,_), (2,_), (6,_), (7,_), (10,_), (19,_)]) ⟨rfl, rfl, rfl, rfl, rfl, rfl, trivial⟩ ?_)
      refine gk_cond rfl (fun hc19 => ?_) (fun hc19 => ?_)
      · skip
        refine gk_seq ?_
        refine gk_region ?_
        refine gk_y rfl rfl (y_move rfl) ?_
        refine gk_y rfl rfl (y_assign rfl) ?_
        refine gk_nil (gk_sub (T' := [(1,_), (2,_), (6,_), (10,_)]) ⟨rfl, rfl, rfl, rfl, trivial⟩ ?_)
        refine gk_ret ?_
        refine gk_pure (rv_one rfl (r1_tmp rfl)) ?_
        exact congrArg _ ((idxRune_hit hnx (by simpa using hc19)).symm.trans hI)
      · skip
        refine gk_skip ?_
        exact gk_next _ ⟨rfl, rfl, rfl, rfl, trivial⟩ rfl ((idxRune_next hnx (by simpa using hc19)).symm.trans hI) (by have := decode_pos s p; omega)
    ·
      refine gk_y rfl rfl (y_extract rfl rfl) ?_
      refine gk_nil (gk_sub (T' := [(1,_), (2,_), (6,_), (10,_), (11,_), (12,_)]) ⟨rfl, rfl, rfl, rfl, rfl, rfl, trivial⟩ ?_)
      refine gk_seq ?_
      refine gk_condF rfl ?_
      refine gk_exit rfl ?_
      refine gk_seq ?_
      refine gk_region ?_
      refine gk_y rfl rfl (y_assign rfl) ?_
      refine gk_nil (gk_sub (T' := [(6,_)]) ⟨rfl, trivial⟩ ?_)
      refine gk_ret ?_
      refine gk_pure (rv_one rfl (r1_tmp rfl)) ?_
      exact congrArg _ ((idxRune_end hnx).symm.trans hI)
set_option maxRecDepth 100000 in
set_option maxHeartbeats 1000000 in
theorem sIndexFunc_c (s : ByteArray) (f : Int → Bool) (gg : FuncId) (gcap : List Value) (w : World)  (M : World → Prop) (hM : ∀ w', Ext w w' → M w') (hen : En Tryd.prog gg) (hg : ∀ r w', M w' → Calls Tryd.prog gg ([Value.int .i32 r] ++ gcap).toArray w' (Pure (.bool (f r)) w')) :
    Calls Tryd.prog 133 #[.string s, .func (.func gg) #[] gcap.toArray] w (Pure (.int .i64 (idxRune f s 0)) w) := by
  refine calls_of_gk (vs := [_, _]) Tryd.func133 rfl rfl (Nat.le_of_ble_eq_true rfl) ?_
  refine gk_seq ?_
  refine gk_region ?_
  refine gk_y rfl rfl (y_assign rfl) ?_
  refine gk_nil (gk_sub (T' := [(0,_), (1,_), (4,_)]) ⟨rfl, rfl, rfl, trivial⟩ ?_)
  refine gk_seq ?_
  refine gk_region ?_
  refine gk_y rfl rfl (y_move rfl) ?_
  refine gk_y rfl rfl (y_move rfl) ?_
  refine gk_y rfl rfl (y_call en139 rfl (fun w hw => sindexfunc_c s f _ _ w M (fun w' h => hM w' (hw.base.ext0.trans h)) hen hg)) ?_
  refine gk_y rfl rfl (y_assign rfl) ?_
  refine gk_nil (gk_sub (T' := [(4,_)]) ⟨rfl, trivial⟩ ?_)
  refine gk_ret ?_
  refine gk_pure (rv_one rfl (r1_tmp rfl)) ?_
  rfl
set_option maxRecDepth 100000 in
set_option maxHeartbeats 1000000 in
theorem scontains_c (s : ByteArray) (f : Int → Bool) (gg : FuncId) (gcap : List Value) (w : World)  (M : World → Prop) (hM : ∀ w', Ext w w' → M w') (hen : En Tryd.prog gg) (hg : ∀ r w', M w' → Calls Tryd.prog gg ([Value.int .i32 r] ++ gcap).toArray w' (Pure (.bool (f r)) w')) :
    Calls Tryd.prog 115 #[.string s, .func (.func gg) #[] gcap.toArray] w (Pure (.bool (decide (0 ≤ idxRune f s 0))) w) := by
  refine calls_of_gk (vs := [_, _]) Tryd.func115 rfl rfl (Nat.le_of_ble_eq_true rfl) ?_
  refine gk_seq ?_
  refine gk_region ?_
  refine gk_y rfl rfl (y_assign rfl) ?_
  refine gk_nil (gk_sub (T' := [(0,_), (1,_), (4,_)]) ⟨rfl, rfl, rfl, trivial⟩ ?_)
  refine gk_seq ?_
  refine gk_region ?_
  refine gk_y rfl rfl (y_move rfl) ?_
  refine gk_y rfl rfl (y_move rfl) ?_
  refine gk_y rfl rfl (y_call en133 rfl (fun w hw => sIndexFunc_c s f _ _ w M (fun w' h => hM w' (hw.base.ext0.trans h)) hen hg)) ?_
  refine gk_y rfl rfl (y_geq rfl rfl) ?_
  refine gk_y rfl rfl (y_assign rfl) ?_
  refine gk_nil (gk_sub (T' := [(4,_)]) ⟨rfl, trivial⟩ ?_)
  refine gk_ret ?_
  refine gk_pure (rv_one rfl (r1_tmp rfl)) ?_
  rfl
set_option maxRecDepth 100000 in
set_option maxHeartbeats 1000000 in
theorem named1_c (r : Int) (w : World)  :
    Calls Tryd.prog 114 #[.int .i32 r] w (Pure (.bool (oddR r)) w) := by
  refine calls_of_gk (vs := [_]) Tryd.func114 rfl rfl (Nat.le_of_ble_eq_true rfl) ?_
  refine gk_seq ?_
  refine gk_region ?_
  refine gk_y rfl rfl (y_assign rfl) ?_
  refine gk_nil (gk_sub (T' := [(0,_), (2,_)]) ⟨rfl, rfl, trivial⟩ ?_)
  refine gk_seq ?_
  refine gk_any 17 (fun _ => mixed) (by kernel_rfl) ?_
  refine ph_y (y_move rfl) ?_
  refine ph_y (y_geq rfl rfl) ?_
  refine ph_y (y_move rfl) ?_
  refine ph_gT rfl rfl (fun hgd => by (try rw [hgd]); exact (y_move rfl)) ?_
  refine ph_gT rfl rfl (fun hgd => by (try rw [hgd]); exact (y_leq rfl rfl)) ?_
  refine ph_y (y_pickAnd rfl rfl rfl) ?_
  refine ph_y (y_not rfl) ?_
  refine ph_y (y_move rfl) ?_
  refine ph_gT rfl rfl (fun hgd => by (try rw [hgd]); exact (y_move rfl)) ?_
  refine ph_gT rfl rfl (fun hgd => by (try rw [hgd]); exact (y_geq rfl rfl)) ?_
  refine ph_gT rfl rfl (fun hgd => by (try rw [hgd]); exact (y_move rfl)) ?_
  refine ph_gTT rfl rfl (fun hgd => by (try rw [hgd]); exact (y_move rfl)) ?_
  refine ph_gTT rfl rfl (fun hgd => by (try rw [hgd]); exact (y_leq rfl rfl)) ?_
  refine ph_gT rfl rfl (fun hgd => by (try rw [hgd]); exact (y_pickAnd rfl rfl rfl)) ?_
  refine ph_gT rfl rfl (fun hgd => by (try rw [hgd]); exact (y_not rfl)) ?_
  refine ph_y (y_pickAnd rfl rfl rfl) ?_
  refine ph_y (y_assign rfl) ?_
  refine gk_nil (gk_sub (T' := [(2,_)]) ⟨rfl, trivial⟩ ?_)
  refine gk_ret ?_
  refine gk_pure (rv_one rfl (r1_tmp rfl)) ?_
  rfl
set_option maxRecDepth 100000 in
set_option maxHeartbeats 1000000 in
theorem named_c (s : ByteArray) (w : World)  :
    Calls Tryd.prog 56 #[.string s] w (Pure (.bool (namedB s)) w) := by
  refine calls_of_gk (vs := [_]) Tryd.func56 rfl rfl (Nat.le_of_ble_eq_true rfl) ?_
  refine gk_seq ?_
  refine gk_region ?_
  refine gk_y rfl rfl (y_assign rfl) ?_
  refine gk_nil (gk_sub (T' := [(0,_), (2,_)]) ⟨rfl, rfl, trivial⟩ ?_)
  refine gk_seq ?_
  refine gk_region ?_
  refine gk_y rfl rfl (y_assign rfl) ?_
  refine gk_nil (gk_sub (T' := [(0,_), (2,_), (3,_)]) ⟨rfl, rfl, rfl, trivial⟩ ?_)
  refine gk_seq ?_
  refine gk_any 10 (fun _ => mixed) (by kernel_rfl) ?_
  refine ph_y (y_move rfl) ?_
  refine ph_y (y_lenStr (Tryd.underlying9) rfl) ?_
  refine ph_y (y_call en55 rfl (fun w hw => within_c _ _ _ w)) ?_
  refine ph_y (y_move rfl) ?_
  refine ph_gT rfl rfl (fun hgd => by (try rw [hgd]); exact (y_move rfl)) ?_
  refine ph_gT rfl rfl (fun hgd => by (try rw [hgd]); exact (y_move rfl)) ?_
  refine ph_gT rfl rfl (fun hgd => by (try rw [hgd]); exact (y_call (v := .bool (decide (0 ≤ idxRune oddR s 0))) en115 rfl (fun w hw => scontains_c s oddR _ [] w (fun _ => True) (fun _ _ => trivial) en114 (fun r w _ => named1_c r w)))) ?_
  refine ph_gT rfl rfl (fun hgd => by (try rw [hgd]); exact (y_not rfl)) ?_
  refine ph_y (y_pickAnd rfl rfl rfl) ?_
  refine ph_y (y_assign rfl) ?_
  refine gk_nil (gk_sub (T' := [(2,_)]) ⟨rfl, trivial⟩ ?_)
  refine gk_ret ?_
  refine gk_pure (rv_one rfl (r1_tmp rfl)) ?_
  rfl
set_option maxRecDepth 100000 in
set_option maxHeartbeats 1000000 in
theorem check_c (a : Option Addr) (cap : Nat) (s : Stn) (w : World) (hl : Has w (Pts a s.shape)) (hs : Small s.shape.length) :
    Calls Tryd.prog 17 #[.agg #[.string s.name, .slice a s.shape.length cap, .int .i64 s.depth, .int .i64 s.density, .int .i64 s.grain.x, .int .i64 s.grain.z]] w (Pure (.int .i64 (checkI s)) w) := by
  refine calls_of_gk (vs := [_]) Tryd.func17 rfl rfl (Nat.le_of_ble_eq_true rfl) ?_
  refine gk_seq ?_
  refine gk_region ?_
  refine gk_yx rfl rfl (yx_box (vs := [_, _, _, _, _, _]) rfl rfl) fun b1 => ?_
  refine gk_y rfl rfl (y_assign rfl) ?_
  refine gk_nil (gk_sub (T' := [(1,_), (2,_)]) ⟨rfl, rfl, trivial⟩ ?_)
  refine gk_seq ?_
  refine gk_region ?_
  refine gk_y rfl rfl (y_fieldAddr fo34_4 rfl) ?_
  refine gk_y rfl rfl (y_loadBA 0 tf32 rfl rfl (vs := [_, _]) rfl rfl) ?_
  refine gk_yx rfl rfl (yx_alloc tf32 (zs := [_, _]) rfl) fun b3 => ?_
  refine gk_storeV 0 tf32 rfl rfl (vs := [_, _]) rfl rfl rfl rfl rfl ?_
  refine gk_nil (gk_sub (T' := [(1,_), (2,_), (3,_)]) ⟨rfl, rfl, rfl, trivial⟩ ?_)
  refine gk_seq ?_
  refine gk_any 14 (fun _ => mixed) (by kernel_rfl) ?_
  refine ph_y (y_loadBA 0 tf32 rfl rfl (vs := [_, _]) rfl rfl) ?_
  refine ph_y (y_buildL (parts := []) rfl bd32_) ?_
  refine ph_y (y_neq32 rfl rfl) ?_
  refine ph_y (y_move rfl) ?_
  refine ph_gT rfl rfl (fun hgd => by (try rw [hgd]); exact (y_fieldAddr fo32_0 rfl)) ?_
  refine ph_gT rfl rfl (fun hgd => by (try rw [hgd]); exact (y_loadB1 0 tf3 rfl rfl rfl)) ?_
  refine ph_gT rfl rfl (fun hgd => by (try rw [hgd]); exact (y_call (v := .bool (decide ((-100) ≤ s.grain.x) && decide (s.grain.x ≤ 100))) en55 rfl (fun w hw => within_c _ _ _ w))) ?_
  refine ph_y (y_pickAnd rfl rfl rfl) ?_
  refine ph_y (y_move rfl) ?_
  refine ph_gT rfl rfl (fun hgd => by (try rw [hgd]); exact (y_fieldAddr fo32_1 rfl)) ?_
  refine ph_gT rfl rfl (fun hgd => by (try rw [hgd]); exact (y_loadB1 0 tf3 rfl rfl rfl)) ?_
  refine ph_gT rfl rfl (fun hgd => by (try rw [hgd]); exact (y_call (v := .bool (decide ((-100) ≤ s.grain.z) && decide (s.grain.z ≤ 100))) en55 rfl (fun w hw => within_c _ _ _ w))) ?_
  refine ph_y (y_pickAnd rfl rfl rfl) ?_
  refine ph_y (y_assign rfl) ?_
  refine gk_nil (gk_sub (T' := [(1,_), (2,_), (4,_)]) ⟨rfl, rfl, rfl, trivial⟩ ?_)
  refine gk_seq ?_
  refine gk_seq ?_
  refine gk_any 26 (fun _ => mixed) (by kernel_rfl) ?_
  refine ph_y (y_fieldAddr fo34_0 rfl) ?_
  refine ph_y (y_loadB1 1 tf9 rfl rfl rfl) ?_
  refine ph_y (y_call en56 rfl (fun w hw => named_c _ w)) ?_
  refine ph_y (y_not rfl) ?_
  refine ph_y (y_move rfl) ?_
  refine ph_gF rfl rfl (fun hgd => by (try rw [hgd]); exact (y_fieldAddr fo34_1 rfl)) ?_
  refine ph_gF rfl rfl (fun hgd => by (try rw [hgd]); exact (y_loadB1 1 tf31 rfl rfl rfl)) ?_
  refine ph_gF rfl rfl (fun hgd => by (try rw [hgd]); exact (y_call (v := .bool (placedB s.shape)) en57 rfl (fun w hw => placed_c _ _ s.shape w (Rd.has (Has.rd hl) hw) (by assumption)))) ?_
  refine ph_gF rfl rfl (fun hgd => by (try rw [hgd]); exact (y_not rfl)) ?_
  refine ph_y (y_pickOr rfl rfl rfl) ?_
  refine ph_y (y_move rfl) ?_
  refine ph_gF rfl rfl (fun hgd => by (try rw [hgd]); exact (y_fieldAddr fo34_2 rfl)) ?_
  refine ph_gF rfl rfl (fun hgd => by (try rw [hgd]); exact (y_loadB1 1 tf3 rfl rfl rfl)) ?_
  refine ph_gF rfl rfl (fun hgd => by (try rw [hgd]); exact (y_call (v := .bool (decide (1 ≤ s.depth) && decide (s.depth ≤ 2000))) en55 rfl (fun w hw => within_c _ _ _ w))) ?_
  refine ph_gF rfl rfl (fun hgd => by (try rw [hgd]); exact (y_not rfl)) ?_
  refine ph_y (y_pickOr rfl rfl rfl) ?_
  refine ph_y (y_move rfl) ?_
  refine ph_gF rfl rfl (fun hgd => by (try rw [hgd]); exact (y_fieldAddr fo34_3 rfl)) ?_
  refine ph_gF rfl rfl (fun hgd => by (try rw [hgd]); exact (y_loadB1 1 tf3 rfl rfl rfl)) ?_
  refine ph_gF rfl rfl (fun hgd => by (try rw [hgd]); exact (y_call (v := .bool (decide (1 ≤ s.density) && decide (s.density ≤ 10000))) en55 rfl (fun w hw => within_c _ _ _ w))) ?_
  refine ph_gF rfl rfl (fun hgd => by (try rw [hgd]); exact (y_not rfl)) ?_
  refine ph_y (y_pickOr rfl rfl rfl) ?_
  refine ph_y (y_move rfl) ?_
  refine ph_gF rfl rfl (fun hgd => by (try rw [hgd]); exact (y_move rfl)) ?_
  refine ph_gF rfl rfl (fun hgd => by (try rw [hgd]); exact (y_not rfl)) ?_
  refine ph_y (y_pickOr rfl rfl rfl) ?_
  refine gk_nil (gk_sub (T' := [(2,_), (45,_)]) ⟨rfl, rfl, trivial⟩ ?_)
  refine gk_cond rfl (fun hc45 => ?_) (fun hc45 => ?_)
  · skip
    refine gk_seq ?_
    refine gk_region ?_
    refine gk_y rfl rfl (y_assign rfl) ?_
    refine gk_nil (gk_sub (T' := [(2,_)]) ⟨rfl, trivial⟩ ?_)
    refine gk_ret ?_
    refine gk_pure (rv_one rfl (r1_tmp rfl)) ?_
    exact congrArg _ (if_pos hc45).symm
  · skip
    refine gk_skip ?_
    refine gk_seq ?_
    refine gk_region ?_
    refine gk_y rfl rfl (y_assign rfl) ?_
    refine gk_nil (gk_sub (T' := [(2,_)]) ⟨rfl, trivial⟩ ?_)
    refine gk_ret ?_
    refine gk_pure (rv_one rfl (r1_tmp rfl)) ?_
    exact congrArg _ (if_neg (by rw [show badB s = false from hc45]; exact Bool.false_ne_true)).symm
end Go.Proofs.YtahahmelnaphjaaDoor

namespace Go.Proofs.YtahahmelnaphjaaDoor
open Go.K Go.Stn Go.RowKit
theorem tf34 : TF Tryd.prog 34 true 6 (.agg #[.string ⟨#[]⟩, .slice none 0 0, .int IntKind.i64 0, .int IntKind.i64 0, .int IntKind.i64 0, .int IntKind.i64 0]) := ⟨by kernel_rfl, by kernel_rfl⟩
theorem af31 : AF Tryd.prog 31 32 2 16 [.int IntKind.i64 0, .int IntKind.i64 0] := ⟨Tryd.underlying31, by kernel_rfl, rfl⟩
theorem en48 : En Tryd.prog 48 := en_of Tryd.func48 (by kernel_rfl) (by kernel_rfl)
theorem bd32_0i (x0 : Int) (w : World) : (Instr.build 32 #[(0, .int .i64 x0)]).run Tryd.prog w = .ok (.agg #[.int .i64 x0, .int IntKind.i64 0]) w := by kernel_rfl
theorem bd32_1i (x0 : Int) (w : World) : (Instr.build 32 #[(1, .int .i64 x0)]).run Tryd.prog w = .ok (.agg #[.int IntKind.i64 0, .int .i64 x0]) w := by kernel_rfl
theorem bd34_0s_1l_2i_3i_4ii (x0 : ByteArray) (x1a : Option Addr) (x1n x1c : Nat) (x2 : Int) (x3 : Int) (x4 : Int) (x5 : Int) (w : World) : (Instr.build 34 #[(0, .string x0), (1, .slice x1a x1n x1c), (2, .int .i64 x2), (3, .int .i64 x3), (4, .agg #[.int .i64 x4, .int .i64 x5])]).run Tryd.prog w = .ok (.agg #[.string x0, .slice x1a x1n x1c, .int .i64 x2, .int .i64 x3, .int .i64 x4, .int .i64 x5]) w := by kernel_rfl
theorem bs31_1 (x0_0 : Int) (x0_1 : Int) (w : World) : (Instr.buildSlice 31 1 #[(0, .agg #[.int .i64 x0_0, .int .i64 x0_1])]).run Tryd.prog w = .ok (.slice (some ⟨w.heap.size, 0, none⟩) 1 1) (w.alloc (.cells (([(⟨x0_0, x0_1⟩ : Pt)] : List (Pt)).flatMap encPt).toArray 32)) := by kernel_rfl
theorem bs31_4 (x0_0 : Int) (x0_1 : Int) (x1_0 : Int) (x1_1 : Int) (x2_0 : Int) (x2_1 : Int) (x3_0 : Int) (x3_1 : Int) (w : World) : (Instr.buildSlice 31 4 #[(0, .agg #[.int .i64 x0_0, .int .i64 x0_1]), (1, .agg #[.int .i64 x1_0, .int .i64 x1_1]), (2, .agg #[.int .i64 x2_0, .int .i64 x2_1]), (3, .agg #[.int .i64 x3_0, .int .i64 x3_1])]).run Tryd.prog w = .ok (.slice (some ⟨w.heap.size, 0, none⟩) 4 4) (w.alloc (.cells (([(⟨x0_0, x0_1⟩ : Pt), (⟨x1_0, x1_1⟩ : Pt), (⟨x2_0, x2_1⟩ : Pt), (⟨x3_0, x3_1⟩ : Pt)] : List (Pt)).flatMap encPt).toArray 32)) := by kernel_rfl
set_option maxRecDepth 100000 in
set_option maxHeartbeats 1000000 in
theorem points_c (a : Option Addr) (cap : Nat) (l : List Pt) (w : World) (hl : Has w (Pts a l)) (hs : Small l.length) :
    Calls Tryd.prog 48 #[.slice a l.length cap] w (Gives (fun z : Option Addr × Nat => .slice z.1 l.length z.2) (fun z => Row z.1 2 z.2 32 encPt l) w) := by
  refine calls_of_gk (vs := [_]) Tryd.func48 rfl rfl (Nat.le_of_ble_eq_true rfl) ?_
  refine gk_seq ?_
  refine gk_region ?_
  refine gk_y rfl rfl (y_assign rfl) ?_
  refine gk_nil (gk_sub (T' := [(0,_), (2,_)]) ⟨rfl, rfl, trivial⟩ ?_)
  refine gk_seq ?_
  refine gk_region ?_
  refine gk_y rfl rfl (y_assign rfl) ?_
  refine gk_nil (gk_sub (T' := [(0,_), (2,_), (3,_)]) ⟨rfl, rfl, rfl, trivial⟩ ?_)
  refine gk_seq ?_
  refine gk_seq ?_
  refine gk_region ?_
  refine gk_y rfl rfl (y_assign rfl) ?_
  refine gk_nil (gk_sub (T' := [(0,_), (2,_), (3,_), (4,_)]) ⟨rfl, rfl, rfl, rfl, trivial⟩ ?_)
  refine gk_block ?_
  refine gk_newNil 32 encPt 2 ?_
  refine gk_loop (X := Int × Option Addr × Nat × List Pt) (fun ⟨i, b, bc, m⟩ => [(0, .slice a l.length cap), (2, .slice none 0 0), (3, .slice b m.length bc), (4, .int .i64 i)]) (fun ⟨i, b, bc, m⟩ => [Row b 2 bc 32 encPt m]) (fun ⟨i, b, bc, m⟩ => (0 ≤ i ∧ i ≤ l.length ∧ m = l.take i.toNat ∧ m.length ≤ l.length)) (fun ⟨i, b, bc, m⟩ => (l.length - i).toNat) (0, none, 0, []) ⟨rfl, rfl, rfl, rfl, trivial⟩ rfl ?_ ?_
  · exact ⟨by omega, by omega, rfl, by simp⟩
  · rintro ⟨i, b, bc, m⟩ hI
    obtain ⟨g0, g1, g2, g3⟩ := hI
    refine gk_seq ?_
    refine gk_seq ?_
    refine gk_region ?_
    refine gk_y rfl rfl (y_move rfl) ?_
    refine gk_y rfl rfl (y_move rfl) ?_
    refine gk_y rfl rfl (y_lenS (Tryd.underlying22) rfl) ?_
    refine gk_y rfl rfl (y_lss rfl rfl) ?_
    refine gk_nil (gk_sub (T' := [(0,_), (2,_), (3,_), (4,_), (8,_)]) ⟨rfl, rfl, rfl, rfl, rfl, trivial⟩ ?_)
    refine gk_cond rfl (fun hc8 => ?_) (fun hc8 => ?_)
    · simp only [decide_eq_true_eq] at hc8
      refine gk_skip ?_
      refine gk_seq ?_
      refine gk_block ?_
      refine gk_any 13 (fun _ => mixed) (by kernel_rfl) ?_
      refine ph_y (y_move rfl) ?_
      refine ph_y (y_move rfl) ?_
      refine ph_y (y_move rfl) ?_
      refine ph_y (y_indexE se22 rfl rfl (fun _ hw => (Rd.has (Has.rd hl) hw)) (by omega) (by omega)) ?_
      refine ph_y (y_fieldE fo24_0 rfl (fun w hw => elems_addr (i := i) (Rd.has (Has.rd hl) hw) (by omega) (by omega))) ?_
      refine ph_y (y_loadEF tf3 rfl (fun _ hw => (Rd.has (Has.rd hl) hw)) (by omega) (by omega) rfl) ?_
      refine ph_y (y_move rfl) ?_
      refine ph_y (y_move rfl) ?_
      refine ph_y (y_indexE se22 rfl rfl (fun _ hw => (Rd.has (Has.rd hl) hw)) (by omega) (by omega)) ?_
      refine ph_y (y_fieldE fo24_1 rfl (fun w hw => elems_addr (i := i) (Rd.has (Has.rd hl) hw) (by omega) (by omega))) ?_
      refine ph_y (y_loadEF tf3 rfl (fun _ hw => (Rd.has (Has.rd hl) hw)) (by omega) (by omega) rfl) ?_
      refine ph_y (y_buildL rfl (bd32_0i_1i _ _)) ?_
      refine ph_yx (yx_buildSlice rfl (bs31_1 _ _) encPt_ok rfl) ?_
      intro b23
      refine gk_sub (T' := [(0,_), (2,_), (3,_), (4,_), (11,_), (23,_)]) ⟨rfl, rfl, rfl, rfl, rfl, rfl, trivial⟩ ?_
      refine gk_append (m := [⟨((l.getD (i).toNat default).x), ((l.getD (i).toNat default).z)⟩]) 1 af31 encPt_ok rfl rfl rfl rfl (fun _ hw => (has_row encPt_ok (hw.has (p := 0) rfl))) (by first | omega | (simp only [List.length_cons, List.length_nil]; omega)) (by first | (unfold maxLen; omega) | (simp only [List.length_cons, List.length_nil, maxLen]; omega)) fun a24 c24 => ?_
      refine gk_y rfl rfl (y_assign rfl) ?_
      refine gk_nil (gk_sub (T' := [(0,_), (2,_), (3,_), (4,_)]) ⟨rfl, rfl, rfl, rfl, trivial⟩ ?_)
      refine gk_region ?_
      refine gk_y rfl rfl (y_move rfl) ?_
      refine gk_y rfl rfl (y_addI rfl rfl (by omega) (by omega)) ?_
      refine gk_y rfl rfl (y_assign rfl) ?_
      refine gk_nil (gk_sub (T' := [(0,_), (2,_), (3,_), (4,_)]) ⟨rfl, rfl, rfl, rfl, trivial⟩ ?_)
      refine gk_dropAt 0 rfl ?_
      exact gk_next (i + 1, a24, c24, _) ⟨rfl, rfl, rfl, rfl, trivial⟩ rfl ⟨by omega, by omega, by rw [take_succ g0 (by omega), ← g2], by rw [List.length_append, g2, List.length_take]; simp; omega⟩ (by simp only []; omega)
    · simp only [decide_eq_false_iff_not] at hc8
      refine gk_exit rfl ?_
      refine gk_seq ?_
      refine gk_region ?_
      refine gk_y rfl rfl (y_move rfl) ?_
      refine gk_y rfl rfl (y_assign rfl) ?_
      refine gk_nil (gk_sub (T' := [(2,_)]) ⟨rfl, trivial⟩ ?_)
      obtain rfl : m = l := by rw [g2, take_all (by omega)]
      refine gk_ret ?_
      refine gk_gives (b, bc) 0 (rv_one rfl (r1_tmp rfl)) ?_ rfl
      rfl
set_option maxRecDepth 100000 in
set_option maxHeartbeats 1000000 in
theorem brick_c  (w : World)  :
    Calls Tryd.prog 52 #[] w (Gives (fun b : Nat => stnV brickS (some ⟨b, 0, none⟩) 4) (fun b => Row (some ⟨b, 0, none⟩) 2 4 32 encPt brickS.shape) w) := by
  refine calls_of_gk (vs := []) Tryd.func52 rfl rfl (Nat.le_of_ble_eq_true rfl) ?_
  refine gk_seq ?_
  refine gk_region ?_
  refine gk_yx rfl rfl (yx_alloc tf34 (zs := [_, _, _, _, _, _]) rfl) fun b0 => ?_
  refine gk_nil (gk_sub (T' := [(0,_)]) ⟨rfl, trivial⟩ ?_)
  refine gk_seq ?_
  refine gk_region ?_
  refine gk_y rfl rfl (y_buildL (parts := []) rfl bd32_) ?_
  refine gk_y rfl rfl (y_buildL rfl (bd32_0i _)) ?_
  refine gk_y rfl rfl (y_buildL rfl (bd32_0i_1i _ _)) ?_
  refine gk_y rfl rfl (y_buildL rfl (bd32_1i _)) ?_
  refine gk_yx rfl rfl (yx_buildSlice rfl (bs31_4 _ _ _ _ _ _ _ _) encPt_ok rfl) fun b5 => ?_
  refine gk_y rfl rfl (y_buildL rfl (bd32_0i _)) ?_
  refine gk_y rfl rfl (y_buildL rfl (bd34_0s_1l_2i_3i_4ii _ _ _ _ _ _ _ _)) ?_
  refine gk_storeV 1 tf34 rfl rfl (vs := [_, _, _, _, _, _]) rfl rfl rfl rfl rfl ?_
  refine gk_nil (gk_sub (T' := [(0,_)]) ⟨rfl, trivial⟩ ?_)
  refine gk_ret ?_
  refine gk_gives b5 0 (rv_one rfl (r1_cellA (i := 1) (vs := [_, _, _, _, _, _]) tf34 rfl rfl rfl rfl)) ?_ rfl
  rfl
end Go.Proofs.YtahahmelnaphjaaDoor

namespace Go.Proofs.YtahahmelnaphjaaDoor
open Go.K Go.Stn Go.RowKit
theorem en17 : En Tryd.prog 17 := en_of Tryd.func17 (by kernel_rfl) (by kernel_rfl)
theorem en74 : En Tryd.prog 74 := en_of Tryd.func74 (by kernel_rfl) (by kernel_rfl)
theorem en75 : En Tryd.prog 75 := en_of Tryd.func75 (by kernel_rfl) (by kernel_rfl)
theorem en77 : En Tryd.prog 77 := en_of Tryd.func77 (by kernel_rfl) (by kernel_rfl)
theorem en82 : En Tryd.prog 82 := en_of Tryd.func82 (by kernel_rfl) (by kernel_rfl)
theorem en124 : En Tryd.prog 124 := en_of Tryd.func124 (by kernel_rfl) (by kernel_rfl)
set_option maxRecDepth 100000 in
set_option maxHeartbeats 1000000 in
theorem edges_c (a : Option Addr) (cap : Nat) (l : List Pt) (w : World)  :
    Calls Tryd.prog 82 #[.slice a l.length cap] w (Gives (fun b : Nat => .func (.func 124) #[] #[.pointer (some ⟨b, 0, none⟩)]) (fun b => Box b [.slice a l.length cap] 31) w) := by
  refine calls_of_gk (vs := [_]) Tryd.func82 rfl rfl (Nat.le_of_ble_eq_true rfl) ?_
  refine gk_seq ?_
  refine gk_region ?_
  refine gk_yx rfl rfl (yx_box (vs := [_]) rfl rfl) fun b1 => ?_
  refine gk_y rfl rfl (y_assign rfl) ?_
  refine gk_nil (gk_sub (T' := [(1,_), (2,_)]) ⟨rfl, rfl, trivial⟩ ?_)
  refine gk_seq ?_
  refine gk_region ?_
  refine gk_y rfl rfl (y_makeFunc («as» := []) (bs := [_]) rfl rfl) ?_
  refine gk_y rfl rfl (y_assign rfl) ?_
  refine gk_nil (gk_sub (T' := [(2,_)]) ⟨rfl, trivial⟩ ?_)
  refine gk_ret ?_
  refine gk_gives b1 0 (rv_one rfl (r1_tmp rfl)) ?_ rfl
  rfl
set_option maxRecDepth 100000 in
set_option maxHeartbeats 1000000 in
theorem edges1_c (a : Option Addr) (cap : Nat) (l : List Pt) (b : Nat) (hs : Small l.length) :
    SeqC Tryd.prog 124 [.pointer (some ⟨b, 0, none⟩)] (edgeVs l) (fun w => Has w (Box b [.slice a l.length cap] 31) ∧ Has w (Pts a l)) := by
  intro X J Rl D y w B x0 hB hA h0 hM hy
  refine calls_of_gkB hB hA (vs := [_, _]) Tryd.func124 rfl rfl (Nat.le_of_ble_eq_true rfl) ?_
  have hmem : ∀ {cz : Cx} {Hz : List Res} {xz : X} {pz : Nat} {w' : World}, Inside (fun k => k < w.heap.size ∧ ¬ B k) w cz → Hz[pz]? = some (J xz) → Hp cz.U cz.w0 Hz w' → (Has w' (Box b [.slice a l.length cap] 31) ∧ Has w' (Pts a l)) := fun hin hp hw => by
    obtain ⟨B', q1, q2, q3, q4⟩ := own_of_in hin hp hw
    exact hM _ _ B' q4 q1 q2 q3
  have ins0 := insideB Tryd.prog Tryd.f124.ntmps w B
  refine gk_seq ?_
  refine gk_region ?_
  refine gk_y rfl rfl (y_load1 tf31 rfl (fun _ hw => has_box_cell (hmem ins0 (pz := 0) rfl hw).1 rfl)) ?_
  refine gk_y rfl rfl (y_lenS (Tryd.underlying31) rfl) ?_
  refine gk_y rfl rfl (y_move rfl) ?_
  refine gk_nil (gk_sub (T' := [(0,_), (1,_), (5,_), (6,_)]) ⟨rfl, rfl, rfl, rfl, trivial⟩ ?_)
  refine gk_block ?_
  refine gk_loop (X := Int × X) (fun ⟨i, x⟩ => [(0, .func (.yield y) #[] #[]), (1, .pointer (some ⟨b, 0, none⟩)), (5, .int .i64 (l.length : Int)), (6, .int .i64 i)]) (fun ⟨i, x⟩ => [J x]) (fun ⟨i, x⟩ => (0 ≤ i ∧ i ≤ l.length ∧ Rl i.toNat x)) (fun ⟨i, x⟩ => (l.length - i).toNat) (0, x0) ⟨rfl, rfl, rfl, rfl, trivial⟩ rfl ?_ ?_
  · exact ⟨by omega, by omega, h0⟩
  · rintro ⟨i, x⟩ hI
    obtain ⟨g0, g1, g2⟩ := hI
    refine gk_seq ?_
    refine gk_region ?_
    refine gk_y rfl rfl (y_lss rfl rfl) ?_
    refine gk_nil (gk_sub (T' := [(0,_), (1,_), (5,_), (6,_), (7,_)]) ⟨rfl, rfl, rfl, rfl, rfl, trivial⟩ ?_)
    refine gk_seq ?_
    refine gk_cond rfl (fun hc7 => ?_) (fun hc7 => ?_)
    · have hc7 := of_decide_eq_true hc7
      have hpos : 0 < l.length := by omega
      refine gk_skip ?_
      refine gk_seq ?_
      refine gk_block ?_
      refine gk_seq ?_
      refine gk_region ?_
      refine gk_y rfl rfl (y_move rfl) ?_
      refine gk_y rfl rfl (y_assign rfl) ?_
      refine gk_nil (gk_sub (T' := [(0,_), (1,_), (3,_), (5,_), (6,_)]) ⟨rfl, rfl, rfl, rfl, rfl, trivial⟩ ?_)
      refine gk_seq ?_
      refine gk_any 9 (fun _ => mixed) (by kernel_rfl) ?_
      refine ph_y (y_move rfl) ?_
      refine ph_y (y_load1 tf31 rfl (fun _ hw => has_box_cell (hmem ins0 (pz := 0) rfl hw).1 rfl)) ?_
      refine ph_y (y_move rfl) ?_
      refine ph_y (y_indexE se31 rfl rfl (fun _ hw => (hmem ins0 (pz := 0) rfl hw).2) (by omega) (by omega)) ?_
      refine ph_y (y_loadE (vs := [_, _]) tf32 rfl (fun _ hw => (hmem ins0 (pz := 0) rfl hw).2) (by omega) (by omega) rfl) ?_
      refine ph_y (y_load1 tf31 rfl (fun _ hw => has_box_cell (hmem ins0 (pz := 0) rfl hw).1 rfl)) ?_
      refine ph_y (y_move rfl) ?_
      refine ph_y (y_addI rfl rfl (by omega) (by omega)) ?_
      refine ph_y (y_call en90 rfl (fun w hw => at_c _ _ l (i + 1) w (hmem ins0 (pz := 0) rfl hw).2 (by assumption) (by omega) (by omega) (by omega))) ?_
      refine gk_sub (T' := [(0,_), (1,_), (5,_), (6,_), (9,_), (13,_), (17,_)]) ⟨rfl, rfl, rfl, rfl, rfl, rfl, rfl, trivial⟩ ?_
      refine gk_yield 0 ins0 rfl rfl rfl rfl (hy _ _ _ (edge_get g0 (by omega)) g2) fun b18 x18 hp18 => ?_
      refine gk_y rfl rfl (y_not rfl) ?_
      refine gk_nil (gk_sub (T' := [(0,_), (1,_), (5,_), (6,_), (19,_)]) ⟨rfl, rfl, rfl, rfl, rfl, trivial⟩ ?_)
      refine gk_cond rfl (fun hc19 => ?_) (fun hc19 => ?_)
      · skip
        refine gk_ret ?_
        refine gk_turns x18 0 (rv_none rfl) rfl rfl (.inr (by have := hp18; rwa [show b18 = false from by simpa using hc19, if_neg Bool.false_ne_true] at this))
      · skip
        refine gk_skip ?_
        refine gk_region ?_
        refine gk_y rfl rfl (y_addI rfl rfl (by omega) (by omega)) ?_
        refine gk_y rfl rfl (y_move rfl) ?_
        refine gk_nil (gk_sub (T' := [(0,_), (1,_), (5,_), (6,_)]) ⟨rfl, rfl, rfl, rfl, trivial⟩ ?_)
        exact gk_next (i + 1, x18) ⟨rfl, rfl, rfl, rfl, trivial⟩ rfl ⟨by omega, by omega, by have := hp18; rw [show b18 = true from by simpa using hc19, if_pos rfl] at this; rwa [show (i + 1).toNat = i.toNat + 1 from by omega]⟩ (by simp only []; omega)
    · have hc7 := of_decide_eq_false hc7
      refine gk_exit rfl ?_
      refine gk_turns x 0 (rv_none rfl) rfl rfl (.inl (by rw [edges_len]; rwa [show i.toNat = l.length from by omega] at g2))
set_option maxRecDepth 100000 in
set_option maxHeartbeats 1000000 in
theorem twice_c (a : Option Addr) (cap : Nat) (l : List Pt) (w : World) (hl : Has w (Pts a l)) (hs : Small l.length) :
    Calls Tryd.prog 77 #[.slice a l.length cap] w (Pure (.int .i64 (twiceW l)) w) := by
  refine calls_of_gk (vs := [_]) Tryd.func77 rfl rfl (Nat.le_of_ble_eq_true rfl) ?_
  refine gk_seq ?_
  refine gk_region ?_
  refine gk_y rfl rfl (y_assign rfl) ?_
  refine gk_nil (gk_sub (T' := [(0,_), (2,_)]) ⟨rfl, rfl, trivial⟩ ?_)
  refine gk_seq ?_
  refine gk_region ?_
  refine gk_yx rfl rfl (yx_alloc tf3 (zs := [_]) rfl) fun b3 => ?_
  refine gk_storeV 0 tf3 rfl rfl (vs := [_]) rfl rfl rfl rfl rfl ?_
  refine gk_nil (gk_sub (T' := [(0,_), (2,_), (3,_)]) ⟨rfl, rfl, rfl, trivial⟩ ?_)
  refine gk_seq ?_
  refine gk_seq ?_
  refine gk_region ?_
  refine gk_y rfl rfl (y_move rfl) ?_
  refine gk_yx rfl rfl (yx_call en82 rfl (fun w hw => edges_c _ _ l w)) fun p7 => ?_
  refine gk_nil (gk_sub (T' := [(2,_), (3,_), (7,_)]) ⟨rfl, rfl, rfl, trivial⟩ ?_)
  refine gk_block ?_
  refine gk_sub (T' := [(2,_), (3,_), (7,_)]) ⟨rfl, rfl, rfl, trivial⟩ ?_
  refine gk_rangeFunc (X := Int) (fun s => [Box p7 [.slice a l.length cap] 31, Box b3 [.int .i64 s] 3]) (fun n s => s = ((edgesL l).take n).foldl (fun s e => W (s + crossW e.1 e.2)) 0) (fun s => False) [] 0 rfl en124 rfl rfl rfl (edges1_c _ _ l _ (by assumption)) (fun s w hw => ⟨hw.has (p := 0) rfl, (Rd.has (Has.rd hl) hw)⟩) (edges_two _) rfl ?_ ?_ ?_ ?_
  · rintro R1 R2 rl U' w' n s args hget hR hrd hins hbeg
    obtain ⟨e, he, rfl⟩ := edge_inv hget
    refine gk_sub (T' := [(3,_), (8,_), (9,_)]) ⟨rfl, rfl, rfl, trivial⟩ ?_
    refine gk_seq ?_
    refine gk_region ?_
    refine gk_yx rfl rfl (yx_alloc tf32 (zs := [_, _]) rfl) fun b4 => ?_
    refine gk_storeV 0 tf32 rfl rfl (vs := [_, _]) rfl rfl rfl rfl rfl ?_
    refine gk_nil (gk_sub (T' := [(3,_), (4,_), (9,_)]) ⟨rfl, rfl, rfl, trivial⟩ ?_)
    refine gk_region ?_
    refine gk_yx rfl rfl (yx_alloc tf32 (zs := [_, _]) rfl) fun b5 => ?_
    refine gk_storeV 0 tf32 rfl rfl (vs := [_, _]) rfl rfl rfl rfl rfl ?_
    refine gk_nil (gk_sub (T' := [(3,_), (4,_), (5,_)]) ⟨rfl, rfl, rfl, trivial⟩ ?_)
    refine gk_front 2 rfl ?_
    refine hbeg _ _ _ ?_
    refine gk_block ?_
    refine gk_any 5 (fun _ => mixed) (by kernel_rfl) ?_
    refine ph_y (y_loadB1 4 tf3 rfl rfl rfl) ?_
    refine ph_y (y_loadBA 2 tf32 rfl rfl (vs := [_, _]) rfl rfl) ?_
    refine ph_y (y_loadBA 1 tf32 rfl rfl (vs := [_, _]) rfl rfl) ?_
    refine ph_y (y_call en83 rfl (fun w hw => cross_c ⟨_, _⟩ ⟨_, _⟩ w)) ?_
    refine ph_y (y_add rfl rfl) ?_
    refine gk_sub (T' := [(3,_), (14,_)]) ⟨rfl, rfl, trivial⟩ ?_
    refine gk_storeV 4 tf3 rfl rfl (vs := [_]) rfl rfl rfl rfl rfl ?_
    refine gk_nil (gk_sub (T' := []) trivial ?_)
    refine gk_dropAt 1 rfl ?_
    refine gk_dropAt 1 rfl ?_
    exact gk_joined (W (s + crossW e.1 e.2)) trivial rfl (by rw [fold_succ _ _ he, ← hR])
  · intro Dm s hR
    have hR := hR.trans (fold_all _ _ (by simp [edgeVs]))
    refine gk_seq ?_
    refine gk_region ?_
    refine gk_y rfl rfl (y_loadB1 2 tf3 rfl rfl rfl) ?_
    refine gk_y rfl rfl (y_assign rfl) ?_
    refine gk_nil (gk_sub (T' := [(2,_)]) ⟨rfl, trivial⟩ ?_)
    refine gk_ret ?_
    refine gk_unmark 0 rfl ?_
    refine gk_pure (rv_one rfl (r1_tmp rfl)) ?_
    rw [hR]; rfl
  · exact fun _ _ h => h.elim
  · exact fun _ _ _ _ h => absurd h (by simp)
set_option maxRecDepth 100000 in
set_option maxHeartbeats 1000000 in
theorem weight0_c (a : Option Addr) (cap : Nat) (s : Stn) (w : World) (hl : Has w (Pts a s.shape)) (hs : Small s.shape.length) :
    Calls Tryd.prog 75 #[.agg #[.string s.name, .slice a s.shape.length cap, .int .i64 s.depth, .int .i64 s.density, .int .i64 s.grain.x, .int .i64 s.grain.z]] w (Pure (.int .i64 (weightW s)) w) := by
  refine calls_of_gk (vs := [_]) Tryd.func75 rfl rfl (Nat.le_of_ble_eq_true rfl) ?_
  refine gk_seq ?_
  refine gk_region ?_
  refine gk_yx rfl rfl (yx_box (vs := [_, _, _, _, _, _]) rfl rfl) fun b1 => ?_
  refine gk_y rfl rfl (y_assign rfl) ?_
  refine gk_nil (gk_sub (T' := [(1,_), (2,_)]) ⟨rfl, rfl, trivial⟩ ?_)
  refine gk_seq ?_
  refine gk_any 10 (fun _ => mixed) (by kernel_rfl) ?_
  refine ph_y (y_fieldAddr fo34_1 rfl) ?_
  refine ph_y (y_loadB1 0 tf31 rfl rfl rfl) ?_
  refine ph_y (y_call en77 rfl (fun w hw => twice_c _ _ s.shape w (Rd.has (Has.rd hl) hw) (by assumption))) ?_
  refine ph_y (y_fieldAddr fo34_2 rfl) ?_
  refine ph_y (y_loadB1 0 tf3 rfl rfl rfl) ?_
  refine ph_y (y_mul rfl rfl) ?_
  refine ph_y (y_fieldAddr fo34_3 rfl) ?_
  refine ph_y (y_loadB1 0 tf3 rfl rfl rfl) ?_
  refine ph_y (y_mul rfl rfl) ?_
  refine ph_y (y_assign rfl) ?_
  refine gk_nil (gk_sub (T' := [(2,_)]) ⟨rfl, trivial⟩ ?_)
  refine gk_ret ?_
  refine gk_pure (rv_one rfl (r1_tmp rfl)) ?_
  rfl
set_option maxRecDepth 100000 in
set_option maxHeartbeats 1000000 in
theorem ask64_c (a : Option Addr) (cap : Nat) (s : Stn) (gg : FuncId) (gfs gcap : List Value) (v : Int) (w : World) (hl : Has w (Pts a s.shape)) (hs : Small s.shape.length) (M : World → Prop) (hM : ∀ w', Ext w w' → M w') (hen : En Tryd.prog gg) (hg : checkI s = 0 → ∀ w', M w' → Calls Tryd.prog gg (gfs ++ [] ++ gcap).toArray w' (Pure (.int .i64 v) w')) :
    Calls Tryd.prog 74 #[.agg #[.string s.name, .slice a s.shape.length cap, .int .i64 s.depth, .int .i64 s.density, .int .i64 s.grain.x, .int .i64 s.grain.z], .func (.func gg) gfs.toArray gcap.toArray] w (Pure (.tuple #[.int .i64 (askI s v), .int .i64 (checkI s)]) w) := by
  refine calls_of_gk (vs := [_, _]) Tryd.func74 rfl rfl (Nat.le_of_ble_eq_true rfl) ?_
  refine gk_seq ?_
  refine gk_region ?_
  refine gk_yx rfl rfl (yx_box (vs := [_, _, _, _, _, _]) rfl rfl) fun b2 => ?_
  refine gk_y rfl rfl (y_assign rfl) ?_
  refine gk_y rfl rfl (y_assign rfl) ?_
  refine gk_nil (gk_sub (T' := [(1,_), (2,_), (4,_), (5,_)]) ⟨rfl, rfl, rfl, rfl, trivial⟩ ?_)
  refine gk_seq ?_
  refine gk_seq ?_
  refine gk_region ?_
  refine gk_y rfl rfl (y_loadBA 0 tf34 rfl rfl (vs := [_, _, _, _, _, _]) rfl rfl) ?_
  refine gk_y rfl rfl (y_call en17 rfl (fun w hw => check_c _ _ s w (Rd.has (Has.rd hl) hw) (by assumption))) ?_
  refine gk_y rfl rfl (y_assign rfl) ?_
  refine gk_nil (gk_sub (T' := [(1,_), (4,_), (5,_), (6,_)]) ⟨rfl, rfl, rfl, rfl, trivial⟩ ?_)
  refine gk_seq ?_
  refine gk_region ?_
  refine gk_y rfl rfl (y_move rfl) ?_
  refine gk_y rfl rfl (y_neq rfl rfl) ?_
  refine gk_nil (gk_sub (T' := [(1,_), (4,_), (5,_), (6,_), (10,_)]) ⟨rfl, rfl, rfl, rfl, rfl, trivial⟩ ?_)
  refine gk_cond rfl (fun hc10 => ?_) (fun hc10 => ?_)
  · skip
    refine gk_seq ?_
    refine gk_region ?_
    refine gk_y rfl rfl (y_move rfl) ?_
    refine gk_y rfl rfl (y_move rfl) ?_
    refine gk_y rfl rfl (y_assign rfl) ?_
    refine gk_y rfl rfl (y_assign rfl) ?_
    refine gk_nil (gk_sub (T' := [(1,_), (4,_), (5,_)]) ⟨rfl, rfl, rfl, trivial⟩ ?_)
    refine gk_ret ?_
    refine gk_pure (rv_two rfl (r1_tmp rfl) (r1_tmp rfl)) ?_
    have hk : ¬ checkI s = 0 := by simpa using hc10
    rw [askI, if_neg hk]
  · have hk : checkI s = 0 := by simpa using hc10
    refine gk_skip ?_
    refine gk_seq ?_
    refine gk_region ?_
    refine gk_y rfl rfl (y_move rfl) ?_
    refine gk_y rfl rfl (y_callV (fs := gfs) (cap := gcap) hen rfl rfl (fun w hw => hg hk w (hM _ hw.base.ext0))) ?_
    refine gk_y rfl rfl (y_assign rfl) ?_
    refine gk_y rfl rfl (y_assign rfl) ?_
    refine gk_nil (gk_sub (T' := [(4,_), (5,_)]) ⟨rfl, rfl, trivial⟩ ?_)
    refine gk_ret ?_
    refine gk_pure (rv_two rfl (r1_tmp rfl) (r1_tmp rfl)) ?_
    rw [askI, if_pos hk, hk]
set_option maxRecDepth 100000 in
set_option maxHeartbeats 1000000 in
theorem weight_c (a : Option Addr) (cap : Nat) (s : Stn) (w : World) (hl : Has w (Pts a s.shape)) (hs : Small s.shape.length) :
    Calls Tryd.prog 28 #[.agg #[.string s.name, .slice a s.shape.length cap, .int .i64 s.depth, .int .i64 s.density, .int .i64 s.grain.x, .int .i64 s.grain.z]] w (Pure (.tuple #[.int .i64 (askI s (weightW s)), .int .i64 (checkI s)]) w) := by
  refine calls_of_gk (vs := [_]) Tryd.func28 rfl rfl (Nat.le_of_ble_eq_true rfl) ?_
  refine gk_seq ?_
  refine gk_region ?_
  refine gk_yx rfl rfl (yx_box (vs := [_, _, _, _, _, _]) rfl rfl) fun b1 => ?_
  refine gk_y rfl rfl (y_assign rfl) ?_
  refine gk_y rfl rfl (y_assign rfl) ?_
  refine gk_nil (gk_sub (T' := [(1,_), (2,_), (3,_)]) ⟨rfl, rfl, rfl, trivial⟩ ?_)
  refine gk_seq ?_
  refine gk_region ?_
  refine gk_y rfl rfl (y_loadBA 0 tf34 rfl rfl (vs := [_, _, _, _, _, _]) rfl rfl) ?_
  refine gk_y rfl rfl (y_loadBA 0 tf34 rfl rfl (vs := [_, _, _, _, _, _]) rfl rfl) ?_
  refine gk_y rfl rfl (y_makeFunc («as» := [_]) (bs := []) rfl rfl) ?_
  refine gk_y rfl rfl (y_call en74 rfl (fun w hw => ask64_c _ _ s 75 [stnV s a cap] [] (weightW s) w (Rd.has (Has.rd hl) hw) (by assumption) (fun w' => Has w' (Pts a s.shape)) (fun w' hx => Has.ext (Rd.has (Has.rd hl) hw) hx) en75 (fun _ w' hp => weight0_c _ _ s w' hp (by assumption)))) ?_
  refine gk_y rfl rfl (y_extract rfl rfl) ?_
  refine gk_y rfl rfl (y_extract rfl rfl) ?_
  refine gk_y rfl rfl (y_assign rfl) ?_
  refine gk_y rfl rfl (y_assign rfl) ?_
  refine gk_nil (gk_sub (T' := [(2,_), (3,_)]) ⟨rfl, rfl, trivial⟩ ?_)
  refine gk_ret ?_
  refine gk_pure (rv_two rfl (r1_tmp rfl) (r1_tmp rfl)) ?_
  rfl
end Go.Proofs.YtahahmelnaphjaaDoor

namespace Go.Proofs.YtahahmelnaphjaaDoor
open Go.K Go.Stn Go.RowKit
theorem tf132 : TF Tryd.prog 132 false 1 (.nilFunc) := ⟨by kernel_rfl, by kernel_rfl⟩
theorem en63 : En Tryd.prog 63 := en_of Tryd.func63 (by kernel_rfl) (by kernel_rfl)
theorem en64 : En Tryd.prog 64 := en_of Tryd.func64 (by kernel_rfl) (by kernel_rfl)
theorem en65 : En Tryd.prog 65 := en_of Tryd.func65 (by kernel_rfl) (by kernel_rfl)
theorem en66 : En Tryd.prog 66 := en_of Tryd.func66 (by kernel_rfl) (by kernel_rfl)
theorem en88 : En Tryd.prog 88 := en_of Tryd.func88 (by kernel_rfl) (by kernel_rfl)
theorem en121 : En Tryd.prog 121 := en_of Tryd.func121 (by kernel_rfl) (by kernel_rfl)
theorem en122 : En Tryd.prog 122 := en_of Tryd.func122 (by kernel_rfl) (by kernel_rfl)
theorem en126 : En Tryd.prog 126 := en_of Tryd.func126 (by kernel_rfl) (by kernel_rfl)
set_option maxRecDepth 100000 in
set_option maxHeartbeats 1000000 in
theorem common_c (a b : Int) (w : World) (ha : -1000000 ≤ a) (ha2 : a ≤ 1000000) (hb : -1000000 ≤ b) (hb2 : b ≤ 1000000) :
    Calls Tryd.prog 126 #[.int .i64 a, .int .i64 b] w (Pure (.int .i64 ((Nat.gcd a.natAbs b.natAbs : Nat) : Int)) w) := by
  refine calls_of_gk (vs := [_, _]) Tryd.func126 rfl rfl (Nat.le_of_ble_eq_true rfl) ?_
  refine gk_seq ?_
  refine gk_region ?_
  refine gk_y rfl rfl (y_assign rfl) ?_
  refine gk_nil (gk_sub (T' := [(0,_), (1,_), (4,_)]) ⟨rfl, rfl, rfl, trivial⟩ ?_)
  refine gk_seq ?_
  refine gk_region ?_
  refine gk_y rfl rfl (y_move rfl) ?_
  refine gk_y rfl rfl (y_move rfl) ?_
  refine gk_y rfl rfl (y_negI rfl (by omega) (by omega)) ?_
  refine gk_y rfl rfl (y_max rfl rfl) ?_
  refine gk_y rfl rfl (y_move rfl) ?_
  refine gk_y rfl rfl (y_move rfl) ?_
  refine gk_y rfl rfl (y_negI rfl (by omega) (by omega)) ?_
  refine gk_y rfl rfl (y_max rfl rfl) ?_
  refine gk_y rfl rfl (y_assign rfl) ?_
  refine gk_y rfl rfl (y_assign rfl) ?_
  refine gk_nil (gk_sub (T' := [(0,_), (1,_), (4,_)]) ⟨rfl, rfl, rfl, trivial⟩ ?_)
  refine gk_seq ?_
  refine gk_block ?_
  refine gk_loop (X := Int × Int) (fun ⟨x, y⟩ => [(0, .int .i64 x), (1, .int .i64 y), (4, .int .i64 0)]) (fun ⟨x, y⟩ => []) (fun ⟨x, y⟩ => (0 ≤ x ∧ 0 ≤ y ∧ Nat.gcd x.toNat y.toNat = Nat.gcd a.natAbs b.natAbs)) (fun ⟨x, y⟩ => y.toNat) (max a (-a), max b (-b)) ⟨rfl, rfl, rfl, trivial⟩ rfl ?_ ?_
  · exact ⟨by omega, by omega, by rw [show (max a (-a)).toNat = a.natAbs from by omega, show (max b (-b)).toNat = b.natAbs from by omega]⟩
  · rintro ⟨x, y⟩ hI
    obtain ⟨g0, g1, g2⟩ := hI
    refine gk_seq ?_
    refine gk_seq ?_
    refine gk_region ?_
    refine gk_y rfl rfl (y_move rfl) ?_
    refine gk_y rfl rfl (y_neq rfl rfl) ?_
    refine gk_nil (gk_sub (T' := [(0,_), (1,_), (4,_), (14,_)]) ⟨rfl, rfl, rfl, rfl, trivial⟩ ?_)
    refine gk_cond rfl (fun hc14 => ?_) (fun hc14 => ?_)
    · simp only [Bool.not_eq_true', decide_eq_false_iff_not] at hc14
      refine gk_skip ?_
      refine gk_block ?_
      refine gk_any 6 (fun _ => mixed) (by kernel_rfl) ?_
      refine ph_y (y_move rfl) ?_
      refine ph_y (y_move rfl) ?_
      refine ph_y (y_move rfl) ?_
      refine ph_y (y_rem rfl rfl (by omega)) ?_
      refine ph_y (y_assign rfl) ?_
      refine ph_y (y_assign rfl) ?_
      refine gk_nil (gk_sub (T' := [(0,_), (1,_), (4,_)]) ⟨rfl, rfl, rfl, trivial⟩ ?_)
      exact gk_next (_, _) ⟨rfl, rfl, rfl, trivial⟩ rfl ⟨g1, Int.tmod_nonneg _ g0, (gcd_step g0 g1).trans g2⟩ (by have := Int.tmod_lt_of_pos x (show 0 < y by omega); have := Int.tmod_nonneg y g0; simp only []; omega)
    · simp only [Bool.not_eq_false', decide_eq_true_eq] at hc14
      refine gk_exit rfl ?_
      refine gk_seq ?_
      refine gk_region ?_
      refine gk_y rfl rfl (y_move rfl) ?_
      refine gk_y rfl rfl (y_assign rfl) ?_
      refine gk_nil (gk_sub (T' := [(4,_)]) ⟨rfl, trivial⟩ ?_)
      refine gk_ret ?_
      refine gk_pure (rv_one rfl (r1_tmp rfl)) ?_
      rw [← g2, show y.toNat = 0 from by omega, Nat.gcd_zero_right]; exact congrArg _ (by omega)
set_option maxRecDepth 100000 in
set_option maxHeartbeats 1000000 in
theorem steps_c (p q : Pt) (w : World) (hp : farB p = false) (hq : farB q = false) :
    Calls Tryd.prog 88 #[.agg #[.int .i64 p.x, .int .i64 p.z], .agg #[.int .i64 q.x, .int .i64 q.z]] w (Pure (.int .i64 (stepsI p q)) w) := by
  obtain ⟨hd, d0, d1, d2, d3⟩ := near_sub hp hq
  refine calls_of_gk (vs := [_, _]) Tryd.func88 rfl rfl (Nat.le_of_ble_eq_true rfl) ?_
  refine gk_seq ?_
  refine gk_region ?_
  refine gk_yx rfl rfl (yx_box (vs := [_, _]) rfl rfl) fun b2 => ?_
  refine gk_yx rfl rfl (yx_box (vs := [_, _]) rfl rfl) fun b3 => ?_
  refine gk_y rfl rfl (y_assign rfl) ?_
  refine gk_nil (gk_sub (T' := [(2,_), (3,_), (4,_)]) ⟨rfl, rfl, rfl, trivial⟩ ?_)
  refine gk_seq ?_
  refine gk_region ?_
  refine gk_y rfl rfl (y_loadBA 0 tf32 rfl rfl (vs := [_, _]) rfl rfl) ?_
  refine gk_y rfl rfl (y_loadBA 1 tf32 rfl rfl (vs := [_, _]) rfl rfl) ?_
  refine gk_y rfl rfl (y_call en89 rfl (fun w hw => sub_c ⟨_, _⟩ ⟨_, _⟩ w)) ?_
  refine gk_yx rfl rfl (yx_alloc tf32 (zs := [_, _]) rfl) fun b5 => ?_
  refine gk_storeV 0 tf32 rfl rfl (vs := [_, _]) rfl rfl rfl rfl rfl ?_
  refine gk_nil (gk_sub (T' := [(4,_), (5,_)]) ⟨rfl, rfl, trivial⟩ ?_)
  refine gk_seq ?_
  refine gk_region ?_
  refine gk_y rfl rfl (y_fieldAddr fo32_0 rfl) ?_
  refine gk_y rfl rfl (y_loadB1 0 tf3 rfl rfl rfl) ?_
  refine gk_y rfl rfl (y_fieldAddr fo32_1 rfl) ?_
  refine gk_y rfl rfl (y_loadB1 0 tf3 rfl rfl rfl) ?_
  refine gk_y rfl rfl (y_call en126 rfl (fun w hw => common_c ((subW q p).x) ((subW q p).z) w (by rw [hd]; dsimp only; omega) (by rw [hd]; dsimp only; omega) (by rw [hd]; dsimp only; omega) (by rw [hd]; dsimp only; omega))) ?_
  refine gk_y rfl rfl (y_assign rfl) ?_
  refine gk_nil (gk_sub (T' := [(4,_)]) ⟨rfl, trivial⟩ ?_)
  refine gk_ret ?_
  refine gk_pure (rv_one rfl (r1_tmp rfl)) ?_
  rw [hd]; rfl
set_option maxRecDepth 100000 in
set_option maxHeartbeats 1000000 in
theorem border_c (a : Option Addr) (cap : Nat) (s : Stn) (w : World)  :
    Calls Tryd.prog 66 #[.agg #[.string s.name, .slice a s.shape.length cap, .int .i64 s.depth, .int .i64 s.density, .int .i64 s.grain.x, .int .i64 s.grain.z]] w (Gives (fun b : Nat => .func (.func 122) #[] #[.pointer (some ⟨b, 0, none⟩)]) (fun b => Box b [.string s.name, .slice a s.shape.length cap, .int .i64 s.depth, .int .i64 s.density, .int .i64 s.grain.x, .int .i64 s.grain.z] 34) w) := by
  refine calls_of_gk (vs := [_]) Tryd.func66 rfl rfl (Nat.le_of_ble_eq_true rfl) ?_
  refine gk_seq ?_
  refine gk_region ?_
  refine gk_yx rfl rfl (yx_box (vs := [_, _, _, _, _, _]) rfl rfl) fun b1 => ?_
  refine gk_y rfl rfl (y_assign rfl) ?_
  refine gk_nil (gk_sub (T' := [(1,_), (2,_)]) ⟨rfl, rfl, trivial⟩ ?_)
  refine gk_seq ?_
  refine gk_region ?_
  refine gk_y rfl rfl (y_makeFunc («as» := []) (bs := [_]) rfl rfl) ?_
  refine gk_y rfl rfl (y_assign rfl) ?_
  refine gk_nil (gk_sub (T' := [(2,_)]) ⟨rfl, trivial⟩ ?_)
  refine gk_ret ?_
  refine gk_gives b1 0 (rv_one rfl (r1_tmp rfl)) ?_ rfl
  rfl
set_option maxRecDepth 100000 in
set_option maxHeartbeats 1000000 in
theorem border1_c (a : Option Addr) (cap : Nat) (s : Stn) (b : Nat) (hs : Small s.shape.length) (hnear : Near s.shape) :
    SeqC Tryd.prog 122 [.pointer (some ⟨b, 0, none⟩)] (borderVs s.shape) (fun w => Has w (Box b [.string s.name, .slice a s.shape.length cap, .int .i64 s.depth, .int .i64 s.density, .int .i64 s.grain.x, .int .i64 s.grain.z] 34) ∧ Has w (Pts a s.shape)) := by
  intro X J Rl D y w B x0 hB hA h0 hM hy
  refine calls_of_gkB hB hA (vs := [_, _]) Tryd.func122 rfl rfl (Nat.le_of_ble_eq_true rfl) ?_
  have hmem : ∀ {cz : Cx} {Hz : List Res} {xz : X} {pz : Nat} {w' : World}, Inside (fun k => k < w.heap.size ∧ ¬ B k) w cz → Hz[pz]? = some (J xz) → Hp cz.U cz.w0 Hz w' → (Has w' (Box b [.string s.name, .slice a s.shape.length cap, .int .i64 s.depth, .int .i64 s.density, .int .i64 s.grain.x, .int .i64 s.grain.z] 34) ∧ Has w' (Pts a s.shape)) := fun hin hp hw => by
    obtain ⟨B', q1, q2, q3, q4⟩ := own_of_in hin hp hw
    exact hM _ _ B' q4 q1 q2 q3
  have ins0 := insideB Tryd.prog Tryd.f122.ntmps w B
  refine gk_seq ?_
  refine gk_region ?_
  refine gk_yx rfl rfl (yx_box (vs := [_]) rfl rfl) fun b2 => ?_
  refine gk_nil (gk_sub (T' := [(1,_), (2,_)]) ⟨rfl, rfl, trivial⟩ ?_)
  refine gk_seq ?_
  refine gk_region ?_
  refine gk_y rfl rfl (y_fieldAddr fo34_1 rfl) ?_
  refine gk_y rfl rfl (y_load1 tf31 rfl (fun _ hw => has_box_cell (hmem ins0 (pz := 1) rfl hw).1 rfl)) ?_
  refine gk_yx rfl rfl (yx_call en82 rfl (fun w hw => edges_c _ _ s.shape w)) fun p10 => ?_
  refine gk_nil (gk_sub (T' := [(2,_), (10,_)]) ⟨rfl, rfl, trivial⟩ ?_)
  refine gk_block ?_
  refine gk_sub (T' := [(2,_), (10,_)]) ⟨rfl, rfl, trivial⟩ ?_
  refine gk_rangeFunc (X := X) (fun x => [Box p10 [.slice a s.shape.length cap] 31, Box b2 [.func (.yield y) #[] #[]] 132, J x]) (fun n x => Rl (preN s.shape n) x) (fun x => D x) [] x0 rfl en124 rfl rfl (by rw [preN_zero]; exact h0) (edges1_c _ _ s.shape _ (by assumption)) (fun x w hw => ⟨hw.has (p := 0) rfl, (hmem ins0 (pz := 2) rfl hw).2⟩) (edges_two _) rfl ?_ ?_ ?_ ?_
  · rintro R1 R2 rl U' w' n x args hget hR hrd hins hbeg
    obtain ⟨e, he, rfl⟩ := edge_inv hget
    refine gk_sub (T' := [(2,_), (11,_), (12,_)]) ⟨rfl, rfl, rfl, trivial⟩ ?_
    refine gk_seq ?_
    refine gk_region ?_
    refine gk_yx rfl rfl (yx_alloc tf32 (zs := [_, _]) rfl) fun b3 => ?_
    refine gk_storeV 0 tf32 rfl rfl (vs := [_, _]) rfl rfl rfl rfl rfl ?_
    refine gk_nil (gk_sub (T' := [(2,_), (3,_), (12,_)]) ⟨rfl, rfl, rfl, trivial⟩ ?_)
    refine gk_region ?_
    refine gk_yx rfl rfl (yx_alloc tf32 (zs := [_, _]) rfl) fun b4 => ?_
    refine gk_storeV 0 tf32 rfl rfl (vs := [_, _]) rfl rfl rfl rfl rfl ?_
    refine gk_nil (gk_sub (T' := [(2,_), (3,_), (4,_)]) ⟨rfl, rfl, rfl, trivial⟩ ?_)
    refine gk_front 2 rfl ?_
    refine hbeg _ _ _ ?_
    refine gk_block ?_
    refine gk_seq ?_
    refine gk_region ?_
    refine gk_y rfl rfl (y_loadBA 2 tf32 rfl rfl (vs := [_, _]) rfl rfl) ?_
    refine gk_y rfl rfl (y_loadBA 1 tf32 rfl rfl (vs := [_, _]) rfl rfl) ?_
    refine gk_y rfl rfl (y_call en88 rfl (fun w hw => steps_c ⟨_, _⟩ ⟨_, _⟩ w (near_edge hnear he).1 (near_edge hnear he).2)) ?_
    refine gk_y rfl rfl (y_assign rfl) ?_
    refine gk_nil (gk_sub (T' := [(2,_), (3,_), (4,_), (5,_)]) ⟨rfl, rfl, rfl, rfl, trivial⟩ ?_)
    refine gk_seq ?_
    refine gk_region ?_
    refine gk_y rfl rfl (y_loadBA 1 tf32 rfl rfl (vs := [_, _]) rfl rfl) ?_
    refine gk_y rfl rfl (y_loadBA 2 tf32 rfl rfl (vs := [_, _]) rfl rfl) ?_
    refine gk_y rfl rfl (y_call en89 rfl (fun w hw => sub_c ⟨_, _⟩ ⟨_, _⟩ w)) ?_
    refine gk_yx rfl rfl (yx_alloc tf32 (zs := [_, _]) rfl) fun b6 => ?_
    refine gk_storeV 0 tf32 rfl rfl (vs := [_, _]) rfl rfl rfl rfl rfl ?_
    refine gk_nil (gk_sub (T' := [(2,_), (3,_), (5,_), (6,_)]) ⟨rfl, rfl, rfl, rfl, trivial⟩ ?_)
    refine gk_seq ?_
    refine gk_region ?_
    refine gk_y rfl rfl (y_move rfl) ?_
    refine gk_y rfl rfl (y_move rfl) ?_
    refine gk_nil (gk_sub (T' := [(2,_), (3,_), (5,_), (6,_), (19,_), (20,_)]) ⟨rfl, rfl, rfl, rfl, rfl, rfl, trivial⟩ ?_)
    refine gk_block ?_
    refine gk_loop (X := Int × X) (fun ⟨k, x2⟩ => [(2, .pointer (some ⟨b2, 0, none⟩)), (3, .pointer (some ⟨b3, 0, none⟩)), (5, .int .i64 (stepsI e.1 e.2)), (6, .pointer (some ⟨b6, 0, none⟩)), (19, .int .i64 (stepsI e.1 e.2)), (20, .int .i64 k)]) (fun ⟨k, x2⟩ => [Box b6 [.int .i64 ((subW e.2 e.1).x), .int .i64 ((subW e.2 e.1).z)] 32, R2, Box b4 [.int .i64 e.2.x, .int .i64 e.2.z] 32, Box b3 [.int .i64 e.1.x, .int .i64 e.1.z] 32, Box p10 [.slice a s.shape.length cap] 31, Box b2 [.func (.yield y) #[] #[]] 132, J x2]) (fun ⟨k, x2⟩ => (0 ≤ k ∧ k ≤ stepsI e.1 e.2 ∧ Rl (preN s.shape n + k.toNat) x2)) (fun ⟨k, x2⟩ => (stepsI e.1 e.2 - k).toNat) (0, x) ⟨rfl, rfl, rfl, rfl, rfl, rfl, trivial⟩ rfl ?_ ?_
    · exact ⟨by omega, by unfold stepsI; omega, hR⟩
    · rintro ⟨k, x2⟩ hI
      obtain ⟨g0, g1, g2⟩ := hI
      have hst := steps_le (near_edge hnear he).1 (near_edge hnear he).2
      have hsi : stepsI e.1 e.2 = (stepsN e.1 e.2 : Int) := rfl
      refine gk_seq ?_
      refine gk_region ?_
      refine gk_y rfl rfl (y_lss rfl rfl) ?_
      refine gk_nil (gk_sub (T' := [(2,_), (3,_), (5,_), (6,_), (19,_), (20,_), (21,_)]) ⟨rfl, rfl, rfl, rfl, rfl, rfl, rfl, trivial⟩ ?_)
      refine gk_seq ?_
      refine gk_cond rfl (fun hc21 => ?_) (fun hc21 => ?_)
      · simp only [decide_eq_true_eq] at hc21
        refine gk_skip ?_
        refine gk_seq ?_
        refine gk_block ?_
        refine gk_seq ?_
        refine gk_region ?_
        refine gk_y rfl rfl (y_move rfl) ?_
        refine gk_y rfl rfl (y_assign rfl) ?_
        refine gk_nil (gk_sub (T' := [(2,_), (3,_), (5,_), (6,_), (7,_), (19,_), (20,_)]) ⟨rfl, rfl, rfl, rfl, rfl, rfl, rfl, trivial⟩ ?_)
        refine gk_seq ?_
        refine gk_any 20 (fun _ => mixed) (by kernel_rfl) ?_
        refine ph_y (y_loadB1 5 tf132 rfl rfl rfl) ?_
        refine ph_y (y_fieldAddr fo32_0 rfl) ?_
        refine ph_y (y_loadB1 3 tf3 rfl rfl rfl) ?_
        refine ph_y (y_fieldAddr fo32_0 rfl) ?_
        refine ph_y (y_loadB1 0 tf3 rfl rfl rfl) ?_
        refine ph_y (y_move rfl) ?_
        refine ph_y (y_quo rfl rfl (by omega)) ?_
        refine ph_y (y_move rfl) ?_
        refine ph_y (y_mul rfl rfl) ?_
        refine ph_y (y_add rfl rfl) ?_
        refine ph_y (y_fieldAddr fo32_1 rfl) ?_
        refine ph_y (y_loadB1 3 tf3 rfl rfl rfl) ?_
        refine ph_y (y_fieldAddr fo32_1 rfl) ?_
        refine ph_y (y_loadB1 0 tf3 rfl rfl rfl) ?_
        refine ph_y (y_move rfl) ?_
        refine ph_y (y_quo rfl rfl (by omega)) ?_
        refine ph_y (y_move rfl) ?_
        refine ph_y (y_mul rfl rfl) ?_
        refine ph_y (y_add rfl rfl) ?_
        refine ph_y (y_buildL rfl (bd32_0i_1i _ _)) ?_
        refine gk_sub (T' := [(2,_), (3,_), (5,_), (6,_), (19,_), (20,_), (23,_), (42,_)]) ⟨rfl, rfl, rfl, rfl, rfl, rfl, rfl, rfl, trivial⟩ ?_
        refine gk_yield 6 hins rfl rfl rfl rfl (hy _ _ _ (border_get he g0 (by omega)) g2) fun b43 x43 hp43 => ?_
        refine gk_y rfl rfl (y_not rfl) ?_
        refine gk_nil (gk_sub (T' := [(2,_), (3,_), (5,_), (6,_), (19,_), (20,_), (44,_)]) ⟨rfl, rfl, rfl, rfl, rfl, rfl, rfl, trivial⟩ ?_)
        refine gk_cond rfl (fun hc44 => ?_) (fun hc44 => ?_)
        · skip
          refine gk_ret ?_
          refine gk_dropAt 0 rfl ?_
          refine gk_dropAt 1 rfl ?_
          refine gk_dropAt 1 rfl ?_
          exact gk_joined x43 trivial rfl (by have := hp43; rwa [show b43 = false from by simpa using hc44, if_neg Bool.false_ne_true] at this)
        · skip
          refine gk_skip ?_
          refine gk_region ?_
          refine gk_y rfl rfl (y_addI rfl rfl (by omega) (by omega)) ?_
          refine gk_y rfl rfl (y_move rfl) ?_
          refine gk_nil (gk_sub (T' := [(2,_), (3,_), (5,_), (6,_), (19,_), (20,_)]) ⟨rfl, rfl, rfl, rfl, rfl, rfl, trivial⟩ ?_)
          exact gk_next (k + 1, x43) ⟨rfl, rfl, rfl, rfl, rfl, rfl, trivial⟩ rfl ⟨by omega, by omega, by have := hp43; rw [show b43 = true from by simpa using hc44, if_pos rfl] at this; rwa [show preN s.shape n + (k + 1).toNat = preN s.shape n + k.toNat + 1 from by omega]⟩ (by simp only []; omega)
      · simp only [decide_eq_false_iff_not] at hc21
        refine gk_exit rfl ?_
        refine gk_dropAt 0 rfl ?_
        refine gk_dropAt 1 rfl ?_
        refine gk_dropAt 1 rfl ?_
        exact gk_joined x2 trivial rfl (by rw [preN_succ he]; rwa [show k.toNat = stepsN e.1 e.2 from by unfold stepsI at *; omega] at g2)
  · intro Dm x hR
    refine gk_unmark 0 rfl ?_
    refine gk_turns x 2 (rv_none rfl) rfl rfl (.inl (by rw [← preN_all]; exact hR))
  · rintro Dm x hD
    refine gk_unmark 0 rfl ?_
    refine gk_turns x 2 (rv_none rfl) rfl rfl (.inr hD)
  · exact fun _ _ _ _ h => absurd h (by simp)
set_option maxRecDepth 100000 in
set_option maxHeartbeats 1000000 in
theorem appendseq_c (xs : List Pt) (gg : FuncId) (gcap : List Value) (w : World) (hs : Small xs.length) (M : World → Prop) (hM : ∀ w', Ext w w' → M w') (hen : En Tryd.prog gg) (hseq : SeqC Tryd.prog gg gcap (xs.map onePt) M) :
    Calls Tryd.prog 121 #[.slice none 0 0, .func (.func gg) #[] gcap.toArray] w (Gives (fun z : Option Addr × Nat => .slice z.1 xs.length z.2) (fun z => Row z.1 2 z.2 32 encPt xs) w) := by
  refine calls_of_gk (vs := [_, _]) Tryd.func121 rfl rfl (Nat.le_of_ble_eq_true rfl) ?_
  refine gk_seq ?_
  refine gk_region ?_
  refine gk_yx rfl rfl (yx_box (vs := [_]) rfl rfl) fun b2 => ?_
  refine gk_y rfl rfl (y_assign rfl) ?_
  refine gk_nil (gk_sub (T' := [(1,_), (2,_), (4,_)]) ⟨rfl, rfl, rfl, trivial⟩ ?_)
  refine gk_seq ?_
  refine gk_seq ?_
  refine gk_region ?_
  refine gk_y rfl rfl (y_move rfl) ?_
  refine gk_nil (gk_sub (T' := [(2,_), (4,_), (6,_)]) ⟨rfl, rfl, rfl, trivial⟩ ?_)
  refine gk_block ?_
  refine gk_newNil 32 encPt 2 ?_
  refine gk_sub (T' := [(2,_), (4,_), (6,_)]) ⟨rfl, rfl, rfl, trivial⟩ ?_
  refine gk_rangeFunc (X := Option Addr × Nat × List Pt) (fun ⟨b, bc, m⟩ => [Row b 2 bc 32 encPt m, Box b2 [.slice b m.length bc] 31]) (fun n ⟨b, bc, m⟩ => m = xs.take n) (fun ⟨b, bc, m⟩ => False) [] (none, 0, []) rfl hen rfl rfl rfl hseq (fun ⟨b, bc, m⟩ w hw => hM _ hw.base.ext0) (ones_one _) rfl ?_ ?_ ?_ ?_
  · rintro R1 R2 rl U' w' n ⟨b, bc, m⟩ args hget hR hrd hins hbeg
    obtain ⟨p, hp, rfl⟩ := ones_inv hget
    have hlen : m.length ≤ xs.length := by rw [hR, List.length_take]; omega
    refine gk_sub (T' := [(2,_), (7,_)]) ⟨rfl, rfl, trivial⟩ ?_
    refine gk_region ?_
    refine gk_yx rfl rfl (yx_alloc tf32 (zs := [_, _]) rfl) fun b5 => ?_
    refine gk_storeV 0 tf32 rfl rfl (vs := [_, _]) rfl rfl rfl rfl rfl ?_
    refine gk_nil (gk_sub (T' := [(2,_), (5,_)]) ⟨rfl, rfl, trivial⟩ ?_)
    refine gk_front 1 rfl ?_
    refine hbeg _ _ _ ?_
    refine gk_block ?_
    refine gk_region ?_
    refine gk_y rfl rfl (y_loadB1 3 tf31 rfl rfl rfl) ?_
    refine gk_y rfl rfl (y_loadBA 1 tf32 rfl rfl (vs := [_, _]) rfl rfl) ?_
    refine gk_yx rfl rfl (yx_buildSlice rfl (bs31_1 _ _) encPt_ok rfl) fun b10 => ?_
    refine gk_append (m := [⟨p.x, p.z⟩]) 3 af31 encPt_ok rfl rfl rfl rfl (fun _ hw => (has_row encPt_ok (hw.has (p := 0) rfl))) (by first | omega | (simp only [List.length_cons, List.length_nil]; omega)) (by first | (unfold maxLen; omega) | (simp only [List.length_cons, List.length_nil, maxLen]; omega)) fun a11 c11 => ?_
    refine gk_storeV 4 tf31 rfl rfl (vs := [_]) rfl rfl rfl rfl rfl ?_
    refine gk_nil (gk_sub (T' := []) trivial ?_)
    refine gk_dropAt 0 rfl ?_
    refine gk_dropAt 1 rfl ?_
    exact gk_joined (a11, c11, _) trivial rfl (by rw [take_snoc hp, ← hR])
  · rintro Dm ⟨b, bc, m⟩ hR
    obtain rfl : m = xs := by rw [hR]; simp
    refine gk_seq ?_
    refine gk_region ?_
    refine gk_y rfl rfl (y_loadB1 2 tf31 rfl rfl rfl) ?_
    refine gk_y rfl rfl (y_assign rfl) ?_
    refine gk_nil (gk_sub (T' := [(4,_)]) ⟨rfl, trivial⟩ ?_)
    refine gk_ret ?_
    refine gk_unmark 0 rfl ?_
    refine gk_gives (b, bc) 0 (rv_one rfl (r1_tmp rfl)) ?_ rfl
    rfl
  · exact fun _ _ h => h.elim
  · exact fun _ _ _ _ h => absurd h (by simp)
set_option maxRecDepth 100000 in
set_option maxHeartbeats 1000000 in
theorem collect_c (xs : List Pt) (gg : FuncId) (gcap : List Value) (w : World) (hs : Small xs.length) (M : World → Prop) (hM : ∀ w', Ext w w' → M w') (hen : En Tryd.prog gg) (hseq : SeqC Tryd.prog gg gcap (xs.map onePt) M) :
    Calls Tryd.prog 65 #[.func (.func gg) #[] gcap.toArray] w (Gives (fun z : Option Addr × Nat => .slice z.1 xs.length z.2) (fun z => Row z.1 2 z.2 32 encPt xs) w) := by
  refine calls_of_gk (vs := [_]) Tryd.func65 rfl rfl (Nat.le_of_ble_eq_true rfl) ?_
  refine gk_seq ?_
  refine gk_region ?_
  refine gk_y rfl rfl (y_assign rfl) ?_
  refine gk_nil (gk_sub (T' := [(0,_), (2,_)]) ⟨rfl, rfl, trivial⟩ ?_)
  refine gk_seq ?_
  refine gk_region ?_
  refine gk_y rfl rfl (y_move rfl) ?_
  refine gk_yx rfl rfl (yx_call en121 rfl (fun w hw => appendseq_c xs _ _ w (by assumption) M (fun w' hx => hM w' (hw.base.ext0.trans hx)) hen hseq)) fun p4 => ?_
  refine gk_y rfl rfl (y_assign rfl) ?_
  refine gk_nil (gk_sub (T' := [(2,_)]) ⟨rfl, trivial⟩ ?_)
  refine gk_ret ?_
  refine gk_gives p4 0 (rv_one rfl (r1_tmp rfl)) ?_ rfl
  rfl
set_option maxRecDepth 100000 in
set_option maxHeartbeats 1000000 in
theorem Border1_c (a : Option Addr) (cap : Nat) (s : Stn) (b : Nat) (w : World) (hb : Has w (Box b [.string s.name, .slice a s.shape.length cap, .int .i64 s.depth, .int .i64 s.density, .int .i64 s.grain.x, .int .i64 s.grain.z] 34)) (hl : Has w (Pts a s.shape)) (hv : checkI s = 0) :
    Calls Tryd.prog 64 #[.pointer (some ⟨b, 0, none⟩)] w (Gives (fun z : Option Addr × Nat => .slice z.1 (borderL s.shape).length z.2) (fun z => Row z.1 2 z.2 32 encPt (borderL s.shape)) w) := by
  refine calls_of_gk (vs := [_]) Tryd.func64 rfl rfl (Nat.le_of_ble_eq_true rfl) ?_
  refine gk_seq ?_
  refine gk_region ?_
  refine gk_y rfl rfl (y_assign rfl) ?_
  refine gk_nil (gk_sub (T' := [(0,_), (1,_)]) ⟨rfl, rfl, trivial⟩ ?_)
  refine gk_seq ?_
  refine gk_region ?_
  refine gk_y rfl rfl (y_loadA tf34 rfl rfl (fun _ hw => has_box_cells (o := 0) (k := 6) (Rd.has (Has.rd hb) hw) (vs := [_, _, _, _, _, _]) rfl)) ?_
  refine gk_yx rfl rfl (yx_call en66 rfl (fun w hw => border_c _ _ s w)) fun p3 => ?_
  refine gk_yx rfl rfl (yx_call en65 rfl (fun w hw => collect_c (borderL s.shape) _ [_] w (by have := border_len (check_near hv); have := check_len hv; unfold Small; omega) (fun w' => Has w' (Box p3 [.string s.name, .slice a s.shape.length cap, .int .i64 s.depth, .int .i64 s.density, .int .i64 s.grain.x, .int .i64 s.grain.z] 34) ∧ Has w' (Pts a s.shape)) (fun w' hx => ⟨Has.ext (hw.has (p := 0) rfl) hx, Has.ext (Rd.has (Has.rd hl) hw) hx⟩) en122 (border1_c _ _ s p3 (by have := check_len hv; unfold Small; omega) (check_near hv)))) fun p4 => ?_
  refine gk_y rfl rfl (y_assign rfl) ?_
  refine gk_nil (gk_sub (T' := [(1,_)]) ⟨rfl, trivial⟩ ?_)
  refine gk_ret ?_
  refine gk_gives p4 0 (rv_one rfl (r1_tmp rfl)) ?_ rfl
  rfl
set_option maxRecDepth 100000 in
set_option maxHeartbeats 1000000 in
theorem askL_c (a : Option Addr) (cap : Nat) (s : Stn) (gg : FuncId) (gfs gcap : List Value) (r : List Pt) (w : World) (hl : Has w (Pts a s.shape)) (hs : Small s.shape.length) (M : World → Prop) (hM : ∀ w', Ext w w' → M w') (hen : En Tryd.prog gg) (hg : checkI s = 0 → ∀ w', M w' → Calls Tryd.prog gg (gfs ++ [] ++ gcap).toArray w' (Gives (fun z : Option Addr × Nat => .slice z.1 r.length z.2) (fun z => Row z.1 2 z.2 32 encPt r) w')) :
    Calls Tryd.prog 63 #[.agg #[.string s.name, .slice a s.shape.length cap, .int .i64 s.depth, .int .i64 s.density, .int .i64 s.grain.x, .int .i64 s.grain.z], .func (.func gg) gfs.toArray gcap.toArray] w (Gives (fun z : Option Addr × Nat => .tuple #[.slice z.1 (askL s r).length z.2, .int .i64 (checkI s)]) (fun z => Row z.1 2 z.2 32 encPt (askL s r)) w) := by
  refine calls_of_gk (vs := [_, _]) Tryd.func63 rfl rfl (Nat.le_of_ble_eq_true rfl) ?_
  refine gk_seq ?_
  refine gk_region ?_
  refine gk_yx rfl rfl (yx_box (vs := [_, _, _, _, _, _]) rfl rfl) fun b2 => ?_
  refine gk_y rfl rfl (y_assign rfl) ?_
  refine gk_y rfl rfl (y_assign rfl) ?_
  refine gk_nil (gk_sub (T' := [(1,_), (2,_), (4,_), (5,_)]) ⟨rfl, rfl, rfl, rfl, trivial⟩ ?_)
  refine gk_seq ?_
  refine gk_seq ?_
  refine gk_region ?_
  refine gk_y rfl rfl (y_loadBA 0 tf34 rfl rfl (vs := [_, _, _, _, _, _]) rfl rfl) ?_
  refine gk_y rfl rfl (y_call en17 rfl (fun w hw => check_c _ _ s w (Rd.has (Has.rd hl) hw) (by assumption))) ?_
  refine gk_y rfl rfl (y_assign rfl) ?_
  refine gk_nil (gk_sub (T' := [(1,_), (4,_), (5,_), (6,_)]) ⟨rfl, rfl, rfl, rfl, trivial⟩ ?_)
  refine gk_seq ?_
  refine gk_region ?_
  refine gk_y rfl rfl (y_move rfl) ?_
  refine gk_y rfl rfl (y_neq rfl rfl) ?_
  refine gk_nil (gk_sub (T' := [(1,_), (4,_), (5,_), (6,_), (10,_)]) ⟨rfl, rfl, rfl, rfl, rfl, trivial⟩ ?_)
  refine gk_cond rfl (fun hc10 => ?_) (fun hc10 => ?_)
  · have hk : ¬ checkI s = 0 := by simpa using hc10
    refine gk_newNil 32 encPt 2 ?_
    refine gk_seq ?_
    refine gk_region ?_
    refine gk_y rfl rfl (y_move rfl) ?_
    refine gk_y rfl rfl (y_move rfl) ?_
    refine gk_y rfl rfl (y_assign rfl) ?_
    refine gk_y rfl rfl (y_assign rfl) ?_
    refine gk_nil (gk_sub (T' := [(1,_), (4,_), (5,_)]) ⟨rfl, rfl, rfl, trivial⟩ ?_)
    refine gk_ret ?_
    refine gk_gives (none, 0) 0 (rv_two rfl (r1_tmp rfl) (r1_tmp rfl)) ?_ (by simp only [askL, if_neg hk]; rfl)
    simp only [askL, if_neg hk]; rfl
  · have hk : checkI s = 0 := by simpa using hc10
    refine gk_skip ?_
    refine gk_seq ?_
    refine gk_region ?_
    refine gk_y rfl rfl (y_move rfl) ?_
    refine gk_yx rfl rfl (yx_callV (fs := gfs) (cap := gcap) hen rfl rfl (fun w hw => hg hk w (hM _ hw.base.ext0))) fun p14 => ?_
    refine gk_y rfl rfl (y_assign rfl) ?_
    refine gk_y rfl rfl (y_assign rfl) ?_
    refine gk_nil (gk_sub (T' := [(4,_), (5,_)]) ⟨rfl, rfl, trivial⟩ ?_)
    refine gk_ret ?_
    refine gk_gives p14 0 (rv_two rfl (r1_tmp rfl) (r1_tmp rfl)) ?_ (by simp only [askL, if_pos hk]; rfl)
    rw [hk]; simp only [askL, if_pos hk]
set_option maxRecDepth 100000 in
set_option maxHeartbeats 1000000 in
theorem Border_c (a : Option Addr) (cap : Nat) (s : Stn) (w : World) (hl : Has w (Pts a s.shape)) (hs : Small s.shape.length) :
    Calls Tryd.prog 23 #[.agg #[.string s.name, .slice a s.shape.length cap, .int .i64 s.depth, .int .i64 s.density, .int .i64 s.grain.x, .int .i64 s.grain.z]] w (Gives (fun z : Option Addr × Nat => .tuple #[.slice z.1 (askL s (borderL s.shape)).length z.2, .int .i64 (checkI s)]) (fun z => Row z.1 2 z.2 32 encPt (askL s (borderL s.shape))) w) := by
  refine calls_of_gk (vs := [_]) Tryd.func23 rfl rfl (Nat.le_of_ble_eq_true rfl) ?_
  refine gk_seq ?_
  refine gk_region ?_
  refine gk_yx rfl rfl (yx_box (vs := [_, _, _, _, _, _]) rfl rfl) fun b1 => ?_
  refine gk_y rfl rfl (y_assign rfl) ?_
  refine gk_y rfl rfl (y_assign rfl) ?_
  refine gk_nil (gk_sub (T' := [(1,_), (2,_), (3,_)]) ⟨rfl, rfl, rfl, trivial⟩ ?_)
  refine gk_seq ?_
  refine gk_region ?_
  refine gk_y rfl rfl (y_loadBA 0 tf34 rfl rfl (vs := [_, _, _, _, _, _]) rfl rfl) ?_
  refine gk_y rfl rfl (y_makeFunc («as» := []) (bs := [_]) rfl rfl) ?_
  refine gk_yx rfl rfl (yx_call en63 rfl (fun w hw => askL_c _ _ s 64 [] [.pointer (some ⟨b1, 0, none⟩)] (borderL s.shape) w (Rd.has (Has.rd hl) hw) (by assumption) (fun w' => Has w' (Box b1 [.string s.name, .slice a s.shape.length cap, .int .i64 s.depth, .int .i64 s.density, .int .i64 s.grain.x, .int .i64 s.grain.z] 34) ∧ Has w' (Pts a s.shape)) (fun w' hx => ⟨Has.ext (hw.has (p := 0) rfl) hx, Has.ext (Rd.has (Has.rd hl) hw) hx⟩) en64 (fun hv w' hm => Border1_c _ _ s _ w' hm.1 hm.2 hv))) fun p6 => ?_
  refine gk_y rfl rfl (y_extract rfl rfl) ?_
  refine gk_y rfl rfl (y_extract rfl rfl) ?_
  refine gk_y rfl rfl (y_assign rfl) ?_
  refine gk_y rfl rfl (y_assign rfl) ?_
  refine gk_nil (gk_sub (T' := [(2,_), (3,_)]) ⟨rfl, rfl, trivial⟩ ?_)
  refine gk_ret ?_
  refine gk_gives p6 0 (rv_two rfl (r1_tmp rfl) (r1_tmp rfl)) ?_ rfl
  rfl
end Go.Proofs.YtahahmelnaphjaaDoor

namespace Go.Stn
open Go Go.K Go.RowKit
theorem W_in {n : Int} (h1 : -9223372036854775808 ≤ n) (h2 : n ≤ 9223372036854775807) : W n = n := wrap64_in h1 h2
def inR (b : Int) (p : Pt) : Prop := -b ≤ p.x ∧ p.x ≤ b ∧ -b ≤ p.z ∧ p.z ≤ b
theorem mul_bd {a b m n : Int} (h1 : -m ≤ a) (h2 : a ≤ m) (h3 : -n ≤ b) (h4 : b ≤ n) : -(m * n) ≤ a * b ∧ a * b ≤ m * n := by
  have hm : 0 ≤ m := by omega
  have hn : 0 ≤ n := by omega
  have h : a.natAbs * b.natAbs ≤ m.natAbs * n.natAbs := Nat.mul_le_mul (by omega) (by omega)
  have e1 : ((a * b).natAbs : Int) ≤ m * n := by
    rw [Int.natAbs_mul]
    have : ((m.natAbs * n.natAbs : Nat) : Int) = m * n := by rw [Int.natCast_mul, Int.natAbs_of_nonneg hm, Int.natAbs_of_nonneg hn]
    omega
  omega
def subZ (p q : Pt) : Pt := ⟨p.x - q.x, p.z - q.z⟩
def crossZ (p q : Pt) : Int := p.x * q.z - p.z * q.x
def dotZ (p q : Pt) : Int := p.x * q.x + p.z * q.z
def sideZ (p q r : Pt) : Int := (q.x - p.x) * (r.z - p.z) - (q.z - p.z) * (r.x - p.x)
theorem subW_eq {p q : Pt} {b : Int} (hb : b ≤ 1000000000) (hp : inR b p) (hq : inR b q) : subW p q = subZ p q := by
  unfold inR at hp hq
  unfold subW subZ
  rw [W_in (by omega) (by omega), W_in (by omega) (by omega)]
theorem subZ_in {p q : Pt} {b : Int} (hp : inR b p) (hq : inR b q) : inR (b + b) (subZ p q) := by
  unfold inR subZ at *
  dsimp only
  omega
theorem crossW_eq {p q : Pt} {b c : Int} (hb : b ≤ 1000000000) (hc : c ≤ 1000000000) (hp : inR b p) (hq : inR c q) : crossW p q = crossZ p q := by
  unfold inR at hp hq
  obtain ⟨a1, a2⟩ := mul_bd hp.1 hp.2.1 hq.2.2.1 hq.2.2.2
  obtain ⟨a3, a4⟩ := mul_bd hp.2.2.1 hp.2.2.2 hq.1 hq.2.1
  have hm : b * c ≤ 1000000000 * 1000000000 := Int.mul_le_mul hb hc (by omega) (by omega)
  unfold crossW crossZ
  rw [W_in (n := p.x * q.z) (by omega) (by omega), W_in (n := p.z * q.x) (by omega) (by omega), W_in (by omega) (by omega)]
theorem dotW_eq {p q : Pt} {b c : Int} (hb : b ≤ 1000000000) (hc : c ≤ 1000000000) (hp : inR b p) (hq : inR c q) : dotW p q = dotZ p q := by
  unfold inR at hp hq
  obtain ⟨a1, a2⟩ := mul_bd hp.1 hp.2.1 hq.1 hq.2.1
  obtain ⟨a3, a4⟩ := mul_bd hp.2.2.1 hp.2.2.2 hq.2.2.1 hq.2.2.2
  have hm : b * c ≤ 1000000000 * 1000000000 := Int.mul_le_mul hb hc (by omega) (by omega)
  unfold dotW dotZ
  rw [W_in (n := p.x * q.x) (by omega) (by omega), W_in (n := p.z * q.z) (by omega) (by omega), W_in (by omega) (by omega)]
theorem turn_ring (p q r : Pt) : crossZ (subZ q p) (subZ r q) = sideZ p q r := by
  unfold crossZ subZ sideZ
  dsimp only
  grind
theorem turnW_eq {p q r : Pt} {b : Int} (hb : b ≤ 100000000) (hp : inR b p) (hq : inR b q) (hr : inR b r) : turnW p q r = sideZ p q r := by
  unfold turnW
  rw [subW_eq (by omega) hq hp, subW_eq (by omega) hr hq, crossW_eq (b := b + b) (c := b + b) (by omega) (by omega) (subZ_in hq hp) (subZ_in hr hq), turn_ring]
theorem sideW_eq {p q r : Pt} {b : Int} (hb : b ≤ 100000000) (hp : inR b p) (hq : inR b q) (hr : inR b r) : sideW p q r = sideZ p q r := by
  unfold inR at hp hq hr
  unfold sideW sideZ
  have e1 : W (q.x - p.x) = q.x - p.x := W_in (by omega) (by omega)
  have e2 : W (r.z - p.z) = r.z - p.z := W_in (by omega) (by omega)
  have e3 : W (q.z - p.z) = q.z - p.z := W_in (by omega) (by omega)
  have e4 : W (r.x - p.x) = r.x - p.x := W_in (by omega) (by omega)
  rw [e1, e2, e3, e4]
  obtain ⟨a1, a2⟩ := mul_bd (a := q.x - p.x) (b := r.z - p.z) (m := b + b) (n := b + b) (by omega) (by omega) (by omega) (by omega)
  obtain ⟨a3, a4⟩ := mul_bd (a := q.z - p.z) (b := r.x - p.x) (m := b + b) (n := b + b) (by omega) (by omega) (by omega) (by omega)
  have hm : (b + b) * (b + b) ≤ 200000000 * 200000000 := Int.mul_le_mul (by omega) (by omega) (by omega) (by omega)
  rw [W_in (n := (q.x - p.x) * (r.z - p.z)) (by omega) (by omega), W_in (n := (q.z - p.z) * (r.x - p.x)) (by omega) (by omega), W_in (by omega) (by omega)]
theorem side_cyc (p q r : Pt) : sideZ p q r = sideZ q r p := by
  unfold sideZ
  grind
theorem far_in {p : Pt} (h : farB p = false) : 0 ≤ p.x ∧ p.x ≤ 2000 ∧ 0 ≤ p.z ∧ p.z ≤ 2000 := by
  unfold farB at h
  simp at h
  omega
theorem near {l : List Pt} (h : l.any farB = false) {p : Pt} (hp : p ∈ l) : farB p = false := by
  cases hf : farB p with
  | false => rfl
  | true => rw [List.any_eq_true.2 ⟨p, hp, hf⟩] at h; cases h
/-- corner number i, counted round and round -/
def cor (l : List Pt) (i : Nat) : Pt := l.getD (i % l.length) default
theorem cor_mem {l : List Pt} (h : 0 < l.length) (i : Nat) : cor l i ∈ l := by
  have : i % l.length < l.length := Nat.mod_lt _ h
  unfold cor
  simp [this]
theorem atL_cor {l : List Pt} {i : Int} {n : Nat} (h : i + (l.length : Int) = (n : Int)) : atL l i = cor l n := by
  unfold atL cor
  rw [h]
  rfl
theorem nextL_cor {l : List Pt} (i : Nat) : nextL l (i : Int) = cor l (i + 1) := by
  unfold nextL cor
  rfl
theorem ptAt_cor {l : List Pt} {i : Nat} (h : i < l.length) : ptAt l (i : Int) = cor l i := by
  unfold ptAt cor
  rw [Nat.mod_eq_of_lt h]
  rfl
theorem cor_add {l : List Pt} (i : Nat) : cor l (i + l.length) = cor l i := by
  unfold cor
  rw [Nat.add_mod_right]
/-- all other corners lie to the left of each edge -/
def Cvx (l : List Pt) : Prop := ∀ i k, i < l.length → 2 ≤ k → k < l.length → 0 < sideZ (cor l i) (cor l (i + 1)) (cor l (i + k))
def Lo (p q : Pt) : Prop := p.z < q.z ∨ (p.z = q.z ∧ p.x < q.x)
instance (p q : Pt) : Decidable (Lo p q) := by unfold Lo; exact inferInstance
theorem lower_lt {p q : Pt} : lowerW p q < 0 ↔ Lo p q := by
  unfold lowerW cmpI Lo
  simp only [orI]
  repeat' split
  all_goals omega
theorem Lo.trans {p q r : Pt} (h : Lo p q) (k : Lo q r) : Lo p r := by
  unfold Lo at *; omega
theorem Lo.irrefl {p : Pt} : ¬ Lo p p := by
  unfold Lo; omega
theorem Lo.total {p q : Pt} (h : ¬ Lo p q) (k : ¬ Lo q p) : p = q := by
  cases p; cases q
  unfold Lo at *
  simp only [Pt.mk.injEq]
  dsimp only at *
  omega
theorem Lo.of_not {p q r : Pt} (h : Lo p q) (k : ¬ Lo r q) : Lo p r := by
  unfold Lo at *; omega
theorem rfirst_test {p q : Pt} : (decide (p.z < q.z) || (decide (p.z = q.z) && decide (p.x < q.x))) = true ↔ Lo p q := by
  unfold Lo; simp
/-- the index of the first one of the lowest -/
theorem rfirstN_spec (l : List Pt) : ∀ n, n ≤ l.length → 0 < n → ∃ m : Nat, rfirstN l n = (m : Int) ∧ m < n ∧ (∀ j, j < n → ¬ Lo (l.getD j default) (l.getD m default)) ∧ ∀ j, j < m → Lo (l.getD m default) (l.getD j default) := by
  intro n
  induction n with
  | zero => intro _ h; omega
  | succ n ih =>
    intro hn _
    rw [rfirstN]
    by_cases h0 : n = 0
    · subst h0
      refine ⟨0, ?_, by omega, fun j hj => ?_, fun j hj => by omega⟩
      · simp [rfirstN]
      · have : j = 0 := by omega
        subst this; exact Lo.irrefl
    · obtain ⟨m, h1, h2, h3, h4⟩ := ih (by omega) (by omega)
      rw [h1]
      by_cases hlo : Lo (l.getD n default) (l.getD m default)
      · rw [if_pos (rfirst_test.2 (by simpa [ptAt] using hlo))]
        refine ⟨n, rfl, by omega, fun j hj => ?_, fun j hj => ?_⟩
        · by_cases hjn : j = n
          · subst hjn; exact Lo.irrefl
          · exact fun h => h3 j (by omega) (h.trans hlo)
        · exact hlo.of_not (h3 j hj)
      · rw [if_neg (fun h => hlo (by simpa [ptAt] using rfirst_test.1 h))]
        refine ⟨m, rfl, by omega, fun j hj => ?_, h4⟩
        by_cases hjn : j = n
        · subst hjn; exact hlo
        · exact h3 j (by omega)
theorem rfirst_spec {l : List Pt} (h : 0 < l.length) : ∃ m : Nat, rfirst l = (m : Int) ∧ m < l.length ∧ (∀ j, j < l.length → ¬ Lo (l.getD j default) (l.getD m default)) ∧ ∀ j, j < m → Lo (l.getD m default) (l.getD j default) :=
  rfirstN_spec l l.length (Nat.le_refl _) h
theorem minF_spec {l : List Pt} (h : 0 < l.length) : minF lowerW l ∈ l ∧ ∀ p ∈ l, ¬ Lo p (minF lowerW l) := by
  have key : ∀ (r : List Pt) (m : Pt), let x := r.foldl (fun m p => if lowerW p m < 0 then p else m) m; (x = m ∨ x ∈ r) ∧ ¬ Lo m x ∧ ∀ p ∈ r, ¬ Lo p x := by
    intro r
    induction r with
    | nil => intro m; exact ⟨.inl rfl, Lo.irrefl, fun p hp => by cases hp⟩
    | cons q r ih =>
      intro m
      simp only [List.foldl_cons]
      obtain ⟨h1, h2, h3⟩ := ih (if lowerW q m < 0 then q else m)
      by_cases hq : lowerW q m < 0
      · simp only [if_pos hq] at h1 h2 h3 ⊢
        have hlo := lower_lt.1 hq
        refine ⟨?_, fun hm => h2 ?_, fun p hp => ?_⟩
        · rcases h1 with h1 | h1
          · exact .inr (by rw [h1]; exact List.mem_cons_self ..)
          · exact .inr (List.mem_cons_of_mem _ h1)
        · exact hlo.trans hm
        · rcases List.mem_cons.1 hp with rfl | hp
          · exact h2
          · exact h3 p hp
      · simp only [if_neg hq] at h1 h2 h3 ⊢
        have hlo : ¬ Lo q m := fun h => hq (lower_lt.2 h)
        refine ⟨?_, h2, fun p hp => ?_⟩
        · rcases h1 with h1 | h1
          · exact .inl h1
          · exact .inr (List.mem_cons_of_mem _ h1)
        · rcases List.mem_cons.1 hp with rfl | hp
          · exact fun hpx => (by
              by_cases hmx : Lo p m
              · exact hlo hmx
              · exact h2 ((Classical.byContradiction fun hn => by
                  have := Lo.of_not hpx hn
                  exact hmx this) ))
          · exact h3 p hp
  cases l with
  | nil => simp at h
  | cons q r =>
    have := key r q
    unfold minF
    simp only [List.drop_succ_cons, List.drop_zero, List.getD_cons_zero]
    obtain ⟨h1, h2, h3⟩ := this
    refine ⟨?_, fun p hp => ?_⟩
    · rcases h1 with h1 | h1
      · rw [h1]; exact List.mem_cons_self ..
      · exact List.mem_cons_of_mem _ h1
    · rcases List.mem_cons.1 hp with rfl | hp
      · exact h2
      · exact h3 p hp
theorem getD_mem {l : List Pt} {i : Nat} (h : i < l.length) : l.getD i default ∈ l := by simp [h]
theorem minF_first {l : List Pt} (h : 0 < l.length) : ∃ m : Nat, rfirst l = (m : Int) ∧ m < l.length ∧ minF lowerW l = l.getD m default ∧ ∀ j, j < m → l.getD j default ≠ l.getD m default := by
  obtain ⟨m, h1, h2, h3, h4⟩ := rfirst_spec h
  obtain ⟨g1, g2⟩ := minF_spec h
  refine ⟨m, h1, h2, Lo.total (fun hl => ?_) (g2 _ (getD_mem h2)), fun j hj he => Lo.irrefl (he ▸ h4 j hj)⟩
  obtain ⟨j, hj, he⟩ := List.getElem_of_mem g1
  refine h3 j hj ?_
  rw [show l.getD j default = minF lowerW l from by simp [hj, he]]
  exact hl
end Go.Stn

namespace Go.Stn
open Go Go.K Go.RowKit
theorem first_in {l : List Pt} (h : 0 < l.length) : 0 ≤ findI (eqB (minF lowerW l)) l ∧ findI (eqB (minF lowerW l)) l < (l.length : Int) := by
  have hm : l.any (eqB (minF lowerW l)) = true := List.any_eq_true.2 ⟨_, (minF_spec h).1, eqB_iff.2 rfl⟩
  have hlt : l.findIdx (eqB (minF lowerW l)) < l.length := List.findIdx_lt_length_of_exists (by simpa using hm)
  unfold findI
  rw [if_pos hm]
  omega
abbrev firstI (l : List Pt) : Int := findI (eqB (minF lowerW l)) l
def rotL (l : List Pt) (f : Int) : List Pt := l.drop f.toNat ++ l.take f.toNat
def settledW (l : List Pt) : List Pt := (rotL l (firstI l)).map fun p => subW p (leastL l)
theorem rotL_len {l : List Pt} {f : Int} (h1 : f ≤ (l.length : Int)) : (rotL l f).length = l.length := by
  unfold rotL
  simp
  omega
theorem settled_len {l : List Pt} (h : 0 < l.length) : (settledW l).length = l.length := by
  unfold settledW
  rw [List.length_map, rotL_len (Int.le_of_lt (first_in h).2)]
theorem map_step {o m : List Pt} {g : Pt → Pt} {i : Int} (h0 : 0 ≤ i) (h1 : i < (o.length : Int)) (hm : m = (o.take i.toNat).map g ++ o.drop i.toNat) : m.set i.toNat (g (m.getD i.toNat default)) = (o.take (i + 1).toNat).map g ++ o.drop (i + 1).toNat := by
  have hlt : i.toNat < o.length := by omega
  have hl : ((o.take i.toNat).map g).length = i.toNat := by simp; omega
  have hget : m.getD i.toNat default = o[i.toNat] := by
    rw [hm, List.getD_eq_getElem?_getD, List.getElem?_append_right (by omega), hl, Nat.sub_self, List.getElem?_drop]
    simp [hlt]
  rw [hget, hm, List.set_append_right _ _ (by omega), hl, Nat.sub_self, show (i + 1).toNat = i.toNat + 1 from by omega, List.drop_eq_getElem_cons hlt, List.set_cons_zero, List.take_add_one, show o[i.toNat]?.toList = [o[i.toNat]] from by simp [hlt], List.map_append]
  simp only [List.map_cons, List.map_nil, List.append_assoc, List.cons_append, List.nil_append]
theorem setp_end {o m : List Pt} {g : Pt → Pt} {i : Int} (hm : m = (o.take i.toNat).map g ++ o.drop i.toNat) (hi : (o.length : Int) ≤ i) : m = o.map g := by
  rw [hm, take_all hi, List.drop_of_length_le (by omega), List.append_nil]
/-- is a point on an edge, its end left out? -/
def onE (x : Pt) (e : Pt × Pt) : Bool := ((decide (crossW (subW e.2 e.1) (subW x e.1) = 0) && decide (0 ≤ dotW (subW x e.1) (subW e.2 e.1))) && decide (dotW (subW x e.1) (subW x e.1) < dotW (subW e.2 e.1) (subW e.2 e.1)))
def edgeI (l : List Pt) (x : Pt) : Int := if farB x = true then -1 else findI (onE x) (edgesL l)
theorem findI_at {α : Type} {p : α → Bool} {l : List α} {n : Nat} {e : α} (he : l[n]? = some e) (ha : ∀ j x, j < n → l[j]? = some x → p x = false) (hp : p e = true) : findI p l = (n : Int) := by
  have hlt : n < l.length := (List.getElem?_eq_some_iff.1 he).1
  have hle : l[n] = e := (List.getElem?_eq_some_iff.1 he).2
  have hany : l.any p = true := List.any_eq_true.2 ⟨l[n], List.getElem_mem hlt, by rw [hle]; exact hp⟩
  have hidx : l.findIdx p = n := (List.findIdx_eq hlt).2 ⟨by rw [hle]; exact hp, fun j hj => ha j _ hj (by simp)⟩
  rw [findI, if_pos hany, hidx]
theorem findI_no {α : Type} {p : α → Bool} {l : List α} (ha : ∀ j x, j < l.length → l[j]? = some x → p x = false) : findI p l = -1 := by
  have : ¬ l.any p = true := fun h => by
    obtain ⟨x, hx, hp⟩ := List.any_eq_true.1 h
    obtain ⟨j, hj, rfl⟩ := List.getElem_of_mem hx
    rw [ha j _ hj (by simp [hj])] at hp
    cases hp
  rw [findI, if_neg this]
theorem none_succ {α : Type} {p : α → Bool} {l : List α} {n : Nat} {e : α} (he : l[n]? = some e) (ha : ∀ j x, j < n → l[j]? = some x → p x = false) (hp : p e = false) : ∀ j x, j < n + 1 → l[j]? = some x → p x = false := fun j x hj hx => by
  rcases Nat.lt_or_ge j n with h | h
  · exact ha j x h hx
  · have : j = n := by omega
    subst this
    rw [he] at hx
    cases hx
    exact hp
theorem edge_lt {l : List Pt} {x : Pt} : edgeI l x < (l.length : Int) ∧ -1 ≤ edgeI l x := by
  unfold edgeI
  split
  · omega
  · unfold findI
    split
    · rename_i h
      have : (edgesL l).findIdx (onE x) < (edgesL l).length := List.findIdx_lt_length_of_exists (by simpa using h)
      rw [edges_len'] at this
      omega
    · omega
theorem edge_n {l : List Pt} {n : Nat} {e : Pt × Pt} (he : (edgesL l)[n]? = some e) : n < l.length := by
  have := (List.getElem?_eq_some_iff.1 he).1
  rwa [edges_len'] at this
def both0 (p q : Pt) (e : Pt × Pt) : Bool := decide (turnW e.1 e.2 p = 0) && decide (turnW e.1 e.2 q = 0)
def apartB (l : List Pt) (p q : Pt) : Bool := !(edgesL l).any (both0 p q)
theorem apart_no {l : List Pt} {p q : Pt} {n : Nat} {e : Pt × Pt} (he : (edgesL l)[n]? = some e) (h : both0 p q e = true) : apartB l p q = false := by
  rw [apartB, List.any_eq_true.2 ⟨e, List.mem_of_getElem? he, h⟩]; rfl
theorem apart_yes {l : List Pt} {p q : Pt} (h : ∀ j x, j < (edgesL l).length → (edgesL l)[j]? = some x → both0 p q x = false) : apartB l p q = true := by
  have : (edgesL l).any (both0 p q) = false := by
    cases hb : (edgesL l).any (both0 p q) with
    | false => rfl
    | true =>
      obtain ⟨x, hx, hp⟩ := List.any_eq_true.1 hb
      obtain ⟨j, hj, rfl⟩ := List.getElem_of_mem hx
      rw [h j _ hj (by simp [hj])] at hp
      cases hp
  rw [apartB, this]; rfl
/-- the corners from number i on, up to k of them, till q -/
def rightN (l : List Pt) (q : Pt) : Nat → Int → List Pt
  | 0, _ => [q]
  | k + 1, i => if eqB (atL l i) q = true then [q] else atL l i :: rightN l q k (i + 1)
def rightT (l : List Pt) (p q : Pt) : Nat := if edgeI l p ≤ edgeI l q then (edgeI l q - edgeI l p).toNat else (edgeI l q - edgeI l p + (l.length : Int)).toNat
def rightL (l : List Pt) (p q : Pt) : List Pt := p :: rightN l q (rightT l p q) (edgeI l p + 1)
theorem tmod_wrap {x n : Int} (h0 : 0 ≤ x) (h1 : x < n + n) : (x + n).tmod n = if x < n then x else x - n := by
  obtain ⟨a, rfl⟩ := Int.eq_ofNat_of_zero_le h0
  obtain ⟨m, rfl⟩ := Int.eq_ofNat_of_zero_le (show 0 ≤ n by omega)
  have : ((a : Int) + (m : Int)).tmod (m : Int) = (((a + m) % m : Nat) : Int) := rfl
  rw [this, Nat.add_mod_right]
  by_cases h : a < m
  · rw [Nat.mod_eq_of_lt h, if_pos (by omega)]
  · rw [Nat.mod_eq_sub_mod (by omega), Nat.mod_eq_of_lt (by omega), if_neg (by omega)]
    omega
theorem rightN_len (l : List Pt) (q : Pt) : ∀ (k : Nat) (i : Int), 1 ≤ (rightN l q k i).length ∧ (rightN l q k i).length ≤ k + 1
  | 0, i => by simp [rightN]
  | k + 1, i => by
    have := rightN_len l q k (i + 1)
    unfold rightN
    split
    · simp
    · simp; omega
theorem rightT_le {l : List Pt} {p q : Pt} (h1 : 0 ≤ edgeI l p) (h2 : 0 ≤ edgeI l q) : rightT l p q < l.length := by
  have := edge_lt (l := l) (x := p)
  have := edge_lt (l := l) (x := q)
  unfold rightT
  split <;> omega
theorem rightL_len {l : List Pt} {p q : Pt} (h1 : 0 ≤ edgeI l p) (h2 : 0 ≤ edgeI l q) : 2 ≤ (rightL l p q).length ∧ (rightL l p q).length ≤ l.length + 1 := by
  have := rightT_le h1 h2
  have := rightN_len l q (rightT l p q) (edgeI l p + 1)
  unfold rightL
  simp
  omega
/-- round number m is the last one -/
theorem right_last {l : List Pt} {p q : Pt} (h1 : 0 ≤ edgeI l p) (h2 : 0 ≤ edgeI l q) {m : Nat} (hm : m ≤ rightT l p q) : edgeI l q = ((edgeI l p + 1 + (m : Int)) - 1 + (l.length : Int)).tmod (l.length : Int) ↔ m = rightT l p q := by
  have a1 := edge_lt (l := l) (x := p)
  have a2 := edge_lt (l := l) (x := q)
  have a3 := rightT_le h1 h2
  rw [show edgeI l p + 1 + (m : Int) - 1 = edgeI l p + (m : Int) from by omega, tmod_wrap (by omega) (by omega)]
  unfold rightT at *
  split at hm <;> split <;> omega
theorem right_stop {l : List Pt} {p q : Pt} {m : Nat} {i : Int} {o : List Pt} (h1 : 0 ≤ edgeI l p) (h2 : 0 ≤ edgeI l q) (hm : m ≤ rightT l p q) (hi : i = edgeI l p + 1 + (m : Int)) (hr : rightL l p q = o ++ rightN l q (rightT l p q - m) i)
    (ht : (eqB (atL l i) q || decide (edgeI l q = (i - 1 + (l.length : Int)).tmod (l.length : Int))) = true) : o ++ [q] = rightL l p q := by
  rw [hr]
  cases hk : rightT l p q - m with
  | zero => rfl
  | succ k =>
    unfold rightN
    cases he : eqB (atL l i) q with
    | true => rfl
    | false =>
      rw [he, Bool.false_or, decide_eq_true_eq, hi, right_last h1 h2 hm] at ht
      omega
theorem right_go {l : List Pt} {p q : Pt} {m : Nat} {i : Int} {o : List Pt} (h1 : 0 ≤ edgeI l p) (h2 : 0 ≤ edgeI l q) (hm : m ≤ rightT l p q) (hi : i = edgeI l p + 1 + (m : Int)) (hr : rightL l p q = o ++ rightN l q (rightT l p q - m) i)
    (ht : (eqB (atL l i) q || decide (edgeI l q = (i - 1 + (l.length : Int)).tmod (l.length : Int))) = false) : m + 1 ≤ rightT l p q ∧ rightL l p q = (o ++ [atL l i]) ++ rightN l q (rightT l p q - (m + 1)) (i + 1) := by
  rw [Bool.or_eq_false_iff, decide_eq_false_iff_not, hi, right_last h1 h2 hm] at ht
  obtain ⟨k, hk⟩ : ∃ k, rightT l p q - m = k + 1 := ⟨rightT l p q - m - 1, by omega⟩
  refine ⟨by omega, ?_⟩
  rw [hr, hk, show rightT l p q - (m + 1) = k from by omega]
  unfold rightN
  rw [if_neg (by rw [hi, ht.1]; exact Bool.false_ne_true)]
  cases k <;> simp [rightN]
/-- a piece of a stone -/
def pieceW (s : Stn) (c : ByteArray) (l : List Pt) : Stn := ⟨s.name ++ c, settledW l, s.depth, s.density, s.grain⟩
def zeroS : Stn := ⟨⟨#[]⟩, [], 0, 0, ⟨0, 0⟩⟩
def splitE (s : Stn) (p q : Pt) : Int :=
  if checkI s ≠ 0 then checkI s else if (decide (edgeI s.shape p < 0) || decide (edgeI s.shape q < 0)) = true then 8 else if apartB s.shape p q = false then 2 else
  if (decide ((s.name.size : Int) = 16) || decide (12 < max ((rightL s.shape q p).length : Int) ((rightL s.shape p q).length : Int))) = true then 5 else 0
def splitA (s : Stn) (p q : Pt) : Stn := if splitE s p q = 0 then pieceW s ⟨#[97]⟩ (rightL s.shape q p) else zeroS
def splitB (s : Stn) (p q : Pt) : Stn := if splitE s p q = 0 then pieceW s ⟨#[98]⟩ (rightL s.shape p q) else zeroS
theorem split_bad {s : Stn} {p q : Pt} {e : Int} (hE : splitE s p q = e) (he : e ≠ 0) : splitA s p q = zeroS ∧ splitB s p q = zeroS := by
  unfold splitA splitB
  rw [hE, if_neg he, if_neg he]
  exact ⟨rfl, rfl⟩
theorem split_good {s : Stn} {p q : Pt} (hE : splitE s p q = 0) : splitA s p q = pieceW s ⟨#[97]⟩ (rightL s.shape q p) ∧ splitB s p q = pieceW s ⟨#[98]⟩ (rightL s.shape p q) := by
  unfold splitA splitB
  rw [hE, if_pos rfl, if_pos rfl]
  exact ⟨rfl, rfl⟩
theorem check_named {s : Stn} (h : checkI s = 0) : s.name.size ≤ 16 := by
  have := check_good h
  unfold badB at this
  simp only [Bool.or_eq_false_iff, Bool.not_eq_false'] at this
  have h2 := this.1.1.1.1
  unfold namedB at h2
  simp only [Bool.and_eq_true, decide_eq_true_eq] at h2
  omega
end Go.Stn

namespace Go.Proofs.YtahahmelnaphjaaDoor
open Go.K Go.Stn Go.RowKit
theorem se156 : SE Tryd.prog 156 31 1 := ⟨Tryd.underlying156, by kernel_rfl⟩
theorem en119 : En Tryd.prog 119 := en_of Tryd.func119 (by kernel_rfl) (by kernel_rfl)
theorem en120 : En Tryd.prog 120 := en_of Tryd.func120 (by kernel_rfl) (by kernel_rfl)
theorem en134 : En Tryd.prog 134 := en_of Tryd.func134 (by kernel_rfl) (by kernel_rfl)
theorem bs156_2 (x0a : Option Addr) (x0l : List Pt) (x0c : Nat) (x1a : Option Addr) (x1l : List Pt) (x1c : Nat) (w : World) : (Instr.buildSlice 156 2 #[(0, .slice x0a x0l.length x0c), (1, .slice x1a x1l.length x1c)]).run Tryd.prog w = .ok (.slice (some ⟨w.heap.size, 0, none⟩) 2 2) (w.alloc (.cells (([⟨x0a, x0c, x0l⟩, ⟨x1a, x1c, x1l⟩] : List (Sli)).flatMap encSli).toArray 31)) := by kernel_rfl
set_option maxRecDepth 100000 in
set_option maxHeartbeats 1000000 in
theorem index_c (a : Option Addr) (cap : Nat) (l : List Pt) (v : Pt) (w : World) (hl : Has w (Pts a l)) (hs : Small l.length) :
    Calls Tryd.prog 119 #[.slice a l.length cap, .agg #[.int .i64 v.x, .int .i64 v.z]] w (Pure (.int .i64 (findI (eqB v) l)) w) := by
  refine calls_of_gk (vs := [_, _]) Tryd.func119 rfl rfl (Nat.le_of_ble_eq_true rfl) ?_
  refine gk_seq ?_
  refine gk_region ?_
  refine gk_yx rfl rfl (yx_box (vs := [_, _]) rfl rfl) fun b3 => ?_
  refine gk_y rfl rfl (y_assign rfl) ?_
  refine gk_nil (gk_sub (T' := [(0,_), (3,_), (4,_)]) ⟨rfl, rfl, rfl, trivial⟩ ?_)
  refine gk_seq ?_
  refine gk_seq ?_
  refine gk_region ?_
  refine gk_y rfl rfl (y_move rfl) ?_
  refine gk_y rfl rfl (y_lenS (Tryd.underlying31) rfl) ?_
  refine gk_y rfl rfl (y_move rfl) ?_
  refine gk_nil (gk_sub (T' := [(0,_), (3,_), (4,_), (7,_), (8,_)]) ⟨rfl, rfl, rfl, rfl, rfl, trivial⟩ ?_)
  refine gk_block ?_
  refine gk_loop (X := Int) (fun (i : Int) => [(0, .slice a l.length cap), (3, .pointer (some ⟨b3, 0, none⟩)), (4, .int .i64 0), (7, .int .i64 (l.length : Int)), (8, .int .i64 i)]) (fun (i : Int) => [Box b3 [.int .i64 v.x, .int .i64 v.z] 32]) (fun (i : Int) => (0 ≤ i ∧ i ≤ l.length ∧ ∀ j : Nat, (j : Int) < i → eqB v (l.getD j default) = false)) (fun (i : Int) => (l.length - i).toNat) 0 ⟨rfl, rfl, rfl, rfl, rfl, trivial⟩ rfl ?_ ?_
  · exact ⟨by omega, by omega, fun j hj => by omega⟩
  · rintro i hI
    obtain ⟨g0, g1, g2⟩ := hI
    refine gk_seq ?_
    refine gk_region ?_
    refine gk_y rfl rfl (y_lss rfl rfl) ?_
    refine gk_nil (gk_sub (T' := [(0,_), (3,_), (4,_), (7,_), (8,_), (9,_)]) ⟨rfl, rfl, rfl, rfl, rfl, rfl, trivial⟩ ?_)
    refine gk_seq ?_
    refine gk_cond rfl (fun hc9 => ?_) (fun hc9 => ?_)
    · simp only [decide_eq_true_eq] at hc9
      refine gk_skip ?_
      refine gk_seq ?_
      refine gk_block ?_
      refine gk_seq ?_
      refine gk_region ?_
      refine gk_y rfl rfl (y_move rfl) ?_
      refine gk_y rfl rfl (y_assign rfl) ?_
      refine gk_nil (gk_sub (T' := [(0,_), (3,_), (4,_), (5,_), (7,_), (8,_)]) ⟨rfl, rfl, rfl, rfl, rfl, rfl, trivial⟩ ?_)
      refine gk_seq ?_
      refine gk_any 6 (fun _ => mixed) (by kernel_rfl) ?_
      refine ph_y (y_loadBA 0 tf32 rfl rfl (vs := [_, _]) rfl rfl) ?_
      refine ph_y (y_move rfl) ?_
      refine ph_y (y_move rfl) ?_
      refine ph_y (y_indexE se31 rfl rfl (fun _ hw => (Rd.has (Has.rd hl) hw)) (by omega) (by omega)) ?_
      refine ph_y (y_loadE (vs := [_, _]) tf32 rfl (fun _ hw => (Rd.has (Has.rd hl) hw)) (by omega) (by omega) rfl) ?_
      refine ph_y (y_eql32 rfl rfl) ?_
      refine gk_nil (gk_sub (T' := [(0,_), (3,_), (4,_), (5,_), (7,_), (8,_), (16,_)]) ⟨rfl, rfl, rfl, rfl, rfl, rfl, rfl, trivial⟩ ?_)
      refine gk_cond rfl (fun hc16 => ?_) (fun hc16 => ?_)
      · skip
        refine gk_seq ?_
        refine gk_region ?_
        refine gk_y rfl rfl (y_move rfl) ?_
        refine gk_y rfl rfl (y_assign rfl) ?_
        refine gk_nil (gk_sub (T' := [(0,_), (3,_), (4,_), (7,_), (8,_)]) ⟨rfl, rfl, rfl, rfl, rfl, trivial⟩ ?_)
        refine gk_ret ?_
        refine gk_pure (rv_one rfl (r1_tmp rfl)) ?_
        exact congrArg _ (findI_hit g0 (by omega) g2 hc16).symm
      · skip
        refine gk_skip ?_
        refine gk_region ?_
        refine gk_y rfl rfl (y_addI rfl rfl (by omega) (by omega)) ?_
        refine gk_y rfl rfl (y_move rfl) ?_
        refine gk_nil (gk_sub (T' := [(0,_), (3,_), (4,_), (7,_), (8,_)]) ⟨rfl, rfl, rfl, rfl, rfl, trivial⟩ ?_)
        exact gk_next _ ⟨rfl, rfl, rfl, rfl, rfl, trivial⟩ rfl ⟨by omega, by omega, fun j hj => if h : (j : Int) < i then g2 j h else (by rw [show j = i.toNat from by omega]; exact hc16)⟩ (by omega)
    · simp only [decide_eq_false_iff_not] at hc9
      refine gk_exit rfl ?_
      refine gk_seq ?_
      refine gk_region ?_
      refine gk_y rfl rfl (y_assign rfl) ?_
      refine gk_nil (gk_sub (T' := [(4,_)]) ⟨rfl, trivial⟩ ?_)
      refine gk_ret ?_
      refine gk_pure (rv_one rfl (r1_tmp rfl)) ?_
      exact congrArg _ (findI_none (fun j hj => g2 j (by omega))).symm
set_option maxRecDepth 100000 in
set_option maxHeartbeats 1000000 in
theorem growNil_c (n : Int) (w : World) (h0 : 0 ≤ n) (h1 : n ≤ 1099511627776) :
    Calls Tryd.prog 134 #[.slice none 0 0, .int .i64 n] w (Gives (fun z : Option Addr × Nat => .slice z.1 0 z.2) (fun z => Row z.1 2 z.2 32 encPt []) w) := by
  refine calls_of_gk (vs := [_, _]) Tryd.func134 rfl rfl (Nat.le_of_ble_eq_true rfl) ?_
  refine gk_seq ?_
  refine gk_region ?_
  refine gk_y rfl rfl (y_assign rfl) ?_
  refine gk_nil (gk_sub (T' := [(0,_), (1,_), (4,_)]) ⟨rfl, rfl, rfl, trivial⟩ ?_)
  refine gk_seq ?_
  refine gk_seq ?_
  refine gk_region ?_
  refine gk_y rfl rfl (y_move rfl) ?_
  refine gk_y rfl rfl (y_lss rfl rfl) ?_
  refine gk_nil (gk_sub (T' := [(0,_), (1,_), (4,_), (6,_)]) ⟨rfl, rfl, rfl, rfl, trivial⟩ ?_)
  refine gk_cond rfl (fun hc6 => ?_) (fun hc6 => ?_)
  · exfalso; simp at hc6; omega
  · simp only [decide_eq_false_iff_not] at hc6
    refine gk_skip ?_
    refine gk_seq ?_
    refine gk_seq ?_
    refine gk_region ?_
    refine gk_y rfl rfl (y_move rfl) ?_
    refine gk_y rfl rfl (y_move rfl) ?_
    refine gk_y rfl rfl (y_capS (Tryd.underlying31) rfl) ?_
    refine gk_y rfl rfl (y_move rfl) ?_
    refine gk_y rfl rfl (y_lenS (Tryd.underlying31) rfl) ?_
    refine gk_y rfl rfl (y_subI rfl rfl (by omega) (by omega)) ?_
    refine gk_y rfl rfl (y_subI rfl rfl (by omega) (by omega)) ?_
    refine gk_y rfl rfl (y_assign rfl) ?_
    refine gk_nil (gk_sub (T' := [(0,_), (1,_), (4,_)]) ⟨rfl, rfl, rfl, trivial⟩ ?_)
    refine gk_seq ?_
    refine gk_region ?_
    refine gk_y rfl rfl (y_move rfl) ?_
    refine gk_y rfl rfl (y_gtr rfl rfl) ?_
    refine gk_nil (gk_sub (T' := [(0,_), (1,_), (4,_), (16,_)]) ⟨rfl, rfl, rfl, rfl, trivial⟩ ?_)
    refine gk_cond rfl (fun hc16 => ?_) (fun hc16 => ?_)
    · simp only [decide_eq_true_eq] at hc16
      refine gk_region ?_
      refine gk_y rfl rfl (y_move rfl) ?_
      refine gk_y rfl rfl (y_move rfl) ?_
      refine gk_y rfl rfl (y_capS (Tryd.underlying31) rfl) ?_
      refine gk_y rfl rfl (y_sliceHi se31 rfl rfl (by decide) (by decide)) ?_
      refine gk_y rfl rfl (y_move rfl) ?_
      refine gk_yx rfl rfl (yx_appendZeros encPt af31 (by decide) (Tryd.underlying3) rfl rfl (by omega) (by omega) (by omega)) fun z22 => ?_
      refine gk_y rfl rfl (y_move rfl) ?_
      refine gk_y rfl rfl (y_lenS (Tryd.underlying31) rfl) ?_
      refine gk_y rfl rfl (y_sliceHi se31 rfl rfl (by omega) (by omega)) ?_
      refine gk_y rfl rfl (y_assign rfl) ?_
      refine gk_nil (gk_sub (T' := [(0,_), (4,_)]) ⟨rfl, rfl, trivial⟩ ?_)
      refine gk_seq ?_
      refine gk_region ?_
      refine gk_y rfl rfl (y_move rfl) ?_
      refine gk_y rfl rfl (y_assign rfl) ?_
      refine gk_nil (gk_sub (T' := [(4,_)]) ⟨rfl, trivial⟩ ?_)
      refine gk_ret ?_
      refine gk_gives (some ⟨z22.1, 0, none⟩, z22.2) 0 (rv_one rfl (r1_tmp rfl)) ?_ rfl
      exact congrArg (fun a => Value.slice a 0 _) subA_zero
    · simp only [decide_eq_false_iff_not] at hc16
      refine gk_newNil 32 encPt 2 ?_
      refine gk_skip ?_
      refine gk_seq ?_
      refine gk_region ?_
      refine gk_y rfl rfl (y_move rfl) ?_
      refine gk_y rfl rfl (y_assign rfl) ?_
      refine gk_nil (gk_sub (T' := [(4,_)]) ⟨rfl, trivial⟩ ?_)
      refine gk_ret ?_
      refine gk_gives (none, 0) 0 (rv_one rfl (r1_tmp rfl)) ?_ rfl
      rfl
set_option maxRecDepth 100000 in
set_option maxHeartbeats 1000000 in
theorem concat_c (a : Option Addr) (cap : Nat) (ls : List Sli) (w : World) (hl : Has w (Elems a 1 encSli ls)) (hin : ∀ i, i < ls.length → Has w (Pts (ls.getD i default).a (ls.getD i default).l)) (hs : Small ls.length) (ht : Small (ls.flatMap Sli.l).length) :
    Calls Tryd.prog 120 #[.slice a ls.length cap] w (Gives (fun z : Option Addr × Nat => .slice z.1 (ls.flatMap Sli.l).length z.2) (fun z => Row z.1 2 z.2 32 encPt (ls.flatMap Sli.l)) w) := by
  refine calls_of_gk (vs := [_]) Tryd.func120 rfl rfl (Nat.le_of_ble_eq_true rfl) ?_
  refine gk_seq ?_
  refine gk_region ?_
  refine gk_y rfl rfl (y_assign rfl) ?_
  refine gk_nil (gk_sub (T' := [(0,_), (2,_)]) ⟨rfl, rfl, trivial⟩ ?_)
  refine gk_seq ?_
  refine gk_region ?_
  refine gk_y rfl rfl (y_assign rfl) ?_
  refine gk_nil (gk_sub (T' := [(0,_), (2,_), (3,_)]) ⟨rfl, rfl, rfl, trivial⟩ ?_)
  refine gk_seq ?_
  refine gk_seq ?_
  refine gk_region ?_
  refine gk_y rfl rfl (y_move rfl) ?_
  refine gk_y rfl rfl (y_lenS (Tryd.underlying156) rfl) ?_
  refine gk_y rfl rfl (y_move rfl) ?_
  refine gk_nil (gk_sub (T' := [(0,_), (2,_), (3,_), (9,_), (10,_), (11,_)]) ⟨rfl, rfl, rfl, rfl, rfl, rfl, trivial⟩ ?_)
  refine gk_block ?_
  refine gk_loop (X := Int × Int) (fun ⟨i, z⟩ => [(0, .slice a ls.length cap), (2, .slice none 0 0), (3, .int .i64 z), (9, .slice a ls.length cap), (10, .int .i64 (ls.length : Int)), (11, .int .i64 i)]) (fun ⟨i, z⟩ => []) (fun ⟨i, z⟩ => (0 ≤ i ∧ i ≤ ls.length ∧ z = (((ls.take i.toNat).flatMap Sli.l).length : Int))) (fun ⟨i, z⟩ => (ls.length - i).toNat) (0, 0) ⟨rfl, rfl, rfl, rfl, rfl, rfl, trivial⟩ rfl ?_ ?_
  · exact ⟨by omega, by omega, rfl⟩
  · rintro ⟨i, z⟩ hI
    obtain ⟨g0, g1, g2⟩ := hI
    refine gk_seq ?_
    refine gk_region ?_
    refine gk_y rfl rfl (y_lss rfl rfl) ?_
    refine gk_nil (gk_sub (T' := [(0,_), (2,_), (3,_), (9,_), (10,_), (11,_), (12,_)]) ⟨rfl, rfl, rfl, rfl, rfl, rfl, rfl, trivial⟩ ?_)
    refine gk_seq ?_
    refine gk_cond rfl (fun hc12 => ?_) (fun hc12 => ?_)
    · have hc12 := of_decide_eq_true hc12
      have hsx := sum_succ (ls := ls) g0 hc12
      have hbx := sum_le ls (i + 1).toNat
      rw [hsx, List.length_append] at hbx
      refine gk_skip ?_
      refine gk_seq ?_
      refine gk_block ?_
      refine gk_seq ?_
      refine gk_region ?_
      refine gk_y rfl rfl (y_indexE se156 rfl rfl (fun _ hw => (Rd.has (Has.rd hl) hw)) (by omega) (by omega)) ?_
      refine gk_y rfl rfl (y_loadE1 tf31 rfl (fun _ hw => (Rd.has (Has.rd hl) hw)) (by omega) (by omega) rfl) ?_
      refine gk_y rfl rfl (y_assign rfl) ?_
      refine gk_nil (gk_sub (T' := [(0,_), (2,_), (3,_), (5,_), (9,_), (10,_), (11,_)]) ⟨rfl, rfl, rfl, rfl, rfl, rfl, rfl, trivial⟩ ?_)
      refine gk_seq ?_
      refine gk_region ?_
      refine gk_y rfl rfl (y_move rfl) ?_
      refine gk_y rfl rfl (y_move rfl) ?_
      refine gk_y rfl rfl (y_lenS (Tryd.underlying31) rfl) ?_
      refine gk_y rfl rfl (y_addI rfl rfl (by omega) (by omega)) ?_
      refine gk_y rfl rfl (y_assign rfl) ?_
      refine gk_nil (gk_sub (T' := [(0,_), (2,_), (3,_), (9,_), (10,_), (11,_)]) ⟨rfl, rfl, rfl, rfl, rfl, rfl, trivial⟩ ?_)
      refine gk_seq ?_
      refine gk_region ?_
      refine gk_y rfl rfl (y_move rfl) ?_
      refine gk_y rfl rfl (y_lss rfl rfl) ?_
      refine gk_nil (gk_sub (T' := [(0,_), (2,_), (3,_), (9,_), (10,_), (11,_), (20,_)]) ⟨rfl, rfl, rfl, rfl, rfl, rfl, rfl, trivial⟩ ?_)
      refine gk_cond rfl (fun hc20 => ?_) (fun hc20 => ?_)
      · exfalso; simp at hc20; omega
      · simp only [decide_eq_false_iff_not] at hc20
        refine gk_skip ?_
        refine gk_region ?_
        refine gk_y rfl rfl (y_addI rfl rfl (by omega) (by omega)) ?_
        refine gk_y rfl rfl (y_move rfl) ?_
        refine gk_nil (gk_sub (T' := [(0,_), (2,_), (3,_), (9,_), (10,_), (11,_)]) ⟨rfl, rfl, rfl, rfl, rfl, rfl, trivial⟩ ?_)
        exact gk_next (i + 1, _) ⟨rfl, rfl, rfl, rfl, rfl, rfl, trivial⟩ rfl ⟨by omega, by omega, by rw [hsx, List.length_append]; omega⟩ (by simp only []; omega)
    · have hc12 := of_decide_eq_false hc12
      have hbz := sum_le ls i.toNat
      refine gk_exit rfl ?_
      refine gk_seq ?_
      refine gk_region ?_
      refine gk_y rfl rfl (y_move rfl) ?_
      refine gk_yx rfl rfl (yx_call en134 rfl (fun w hw => growNil_c z w (by omega) (by omega))) fun p24 => ?_
      refine gk_y rfl rfl (y_assign rfl) ?_
      refine gk_nil (gk_sub (T' := [(0,_), (2,_), (6,_)]) ⟨rfl, rfl, rfl, trivial⟩ ?_)
      refine gk_seq ?_
      refine gk_seq ?_
      refine gk_region ?_
      refine gk_y rfl rfl (y_move rfl) ?_
      refine gk_y rfl rfl (y_lenS (Tryd.underlying156) rfl) ?_
      refine gk_y rfl rfl (y_move rfl) ?_
      refine gk_nil (gk_sub (T' := [(2,_), (6,_), (25,_), (26,_), (27,_)]) ⟨rfl, rfl, rfl, rfl, rfl, trivial⟩ ?_)
      refine gk_block ?_
      refine gk_loop (X := Int × Option Addr × Nat × List Pt) (fun ⟨i, b, bc, m⟩ => [(2, .slice none 0 0), (6, .slice b m.length bc), (25, .slice a ls.length cap), (26, .int .i64 (ls.length : Int)), (27, .int .i64 i)]) (fun ⟨i, b, bc, m⟩ => [Row b 2 bc 32 encPt m]) (fun ⟨i, b, bc, m⟩ => (0 ≤ i ∧ i ≤ ls.length ∧ m = (ls.take i.toNat).flatMap Sli.l)) (fun ⟨i, b, bc, m⟩ => (ls.length - i).toNat) (0, p24.1, p24.2, []) ⟨rfl, rfl, rfl, rfl, rfl, trivial⟩ rfl ?_ ?_
      · exact ⟨by omega, by omega, rfl⟩
      · rintro ⟨i, b, bc, m⟩ hI
        obtain ⟨g0, g1, g2⟩ := hI
        refine gk_seq ?_
        refine gk_region ?_
        refine gk_y rfl rfl (y_lss rfl rfl) ?_
        refine gk_nil (gk_sub (T' := [(2,_), (6,_), (25,_), (26,_), (27,_), (28,_)]) ⟨rfl, rfl, rfl, rfl, rfl, rfl, trivial⟩ ?_)
        refine gk_seq ?_
        refine gk_cond rfl (fun hc28 => ?_) (fun hc28 => ?_)
        · have hc28 := of_decide_eq_true hc28
          have hsx := sum_succ (ls := ls) g0 hc28
          have hbx := sum_le ls (i + 1).toNat
          rw [hsx, List.length_append, ← g2] at hbx
          refine gk_skip ?_
          refine gk_seq ?_
          refine gk_block ?_
          refine gk_seq ?_
          refine gk_region ?_
          refine gk_y rfl rfl (y_indexE se156 rfl rfl (fun _ hw => (Rd.has (Has.rd hl) hw)) (by omega) (by omega)) ?_
          refine gk_y rfl rfl (y_loadE1 tf31 rfl (fun _ hw => (Rd.has (Has.rd hl) hw)) (by omega) (by omega) rfl) ?_
          refine gk_y rfl rfl (y_assign rfl) ?_
          refine gk_nil (gk_sub (T' := [(2,_), (6,_), (8,_), (25,_), (26,_), (27,_)]) ⟨rfl, rfl, rfl, rfl, rfl, rfl, trivial⟩ ?_)
          refine gk_region ?_
          refine gk_y rfl rfl (y_move rfl) ?_
          refine gk_y rfl rfl (y_move rfl) ?_
          refine gk_append (m := (ls.getD (i).toNat default).l) 0 af31 encPt_ok rfl rfl rfl rfl (fun _ hw => (Rd.has (Has.rd (hin _ (by omega))) hw)) (by first | omega | (simp only [List.length_cons, List.length_nil]; omega)) (by first | (unfold maxLen; omega) | (simp only [List.length_cons, List.length_nil, maxLen]; omega)) fun a33 c33 => ?_
          refine gk_y rfl rfl (y_assign rfl) ?_
          refine gk_nil (gk_sub (T' := [(2,_), (6,_), (25,_), (26,_), (27,_)]) ⟨rfl, rfl, rfl, rfl, rfl, trivial⟩ ?_)
          refine gk_region ?_
          refine gk_y rfl rfl (y_addI rfl rfl (by omega) (by omega)) ?_
          refine gk_y rfl rfl (y_move rfl) ?_
          refine gk_nil (gk_sub (T' := [(2,_), (6,_), (25,_), (26,_), (27,_)]) ⟨rfl, rfl, rfl, rfl, rfl, trivial⟩ ?_)
          exact gk_next (i + 1, a33, c33, _) ⟨rfl, rfl, rfl, rfl, rfl, trivial⟩ rfl ⟨by omega, by omega, by rw [hsx, ← g2]⟩ (by simp only []; omega)
        · simp only [decide_eq_false_iff_not] at hc28
          refine gk_exit rfl ?_
          refine gk_seq ?_
          refine gk_region ?_
          refine gk_y rfl rfl (y_move rfl) ?_
          refine gk_y rfl rfl (y_assign rfl) ?_
          refine gk_nil (gk_sub (T' := [(2,_)]) ⟨rfl, trivial⟩ ?_)
          obtain rfl : m = ls.flatMap Sli.l := by rw [g2, take_all (by omega)]
          refine gk_ret ?_
          refine gk_gives (b, bc) 0 (rv_one rfl (r1_tmp rfl)) ?_ rfl
          rfl
theorem concat2_c (a : Option Addr) (cap : Nat) (x y : Sli) (w : World) (hl : Has w (Elems a 1 encSli [x, y])) (hx : Has w (Pts x.a x.l)) (hy : Has w (Pts y.a y.l)) (ht : Small (x.l.length + y.l.length)) :
    Calls Tryd.prog 120 #[.slice a 2 cap] w (Gives (fun z : Option Addr × Nat => .slice z.1 (x.l ++ y.l).length z.2) (fun z => Row z.1 2 z.2 32 encPt (x.l ++ y.l)) w) := by
  have h := concat_c a cap [x, y] w hl (two_in hx hy) (by simp [Small]) (by simpa using ht)
  have e : [x, y].flatMap Sli.l = x.l ++ y.l := by simp
  rw [e] at h
  exact h
set_option maxRecDepth 100000 in
set_option maxHeartbeats 1000000 in
theorem settled_c (a : Option Addr) (cap : Nat) (l : List Pt) (w : World) (hl : Has w (Pts a l)) (hs : Small l.length) (h0 : 0 < l.length) (hcap : l.length ≤ cap) :
    Calls Tryd.prog 60 #[.slice a l.length cap] w (Gives (fun z : Option Addr × Nat => .slice z.1 (settledW l).length z.2) (fun z => Row z.1 2 z.2 32 encPt (settledW l)) w) := by
  obtain ⟨f0, f1⟩ := first_in h0
  have f2 : (l.drop (findI (eqB (minF lowerW l)) l).toNat ++ l.take (findI (eqB (minF lowerW l)) l).toNat).length = l.length := rotL_len (Int.le_of_lt f1)
  refine calls_of_gk (vs := [_]) Tryd.func60 rfl rfl (Nat.le_of_ble_eq_true rfl) ?_
  refine gk_seq ?_
  refine gk_region ?_
  refine gk_y rfl rfl (y_assign rfl) ?_
  refine gk_nil (gk_sub (T' := [(0,_), (2,_)]) ⟨rfl, rfl, trivial⟩ ?_)
  refine gk_seq ?_
  refine gk_region ?_
  refine gk_y rfl rfl (y_move rfl) ?_
  refine gk_y rfl rfl (y_call en99 rfl (fun w hw => least_c _ _ l w (Rd.has (Has.rd hl) hw) (by assumption) (by omega))) ?_
  refine gk_yx rfl rfl (yx_alloc tf32 (zs := [_, _]) rfl) fun b3 => ?_
  refine gk_storeV 0 tf32 rfl rfl (vs := [_, _]) rfl rfl rfl rfl rfl ?_
  refine gk_nil (gk_sub (T' := [(0,_), (2,_), (3,_)]) ⟨rfl, rfl, rfl, trivial⟩ ?_)
  refine gk_seq ?_
  refine gk_region ?_
  refine gk_y rfl rfl (y_move rfl) ?_
  refine gk_y rfl rfl (y_move rfl) ?_
  refine gk_y rfl rfl (y_call en118 rfl (fun w hw => minfunc_c _ _ l lowerW _ [] w (Rd.has (Has.rd hl) hw) (by assumption) (by omega) (fun _ => True) (fun _ _ => trivial) en106 (fun p q w _ => lower_c p q w))) ?_
  refine gk_y rfl rfl (y_call en119 rfl (fun w hw => index_c _ _ l (minF lowerW l) w (Rd.has (Has.rd hl) hw) (by assumption))) ?_
  refine gk_y rfl rfl (y_assign rfl) ?_
  refine gk_nil (gk_sub (T' := [(0,_), (2,_), (3,_), (4,_)]) ⟨rfl, rfl, rfl, rfl, trivial⟩ ?_)
  refine gk_seq ?_
  refine gk_any 9 (fun _ => mixed) (by kernel_rfl) ?_
  refine ph_y (y_move rfl) ?_
  refine ph_y (y_move rfl) ?_
  refine ph_y (y_sliceLoL se31 rfl rfl (by omega) (by omega)) ?_
  refine ph_y (y_move rfl) ?_
  refine ph_y (y_move rfl) ?_
  refine ph_y (y_move rfl) ?_
  refine ph_y (y_slice3L se31 rfl rfl rfl (by omega) (by omega) (by omega) (by omega)) ?_
  refine ph_yx (yx_buildSlice rfl (bs156_2 _ _ _ _ _ _) encSli_ok rfl) ?_
  refine ph_yx (fun b20 => yx_call en120 rfl (fun w hw => concat2_c _ _ ⟨_, _, (l.drop (findI (eqB (minF lowerW l)) l).toNat)⟩ ⟨_, _, (l.take (findI (eqB (minF lowerW l)) l).toNat)⟩ w (has_row encSli_ok (hw.has (p := 0) rfl)) (elems_drop (Rd.has (Has.rd hl) hw) hcap (by omega)) (elems_take (Rd.has (Has.rd hl) hw) (by omega) (by omega)) (by simp only [List.length_drop, List.length_take]; omega))) ?_
  intro p21
  intro b20
  refine gk_sub (T' := [(2,_), (3,_), (21,_)]) ⟨rfl, rfl, rfl, trivial⟩ ?_
  refine gk_y rfl rfl (y_assign rfl) ?_
  refine gk_nil (gk_sub (T' := [(2,_), (3,_), (5,_)]) ⟨rfl, rfl, rfl, trivial⟩ ?_)
  refine gk_seq ?_
  refine gk_seq ?_
  refine gk_region ?_
  refine gk_y rfl rfl (y_move rfl) ?_
  refine gk_y rfl rfl (y_lenS (Tryd.underlying31) rfl) ?_
  refine gk_y rfl rfl (y_move rfl) ?_
  refine gk_nil (gk_sub (T' := [(2,_), (3,_), (5,_), (23,_), (24,_)]) ⟨rfl, rfl, rfl, rfl, rfl, trivial⟩ ?_)
  refine gk_block ?_
  refine gk_loop (X := Int × List Pt) (fun ⟨i, m⟩ => [(2, .slice none 0 0), (3, .pointer (some ⟨b3, 0, none⟩)), (5, .slice p21.1 (l.drop (findI (eqB (minF lowerW l)) l).toNat ++ l.take (findI (eqB (minF lowerW l)) l).toNat).length p21.2), (23, .int .i64 ((l.drop (findI (eqB (minF lowerW l)) l).toNat ++ l.take (findI (eqB (minF lowerW l)) l).toNat).length : Int)), (24, .int .i64 i)]) (fun ⟨i, m⟩ => [Row (some ⟨b20, 0, none⟩) 1 2 31 encSli [⟨(subA a 2 (findI (eqB (minF lowerW l)) l).toNat cap), (cap - (findI (eqB (minF lowerW l)) l).toNat), (l.drop (findI (eqB (minF lowerW l)) l).toNat)⟩, ⟨(subA a 2 0 (findI (eqB (minF lowerW l)) l).toNat), (findI (eqB (minF lowerW l)) l).toNat, (l.take (findI (eqB (minF lowerW l)) l).toNat)⟩], Row p21.1 2 p21.2 32 encPt m, Box b3 [.int .i64 ((leastL l).x), .int .i64 ((leastL l).z)] 32]) (fun ⟨i, m⟩ => (0 ≤ i ∧ i ≤ ((l.drop (findI (eqB (minF lowerW l)) l).toNat ++ l.take (findI (eqB (minF lowerW l)) l).toNat).length : Int) ∧ m.length = (l.drop (findI (eqB (minF lowerW l)) l).toNat ++ l.take (findI (eqB (minF lowerW l)) l).toNat).length ∧ m = ((l.drop (findI (eqB (minF lowerW l)) l).toNat ++ l.take (findI (eqB (minF lowerW l)) l).toNat).take i.toNat).map (fun p => subW p (leastL l)) ++ (l.drop (findI (eqB (minF lowerW l)) l).toNat ++ l.take (findI (eqB (minF lowerW l)) l).toNat).drop i.toNat)) (fun ⟨i, m⟩ => (((l.drop (findI (eqB (minF lowerW l)) l).toNat ++ l.take (findI (eqB (minF lowerW l)) l).toNat).length : Int) - i).toNat) (0, (l.drop (findI (eqB (minF lowerW l)) l).toNat ++ l.take (findI (eqB (minF lowerW l)) l).toNat)) ⟨rfl, rfl, rfl, rfl, rfl, trivial⟩ rfl ?_ ?_
  · exact ⟨by omega, by omega, rfl, rfl⟩
  · rintro ⟨i, m⟩ hI
    obtain ⟨g0, g1, g3, g2⟩ := hI
    refine gk_seq ?_
    refine gk_region ?_
    refine gk_y rfl rfl (y_lss rfl rfl) ?_
    refine gk_nil (gk_sub (T' := [(2,_), (3,_), (5,_), (23,_), (24,_), (25,_)]) ⟨rfl, rfl, rfl, rfl, rfl, rfl, trivial⟩ ?_)
    refine gk_seq ?_
    refine gk_cond rfl (fun hc25 => ?_) (fun hc25 => ?_)
    · simp only [decide_eq_true_eq] at hc25
      refine gk_skip ?_
      refine gk_seq ?_
      refine gk_block ?_
      refine gk_seq ?_
      refine gk_region ?_
      refine gk_y rfl rfl (y_move rfl) ?_
      refine gk_y rfl rfl (y_assign rfl) ?_
      refine gk_nil (gk_sub (T' := [(2,_), (3,_), (5,_), (6,_), (23,_), (24,_)]) ⟨rfl, rfl, rfl, rfl, rfl, rfl, trivial⟩ ?_)
      refine gk_any 9 (fun _ => mixed) (by kernel_rfl) ?_
      refine ph_y (y_move rfl) ?_
      refine ph_y (y_move rfl) ?_
      refine ph_y (y_move rfl) ?_
      refine ph_y (y_move rfl) ?_
      refine ph_y (y_indexN se31 rfl rfl (fun _ hw => (has_row encPt_ok (hw.has (p := 1) rfl))) g3 (by omega) (by omega)) ?_
      refine ph_y (y_loadE (vs := [_, _]) tf32 rfl (fun _ hw => (has_row encPt_ok (hw.has (p := 1) rfl))) (by omega) (by omega) rfl) ?_
      refine ph_y (y_loadBA 2 tf32 rfl rfl (vs := [_, _]) rfl rfl) ?_
      refine ph_y (y_call en89 rfl (fun w hw => sub_c ⟨_, _⟩ ⟨_, _⟩ w)) ?_
      refine ph_y (y_indexN se31 rfl rfl (fun _ hw => (has_row encPt_ok (hw.has (p := 1) rfl))) g3 (by omega) (by omega)) ?_
      refine gk_sub (T' := [(2,_), (3,_), (5,_), (23,_), (24,_), (34,_), (35,_)]) ⟨rfl, rfl, rfl, rfl, rfl, rfl, rfl, trivial⟩ ?_
      refine gk_storeE (x' := ⟨((subW (m.getD (i).toNat default) (leastL l)).x), ((subW (m.getD (i).toNat default) (leastL l)).z)⟩) 1 encPt_ok tf32 rfl rfl (vs := [_, _]) rfl rfl rfl (by omega) (by omega) ?_
      refine gk_nil (gk_sub (T' := [(2,_), (3,_), (5,_), (23,_), (24,_)]) ⟨rfl, rfl, rfl, rfl, rfl, trivial⟩ ?_)
      refine gk_region ?_
      refine gk_y rfl rfl (y_addI rfl rfl (by omega) (by omega)) ?_
      refine gk_y rfl rfl (y_move rfl) ?_
      refine gk_nil (gk_sub (T' := [(2,_), (3,_), (5,_), (23,_), (24,_)]) ⟨rfl, rfl, rfl, rfl, rfl, trivial⟩ ?_)
      exact gk_next (i + 1, _) ⟨rfl, rfl, rfl, rfl, rfl, trivial⟩ rfl ⟨by omega, by omega, by rw [List.length_set]; exact g3, map_step g0 (by omega) g2⟩ (by simp only []; omega)
    · simp only [decide_eq_false_iff_not] at hc25
      refine gk_exit rfl ?_
      refine gk_seq ?_
      refine gk_region ?_
      refine gk_y rfl rfl (y_move rfl) ?_
      refine gk_y rfl rfl (y_assign rfl) ?_
      refine gk_nil (gk_sub (T' := [(2,_)]) ⟨rfl, trivial⟩ ?_)
      obtain rfl : m = settledW l := setp_end (o := (l.drop (findI (eqB (minF lowerW l)) l).toNat ++ l.take (findI (eqB (minF lowerW l)) l).toNat)) g2 (by omega)
      refine gk_ret ?_
      refine gk_gives p21 1 (rv_one rfl (r1_tmp rfl)) ?_ rfl
      exact congrArg (fun n => Value.slice _ n _) g3.symm
end Go.Proofs.YtahahmelnaphjaaDoor
