/- What the proof of the root text leans on, part 2: the layer, plain facts and walks. No statement of the seat is proved in this text. -/
import Derived.ChangeSame
import Derived.Deep.Slices
import Derived.Handed
import Derived.HandedShaped
import Derived.LaidHandle
import Derived.LaidLaws
import Derived.LaidMore
import Derived.Laws.DeepStrings4
import Derived.Lay
import Derived.Lib.AtoiAll
import Derived.Lib.IndexBytes
import Derived.Lib.IndexLaws
import Derived.Lib.ItoaNum
import Derived.Lib.LaidU8
import Derived.Lib.SplitLaws
import Derived.OpenShut
import Derived.ProofKit
import Derived.Shelf.Small.Strs
import Derived.Shelf.Strconv.AtoiAll
import Derived.Shelf.Strconv.Itoa3
import Derived.Shelf.Strings.Cut
import Derived.Shelf.Strings.Split
import Derived.Shelf.Vars
import Derived.SizedLaws
import Derived.Stop.Joined
import Derived.Test.YtmpaebfjnjmmlaaGreatDoorProg
import Derived.Test.YtmpaebfjnjmmlaaGreatDoorRows
import Derived.WideKeyArgs
import Derived.WideLaws
import Derived.Test.YtmpaebfjnjmmlaaGreatDoorRd1
namespace Go.K
open Go Go.RowKit
/-- t is an array type of n elements e of k cells -/
structure AE (P : Program) (t e : TypeId) (n k : Nat) : Prop where
  u : P.underlying t = some (.array n e)
  i : (P.info? e).map (fun i => i.size) = some k
abbrev encVal (v : Value) : List Value := [v]
theorem elems_cell {w : World} {b o i : Nat} {l : List Value} {v : Value} (h : Has w (Elems (some ⟨b, o, none⟩) 1 encVal l)) (hv : l[i]? = some v) : w.cell? ⟨b, o + i * 1, none⟩ = some v := by
  obtain ⟨b', off, hb, hc⟩ := elems_at h hv
  simp only [Option.some.injEq, Addr.mk.injEq] at hb
  obtain ⟨rfl, rfl, _⟩ := hb
  exact hc.1
section
variable {c : Cx} {ds : List Deferred} {p : Post} {T : List (Nat × Value)} {H : List Res} {ops : Array Oper} {rest : List Oper} {d : Option Nat} {ty : TypeId} {ps : String} {af : Array Edge} {g : Option (Nat × Bool)} {x y z : Operand} {u v : Value}
theorem y_castT {o : Oper} {b : Bool} (h : Y c ds H T o (.bool b)) (hb : b = true) : Y c ds H T o (.bool true) := by subst hb; exact h
theorem y_indexA {t e : TypeId} {n k b o : Nat} {kd : IntKind} {i : Int} (m : Nat) (ht : AE c.P t e n k) (hx : evo T x = some (.pointer (some ⟨b, o, none⟩))) (hy : evo T y = some (.int kd i)) (hm : i = (m : Int)) (h1 : m < n) :
    Y c ds H T ⟨d, .indexAddr t x y, ty, ps, af, g⟩ (.pointer (some ⟨b, o + m * k, none⟩)) :=
  y_run fun a w ha hw => by
    subst hm
    simp only [execOp, ha.eval hx, ha.eval hy]
    refine run_val ?_
    unfold Instr.indexAt
    rw [run_bind_ok (v := (kd, (m : Int))) (w' := w) rfl]
    simp only []
    have hz : (sizeOf e).run c.P w = .ok k w := by
      have hi := ht.i
      cases hu : c.P.info? e with
      | none => rw [hu] at hi; cases hi
      | some j =>
        rw [hu] at hi
        simp only [Option.map_some, Option.some.injEq] at hi
        unfold sizeOf
        rw [run_bind_ok (run_info hu)]
        simp [pure, hi]
    have hu := run_underlying' (w := w) ht.u
    rw [run_bind_ok hu]
    simp only []
    have hs : (Instr.sureAddr (.pointer (some ⟨b, o, none⟩))).run c.P w = .ok ⟨b, o, none⟩ w := rfl
    rw [run_bind_ok hs, run_bind_ok (v := (some ⟨b, o, none⟩, n, e)) (w' := w) rfl, run_bind_ok hu]
    simp only []
    rw [if_pos ⟨by omega, by omega⟩, run_bind_ok hz]
    simp only [addr_add, Int.toNat_natCast]
    rfl
variable {α : Type} {k : Nat} {enc : α → List Value}
/-- a store into an element, among operations in any order -/
theorem so_elem {t e : TypeId} {gg : Bool} {zz : Value} {a : Option Addr} {cap : Nat} {l : List α} {ix : Int} {vs : List Value} {x' : α} (he : Enc k enc) (ht : TF c.P t gg k zz) (hx : evo T x = some (epx a (ix.toNat * k))) (hy : evo T y = some v)
    (hv : v.cells = vs.toArray) (hxx : enc x' = vs) (h0 : 0 ≤ ix) (h1 : ix < (l.length : Int)) : StoreOb c ds T H ⟨d, .store t x y, ty, ps, af, g⟩ (Row a k cap e enc l) (Row a k cap e enc (l.set ix.toNat x')) := by
  refine ⟨fun A w B ha hw hBl hA => ?_⟩
  have hlt : ix.toNat < l.length := by omega
  rcases hA with ⟨_, _, rfl⟩ | ⟨b, off, cs, hab, hB, hbk, g1, g2, g3⟩
  · simp at hlt
  subst hab
  have hvl : vs.length = k := by rw [← hxx]; exact he.len x'
  have hone : vs.all cell1 = true := by rw [← hxx]; exact he.one x'
  have hkk : (ix.toNat + 1) * k ≤ cap * k := Nat.mul_le_mul_right _ (by omega)
  rw [Nat.add_mul, Nat.one_mul] at hkk
  obtain ⟨w', hr, hm, hb'⟩ := run_storeCells (P := c.P) (o := off + ix.toNat * k) vs cs 0 w hbk (by omega) hone
  have hrun : (execOp A.eval ⟨d, .store t x y, ty, ps, af, g⟩).run c.P w = .ok .skip w' := by
    simp only [execOp, ha.eval hx, ha.eval hy, epx, Option.map_some, addr_add]
    have h3 : (Instr.storeAt t (.pointer (some ⟨b, off + ix.toNat * k, none⟩)) v).run c.P w = .ok () w' := by
      unfold Instr.storeAt
      rw [run_bind_ok (v := ⟨b, off + ix.toNat * k, none⟩) (w' := w) rfl]
      unfold storeVar
      rw [run_bind_ok ht.size]
      have : v.cells.size = k := by rw [hv]; simpa using hvl
      simp only [this, ne_eq, not_true_eq_false, if_false]
      rw [hv]
      exact hr
    rw [run_bind_ok h3]
    rfl
  unfold Yld
  rw [hrun]
  refine ⟨⟨hm.os, hm.tape, hm.output, hm.size, fun j hj hbj => hm.same j hj (fun h => hbj ((hB j).2 h))⟩, B, (fun j hj => .inl hj), .inr ⟨b, off, over cs (off + ix.toNat * k) vs, rfl, hB, hb', by simpa using g1, by rw [over_length]; exact g2, ?_⟩⟩
  rw [List.length_set, over_eq vs cs _ (by omega), hvl]
  have hll : l.length * k ≤ cap * k := Nat.mul_le_mul_right _ g1
  have hik : ix.toNat * k + k ≤ l.length * k := by
    have : (ix.toNat + 1) * k ≤ l.length * k := Nat.mul_le_mul_right _ hlt
    rwa [Nat.add_mul, Nat.one_mul] at this
  have e1 : (cs.take (off + ix.toNat * k)).drop off = (l.take ix.toNat).flatMap enc := by
    rw [List.drop_take, Nat.add_sub_cancel_left, ← flat_take he (by omega), ← g3, List.take_take, Nat.min_eq_left (by omega)]
  have hAl : ((l.take ix.toNat).flatMap enc).length = ix.toNat * k := by rw [flat_len he, List.length_take, Nat.min_eq_left (by omega)]
  have e2 : (cs.take (off + ix.toNat * k) ++ vs ++ cs.drop (off + ix.toNat * k + k)).drop off = (l.take ix.toNat).flatMap enc ++ (vs ++ cs.drop (off + ix.toNat * k + k)) := by
    rw [List.append_assoc, List.drop_append_of_le_length (by rw [List.length_take]; omega), e1]
  rw [e2, List.take_append, hAl, List.take_of_length_le (l := (l.take ix.toNat).flatMap enc) (by rw [hAl]; omega), List.take_append, hvl, List.take_of_length_le (l := vs) (by rw [hvl]; omega)]
  have e3 : (cs.drop (off + ix.toNat * k + k)).take (l.length * k - ix.toNat * k - k) = (l.drop (ix.toNat + 1)).flatMap enc := by
    rw [← flat_drop he (by omega), ← g3, List.drop_take, List.drop_drop, Nat.add_mul, Nat.one_mul]
    congr 1
    · omega
    · rw [Nat.add_assoc]
  rw [e3, List.set_eq_take_append_cons_drop, if_pos hlt, List.flatMap_append, List.flatMap_cons, hxx]
end
end Go.K

namespace Go.Stn
open Go Go.K Go.RowKit
abbrev W (n : Int) : Int := IntKind.i64.wrap n
structure Pt where
  x : Int
  z : Int
  deriving Inhabited, DecidableEq
abbrev encPt (p : Pt) : List Value := [.int .i64 p.x, .int .i64 p.z]
abbrev ptV (p : Pt) : Value := .agg #[.int .i64 p.x, .int .i64 p.z]
abbrev Pts (a : Option Addr) (l : List Pt) : Res := Elems a 2 encPt l
theorem encPt_ok : Enc 2 encPt := ⟨fun _ => rfl, fun _ => rfl, by decide⟩
abbrev encI (n : Int) : List Value := [.int .i64 n]
abbrev Ints (a : Option Addr) (l : List Int) : Res := Elems a 1 encI l
theorem encI_ok : Enc 1 encI := ⟨fun _ => rfl, fun _ => rfl, by decide⟩
/-- lengths of slices that fit -/
abbrev Small (n : Nat) : Prop := n ≤ 1099511627776
/-- lengths of texts that fit -/
abbrev Fits (n : Nat) : Prop := n ≤ 140737488355328
def byteI (s : ByteArray) (i : Int) : Int := ((s[i.toNat]?.getD 0).toNat : Int)
def cmpI (x y : Int) : Int := if x < y then -1 else if y < x then 1 else 0
def subW (p q : Pt) : Pt := ⟨W (p.x - q.x), W (p.z - q.z)⟩
def crossW (p q : Pt) : Int := W (W (p.x * q.z) - W (p.z * q.x))
def dotW (p q : Pt) : Int := W (W (p.x * q.x) + W (p.z * q.z))
def turnW (p q r : Pt) : Int := crossW (subW q p) (subW r q)
def sideW (p q r : Pt) : Int := W (W (W (q.x - p.x) * W (r.z - p.z)) - W (W (q.z - p.z) * W (r.x - p.x)))
/-- for all numbers below n -/
def allI (n : Nat) (p : Nat → Bool) : Bool := (List.range n).all p
theorem allI_iff {n : Nat} {p : Nat → Bool} : allI n p = true ↔ ∀ i, i < n → p i = true := by simp [allI]
theorem allI_true {n : Nat} {p : Nat → Bool} (h : ∀ i, i < n → p i = true) : allI n p = true := allI_iff.2 h
theorem allI_false {n i : Nat} {p : Nat → Bool} (hi : i < n) (h : p i = false) : allI n p = false := by
  cases hb : allI n p with
  | false => rfl
  | true => rw [allI_iff.1 hb i hi] at h; cases h
def orI : List Int → Int
  | [] => 0
  | x :: r => if x ≠ 0 then x else orI r
theorem orI_drop (l : List Int) (n : Nat) (h : n < l.length) : orI (l.drop n) = if l.getD n default ≠ 0 then l.getD n default else orI (l.drop (n + 1)) := by
  rw [List.drop_eq_getElem_cons h]
  simp [orI, h]
theorem orI_step {l : List Int} {i : Int} (h0 : 0 ≤ i) (h1 : i < (l.length : Int)) (h : l.getD i.toNat default = 0) : orI (l.drop (i + 1).toNat) = orI (l.drop i.toNat) := by
  rw [orI_drop l i.toNat (by omega), if_neg (by simpa using h), show (i + 1).toNat = i.toNat + 1 from by omega]
theorem orI_hit {l : List Int} {i : Int} (h0 : 0 ≤ i) (h1 : i < (l.length : Int)) (h : ¬ l.getD i.toNat default = 0) : orI (l.drop i.toNat) = l.getD i.toNat default := by
  rw [orI_drop l i.toNat (by omega), if_pos h]
theorem orI_end {l : List Int} {i : Int} (h : (l.length : Int) ≤ i) : orI (l.drop i.toNat) = 0 := by
  rw [List.drop_of_length_le (by omega)]; rfl
def lowerW (p q : Pt) : Int := orI [cmpI p.z q.z, cmpI p.x q.x]
def atL (l : List Pt) (i : Int) : Pt := l.getD ((i + (l.length : Int)).tmod (l.length : Int)).toNat default
def nextL (l : List Pt) (i : Int) : Pt := l.getD ((i + 1).tmod (l.length : Int)).toNat default
def ptAt (l : List Pt) (i : Int) : Pt := l.getD i.toNat default
def leastL (l : List Pt) : Pt := l.foldl (fun o p => ⟨min o.x p.x, min o.z p.z⟩) (l.getD 0 default)
theorem take_succ {α : Type} [Inhabited α] {l : List α} {i : Int} (h0 : 0 ≤ i) (h1 : i < (l.length : Int)) : l.take (i + 1).toNat = l.take i.toNat ++ [l.getD i.toNat default] := by
  have hlt : i.toNat < l.length := by omega
  rw [show (i + 1).toNat = i.toNat + 1 from by omega, List.take_add_one]
  simp [hlt]
theorem fold_take {α β : Type} [Inhabited α] {l : List α} {i : Int} (f : β → α → β) (b : β) (h0 : 0 ≤ i) (h1 : i < (l.length : Int)) : (l.take (i + 1).toNat).foldl f b = f ((l.take i.toNat).foldl f b) (l.getD i.toNat default) := by
  rw [take_succ h0 h1, List.foldl_append]; rfl
theorem take_all {α : Type} {l : List α} {i : Int} (h : (l.length : Int) ≤ i) : l.take i.toNat = l := List.take_of_length_le (by omega)
/-- the index of the first one that is so; -1: none is -/
def findI {α : Type} (p : α → Bool) (l : List α) : Int := if l.any p = true then (l.findIdx p : Int) else -1
theorem findI_hit {α : Type} [Inhabited α] {p : α → Bool} {l : List α} {i : Int} (h0 : 0 ≤ i) (h1 : i < (l.length : Int)) (ha : ∀ j : Nat, (j : Int) < i → p (l.getD j default) = false) (hp : p (l.getD i.toNat default) = true) : findI p l = i := by
  have hlt : i.toNat < l.length := by omega
  have hp' : p l[i.toNat] = true := by simpa [hlt] using hp
  have hany : l.any p = true := List.any_eq_true.2 ⟨l[i.toNat], List.getElem_mem hlt, hp'⟩
  have hidx : l.findIdx p = i.toNat := (List.findIdx_eq hlt).2 ⟨hp', fun j hj => by
    have := ha j (by omega)
    have hj' : j < l.length := by omega
    simpa [hj'] using this⟩
  rw [findI, if_pos hany, hidx]
  omega
theorem findI_none {α : Type} [Inhabited α] {p : α → Bool} {l : List α} (ha : ∀ j : Nat, j < l.length → p (l.getD j default) = false) : findI p l = -1 := by
  have : ¬ l.any p = true := fun h => by
    obtain ⟨x, hx, hp⟩ := List.any_eq_true.1 h
    obtain ⟨j, hj, rfl⟩ := List.getElem_of_mem hx
    have := ha j hj
    simp [hj, hp] at this
  rw [findI, if_neg this]
theorem findI_any {α : Type} (p : α → Bool) (l : List α) : decide (0 ≤ findI p l) = l.any p := by
  unfold findI
  cases h : l.any p with
  | true => simp
  | false => simp
/-- the first one of the least -/
def minF {α : Type} [Inhabited α] (f : α → α → Int) (l : List α) : α := (l.drop 1).foldl (fun m p => if f p m < 0 then p else m) (l.getD 0 default)
theorem minF_take {α : Type} [Inhabited α] {f : α → α → Int} {l : List α} {i : Int} (h0 : 1 ≤ i) (h1 : i < (l.length : Int)) :
    minF f (l.take (i + 1).toNat) = if f (l.getD i.toNat default) (minF f (l.take i.toNat)) < 0 then l.getD i.toNat default else minF f (l.take i.toNat) := by
  have hlt : i.toNat < l.length := by omega
  unfold minF
  have e0 : ∀ n, 0 < n → (l.take n).getD 0 default = l.getD 0 default := fun n hn => by
    simp only [List.getD_eq_getElem?_getD, List.getElem?_take]; rw [if_pos hn]
  rw [take_succ (by omega) h1, List.drop_append_of_le_length (by simp; omega), List.foldl_append, ← take_succ (by omega) h1, e0 _ (by omega), e0 _ (by omega)]
  rfl
def cvx1 (l : List Pt) (i : Int) : Bool := decide (0 < turnW (atL l (i - 1)) (ptAt l i) (atL l (i + 1)))
def cvx2 (l : List Pt) (i k : Int) : Bool := decide (0 < turnW (ptAt l i) (atL l (i + 1)) (atL l (i + k)))
def cvxI (l : List Pt) (i : Int) : Bool := cvx1 l i && allI (l.length - 3) fun k => cvx2 l i (k + 2 : Nat)
def convexB (l : List Pt) : Bool := (decide (3 ≤ (l.length : Int)) && decide ((l.length : Int) ≤ 12)) && allI l.length fun i => cvxI l i
theorem convex_no {l : List Pt} (h : (!(decide (3 ≤ (l.length : Int)) && decide ((l.length : Int) ≤ 12))) = true) : convexB l = false := by
  rw [Bool.not_eq_true'] at h
  rw [convexB, h]; rfl
theorem convex_len {l : List Pt} (h : (!(decide (3 ≤ (l.length : Int)) && decide ((l.length : Int) ≤ 12))) = false) : 3 ≤ l.length ∧ l.length ≤ 12 := by
  simp at h; omega
theorem cvx1_of {l : List Pt} {i : Int} (h : ¬ turnW (atL l (i - 1)) (ptAt l i) (atL l (i + 1)) ≤ 0) : cvx1 l i = true := by
  rw [cvx1, decide_eq_true_eq]; omega
theorem cvx2_of {l : List Pt} {i k : Int} (h : ¬ turnW (ptAt l i) (atL l (i + 1)) (atL l (i + k)) ≤ 0) : cvx2 l i k = true := by
  rw [cvx2, decide_eq_true_eq]; omega
theorem cvxI_true {l : List Pt} {i : Int} {k : Int} (hk : (l.length : Int) - 1 ≤ k) (h1 : cvx1 l i = true) (h2 : ∀ j : Nat, 2 ≤ j → (j : Int) < k → cvx2 l i j = true) : cvxI l i = true := by
  rw [cvxI, h1, Bool.true_and]
  exact allI_true fun j hj => h2 (j + 2) (by omega) (by omega)
theorem convex_bad {l : List Pt} {i : Int} (h0 : 0 ≤ i) (h1 : i < (l.length : Int)) (h : cvxI l i = false) : convexB l = false := by
  rw [convexB, allI_false (i := i.toNat) (by omega) (by rw [show ((i.toNat : Nat) : Int) = i from by omega]; exact h), Bool.and_false]
theorem convex_bad1 {l : List Pt} {i : Int} (h0 : 0 ≤ i) (h1 : i < (l.length : Int)) (h : turnW (atL l (i - 1)) (ptAt l i) (atL l (i + 1)) ≤ 0) : convexB l = false :=
  convex_bad h0 h1 (by rw [cvxI, cvx1, decide_eq_false (by omega), Bool.false_and])
theorem convex_bad2 {l : List Pt} {i k : Int} (h0 : 0 ≤ i) (h1 : i < (l.length : Int)) (h2 : 2 ≤ k) (h3 : k < (l.length : Int) - 1) (h : turnW (ptAt l i) (atL l (i + 1)) (atL l (i + k)) ≤ 0) : convexB l = false :=
  convex_bad h0 h1 (by
    rw [cvxI, allI_false (i := k.toNat - 2) (by omega) ?_, Bool.and_false]
    rw [show ((k.toNat - 2 + 2 : Nat) : Int) = k from by omega, cvx2, decide_eq_false (by omega)])
theorem convex_yes {l : List Pt} {i : Int} (hl : 3 ≤ l.length ∧ l.length ≤ 12) (h : ∀ j : Nat, (j : Int) < i → cvxI l j = true) (hi : (l.length : Int) ≤ i) : convexB l = true := by
  rw [convexB, allI_true (fun j hj => h j (by omega)), Bool.and_true, Bool.and_eq_true, decide_eq_true_eq, decide_eq_true_eq]
  omega
def rcv (l : List Pt) (i k : Int) : Bool := !(!decide (k = i) && !decide (k = (i + 1).tmod (l.length : Int))) || decide (0 < sideW (ptAt l i) (nextL l i) (ptAt l k))
def rcvI (l : List Pt) (i : Int) : Bool := allI l.length fun k => rcv l i k
def rconvexB (l : List Pt) : Bool := !(decide ((l.length : Int) < 3) || decide (12 < (l.length : Int))) && allI l.length fun i => rcvI l i
theorem rconvex_no {l : List Pt} (h : (decide ((l.length : Int) < 3) || decide (12 < (l.length : Int))) = true) : rconvexB l = false := by rw [rconvexB, h]; rfl
theorem rconvex_len {l : List Pt} (h : (decide ((l.length : Int) < 3) || decide (12 < (l.length : Int))) = false) : 3 ≤ l.length ∧ l.length ≤ 12 := by
  simp at h; omega
theorem rcv_of {l : List Pt} {i k : Int} (h : ((!decide (k = i) && !decide (k = (i + 1).tmod (l.length : Int))) && decide (sideW (ptAt l i) (nextL l i) (ptAt l k) ≤ 0)) = false) : rcv l i k = true := by
  unfold rcv
  cases hb : (!decide (k = i) && !decide (k = (i + 1).tmod (l.length : Int))) with
  | false => rfl
  | true =>
    rw [hb, Bool.true_and, decide_eq_false_iff_not] at h
    simp only [Bool.not_true, Bool.false_or, decide_eq_true_eq]
    omega
theorem rconvex_bad {l : List Pt} {i k : Int} (h0 : 0 ≤ i) (h1 : i < (l.length : Int)) (h2 : 0 ≤ k) (h3 : k < (l.length : Int))
    (h : ((!decide (k = i) && !decide (k = (i + 1).tmod (l.length : Int))) && decide (sideW (ptAt l i) (nextL l i) (ptAt l k) ≤ 0)) = true) : rconvexB l = false := by
  rw [rconvexB, allI_false (i := i.toNat) (by omega) ?_, Bool.and_false]
  rw [show ((i.toNat : Nat) : Int) = i from by omega, rcvI, allI_false (i := k.toNat) (by omega)]
  rw [show ((k.toNat : Nat) : Int) = k from by omega]
  rw [Bool.and_eq_true, decide_eq_true_eq] at h
  rw [rcv, h.1, decide_eq_false (by omega)]; rfl
theorem rconvex_yes {l : List Pt} {i : Int} (hl : (decide ((l.length : Int) < 3) || decide (12 < (l.length : Int))) = false) (h : ∀ j : Nat, (j : Int) < i → rcvI l j = true) (hi : (l.length : Int) ≤ i) : rconvexB l = true := by
  rw [rconvexB, hl, allI_true (fun j hj => h j (by omega))]; rfl
theorem rconvex_pos {l : List Pt} (h : rconvexB l = true) : 0 < l.length := by
  rw [rconvexB, Bool.and_eq_true, Bool.not_eq_true'] at h
  have := rconvex_len h.1
  omega
theorem rconvex_pos2 {l : List Pt} {b : Bool} (h : (rconvexB l && b) = true) : 0 < l.length := rconvex_pos (Bool.and_eq_true_iff.1 h).1
/-- the index of the first one of the lowest -/
def rfirstN (l : List Pt) : Nat → Int
  | 0 => 0
  | n + 1 => if (decide ((ptAt l (n : Int)).z < (ptAt l (rfirstN l n)).z) || (decide ((ptAt l (n : Int)).z = (ptAt l (rfirstN l n)).z) && decide ((ptAt l (n : Int)).x < (ptAt l (rfirstN l n)).x))) = true then (n : Int) else rfirstN l n
def rfirst (l : List Pt) : Int := rfirstN l l.length
theorem rfirstN_succ {l : List Pt} {i : Int} (h0 : 0 ≤ i) : rfirstN l (i + 1).toNat = if (decide ((ptAt l i).z < (ptAt l (rfirstN l i.toNat)).z) || (decide ((ptAt l i).z = (ptAt l (rfirstN l i.toNat)).z) && decide ((ptAt l i).x < (ptAt l (rfirstN l i.toNat)).x))) = true then i else rfirstN l i.toNat := by
  rw [show (i + 1).toNat = i.toNat + 1 from by omega, rfirstN, show ((i.toNat : Nat) : Int) = i from by omega]
theorem rfirstN_all {l : List Pt} {i : Int} (h : i.toNat = l.length) : rfirstN l i.toNat = rfirst l := by rw [h]; rfl
def farB (p : Pt) : Bool := !(decide (0 ≤ p.x) && decide (p.x ≤ 2000)) || !(decide (0 ≤ p.z) && decide (p.z ≤ 2000))
def placedB (l : List Pt) : Bool := !(l.any farB || !convexB l) && ((decide ((leastL l).x = 0) && decide ((leastL l).z = 0)) && (decide ((minF lowerW l).x = (l.getD 0 default).x) && decide ((minF lowerW l).z = (l.getD 0 default).z)))
theorem placed_no {l : List Pt} (h : (l.any farB || !convexB l) = true) : placedB l = false := by rw [placedB, h]; rfl
theorem placed_yes {l : List Pt} (h : (l.any farB || !convexB l) = false) : placedB l = ((decide ((leastL l).x = 0) && decide ((leastL l).z = 0)) && (decide ((minF lowerW l).x = (l.getD 0 default).x) && decide ((minF lowerW l).z = (l.getD 0 default).z))) := by rw [placedB, h]; rfl
theorem convex_lenB {l : List Pt} (h : convexB l = true) : 3 ≤ l.length ∧ l.length ≤ 12 := by
  rw [convexB, Bool.and_eq_true, Bool.and_eq_true, decide_eq_true_eq, decide_eq_true_eq] at h
  omega
theorem placed_pos {l : List Pt} (h : (l.any farB || !convexB l) = false) : 0 < l.length := by
  rw [Bool.or_eq_false_iff, Bool.not_eq_false'] at h
  have := convex_lenB h.2
  omega
def rplacedB (l : List Pt) : Bool := allI l.length (fun i => !farB (l.getD i default)) && (((rconvexB l && decide ((leastL l).x = 0)) && decide ((leastL l).z = 0)) && decide (rfirst l = 0))
theorem rplaced_no {l : List Pt} {i : Int} (h0 : 0 ≤ i) (h1 : i < (l.length : Int)) (h : farB (l.getD i.toNat default) = true) : rplacedB l = false := by
  rw [rplacedB, allI_false (i := i.toNat) (by omega) (by rw [h]; rfl)]; rfl
theorem rplaced_yes {l : List Pt} {i : Int} (h : ∀ j : Nat, (j : Int) < i → farB (l.getD j default) = false) (hi : (l.length : Int) ≤ i) : rplacedB l = (((rconvexB l && decide ((leastL l).x = 0)) && decide ((leastL l).z = 0)) && decide (rfirst l = 0)) := by
  rw [rplacedB, allI_true (fun j hj => by rw [h j (by omega)]; rfl)]; rfl
def edgesL (l : List Pt) : List (Pt × Pt) := (List.range l.length).map fun (i : Nat) => (ptAt l (i : Int), atL l ((i : Int) + 1))
abbrev edgeV (e : Pt × Pt) : List Value := [ptV e.1, ptV e.2]
abbrev edgeVs (l : List Pt) : List (List Value) := (edgesL l).map edgeV
theorem edges_len (l : List Pt) : (edgeVs l).length = l.length := by simp [edgeVs, edgesL]
theorem edges_len' (l : List Pt) : (edgesL l).length = l.length := by simp [edgesL]
theorem edge_get {l : List Pt} {i : Int} (h0 : 0 ≤ i) (h1 : i < (l.length : Int)) : (edgeVs l)[i.toNat]? = some [ptV (ptAt l i), ptV (atL l (i + 1))] := by
  have hlt : i.toNat < l.length := by omega
  have : ((i.toNat : Nat) : Int) = i := by omega
  simp [edgeVs, edgesL, hlt, this]
theorem edge_inv {l : List Pt} {n : Nat} {args : List Value} (h : (edgeVs l)[n]? = some args) : ∃ e, (edgesL l)[n]? = some e ∧ args = [ptV e.1, ptV e.2] := by
  rw [List.getElem?_map] at h
  cases he : (edgesL l)[n]? with
  | none => rw [he] at h; cases h
  | some e => rw [he] at h; exact ⟨e, rfl, by simpa using h.symm⟩
theorem edges_two (l : List Pt) : ∀ a ∈ edgeVs l, a.length = 2 := fun a ha => by
  obtain ⟨e, _, rfl⟩ := List.mem_map.1 ha; rfl
def twiceW (l : List Pt) : Int := (edgesL l).foldl (fun s e => W (s + crossW e.1 e.2)) 0
theorem fold_succ {α β : Type} {l : List α} {n : Nat} {e : α} (f : β → α → β) (b : β) (h : l[n]? = some e) : (l.take (n + 1)).foldl f b = f ((l.take n).foldl f b) e := by
  rw [List.take_add_one, h, List.foldl_append]; rfl
theorem fold_all {α β : Type} {l : List α} {n : Nat} (f : β → α → β) (b : β) (h : n = l.length) : (l.take n).foldl f b = l.foldl f b := by rw [h, List.take_length]
theorem decode_low {s : ByteArray} {i : Nat} (h : (s.get! i).toNat < 128) : Utf8.decode s i = ((s.get! i).toNat, 1) := by
  unfold Utf8.decode
  simp only [Nat.add_zero]
  rw [if_pos h]
theorem decode_high {s : ByteArray} {i : Nat} (h : ¬ (s.get! i).toNat < 128) : 128 ≤ (Utf8.decode s i).1 ∧ 1 ≤ (Utf8.decode s i).2 := by
  unfold Utf8.decode
  simp only [Nat.add_zero]
  rw [if_neg h]
  simp only [Utf8.runeError]
  repeat' split
  all_goals simp_all
  all_goals omega
theorem decode_pos (s : ByteArray) (i : Nat) : 1 ≤ (Utf8.decode s i).2 := by
  by_cases h : (s.get! i).toNat < 128
  · rw [decode_low h]; exact Nat.le_refl _
  · exact (decode_high h).2
def idxRune (f : Int → Bool) (s : ByteArray) (p : Nat) : Int :=
  if h : p < s.size then (if f ((Utf8.decode s p).1 : Int) = true then (p : Int) else idxRune f s (p + (Utf8.decode s p).2)) else -1
termination_by s.size - p
decreasing_by have := decode_pos s p; omega
theorem idxRune_hit {f : Int → Bool} {s : ByteArray} {p : Nat} (h : p < s.size) (hf : f ((Utf8.decode s p).1 : Int) = true) : idxRune f s p = p := by rw [idxRune, dif_pos h, if_pos hf]
theorem idxRune_next {f : Int → Bool} {s : ByteArray} {p : Nat} (h : p < s.size) (hf : f ((Utf8.decode s p).1 : Int) = false) : idxRune f s p = idxRune f s (p + (Utf8.decode s p).2) := by
  conv => lhs; rw [idxRune, dif_pos h, if_neg (by rw [hf]; exact Bool.false_ne_true)]
theorem idxRune_end {f : Int → Bool} {s : ByteArray} {p : Nat} (h : ¬ p < s.size) : idxRune f s p = -1 := by rw [idxRune, dif_neg h]
def oddR (r : Int) : Bool := !(decide (97 ≤ r) && decide (r ≤ 122)) && !(decide (48 ≤ r) && decide (r ≤ 57))
def oddB (b : Int) : Bool := (decide (b < 97) || decide (122 < b)) && (decide (b < 48) || decide (57 < b))
def namedB (s : ByteArray) : Bool := (decide (1 ≤ (s.size : Int)) && decide ((s.size : Int) ≤ 16)) && !decide (0 ≤ idxRune oddR s 0)
def rnamedB (s : ByteArray) : Bool := allI s.size (fun i => !oddB (byteI s i)) && (decide (1 ≤ (s.size : Int)) && decide ((s.size : Int) ≤ 16))
theorem rnamed_no {s : ByteArray} {i : Int} (h0 : 0 ≤ i) (h1 : i < (s.size : Int)) (h : oddB (byteI s i) = true) : rnamedB s = false := by
  rw [rnamedB, allI_false (i := i.toNat) (by omega) (by rw [show ((i.toNat : Nat) : Int) = i from by omega, h]; rfl)]; rfl
theorem rnamed_yes {s : ByteArray} {i : Int} (h : ∀ j : Nat, (j : Int) < i → oddB (byteI s j) = false) (hi : (s.size : Int) ≤ i) : rnamedB s = (decide (1 ≤ (s.size : Int)) && decide ((s.size : Int) ≤ 16)) := by
  rw [rnamedB, allI_true (fun j hj => by rw [h j (by omega)]; rfl)]; rfl
structure Stn where
  name : ByteArray
  shape : List Pt
  depth : Int
  density : Int
  grain : Pt
  deriving DecidableEq
abbrev stnV (s : Stn) (a : Option Addr) (cap : Nat) : Value := .agg #[.string s.name, .slice a s.shape.length cap, .int .i64 s.depth, .int .i64 s.density, .int .i64 s.grain.x, .int .i64 s.grain.z]
def rvalidB (s : Stn) : Bool := ((((((rnamedB s.name && rplacedB s.shape) && (decide (1 ≤ s.depth) && decide (s.depth ≤ 2000))) && (decide (1 ≤ s.density) && decide (s.density ≤ 10000))) && ((!decide (s.grain.x = 0)) || (!decide (s.grain.z = 0)))) &&
  (decide (-100 ≤ s.grain.x) && decide (s.grain.x ≤ 100))) && (decide (-100 ≤ s.grain.z) && decide (s.grain.z ≤ 100)))
def grainedB (s : Stn) : Bool := (((!(decide (s.grain.x = 0) && decide (s.grain.z = 0))) && (decide (-100 ≤ s.grain.x) && decide (s.grain.x ≤ 100))) && (decide (-100 ≤ s.grain.z) && decide (s.grain.z ≤ 100)))
def badB (s : Stn) : Bool := ((((!namedB s.name || !placedB s.shape) || !(decide (1 ≤ s.depth) && decide (s.depth ≤ 2000))) || !(decide (1 ≤ s.density) && decide (s.density ≤ 10000))) || !grainedB s)
def checkI (s : Stn) : Int := if badB s = true then 2 else 0
def brickS : Stn := ⟨⟨#[98, 114, 105, 99, 107]⟩, [⟨0, 0⟩, ⟨200, 0⟩, ⟨200, 80⟩, ⟨0, 80⟩], 100, 2400, ⟨1, 0⟩⟩
end Go.Stn

namespace Go.Stn
open Go Go.K Go.RowKit
def weightW (s : Stn) : Int := W (W (twiceW s.shape * s.depth) * s.density)
def askI (s : Stn) (v : Int) : Int := if checkI s = 0 then v else 0
def askL {α : Type} (s : Stn) (l : List α) : List α := if checkI s = 0 then l else []
/-- all corners are within range -/
def Near (l : List Pt) : Prop := ∀ p ∈ l, farB p = false
theorem near_in {p : Pt} (h : farB p = false) : 0 ≤ p.x ∧ p.x ≤ 2000 ∧ 0 ≤ p.z ∧ p.z ≤ 2000 := by
  unfold farB at h
  simp at h
  omega
theorem near_getD {l : List Pt} (h : Near l) {i : Nat} (hi : i < l.length) : farB (l.getD i default) = false := h _ (by simp [hi])
theorem near_edge {l : List Pt} (h : Near l) {n : Nat} {e : Pt × Pt} (he : (edgesL l)[n]? = some e) : farB e.1 = false ∧ farB e.2 = false := by
  unfold edgesL at he
  rw [List.getElem?_map] at he
  have hn : n < l.length := by
    rcases Nat.lt_or_ge n l.length with h | h
    · exact h
    · rw [List.getElem?_eq_none (by simpa using h)] at he; cases he
  rw [List.getElem?_range hn] at he
  simp only [Option.map_some, Option.some.injEq] at he
  subst he
  refine ⟨?_, ?_⟩
  · exact near_getD h (by omega)
  · unfold atL
    refine near_getD h ?_
    have q0 : 0 ≤ ((n : Int) + 1 + (l.length : Int)).tmod (l.length : Int) := Int.tmod_nonneg _ (by omega)
    have q1 : ((n : Int) + 1 + (l.length : Int)).tmod (l.length : Int) < (l.length : Int) := Int.tmod_lt_of_pos _ (by omega)
    omega
/-- how many steps an edge has -/
def stepsN (p q : Pt) : Nat := Nat.gcd (q.x - p.x).natAbs (q.z - p.z).natAbs
def stepsI (p q : Pt) : Int := (stepsN p q : Int)
/-- a border point of an edge -/
def bpW (p q : Pt) (k : Int) : Pt := ⟨W (p.x + W (W ((subW q p).x.tdiv (stepsI p q)) * k)), W (p.z + W (W ((subW q p).z.tdiv (stepsI p q)) * k))⟩
def borderE (e : Pt × Pt) : List Pt := (List.range (stepsN e.1 e.2)).map fun (k : Nat) => bpW e.1 e.2 (k : Int)
def borderL (l : List Pt) : List Pt := (edgesL l).flatMap borderE
abbrev onePt (p : Pt) : List Value := [ptV p]
abbrev borderVs (l : List Pt) : List (List Value) := (borderL l).map onePt
def preN (l : List Pt) (n : Nat) : Nat := (((edgesL l).take n).flatMap borderE).length
theorem borderE_len (e : Pt × Pt) : (borderE e).length = stepsN e.1 e.2 := by simp [borderE]
theorem preN_zero (l : List Pt) : preN l 0 = 0 := by simp [preN]
theorem preN_succ {l : List Pt} {n : Nat} {e : Pt × Pt} (h : (edgesL l)[n]? = some e) : preN l (n + 1) = preN l n + stepsN e.1 e.2 := by
  unfold preN
  rw [List.take_add_one, h]
  simp [borderE_len]
theorem preN_all (l : List Pt) : preN l (edgeVs l).length = (borderVs l).length := by
  unfold preN
  rw [show (edgeVs l).length = (edgesL l).length from by simp [edgeVs], List.take_length]
  simp [borderVs, borderL]
theorem border_get {l : List Pt} {n : Nat} {e : Pt × Pt} (h : (edgesL l)[n]? = some e) {k : Int} (h0 : 0 ≤ k) (h1 : k < stepsI e.1 e.2) : (borderVs l)[preN l n + k.toNat]? = some [ptV (bpW e.1 e.2 k)] := by
  have hk : k.toNat < stepsN e.1 e.2 := by unfold stepsI at h1; omega
  have hn : n < (edgesL l).length := (List.getElem?_eq_some_iff.1 h).1
  have hsplit : borderL l = ((edgesL l).take n).flatMap borderE ++ (borderE e ++ ((edgesL l).drop (n + 1)).flatMap borderE) := by
    unfold borderL
    conv => lhs; rw [← List.take_append_drop n (edgesL l), List.drop_eq_getElem_cons hn]
    rw [List.flatMap_append, List.flatMap_cons]
    have : (edgesL l)[n] = e := (List.getElem?_eq_some_iff.1 h).2
    rw [this]
  unfold borderVs preN
  rw [List.getElem?_map, hsplit, List.getElem?_append_right (by omega), Nat.add_sub_cancel_left, List.getElem?_append_left (by rw [borderE_len]; omega)]
  unfold borderE
  rw [List.getElem?_map, List.getElem?_range hk]
  simp only [Option.map_some, onePt]
  rw [show ((k.toNat : Nat) : Int) = k from by omega]
theorem ones_one (l : List Pt) : ∀ a ∈ l.map onePt, a.length = 1 := fun a ha => by
  obtain ⟨e, _, rfl⟩ := List.mem_map.1 ha; rfl
theorem ones_inv {l : List Pt} {n : Nat} {args : List Value} (h : (l.map onePt)[n]? = some args) : ∃ p, l[n]? = some p ∧ args = [ptV p] := by
  rw [List.getElem?_map] at h
  cases he : l[n]? with
  | none => rw [he] at h; cases h
  | some e => rw [he] at h; exact ⟨e, rfl, by simpa using h.symm⟩
/-- numbers' greatest common divisor, round by round -/
theorem gcd_step {a b : Int} (ha : 0 ≤ a) (hb : 0 ≤ b) : Nat.gcd b.toNat (a.tmod b).toNat = Nat.gcd a.toNat b.toNat := by
  have h : (a.tmod b).toNat = a.toNat % b.toNat := by
    obtain ⟨m, rfl⟩ := Int.eq_ofNat_of_zero_le ha
    obtain ⟨n, rfl⟩ := Int.eq_ofNat_of_zero_le hb
    rfl
  rw [h, Nat.gcd_comm, ← Nat.gcd_rec, Nat.gcd_comm]
theorem near_sub {p q : Pt} (hp : farB p = false) (hq : farB q = false) : subW q p = ⟨q.x - p.x, q.z - p.z⟩ ∧ -2000 ≤ q.x - p.x ∧ q.x - p.x ≤ 2000 ∧ -2000 ≤ q.z - p.z ∧ q.z - p.z ≤ 2000 := by
  have h1 := near_in hp
  have h2 := near_in hq
  refine ⟨?_, by omega, by omega, by omega, by omega⟩
  unfold subW
  rw [show W (q.x - p.x) = q.x - p.x from wrap64_in (by omega) (by omega), show W (q.z - p.z) = q.z - p.z from wrap64_in (by omega) (by omega)]
theorem steps_le {p q : Pt} (hp : farB p = false) (hq : farB q = false) : stepsN p q ≤ 2000 := by
  have h := near_sub hp hq
  unfold stepsN
  by_cases hx : (q.x - p.x).natAbs = 0
  · rw [hx, Nat.gcd_zero_left]; omega
  · exact Nat.le_trans (Nat.gcd_le_left _ (by omega)) (by omega)
theorem take_snoc {α : Type} {l : List α} {n : Nat} {p : α} (h : l[n]? = some p) : l.take (n + 1) = l.take n ++ [p] := by rw [List.take_add_one, h]; rfl
theorem check_good {s : Stn} (h : checkI s = 0) : badB s = false := by
  unfold checkI at h
  cases hb : badB s with
  | false => rfl
  | true => rw [hb] at h; simp at h
theorem check_placed {s : Stn} (h : checkI s = 0) : placedB s.shape = true := by
  have := check_good h
  unfold badB at this
  simp only [Bool.or_eq_false_iff, Bool.not_eq_false'] at this
  exact this.1.1.1.2
theorem placed_near {l : List Pt} (h : placedB l = true) : Near l ∧ 3 ≤ l.length ∧ l.length ≤ 12 := by
  unfold placedB at h
  rw [Bool.and_eq_true, Bool.not_eq_true', Bool.or_eq_false_iff, Bool.not_eq_false'] at h
  refine ⟨fun p hp => ?_, convex_lenB h.1.2⟩
  cases hf : farB p with
  | false => rfl
  | true => have := h.1.1; rw [List.any_eq_true.2 ⟨p, hp, hf⟩] at this; cases this
theorem check_near {s : Stn} (h : checkI s = 0) : Near s.shape := (placed_near (check_placed h)).1
theorem check_len {s : Stn} (h : checkI s = 0) : 3 ≤ s.shape.length ∧ s.shape.length ≤ 12 := (placed_near (check_placed h)).2
theorem border_len {l : List Pt} (h : Near l) : (borderL l).length ≤ l.length * 2000 := by
  have key : ∀ n, n ≤ l.length → preN l n ≤ n * 2000 := by
    intro n
    induction n with
    | zero => intro _; simp [preN_zero]
    | succ n ih =>
      intro hn
      have hlt : n < (edgesL l).length := by rw [edges_len']; omega
      have he : (edgesL l)[n]? = some (edgesL l)[n] := by simp [hlt]
      have := steps_le (near_edge h he).1 (near_edge h he).2
      rw [preN_succ he]
      have := ih (by omega)
      omega
  have := key l.length (Nat.le_refl _)
  have h2 := preN_all l
  rw [show (edgeVs l).length = l.length from edges_len l] at h2
  rw [h2] at this
  simpa [borderVs] using this
/-- a slice among slices -/
structure Sli where
  a : Option Addr
  cap : Nat
  l : List Pt
instance : Inhabited Sli := ⟨⟨none, 0, []⟩⟩
abbrev encSli (s : Sli) : List Value := [.slice s.a s.l.length s.cap]
theorem encSli_ok : Enc 1 encSli := ⟨fun _ => rfl, fun _ => rfl, by decide⟩
theorem sum_le (ls : List Sli) (n : Nat) : ((ls.take n).flatMap Sli.l).length ≤ (ls.flatMap Sli.l).length := by
  conv => rhs; rw [← List.take_append_drop n ls, List.flatMap_append, List.length_append]
  omega
theorem sum_succ {ls : List Sli} {i : Int} (h0 : 0 ≤ i) (h1 : i < (ls.length : Int)) : (ls.take (i + 1).toNat).flatMap Sli.l = (ls.take i.toNat).flatMap Sli.l ++ (ls.getD i.toNat default).l := by
  rw [take_succ h0 h1, List.flatMap_append]; simp
theorem two_in {w : World} {x y : Sli} (hx : Has w (Pts x.a x.l)) (hy : Has w (Pts y.a y.l)) : ∀ i, i < [x, y].length → Has w (Pts ([x, y].getD i default).a ([x, y].getD i default).l)
  | 0, _ => hx
  | 1, _ => hy
  | n + 2, h => absurd h (by simp)
def eqB (v p : Pt) : Bool := decide (v.x = p.x) && decide (v.z = p.z)
theorem eqB_iff {v p : Pt} : eqB v p = true ↔ v = p := by
  unfold eqB
  cases v; cases p
  simp
end Go.Stn

namespace Go.K
open Go Go.Stn Go.ChangeShapes Go.WideShapes Go.ChangeAt Go.WideElems Go.RowKit
section
variable {H : Type} {enc : TypeId × Value → H} {P : Program}
theorem trodAll_stays (hl : laidOutB P = true) {W W' : World} {sp' : Nat → Bool} : ∀ (ts : List TypeId) (vs : List Value) (ds : List (DataW H)) (ps : List MemPlace), (∀ t ∈ ts, P.readableRec t = true ∧ t < P.types.size) →
    DataW.TrodAll enc P W 0 (fun _ => true) true ts vs ds ps → (∀ p ∈ ps, W.sameAt W' p) → (∀ p ∈ ps, sp' p.block = true) → DataW.TrodAll enc P W' 0 sp' true ts vs ds ps
  | [], [], [], ps, _, h, _, _ => h
  | t :: ts, v :: vs, d :: ds, ps, hr, ⟨p, q, h1, h2, he⟩, hs, hsp => by
    subst he
    exact ⟨p, q, Trod_stays hl (hr t (List.mem_cons_self ..)).1 (hr t (List.mem_cons_self ..)).2 h1 (fun x hx => hs x (List.mem_append_left _ hx)) (fun x hx => hsp x (List.mem_append_left _ hx)),
      trodAll_stays hl ts vs ds q (fun x hx => hr x (List.mem_cons_of_mem _ hx)) h2 (fun x hx => hs x (List.mem_append_right _ hx)) (fun x hx => hsp x (List.mem_append_right _ hx)), rfl⟩
  | [], [], _ :: _, _, _, h, _, _ => h.elim
  | [], _ :: _, _, _, _, h, _, _ => h.elim
  | _ :: _, [], _, _, _, h, _, _ => h.elim
  | _ :: _, _ :: _, [], _, _, h, _, _ => h.elim
theorem law_post {f : Func} {s : ChangeSpec} {apart fresh handsOn again : Bool} {W W' : World} {args : Array Value} {ds : List (DataW H)} {before : List MemPlace} {tb : TypeId} (hl : laidOutB P = true)
    (hW : DataW.Whole enc P f.params.toList s.vars apart W args.toList ds [] before) (hvars : s.vars = []) (hread : f.params.toList.all (fun t => P.readableRec t && decide (t < P.types.size)) = true)
    (hfn : s.fn H (ds ++ []) = { results := [.lit (.bool true)], args := ds }) (hrt : f.resultTypes = #[tb]) (htb : P.underlying tb = some .bool) (hb : Ext W W') : s.post enc P f apart fresh handsOn again W args (.bool true) W' := by
  have hlt : ∀ p ∈ before, p.block < W.heap.size := fun p hp => hW.lt p hp
  have hold : ∀ p ∈ before, (fun b => decide (b < W.heap.size)) p.block = true := fun p hp => by simpa using hlt p hp
  have hW0 := hW
  obtain ⟨p, q, hA, hV, hpq, hz, hn⟩ := hW
  rw [hvars] at hV
  obtain ⟨_, rfl⟩ := trodVars_none hV
  rw [List.append_nil] at hpq
  subst hpq
  have hr : ∀ t ∈ f.params.toList, P.readableRec t = true ∧ t < P.types.size := fun t ht => by
    have := List.all_eq_true.1 hread t ht
    simpa using this
  have hsame : ∀ x ∈ before, W.sameAt W' x := fun x hx => by
    have hlx := hlt x hx
    cases x with
    | cell b off => exact hb.below.cell (p := ⟨b, off, none⟩) hlx
    | map b => exact hb.block b hlx
  have hargs : ∀ sp : Nat → Bool, (∀ p ∈ before, sp p.block = true) → DataW.TrodAll enc P W' 0 sp true f.params.toList args.toList ds before := fun sp hsp => trodAll_stays hl _ _ _ _ hr hA hsame hsp
  have hres : ∀ (b : Nat) (sp : Nat → Bool) (hd : Bool), DataW.TrodAll enc P W' b sp hd f.resultTypes.toList ((Value.bool true).resultList f.resultTypes.size) [.lit (.bool true)] [] := fun b sp hd => by
    rw [hrt]
    exact ⟨[], [], ⟨1, by simp [DataW.trod, Value.cells, htb]⟩, rfl, rfl⟩
  refine ⟨ds, [], before, [], before, [], hW0, ?_, ?_, ?_, World.keptBut_mono (fun p hp => ⟨hp, Or.inr (Or.inl hp)⟩) (hb.below.frame (· ∈ before)), fun _ => ?_⟩
  · rw [hfn]; exact hres _ _ _
  · rw [hfn]; exact hargs _ hold
  · rw [hfn, hvars]; rfl
  · refine ⟨fun j t r ht hrr => ?_, ds.cons (.lit (.bool true)), [], before, ⟨before, [], ?_, by rw [hvars]; rfl, by simp, ?_, ?_⟩, fun x hx _ => hx⟩
    · rw [hrt] at ht hrr
      have h0 : t = tb := by
        rcases j with _ | j
        · simpa using ht.symm
        · simp at ht
      have h1 : r = .bool true := by
        rcases j with _ | j
        · simpa [Value.resultList] using hrr.symm
        · simp at ht
      subst h0; subst h1
      exact okWide_bool_mk htb true
    · have h1 := trodAll_append (hargs (fun _ => true) (fun _ _ => rfl)) (hres 0 (fun _ => true) true)
      simpa using h1
    · intro b off hp
      rw [hb.below.frozen (hlt _ hp)]
      exact hz b off (by simpa using hp)
    · intro ha
      have := hn ha
      simpa using this
end
theorem funcs_at {P : Program} {W : World} {l : List (String × DataW Unit)} (h : laidMetH P l W) {n : String} {x d : DataW Unit} (hm : (n, x) ∈ l) (hh : x.handleName?.isSome = true) (hd : x.funcsIn? = some d) : funcsAt P W n d := by
  unfold laidMetH at h
  have hmem : (n, x) ∈ l.filter fun x => x.2.handleName?.isSome := List.mem_filter.2 ⟨hm, hh⟩
  split at h
  · rename_i hf
    rw [hf] at hmem; cases hmem
  · rename_i y ys hf
    rw [hf] at hmem
    have := h.2 _ hmem
    simp only [hd] at this
    exact this
end Go.K

namespace Go.K
open Go Go.RowKit
/-- the cells of a variable of the program -/
def VarR (b : Nat) (cs : Array Value) : Res where
  A B w := (∀ k, B k ↔ k = b) ∧ ∃ t fz, w.heap[b]? = some (.cells cs t fz)
  loc _ _ _ h hA := ⟨hA.1, let ⟨t, fz, hb⟩ := hA.2; ⟨t, fz, (h b ((hA.1 b).2 rfl)).trans hb⟩⟩
theorem var_of {P : Program} {w : World} {b : Nat} {cs : Array Value} {n : String} (hn : P.globalNamed n = some b) (h : Has w (VarR b cs)) : w.var? P n = some cs := by
  obtain ⟨B, _, _, t, fz, hb⟩ := h
  unfold World.var?
  rw [hn]
  simp [hb]
theorem var_has {P : Program} {w : World} {b : Nat} {cs : Array Value} {n : String} (hn : P.globalNamed n = some b) (h : w.var? P n = some cs) : Has w (VarR b cs) := by
  unfold World.var? at h
  rw [hn] at h
  simp only [Option.bind_some] at h
  split at h
  · rename_i cs' t fz hb
    cases h
    have hlt : b < w.heap.size := by
      rcases Nat.lt_or_ge b w.heap.size with h' | h'
      · exact h'
      · simp [Array.getElem?_eq_none h'] at hb
    exact ⟨(· = b), fun k hk => by rw [hk]; exact hlt, fun _ => Iff.rfl, t, fz, hb⟩
  · cases h
theorem ext_grow {w : World} {k : Nat} {os : Array Obj} : Ext w (Go.Sort.grow (w.drewN k) os) := by
  refine ⟨rfl, ⟨rfl, Nat.le_add_right _ _⟩, rfl, ?_, fun i hi => ?_⟩
  · show w.heap.size ≤ (w.heap ++ os).size
    simp
  · show (w.heap ++ os)[i]? = _
    rw [Array.getElem?_append, if_pos hi]
abbrev pow10V : Array Value := (Lib.pow10Tab.map fun z => Value.int .u64 z).toArray
/-- a number's text -/
def itoaB (n : Int) : ByteArray := ⟨(Lib.itoa n).toArray⟩
open Go.Proofs in
theorem itoa_pure {P : Program} {ρ : Go.Shelf.Ren} (L : LaysM.n171 P ρ) {b : Nat} (hn : P.globalNamed "internal/strconv.uint64pow10" = some b) (n : Int) (w : World) (h0 : -9223372036854775808 ≤ n) (h1 : n ≤ 9223372036854775807) (hv : Has w (VarR b pow10V)) :
    Calls P (ρ.f 171) #[.int .i64 n] w (Pure (.string (itoaB n)) w) := by
  refine (Any.strconv_Itoa L n h0 h1 w (var_of hn hv)).mono ?_
  rintro e w' ⟨rfl, k, os, rfl⟩
  exact ⟨rfl, ext_grow⟩
end Go.K

namespace Go.Proofs.YtmpaebfjnjmmlaaGreatDoor
open Go Go.K Go.Stn Go.ChangeShapes Go.WideShapes Go.ChangeAt Go.RowKit
theorem own : ownKnob Tryz.prog.godebug = none := by kernel_rfl
theorem laidOut : laidOutB Tryz.prog = true := by kernel_rfl
theorem gWays : Tryz.prog.globalNamed "copestone/stone.ways" = some 0 := by kernel_rfl
theorem tWays : (Tryz.prog.globals[0]?).map (·.type) = some 109 := by kernel_rfl
abbrev wayFns : List Value := [.func (.func 194) #[] #[], .func (.func 195) #[] #[], .func (.func 196) #[] #[], .func (.func 197) #[] #[]]
set_option maxRecDepth 100000 in
theorem of_laid {W : World} {l : List (String × DataW Unit)} (h : laidMetH Tryz.prog l W) (hm : ("copestone/stone.ways", Rows.laid_copestone_stone_ways) ∈ l) : Has W (Elems (some ⟨0, 0, none⟩) 1 encVal wayFns) := by
  obtain ⟨g, t, cs, fuel, p, hg, ht, hv, hd⟩ := funcs_at h hm rfl rfl
  obtain rfl := Option.some.inj (gWays.symm.trans hg)
  obtain rfl := Option.some.inj (tWays.symm.trans ht)
  obtain ⟨xs, m, _, hx, hlen, hn, hel⟩ := DataW.trod_array Tryz.underlying109 hd
  have c108 : Tryz.prog.cellsOf 108 = 1 := by kernel_rfl
  have c109 : Tryz.prog.cellsOf 109 = 4 := by kernel_rfl
  rw [c109] at hlen
  rw [c108] at hel
  simp only [Prod.mk.injEq] at hx
  have hx1 := hx.1
  obtain ⟨l⟩ := cs
  match l, hlen, xs, hn with
  | [v0, v1, v2, v3], _, [x0, x1, x2, x3], _ =>
    have hx2 : DataW.agg [DataW.held _, DataW.held _, DataW.held _, DataW.held _] = DataW.agg [x0.1, x1.1, x2.1, x3.1] := hx1
    simp only [DataW.agg.injEq, List.cons.injEq, and_true] at hx2
    obtain ⟨y0, y1, y2, y3⟩ := hx2
    have f0 : v0 = .func (.func 194) #[] #[] := func_of_trod (q := x0.2) Tryz.underlying108 (by kernel_rfl) (by have := hel 0 (by decide); rw [show x0 = (x0.1, x0.2) from rfl, ← y0] at this; exact this)
    have f1 : v1 = .func (.func 195) #[] #[] := func_of_trod (q := x1.2) Tryz.underlying108 (by kernel_rfl) (by have := hel 1 (by decide); rw [show x1 = (x1.1, x1.2) from rfl, ← y1] at this; exact this)
    have f2 : v2 = .func (.func 196) #[] #[] := func_of_trod (q := x2.2) Tryz.underlying108 (by kernel_rfl) (by have := hel 2 (by decide); rw [show x2 = (x2.1, x2.2) from rfl, ← y2] at this; exact this)
    have f3 : v3 = .func (.func 197) #[] #[] := func_of_trod (q := x3.2) Tryz.underlying108 (by kernel_rfl) (by have := hel 3 (by decide); rw [show x3 = (x3.1, x3.2) from rfl, ← y3] at this; exact this)
    subst f0; subst f1; subst f2; subst f3
    have hc := World.var?_cell hg hv
    have hb : 0 < W.heap.size := by
      rcases Nat.lt_or_ge 0 W.heap.size with h | h
      · exact h
      · exfalso
        have := hc 0
        simp [World.cell?, Array.getElem?_eq_none h] at this
    refine ⟨(· = 0), fun k hk => by rw [hk]; exact hb, .inr ⟨0, 0, rfl, fun _ => Iff.rfl, fun i x hi => ?_⟩⟩
    refine ⟨?_, trivial⟩
    have := hc i
    rw [show 0 + i * 1 = i from by omega, this]
    simpa using hi
theorem laid_plain {W : World} {l : List (String × DataW Unit)} (h : laidMetH Tryz.prog l W) {n : String} {d : DataW Unit} (hm : (n, d) ∈ l) (hd : d.handleName?.isNone = true) : Lib.VarReads Tryz.prog W n d := by
  unfold laidMetH at h
  split at h
  · exact Lib.laidMet.reads h hm
  · exact Lib.laidMet.reads h.1 (List.mem_filter.2 ⟨hm, hd⟩)
set_option maxRecDepth 100000 in
theorem pow10_of_laid {W : World} {l : List (String × DataW Unit)} (h : laidMetH Tryz.prog l W) (hm : ("internal/strconv.uint64pow10", Rows.laid_internal_strconv_uint64pow10) ∈ l) : Has W (VarR 2 pow10V) := by
  have hg : Tryz.prog.globalNamed "internal/strconv.uint64pow10" = some 2 := by kernel_rfl
  obtain ⟨g, t, cs, fuel, p, hg', ht, hv, hd⟩ := laid_plain h hm (by kernel_rfl)
  obtain rfl := Option.some.inj (hg.symm.trans hg')
  obtain rfl := Option.some.inj ((show (Tryz.prog.globals[2]?).map (·.type) = some 184 by kernel_rfl).symm.trans ht)
  have hc := Lib.cells_of_tab (k := .u64) (zs := Lib.pow10Tab) Tryz.underlying184 Tryz.underlying154 (by kernel_rfl) (by kernel_rfl) (show DataW.trod (fun _ => ()) Tryz.prog W 0 (fun _ => true) false fuel 184 cs.toList = some (Lib.tabData .u64 Lib.pow10Tab, p) from hd)
  refine var_has hg ?_
  rw [hv, pow10V, ← hc]
end Go.Proofs.YtmpaebfjnjmmlaaGreatDoor

namespace Go.K
open Go Go.RowKit
structure Slots (c : Cx) (H : List Res) (G : Nat → Option Res) (B : Nat → Nat → Prop) (w : World) : Prop where
  own : ∀ j R, G j = some R → R.A (B j) w ∧ ∀ k, B j k → ¬ c.U k ∧ k < w.heap.size
  dis : ∀ i j, (G i).isSome = true → (G j).isSome = true → i ≠ j → ∀ k, B i k → ¬ B j k
  out : Holds H (fun k => c.U k ∨ ∃ i, (G i).isSome = true ∧ B i k) w
section
variable {c : Cx} {H : List Res} {G : Nat → Option Res} {B : Nat → Nat → Prop} {w w' : World}
theorem Slots.congr {G' : Nat → Option Res} (h : Slots c H G B w) (hg : ∀ j, G' j = G j) : Slots c H G' B w := by
  have : G' = G := funext hg
  rw [this]; exact h
theorem Slots.ext (h : Slots c H G B w) (hx : Ext w w') : Slots c H G B w' :=
  ⟨fun j R hj => ⟨R.loc _ w w' (fun k hk => hx.block k ((h.own j R hj).2 k hk).2) (h.own j R hj).1, fun k hk => ⟨((h.own j R hj).2 k hk).1, Nat.lt_of_lt_of_le ((h.own j R hj).2 k hk).2 hx.size⟩⟩, h.dis, Holds.ext hx h.out⟩
theorem Slots.new (h : Slots c H G B w) (hb : Base c.U c.w0 w) (hx : Ext w w') (i : Nat) {R : Res} {Bn : Nat → Prop} (hBn : ∀ k, Bn k → w.heap.size ≤ k ∧ k < w'.heap.size) (hA : R.A Bn w') :
    Slots c H (fun j => if j = i then some R else G j) (fun j => if j = i then Bn else B j) w' := by
  have h' := h.ext hx
  have hUlt : ∀ k, c.U k → k < w.heap.size := fun k hk => Nat.lt_of_lt_of_le (hb.lt k hk) hb.size
  refine ⟨fun j S hj => ?_, fun a b ha hb' hab k hk1 hk2 => ?_, ?_⟩
  · by_cases hji : j = i
    · simp only [if_pos hji, Option.some.injEq] at hj ⊢
      subst hj
      exact ⟨hA, fun k hk => ⟨fun hu => by have := hUlt k hu; have := (hBn k hk).1; omega, (hBn k hk).2⟩⟩
    · simp only [if_neg hji] at hj ⊢
      exact h'.own j S hj
  · by_cases hai : a = i
    · have hbi : b ≠ i := fun e => hab (hai.trans e.symm)
      simp only [if_pos hai] at ha hk1
      simp only [if_neg hbi] at hb' hk2
      obtain ⟨S, hS⟩ := Option.isSome_iff_exists.1 hb'
      have := ((h.own b S hS).2 k hk2).2
      have := (hBn k hk1).1
      omega
    · simp only [if_neg hai] at ha hk1
      by_cases hbi : b = i
      · simp only [if_pos hbi] at hb' hk2
        obtain ⟨S, hS⟩ := Option.isSome_iff_exists.1 ha
        have := ((h.own a S hS).2 k hk1).2
        have := (hBn k hk2).1
        omega
      · simp only [if_neg hbi] at hb' hk2
        exact h.dis a b ha hb' hab k hk1 hk2
  · have key : ∀ (L : List Res) (V V' : Nat → Prop), (∀ k, k < w.heap.size → V' k → V k) → Holds L V w → Holds L V' w' := by
      intro L
      induction L with
      | nil => intro _ _ _ _; trivial
      | cons R L ih =>
        intro V V' hV hh
        obtain ⟨C, hC, hA, hr'⟩ := hh
        refine ⟨C, fun k hk => ⟨fun hv => (hC k hk).1 (hV k (hC k hk).2 hv), Nat.lt_of_lt_of_le (hC k hk).2 hx.size⟩, R.loc C w w' (fun k hk => hx.block k (hC k hk).2) hA, ?_⟩
        exact ih _ _ (fun k hk hv => hv.imp (hV k hk) id) hr'
    refine key H _ _ ?_ h.out
    rintro k hk (hu | ⟨j, hj, hbj⟩)
    · exact .inl hu
    · by_cases hji : j = i
      · simp only [if_pos hji] at hbj
        have := (hBn k hbj).1
        omega
      · simp only [if_neg hji] at hj hbj
        exact .inr ⟨j, hj, hbj⟩
theorem Slots.holds (h : Slots c H G B w) : ∀ (js : List Nat) (Rs : List Res), F2 (fun j R => G j = some R) js Rs → js.Nodup → Holds (Rs ++ H) c.U w := by
  have key : ∀ (js : List Nat) (Rs : List Res) (X : Nat → Prop), F2 (fun j R => G j = some R) js Rs → js.Nodup → (∀ j ∈ js, ¬ X j) → Holds (Rs ++ H) (fun k => c.U k ∨ ∃ i, X i ∧ (G i).isSome = true ∧ B i k) w := by
    intro js
    induction js with
    | nil =>
      intro Rs X hf _ _
      cases Rs with
      | nil => exact Holds.anti H (fun k hk => by
          rcases hk with hu | ⟨i, _, hi, hb⟩
          · exact .inl hu
          · exact .inr ⟨i, hi, hb⟩) h.out
      | cons _ _ => exact hf.elim
    | cons j js ih =>
      intro Rs X hf hn hX
      cases Rs with
      | nil => exact hf.elim
      | cons R Rs =>
        obtain ⟨hj, hf'⟩ := hf
        rw [List.nodup_cons] at hn
        obtain ⟨g1, g2⟩ := h.own j R hj
        refine ⟨B j, fun k hk => ⟨?_, (g2 k hk).2⟩, g1, ?_⟩
        · rintro (hu | ⟨i, hXi, hi, hbi⟩)
          · exact (g2 k hk).1 hu
          · exact h.dis j i (by rw [hj]; rfl) hi (fun e => hX j (List.mem_cons_self ..) (e ▸ hXi)) k hk hbi
        · refine Holds.anti _ ?_ (ih Rs (fun i => X i ∨ i = j) hf' hn.2 (fun i hi hx => ?_))
          · rintro k ((hu | ⟨i, hXi, hi, hbi⟩) | hk)
            · exact .inl hu
            · exact .inr ⟨i, .inl hXi, hi, hbi⟩
            · exact .inr ⟨j, .inr rfl, by rw [hj]; rfl, hk⟩
          · rcases hx with hx | hx
            · exact hX i (List.mem_cons_of_mem _ hi) hx
            · subst hx; exact hn.1 hi
  intro js Rs hf hn
  refine Holds.anti _ (fun k hk => .inl hk) (key js Rs (fun _ => False) hf hn (fun _ _ h => h))
end
/-- what operation i is: where its value goes, whose memory it makes or turns, its value, that memory; all out of what was chosen -/
structure E3 (XS : Nat → Type) where
  i : Nat
  d : Option Nat
  t : Option Nat
  V : ((i : Nat) → XS i) → Value
  A : ((i : Nat) → XS i) → Res
def tIs (t : Option Nat) (j : Nat) : Bool := match t with
  | some k => Nat.beq k j
  | none => false
section
variable {XS : Nat → Type}
def slotAt (ρ : (i : Nat) → XS i) (done : Nat → Bool) (j : Nat) : List (E3 XS) → Option Res
  | [] => none
  | x :: r => bif tIs x.t j && done x.i then some (x.A ρ) else slotAt ρ done j r
def viewT (ρ : (i : Nat) → XS i) (f : Nat → Bool) : List (E3 XS) → List (Nat × Value)
  | [] => []
  | x :: r => match x.d with
    | some d => bif f x.i then (d, x.V ρ) :: viewT ρ f r else viewT ρ f r
    | none => viewT ρ f r
theorem viewT_spec {ρ : (i : Nat) → XS i} {f : Nat → Bool} {t : Nat} {v : Value} {T : List (Nat × Value)} : ∀ (S : List (E3 XS)), lk (viewT ρ f S ++ T) t = some v → (∃ x ∈ S, x.d = some t ∧ f x.i = true ∧ v = x.V ρ) ∨ lk T t = some v
  | [], h => .inr h
  | x :: r, h => by
    have rest : lk (viewT ρ f r ++ T) t = some v → (∃ y ∈ x :: r, y.d = some t ∧ f y.i = true ∧ v = y.V ρ) ∨ lk T t = some v := fun h => by
      rcases viewT_spec r h with ⟨y, hy, h2⟩ | h2
      · exact .inl ⟨y, List.mem_cons_of_mem _ hy, h2⟩
      · exact .inr h2
    unfold viewT at h
    cases hd : x.d with
    | none => rw [hd] at h; exact rest h
    | some d =>
      rw [hd] at h
      cases hf : f x.i with
      | false => rw [hf] at h; exact rest h
      | true =>
        rw [hf] at h
        simp only [cond_true, List.cons_append] at h
        by_cases hdt : d = t
        · subst hdt
          rw [lk_cons_self, Option.some.injEq] at h
          exact .inl ⟨x, List.mem_cons_self .., hd, hf, h.symm⟩
        · rw [lk_cons_ne hdt] at h; exact rest h
end
end Go.K

namespace Go.K
open Go Go.RowKit
abbrev onF (listed : Array Bool) : Nat → Bool := fun k => listed.getD k false
/-- the state when the operations of 'listed' are done -/
structure Inv3 {XS : Nat → Type} (c : Cx) (ds : List Deferred) (ops pre : List Oper) (T0 : List (Nat × Value)) (H : List Res) (S : List (E3 XS)) (listed : Array Bool) (a : Act) (w : World) : Prop where
  base : Base c.U c.w0 w
  size : a.tmps.size = c.n
  defers : a.defers = ds
  closed : ∀ (k : Nat) (o : Oper), ops[k]? = some o → isOn listed k → ∀ j, bindsTo o j = true → isOn listed j
  old : ∀ s v, lk T0 s = some v → (∀ (i : Nat) (o : Oper), pre[i]? = some o → isOn listed i → o.dst ≠ some s) → a.tmps[s]? = some v
  fam : ∃ (ρ : (i : Nat) → XS i) (B : Nat → Nat → Prop), (∀ x ∈ S, isOn listed x.i → ∀ d, x.d = some d → a.tmps[d]? = some (x.V ρ)) ∧ Slots c H (fun j => slotAt ρ (onF listed) j S) B w
section
variable {XS : Nat → Type} {c : Cx} {ds : List Deferred} {p : Post} {ops pre suf : List Oper} {T0 : List (Nat × Value)} {H : List Res} {S : List (E3 XS)} {listed : Array Bool} {a : Act} {w : World} {ms : List Nat}
theorem Inv3.sat (hI : Inv3 c ds ops pre T0 H S listed a w) {ρ : (i : Nat) → XS i} (hv : ∀ x ∈ S, isOn listed x.i → ∀ d, x.d = some d → a.tmps[d]? = some (x.V ρ)) {i : Nat} (hpre : ∀ (k : Nat) o, pre[k]? = some o → ops[k]? = some o) (hun : ¬ isOn listed i)
    {o : Oper} (hclo : ∀ j, bindsTo o j = true → isOn listed j) {S' : List (E3 XS)} (hS : ∀ x ∈ S', x ∈ S) : Sat c.n (viewT ρ (bindsTo o) S' ++ baseT pre i T0) ds a := by
  refine ⟨hI.size, fun t v h => ?_, hI.defers⟩
  rcases viewT_spec S' h with ⟨x, hx, hd, hb, rfl⟩ | h
  · exact hv x (hS x hx) (hclo _ hb) t hd
  · rw [baseT_eq] at h
    obtain ⟨h1, h2⟩ := lk_filter (fun s => pre.all (fun f => (match f.dst with | some d => !Nat.beq d s | none => true) || bindsTo f i)) T0 _ (fun _ _ _ _ => trivial) rfl t v h
    refine hI.old t v h1 fun k o hk hon hd => ?_
    rw [List.all_eq_true] at h2
    have h3 := h2 o (List.mem_of_getElem? hk)
    rw [hd] at h3
    simp only [Nat.beq_refl, Bool.not_true, Bool.false_or] at h3
    exact hun (hI.closed k o (hpre k o hk) hon i h3)
end
end Go.K

namespace Go.K
open Go Go.RowKit
section
variable {α : Type} {k : Nat} {enc : α → List Value} {P : Program}
theorem ext_drew (w : World) : Ext w w.drew := ⟨rfl, ⟨rfl, Nat.le_succ _⟩, rfl, Nat.le_refl _, fun _ _ => rfl⟩
variable {c : Cx} {ds : List Deferred} {H : List Res} {T : List (Nat × Value)} {d : Option Nat} {ty : TypeId} {ps : String} {af : Array Edge} {g : Option (Nat × Bool)} {x y : Operand}
end
end Go.K

namespace Go.K
open Go Go.RowKit Go.Shelf Go.Proofs
theorem mod_freeze' {w : World} {g n : Nat} : Mod (· = g) w (w.freeze ⟨g, 0, none⟩ n) := by
  have hw : w.freeze ⟨g, 0, none⟩ n = { w with heap := (w.freeze ⟨g, 0, none⟩ n).heap } := by
    unfold World.freeze
    split <;> rfl
  rw [hw]
  refine ⟨rfl, ⟨rfl, Nat.le_refl _⟩, rfl, ?_, fun k _ hb => ?_⟩
  · show w.heap.size ≤ (w.freeze ⟨g, 0, none⟩ n).heap.size
    unfold World.freeze
    split <;> simp
  · show (w.freeze ⟨g, 0, none⟩ n).heap[k]? = _
    unfold World.freeze
    split
    · rfl
    · refine Array.getElem?_modify.trans ?_
      rw [if_neg (fun e => hb e.symm)]
theorem Mod.trans' {B : Nat → Prop} {a b c : World} (h : Mod B a b) (k : Mod B b c) : Mod B a c :=
  ⟨k.os.trans h.os, h.tape.trans k.tape, k.output.trans h.output, Nat.le_trans h.size k.size, fun i hi hb => (k.same i (Nat.lt_of_lt_of_le hi h.size) hb).trans (h.same i hi hb)⟩
/-- what turned alone was new -/
theorem ext_fresh {w w1 w2 : World} (h : Ext w w1) (k : Mod (· = w.heap.size) w1 w2) (_ : w.heap.size < w1.heap.size) : Ext w w2 :=
  ⟨k.os.trans h.os, h.tape.trans k.tape, k.output.trans h.output, Nat.le_trans h.size k.size, fun i hi => (k.same i (Nat.lt_of_lt_of_le hi h.size) (by omega)).trans (h.block i hi)⟩
theorem ext_bytesWorld (w : World) (e : TypeId) (s : ByteArray) : Ext w (Lib.bytesWorld w e s) := by
  have h1 : Ext w (w.drew.alloc (.cells (Lib.bytesCells w e s) e)) := ⟨rfl, ⟨rfl, Nat.le_succ _⟩, rfl, by simp, fun j hj => heap_alloc_old w.drew _ hj⟩
  have hw : Lib.bytesWorld w e s = { (w.drew.alloc (.cells (Lib.bytesCells w e s) e)) with heap := (Lib.bytesWorld w e s).heap } := by
    unfold Lib.bytesWorld World.freeze
    rfl
  rw [hw]
  refine ⟨rfl, ⟨rfl, Nat.le_succ _⟩, rfl, ?_, fun k hk => ?_⟩
  · show w.heap.size ≤ (Lib.bytesWorld w e s).heap.size
    unfold Lib.bytesWorld World.freeze
    simp
  · show (Lib.bytesWorld w e s).heap[k]? = _
    unfold Lib.bytesWorld World.freeze
    refine Array.getElem?_modify.trans ?_
    rw [if_neg (by show ¬ w.heap.size = k; omega)]
    exact h1.block k hk
section
variable {P : Program} {ρ : Ren}
set_option maxHeartbeats 4000000 in
set_option maxRecDepth 100000 in
theorem clone_x (L : LaysM.n316 P ρ) (s : ByteArray) (w : World) (hlim : s.size ≤ 281474976710656) :
    Calls P (ρ.f 316) #[.string s] w fun e w' => e = .returned (.string s) ∧ Ext w w' := by
  have mixed := L.mixed
  have t5 := L.t5; have a5 := L.a5; have z5 := L.z5; have v5 := L.v5
  have t9 := L.t9; have a9 := L.a9; have z9 := L.z9; have v9 := L.v9
  have t3 := L.t3; have a3 := L.a3; have z3 := L.z3; have v3 := L.v3
  have t4 := L.t4; have a4 := L.a4; have z4 := L.z4; have v4 := L.v4
  have t37 := L.t37; have a37 := L.a37; have z37 := L.z37; have v37 := L.v37
  have t0 := L.t0; have a0 := L.a0; have z0 := L.z0; have v0 := L.v0
  have t127 := L.t127; have a127 := L.a127; have z127 := L.z127; have v127 := L.v127
  by_cases h0 : s.size = 0
  · have hs : s = ⟨#[]⟩ := by
      apply ByteArray.ext
      exact Array.eq_empty_of_size_eq_zero h0
    subst hs
    go_enter L.f316, Body.n316_ntmps ρ
    go_wp2
    go_ret
    exact ⟨rfl, Ext.rfl⟩
  · obtain ⟨i0, hi, hz0, hz1, hz2⟩ := info_parts L.i5
    have hinfo : (P.info? (ρ.t 5)).map (·.size) = some 1 := by rw [hi]; simp [hz1]
    have hco : P.cellsOf (ρ.t 5) = 1 := by simp [Program.cellsOf, hi, hz1]
    -- 'make([]byte, len(s))', for the walk to take; what it lays under a name
    obtain ⟨M, hM⟩ : ∃ M, M = madeCells (Value.int .u8 0).cells (((s.size : Nat) : Int).toNat * i0.size) := ⟨_, rfl⟩
    have hMs : M.size = s.size := by rw [hM, size_madeCells, hz1]; simp
    have hmk : ∀ W : World, (Instr.makeSlice (ρ.t 37) (.int .i64 (s.size : Int)) (.int .i64 (s.size : Int))).run P W = .ok (.slice (some ⟨W.heap.size, 0, none⟩) s.size s.size) (W.alloc (.cells M (ρ.t 5))) := fun W => by
      have h := run_make (P := P) W (ρ.t 37) (ρ.t 5) i0 (.int .u8 0) L.t37 hi hz0 .i64 .i64 (s.size : Int) (s.size : Int) (by omega) (by omega) (by rw [hz2]; omega) (by omega)
      rw [← hM] at h
      simpa using h
    clear hM
    -- 'copy(b, s)'
    have hcp := Lib.run_copy_row_string (P := P) (w.alloc (.cells M (ρ.t 5))) (ρ.t 37) (ρ.t 9) (ρ.t 3) (ρ.t 5) w.heap.size 0 s.size s.size s M (ρ.t 5) L.t37 hinfo (heap_alloc_new w _) (Nat.le_refl _) (by omega)
    obtain ⟨Y, hY⟩ : ∃ Y, Y = (M.toList.take 0 ++ Lib.byteCells s.data.toList ++ M.toList.drop (0 + s.size)).toArray := ⟨_, rfl⟩
    rw [← hY] at hcp
    have hYl : Y.toList = Lib.byteCells s.data.toList := by
      rw [hY, List.toList_toArray, List.take_zero, List.nil_append, List.drop_of_length_le (by rw [Array.length_toList]; omega), List.append_nil]
    have hYs : Y.size = s.size := by rw [← Array.length_toList, hYl, Lib.byteCells_length, ← Lib.size_eq]
    have hgY : ((w.alloc (.cells M (ρ.t 5))).setRow w.heap.size Y).heap[w.heap.size]? = some (.cells Y (ρ.t 5) (0, 0)) := setRow_heap _ _ M _ (ρ.t 5) (0, 0) (heap_alloc_new w _)
    -- 'unsafe.String(&b[0], len(b))'
    have hne : s.data.toList ≠ [] := fun e => h0 (by rw [Lib.size_eq, e]; rfl)
    have hUS := Lib.run_unsafeString_row (P := P) ((w.alloc (.cells M (ρ.t 5))).setRow w.heap.size Y) (ρ.t 127) (ρ.t 3) (ρ.t 9) (ρ.t 5) L.t127 hco w.heap.size Y.size (by unfold World.shape?; rw [hgY]) s.data.toList hne (by rw [← Lib.size_eq]; omega) (by rw [← Lib.size_eq]; omega)
      (fun j x hx => Lib.cells_of_row hgY Y.size j _ (by rw [List.take_of_length_le (by rw [Array.length_toList]; exact Nat.le_refl _), hYl]; simp [Lib.byteCells, hx]))
    rw [← Lib.size_eq] at hUS
    clear hY
    go_enter L.f316, Body.n316_ntmps ρ
    go_wp2
    go_ret
    have hb1 : Ext w (w.alloc (.cells M (ρ.t 5))) := ext_alloc _
    have hb2 : Mod (· = w.heap.size) (w.alloc (.cells M (ρ.t 5))) ((w.alloc (.cells M (ρ.t 5))).setRow w.heap.size Y) := ⟨rfl, ⟨rfl, Nat.le_refl _⟩, rfl, by simp, fun k _ hk => setRow_other _ _ _ _ (by omega)⟩
    exact ⟨rfl, ext_fresh hb1 (hb2.trans' (mod_freeze' (g := w.heap.size))) (by simp)⟩
set_option maxHeartbeats 6400000 in
set_option maxRecDepth 100000 in
theorem syntaxError_x (L : LaysM.n279 P ρ) (fn s : ByteArray) (ev : Value) (w : World) (hlim : s.size ≤ 281474976710656) (hv : w.cell? ⟨(ρ.g 15), 0, none⟩ = some ev)
    (hev : ev = .nilIface ∨ ∃ te pe, ev = .iface te pe) :
    Calls P (ρ.f 279) #[.string fn, .string s] w fun e w' => ∃ N, e = .returned (.pointer (some ⟨N, 0, none⟩)) ∧ w.heap.size ≤ N ∧ w'.heap[N]? = some (.cells #[.string fn, .string s, ev] (ρ.t 210) (0, 0)) ∧ Ext w w' := by
  have mixed := L.mixed
  have t9 := L.t9; have a9 := L.a9; have z9 := L.z9; have v9 := L.v9
  have t168 := L.t168; have a168 := L.a168; have z168 := L.z168; have v168 := L.v168
  have t75 := L.t75; have a75 := L.a75; have z75 := L.z75; have v75 := L.v75
  have t210 := L.t210; have u210 := run_underlying L.t210; have a210 := L.a210; have z210 := L.z210; have v210 := L.v210
  have e316 : ∀ args w, (callFunc (ρ.f 316) args).run P w = .ok (.enter (ρ.f 316) args) w := enters_of L.f316 (by kernel_rfl) rfl
  rcases hev with rfl | ⟨te, pe, rfl⟩
  all_goals (
    have hG : (ρ.g 15) < w.heap.size := Lib.lt_of_cell hv
    have hvd : w.drew.cell? ⟨(ρ.g 15), 0, none⟩ = some _ := hv
    go_enter L.f279, Body.n279_ntmps ρ
    go_wp2
    go_region_with_o (
        go_at_fn (ρ.f 316)
        refine (clone_x { L with } s _ hlim).mono ?_
        rintro e w2 ⟨rfl, hbel⟩
        have hv2 : w2.cell? ⟨(ρ.g 15), 0, none⟩ = some _ := ((Ext.below hbel).cell (show (⟨(ρ.g 15), 0, none⟩ : Addr).block < w.drew.heap.size from hG)).trans hvd)
    all_goals (
      go_wp2
      go_ret
      have hs2 : w.heap.size ≤ w2.heap.size := hbel.size
      exact ⟨_, rfl, hs2, heap_alloc_new w2 _, ((ext_drew w).trans hbel).trans (ext_alloc _)⟩))
set_option maxHeartbeats 6400000 in
set_option maxRecDepth 100000 in
theorem rangeError_x (L : LaysM.n280 P ρ) (fn s : ByteArray) (ev : Value) (w : World) (hlim : s.size ≤ 281474976710656) (hv : w.cell? ⟨(ρ.g 16), 0, none⟩ = some ev)
    (hev : ev = .nilIface ∨ ∃ te pe, ev = .iface te pe) :
    Calls P (ρ.f 280) #[.string fn, .string s] w fun e w' => ∃ N, e = .returned (.pointer (some ⟨N, 0, none⟩)) ∧ w.heap.size ≤ N ∧ w'.heap[N]? = some (.cells #[.string fn, .string s, ev] (ρ.t 210) (0, 0)) ∧ Ext w w' := by
  have mixed := L.mixed
  have t9 := L.t9; have a9 := L.a9; have z9 := L.z9; have v9 := L.v9
  have t168 := L.t168; have a168 := L.a168; have z168 := L.z168; have v168 := L.v168
  have t75 := L.t75; have a75 := L.a75; have z75 := L.z75; have v75 := L.v75
  have t210 := L.t210; have u210 := run_underlying L.t210; have a210 := L.a210; have z210 := L.z210; have v210 := L.v210
  have e316 : ∀ args w, (callFunc (ρ.f 316) args).run P w = .ok (.enter (ρ.f 316) args) w := enters_of L.f316 (by kernel_rfl) rfl
  rcases hev with rfl | ⟨te, pe, rfl⟩
  all_goals (
    have hG : (ρ.g 16) < w.heap.size := Lib.lt_of_cell hv
    have hvd : w.drew.cell? ⟨(ρ.g 16), 0, none⟩ = some _ := hv
    go_enter L.f280, Body.n280_ntmps ρ
    go_wp2
    go_region_with_o (
        go_at_fn (ρ.f 316)
        refine (clone_x { L with } s _ hlim).mono ?_
        rintro e w2 ⟨rfl, hbel⟩
        have hv2 : w2.cell? ⟨(ρ.g 16), 0, none⟩ = some _ := ((Ext.below hbel).cell (show (⟨(ρ.g 16), 0, none⟩ : Addr).block < w.drew.heap.size from hG)).trans hvd)
    all_goals (
      go_wp2
      go_ret
      have hs2 : w.heap.size ≤ w2.heap.size := hbel.size
      exact ⟨_, rfl, hs2, heap_alloc_new w2 _, ((ext_drew w).trans hbel).trans (ext_alloc _)⟩))
set_option maxHeartbeats 4000000 in
set_option maxRecDepth 100000 in
theorem toErrorS_x (L : LaysC.n245 P ρ) (fn s : ByteArray) (base bits : Int) (ev : Value) (w : World) (hlim : s.size ≤ 281474976710656) (hv : w.cell? ⟨(ρ.g 15), 0, none⟩ = some ev) (hev : ev = .nilIface ∨ ∃ te pe, ev = .iface te pe) :
    Calls P (ρ.f 245) #[.string fn, .string s, .int .i64 base, .int .i64 bits, .iface (ρ.t 167) (.int .i64 2)] w fun e w' => ∃ N, e = .returned (.iface (ρ.t 168) (.pointer (some ⟨N, 0, none⟩))) ∧ w.heap.size ≤ N ∧ w'.heap[N]? = some (.cells #[.string fn, .string s, ev] (ρ.t 210) (0, 0)) ∧ Ext w w' := by
  have mixed := L.mixed
  have t9 := L.t9; have a9 := L.a9; have z9 := L.z9; have v9 := L.v9
  have t3 := L.t3; have a3 := L.a3; have z3 := L.z3; have v3 := L.v3
  have t75 := L.t75; have a75 := L.a75; have z75 := L.z75; have v75 := L.v75
  have t167 := L.t167; have a167 := L.a167; have z167 := L.z167; have v167 := L.v167
  have t4 := L.t4; have a4 := L.a4; have z4 := L.z4; have v4 := L.v4
  have t168 := L.t168; have a168 := L.a168; have z168 := L.z168; have v168 := L.v168
  have e279 : ∀ args w, (callFunc (ρ.f 279) args).run P w = .ok (.enter (ρ.f 279) args) w := enters_of L.f279 (by kernel_rfl) rfl
  -- 'err == strconv.ErrSyntax', for the walk to take
  have heq : ∀ W, (binOp .eql (ρ.t 75) (.iface (ρ.t 167) (.int .i64 2)) (.iface (ρ.t 167) (.int .i64 2))).run P W = .ok (.bool true) W := fun W => Lib.run_eql_iface_int W 2 2 L.t75 L.c167 L.t167
  go_enter L.f245, Body.n245_ntmps ρ
  go_wp2_with (go_at_fn (ρ.f 279); refine (syntaxError_x { L with } fn s ev _ hlim ?_ hev).mono ?_)
  · exact hv
  rintro e w2 ⟨N, rfl, h1, h2, h3⟩
  go_wp2
  go_ret
  exact ⟨N, rfl, h1, h2, h3⟩
set_option maxHeartbeats 4000000 in
set_option maxRecDepth 100000 in
theorem toErrorR_x (L : LaysC.n245 P ρ) (fn s : ByteArray) (base bits : Int) (ev : Value) (w : World) (hlim : s.size ≤ 281474976710656) (hv : w.cell? ⟨(ρ.g 16), 0, none⟩ = some ev) (hev : ev = .nilIface ∨ ∃ te pe, ev = .iface te pe) :
    Calls P (ρ.f 245) #[.string fn, .string s, .int .i64 base, .int .i64 bits, .iface (ρ.t 167) (.int .i64 1)] w fun e w' => ∃ N, e = .returned (.iface (ρ.t 168) (.pointer (some ⟨N, 0, none⟩))) ∧ w.heap.size ≤ N ∧ w'.heap[N]? = some (.cells #[.string fn, .string s, ev] (ρ.t 210) (0, 0)) ∧ Ext w w' := by
  have mixed := L.mixed
  have t9 := L.t9; have a9 := L.a9; have z9 := L.z9; have v9 := L.v9
  have t3 := L.t3; have a3 := L.a3; have z3 := L.z3; have v3 := L.v3
  have t75 := L.t75; have a75 := L.a75; have z75 := L.z75; have v75 := L.v75
  have t167 := L.t167; have a167 := L.a167; have z167 := L.z167; have v167 := L.v167
  have t4 := L.t4; have a4 := L.a4; have z4 := L.z4; have v4 := L.v4
  have t168 := L.t168; have a168 := L.a168; have z168 := L.z168; have v168 := L.v168
  have e280 : ∀ args w, (callFunc (ρ.f 280) args).run P w = .ok (.enter (ρ.f 280) args) w := enters_of L.f280 (by kernel_rfl) rfl
  -- 'err == strconv.ErrSyntax': no; 'err == strconv.ErrRange': yes: for the walk to take
  have hq12 : ∀ W, (binOp .eql (ρ.t 75) (.iface (ρ.t 167) (.int .i64 1)) (.iface (ρ.t 167) (.int .i64 2))).run P W = .ok (.bool false) W := fun W => Lib.run_eql_iface_int W 1 2 L.t75 L.c167 L.t167
  have hq11 : ∀ W, (binOp .eql (ρ.t 75) (.iface (ρ.t 167) (.int .i64 1)) (.iface (ρ.t 167) (.int .i64 1))).run P W = .ok (.bool true) W := fun W => Lib.run_eql_iface_int W 1 1 L.t75 L.c167 L.t167
  go_enter L.f245, Body.n245_ntmps ρ
  go_wp2_with (go_at_fn (ρ.f 280); refine (rangeError_x { L with } fn s ev _ hlim ?_ hev).mono ?_)
  · exact hv
  rintro e w2 ⟨N, rfl, h1, h2, h3⟩
  go_wp2
  go_ret
  exact ⟨N, rfl, h1, h2, h3⟩
set_option maxHeartbeats 4000000 in
set_option maxRecDepth 100000 in
theorem atoiS_x (L : LaysC.n172 P ρ) (s : ByteArray) (hlim : s.size ≤ 281474976710656) (h : Lib.atoiAll s.data.toList = Lib.atoiAll []) (ev : Value) (w : World) (hv : w.cell? ⟨(ρ.g 15), 0, none⟩ = some ev) (hev : ev = .nilIface ∨ ∃ te pe, ev = .iface te pe) :
    Calls P (ρ.f 172) #[.string s] w fun e w' => ∃ N, e = .returned (.tuple #[.int .i64 (0), .iface (ρ.t 168) (.pointer (some ⟨N, 0, none⟩))]) ∧ w.heap.size ≤ N ∧ w'.heap[N]? = some (.cells #[.string ⟨#[65, 116, 111, 105]⟩, .string s, ev] (ρ.t 210) (0, 0)) ∧ Ext w w' := by
  have mixed := L.mixed
  have t9 := L.t9; have a9 := L.a9; have z9 := L.z9; have v9 := L.v9
  have t3 := L.t3; have a3 := L.a3; have z3 := L.z3; have v3 := L.v3
  have t75 := L.t75; have a75 := L.a75; have z75 := L.z75; have v75 := L.v75
  have t76 := L.t76; have a76 := L.a76; have z76 := L.z76; have v76 := L.v76
  have t4 := L.t4; have a4 := L.a4; have z4 := L.z4; have v4 := L.v4
  have e244 : ∀ args w, (callFunc (ρ.f 244) args).run P w = .ok (.enter (ρ.f 244) args) w := enters_of L.f244 (by kernel_rfl) rfl
  have e245 : ∀ args w, (callFunc (ρ.f 245) args).run P w = .ok (.enter (ρ.f 245) args) w := enters_of L.f245 (by kernel_rfl) rfl
  have hG : (ρ.g 15) < w.heap.size := Lib.lt_of_cell hv
  have hI := Any.internal_strconv_Atoi_all { L with } s (by omega) w
  rw [h] at hI
  obtain ⟨sb0, sb1⟩ := Lib.atoiSat_bounds s.data.toList
  generalize Lib.atoiSat s.data.toList = sat at hI sb0 sb1 ⊢
  have hI : Calls P (ρ.f 244) #[.string s] w fun e w' => e = .returned (.tuple #[.int .i64 (0), .iface (ρ.t 167) (.int .i64 2)]) ∧ (w' = w ∨ ∃ t, w' = Lib.bytesWorld w (ρ.t 5) t) := hI
  clear h
  go_enter L.f172, Body.n172_ntmps ρ
  go_wp2_with (go_at_fn (ρ.f 244); refine hI.mono ?_)
  rintro e W1 ⟨rfl, hW⟩
  have hb1 : Ext w W1 := by
    rcases hW with rfl | ⟨t, rfl⟩
    · exact Ext.rfl
    · exact ext_bytesWorld _ _ _
  have hv1 : W1.cell? ⟨(ρ.g 15), 0, none⟩ = some ev := ((Ext.below hb1).cell (show (⟨(ρ.g 15), 0, none⟩ : Addr).block < w.heap.size from hG)).trans hv
  clear hW
  go_wp2_with (go_at_fn (ρ.f 245); refine (toErrorS_x { L with } ⟨#[65, 116, 111, 105]⟩ s 0 0 ev _ hlim ?_ hev).mono ?_)
  · exact hv1
  rintro e W2 ⟨N, rfl, h1, h2, h3⟩
  go_wp2
  go_ret2
  exact ⟨N, rfl, Nat.le_trans hb1.size h1, h2, hb1.trans h3⟩
set_option maxHeartbeats 4000000 in
set_option maxRecDepth 100000 in
theorem atoiR_x (L : LaysC.n172 P ρ) (s : ByteArray) (hlim : s.size ≤ 281474976710656) (h : Lib.atoiAll s.data.toList = .range) (ev : Value) (w : World) (hv : w.cell? ⟨(ρ.g 16), 0, none⟩ = some ev) (hev : ev = .nilIface ∨ ∃ te pe, ev = .iface te pe) :
    Calls P (ρ.f 172) #[.string s] w fun e w' => ∃ N, e = .returned (.tuple #[.int .i64 (Lib.atoiSat s.data.toList), .iface (ρ.t 168) (.pointer (some ⟨N, 0, none⟩))]) ∧ w.heap.size ≤ N ∧ w'.heap[N]? = some (.cells #[.string ⟨#[65, 116, 111, 105]⟩, .string s, ev] (ρ.t 210) (0, 0)) ∧ Ext w w' := by
  have mixed := L.mixed
  have t9 := L.t9; have a9 := L.a9; have z9 := L.z9; have v9 := L.v9
  have t3 := L.t3; have a3 := L.a3; have z3 := L.z3; have v3 := L.v3
  have t75 := L.t75; have a75 := L.a75; have z75 := L.z75; have v75 := L.v75
  have t76 := L.t76; have a76 := L.a76; have z76 := L.z76; have v76 := L.v76
  have t4 := L.t4; have a4 := L.a4; have z4 := L.z4; have v4 := L.v4
  have e244 : ∀ args w, (callFunc (ρ.f 244) args).run P w = .ok (.enter (ρ.f 244) args) w := enters_of L.f244 (by kernel_rfl) rfl
  have e245 : ∀ args w, (callFunc (ρ.f 245) args).run P w = .ok (.enter (ρ.f 245) args) w := enters_of L.f245 (by kernel_rfl) rfl
  have hG : (ρ.g 16) < w.heap.size := Lib.lt_of_cell hv
  have hI := Any.internal_strconv_Atoi_all { L with } s (by omega) w
  rw [h] at hI
  obtain ⟨sb0, sb1⟩ := Lib.atoiSat_bounds s.data.toList
  generalize Lib.atoiSat s.data.toList = sat at hI sb0 sb1 ⊢
  have hI : Calls P (ρ.f 244) #[.string s] w fun e w' => e = .returned (.tuple #[.int .i64 (sat), .iface (ρ.t 167) (.int .i64 1)]) ∧ (w' = w ∨ ∃ t, w' = Lib.bytesWorld w (ρ.t 5) t) := hI
  clear h
  go_enter L.f172, Body.n172_ntmps ρ
  go_wp2_with (go_at_fn (ρ.f 244); refine hI.mono ?_)
  rintro e W1 ⟨rfl, hW⟩
  have hb1 : Ext w W1 := by
    rcases hW with rfl | ⟨t, rfl⟩
    · exact Ext.rfl
    · exact ext_bytesWorld _ _ _
  have hv1 : W1.cell? ⟨(ρ.g 16), 0, none⟩ = some ev := ((Ext.below hb1).cell (show (⟨(ρ.g 16), 0, none⟩ : Addr).block < w.heap.size from hG)).trans hv
  clear hW
  go_wp2_with (go_at_fn (ρ.f 245); refine (toErrorR_x { L with } ⟨#[65, 116, 111, 105]⟩ s 0 0 ev _ hlim ?_ hev).mono ?_)
  · exact hv1
  rintro e W2 ⟨N, rfl, h1, h2, h3⟩
  go_wp2
  go_ret2
  exact ⟨N, rfl, Nat.le_trans hb1.size h1, h2, hb1.trans h3⟩
end
end Go.K

namespace Go.Txt
open Go
/-- the parts of a text between bytes -/
def cutL (b : UInt8) : List UInt8 → List (List UInt8)
  | [] => [[]]
  | x :: r => if x = b then [] :: cutL b r else match cutL b r with
    | [] => [[x]]
    | h :: t => (x :: h) :: t
theorem cutL_end {b : UInt8} : ∀ {p : List UInt8}, (∀ x ∈ p, x ≠ b) → cutL b p = [p]
  | [], _ => rfl
  | x :: r, h => by
    rw [cutL, if_neg (h x (by simp)), cutL_end (p := r) (fun y hy => h y (by simp [hy]))]
theorem cutL_hit {b : UInt8} {r : List UInt8} : ∀ {p : List UInt8}, (∀ x ∈ p, x ≠ b) → cutL b (p ++ b :: r) = p :: cutL b r
  | [], _ => by rw [List.nil_append, cutL, if_pos rfl]
  | x :: q, h => by
    rw [List.cons_append, cutL, if_neg (h x (by simp)), cutL_hit (p := q) (fun y hy => h y (by simp [hy]))]
theorem cutL_pos (b : UInt8) (l : List UInt8) : 0 < (cutL b l).length := by
  induction l with
  | nil => simp [cutL]
  | cons x r ih =>
    rw [cutL]
    split
    · simp
    · split <;> simp
theorem cut_spec (l : List UInt8) (b : UInt8) : (∃ p r, l = p ++ b :: r ∧ (∀ x ∈ p, x ≠ b) ∧ Lib.cut l [b] = (p, r, true)) ∨ ((∀ x ∈ l, x ≠ b) ∧ Lib.cut l [b] = (l, [], false)) := by
  have hge := Lib.indexByte_ge l b
  by_cases h : Lib.indexByte l b = -1
  · right
    refine ⟨fun x hx e => ?_, ?_⟩
    · obtain ⟨k, hk, rfl⟩ := List.getElem_of_mem hx
      exact Lib.indexByte_none h k (by rw [List.getElem?_eq_getElem hk, e])
    · unfold Lib.cut
      rw [Lib.index_one, if_neg (by omega)]
  · left
    obtain ⟨o, ho⟩ : ∃ o : Nat, Lib.indexByte l b = o := ⟨(Lib.indexByte l b).toNat, by omega⟩
    obtain ⟨h1, h2⟩ := Lib.indexByte_some ho
    have hlt : o < l.length := (List.getElem?_eq_some_iff.1 h1).1
    refine ⟨l.take o, l.drop (o + 1), ?_, fun x hx e => ?_, ?_⟩
    · have : l.drop o = b :: l.drop (o + 1) := by
        rw [List.drop_eq_getElem_cons hlt]
        congr 1
        exact (List.getElem?_eq_some_iff.1 h1).2
      rw [← this, List.take_append_drop]
    · obtain ⟨k, hk, rfl⟩ := List.mem_take_iff_getElem.1 hx
      exact h2 k (by omega) (by rw [List.getElem?_eq_getElem (by omega), e])
    · unfold Lib.cut
      rw [Lib.index_one, ho, if_pos (by omega)]
      simp
theorem split_spec (c : UInt8) : ∀ (k : Nat) (l : List UInt8), l.count c = k → Lib.splitK [c] 0 k l = cutL c l
  | 0, l, h => by
    rw [Lib.splitK, cutL_end]
    intro x hx e
    subst e
    exact absurd (List.count_pos_iff.2 hx) (by omega)
  | k + 1, l, h => by
    rw [Lib.splitK, Lib.index_one]
    have hge := Lib.indexByte_ge l c
    have hm : ¬ Lib.indexByte l c = -1 := fun e => by
      have h0 : c ∈ l := List.count_pos_iff.1 (by omega)
      obtain ⟨j, hj, e2⟩ := List.getElem_of_mem h0
      exact Lib.indexByte_none e j (by rw [List.getElem?_eq_getElem hj, e2])
    rw [if_neg (fun e => hm (beq_iff_eq.1 e))]
    obtain ⟨o, ho⟩ : ∃ o : Nat, Lib.indexByte l c = o := ⟨(Lib.indexByte l c).toNat, by omega⟩
    obtain ⟨h1, h2⟩ := Lib.indexByte_some ho
    have hlt : o < l.length := (List.getElem?_eq_some_iff.1 h1).1
    have hl : l = l.take o ++ c :: l.drop (o + 1) := by
      have : l.drop o = c :: l.drop (o + 1) := by
        rw [List.drop_eq_getElem_cons hlt]
        congr 1
        exact (List.getElem?_eq_some_iff.1 h1).2
      rw [← this, List.take_append_drop]
    have hp : ∀ x ∈ l.take o, x ≠ c := fun x hx e => by
      obtain ⟨k, hk, rfl⟩ := List.mem_take_iff_getElem.1 hx
      exact h2 k (by omega) (by rw [List.getElem?_eq_getElem (by omega), e])
    have hc : (l.drop (o + 1)).count c = k := by
      have h3 := congrArg (List.count c) hl
      rw [h, List.count_append, List.count_cons_self, List.count_eq_zero_of_not_mem (fun hx => hp c hx rfl)] at h3
      omega
    have ih := split_spec c k (l.drop (o + 1)) hc
    rw [ho, Int.toNat_natCast, Nat.add_zero, show o + [c].length = o + 1 from rfl, ih]
    conv => rhs; rw [hl]
    rw [cutL_hit hp]
def isDig (c : UInt8) : Prop := 48 ≤ c.toNat ∧ c.toNat ≤ 57
instance (c : UInt8) : Decidable (isDig c) := inferInstanceAs (Decidable (_ ∧ _))
/-- what digits spell -/
def decVal (acc : Nat) (l : List UInt8) : Nat := l.foldl (fun a c => a * 10 + (c.toNat - 48)) acc
theorem decVal_cons (a : Nat) (c : UInt8) (r : List UInt8) : decVal a (c :: r) = decVal (a * 10 + (c.toNat - 48)) r := by unfold decVal; rw [List.foldl_cons]
theorem decVal_one (a : Nat) (c : UInt8) : decVal a [c] = a * 10 + (c.toNat - 48) := by rw [decVal_cons]; rfl
theorem decVal_app (l : List UInt8) (a : Nat) (m : List UInt8) : decVal a (l ++ m) = decVal (decVal a l) m := by unfold decVal; rw [List.foldl_append]
theorem decVal_ge : ∀ (l : List UInt8) (a : Nat), a ≤ decVal a l
  | [], _ => Nat.le_refl _
  | c :: r, a => by rw [decVal_cons]; have := decVal_ge r (a * 10 + (c.toNat - 48)); omega
theorem dig_nat {u : Nat} (h : u < 10) : (UInt8.ofNat (48 + u)).toNat = 48 + u := by
  rw [UInt8.toNat_ofNat']; omega
theorem dec_spec (u : Nat) : (∀ c ∈ Lib.decDigits u, isDig c) ∧ decVal 0 (Lib.decDigits u) = u ∧ (∃ c r, Lib.decDigits u = c :: r ∧ (c = 48 → u = 0)) ∧ (u = 0 → Lib.decDigits u = [48]) := by
  induction u using Nat.strongRecOn with
  | _ u ih =>
    rw [Lib.decDigits]
    split
    · rename_i h
      have hd := dig_nat h
      refine ⟨fun c hc => ?_, ?_, ⟨_, _, rfl, fun e => ?_⟩, fun e => by subst e; rfl⟩
      · rw [List.mem_singleton] at hc
        subst hc
        unfold isDig; omega
      · rw [decVal_one]; omega
      · have := congrArg UInt8.toNat e
        rw [hd] at this
        have h48 : (48 : UInt8).toNat = 48 := rfl
        omega
    · rename_i h
      obtain ⟨h1, h2, ⟨c, r, h3, h4⟩, _⟩ := ih (u / 10) (by omega)
      have hd := dig_nat (u := u % 10) (by omega)
      refine ⟨fun x hx => ?_, ?_, ⟨c, r ++ [UInt8.ofNat (48 + u % 10)], by rw [h3]; rfl, fun e => ?_⟩, fun e => by omega⟩
      · rcases List.mem_append.1 hx with hx | hx
        · exact h1 x hx
        · rw [List.mem_singleton] at hx
          subst hx
          unfold isDig; omega
      · rw [decVal_app, h2]
        rw [decVal_one]; omega
      · have := h4 e
        omega
theorem dec_uniq : ∀ (n : Nat) (l : List UInt8), l.length = n → (∀ c ∈ l, isDig c) → (l = [48] ∨ ∃ c r, l = c :: r ∧ c ≠ 48) → Lib.decDigits (decVal 0 l) = l
  | 0, l, h, _, hh => by
    rcases hh with rfl | ⟨c, r, rfl, _⟩ <;> simp at h
  | n + 1, l, h, hd, hh => by
    obtain ⟨r, d, rfl⟩ : ∃ r d, l = r ++ [d] := ⟨l.dropLast, l.getLast (by intro e; subst e; simp at h), (List.dropLast_concat_getLast _).symm⟩
    have hdd := hd d (by simp)
    unfold isDig at hdd
    have hdn : UInt8.ofNat d.toNat = d := by simp
    cases r with
    | nil =>
      have e1 : decVal 0 ([] ++ [d]) = d.toNat - 48 := by rw [List.nil_append, decVal_one]; omega
      rw [e1, Lib.decDigits, dif_pos (by omega), show 48 + (d.toNat - 48) = d.toNat from by omega, hdn]; rfl
    | cons c q =>
      have hc : c ≠ 48 := by
        rcases hh with hh | ⟨c', r', hh, hc⟩
        · simp at hh
        · simp only [List.cons_append, List.cons.injEq] at hh
          rw [hh.1]; exact hc
      have hcd := hd c (by simp)
      unfold isDig at hcd
      have hcn : c.toNat ≠ 48 := fun e => hc (UInt8.toNat_inj.1 e)
      have ih := dec_uniq n (c :: q) (by simpa using h) (fun x hx => hd x (by simp at hx ⊢; rcases hx with e | e <;> simp [e])) (.inr ⟨c, q, rfl, hc⟩)
      have hpos : 1 ≤ decVal 0 (c :: q) := by
        have := decVal_ge q (0 * 10 + (c.toNat - 48))
        rw [decVal_cons]; omega
      have e1 : decVal 0 ((c :: q) ++ [d]) = decVal 0 (c :: q) * 10 + (d.toNat - 48) := by rw [decVal_app, decVal_one]
      rw [e1, Lib.decDigits, dif_neg (by omega), show (decVal 0 (c :: q) * 10 + (d.toNat - 48)) / 10 = decVal 0 (c :: q) from by omega, ih,
        show 48 + (decVal 0 (c :: q) * 10 + (d.toNat - 48)) % 10 = d.toNat from by omega, hdn]
theorem parse_digs : ∀ (l : List UInt8) (acc : Nat), (∀ c ∈ l, isDig c) → (acc + 1) * 10 ^ l.length ≤ 10 ^ 18 → Lib.parseUint10 acc l = .ok (decVal acc l)
  | [], _, _, _ => rfl
  | c :: r, acc, hd, hb => by
    have hc := hd c (by simp)
    unfold isDig at hc
    rw [List.length_cons, Nat.pow_succ, Nat.mul_comm (10 ^ r.length) 10, ← Nat.mul_assoc] at hb
    have hp : 1 ≤ 10 ^ r.length := Nat.pos_of_ne_zero (by simp)
    have h1 : (acc + 1) * 10 ≤ 10 ^ 18 := Nat.le_trans (Nat.le_mul_of_pos_right _ hp) hb
    have h18 : (10 : Nat) ^ 18 = 1000000000000000000 := rfl
    rw [Lib.parseUint10, if_pos hc, if_neg (by omega), if_neg (by omega), decVal_cons]
    refine parse_digs r _ (fun x hx => hd x (by simp [hx])) (Nat.le_trans (Nat.mul_le_mul_right _ ?_) hb)
    omega
/-- a word's number, as the program reads it -/
def numL (s : List UInt8) : Option Int := if s.length ≤ 6 then match Lib.atoiAll s with
  | .ok v => if Lib.itoa v = s then some v else none
  | _ => none else none
/-- and as the document's own program does -/
def minusL (s : List UInt8) : Bool := s.head? == some 45
def digsL (s : List UInt8) : List UInt8 := if minusL s then s.tail else s
def rbadL (s : List UInt8) : Bool := decide (6 < s.length) || (digsL s).isEmpty || ((digsL s).head? == some 48 && (decide (1 < (digsL s).length) || minusL s))
def rnumL (s : List UInt8) : Option Int := if rbadL s = true then none else if (∀ c ∈ digsL s, isDig c) then some (if minusL s then -(decVal 0 (digsL s) : Int) else decVal 0 (digsL s)) else none
theorem atoi_itoa {v : Int} (h : (Lib.itoa v).length ≤ 6) : Lib.atoiAll (Lib.itoa v) = .ok v := by
  have key : ∀ u : Nat, (Lib.decDigits u).length ≤ 6 → Lib.parseMag (Lib.decDigits u) = .ok u ∧ u < 10 ^ 18 := fun u hu => by
    obtain ⟨h1, h2, ⟨c, r, h3, _⟩, _⟩ := dec_spec u
    have hb : (0 + 1) * 10 ^ (Lib.decDigits u).length ≤ 10 ^ 18 := by
      rw [Nat.zero_add, Nat.one_mul]
      exact Nat.pow_le_pow_right (by decide) (by omega)
    have hp := parse_digs (Lib.decDigits u) 0 h1 hb
    rw [h2] at hp
    refine ⟨?_, ?_⟩
    · unfold Lib.parseMag
      rw [if_neg (by rw [h3]; simp)]; exact hp
    · have h4 := Lib.lt_pow_nDigits u
      rw [← Lib.decDigits_length] at h4
      exact Nat.lt_of_lt_of_le h4 (Nat.pow_le_pow_right (by decide) (by omega))
  unfold Lib.itoa at h ⊢
  split at h
  · rename_i hn
    rw [if_pos hn]
    obtain ⟨k1, k2⟩ := key v.natAbs (by simp at h; omega)
    unfold Lib.atoiAll
    have e45 : ((45 : UInt8).toNat = 43 ∨ (45 : UInt8).toNat = 45) := .inr rfl
    have e45' : (45 : UInt8).toNat = 45 := rfl
    have h18 : (10 : Nat) ^ 18 = 1000000000000000000 := rfl
    simp only [if_pos e45, k1]
    rw [if_neg (by omega), if_neg (by omega), if_pos e45']
    congr 1
    omega
  · rename_i hn
    rw [if_neg hn]
    obtain ⟨k1, k2⟩ := key v.toNat h
    obtain ⟨h1, _, ⟨c, r, h3, _⟩, _⟩ := dec_spec v.toNat
    have hc := h1 c (by rw [h3]; simp)
    unfold isDig at hc
    have h18 : (10 : Nat) ^ 18 = 1000000000000000000 := rfl
    unfold Lib.atoiAll
    rw [h3] at k1 ⊢
    simp only [if_neg (show ¬ (c.toNat = 43 ∨ c.toNat = 45) by omega), k1]
    rw [if_neg (by omega), if_neg (by omega), if_neg (by omega)]
    congr 1
    omega
theorem numL_iff (s : List UInt8) (v : Int) : numL s = some v ↔ s.length ≤ 6 ∧ s = Lib.itoa v := by
  unfold numL
  constructor
  · intro h
    split at h
    · rename_i hl
      split at h
      · split at h
        · rename_i he
          cases h
          exact ⟨hl, he.symm⟩
        · cases h
      · cases h
    · cases h
  · rintro ⟨hl, rfl⟩
    rw [if_pos hl, atoi_itoa hl]
    simp
theorem rnumL_iff (s : List UInt8) (v : Int) : rnumL s = some v ↔ s.length ≤ 6 ∧ s = Lib.itoa v := by
  unfold rnumL
  constructor
  · intro h
    split at h
    · cases h
    · rename_i hb
      unfold rbadL at hb
      rw [Bool.not_eq_true, Bool.or_eq_false_iff, Bool.or_eq_false_iff, decide_eq_false_iff_not] at hb
      obtain ⟨⟨hl, he⟩, hz⟩ := hb
      split at h
      · rename_i hd
        refine ⟨by omega, ?_⟩
        simp only [Option.some.injEq] at h
        obtain ⟨c, r, hcr⟩ : ∃ c r, digsL s = c :: r := by
          cases hh : digsL s with
          | nil => rw [hh] at he; simp at he
          | cons c r => exact ⟨c, r, rfl⟩
        cases hm : minusL s with
        | true =>
          rw [hm] at h hz
          have hs : s = 45 :: digsL s := by
            unfold minusL at hm
            unfold digsL
            cases s with
            | nil => simp at hm
            | cons x q =>
              simp at hm
              subst hm
              simp [minusL]
          have hc48 : c ≠ 48 := fun e => by rw [hcr, e] at hz; simp at hz
          have hu := dec_uniq _ (digsL s) rfl hd (.inr ⟨c, r, hcr, hc48⟩)
          have hpos : 1 ≤ decVal 0 (digsL s) := by
            have hcd := hd c (by rw [hcr]; simp)
            unfold isDig at hcd
            have hcn : c.toNat ≠ 48 := fun e => hc48 (UInt8.toNat_inj.1 e)
            rw [hcr, decVal_cons]
            have := decVal_ge r (0 * 10 + (c.toNat - 48))
            omega
          simp only [if_true] at h
          subst h
          unfold Lib.itoa
          rw [if_pos (by omega), show (-(decVal 0 (digsL s) : Int)).natAbs = decVal 0 (digsL s) from by omega, hu]
          exact hs
        | false =>
          rw [hm] at h hz
          have hs : digsL s = s := by unfold digsL; rw [hm]; simp
          rw [hs] at hcr hd hz
          have hcond : s = [48] ∨ ∃ c r, s = c :: r ∧ c ≠ 48 := by
            by_cases hc : c = 48
            · left
              subst hc
              rw [hcr] at hz ⊢
              simp at hz
              rw [hz]
            · exact .inr ⟨c, r, hcr, hc⟩
          have hu := dec_uniq _ s rfl hd hcond
          rw [hs] at h
          simp only [Bool.false_eq_true, if_false] at h
          subst h
          unfold Lib.itoa
          rw [if_neg (by omega), Int.toNat_natCast, hu]
      · cases h
  · rintro ⟨hl, rfl⟩
    unfold Lib.itoa at hl ⊢
    split at hl
    · rename_i hn
      rw [if_pos hn]
      obtain ⟨h1, h2, ⟨c, r, h3, h4⟩, _⟩ := dec_spec v.natAbs
      have hm : minusL (45 :: Lib.decDigits v.natAbs) = true := by simp [minusL]
      have hds : digsL (45 :: Lib.decDigits v.natAbs) = Lib.decDigits v.natAbs := by unfold digsL; rw [hm]; simp
      have hb : rbadL (45 :: Lib.decDigits v.natAbs) = false := by
        unfold rbadL
        rw [hds, hm, h3]
        have hc : ¬ c = 48 := fun e => by have := h4 e; omega
        rw [h3] at hl
        simp [hc]
        simp at hl
        omega
      rw [if_neg (by rw [hb]; simp), hds, hm, if_pos h1, h2]
      simp only [if_true, Option.some.injEq]
      omega
    · rename_i hn
      rw [if_neg hn]
      obtain ⟨h1, h2, ⟨c, r, h3, h4⟩, h5⟩ := dec_spec v.toNat
      have hcd := h1 c (by rw [h3]; simp)
      unfold isDig at hcd
      have hm : minusL (Lib.decDigits v.toNat) = false := by
        rw [h3]
        have : c ≠ 45 := fun e => by subst e; have e45 : (45 : UInt8).toNat = 45 := rfl; omega
        simp [minusL, this]
      have hds : digsL (Lib.decDigits v.toNat) = Lib.decDigits v.toNat := by unfold digsL; rw [hm]; simp
      have hb : rbadL (Lib.decDigits v.toNat) = false := by
        unfold rbadL
        rw [hds, hm]
        by_cases hc : c = 48
        · rw [h5 (h4 hc)]; decide
        · rw [h3] at hl ⊢
          simp [hc]
          simp at hl
          omega
      rw [if_neg (by rw [hb]; simp), hds, hm, if_pos h1, h2]
      simp only [Bool.false_eq_true, if_false, Option.some.injEq]
      omega
/-- **both readings are one** -/
theorem rnum_eq (s : List UInt8) : rnumL s = numL s := by
  cases h : numL s with
  | none =>
    cases k : rnumL s with
    | none => rfl
    | some v => rw [(numL_iff s v).2 ((rnumL_iff s v).1 k)] at h; cases h
  | some v => exact (rnumL_iff s v).2 ((numL_iff s v).1 h)
end Go.Txt

namespace Go.K
open Go Go.RowKit Go.Shelf Go.Proofs
abbrev encS (s : ByteArray) : List Value := [.string s]
theorem encS_ok : Enc 1 encS := ⟨fun _ => rfl, fun _ => rfl, by decide⟩
/-- a variable that holds some number -/
def IntV (b : Nat) : Res where
  A B w := (∀ k, B k ↔ k = b) ∧ ∃ m, w.cell? ⟨b, 0, none⟩ = some (.int .i64 m)
  loc _ w w' h hA := ⟨hA.1, let ⟨m, hm⟩ := hA.2; ⟨m, by
    have := h b ((hA.1 b).2 rfl)
    simp only [World.cell?] at hm ⊢
    rw [this]; exact hm⟩⟩
/-- a variable that holds some error, or none -/
def ErrV (b : Nat) : Res where
  A B w := (∀ k, B k ↔ k = b) ∧ ∃ v, w.cell? ⟨b, 0, none⟩ = some v ∧ (v = .nilIface ∨ ∃ te pe, v = .iface te pe)
  loc _ w w' h hA := ⟨hA.1, let ⟨m, hm, hv⟩ := hA.2; ⟨m, by
    have := h b ((hA.1 b).2 rfl)
    simp only [World.cell?] at hm ⊢
    rw [this]; exact hm, hv⟩⟩
theorem ext_drewN (w : World) (n : Nat) : Ext w (w.drewN n) := ⟨rfl, ⟨rfl, Nat.le_add_right _ _⟩, rfl, Nat.le_refl _, fun _ _ => rfl⟩
section
variable {P : Program} {ρ : Ren}
abbrev mkB (l : List UInt8) : ByteArray := ⟨l.toArray⟩
def cutV (s sep : ByteArray) : Value := .tuple #[.string (mkB (Lib.cut s.data.toList sep.data.toList).1), .string (mkB (Lib.cut s.data.toList sep.data.toList).2.1), .bool (Lib.cut s.data.toList sep.data.toList).2.2]
theorem cut_pure (L : Lays.n145 P ρ) (s sep : ByteArray) (w : World) (hs : s.size < 4294967281) (hm : Has w (IntV (ρ.g 1))) : Calls P (ρ.f 145) #[.string s, .string sep] w (Pure (cutV s sep) w) := by
  obtain ⟨_, _, _, m, hm⟩ := hm
  refine (Any.strings_Cut L s sep m w hs hm).mono ?_
  rintro e w' ⟨rfl, n, rfl⟩
  exact ⟨rfl, ext_drewN w n⟩
def splitL (s : ByteArray) (c : UInt8) : List ByteArray := Lib.splitB ⟨#[c]⟩ 0 (Lib.countB s ⟨#[c]⟩) s
theorem splitL_data (s : ByteArray) (c : UInt8) : (splitL s c).map (·.data.toList) = Txt.cutL c s.data.toList := by
  unfold splitL
  rw [Lib.splitB_data]
  exact Txt.split_spec c _ _ (by rw [← Lib.count_one])
theorem split_gives (L : Lays.n146 P ρ) (hi9 : (P.info? (ρ.t 9)).map (fun i => (i.zero, i.size, i.bytes)) = some (some (.string ByteArray.empty), 1, 16)) (s : ByteArray) (c : UInt8) (w : World) (hs : s.size < 4294967281) (hm : Has w (IntV (ρ.g 1))) :
    Calls P (ρ.f 146) #[.string s, .string ⟨#[c]⟩] w (Gives (fun b : Nat => .slice (some ⟨b, 0, none⟩) (splitL s c).length (splitL s c).length) (fun b => Row (some ⟨b, 0, none⟩) 1 (splitL s c).length (ρ.t 9) encS (splitL s c)) w) := by
  obtain ⟨_, _, _, m, hm⟩ := hm
  have hlen : (splitL s c).length = Lib.countB s ⟨#[c]⟩ + 1 := Lib.splitB_all _ (show 1 ≤ (⟨#[c]⟩ : ByteArray).size from Nat.le_refl 1) 0 _ s rfl
  refine (Any.strings_Split L hi9 s ⟨#[c]⟩ m w hs hm (show 1 ≤ (⟨#[c]⟩ : ByteArray).size from Nat.le_refl 1)).mono ?_
  rintro e w' ⟨rfl, rfl⟩
  refine ⟨w.heap.size, by rw [hlen], ext_alloc _, (· = w.heap.size), fun k hk => by subst hk; simp, .inr ⟨w.heap.size, 0, (splitL s c).map Value.string, rfl, fun _ => Iff.rfl, World.alloc_heap_new w _, Nat.le_refl _, by simp, ?_⟩⟩
  rw [List.drop_zero, Nat.mul_one, ← List.length_map (f := Value.string), List.take_length]
  induction splitL s c with
  | nil => rfl
  | cons x r ih => rw [List.map_cons, List.flatMap_cons, ih]; rfl
def isNilI : Value → Bool
  | .nilIface => true
  | _ => false
def atoiV (s : ByteArray) : Int := match Lib.atoiAll s.data.toList with
  | .ok v => v
  | .range => Lib.atoiSat s.data.toList
  | _ => 0
def atoiB (s : ByteArray) : Bool := match Lib.atoiAll s.data.toList with
  | .ok _ => true
  | _ => false
theorem atoi_gives (L : LaysC.n172 P ρ) (s : ByteArray) (w : World) (hs : s.size ≤ 281474976710656) (h15 : Has w (ErrV (ρ.g 15))) (h16 : Has w (ErrV (ρ.g 16))) :
    Calls P (ρ.f 172) #[.string s] w (Gives (fun v : {v : Value // (v = .nilIface ∨ ∃ u z, v = .iface u z) ∧ isNilI v = atoiB s} => .tuple #[.int .i64 (atoiV s), v.1]) (fun _ => Emp) w) := by
  have emp : ∀ {w' : World}, New w w' Emp := fun {_} => ⟨fun _ => False, fun _ h => h.elim, trivial⟩
  cases h : Lib.atoiAll s.data.toList with
  | ok v =>
    refine (Any.strconv_Atoi_ok L s (by omega) v h w).mono ?_
    rintro e w' ⟨rfl, hw⟩
    refine ⟨⟨.nilIface, .inl rfl, by simp [atoiB, h, isNilI]⟩, by simp [atoiV, h], ?_, emp⟩
    rcases hw with rfl | ⟨t, rfl⟩
    · exact Ext.rfl
    · exact ext_bytesWorld _ _ _
  | range =>
    obtain ⟨_, _, _, ev, hv, hev⟩ := h16
    refine (atoiR_x L s hs h ev w hv hev).mono ?_
    rintro e w' ⟨N, rfl, _, _, hx⟩
    exact ⟨⟨.iface (ρ.t 168) (.pointer (some ⟨N, 0, none⟩)), .inr ⟨_, _, rfl⟩, by simp [atoiB, h, isNilI]⟩, by simp [atoiV, h], hx, emp⟩
  | _ =>
    obtain ⟨_, _, _, ev, hv, hev⟩ := h15
    refine (atoiS_x L s hs h ev w hv hev).mono ?_
    rintro e w' ⟨N, rfl, _, _, hx⟩
    exact ⟨⟨.iface (ρ.t 168) (.pointer (some ⟨N, 0, none⟩)), .inr ⟨_, _, rfl⟩, by simp [atoiB, h, isNilI]⟩, by simp [atoiV, h], hx, emp⟩
end
section
variable {c : Cx} {ds : List Deferred} {T : List (Nat × Value)} {H : List Res} {d : Option Nat} {ty : TypeId} {ps : String} {af : Array Edge} {g : Option (Nat × Bool)} {x y z : Operand}
theorem y_ifaceNil {t t' : TypeId} {v : Value} (ht : c.P.underlying t = some (.interface (c.P.methodsAt t))) (hx : evo T x = some v) (hv : v = .nilIface ∨ ∃ u z, v = .iface u z) :
    Y c ds H T ⟨d, .binOp .eql t x (.const .nilIface) t', ty, ps, af, g⟩ (.bool (isNilI v)) :=
  y_run fun a w ha _ => by
    have hxe := ha.eval hx
    have hye : a.eval (.const .nilIface) = .nilIface := rfl
    simp only [execOp, hxe, hye]
    rcases hv with rfl | ⟨u, z, rfl⟩
    · have hg : (eqGuard .eql t x (.const .nilIface) .nilIface .nilIface).run c.P w = .ok () w := by rw [eqGuard_nil_constR]; rfl
      refine run_val ?_
      rw [run_bind_ok hg]
      exact run_eql_nil_nil w t ht
    · have hg : (eqGuard .eql t x (.const .nilIface) (.iface u z) .nilIface).run c.P w = .ok () w := rfl
      refine run_val ?_
      rw [run_bind_ok hg]
      exact run_eql_held_nil w t u z ht
theorem y_strSliceLH {t : TypeId} {s : ByteArray} {kl kh : IntKind} {lo hi : Int} (ht : c.P.underlying t = some .string) (hx : evo T x = some (.string s)) (hl : evo T y = some (.int kl lo)) (hh : evo T z = some (.int kh hi)) (h0 : 0 ≤ lo) (h1 : lo ≤ hi) (h2 : hi ≤ (s.size : Int)) :
    Y c ds H T ⟨d, .slice t x (some y) (some z) none, ty, ps, af, g⟩ (.string (s.extract lo.toNat hi.toNat)) :=
  y_run fun a w ha _ => by
    simp only [execOp, ha.eval hx, Option.map_some, ha.eval hl, ha.eval hh, Option.map_none]
    refine run_val ?_
    rw [run_sliceAt_string _ _ _ _ _ _ ht, run_slice_string_if _ _ _ _ _ _ _ ht, if_pos ⟨by omega, h2⟩, if_pos ⟨h0, h1⟩]
theorem y_strSliceL {t : TypeId} {s : ByteArray} {kl : IntKind} {lo : Int} (ht : c.P.underlying t = some .string) (hx : evo T x = some (.string s)) (hl : evo T y = some (.int kl lo)) (h0 : 0 ≤ lo) (h1 : lo ≤ (s.size : Int)) :
    Y c ds H T ⟨d, .slice t x (some y) none none, ty, ps, af, g⟩ (.string (s.extract lo.toNat s.size)) :=
  y_run fun a w ha _ => by
    simp only [execOp, ha.eval hx, Option.map_some, ha.eval hl, Option.map_none]
    refine run_val ?_
    rw [run_sliceAt_string _ _ _ _ _ _ ht]
    unfold Instr.slice
    rw [run_bind_ok (run_underlying' ht)]
    simp [Instr.sliceBounds, Instr.sliceBound, asIntOf, h0, h1]
end
end Go.K

namespace Go.Proofs.YtmpaebfjnjmmlaaGreatDoor
open Go Go.K Go.Stn Go.ChangeShapes Go.WideShapes Go.ChangeAt Go.RowKit
abbrev laidR : List (String × DataW Unit) := Rows.stoneReadsRow.laid
noncomputable def worldR (os : Os) : World := (World.doorLaid Tryz.prog 400 os).layVars Tryz.prog [("unicode/utf8.first", Go.Pinned.utf8First)]
theorem worldR_os (os : Os) : (worldR os).os = os := World.layVars_os _ _ _
theorem door_metR (os : Os) (args : Array Value) : laidMetH Tryz.prog laidR ((worldR os).forCall (fun _ _ => 0) ⟨#[], args, []⟩).memory :=
  laidMetH_of_parts3 (fuel := 8) (laidMet_of_run' 8 (by kernel_rfl) (by kernel_rfl)) (by kernel_rfl) (by kernel_rfl)
section
variable {H : Type} {enc : TypeId × Value → H}
theorem returnsInHanded_of_change_and_shaped {a : Assume} {C : Checked} {os : Os} {f : FuncId} {fn : Func} {s : ChangeSpec} {conds : List PathCond} {apart fresh handsOn again : Bool} {X : World → Array Value → Prop}
    (hX : ∀ (w w' : World) (args : Array Value), w.heap = w'.heap → X w args → X w' args)
    (own : ownKnob C.prog.godebug = none) (started : os.Started) (noInit : C.prog.inits.idxOf? f = none) (hfn : C.prog.funcs[f]? = some fn)
    (witness : ∃ (w : World) (tape : Tape) (i : Input), w.os = os ∧ (w.forCall tape i).Shaped C.prog ∧ i.vars = [] ∧ Input.okWide C.prog (w.forCall tape i) .any w.heap.size f i ∧
      ((s.pre enc C.prog fn conds apart (w.forCall tape i).memory i.args ∧ X (w.forCall tape i).memory i.args) ∧ sizedMet enc C.prog fn (OpenSpec.ofChange s) apart (w.forCall tape i).memory i.args) ∧ a.holds C.prog (lone (Frame.enter C.prog f i.args .normal) [] (w.forCall tape i)))
    (contract : ∀ (W : World) (base : Nat) (args : Array Value) (ds gs : List (DataW H)) (before : List MemPlace),
      (∀ (j : Nat) t v, fn.params[j]? = some t → args[j]? = some v → Value.okWide C.prog W .any base t v) →
      DataW.Whole enc C.prog fn.params.toList s.vars apart W args.toList ds gs before →
      conds.all (PathCond.test C.prog ⟨fn.params.toList, ds, s.plain.varTypes C.prog, gs⟩) = true →
      (DataW.weightsEach C.prog (fn.params.toList ++ s.plain.varTypes C.prog) (ds ++ gs)).all (· ≤ reachBytes) = true → X W args →
      W.ShapedOpen C.prog →
      Calls C.prog f args W fun e W' => ∃ v, e = .returned v ∧ s.post enc C.prog fn apart fresh handsOn again W args v W') :
    ReturnsInHanded a C os f .any (fun w args => (s.pre enc C.prog fn conds apart w args ∧ X w args) ∧ sizedMet enc C.prog fn (OpenSpec.ofChange s) apart w args) (s.post enc C.prog fn apart fresh handsOn again) := by
  refine returnsInHanded_of_calls own started noInit witness ?_
  intro w tape i _ hsh _ hok hpre _
  obtain ⟨_, _, _, fn', hfn', _, _, _, _, hval⟩ := hok
  have e : fn' = fn := Option.some.inj (hfn'.symm.trans hfn)
  subst e
  obtain ⟨⟨⟨ds, gs, before, hw, hc⟩, hx⟩, hz⟩ := hpre
  have hw' := DataW.Whole.of_heap (w' := w.forCall tape i) (by rfl) hw
  refine (contract (w.forCall tape i) w.heap.size i.args ds gs before hval hw' hc (hz.weights hw) (hX _ _ _ (by rfl) hx) hsh).mono fun e W' ⟨v, he, hp⟩ => ?_
  subst he
  exact ChangeSpec.post_blind hp
end
theorem cell_lt {W : World} {b o : Nat} {v : Value} (h : W.cell? ⟨b, o, none⟩ = some v) : b < W.heap.size := by
  rcases Nat.lt_or_ge b W.heap.size with g | g
  · exact g
  · exfalso
    simp [World.cell?, Array.getElem?_eq_none g] at h
theorem int_of_shape {W : World} (h : W.ShapedOpen Tryz.prog) : Has W (IntV 1) := by
  obtain ⟨m, hm⟩ := cell_of_shapedOpen_int (P := Tryz.prog) (g := 1) (t := 3) (zero := #[.int .i64 0]) (k := .i64) h (of_decide_eq_true (by kernel_rfl)) (by kernel_rfl) rfl (by kernel_rfl) (by kernel_rfl) Tryz.underlying3
  exact ⟨(· = 1), fun k hk => by rw [hk]; exact cell_lt hm, fun _ => Iff.rfl, m, hm⟩
theorem errV_at {W : World} {l : List (String × DataW Unit)} {n nm : String} {d : DataW Unit} {b : Nat} (h : laidMetH Tryz.prog l W) (hm : (n, .iface nm d) ∈ l) (hd : (DataW.iface nm d).handleName?.isNone = true) (hb : Tryz.prog.globalNamed n = some b) (ht : (Tryz.prog.globals[b]?).map (·.type) = some 68) : Has W (ErrV b) := by
  obtain ⟨g, t, cs, fuel, p, hg', ht', hv, hd'⟩ := laid_plain h hm hd
  obtain rfl := Option.some.inj (hb.symm.trans hg')
  obtain rfl := Option.some.inj (ht.symm.trans ht')
  obtain ⟨f1, u, v, hcs, _, _⟩ := iface_of_trod Tryz.underlying68 hd'
  have hc : W.cell? ⟨b, 0, none⟩ = some (.iface u v) := by
    rw [World.var?_cell hb hv 0]
    obtain ⟨l0⟩ := cs
    have : l0 = [.iface u v] := hcs
    subst this; rfl
  exact ⟨(· = b), fun k hk => by rw [hk]; exact cell_lt hc, fun _ => Iff.rfl, .iface u v, hc, .inr ⟨u, v, rfl⟩⟩
theorem err3_of_laid {W : World} {l : List (String × DataW Unit)} (h : laidMetH Tryz.prog l W) (hm : ("strconv.ErrSyntax", Rows.laid_strconv_ErrSyntax) ∈ l) : Has W (ErrV 3) := errV_at h hm (by kernel_rfl) (by kernel_rfl) (by kernel_rfl)
theorem err4_of_laid {W : World} {l : List (String × DataW Unit)} (h : laidMetH Tryz.prog l W) (hm : ("strconv.ErrRange", Rows.laid_strconv_ErrRange) ∈ l) : Has W (ErrV 4) := errV_at h hm (by kernel_rfl) (by kernel_rfl) (by kernel_rfl)
end Go.Proofs.YtmpaebfjnjmmlaaGreatDoor

namespace Go.Proofs.YtmpaebfjnjmmlaaGreatDoor
open Go.K Go.Stn Go.RowKit
theorem tf3 : TF Tryz.prog 3 false 1 (.int IntKind.i64 0) := ⟨by kernel_rfl, by kernel_rfl⟩
theorem tf50 : TF Tryz.prog 50 true 2 (.agg #[.int IntKind.i64 0, .int IntKind.i64 0]) := ⟨by kernel_rfl, by kernel_rfl⟩
theorem fo26_0 : FO Tryz.prog 26 0 0 := ⟨by kernel_rfl⟩
theorem fo26_1 : FO Tryz.prog 26 1 1 := ⟨by kernel_rfl⟩
theorem fo50_0 : FO Tryz.prog 50 0 0 := ⟨by kernel_rfl⟩
theorem fo50_1 : FO Tryz.prog 50 1 1 := ⟨by kernel_rfl⟩
theorem se71 : SE Tryz.prog 71 3 1 := ⟨Tryz.underlying71, by kernel_rfl⟩
theorem en34 : En Tryz.prog 34 := en_of Tryz.func34 (by kernel_rfl) (by kernel_rfl)
theorem en68 : En Tryz.prog 68 := en_of Tryz.func68 (by kernel_rfl) (by kernel_rfl)
theorem en84 : En Tryz.prog 84 := en_of Tryz.func84 (by kernel_rfl) (by kernel_rfl)
theorem en85 : En Tryz.prog 85 := en_of Tryz.func85 (by kernel_rfl) (by kernel_rfl)
theorem en125 : En Tryz.prog 125 := en_of Tryz.func125 (by kernel_rfl) (by kernel_rfl)
theorem en148 : En Tryz.prog 148 := en_of Tryz.func148 (by kernel_rfl) (by kernel_rfl)
theorem bd50_0i_1i (x0 : Int) (x1 : Int) (w : World) : (Instr.build 50 #[(0, .int .i64 x0), (1, .int .i64 x1)]).run Tryz.prog w = .ok (.agg #[.int .i64 x0, .int .i64 x1]) w := by kernel_rfl
theorem bs71_2 (x0_0 : Int) (x1_0 : Int) (w : World) : (Instr.buildSlice 71 2 #[(0, .int .i64 x0_0), (1, .int .i64 x1_0)]).run Tryz.prog w = .ok (.slice (some ⟨w.heap.size, 0, none⟩) 2 2) (w.alloc (.cells (([x0_0, x1_0] : List (Int)).flatMap Go.Stn.encI).toArray 3)) := by kernel_rfl
theorem mixed : Tryz.prog.follows .mixedOrders = true := by kernel_rfl
set_option maxRecDepth 100000 in
set_option maxHeartbeats 1000000 in
theorem sub_c (p q : Pt) (w : World)  :
    Calls Tryz.prog 84 #[.agg #[.int .i64 p.x, .int .i64 p.z], .agg #[.int .i64 q.x, .int .i64 q.z]] w (Pure (ptV (subW p q)) w) := by
  refine calls_of_gk (vs := [_, _]) Tryz.func84 rfl rfl (Nat.le_of_ble_eq_true rfl) ?_
  refine gk_seq ?_
  refine gk_region ?_
  refine gk_yx rfl rfl (yx_box (vs := [_, _]) rfl rfl) fun b2 => ?_
  refine gk_yx rfl rfl (yx_box (vs := [_, _]) rfl rfl) fun b3 => ?_
  refine gk_yx rfl rfl (yx_alloc tf50 (zs := [_, _]) rfl) fun b4 => ?_
  refine gk_nil (gk_sub (T' := [(2,_), (3,_), (4,_)]) ⟨rfl, rfl, rfl, trivial⟩ ?_)
  refine gk_seq ?_
  refine gk_region ?_
  refine gk_y rfl rfl (y_fieldAddr fo50_0 rfl) ?_
  refine gk_y rfl rfl (y_loadB1 2 tf3 rfl rfl rfl) ?_
  refine gk_y rfl rfl (y_fieldAddr fo50_0 rfl) ?_
  refine gk_y rfl rfl (y_loadB1 1 tf3 rfl rfl rfl) ?_
  refine gk_y rfl rfl (y_sub rfl rfl) ?_
  refine gk_y rfl rfl (y_fieldAddr fo50_1 rfl) ?_
  refine gk_y rfl rfl (y_loadB1 2 tf3 rfl rfl rfl) ?_
  refine gk_y rfl rfl (y_fieldAddr fo50_1 rfl) ?_
  refine gk_y rfl rfl (y_loadB1 1 tf3 rfl rfl rfl) ?_
  refine gk_y rfl rfl (y_sub rfl rfl) ?_
  refine gk_y rfl rfl (y_buildL rfl (bd50_0i_1i _ _)) ?_
  refine gk_storeV 0 tf50 rfl rfl (vs := [_, _]) rfl rfl rfl rfl rfl ?_
  refine gk_nil (gk_sub (T' := [(4,_)]) ⟨rfl, trivial⟩ ?_)
  refine gk_ret ?_
  refine gk_pure (rv_one rfl (r1_cellA (i := 0) (vs := [_, _]) tf50 rfl rfl rfl rfl)) ?_
  rfl
set_option maxRecDepth 100000 in
set_option maxHeartbeats 1000000 in
theorem cross_c (p q : Pt) (w : World)  :
    Calls Tryz.prog 85 #[.agg #[.int .i64 p.x, .int .i64 p.z], .agg #[.int .i64 q.x, .int .i64 q.z]] w (Pure (.int .i64 (crossW p q)) w) := by
  refine calls_of_gk (vs := [_, _]) Tryz.func85 rfl rfl (Nat.le_of_ble_eq_true rfl) ?_
  refine gk_seq ?_
  refine gk_region ?_
  refine gk_yx rfl rfl (yx_box (vs := [_, _]) rfl rfl) fun b2 => ?_
  refine gk_yx rfl rfl (yx_box (vs := [_, _]) rfl rfl) fun b3 => ?_
  refine gk_y rfl rfl (y_assign rfl) ?_
  refine gk_nil (gk_sub (T' := [(2,_), (3,_), (4,_)]) ⟨rfl, rfl, rfl, trivial⟩ ?_)
  refine gk_seq ?_
  refine gk_region ?_
  refine gk_y rfl rfl (y_fieldAddr fo50_0 rfl) ?_
  refine gk_y rfl rfl (y_loadB1 1 tf3 rfl rfl rfl) ?_
  refine gk_y rfl rfl (y_fieldAddr fo50_1 rfl) ?_
  refine gk_y rfl rfl (y_loadB1 0 tf3 rfl rfl rfl) ?_
  refine gk_y rfl rfl (y_mul rfl rfl) ?_
  refine gk_y rfl rfl (y_fieldAddr fo50_1 rfl) ?_
  refine gk_y rfl rfl (y_loadB1 1 tf3 rfl rfl rfl) ?_
  refine gk_y rfl rfl (y_fieldAddr fo50_0 rfl) ?_
  refine gk_y rfl rfl (y_loadB1 0 tf3 rfl rfl rfl) ?_
  refine gk_y rfl rfl (y_mul rfl rfl) ?_
  refine gk_y rfl rfl (y_sub rfl rfl) ?_
  refine gk_y rfl rfl (y_assign rfl) ?_
  refine gk_nil (gk_sub (T' := [(4,_)]) ⟨rfl, trivial⟩ ?_)
  refine gk_ret ?_
  refine gk_pure (rv_one rfl (r1_tmp rfl)) ?_
  rfl
set_option maxRecDepth 100000 in
set_option maxHeartbeats 1000000 in
theorem dot_c (p q : Pt) (w : World)  :
    Calls Tryz.prog 86 #[.agg #[.int .i64 p.x, .int .i64 p.z], .agg #[.int .i64 q.x, .int .i64 q.z]] w (Pure (.int .i64 (dotW p q)) w) := by
  refine calls_of_gk (vs := [_, _]) Tryz.func86 rfl rfl (Nat.le_of_ble_eq_true rfl) ?_
  refine gk_seq ?_
  refine gk_region ?_
  refine gk_yx rfl rfl (yx_box (vs := [_, _]) rfl rfl) fun b2 => ?_
  refine gk_yx rfl rfl (yx_box (vs := [_, _]) rfl rfl) fun b3 => ?_
  refine gk_y rfl rfl (y_assign rfl) ?_
  refine gk_nil (gk_sub (T' := [(2,_), (3,_), (4,_)]) ⟨rfl, rfl, rfl, trivial⟩ ?_)
  refine gk_seq ?_
  refine gk_region ?_
  refine gk_y rfl rfl (y_fieldAddr fo50_0 rfl) ?_
  refine gk_y rfl rfl (y_loadB1 1 tf3 rfl rfl rfl) ?_
  refine gk_y rfl rfl (y_fieldAddr fo50_0 rfl) ?_
  refine gk_y rfl rfl (y_loadB1 0 tf3 rfl rfl rfl) ?_
  refine gk_y rfl rfl (y_mul rfl rfl) ?_
  refine gk_y rfl rfl (y_fieldAddr fo50_1 rfl) ?_
  refine gk_y rfl rfl (y_loadB1 1 tf3 rfl rfl rfl) ?_
  refine gk_y rfl rfl (y_fieldAddr fo50_1 rfl) ?_
  refine gk_y rfl rfl (y_loadB1 0 tf3 rfl rfl rfl) ?_
  refine gk_y rfl rfl (y_mul rfl rfl) ?_
  refine gk_y rfl rfl (y_add rfl rfl) ?_
  refine gk_y rfl rfl (y_assign rfl) ?_
  refine gk_nil (gk_sub (T' := [(4,_)]) ⟨rfl, trivial⟩ ?_)
  refine gk_ret ?_
  refine gk_pure (rv_one rfl (r1_tmp rfl)) ?_
  rfl
set_option maxRecDepth 100000 in
set_option maxHeartbeats 1000000 in
theorem turn_c (p q r : Pt) (w : World)  :
    Calls Tryz.prog 87 #[.agg #[.int .i64 p.x, .int .i64 p.z], .agg #[.int .i64 q.x, .int .i64 q.z], .agg #[.int .i64 r.x, .int .i64 r.z]] w (Pure (.int .i64 (turnW p q r)) w) := by
  refine calls_of_gk (vs := [_, _, _]) Tryz.func87 rfl rfl (Nat.le_of_ble_eq_true rfl) ?_
  refine gk_seq ?_
  refine gk_region ?_
  refine gk_yx rfl rfl (yx_box (vs := [_, _]) rfl rfl) fun b3 => ?_
  refine gk_yx rfl rfl (yx_box (vs := [_, _]) rfl rfl) fun b4 => ?_
  refine gk_yx rfl rfl (yx_box (vs := [_, _]) rfl rfl) fun b5 => ?_
  refine gk_y rfl rfl (y_assign rfl) ?_
  refine gk_nil (gk_sub (T' := [(3,_), (4,_), (5,_), (6,_)]) ⟨rfl, rfl, rfl, rfl, trivial⟩ ?_)
  refine gk_seq ?_
  refine gk_any 8 (fun _ => mixed) (by kernel_rfl) ?_
  refine ph_y (y_loadBA 1 tf50 rfl rfl (vs := [_, _]) rfl rfl) ?_
  refine ph_y (y_loadBA 2 tf50 rfl rfl (vs := [_, _]) rfl rfl) ?_
  refine ph_y (y_call en84 rfl (fun w hw => sub_c ⟨_, _⟩ ⟨_, _⟩ w)) ?_
  refine ph_y (y_loadBA 0 tf50 rfl rfl (vs := [_, _]) rfl rfl) ?_
  refine ph_y (y_loadBA 1 tf50 rfl rfl (vs := [_, _]) rfl rfl) ?_
  refine ph_y (y_call en84 rfl (fun w hw => sub_c ⟨_, _⟩ ⟨_, _⟩ w)) ?_
  refine ph_y (y_call en85 rfl (fun w hw => cross_c ⟨_, _⟩ ⟨_, _⟩ w)) ?_
  refine ph_y (y_assign rfl) ?_
  refine gk_nil (gk_sub (T' := [(6,_)]) ⟨rfl, trivial⟩ ?_)
  refine gk_ret ?_
  refine gk_pure (rv_one rfl (r1_tmp rfl)) ?_
  rfl
set_option maxRecDepth 100000 in
set_option maxHeartbeats 1000000 in
theorem within_c (n lo hi : Int) (w : World)  :
    Calls Tryz.prog 55 #[.int .i64 n, .int .i64 lo, .int .i64 hi] w (Pure (.bool (decide (lo ≤ n) && decide (n ≤ hi))) w) := by
  refine calls_of_gk (vs := [_, _, _]) Tryz.func55 rfl rfl (Nat.le_of_ble_eq_true rfl) ?_
  refine gk_seq ?_
  refine gk_region ?_
  refine gk_y rfl rfl (y_assign rfl) ?_
  refine gk_nil (gk_sub (T' := [(0,_), (1,_), (2,_), (6,_)]) ⟨rfl, rfl, rfl, rfl, trivial⟩ ?_)
  refine gk_seq ?_
  refine gk_any 9 (fun _ => mixed) (by kernel_rfl) ?_
  refine ph_y (y_move rfl) ?_
  refine ph_y (y_move rfl) ?_
  refine ph_y (y_geq rfl rfl) ?_
  refine ph_y (y_move rfl) ?_
  refine ph_gT rfl rfl (fun hgd => by (try rw [hgd]); exact (y_move rfl)) ?_
  refine ph_gT rfl rfl (fun hgd => by (try rw [hgd]); exact (y_move rfl)) ?_
  refine ph_gT rfl rfl (fun hgd => by (try rw [hgd]); exact (y_leq rfl rfl)) ?_
  refine ph_y (y_pickAnd rfl rfl rfl) ?_
  refine ph_y (y_assign rfl) ?_
  refine gk_nil (gk_sub (T' := [(6,_)]) ⟨rfl, trivial⟩ ?_)
  refine gk_ret ?_
  refine gk_pure (rv_one rfl (r1_tmp rfl)) ?_
  rfl
set_option maxRecDepth 100000 in
set_option maxHeartbeats 1000000 in
theorem in_c (n lo hi : Int) (w : World)  :
    Calls Tryz.prog 73 #[.int .i64 n, .int .i64 lo, .int .i64 hi] w (Pure (.bool (decide (lo ≤ n) && decide (n ≤ hi))) w) := by
  refine calls_of_gk (vs := [_, _, _]) Tryz.func73 rfl rfl (Nat.le_of_ble_eq_true rfl) ?_
  refine gk_seq ?_
  refine gk_region ?_
  refine gk_y rfl rfl (y_assign rfl) ?_
  refine gk_nil (gk_sub (T' := [(0,_), (1,_), (2,_), (6,_)]) ⟨rfl, rfl, rfl, rfl, trivial⟩ ?_)
  refine gk_seq ?_
  refine gk_any 9 (fun _ => mixed) (by kernel_rfl) ?_
  refine ph_y (y_move rfl) ?_
  refine ph_y (y_move rfl) ?_
  refine ph_y (y_geq rfl rfl) ?_
  refine ph_y (y_move rfl) ?_
  refine ph_gT rfl rfl (fun hgd => by (try rw [hgd]); exact (y_move rfl)) ?_
  refine ph_gT rfl rfl (fun hgd => by (try rw [hgd]); exact (y_move rfl)) ?_
  refine ph_gT rfl rfl (fun hgd => by (try rw [hgd]); exact (y_leq rfl rfl)) ?_
  refine ph_y (y_pickAnd rfl rfl rfl) ?_
  refine ph_y (y_assign rfl) ?_
  refine gk_nil (gk_sub (T' := [(6,_)]) ⟨rfl, trivial⟩ ?_)
  refine gk_ret ?_
  refine gk_pure (rv_one rfl (r1_tmp rfl)) ?_
  rfl
set_option maxRecDepth 100000 in
set_option maxHeartbeats 1000000 in
theorem side_c (p q r : Pt) (w : World)  :
    Calls Tryz.prog 136 #[.agg #[.int .i64 p.x, .int .i64 p.z], .agg #[.int .i64 q.x, .int .i64 q.z], .agg #[.int .i64 r.x, .int .i64 r.z]] w (Pure (.int .i64 (sideW p q r)) w) := by
  refine calls_of_gk (vs := [_, _, _]) Tryz.func136 rfl rfl (Nat.le_of_ble_eq_true rfl) ?_
  refine gk_seq ?_
  refine gk_region ?_
  refine gk_yx rfl rfl (yx_box (vs := [_, _]) rfl rfl) fun b3 => ?_
  refine gk_yx rfl rfl (yx_box (vs := [_, _]) rfl rfl) fun b4 => ?_
  refine gk_yx rfl rfl (yx_box (vs := [_, _]) rfl rfl) fun b5 => ?_
  refine gk_y rfl rfl (y_assign rfl) ?_
  refine gk_nil (gk_sub (T' := [(3,_), (4,_), (5,_), (6,_)]) ⟨rfl, rfl, rfl, rfl, trivial⟩ ?_)
  refine gk_seq ?_
  refine gk_region ?_
  refine gk_y rfl rfl (y_fieldAddr fo26_0 rfl) ?_
  refine gk_y rfl rfl (y_loadB1 1 tf3 rfl rfl rfl) ?_
  refine gk_y rfl rfl (y_fieldAddr fo26_0 rfl) ?_
  refine gk_y rfl rfl (y_loadB1 2 tf3 rfl rfl rfl) ?_
  refine gk_y rfl rfl (y_sub rfl rfl) ?_
  refine gk_y rfl rfl (y_fieldAddr fo26_1 rfl) ?_
  refine gk_y rfl rfl (y_loadB1 0 tf3 rfl rfl rfl) ?_
  refine gk_y rfl rfl (y_fieldAddr fo26_1 rfl) ?_
  refine gk_y rfl rfl (y_loadB1 2 tf3 rfl rfl rfl) ?_
  refine gk_y rfl rfl (y_sub rfl rfl) ?_
  refine gk_y rfl rfl (y_mul rfl rfl) ?_
  refine gk_y rfl rfl (y_fieldAddr fo26_1 rfl) ?_
  refine gk_y rfl rfl (y_loadB1 1 tf3 rfl rfl rfl) ?_
  refine gk_y rfl rfl (y_fieldAddr fo26_1 rfl) ?_
  refine gk_y rfl rfl (y_loadB1 2 tf3 rfl rfl rfl) ?_
  refine gk_y rfl rfl (y_sub rfl rfl) ?_
  refine gk_y rfl rfl (y_fieldAddr fo26_0 rfl) ?_
  refine gk_y rfl rfl (y_loadB1 0 tf3 rfl rfl rfl) ?_
  refine gk_y rfl rfl (y_fieldAddr fo26_0 rfl) ?_
  refine gk_y rfl rfl (y_loadB1 2 tf3 rfl rfl rfl) ?_
  refine gk_y rfl rfl (y_sub rfl rfl) ?_
  refine gk_y rfl rfl (y_mul rfl rfl) ?_
  refine gk_y rfl rfl (y_sub rfl rfl) ?_
  refine gk_y rfl rfl (y_assign rfl) ?_
  refine gk_nil (gk_sub (T' := [(6,_)]) ⟨rfl, trivial⟩ ?_)
  refine gk_ret ?_
  refine gk_pure (rv_one rfl (r1_tmp rfl)) ?_
  rfl
set_option maxRecDepth 100000 in
set_option maxHeartbeats 1000000 in
theorem nan_c (n : Int) (w : World)  :
    Calls Tryz.prog 148 #[.int .i64 n] w (Pure (.bool false) w) := by
  refine calls_of_gk (vs := [_]) Tryz.func148 rfl rfl (Nat.le_of_ble_eq_true rfl) ?_
  refine gk_seq ?_
  refine gk_region ?_
  refine gk_y rfl rfl (y_assign rfl) ?_
  refine gk_nil (gk_sub (T' := [(0,_), (2,_)]) ⟨rfl, rfl, trivial⟩ ?_)
  refine gk_seq ?_
  refine gk_region ?_
  refine gk_y rfl rfl (y_move rfl) ?_
  refine gk_y rfl rfl (y_move rfl) ?_
  refine gk_y rfl rfl (y_neq rfl rfl) ?_
  refine gk_y rfl rfl (y_assign rfl) ?_
  refine gk_nil (gk_sub (T' := [(2,_)]) ⟨rfl, trivial⟩ ?_)
  refine gk_ret ?_
  refine gk_pure (rv_one rfl (r1_tmp rfl)) ?_
  simp
set_option maxRecDepth 100000 in
set_option maxHeartbeats 1000000 in
theorem compare_c (x y : Int) (w : World)  :
    Calls Tryz.prog 125 #[.int .i64 x, .int .i64 y] w (Pure (.int .i64 (cmpI x y)) w) := by
  refine calls_of_gk (vs := [_, _]) Tryz.func125 rfl rfl (Nat.le_of_ble_eq_true rfl) ?_
  refine gk_seq ?_
  refine gk_region ?_
  refine gk_y rfl rfl (y_assign rfl) ?_
  refine gk_nil (gk_sub (T' := [(0,_), (1,_), (4,_)]) ⟨rfl, rfl, rfl, trivial⟩ ?_)
  refine gk_seq ?_
  refine gk_region ?_
  refine gk_y rfl rfl (y_move rfl) ?_
  refine gk_y rfl rfl (y_call en148 rfl (fun w hw => nan_c _ w)) ?_
  refine gk_y rfl rfl (y_assign rfl) ?_
  refine gk_nil (gk_sub (T' := [(0,_), (1,_), (4,_), (5,_)]) ⟨rfl, rfl, rfl, rfl, trivial⟩ ?_)
  refine gk_seq ?_
  refine gk_region ?_
  refine gk_y rfl rfl (y_move rfl) ?_
  refine gk_y rfl rfl (y_call en148 rfl (fun w hw => nan_c _ w)) ?_
  refine gk_y rfl rfl (y_assign rfl) ?_
  refine gk_nil (gk_sub (T' := [(0,_), (1,_), (4,_), (5,_), (6,_)]) ⟨rfl, rfl, rfl, rfl, rfl, trivial⟩ ?_)
  refine gk_seq ?_
  refine gk_seq ?_
  refine gk_region ?_
  refine gk_y rfl rfl (y_move rfl) ?_
  refine gk_nil (gk_sub (T' := [(0,_), (1,_), (4,_), (6,_), (11,_)]) ⟨rfl, rfl, rfl, rfl, rfl, trivial⟩ ?_)
  refine gk_condF rfl ?_
  refine gk_skip ?_
  refine gk_seq ?_
  refine gk_seq ?_
  refine gk_region ?_
  refine gk_y rfl rfl (y_move rfl) ?_
  refine gk_nil (gk_sub (T' := [(0,_), (1,_), (4,_), (13,_)]) ⟨rfl, rfl, rfl, rfl, trivial⟩ ?_)
  refine gk_condF rfl ?_
  refine gk_skip ?_
  refine gk_seq ?_
  refine gk_seq ?_
  refine gk_region ?_
  refine gk_y rfl rfl (y_move rfl) ?_
  refine gk_y rfl rfl (y_move rfl) ?_
  refine gk_y rfl rfl (y_lss rfl rfl) ?_
  refine gk_nil (gk_sub (T' := [(0,_), (1,_), (4,_), (16,_)]) ⟨rfl, rfl, rfl, rfl, trivial⟩ ?_)
  refine gk_cond rfl (fun hc16 => ?_) (fun hc16 => ?_)
  · simp only [decide_eq_true_eq] at hc16
    refine gk_seq ?_
    refine gk_region ?_
    refine gk_y rfl rfl (y_assign rfl) ?_
    refine gk_nil (gk_sub (T' := [(0,_), (1,_), (4,_)]) ⟨rfl, rfl, rfl, trivial⟩ ?_)
    refine gk_ret ?_
    refine gk_pure (rv_one rfl (r1_tmp rfl)) ?_
    simp only [cmpI]; rw [if_pos (by omega)]
  · simp only [decide_eq_false_iff_not] at hc16
    refine gk_skip ?_
    refine gk_seq ?_
    refine gk_seq ?_
    refine gk_region ?_
    refine gk_y rfl rfl (y_move rfl) ?_
    refine gk_y rfl rfl (y_move rfl) ?_
    refine gk_y rfl rfl (y_gtr rfl rfl) ?_
    refine gk_nil (gk_sub (T' := [(4,_), (19,_)]) ⟨rfl, rfl, trivial⟩ ?_)
    refine gk_cond rfl (fun hc19 => ?_) (fun hc19 => ?_)
    · simp only [decide_eq_true_eq] at hc19
      refine gk_seq ?_
      refine gk_region ?_
      refine gk_y rfl rfl (y_assign rfl) ?_
      refine gk_nil (gk_sub (T' := [(4,_)]) ⟨rfl, trivial⟩ ?_)
      refine gk_ret ?_
      refine gk_pure (rv_one rfl (r1_tmp rfl)) ?_
      simp only [cmpI]; rw [if_neg (by omega), if_pos (by omega)]
    · simp only [decide_eq_false_iff_not] at hc19
      refine gk_skip ?_
      refine gk_seq ?_
      refine gk_region ?_
      refine gk_y rfl rfl (y_assign rfl) ?_
      refine gk_nil (gk_sub (T' := [(4,_)]) ⟨rfl, trivial⟩ ?_)
      refine gk_ret ?_
      refine gk_pure (rv_one rfl (r1_tmp rfl)) ?_
      simp only [cmpI]; rw [if_neg (by omega), if_neg (by omega)]
set_option maxRecDepth 100000 in
set_option maxHeartbeats 1000000 in
theorem or_c (a : Option Addr) (cap : Nat) (l : List Int) (w : World) (hl : Has w (Ints a l)) (hs : Small l.length) :
    Calls Tryz.prog 68 #[.slice a l.length cap] w (Pure (.int .i64 (orI l)) w) := by
  refine calls_of_gk (vs := [_]) Tryz.func68 rfl rfl (Nat.le_of_ble_eq_true rfl) ?_
  refine gk_seq ?_
  refine gk_region ?_
  refine gk_y rfl rfl (y_assign rfl) ?_
  refine gk_nil (gk_sub (T' := [(0,_), (2,_)]) ⟨rfl, rfl, trivial⟩ ?_)
  refine gk_seq ?_
  refine gk_region ?_
  refine gk_y rfl rfl (y_assign rfl) ?_
  refine gk_nil (gk_sub (T' := [(0,_), (2,_), (3,_)]) ⟨rfl, rfl, rfl, trivial⟩ ?_)
  refine gk_seq ?_
  refine gk_seq ?_
  refine gk_region ?_
  refine gk_y rfl rfl (y_move rfl) ?_
  refine gk_y rfl rfl (y_lenS (Tryz.underlying71) rfl) ?_
  refine gk_y rfl rfl (y_move rfl) ?_
  refine gk_nil (gk_sub (T' := [(2,_), (3,_), (6,_), (7,_), (8,_)]) ⟨rfl, rfl, rfl, rfl, rfl, trivial⟩ ?_)
  refine gk_block ?_
  refine gk_loop (X := Int) (fun (i : Int) => [(2, .int .i64 0), (3, .int .i64 0), (6, .slice a l.length cap), (7, .int .i64 (l.length : Int)), (8, .int .i64 i)]) (fun (i : Int) => []) (fun (i : Int) => (0 ≤ i ∧ i ≤ l.length ∧ orI (l.drop i.toNat) = orI l)) (fun (i : Int) => (l.length - i).toNat) 0 ⟨rfl, rfl, rfl, rfl, rfl, trivial⟩ rfl ?_ ?_
  · exact ⟨by omega, by omega, rfl⟩
  · rintro i hI
    obtain ⟨h0, h1, h2⟩ := hI
    refine gk_seq ?_
    refine gk_region ?_
    refine gk_y rfl rfl (y_lss rfl rfl) ?_
    refine gk_nil (gk_sub (T' := [(2,_), (3,_), (6,_), (7,_), (8,_), (9,_)]) ⟨rfl, rfl, rfl, rfl, rfl, rfl, trivial⟩ ?_)
    refine gk_seq ?_
    refine gk_cond rfl (fun hc9 => ?_) (fun hc9 => ?_)
    · simp only [decide_eq_true_eq] at hc9
      refine gk_skip ?_
      refine gk_seq ?_
      refine gk_block ?_
      refine gk_seq ?_
      refine gk_region ?_
      refine gk_y rfl rfl (y_indexE se71 rfl rfl (fun _ hw => (Rd.has (Has.rd hl) hw)) (by omega) (by omega)) ?_
      refine gk_y rfl rfl (y_loadE1 tf3 rfl (fun _ hw => (Rd.has (Has.rd hl) hw)) (by omega) (by omega) rfl) ?_
      refine gk_y rfl rfl (y_assign rfl) ?_
      refine gk_nil (gk_sub (T' := [(2,_), (3,_), (5,_), (6,_), (7,_), (8,_)]) ⟨rfl, rfl, rfl, rfl, rfl, rfl, trivial⟩ ?_)
      refine gk_seq ?_
      refine gk_region ?_
      refine gk_y rfl rfl (y_move rfl) ?_
      refine gk_y rfl rfl (y_move rfl) ?_
      refine gk_y rfl rfl (y_neq rfl rfl) ?_
      refine gk_nil (gk_sub (T' := [(2,_), (3,_), (5,_), (6,_), (7,_), (8,_), (14,_)]) ⟨rfl, rfl, rfl, rfl, rfl, rfl, rfl, trivial⟩ ?_)
      refine gk_cond rfl (fun hc14 => ?_) (fun hc14 => ?_)
      · simp only [Bool.not_eq_true', decide_eq_false_iff_not] at hc14
        refine gk_seq ?_
        refine gk_region ?_
        refine gk_y rfl rfl (y_move rfl) ?_
        refine gk_y rfl rfl (y_assign rfl) ?_
        refine gk_nil (gk_sub (T' := [(2,_), (3,_), (6,_), (7,_), (8,_)]) ⟨rfl, rfl, rfl, rfl, rfl, trivial⟩ ?_)
        refine gk_ret ?_
        refine gk_pure (rv_one rfl (r1_tmp rfl)) ?_
        rw [← h2]; exact congrArg _ (orI_hit h0 (by omega) hc14).symm
      · simp only [Bool.not_eq_false', decide_eq_true_eq] at hc14
        refine gk_skip ?_
        refine gk_region ?_
        refine gk_y rfl rfl (y_addI rfl rfl (by omega) (by omega)) ?_
        refine gk_y rfl rfl (y_move rfl) ?_
        refine gk_nil (gk_sub (T' := [(2,_), (3,_), (6,_), (7,_), (8,_)]) ⟨rfl, rfl, rfl, rfl, rfl, trivial⟩ ?_)
        exact gk_next _ ⟨rfl, rfl, rfl, rfl, rfl, trivial⟩ rfl (by refine ⟨by omega, by omega, ?_⟩; exact (orI_step h0 (by omega) hc14).trans h2) (by omega)
    · simp only [decide_eq_false_iff_not] at hc9
      refine gk_exit rfl ?_
      refine gk_seq ?_
      refine gk_region ?_
      refine gk_y rfl rfl (y_move rfl) ?_
      refine gk_y rfl rfl (y_assign rfl) ?_
      refine gk_nil (gk_sub (T' := [(2,_)]) ⟨rfl, trivial⟩ ?_)
      refine gk_ret ?_
      refine gk_pure (rv_one rfl (r1_tmp rfl)) ?_
      rw [← h2]; exact congrArg _ (orI_end (by omega)).symm
set_option maxRecDepth 100000 in
set_option maxHeartbeats 1000000 in
theorem order_c (a : Option Addr) (cap : Nat) (l : List Int) (w : World) (hl : Has w (Ints a l)) (hs : Small l.length) :
    Calls Tryz.prog 34 #[.slice a l.length cap] w (Pure (.int .i64 (orI l)) w) := by
  refine calls_of_gk (vs := [_]) Tryz.func34 rfl rfl (Nat.le_of_ble_eq_true rfl) ?_
  refine gk_seq ?_
  refine gk_region ?_
  refine gk_y rfl rfl (y_assign rfl) ?_
  refine gk_nil (gk_sub (T' := [(0,_), (2,_)]) ⟨rfl, rfl, trivial⟩ ?_)
  refine gk_seq ?_
  refine gk_region ?_
  refine gk_y rfl rfl (y_move rfl) ?_
  refine gk_y rfl rfl (y_call en68 rfl (fun w hw => or_c _ _ l w (Rd.has (Has.rd hl) hw) hs)) ?_
  refine gk_y rfl rfl (y_assign rfl) ?_
  refine gk_nil (gk_sub (T' := [(2,_)]) ⟨rfl, trivial⟩ ?_)
  refine gk_ret ?_
  refine gk_pure (rv_one rfl (r1_tmp rfl)) ?_
  rfl
set_option maxRecDepth 100000 in
set_option maxHeartbeats 1000000 in
theorem lower_c (p q : Pt) (w : World)  :
    Calls Tryz.prog 95 #[.agg #[.int .i64 p.x, .int .i64 p.z], .agg #[.int .i64 q.x, .int .i64 q.z]] w (Pure (.int .i64 (lowerW p q)) w) := by
  refine calls_of_gk (vs := [_, _]) Tryz.func95 rfl rfl (Nat.le_of_ble_eq_true rfl) ?_
  refine gk_seq ?_
  refine gk_region ?_
  refine gk_yx rfl rfl (yx_box (vs := [_, _]) rfl rfl) fun b2 => ?_
  refine gk_yx rfl rfl (yx_box (vs := [_, _]) rfl rfl) fun b3 => ?_
  refine gk_y rfl rfl (y_assign rfl) ?_
  refine gk_nil (gk_sub (T' := [(2,_), (3,_), (4,_)]) ⟨rfl, rfl, rfl, trivial⟩ ?_)
  refine gk_seq ?_
  refine gk_any 13 (fun _ => mixed) (by kernel_rfl) ?_
  refine ph_y (y_fieldAddr fo50_1 rfl) ?_
  refine ph_y (y_loadB1 1 tf3 rfl rfl rfl) ?_
  refine ph_y (y_fieldAddr fo50_1 rfl) ?_
  refine ph_y (y_loadB1 0 tf3 rfl rfl rfl) ?_
  refine ph_y (y_call en125 rfl (fun w hw => compare_c _ _ w)) ?_
  refine ph_y (y_fieldAddr fo50_0 rfl) ?_
  refine ph_y (y_loadB1 1 tf3 rfl rfl rfl) ?_
  refine ph_y (y_fieldAddr fo50_0 rfl) ?_
  refine ph_y (y_loadB1 0 tf3 rfl rfl rfl) ?_
  refine ph_y (y_call en125 rfl (fun w hw => compare_c _ _ w)) ?_
  refine ph_yx (yx_buildSlice rfl (bs71_2 _ _) Go.Stn.encI_ok rfl) ?_
  refine ph_y (fun b15 => y_call en34 rfl (fun w hw => order_c _ _ ([(cmpI p.z q.z), (cmpI p.x q.x)]) w (has_row Go.Stn.encI_ok (hw.has (p := 0) rfl)) (by simp [Small]))) ?_
  refine ph_y (fun b15 => y_assign rfl) ?_
  intro b15
  refine gk_nil (gk_sub (T' := [(4,_)]) ⟨rfl, trivial⟩ ?_)
  refine gk_ret ?_
  refine gk_pure (rv_one rfl (r1_tmp rfl)) ?_
  rfl
end Go.Proofs.YtmpaebfjnjmmlaaGreatDoor

namespace Go.Proofs.YtmpaebfjnjmmlaaGreatDoor
open Go.K Go.Stn Go.RowKit
theorem tf26 : TF Tryz.prog 26 true 2 (.agg #[.int IntKind.i64 0, .int IntKind.i64 0]) := ⟨by kernel_rfl, by kernel_rfl⟩
theorem se24 : SE Tryz.prog 24 26 2 := ⟨Tryz.underlying24, by kernel_rfl⟩
theorem se49 : SE Tryz.prog 49 50 2 := ⟨Tryz.underlying49, by kernel_rfl⟩
theorem en55 : En Tryz.prog 55 := en_of Tryz.func55 (by kernel_rfl) (by kernel_rfl)
theorem en73 : En Tryz.prog 73 := en_of Tryz.func73 (by kernel_rfl) (by kernel_rfl)
theorem en87 : En Tryz.prog 87 := en_of Tryz.func87 (by kernel_rfl) (by kernel_rfl)
theorem en88 : En Tryz.prog 88 := en_of Tryz.func88 (by kernel_rfl) (by kernel_rfl)
theorem en93 : En Tryz.prog 93 := en_of Tryz.func93 (by kernel_rfl) (by kernel_rfl)
theorem en94 : En Tryz.prog 94 := en_of Tryz.func94 (by kernel_rfl) (by kernel_rfl)
theorem en95 : En Tryz.prog 95 := en_of Tryz.func95 (by kernel_rfl) (by kernel_rfl)
theorem en111 : En Tryz.prog 111 := en_of Tryz.func111 (by kernel_rfl) (by kernel_rfl)
theorem en112 : En Tryz.prog 112 := en_of Tryz.func112 (by kernel_rfl) (by kernel_rfl)
theorem en113 : En Tryz.prog 113 := en_of Tryz.func113 (by kernel_rfl) (by kernel_rfl)
theorem en116 : En Tryz.prog 116 := en_of Tryz.func116 (by kernel_rfl) (by kernel_rfl)
theorem en117 : En Tryz.prog 117 := en_of Tryz.func117 (by kernel_rfl) (by kernel_rfl)
theorem en118 : En Tryz.prog 118 := en_of Tryz.func118 (by kernel_rfl) (by kernel_rfl)
theorem en119 : En Tryz.prog 119 := en_of Tryz.func119 (by kernel_rfl) (by kernel_rfl)
theorem en136 : En Tryz.prog 136 := en_of Tryz.func136 (by kernel_rfl) (by kernel_rfl)
theorem en138 : En Tryz.prog 138 := en_of Tryz.func138 (by kernel_rfl) (by kernel_rfl)
theorem bd50_  (w : World) : (Instr.build 50 #[]).run Tryz.prog w = .ok (.agg #[.int IntKind.i64 0, .int IntKind.i64 0]) w := by kernel_rfl
theorem fv26_0 (x0 : Int) (x1 : Int) (w : World) : (Instr.field 26 (.agg #[.int .i64 x0, .int .i64 x1]) 0).run Tryz.prog w = .ok (.int .i64 x0) w := by kernel_rfl
theorem fv26_1 (x0 : Int) (x1 : Int) (w : World) : (Instr.field 26 (.agg #[.int .i64 x0, .int .i64 x1]) 1).run Tryz.prog w = .ok (.int .i64 x1) w := by kernel_rfl
set_option maxRecDepth 100000 in
theorem y_eql50 {c : Cx} {ds : List Deferred} {H : List Res} {T : List (Nat × Value)} {d : Option Nat} {ty : TypeId} {ps : String} {af : Array Edge} {g : Option (Nat × Bool)} {x y : Operand} {t' : TypeId} {a0 a1 c0 c1 : Int}
    (hx : evo T x = some (.agg #[.int .i64 a0, .int .i64 a1])) (hy : evo T y = some (.agg #[.int .i64 c0, .int .i64 c1])) (hP : c.P = Tryz.prog := by rfl) : Y c ds H T ⟨d, .binOp .eql 50 x y t', ty, ps, af, g⟩ (.bool ((decide (a0 = c0) && decide (a1 = c1)))) := by
  refine ⟨fun a w ha _ => ?_⟩
  unfold Yld
  simp only [execOp, ha.eval hx, ha.eval hy]
  rw [hP]
  by_cases h0 : a0 = c0
  · subst h0
    by_cases h1 : a1 = c1
    · subst h1
      (go_simp; try exact Ext.rfl)
    · (go_simp; try exact Ext.rfl)
  · (go_simp; try exact Ext.rfl)
set_option maxRecDepth 100000 in
theorem y_neq50 {c : Cx} {ds : List Deferred} {H : List Res} {T : List (Nat × Value)} {d : Option Nat} {ty : TypeId} {ps : String} {af : Array Edge} {g : Option (Nat × Bool)} {x y : Operand} {t' : TypeId} {a0 a1 c0 c1 : Int}
    (hx : evo T x = some (.agg #[.int .i64 a0, .int .i64 a1])) (hy : evo T y = some (.agg #[.int .i64 c0, .int .i64 c1])) (hP : c.P = Tryz.prog := by rfl) : Y c ds H T ⟨d, .binOp .neq 50 x y t', ty, ps, af, g⟩ (.bool (!(decide (a0 = c0) && decide (a1 = c1)))) := by
  refine ⟨fun a w ha _ => ?_⟩
  unfold Yld
  simp only [execOp, ha.eval hx, ha.eval hy]
  rw [hP]
  by_cases h0 : a0 = c0
  · subst h0
    by_cases h1 : a1 = c1
    · subst h1
      (go_simp; try exact Ext.rfl)
    · (go_simp; try exact Ext.rfl)
  · (go_simp; try exact Ext.rfl)
set_option maxRecDepth 100000 in
set_option maxHeartbeats 1000000 in
theorem at_c (a : Option Addr) (cap : Nat) (l : List Pt) (i : Int) (w : World) (hl : Has w (Pts a l)) (hs : Small l.length) (h0 : 0 < l.length) (h1 : -(l.length : Int) ≤ i) (h2 : i ≤ 4398046511104) :
    Calls Tryz.prog 88 #[.slice a l.length cap, .int .i64 i] w (Pure (ptV (atL l i)) w) := by
  have q0 : 0 ≤ (i + (l.length : Int)).tmod (l.length : Int) := Int.tmod_nonneg _ (by omega)
  have q1 : (i + (l.length : Int)).tmod (l.length : Int) < (l.length : Int) := Int.tmod_lt_of_pos _ (by omega)
  refine calls_of_gk (vs := [_, _]) Tryz.func88 rfl rfl (Nat.le_of_ble_eq_true rfl) ?_
  refine gk_seq ?_
  refine gk_region ?_
  refine gk_yx rfl rfl (yx_alloc tf50 (zs := [_, _]) rfl) fun b4 => ?_
  refine gk_nil (gk_sub (T' := [(0,_), (1,_), (4,_)]) ⟨rfl, rfl, rfl, trivial⟩ ?_)
  refine gk_seq ?_
  refine gk_region ?_
  refine gk_y rfl rfl (y_move rfl) ?_
  refine gk_y rfl rfl (y_move rfl) ?_
  refine gk_y rfl rfl (y_move rfl) ?_
  refine gk_y rfl rfl (y_lenS (Tryz.underlying49) rfl) ?_
  refine gk_y rfl rfl (y_addI rfl rfl (by omega) (by omega)) ?_
  refine gk_y rfl rfl (y_move rfl) ?_
  refine gk_y rfl rfl (y_lenS (Tryz.underlying49) rfl) ?_
  refine gk_y rfl rfl (y_rem rfl rfl (by omega)) ?_
  refine gk_y rfl rfl (y_indexE se49 rfl rfl (fun _ hw => (Rd.has (Has.rd hl) hw)) (by omega) (by omega)) ?_
  refine gk_y rfl rfl (y_loadE (vs := [_, _]) tf50 rfl (fun _ hw => (Rd.has (Has.rd hl) hw)) (by omega) (by omega) rfl) ?_
  refine gk_storeV 0 tf50 rfl rfl (vs := [_, _]) rfl rfl rfl rfl rfl ?_
  refine gk_nil (gk_sub (T' := [(4,_)]) ⟨rfl, trivial⟩ ?_)
  refine gk_ret ?_
  refine gk_pure (rv_one rfl (r1_cellA (i := 0) (vs := [_, _]) tf50 rfl rfl rfl rfl)) ?_
  rfl
set_option maxRecDepth 100000 in
set_option maxHeartbeats 1000000 in
theorem next_c (a : Option Addr) (cap : Nat) (l : List Pt) (i : Int) (w : World) (hl : Has w (Pts a l)) (hs : Small l.length) (h0 : 0 < l.length) (h1 : 0 ≤ i) (h2 : i ≤ 4398046511104) :
    Calls Tryz.prog 119 #[.slice a l.length cap, .int .i64 i] w (Pure (ptV (nextL l i)) w) := by
  have q0 : 0 ≤ (i + 1).tmod (l.length : Int) := Int.tmod_nonneg _ (by omega)
  have q1 : (i + 1).tmod (l.length : Int) < (l.length : Int) := Int.tmod_lt_of_pos _ (by omega)
  refine calls_of_gk (vs := [_, _]) Tryz.func119 rfl rfl (Nat.le_of_ble_eq_true rfl) ?_
  refine gk_seq ?_
  refine gk_region ?_
  refine gk_yx rfl rfl (yx_alloc tf26 (zs := [_, _]) rfl) fun b4 => ?_
  refine gk_nil (gk_sub (T' := [(0,_), (1,_), (4,_)]) ⟨rfl, rfl, rfl, trivial⟩ ?_)
  refine gk_seq ?_
  refine gk_region ?_
  refine gk_y rfl rfl (y_move rfl) ?_
  refine gk_y rfl rfl (y_move rfl) ?_
  refine gk_y rfl rfl (y_addI rfl rfl (by omega) (by omega)) ?_
  refine gk_y rfl rfl (y_move rfl) ?_
  refine gk_y rfl rfl (y_lenS (Tryz.underlying24) rfl) ?_
  refine gk_y rfl rfl (y_rem rfl rfl (by omega)) ?_
  refine gk_y rfl rfl (y_indexE se24 rfl rfl (fun _ hw => (Rd.has (Has.rd hl) hw)) (by omega) (by omega)) ?_
  refine gk_y rfl rfl (y_loadE (vs := [_, _]) tf26 rfl (fun _ hw => (Rd.has (Has.rd hl) hw)) (by omega) (by omega) rfl) ?_
  refine gk_storeV 0 tf26 rfl rfl (vs := [_, _]) rfl rfl rfl rfl rfl ?_
  refine gk_nil (gk_sub (T' := [(4,_)]) ⟨rfl, trivial⟩ ?_)
  refine gk_ret ?_
  refine gk_pure (rv_one rfl (r1_cellA (i := 0) (vs := [_, _]) tf26 rfl rfl rfl rfl)) ?_
  rfl
set_option maxRecDepth 100000 in
set_option maxHeartbeats 1000000 in
theorem least_c (a : Option Addr) (cap : Nat) (l : List Pt) (w : World) (hl : Has w (Pts a l)) (hs : Small l.length) (h0 : 0 < l.length) :
    Calls Tryz.prog 93 #[.slice a l.length cap] w (Pure (ptV (leastL l)) w) := by
  refine calls_of_gk (vs := [_]) Tryz.func93 rfl rfl (Nat.le_of_ble_eq_true rfl) ?_
  refine gk_seq ?_
  refine gk_region ?_
  refine gk_yx rfl rfl (yx_alloc tf50 (zs := [_, _]) rfl) fun b2 => ?_
  refine gk_nil (gk_sub (T' := [(0,_), (2,_)]) ⟨rfl, rfl, trivial⟩ ?_)
  refine gk_seq ?_
  refine gk_region ?_
  refine gk_y rfl rfl (y_move rfl) ?_
  refine gk_y rfl rfl (y_indexE se49 rfl rfl (fun _ hw => (Rd.has (Has.rd hl) hw)) (by omega) (by omega)) ?_
  refine gk_y rfl rfl (y_loadE (vs := [_, _]) tf50 rfl (fun _ hw => (Rd.has (Has.rd hl) hw)) (by omega) (by omega) rfl) ?_
  refine gk_yx rfl rfl (yx_alloc tf50 (zs := [_, _]) rfl) fun b3 => ?_
  refine gk_storeV 0 tf50 rfl rfl (vs := [_, _]) rfl rfl rfl rfl rfl ?_
  refine gk_nil (gk_sub (T' := [(0,_), (2,_), (3,_)]) ⟨rfl, rfl, rfl, trivial⟩ ?_)
  refine gk_seq ?_
  refine gk_seq ?_
  refine gk_region ?_
  refine gk_y rfl rfl (y_move rfl) ?_
  refine gk_y rfl rfl (y_lenS (Tryz.underlying49) rfl) ?_
  refine gk_y rfl rfl (y_move rfl) ?_
  refine gk_nil (gk_sub (T' := [(2,_), (3,_), (9,_), (10,_), (11,_)]) ⟨rfl, rfl, rfl, rfl, rfl, trivial⟩ ?_)
  refine gk_block ?_
  refine gk_loop (X := Int × Pt) (fun ⟨i, o⟩ => [(2, .pointer (some ⟨b2, 0, none⟩)), (3, .pointer (some ⟨b3, 0, none⟩)), (9, .slice a l.length cap), (10, .int .i64 (l.length : Int)), (11, .int .i64 i)]) (fun ⟨i, o⟩ => [Box b3 [.int .i64 o.x, .int .i64 o.z] 50, Box b2 [.int .i64 0, .int .i64 0] 50]) (fun ⟨i, o⟩ => (0 ≤ i ∧ i ≤ l.length ∧ o = (l.take i.toNat).foldl (fun (o p : Pt) => (⟨min o.x p.x, min o.z p.z⟩ : Pt)) (l.getD 0 default))) (fun ⟨i, o⟩ => (l.length - i).toNat) (0, l.getD 0 default) ⟨rfl, rfl, rfl, rfl, rfl, trivial⟩ rfl ?_ ?_
  · exact ⟨by simp, by simp, rfl⟩
  · rintro ⟨i, o⟩ hI
    obtain ⟨g0, g1, g2⟩ := hI
    refine gk_seq ?_
    refine gk_region ?_
    refine gk_y rfl rfl (y_lss rfl rfl) ?_
    refine gk_nil (gk_sub (T' := [(2,_), (3,_), (9,_), (10,_), (11,_), (12,_)]) ⟨rfl, rfl, rfl, rfl, rfl, rfl, trivial⟩ ?_)
    refine gk_seq ?_
    refine gk_cond rfl (fun hc12 => ?_) (fun hc12 => ?_)
    · simp only [decide_eq_true_eq] at hc12
      refine gk_skip ?_
      refine gk_seq ?_
      refine gk_block ?_
      refine gk_seq ?_
      refine gk_region ?_
      refine gk_y rfl rfl (y_indexE se49 rfl rfl (fun _ hw => (Rd.has (Has.rd hl) hw)) (by omega) (by omega)) ?_
      refine gk_y rfl rfl (y_loadE (vs := [_, _]) tf50 rfl (fun _ hw => (Rd.has (Has.rd hl) hw)) (by omega) (by omega) rfl) ?_
      refine gk_yx rfl rfl (yx_alloc tf50 (zs := [_, _]) rfl) fun b5 => ?_
      refine gk_storeV 0 tf50 rfl rfl (vs := [_, _]) rfl rfl rfl rfl rfl ?_
      refine gk_nil (gk_sub (T' := [(2,_), (3,_), (5,_), (9,_), (10,_), (11,_)]) ⟨rfl, rfl, rfl, rfl, rfl, rfl, trivial⟩ ?_)
      refine gk_region ?_
      refine gk_y rfl rfl (y_fieldAddr fo50_0 rfl) ?_
      refine gk_y rfl rfl (y_loadB1 1 tf3 rfl rfl rfl) ?_
      refine gk_y rfl rfl (y_fieldAddr fo50_0 rfl) ?_
      refine gk_y rfl rfl (y_loadB1 0 tf3 rfl rfl rfl) ?_
      refine gk_y rfl rfl (y_min rfl rfl) ?_
      refine gk_y rfl rfl (y_fieldAddr fo50_1 rfl) ?_
      refine gk_y rfl rfl (y_loadB1 1 tf3 rfl rfl rfl) ?_
      refine gk_y rfl rfl (y_fieldAddr fo50_1 rfl) ?_
      refine gk_y rfl rfl (y_loadB1 0 tf3 rfl rfl rfl) ?_
      refine gk_y rfl rfl (y_min rfl rfl) ?_
      refine gk_y rfl rfl (y_buildL rfl (bd50_0i_1i _ _)) ?_
      refine gk_storeV 1 tf50 rfl rfl (vs := [_, _]) rfl rfl rfl rfl rfl ?_
      refine gk_nil (gk_sub (T' := [(2,_), (3,_), (9,_), (10,_), (11,_)]) ⟨rfl, rfl, rfl, rfl, rfl, trivial⟩ ?_)
      refine gk_region ?_
      refine gk_y rfl rfl (y_addI rfl rfl (by omega) (by omega)) ?_
      refine gk_y rfl rfl (y_move rfl) ?_
      refine gk_nil (gk_sub (T' := [(2,_), (3,_), (9,_), (10,_), (11,_)]) ⟨rfl, rfl, rfl, rfl, rfl, trivial⟩ ?_)
      refine gk_dropAt 0 rfl ?_
      exact gk_next (i + 1, ⟨_, _⟩) ⟨rfl, rfl, rfl, rfl, rfl, trivial⟩ rfl ⟨by omega, by omega, by rw [fold_take _ _ g0 (by omega), ← g2]⟩ (by simp only []; omega)
    · simp only [decide_eq_false_iff_not] at hc12
      refine gk_exit rfl ?_
      refine gk_seq ?_
      refine gk_region ?_
      refine gk_y rfl rfl (y_loadBA 0 tf50 rfl rfl (vs := [_, _]) rfl rfl) ?_
      refine gk_storeV 1 tf50 rfl rfl (vs := [_, _]) rfl rfl rfl rfl rfl ?_
      refine gk_nil (gk_sub (T' := [(2,_)]) ⟨rfl, trivial⟩ ?_)
      refine gk_ret ?_
      refine gk_pure (rv_one rfl (r1_cellA (i := 1) (vs := [_, _]) tf50 rfl rfl rfl rfl)) ?_
      rw [g2, take_all (by omega)]; rfl
set_option maxRecDepth 100000 in
set_option maxHeartbeats 1000000 in
theorem low_c (a : Option Addr) (cap : Nat) (l : List Pt) (w : World) (hl : Has w (Pts a l)) (hs : Small l.length) (h0 : 0 < l.length) :
    Calls Tryz.prog 112 #[.slice a l.length cap] w (Pure (ptV (leastL l)) w) := by
  refine calls_of_gk (vs := [_]) Tryz.func112 rfl rfl (Nat.le_of_ble_eq_true rfl) ?_
  refine gk_seq ?_
  refine gk_region ?_
  refine gk_yx rfl rfl (yx_alloc tf26 (zs := [_, _]) rfl) fun b2 => ?_
  refine gk_nil (gk_sub (T' := [(0,_), (2,_)]) ⟨rfl, rfl, trivial⟩ ?_)
  refine gk_seq ?_
  refine gk_region ?_
  refine gk_y rfl rfl (y_move rfl) ?_
  refine gk_y rfl rfl (y_indexE se24 rfl rfl (fun _ hw => (Rd.has (Has.rd hl) hw)) (by omega) (by omega)) ?_
  refine gk_y rfl rfl (y_loadE (vs := [_, _]) tf26 rfl (fun _ hw => (Rd.has (Has.rd hl) hw)) (by omega) (by omega) rfl) ?_
  refine gk_yx rfl rfl (yx_alloc tf26 (zs := [_, _]) rfl) fun b3 => ?_
  refine gk_storeV 0 tf26 rfl rfl (vs := [_, _]) rfl rfl rfl rfl rfl ?_
  refine gk_nil (gk_sub (T' := [(0,_), (2,_), (3,_)]) ⟨rfl, rfl, rfl, trivial⟩ ?_)
  refine gk_seq ?_
  refine gk_seq ?_
  refine gk_region ?_
  refine gk_y rfl rfl (y_assign rfl) ?_
  refine gk_nil (gk_sub (T' := [(0,_), (2,_), (3,_), (4,_)]) ⟨rfl, rfl, rfl, rfl, trivial⟩ ?_)
  refine gk_block ?_
  refine gk_loop (X := Int × Pt) (fun ⟨i, o⟩ => [(0, .slice a l.length cap), (2, .pointer (some ⟨b2, 0, none⟩)), (3, .pointer (some ⟨b3, 0, none⟩)), (4, .int .i64 i)]) (fun ⟨i, o⟩ => [Box b3 [.int .i64 o.x, .int .i64 o.z] 26, Box b2 [.int .i64 0, .int .i64 0] 26]) (fun ⟨i, o⟩ => (0 ≤ i ∧ i ≤ l.length ∧ o = (l.take i.toNat).foldl (fun (o p : Pt) => (⟨min o.x p.x, min o.z p.z⟩ : Pt)) (l.getD 0 default))) (fun ⟨i, o⟩ => (l.length - i).toNat) (0, l.getD 0 default) ⟨rfl, rfl, rfl, rfl, trivial⟩ rfl ?_ ?_
  · exact ⟨by simp, by simp, rfl⟩
  · rintro ⟨i, o⟩ hI
    obtain ⟨g0, g1, g2⟩ := hI
    refine gk_seq ?_
    refine gk_seq ?_
    refine gk_region ?_
    refine gk_y rfl rfl (y_move rfl) ?_
    refine gk_y rfl rfl (y_move rfl) ?_
    refine gk_y rfl rfl (y_lenS (Tryz.underlying24) rfl) ?_
    refine gk_y rfl rfl (y_lss rfl rfl) ?_
    refine gk_nil (gk_sub (T' := [(0,_), (2,_), (3,_), (4,_), (11,_)]) ⟨rfl, rfl, rfl, rfl, rfl, trivial⟩ ?_)
    refine gk_cond rfl (fun hc11 => ?_) (fun hc11 => ?_)
    · simp only [decide_eq_true_eq] at hc11
      refine gk_skip ?_
      refine gk_seq ?_
      refine gk_block ?_
      refine gk_anyS (R' := Box b3 [.int .i64 (min o.x ((l.getD (i).toNat default).x)), .int .i64 o.z] 26) 17 [10, 11, 12, 13, 14, 15] 0 (fun _ => mixed) rfl rfl (by kernel_rfl) rfl ?_
      refine phs_y (y_fieldAddr fo26_0 rfl) ?_
      refine phs_y (y_loadB1 0 tf3 rfl rfl rfl) ?_
      refine phs_y (y_move rfl) ?_
      refine phs_y (y_move rfl) ?_
      refine phs_y (y_indexE se24 rfl rfl (fun _ hw => (Rd.has (Has.rd hl) hw)) (by omega) (by omega)) ?_
      refine phs_y (y_fieldE fo26_0 rfl (fun w hw => elems_addr (i := i) (Rd.has (Has.rd hl) hw) (by omega) (by omega))) ?_
      refine phs_y (y_loadEF tf3 rfl (fun _ hw => (Rd.has (Has.rd hl) hw)) (by omega) (by omega) rfl) ?_
      refine phs_y (y_min rfl rfl) ?_
      refine phs_y (y_fieldAddr fo26_1 rfl) ?_
      refine phs_y (y_loadB1 0 tf3 rfl rfl rfl) ?_
      refine phs_y (y_move rfl) ?_
      refine phs_y (y_move rfl) ?_
      refine phs_y (y_indexE se24 rfl rfl (fun _ hw => (Rd.has (Has.rd hl) hw)) (by omega) (by omega)) ?_
      refine phs_y (y_fieldE fo26_1 rfl (fun w hw => elems_addr (i := i) (Rd.has (Has.rd hl) hw) (by omega) (by omega))) ?_
      refine phs_y (y_loadEF tf3 rfl (fun _ hw => (Rd.has (Has.rd hl) hw)) (by omega) (by omega) rfl) ?_
      refine phs_y (y_min rfl rfl) ?_
      refine phs_y (y_fieldAddr fo26_0 rfl) ?_
      refine ⟨so_box tf3 rfl rfl (vs := [_]) rfl rfl rfl rfl rfl, ?_⟩
      refine gk_sub (T' := [(0,_), (2,_), (3,_), (4,_), (29,_)]) ⟨rfl, rfl, rfl, rfl, rfl, trivial⟩ ?_
      refine gk_y rfl rfl (y_fieldAddr fo26_1 rfl) ?_
      refine gk_storeV 0 tf3 rfl rfl (vs := [_]) rfl rfl rfl rfl rfl ?_
      refine gk_nil (gk_sub (T' := [(0,_), (2,_), (3,_), (4,_)]) ⟨rfl, rfl, rfl, rfl, trivial⟩ ?_)
      refine gk_region ?_
      refine gk_y rfl rfl (y_move rfl) ?_
      refine gk_y rfl rfl (y_addI rfl rfl (by omega) (by omega)) ?_
      refine gk_y rfl rfl (y_assign rfl) ?_
      refine gk_nil (gk_sub (T' := [(0,_), (2,_), (3,_), (4,_)]) ⟨rfl, rfl, rfl, rfl, trivial⟩ ?_)
      exact gk_next (i + 1, ⟨_, _⟩) ⟨rfl, rfl, rfl, rfl, trivial⟩ rfl ⟨by omega, by omega, by rw [fold_take _ _ g0 (by omega), ← g2]⟩ (by simp only []; omega)
    · simp only [decide_eq_false_iff_not] at hc11
      refine gk_exit rfl ?_
      refine gk_seq ?_
      refine gk_region ?_
      refine gk_y rfl rfl (y_loadBA 0 tf26 rfl rfl (vs := [_, _]) rfl rfl) ?_
      refine gk_storeV 1 tf26 rfl rfl (vs := [_, _]) rfl rfl rfl rfl rfl ?_
      refine gk_nil (gk_sub (T' := [(2,_)]) ⟨rfl, trivial⟩ ?_)
      refine gk_ret ?_
      refine gk_pure (rv_one rfl (r1_cellA (i := 1) (vs := [_, _]) tf26 rfl rfl rfl rfl)) ?_
      rw [g2, take_all (by omega)]; rfl
set_option maxRecDepth 100000 in
set_option maxHeartbeats 1000000 in
theorem minfunc_c (a : Option Addr) (cap : Nat) (l : List Pt) (f : Pt → Pt → Int) (gg : FuncId) (gcap : List Value) (w : World) (hl : Has w (Pts a l)) (hs : Small l.length) (h0 : 0 < l.length) (M : World → Prop) (hM : ∀ w', Ext w w' → M w') (hen : En Tryz.prog gg) (hg : ∀ p q w', M w' → Calls Tryz.prog gg ([ptV p, ptV q] ++ gcap).toArray w' (Pure (.int .i64 (f p q)) w')) :
    Calls Tryz.prog 94 #[.slice a l.length cap, .func (.func gg) #[] gcap.toArray] w (Pure (ptV (minF f l)) w) := by
  refine calls_of_gk (vs := [_, _]) Tryz.func94 rfl rfl (Nat.le_of_ble_eq_true rfl) ?_
  refine gk_seq ?_
  refine gk_region ?_
  refine gk_yx rfl rfl (yx_alloc tf50 (zs := [_, _]) rfl) fun b4 => ?_
  refine gk_nil (gk_sub (T' := [(0,_), (1,_), (4,_)]) ⟨rfl, rfl, rfl, trivial⟩ ?_)
  refine gk_seq ?_
  refine gk_seq ?_
  refine gk_region ?_
  refine gk_y rfl rfl (y_move rfl) ?_
  refine gk_y rfl rfl (y_lenS (Tryz.underlying49) rfl) ?_
  refine gk_y rfl rfl (y_lss rfl rfl) ?_
  refine gk_nil (gk_sub (T' := [(0,_), (1,_), (4,_), (9,_)]) ⟨rfl, rfl, rfl, rfl, trivial⟩ ?_)
  refine gk_cond rfl (fun hc9 => ?_) (fun hc9 => ?_)
  · exfalso; simp at hc9; omega
  · simp only [decide_eq_false_iff_not] at hc9
    refine gk_skip ?_
    refine gk_seq ?_
    refine gk_region ?_
    refine gk_y rfl rfl (y_move rfl) ?_
    refine gk_y rfl rfl (y_indexE se49 rfl rfl (fun _ hw => (Rd.has (Has.rd hl) hw)) (by omega) (by omega)) ?_
    refine gk_y rfl rfl (y_loadE (vs := [_, _]) tf50 rfl (fun _ hw => (Rd.has (Has.rd hl) hw)) (by omega) (by omega) rfl) ?_
    refine gk_yx rfl rfl (yx_alloc tf50 (zs := [_, _]) rfl) fun b5 => ?_
    refine gk_storeV 0 tf50 rfl rfl (vs := [_, _]) rfl rfl rfl rfl rfl ?_
    refine gk_nil (gk_sub (T' := [(0,_), (1,_), (4,_), (5,_)]) ⟨rfl, rfl, rfl, rfl, trivial⟩ ?_)
    refine gk_seq ?_
    refine gk_seq ?_
    refine gk_region ?_
    refine gk_y rfl rfl (y_assign rfl) ?_
    refine gk_nil (gk_sub (T' := [(0,_), (1,_), (4,_), (5,_), (6,_)]) ⟨rfl, rfl, rfl, rfl, rfl, trivial⟩ ?_)
    refine gk_block ?_
    refine gk_loop (X := Int × Pt) (fun ⟨i, o⟩ => [(0, .slice a l.length cap), (1, .func (.func gg) #[] gcap.toArray), (4, .pointer (some ⟨b4, 0, none⟩)), (5, .pointer (some ⟨b5, 0, none⟩)), (6, .int .i64 i)]) (fun ⟨i, o⟩ => [Box b5 [.int .i64 o.x, .int .i64 o.z] 50, Box b4 [.int .i64 0, .int .i64 0] 50]) (fun ⟨i, o⟩ => (1 ≤ i ∧ i ≤ l.length ∧ o = minF f (l.take i.toNat))) (fun ⟨i, o⟩ => (l.length - i).toNat) (1, l.getD 0 default) ⟨rfl, rfl, rfl, rfl, rfl, trivial⟩ rfl ?_ ?_
    · exact ⟨by omega, by omega, by cases l with | nil => simp at h0 | cons p r => rfl⟩
    · rintro ⟨i, o⟩ hI
      obtain ⟨g0, g1, g2⟩ := hI
      refine gk_seq ?_
      refine gk_seq ?_
      refine gk_region ?_
      refine gk_y rfl rfl (y_move rfl) ?_
      refine gk_y rfl rfl (y_move rfl) ?_
      refine gk_y rfl rfl (y_lenS (Tryz.underlying49) rfl) ?_
      refine gk_y rfl rfl (y_lss rfl rfl) ?_
      refine gk_nil (gk_sub (T' := [(0,_), (1,_), (4,_), (5,_), (6,_), (17,_)]) ⟨rfl, rfl, rfl, rfl, rfl, rfl, trivial⟩ ?_)
      refine gk_cond rfl (fun hc17 => ?_) (fun hc17 => ?_)
      · simp only [decide_eq_true_eq] at hc17
        refine gk_skip ?_
        refine gk_seq ?_
        refine gk_block ?_
        refine gk_seq ?_
        refine gk_any 8 (fun _ => mixed) (by kernel_rfl) ?_
        refine ph_y (y_move rfl) ?_
        refine ph_y (y_move rfl) ?_
        refine ph_y (y_move rfl) ?_
        refine ph_y (y_indexE se49 rfl rfl (fun _ hw => (Rd.has (Has.rd hl) hw)) (by omega) (by omega)) ?_
        refine ph_y (y_loadE (vs := [_, _]) tf50 rfl (fun _ hw => (Rd.has (Has.rd hl) hw)) (by omega) (by omega) rfl) ?_
        refine ph_y (y_loadBA 0 tf50 rfl rfl (vs := [_, _]) rfl rfl) ?_
        refine ph_y (y_callV (fs := []) (cap := gcap) hen rfl rfl (fun w hw => hg ⟨_, _⟩ ⟨_, _⟩ w (hM _ hw.base.ext0))) ?_
        refine ph_y (y_lss rfl rfl) ?_
        refine gk_nil (gk_sub (T' := [(0,_), (1,_), (4,_), (5,_), (6,_), (27,_)]) ⟨rfl, rfl, rfl, rfl, rfl, rfl, trivial⟩ ?_)
        refine gk_cond rfl (fun hc27 => ?_) (fun hc27 => ?_)
        · simp only [decide_eq_true_eq] at hc27
          refine gk_region ?_
          refine gk_y rfl rfl (y_move rfl) ?_
          refine gk_y rfl rfl (y_move rfl) ?_
          refine gk_y rfl rfl (y_indexE se49 rfl rfl (fun _ hw => (Rd.has (Has.rd hl) hw)) (by omega) (by omega)) ?_
          refine gk_y rfl rfl (y_loadE (vs := [_, _]) tf50 rfl (fun _ hw => (Rd.has (Has.rd hl) hw)) (by omega) (by omega) rfl) ?_
          refine gk_storeV 0 tf50 rfl rfl (vs := [_, _]) rfl rfl rfl rfl rfl ?_
          refine gk_nil (gk_sub (T' := [(0,_), (1,_), (4,_), (5,_), (6,_)]) ⟨rfl, rfl, rfl, rfl, rfl, trivial⟩ ?_)
          refine gk_region ?_
          refine gk_y rfl rfl (y_move rfl) ?_
          refine gk_y rfl rfl (y_addI rfl rfl (by omega) (by omega)) ?_
          refine gk_y rfl rfl (y_assign rfl) ?_
          refine gk_nil (gk_sub (T' := [(0,_), (1,_), (4,_), (5,_), (6,_)]) ⟨rfl, rfl, rfl, rfl, rfl, trivial⟩ ?_)
          exact gk_next (i + 1, ⟨_, _⟩) ⟨rfl, rfl, rfl, rfl, rfl, trivial⟩ rfl ⟨by omega, by omega, by rw [minF_take g0 (by omega), ← g2]; first | exact (if_pos hc27).symm | exact (if_neg hc27).symm⟩ (by simp only []; omega)
        · simp only [decide_eq_false_iff_not] at hc27
          refine gk_skip ?_
          refine gk_region ?_
          refine gk_y rfl rfl (y_move rfl) ?_
          refine gk_y rfl rfl (y_addI rfl rfl (by omega) (by omega)) ?_
          refine gk_y rfl rfl (y_assign rfl) ?_
          refine gk_nil (gk_sub (T' := [(0,_), (1,_), (4,_), (5,_), (6,_)]) ⟨rfl, rfl, rfl, rfl, rfl, trivial⟩ ?_)
          exact gk_next (i + 1, ⟨_, _⟩) ⟨rfl, rfl, rfl, rfl, rfl, trivial⟩ rfl ⟨by omega, by omega, by rw [minF_take g0 (by omega), ← g2]; first | exact (if_pos hc27).symm | exact (if_neg hc27).symm⟩ (by simp only []; omega)
      · simp only [decide_eq_false_iff_not] at hc17
        refine gk_exit rfl ?_
        refine gk_seq ?_
        refine gk_region ?_
        refine gk_y rfl rfl (y_loadBA 0 tf50 rfl rfl (vs := [_, _]) rfl rfl) ?_
        refine gk_storeV 1 tf50 rfl rfl (vs := [_, _]) rfl rfl rfl rfl rfl ?_
        refine gk_nil (gk_sub (T' := [(4,_)]) ⟨rfl, trivial⟩ ?_)
        refine gk_ret ?_
        refine gk_pure (rv_one rfl (r1_cellA (i := 1) (vs := [_, _]) tf50 rfl rfl rfl rfl)) ?_
        rw [g2, take_all (by omega)]
set_option maxRecDepth 100000 in
set_option maxHeartbeats 1000000 in
theorem indexfunc_c (a : Option Addr) (cap : Nat) (l : List Pt) (f : Pt → Bool) (gg : FuncId) (gcap : List Value) (w : World) (hl : Has w (Pts a l)) (hs : Small l.length) (M : World → Prop) (hM : ∀ w', Ext w w' → M w') (hen : En Tryz.prog gg) (hg : ∀ p w', M w' → Calls Tryz.prog gg ([ptV p] ++ gcap).toArray w' (Pure (.bool (f p)) w')) :
    Calls Tryz.prog 138 #[.slice a l.length cap, .func (.func gg) #[] gcap.toArray] w (Pure (.int .i64 (findI f l)) w) := by
  refine calls_of_gk (vs := [_, _]) Tryz.func138 rfl rfl (Nat.le_of_ble_eq_true rfl) ?_
  refine gk_seq ?_
  refine gk_region ?_
  refine gk_y rfl rfl (y_assign rfl) ?_
  refine gk_nil (gk_sub (T' := [(0,_), (1,_), (4,_)]) ⟨rfl, rfl, rfl, trivial⟩ ?_)
  refine gk_seq ?_
  refine gk_seq ?_
  refine gk_region ?_
  refine gk_y rfl rfl (y_move rfl) ?_
  refine gk_y rfl rfl (y_lenS (Tryz.underlying49) rfl) ?_
  refine gk_y rfl rfl (y_move rfl) ?_
  refine gk_nil (gk_sub (T' := [(0,_), (1,_), (4,_), (7,_), (8,_)]) ⟨rfl, rfl, rfl, rfl, rfl, trivial⟩ ?_)
  refine gk_block ?_
  refine gk_loop (X := Int) (fun (i : Int) => [(0, .slice a l.length cap), (1, .func (.func gg) #[] gcap.toArray), (4, .int .i64 0), (7, .int .i64 (l.length : Int)), (8, .int .i64 i)]) (fun (i : Int) => []) (fun (i : Int) => (0 ≤ i ∧ i ≤ l.length ∧ ∀ j : Nat, (j : Int) < i → f (l.getD j default) = false)) (fun (i : Int) => (l.length - i).toNat) 0 ⟨rfl, rfl, rfl, rfl, rfl, trivial⟩ rfl ?_ ?_
  · exact ⟨by omega, by omega, fun j hj => by omega⟩
  · rintro i hI
    obtain ⟨g0, g1, g2⟩ := hI
    refine gk_seq ?_
    refine gk_region ?_
    refine gk_y rfl rfl (y_lss rfl rfl) ?_
    refine gk_nil (gk_sub (T' := [(0,_), (1,_), (4,_), (7,_), (8,_), (9,_)]) ⟨rfl, rfl, rfl, rfl, rfl, rfl, trivial⟩ ?_)
    refine gk_seq ?_
    refine gk_cond rfl (fun hc9 => ?_) (fun hc9 => ?_)
    · simp only [decide_eq_true_eq] at hc9
      refine gk_skip ?_
      refine gk_seq ?_
      refine gk_block ?_
      refine gk_seq ?_
      refine gk_region ?_
      refine gk_y rfl rfl (y_move rfl) ?_
      refine gk_y rfl rfl (y_assign rfl) ?_
      refine gk_nil (gk_sub (T' := [(0,_), (1,_), (4,_), (5,_), (7,_), (8,_)]) ⟨rfl, rfl, rfl, rfl, rfl, rfl, trivial⟩ ?_)
      refine gk_seq ?_
      refine gk_region ?_
      refine gk_y rfl rfl (y_move rfl) ?_
      refine gk_y rfl rfl (y_move rfl) ?_
      refine gk_y rfl rfl (y_move rfl) ?_
      refine gk_y rfl rfl (y_indexE se49 rfl rfl (fun _ hw => (Rd.has (Has.rd hl) hw)) (by omega) (by omega)) ?_
      refine gk_y rfl rfl (y_loadE (vs := [_, _]) tf50 rfl (fun _ hw => (Rd.has (Has.rd hl) hw)) (by omega) (by omega) rfl) ?_
      refine gk_y rfl rfl (y_callV (fs := []) (cap := gcap) hen rfl rfl (fun w hw => hg ⟨_, _⟩ w (hM _ hw.base.ext0))) ?_
      refine gk_nil (gk_sub (T' := [(0,_), (1,_), (4,_), (5,_), (7,_), (8,_), (16,_)]) ⟨rfl, rfl, rfl, rfl, rfl, rfl, rfl, trivial⟩ ?_)
      refine gk_cond rfl (fun hc16 => ?_) (fun hc16 => ?_)
      · skip
        refine gk_seq ?_
        refine gk_region ?_
        refine gk_y rfl rfl (y_move rfl) ?_
        refine gk_y rfl rfl (y_assign rfl) ?_
        refine gk_nil (gk_sub (T' := [(0,_), (1,_), (4,_), (7,_), (8,_)]) ⟨rfl, rfl, rfl, rfl, rfl, trivial⟩ ?_)
        refine gk_ret ?_
        refine gk_pure (rv_one rfl (r1_tmp rfl)) ?_
        exact congrArg _ (findI_hit g0 (by omega) g2 hc16).symm
      · skip
        refine gk_skip ?_
        refine gk_region ?_
        refine gk_y rfl rfl (y_addI rfl rfl (by omega) (by omega)) ?_
        refine gk_y rfl rfl (y_move rfl) ?_
        refine gk_nil (gk_sub (T' := [(0,_), (1,_), (4,_), (7,_), (8,_)]) ⟨rfl, rfl, rfl, rfl, rfl, trivial⟩ ?_)
        exact gk_next _ ⟨rfl, rfl, rfl, rfl, rfl, trivial⟩ rfl ⟨by omega, by omega, fun j hj => if h : (j : Int) < i then g2 j h else (by rw [show j = i.toNat from by omega]; exact hc16)⟩ (by omega)
    · simp only [decide_eq_false_iff_not] at hc9
      refine gk_exit rfl ?_
      refine gk_seq ?_
      refine gk_region ?_
      refine gk_y rfl rfl (y_assign rfl) ?_
      refine gk_nil (gk_sub (T' := [(4,_)]) ⟨rfl, trivial⟩ ?_)
      refine gk_ret ?_
      refine gk_pure (rv_one rfl (r1_tmp rfl)) ?_
      exact congrArg _ (findI_none (fun j hj => g2 j (by omega))).symm
set_option maxRecDepth 100000 in
set_option maxHeartbeats 1000000 in
theorem containsfunc_c (a : Option Addr) (cap : Nat) (l : List Pt) (f : Pt → Bool) (gg : FuncId) (gcap : List Value) (w : World) (hl : Has w (Pts a l)) (hs : Small l.length) (M : World → Prop) (hM : ∀ w', Ext w w' → M w') (hen : En Tryz.prog gg) (hg : ∀ p w', M w' → Calls Tryz.prog gg ([ptV p] ++ gcap).toArray w' (Pure (.bool (f p)) w')) :
    Calls Tryz.prog 117 #[.slice a l.length cap, .func (.func gg) #[] gcap.toArray] w (Pure (.bool (l.any f)) w) := by
  refine calls_of_gk (vs := [_, _]) Tryz.func117 rfl rfl (Nat.le_of_ble_eq_true rfl) ?_
  refine gk_seq ?_
  refine gk_region ?_
  refine gk_y rfl rfl (y_assign rfl) ?_
  refine gk_nil (gk_sub (T' := [(0,_), (1,_), (4,_)]) ⟨rfl, rfl, rfl, trivial⟩ ?_)
  refine gk_seq ?_
  refine gk_region ?_
  refine gk_y rfl rfl (y_move rfl) ?_
  refine gk_y rfl rfl (y_move rfl) ?_
  refine gk_y rfl rfl (y_call en138 rfl (fun w hw => indexfunc_c _ _ l f _ _ w (Rd.has (Has.rd hl) hw) (by assumption) M (fun w' h => hM w' (hw.base.ext0.trans h)) hen hg)) ?_
  refine gk_y rfl rfl (y_geq rfl rfl) ?_
  refine gk_y rfl rfl (y_assign rfl) ?_
  refine gk_nil (gk_sub (T' := [(4,_)]) ⟨rfl, trivial⟩ ?_)
  refine gk_ret ?_
  refine gk_pure (rv_one rfl (r1_tmp rfl)) ?_
  rw [findI_any]
set_option maxRecDepth 100000 in
set_option maxHeartbeats 1000000 in
theorem convex_c (a : Option Addr) (cap : Nat) (l : List Pt) (w : World) (hl : Has w (Pts a l)) (hs : Small l.length) :
    Calls Tryz.prog 118 #[.slice a l.length cap] w (Pure (.bool (convexB l)) w) := by
  refine calls_of_gk (vs := [_]) Tryz.func118 rfl rfl (Nat.le_of_ble_eq_true rfl) ?_
  refine gk_seq ?_
  refine gk_region ?_
  refine gk_y rfl rfl (y_assign rfl) ?_
  refine gk_nil (gk_sub (T' := [(0,_), (2,_)]) ⟨rfl, rfl, trivial⟩ ?_)
  refine gk_seq ?_
  refine gk_seq ?_
  refine gk_region ?_
  refine gk_y rfl rfl (y_move rfl) ?_
  refine gk_y rfl rfl (y_lenS (Tryz.underlying49) rfl) ?_
  refine gk_y rfl rfl (y_call en55 rfl (fun w hw => within_c _ _ _ w)) ?_
  refine gk_y rfl rfl (y_not rfl) ?_
  refine gk_nil (gk_sub (T' := [(0,_), (2,_), (8,_)]) ⟨rfl, rfl, rfl, trivial⟩ ?_)
  refine gk_cond rfl (fun hc8 => ?_) (fun hc8 => ?_)
  · have hc8 := hc8
    refine gk_seq ?_
    refine gk_region ?_
    refine gk_y rfl rfl (y_assign rfl) ?_
    refine gk_nil (gk_sub (T' := [(0,_), (2,_)]) ⟨rfl, rfl, trivial⟩ ?_)
    refine gk_ret ?_
    refine gk_pure (rv_one rfl (r1_tmp rfl)) ?_
    exact congrArg _ (convex_no hc8).symm
  · have hc8 := hc8
    refine gk_skip ?_
    refine gk_seq ?_
    refine gk_seq ?_
    refine gk_region ?_
    refine gk_y rfl rfl (y_move rfl) ?_
    refine gk_y rfl rfl (y_lenS (Tryz.underlying49) rfl) ?_
    refine gk_y rfl rfl (y_move rfl) ?_
    refine gk_nil (gk_sub (T' := [(0,_), (2,_), (10,_), (11,_)]) ⟨rfl, rfl, rfl, rfl, trivial⟩ ?_)
    refine gk_block ?_
    refine gk_loop (X := Int) (fun (i : Int) => [(0, .slice a l.length cap), (2, .bool false), (10, .int .i64 (l.length : Int)), (11, .int .i64 i)]) (fun (i : Int) => []) (fun (i : Int) => (0 ≤ i ∧ i ≤ l.length ∧ ∀ j : Nat, (j : Int) < i → cvxI l j = true)) (fun (i : Int) => (l.length - i).toNat) 0 ⟨rfl, rfl, rfl, rfl, trivial⟩ rfl ?_ ?_
    · exact ⟨by omega, by omega, fun j hj => by omega⟩
    · rintro i hI
      obtain ⟨g0, g1, g2⟩ := hI
      have hlen := convex_len hc8
      refine gk_seq ?_
      refine gk_region ?_
      refine gk_y rfl rfl (y_lss rfl rfl) ?_
      refine gk_nil (gk_sub (T' := [(0,_), (2,_), (10,_), (11,_), (12,_)]) ⟨rfl, rfl, rfl, rfl, rfl, trivial⟩ ?_)
      refine gk_seq ?_
      refine gk_cond rfl (fun hc12 => ?_) (fun hc12 => ?_)
      · simp only [decide_eq_true_eq] at hc12
        refine gk_skip ?_
        refine gk_seq ?_
        refine gk_block ?_
        refine gk_seq ?_
        refine gk_region ?_
        refine gk_y rfl rfl (y_move rfl) ?_
        refine gk_y rfl rfl (y_assign rfl) ?_
        refine gk_nil (gk_sub (T' := [(0,_), (2,_), (3,_), (10,_), (11,_)]) ⟨rfl, rfl, rfl, rfl, rfl, trivial⟩ ?_)
        refine gk_seq ?_
        refine gk_seq ?_
        refine gk_any 14 (fun _ => mixed) (by kernel_rfl) ?_
        refine ph_y (y_move rfl) ?_
        refine ph_y (y_move rfl) ?_
        refine ph_y (y_subI rfl rfl (by omega) (by omega)) ?_
        refine ph_y (y_call en88 rfl (fun w hw => at_c _ _ l (i - 1) w (Rd.has (Has.rd hl) hw) (by assumption) (by omega) (by omega) (by omega))) ?_
        refine ph_y (y_move rfl) ?_
        refine ph_y (y_move rfl) ?_
        refine ph_y (y_indexE se49 rfl rfl (fun _ hw => (Rd.has (Has.rd hl) hw)) (by omega) (by omega)) ?_
        refine ph_y (y_loadE (vs := [_, _]) tf50 rfl (fun _ hw => (Rd.has (Has.rd hl) hw)) (by omega) (by omega) rfl) ?_
        refine ph_y (y_move rfl) ?_
        refine ph_y (y_move rfl) ?_
        refine ph_y (y_addI rfl rfl (by omega) (by omega)) ?_
        refine ph_y (y_call en88 rfl (fun w hw => at_c _ _ l (i + 1) w (Rd.has (Has.rd hl) hw) (by assumption) (by omega) (by omega) (by omega))) ?_
        refine ph_y (y_call en87 rfl (fun w hw => turn_c ⟨_, _⟩ ⟨_, _⟩ ⟨_, _⟩ w)) ?_
        refine ph_y (y_leq rfl rfl) ?_
        refine gk_nil (gk_sub (T' := [(0,_), (2,_), (3,_), (10,_), (11,_), (27,_)]) ⟨rfl, rfl, rfl, rfl, rfl, rfl, trivial⟩ ?_)
        refine gk_cond rfl (fun hc27 => ?_) (fun hc27 => ?_)
        · simp only [decide_eq_true_eq] at hc27
          refine gk_seq ?_
          refine gk_region ?_
          refine gk_y rfl rfl (y_assign rfl) ?_
          refine gk_nil (gk_sub (T' := [(0,_), (2,_), (3,_), (10,_), (11,_)]) ⟨rfl, rfl, rfl, rfl, rfl, trivial⟩ ?_)
          refine gk_ret ?_
          refine gk_pure (rv_one rfl (r1_tmp rfl)) ?_
          exact congrArg _ (convex_bad1 g0 (by omega) hc27).symm
        · simp only [decide_eq_false_iff_not] at hc27
          refine gk_skip ?_
          refine gk_seq ?_
          refine gk_region ?_
          refine gk_y rfl rfl (y_assign rfl) ?_
          refine gk_nil (gk_sub (T' := [(0,_), (2,_), (3,_), (4,_), (10,_), (11,_)]) ⟨rfl, rfl, rfl, rfl, rfl, rfl, trivial⟩ ?_)
          refine gk_block ?_
          refine gk_loop (X := Int) (fun (k : Int) => [(0, .slice a l.length cap), (2, .bool false), (3, .int .i64 i), (4, .int .i64 k), (10, .int .i64 (l.length : Int)), (11, .int .i64 i)]) (fun (k : Int) => []) (fun (k : Int) => (2 ≤ k ∧ (k ≤ l.length - 1 ∨ k = 2) ∧ cvx1 l i = true ∧ ∀ j : Nat, 2 ≤ j → (j : Int) < k → cvx2 l i j = true)) (fun (k : Int) => (l.length - k).toNat) 2 ⟨rfl, rfl, rfl, rfl, rfl, rfl, trivial⟩ rfl ?_ ?_
          · exact ⟨by omega, by omega, cvx1_of hc27, fun j h1 h2 => by omega⟩
          · rintro k hI
            obtain ⟨k0, k1, k2, k3⟩ := hI
            refine gk_seq ?_
            refine gk_seq ?_
            refine gk_region ?_
            refine gk_y rfl rfl (y_move rfl) ?_
            refine gk_y rfl rfl (y_move rfl) ?_
            refine gk_y rfl rfl (y_lenS (Tryz.underlying49) rfl) ?_
            refine gk_y rfl rfl (y_subI rfl rfl (by omega) (by omega)) ?_
            refine gk_y rfl rfl (y_lss rfl rfl) ?_
            refine gk_nil (gk_sub (T' := [(0,_), (2,_), (3,_), (4,_), (10,_), (11,_), (32,_)]) ⟨rfl, rfl, rfl, rfl, rfl, rfl, rfl, trivial⟩ ?_)
            refine gk_cond rfl (fun hc32 => ?_) (fun hc32 => ?_)
            · simp only [decide_eq_true_eq] at hc32
              refine gk_skip ?_
              refine gk_seq ?_
              refine gk_block ?_
              refine gk_seq ?_
              refine gk_any 15 (fun _ => mixed) (by kernel_rfl) ?_
              refine ph_y (y_move rfl) ?_
              refine ph_y (y_move rfl) ?_
              refine ph_y (y_indexE se49 rfl rfl (fun _ hw => (Rd.has (Has.rd hl) hw)) (by omega) (by omega)) ?_
              refine ph_y (y_loadE (vs := [_, _]) tf50 rfl (fun _ hw => (Rd.has (Has.rd hl) hw)) (by omega) (by omega) rfl) ?_
              refine ph_y (y_move rfl) ?_
              refine ph_y (y_move rfl) ?_
              refine ph_y (y_addI rfl rfl (by omega) (by omega)) ?_
              refine ph_y (y_call en88 rfl (fun w hw => at_c _ _ l (i + 1) w (Rd.has (Has.rd hl) hw) (by assumption) (by omega) (by omega) (by omega))) ?_
              refine ph_y (y_move rfl) ?_
              refine ph_y (y_move rfl) ?_
              refine ph_y (y_move rfl) ?_
              refine ph_y (y_addI rfl rfl (by omega) (by omega)) ?_
              refine ph_y (y_call en88 rfl (fun w hw => at_c _ _ l (i + k) w (Rd.has (Has.rd hl) hw) (by assumption) (by omega) (by omega) (by omega))) ?_
              refine ph_y (y_call en87 rfl (fun w hw => turn_c ⟨_, _⟩ ⟨_, _⟩ ⟨_, _⟩ w)) ?_
              refine ph_y (y_leq rfl rfl) ?_
              refine gk_nil (gk_sub (T' := [(0,_), (2,_), (3,_), (4,_), (10,_), (11,_), (49,_)]) ⟨rfl, rfl, rfl, rfl, rfl, rfl, rfl, trivial⟩ ?_)
              refine gk_cond rfl (fun hc49 => ?_) (fun hc49 => ?_)
              · simp only [decide_eq_true_eq] at hc49
                refine gk_seq ?_
                refine gk_region ?_
                refine gk_y rfl rfl (y_assign rfl) ?_
                refine gk_nil (gk_sub (T' := [(0,_), (2,_), (3,_), (4,_), (10,_), (11,_)]) ⟨rfl, rfl, rfl, rfl, rfl, rfl, trivial⟩ ?_)
                refine gk_ret ?_
                refine gk_pure (rv_one rfl (r1_tmp rfl)) ?_
                exact congrArg _ (convex_bad2 g0 (by omega) k0 (by omega) hc49).symm
              · simp only [decide_eq_false_iff_not] at hc49
                refine gk_skip ?_
                refine gk_region ?_
                refine gk_y rfl rfl (y_move rfl) ?_
                refine gk_y rfl rfl (y_addI rfl rfl (by omega) (by omega)) ?_
                refine gk_y rfl rfl (y_assign rfl) ?_
                refine gk_nil (gk_sub (T' := [(0,_), (2,_), (3,_), (4,_), (10,_), (11,_)]) ⟨rfl, rfl, rfl, rfl, rfl, rfl, trivial⟩ ?_)
                exact gk_next _ ⟨rfl, rfl, rfl, rfl, rfl, rfl, trivial⟩ rfl ⟨by omega, by omega, k2, fun j h1 h2 => if h : (j : Int) < k then k3 j h1 h else (by rw [show (j : Int) = k from by omega]; exact cvx2_of hc49)⟩ (by omega)
            · simp only [decide_eq_false_iff_not] at hc32
              refine gk_exit rfl ?_
              refine gk_region ?_
              refine gk_y rfl rfl (y_addI rfl rfl (by omega) (by omega)) ?_
              refine gk_y rfl rfl (y_move rfl) ?_
              refine gk_nil (gk_sub (T' := [(0,_), (2,_), (10,_), (11,_)]) ⟨rfl, rfl, rfl, rfl, trivial⟩ ?_)
              exact gk_next _ ⟨rfl, rfl, rfl, rfl, trivial⟩ rfl ⟨by omega, by omega, fun j hj => if h : (j : Int) < i then g2 j h else (by rw [show (j : Int) = i from by omega]; exact cvxI_true (by omega) k2 k3)⟩ (by omega)
      · simp only [decide_eq_false_iff_not] at hc12
        refine gk_exit rfl ?_
        refine gk_seq ?_
        refine gk_region ?_
        refine gk_y rfl rfl (y_assign rfl) ?_
        refine gk_nil (gk_sub (T' := [(2,_)]) ⟨rfl, trivial⟩ ?_)
        refine gk_ret ?_
        refine gk_pure (rv_one rfl (r1_tmp rfl)) ?_
        exact congrArg _ (convex_yes hlen g2 (by omega)).symm
set_option maxRecDepth 100000 in
set_option maxHeartbeats 1000000 in
theorem placed1_c (p : Pt) (w : World)  :
    Calls Tryz.prog 116 #[.agg #[.int .i64 p.x, .int .i64 p.z]] w (Pure (.bool (farB p)) w) := by
  refine calls_of_gk (vs := [_]) Tryz.func116 rfl rfl (Nat.le_of_ble_eq_true rfl) ?_
  refine gk_seq ?_
  refine gk_region ?_
  refine gk_yx rfl rfl (yx_box (vs := [_, _]) rfl rfl) fun b1 => ?_
  refine gk_y rfl rfl (y_assign rfl) ?_
  refine gk_nil (gk_sub (T' := [(1,_), (2,_)]) ⟨rfl, rfl, trivial⟩ ?_)
  refine gk_seq ?_
  refine gk_any 11 (fun _ => mixed) (by kernel_rfl) ?_
  refine ph_y (y_fieldAddr fo50_0 rfl) ?_
  refine ph_y (y_loadB1 0 tf3 rfl rfl rfl) ?_
  refine ph_y (y_call en55 rfl (fun w hw => within_c _ _ _ w)) ?_
  refine ph_y (y_not rfl) ?_
  refine ph_y (y_move rfl) ?_
  refine ph_gF rfl rfl (fun hgd => by (try rw [hgd]); exact (y_fieldAddr fo50_1 rfl)) ?_
  refine ph_gF rfl rfl (fun hgd => by (try rw [hgd]); exact (y_loadB1 0 tf3 rfl rfl rfl)) ?_
  refine ph_gF rfl rfl (fun hgd => by (try rw [hgd]); exact (y_call (v := .bool (decide (0 ≤ p.z) && decide (p.z ≤ 2000))) en55 rfl (fun w hw => within_c _ _ _ w))) ?_
  refine ph_gF rfl rfl (fun hgd => by (try rw [hgd]); exact (y_not rfl)) ?_
  refine ph_y (y_pickOr rfl rfl rfl) ?_
  refine ph_y (y_assign rfl) ?_
  refine gk_nil (gk_sub (T' := [(2,_)]) ⟨rfl, trivial⟩ ?_)
  refine gk_ret ?_
  refine gk_pure (rv_one rfl (r1_tmp rfl)) ?_
  rfl
set_option maxRecDepth 100000 in
set_option maxHeartbeats 1000000 in
theorem placed_c (a : Option Addr) (cap : Nat) (l : List Pt) (w : World) (hl : Has w (Pts a l)) (hs : Small l.length) :
    Calls Tryz.prog 75 #[.slice a l.length cap] w (Pure (.bool (placedB l)) w) := by
  refine calls_of_gk (vs := [_]) Tryz.func75 rfl rfl (Nat.le_of_ble_eq_true rfl) ?_
  refine gk_seq ?_
  refine gk_region ?_
  refine gk_y rfl rfl (y_assign rfl) ?_
  refine gk_nil (gk_sub (T' := [(0,_), (2,_)]) ⟨rfl, rfl, trivial⟩ ?_)
  refine gk_seq ?_
  refine gk_region ?_
  refine gk_y rfl rfl (y_assign rfl) ?_
  refine gk_nil (gk_sub (T' := [(0,_), (2,_), (3,_)]) ⟨rfl, rfl, rfl, trivial⟩ ?_)
  refine gk_seq ?_
  refine gk_seq ?_
  refine gk_any 8 (fun _ => mixed) (by kernel_rfl) ?_
  refine ph_y (y_move rfl) ?_
  refine ph_y (y_move rfl) ?_
  refine ph_y (y_call en117 rfl (fun w hw => containsfunc_c _ _ l farB _ [] w (Rd.has (Has.rd hl) hw) (by assumption) (fun _ => True) (fun _ _ => trivial) en116 (fun p w _ => placed1_c p w))) ?_
  refine ph_y (y_move rfl) ?_
  refine ph_gF rfl rfl (fun hgd => by (try rw [hgd]); exact (y_move rfl)) ?_
  refine ph_gF rfl rfl (fun hgd => by (try rw [hgd]); exact (y_call (v := .bool (convexB l)) en118 rfl (fun w hw => convex_c _ _ l w (Rd.has (Has.rd hl) hw) (by assumption)))) ?_
  refine ph_gF rfl rfl (fun hgd => by (try rw [hgd]); exact (y_not rfl)) ?_
  refine ph_y (y_pickOr rfl rfl rfl) ?_
  refine gk_nil (gk_sub (T' := [(0,_), (2,_), (11,_)]) ⟨rfl, rfl, rfl, trivial⟩ ?_)
  refine gk_cond rfl (fun hc11 => ?_) (fun hc11 => ?_)
  · skip
    refine gk_seq ?_
    refine gk_region ?_
    refine gk_y rfl rfl (y_assign rfl) ?_
    refine gk_nil (gk_sub (T' := [(0,_), (2,_)]) ⟨rfl, rfl, trivial⟩ ?_)
    refine gk_ret ?_
    refine gk_pure (rv_one rfl (r1_tmp rfl)) ?_
    exact congrArg _ (placed_no hc11).symm
  · have h0 := placed_pos hc11
    refine gk_skip ?_
    refine gk_seq ?_
    refine gk_any 13 (fun _ => mixed) (by kernel_rfl) ?_
    refine ph_y (y_move rfl) ?_
    refine ph_y (y_call en93 rfl (fun w hw => least_c _ _ l w (Rd.has (Has.rd hl) hw) (by assumption) (by omega))) ?_
    refine ph_y (y_buildL (parts := []) rfl bd50_) ?_
    refine ph_y (y_eql50 rfl rfl) ?_
    refine ph_y (y_move rfl) ?_
    refine ph_gT rfl rfl (fun hgd => by (try rw [hgd]); exact (y_move rfl)) ?_
    refine ph_gT rfl rfl (fun hgd => by (try rw [hgd]); exact (y_call (v := .agg #[.int .i64 ((minF lowerW l).x), .int .i64 ((minF lowerW l).z)]) en94 rfl (fun w hw => minfunc_c _ _ l lowerW _ [] w (Rd.has (Has.rd hl) hw) (by assumption) (by omega) (fun _ => True) (fun _ _ => trivial) en95 (fun p q w _ => lower_c p q w)))) ?_
    refine ph_gT rfl rfl (fun hgd => by (try rw [hgd]); exact (y_move rfl)) ?_
    refine ph_gT rfl rfl (fun hgd => by (try rw [hgd]); exact (y_indexE se49 rfl rfl (fun _ hw => (Rd.has (Has.rd hl) hw)) (by omega) (by omega))) ?_
    refine ph_gT rfl rfl (fun hgd => by (try rw [hgd]); exact (y_loadE (vs := [_, _]) tf50 rfl (fun _ hw => (Rd.has (Has.rd hl) hw)) (by omega) (by omega) rfl)) ?_
    refine ph_gT rfl rfl (fun hgd => by (try rw [hgd]); exact (y_eql50 rfl rfl)) ?_
    refine ph_y (y_pickAnd rfl rfl rfl) ?_
    refine ph_y (y_assign rfl) ?_
    refine gk_nil (gk_sub (T' := [(2,_)]) ⟨rfl, trivial⟩ ?_)
    refine gk_ret ?_
    refine gk_pure (rv_one rfl (r1_tmp rfl)) ?_
    exact congrArg _ (placed_yes hc11).symm
set_option maxRecDepth 100000 in
set_option maxHeartbeats 1000000 in
theorem rconvex_c (a : Option Addr) (cap : Nat) (l : List Pt) (w : World) (hl : Has w (Pts a l)) (hs : Small l.length) :
    Calls Tryz.prog 111 #[.slice a l.length cap] w (Pure (.bool (rconvexB l)) w) := by
  refine calls_of_gk (vs := [_]) Tryz.func111 rfl rfl (Nat.le_of_ble_eq_true rfl) ?_
  refine gk_seq ?_
  refine gk_region ?_
  refine gk_y rfl rfl (y_assign rfl) ?_
  refine gk_nil (gk_sub (T' := [(0,_), (2,_)]) ⟨rfl, rfl, trivial⟩ ?_)
  refine gk_seq ?_
  refine gk_seq ?_
  refine gk_any 8 (fun _ => mixed) (by kernel_rfl) ?_
  refine ph_y (y_move rfl) ?_
  refine ph_y (y_lenS (Tryz.underlying24) rfl) ?_
  refine ph_y (y_lss rfl rfl) ?_
  refine ph_y (y_move rfl) ?_
  refine ph_gF rfl rfl (fun hgd => by (try rw [hgd]); exact (y_move rfl)) ?_
  refine ph_gF rfl rfl (fun hgd => by (try rw [hgd]); exact (y_lenS (Tryz.underlying24) rfl)) ?_
  refine ph_gF rfl rfl (fun hgd => by (try rw [hgd]); exact (y_gtr rfl rfl)) ?_
  refine ph_y (y_pickOr rfl rfl rfl) ?_
  refine gk_nil (gk_sub (T' := [(0,_), (2,_), (12,_)]) ⟨rfl, rfl, rfl, trivial⟩ ?_)
  refine gk_cond rfl (fun hc12 => ?_) (fun hc12 => ?_)
  · skip
    refine gk_seq ?_
    refine gk_region ?_
    refine gk_y rfl rfl (y_assign rfl) ?_
    refine gk_nil (gk_sub (T' := [(0,_), (2,_)]) ⟨rfl, rfl, trivial⟩ ?_)
    refine gk_ret ?_
    refine gk_pure (rv_one rfl (r1_tmp rfl)) ?_
    exact congrArg _ (rconvex_no hc12).symm
  · skip
    refine gk_skip ?_
    refine gk_seq ?_
    refine gk_seq ?_
    refine gk_region ?_
    refine gk_y rfl rfl (y_assign rfl) ?_
    refine gk_nil (gk_sub (T' := [(0,_), (2,_), (3,_)]) ⟨rfl, rfl, rfl, trivial⟩ ?_)
    refine gk_block ?_
    refine gk_loop (X := Int) (fun (i : Int) => [(0, .slice a l.length cap), (2, .bool false), (3, .int .i64 i)]) (fun (i : Int) => []) (fun (i : Int) => (0 ≤ i ∧ i ≤ l.length ∧ ∀ j : Nat, (j : Int) < i → rcvI l j = true)) (fun (i : Int) => (l.length - i).toNat) 0 ⟨rfl, rfl, rfl, trivial⟩ rfl ?_ ?_
    · exact ⟨by omega, by omega, fun j hj => by omega⟩
    · rintro i hI
      obtain ⟨g0, g1, g2⟩ := hI
      have hlen := rconvex_len hc12
      refine gk_seq ?_
      refine gk_seq ?_
      refine gk_region ?_
      refine gk_y rfl rfl (y_move rfl) ?_
      refine gk_y rfl rfl (y_move rfl) ?_
      refine gk_y rfl rfl (y_lenS (Tryz.underlying24) rfl) ?_
      refine gk_y rfl rfl (y_lss rfl rfl) ?_
      refine gk_nil (gk_sub (T' := [(0,_), (2,_), (3,_), (16,_)]) ⟨rfl, rfl, rfl, rfl, trivial⟩ ?_)
      refine gk_cond rfl (fun hc16 => ?_) (fun hc16 => ?_)
      · simp only [decide_eq_true_eq] at hc16
        refine gk_skip ?_
        refine gk_seq ?_
        refine gk_block ?_
        refine gk_seq ?_
        refine gk_region ?_
        refine gk_y rfl rfl (y_assign rfl) ?_
        refine gk_nil (gk_sub (T' := [(0,_), (2,_), (3,_), (4,_)]) ⟨rfl, rfl, rfl, rfl, trivial⟩ ?_)
        refine gk_block ?_
        refine gk_loop (X := Int) (fun (k : Int) => [(0, .slice a l.length cap), (2, .bool false), (3, .int .i64 i), (4, .int .i64 k)]) (fun (k : Int) => []) (fun (k : Int) => (0 ≤ k ∧ k ≤ l.length ∧ ∀ j : Nat, (j : Int) < k → rcv l i j = true)) (fun (k : Int) => (l.length - k).toNat) 0 ⟨rfl, rfl, rfl, rfl, trivial⟩ rfl ?_ ?_
        · exact ⟨by omega, by omega, fun j h1 => by omega⟩
        · rintro k hI
          obtain ⟨k0, k1, k2⟩ := hI
          refine gk_seq ?_
          refine gk_seq ?_
          refine gk_region ?_
          refine gk_y rfl rfl (y_move rfl) ?_
          refine gk_y rfl rfl (y_move rfl) ?_
          refine gk_y rfl rfl (y_lenS (Tryz.underlying24) rfl) ?_
          refine gk_y rfl rfl (y_lss rfl rfl) ?_
          refine gk_nil (gk_sub (T' := [(0,_), (2,_), (3,_), (4,_), (22,_)]) ⟨rfl, rfl, rfl, rfl, rfl, trivial⟩ ?_)
          refine gk_cond rfl (fun hc22 => ?_) (fun hc22 => ?_)
          · simp only [decide_eq_true_eq] at hc22
            refine gk_skip ?_
            refine gk_seq ?_
            refine gk_block ?_
            refine gk_seq ?_
            refine gk_any 27 (fun _ => mixed) (by kernel_rfl) ?_
            refine ph_y (y_move rfl) ?_
            refine ph_y (y_move rfl) ?_
            refine ph_y (y_neq rfl rfl) ?_
            refine ph_y (y_move rfl) ?_
            refine ph_gT rfl rfl (fun hgd => by (try rw [hgd]); exact (y_move rfl)) ?_
            refine ph_gT rfl rfl (fun hgd => by (try rw [hgd]); exact (y_move rfl)) ?_
            refine ph_gT rfl rfl (fun hgd => by (try rw [hgd]); exact (y_addI rfl rfl (by omega) (by omega))) ?_
            refine ph_gT rfl rfl (fun hgd => by (try rw [hgd]); exact (y_move rfl)) ?_
            refine ph_gT rfl rfl (fun hgd => by (try rw [hgd]); exact (y_lenS (Tryz.underlying24) rfl)) ?_
            refine ph_gT rfl rfl (fun hgd => by (try rw [hgd]); exact (y_rem rfl rfl (by omega))) ?_
            refine ph_gT rfl rfl (fun hgd => by (try rw [hgd]); exact (y_neq rfl rfl)) ?_
            refine ph_y (y_pickAnd rfl rfl rfl) ?_
            refine ph_y (y_move rfl) ?_
            refine ph_gT rfl rfl (fun hgd => by (try rw [hgd]); exact (y_move rfl)) ?_
            refine ph_gT rfl rfl (fun hgd => by (try rw [hgd]); exact (y_move rfl)) ?_
            refine ph_gT rfl rfl (fun hgd => by (try rw [hgd]); exact (y_indexE se24 rfl rfl (fun _ hw => (Rd.has (Has.rd hl) hw)) (by omega) (by omega))) ?_
            refine ph_gT rfl rfl (fun hgd => by (try rw [hgd]); exact (y_loadE (vs := [_, _]) tf26 rfl (fun _ hw => (Rd.has (Has.rd hl) hw)) (by omega) (by omega) rfl)) ?_
            refine ph_gT rfl rfl (fun hgd => by (try rw [hgd]); exact (y_move rfl)) ?_
            refine ph_gT rfl rfl (fun hgd => by (try rw [hgd]); exact (y_move rfl)) ?_
            refine ph_gT rfl rfl (fun hgd => by (try rw [hgd]); exact (y_call (v := .agg #[.int .i64 ((nextL l i).x), .int .i64 ((nextL l i).z)]) en119 rfl (fun w hw => next_c _ _ l i w (Rd.has (Has.rd hl) hw) (by assumption) (by omega) (by omega) (by omega)))) ?_
            refine ph_gT rfl rfl (fun hgd => by (try rw [hgd]); exact (y_move rfl)) ?_
            refine ph_gT rfl rfl (fun hgd => by (try rw [hgd]); exact (y_move rfl)) ?_
            refine ph_gT rfl rfl (fun hgd => by (try rw [hgd]); exact (y_indexE se24 rfl rfl (fun _ hw => (Rd.has (Has.rd hl) hw)) (by omega) (by omega))) ?_
            refine ph_gT rfl rfl (fun hgd => by (try rw [hgd]); exact (y_loadE (vs := [_, _]) tf26 rfl (fun _ hw => (Rd.has (Has.rd hl) hw)) (by omega) (by omega) rfl)) ?_
            refine ph_gT rfl rfl (fun hgd => by (try rw [hgd]); exact (y_call (v := .int .i64 (sideW (l.getD (i).toNat default) (nextL l i) (l.getD (k).toNat default))) en136 rfl (fun w hw => side_c ⟨_, _⟩ ⟨_, _⟩ ⟨_, _⟩ w))) ?_
            refine ph_gT rfl rfl (fun hgd => by (try rw [hgd]); exact (y_leq rfl rfl)) ?_
            refine ph_y (y_pickAnd rfl rfl rfl) ?_
            refine gk_nil (gk_sub (T' := [(0,_), (2,_), (3,_), (4,_), (51,_)]) ⟨rfl, rfl, rfl, rfl, rfl, trivial⟩ ?_)
            refine gk_cond rfl (fun hc51 => ?_) (fun hc51 => ?_)
            · skip
              refine gk_seq ?_
              refine gk_region ?_
              refine gk_y rfl rfl (y_assign rfl) ?_
              refine gk_nil (gk_sub (T' := [(0,_), (2,_), (3,_), (4,_)]) ⟨rfl, rfl, rfl, rfl, trivial⟩ ?_)
              refine gk_ret ?_
              refine gk_pure (rv_one rfl (r1_tmp rfl)) ?_
              exact congrArg _ (rconvex_bad g0 (by omega) k0 (by omega) hc51).symm
            · skip
              refine gk_skip ?_
              refine gk_region ?_
              refine gk_y rfl rfl (y_move rfl) ?_
              refine gk_y rfl rfl (y_addI rfl rfl (by omega) (by omega)) ?_
              refine gk_y rfl rfl (y_assign rfl) ?_
              refine gk_nil (gk_sub (T' := [(0,_), (2,_), (3,_), (4,_)]) ⟨rfl, rfl, rfl, rfl, trivial⟩ ?_)
              exact gk_next _ ⟨rfl, rfl, rfl, rfl, trivial⟩ rfl ⟨by omega, by omega, fun j h1 => if h : (j : Int) < k then k2 j h else (by rw [show (j : Int) = k from by omega]; exact rcv_of hc51)⟩ (by omega)
          · simp only [decide_eq_false_iff_not] at hc22
            refine gk_exit rfl ?_
            refine gk_region ?_
            refine gk_y rfl rfl (y_move rfl) ?_
            refine gk_y rfl rfl (y_addI rfl rfl (by omega) (by omega)) ?_
            refine gk_y rfl rfl (y_assign rfl) ?_
            refine gk_nil (gk_sub (T' := [(0,_), (2,_), (3,_)]) ⟨rfl, rfl, rfl, trivial⟩ ?_)
            exact gk_next _ ⟨rfl, rfl, rfl, trivial⟩ rfl ⟨by omega, by omega, fun j hj => if h : (j : Int) < i then g2 j h else (by rw [show (j : Int) = i from by omega]; exact allI_true fun j hj => k2 j (by omega))⟩ (by omega)
      · simp only [decide_eq_false_iff_not] at hc16
        refine gk_exit rfl ?_
        refine gk_seq ?_
        refine gk_region ?_
        refine gk_y rfl rfl (y_assign rfl) ?_
        refine gk_nil (gk_sub (T' := [(2,_)]) ⟨rfl, trivial⟩ ?_)
        refine gk_ret ?_
        refine gk_pure (rv_one rfl (r1_tmp rfl)) ?_
        exact congrArg _ (rconvex_yes hc12 g2 (by omega)).symm
set_option maxRecDepth 100000 in
set_option maxHeartbeats 1000000 in
theorem rfirst_c (a : Option Addr) (cap : Nat) (l : List Pt) (w : World) (hl : Has w (Pts a l)) (hs : Small l.length) :
    Calls Tryz.prog 113 #[.slice a l.length cap] w (Pure (.int .i64 (rfirst l)) w) := by
  refine calls_of_gk (vs := [_]) Tryz.func113 rfl rfl (Nat.le_of_ble_eq_true rfl) ?_
  refine gk_seq ?_
  refine gk_region ?_
  refine gk_y rfl rfl (y_assign rfl) ?_
  refine gk_nil (gk_sub (T' := [(0,_), (2,_)]) ⟨rfl, rfl, trivial⟩ ?_)
  refine gk_seq ?_
  refine gk_region ?_
  refine gk_y rfl rfl (y_assign rfl) ?_
  refine gk_nil (gk_sub (T' := [(0,_), (2,_), (3,_)]) ⟨rfl, rfl, rfl, trivial⟩ ?_)
  refine gk_seq ?_
  refine gk_seq ?_
  refine gk_region ?_
  refine gk_y rfl rfl (y_assign rfl) ?_
  refine gk_nil (gk_sub (T' := [(0,_), (2,_), (3,_), (4,_)]) ⟨rfl, rfl, rfl, rfl, trivial⟩ ?_)
  refine gk_block ?_
  refine gk_loop (X := Int × Int) (fun ⟨i, o⟩ => [(0, .slice a l.length cap), (2, .int .i64 0), (3, .int .i64 o), (4, .int .i64 i)]) (fun ⟨i, o⟩ => []) (fun ⟨i, o⟩ => (0 ≤ i ∧ i ≤ l.length ∧ 0 ≤ o ∧ o ≤ i ∧ o = rfirstN l i.toNat)) (fun ⟨i, o⟩ => (l.length - i).toNat) (0, 0) ⟨rfl, rfl, rfl, rfl, trivial⟩ rfl ?_ ?_
  · exact ⟨by omega, by omega, by omega, by omega, rfl⟩
  · rintro ⟨i, o⟩ hI
    obtain ⟨g0, g1, g2, g3, g4⟩ := hI
    refine gk_seq ?_
    refine gk_seq ?_
    refine gk_region ?_
    refine gk_y rfl rfl (y_move rfl) ?_
    refine gk_y rfl rfl (y_move rfl) ?_
    refine gk_y rfl rfl (y_lenS (Tryz.underlying24) rfl) ?_
    refine gk_y rfl rfl (y_lss rfl rfl) ?_
    refine gk_nil (gk_sub (T' := [(0,_), (2,_), (3,_), (4,_), (8,_)]) ⟨rfl, rfl, rfl, rfl, rfl, trivial⟩ ?_)
    have hne : l ≠ [] → True := fun _ => trivial
    refine gk_cond rfl (fun hc8 => ?_) (fun hc8 => ?_)
    · simp only [decide_eq_true_eq] at hc8
      refine gk_skip ?_
      refine gk_seq ?_
      refine gk_block ?_
      refine gk_seq ?_
      refine gk_any 37 (fun _ => mixed) (by kernel_rfl) ?_
      refine ph_y (y_move rfl) ?_
      refine ph_y (y_move rfl) ?_
      refine ph_y (y_indexE se24 rfl rfl (fun _ hw => (Rd.has (Has.rd hl) hw)) (by omega) (by omega)) ?_
      refine ph_y (y_fieldE fo26_1 rfl (fun w hw => elems_addr (i := i) (Rd.has (Has.rd hl) hw) (by omega) (by omega))) ?_
      refine ph_y (y_loadEF tf3 rfl (fun _ hw => (Rd.has (Has.rd hl) hw)) (by omega) (by omega) rfl) ?_
      refine ph_y (y_move rfl) ?_
      refine ph_y (y_move rfl) ?_
      refine ph_y (y_indexE se24 rfl rfl (fun _ hw => (Rd.has (Has.rd hl) hw)) (by omega) (by omega)) ?_
      refine ph_y (y_fieldE fo26_1 rfl (fun w hw => elems_addr (i := o) (Rd.has (Has.rd hl) hw) (by omega) (by omega))) ?_
      refine ph_y (y_loadEF tf3 rfl (fun _ hw => (Rd.has (Has.rd hl) hw)) (by omega) (by omega) rfl) ?_
      refine ph_y (y_lss rfl rfl) ?_
      refine ph_y (y_move rfl) ?_
      refine ph_gF rfl rfl (fun hgd => by (try rw [hgd]); exact (y_move rfl)) ?_
      refine ph_gF rfl rfl (fun hgd => by (try rw [hgd]); exact (y_move rfl)) ?_
      refine ph_gF rfl rfl (fun hgd => by (try rw [hgd]); exact (y_indexE se24 rfl rfl (fun _ hw => (Rd.has (Has.rd hl) hw)) (by omega) (by omega))) ?_
      refine ph_gF rfl rfl (fun hgd => by (try rw [hgd]); exact (y_fieldE fo26_1 rfl (fun w hw => elems_addr (i := i) (Rd.has (Has.rd hl) hw) (by omega) (by omega)))) ?_
      refine ph_gF rfl rfl (fun hgd => by (try rw [hgd]); exact (y_loadEF tf3 rfl (fun _ hw => (Rd.has (Has.rd hl) hw)) (by omega) (by omega) rfl)) ?_
      refine ph_gF rfl rfl (fun hgd => by (try rw [hgd]); exact (y_move rfl)) ?_
      refine ph_gF rfl rfl (fun hgd => by (try rw [hgd]); exact (y_move rfl)) ?_
      refine ph_gF rfl rfl (fun hgd => by (try rw [hgd]); exact (y_indexE se24 rfl rfl (fun _ hw => (Rd.has (Has.rd hl) hw)) (by omega) (by omega))) ?_
      refine ph_gF rfl rfl (fun hgd => by (try rw [hgd]); exact (y_fieldE fo26_1 rfl (fun w hw => elems_addr (i := o) (Rd.has (Has.rd hl) hw) (by omega) (by omega)))) ?_
      refine ph_gF rfl rfl (fun hgd => by (try rw [hgd]); exact (y_loadEF tf3 rfl (fun _ hw => (Rd.has (Has.rd hl) hw)) (by omega) (by omega) rfl)) ?_
      refine ph_gF rfl rfl (fun hgd => by (try rw [hgd]); exact (y_eql rfl rfl)) ?_
      refine ph_gF rfl rfl (fun hgd => by (try rw [hgd]); exact (y_move rfl)) ?_
      refine ph_gTT rfl rfl (fun hgd => by (try rw [hgd]); exact (y_move rfl)) ?_
      refine ph_gTT rfl rfl (fun hgd => by (try rw [hgd]); exact (y_move rfl)) ?_
      refine ph_gTT rfl rfl (fun hgd => by (try rw [hgd]); exact (y_indexE se24 rfl rfl (fun _ hw => (Rd.has (Has.rd hl) hw)) (by omega) (by omega))) ?_
      refine ph_gTT rfl rfl (fun hgd => by (try rw [hgd]); exact (y_fieldE fo26_0 rfl (fun w hw => elems_addr (i := i) (Rd.has (Has.rd hl) hw) (by omega) (by omega)))) ?_
      refine ph_gTT rfl rfl (fun hgd => by (try rw [hgd]); exact (y_loadEF tf3 rfl (fun _ hw => (Rd.has (Has.rd hl) hw)) (by omega) (by omega) rfl)) ?_
      refine ph_gTT rfl rfl (fun hgd => by (try rw [hgd]); exact (y_move rfl)) ?_
      refine ph_gTT rfl rfl (fun hgd => by (try rw [hgd]); exact (y_move rfl)) ?_
      refine ph_gTT rfl rfl (fun hgd => by (try rw [hgd]); exact (y_indexE se24 rfl rfl (fun _ hw => (Rd.has (Has.rd hl) hw)) (by omega) (by omega))) ?_
      refine ph_gTT rfl rfl (fun hgd => by (try rw [hgd]); exact (y_fieldE fo26_0 rfl (fun w hw => elems_addr (i := o) (Rd.has (Has.rd hl) hw) (by omega) (by omega)))) ?_
      refine ph_gTT rfl rfl (fun hgd => by (try rw [hgd]); exact (y_loadEF tf3 rfl (fun _ hw => (Rd.has (Has.rd hl) hw)) (by omega) (by omega) rfl)) ?_
      refine ph_gTT rfl rfl (fun hgd => by (try rw [hgd]); exact (y_lss rfl rfl)) ?_
      refine ph_gF rfl rfl (fun hgd => by (try rw [hgd]); exact (y_pickAnd rfl rfl rfl)) ?_
      refine ph_y (y_pickOr rfl rfl rfl) ?_
      refine gk_nil (gk_sub (T' := [(0,_), (2,_), (3,_), (4,_), (47,_)]) ⟨rfl, rfl, rfl, rfl, rfl, trivial⟩ ?_)
      refine gk_cond rfl (fun hc47 => ?_) (fun hc47 => ?_)
      · skip
        refine gk_region ?_
        refine gk_y rfl rfl (y_move rfl) ?_
        refine gk_y rfl rfl (y_assign rfl) ?_
        refine gk_nil (gk_sub (T' := [(0,_), (2,_), (3,_), (4,_)]) ⟨rfl, rfl, rfl, rfl, trivial⟩ ?_)
        refine gk_region ?_
        refine gk_y rfl rfl (y_move rfl) ?_
        refine gk_y rfl rfl (y_addI rfl rfl (by omega) (by omega)) ?_
        refine gk_y rfl rfl (y_assign rfl) ?_
        refine gk_nil (gk_sub (T' := [(0,_), (2,_), (3,_), (4,_)]) ⟨rfl, rfl, rfl, rfl, trivial⟩ ?_)
        exact gk_next (i + 1, _) ⟨rfl, rfl, rfl, rfl, trivial⟩ rfl ⟨by omega, by omega, by omega, by omega, by rw [rfirstN_succ g0, ← g4]; first | exact (if_pos hc47).symm | exact (if_neg (fun h => Bool.false_ne_true (hc47.symm.trans h))).symm⟩ (by simp only []; omega)
      · skip
        refine gk_skip ?_
        refine gk_region ?_
        refine gk_y rfl rfl (y_move rfl) ?_
        refine gk_y rfl rfl (y_addI rfl rfl (by omega) (by omega)) ?_
        refine gk_y rfl rfl (y_assign rfl) ?_
        refine gk_nil (gk_sub (T' := [(0,_), (2,_), (3,_), (4,_)]) ⟨rfl, rfl, rfl, rfl, trivial⟩ ?_)
        exact gk_next (i + 1, _) ⟨rfl, rfl, rfl, rfl, trivial⟩ rfl ⟨by omega, by omega, by omega, by omega, by rw [rfirstN_succ g0, ← g4]; first | exact (if_pos hc47).symm | exact (if_neg (fun h => Bool.false_ne_true (hc47.symm.trans h))).symm⟩ (by simp only []; omega)
    · simp only [decide_eq_false_iff_not] at hc8
      refine gk_exit rfl ?_
      refine gk_seq ?_
      refine gk_region ?_
      refine gk_y rfl rfl (y_move rfl) ?_
      refine gk_y rfl rfl (y_assign rfl) ?_
      refine gk_nil (gk_sub (T' := [(2,_)]) ⟨rfl, trivial⟩ ?_)
      refine gk_ret ?_
      refine gk_pure (rv_one rfl (r1_tmp rfl)) ?_
      rw [g4, rfirstN_all (by omega)]
set_option maxRecDepth 100000 in
set_option maxHeartbeats 1000000 in
theorem rplaced_c (a : Option Addr) (cap : Nat) (l : List Pt) (w : World) (hl : Has w (Pts a l)) (hs : Small l.length) :
    Calls Tryz.prog 72 #[.slice a l.length cap] w (Pure (.bool (rplacedB l)) w) := by
  refine calls_of_gk (vs := [_]) Tryz.func72 rfl rfl (Nat.le_of_ble_eq_true rfl) ?_
  refine gk_seq ?_
  refine gk_region ?_
  refine gk_y rfl rfl (y_assign rfl) ?_
  refine gk_nil (gk_sub (T' := [(0,_), (2,_)]) ⟨rfl, rfl, trivial⟩ ?_)
  refine gk_seq ?_
  refine gk_seq ?_
  refine gk_region ?_
  refine gk_y rfl rfl (y_assign rfl) ?_
  refine gk_nil (gk_sub (T' := [(0,_), (2,_), (3,_)]) ⟨rfl, rfl, rfl, trivial⟩ ?_)
  refine gk_block ?_
  refine gk_loop (X := Int) (fun (i : Int) => [(0, .slice a l.length cap), (2, .bool false), (3, .int .i64 i)]) (fun (i : Int) => []) (fun (i : Int) => (0 ≤ i ∧ i ≤ l.length ∧ ∀ j : Nat, (j : Int) < i → farB (l.getD j default) = false)) (fun (i : Int) => (l.length - i).toNat) 0 ⟨rfl, rfl, rfl, trivial⟩ rfl ?_ ?_
  · exact ⟨by omega, by omega, fun j hj => by omega⟩
  · rintro i hI
    obtain ⟨g0, g1, g2⟩ := hI
    refine gk_seq ?_
    refine gk_seq ?_
    refine gk_region ?_
    refine gk_y rfl rfl (y_move rfl) ?_
    refine gk_y rfl rfl (y_move rfl) ?_
    refine gk_y rfl rfl (y_lenS (Tryz.underlying24) rfl) ?_
    refine gk_y rfl rfl (y_lss rfl rfl) ?_
    refine gk_nil (gk_sub (T' := [(0,_), (2,_), (3,_), (7,_)]) ⟨rfl, rfl, rfl, rfl, trivial⟩ ?_)
    refine gk_cond rfl (fun hc7 => ?_) (fun hc7 => ?_)
    · simp only [decide_eq_true_eq] at hc7
      refine gk_skip ?_
      refine gk_seq ?_
      refine gk_block ?_
      refine gk_seq ?_
      refine gk_any 16 (fun _ => mixed) (by kernel_rfl) ?_
      refine ph_y (y_move rfl) ?_
      refine ph_y (y_move rfl) ?_
      refine ph_y (y_indexE se24 rfl rfl (fun _ hw => (Rd.has (Has.rd hl) hw)) (by omega) (by omega)) ?_
      refine ph_y (y_fieldE fo26_0 rfl (fun w hw => elems_addr (i := i) (Rd.has (Has.rd hl) hw) (by omega) (by omega))) ?_
      refine ph_y (y_loadEF tf3 rfl (fun _ hw => (Rd.has (Has.rd hl) hw)) (by omega) (by omega) rfl) ?_
      refine ph_y (y_call en73 rfl (fun w hw => in_c _ _ _ w)) ?_
      refine ph_y (y_not rfl) ?_
      refine ph_y (y_move rfl) ?_
      refine ph_gF rfl rfl (fun hgd => by (try rw [hgd]); exact (y_move rfl)) ?_
      refine ph_gF rfl rfl (fun hgd => by (try rw [hgd]); exact (y_move rfl)) ?_
      refine ph_gF rfl rfl (fun hgd => by (try rw [hgd]); exact (y_indexE se24 rfl rfl (fun _ hw => (Rd.has (Has.rd hl) hw)) (by omega) (by omega))) ?_
      refine ph_gF rfl rfl (fun hgd => by (try rw [hgd]); exact (y_fieldE fo26_1 rfl (fun w hw => elems_addr (i := i) (Rd.has (Has.rd hl) hw) (by omega) (by omega)))) ?_
      refine ph_gF rfl rfl (fun hgd => by (try rw [hgd]); exact (y_loadEF tf3 rfl (fun _ hw => (Rd.has (Has.rd hl) hw)) (by omega) (by omega) rfl)) ?_
      refine ph_gF rfl rfl (fun hgd => by (try rw [hgd]); exact (y_call (v := .bool (decide (0 ≤ ((l.getD (i).toNat default).z)) && decide (((l.getD (i).toNat default).z) ≤ 2000))) en73 rfl (fun w hw => in_c _ _ _ w))) ?_
      refine ph_gF rfl rfl (fun hgd => by (try rw [hgd]); exact (y_not rfl)) ?_
      refine ph_y (y_pickOr rfl rfl rfl) ?_
      refine gk_nil (gk_sub (T' := [(0,_), (2,_), (3,_), (25,_)]) ⟨rfl, rfl, rfl, rfl, trivial⟩ ?_)
      refine gk_cond rfl (fun hc25 => ?_) (fun hc25 => ?_)
      · skip
        refine gk_seq ?_
        refine gk_region ?_
        refine gk_y rfl rfl (y_assign rfl) ?_
        refine gk_nil (gk_sub (T' := [(0,_), (2,_), (3,_)]) ⟨rfl, rfl, rfl, trivial⟩ ?_)
        refine gk_ret ?_
        refine gk_pure (rv_one rfl (r1_tmp rfl)) ?_
        exact congrArg _ (rplaced_no g0 (by omega) hc25).symm
      · skip
        refine gk_skip ?_
        refine gk_region ?_
        refine gk_y rfl rfl (y_move rfl) ?_
        refine gk_y rfl rfl (y_addI rfl rfl (by omega) (by omega)) ?_
        refine gk_y rfl rfl (y_assign rfl) ?_
        refine gk_nil (gk_sub (T' := [(0,_), (2,_), (3,_)]) ⟨rfl, rfl, rfl, trivial⟩ ?_)
        exact gk_next _ ⟨rfl, rfl, rfl, trivial⟩ rfl ⟨by omega, by omega, fun j hj => if h : (j : Int) < i then g2 j h else (by rw [show j = i.toNat from by omega]; exact hc25)⟩ (by omega)
    · simp only [decide_eq_false_iff_not] at hc7
      refine gk_exit rfl ?_
      refine gk_seq ?_
      refine gk_any 20 (fun _ => mixed) (by kernel_rfl) ?_
      refine ph_y (y_move rfl) ?_
      refine ph_y (y_call en111 rfl (fun w hw => rconvex_c _ _ l w (Rd.has (Has.rd hl) hw) (by assumption))) ?_
      refine ph_y (y_move rfl) ?_
      refine ph_gT rfl rfl (fun hgd => by (try rw [hgd]); exact (y_move rfl)) ?_
      refine ph_gT rfl rfl (fun hgd => by (try rw [hgd]); exact (y_call (v := .agg #[.int .i64 ((leastL l).x), .int .i64 ((leastL l).z)]) en112 rfl (fun w hw => low_c _ _ l w (Rd.has (Has.rd hl) hw) (by assumption) (by first | exact rconvex_pos hgd | exact rconvex_pos2 hgd)))) ?_
      refine ph_gT rfl rfl (fun hgd => by (try rw [hgd]); exact (y_field rfl (fv26_0 _ _))) ?_
      refine ph_gT rfl rfl (fun hgd => by (try rw [hgd]); exact (y_eql rfl rfl)) ?_
      refine ph_y (y_pickAnd rfl rfl rfl) ?_
      refine ph_y (y_move rfl) ?_
      refine ph_gT rfl rfl (fun hgd => by (try rw [hgd]); exact (y_move rfl)) ?_
      refine ph_gT rfl rfl (fun hgd => by (try rw [hgd]); exact (y_call (v := .agg #[.int .i64 ((leastL l).x), .int .i64 ((leastL l).z)]) en112 rfl (fun w hw => low_c _ _ l w (Rd.has (Has.rd hl) hw) (by assumption) (by first | exact rconvex_pos hgd | exact rconvex_pos2 hgd)))) ?_
      refine ph_gT rfl rfl (fun hgd => by (try rw [hgd]); exact (y_field rfl (fv26_1 _ _))) ?_
      refine ph_gT rfl rfl (fun hgd => by (try rw [hgd]); exact (y_eql rfl rfl)) ?_
      refine ph_y (y_pickAnd rfl rfl rfl) ?_
      refine ph_y (y_move rfl) ?_
      refine ph_gT rfl rfl (fun hgd => by (try rw [hgd]); exact (y_move rfl)) ?_
      refine ph_gT rfl rfl (fun hgd => by (try rw [hgd]); exact (y_call (v := .int .i64 (rfirst l)) en113 rfl (fun w hw => rfirst_c _ _ l w (Rd.has (Has.rd hl) hw) (by assumption)))) ?_
      refine ph_gT rfl rfl (fun hgd => by (try rw [hgd]); exact (y_eql rfl rfl)) ?_
      refine ph_y (y_pickAnd rfl rfl rfl) ?_
      refine ph_y (y_assign rfl) ?_
      refine gk_nil (gk_sub (T' := [(2,_)]) ⟨rfl, trivial⟩ ?_)
      refine gk_ret ?_
      refine gk_pure (rv_one rfl (r1_tmp rfl)) ?_
      exact congrArg _ (rplaced_yes g2 (by omega)).symm
end Go.Proofs.YtmpaebfjnjmmlaaGreatDoor

namespace Go.Proofs.YtmpaebfjnjmmlaaGreatDoor
open Go.K Go.Stn Go.RowKit
theorem tf9 : TF Tryz.prog 9 false 1 (.string ⟨#[]⟩) := ⟨by kernel_rfl, by kernel_rfl⟩
theorem tf24 : TF Tryz.prog 24 false 1 (.slice none 0 0) := ⟨by kernel_rfl, by kernel_rfl⟩
theorem tf49 : TF Tryz.prog 49 false 1 (.slice none 0 0) := ⟨by kernel_rfl, by kernel_rfl⟩
theorem fo28_0 : FO Tryz.prog 28 0 0 := ⟨by kernel_rfl⟩
theorem fo28_1 : FO Tryz.prog 28 1 1 := ⟨by kernel_rfl⟩
theorem fo28_2 : FO Tryz.prog 28 2 2 := ⟨by kernel_rfl⟩
theorem fo28_3 : FO Tryz.prog 28 3 3 := ⟨by kernel_rfl⟩
theorem fo28_4 : FO Tryz.prog 28 4 4 := ⟨by kernel_rfl⟩
theorem fo52_0 : FO Tryz.prog 52 0 0 := ⟨by kernel_rfl⟩
theorem fo52_1 : FO Tryz.prog 52 1 1 := ⟨by kernel_rfl⟩
theorem fo52_2 : FO Tryz.prog 52 2 2 := ⟨by kernel_rfl⟩
theorem fo52_3 : FO Tryz.prog 52 3 3 := ⟨by kernel_rfl⟩
theorem fo52_4 : FO Tryz.prog 52 4 4 := ⟨by kernel_rfl⟩
theorem en71 : En Tryz.prog 71 := en_of Tryz.func71 (by kernel_rfl) (by kernel_rfl)
theorem en72 : En Tryz.prog 72 := en_of Tryz.func72 (by kernel_rfl) (by kernel_rfl)
theorem en74 : En Tryz.prog 74 := en_of Tryz.func74 (by kernel_rfl) (by kernel_rfl)
theorem en75 : En Tryz.prog 75 := en_of Tryz.func75 (by kernel_rfl) (by kernel_rfl)
theorem en114 : En Tryz.prog 114 := en_of Tryz.func114 (by kernel_rfl) (by kernel_rfl)
theorem en115 : En Tryz.prog 115 := en_of Tryz.func115 (by kernel_rfl) (by kernel_rfl)
theorem en137 : En Tryz.prog 137 := en_of Tryz.func137 (by kernel_rfl) (by kernel_rfl)
theorem en154 : En Tryz.prog 154 := en_of Tryz.func154 (by kernel_rfl) (by kernel_rfl)
set_option maxRecDepth 100000 in
set_option maxHeartbeats 1000000 in
theorem sindexfunc_c (s : ByteArray) (f : Int → Bool) (gg : FuncId) (gcap : List Value) (w : World)  (M : World → Prop) (hM : ∀ w', Ext w w' → M w') (hen : En Tryz.prog gg) (hg : ∀ r w', M w' → Calls Tryz.prog gg ([Value.int .i32 r] ++ gcap).toArray w' (Pure (.bool (f r)) w')) :
    Calls Tryz.prog 154 #[.string s, .func (.func gg) #[] gcap.toArray, .bool true] w (Pure (.int .i64 (idxRune f s 0)) w) := by
  refine calls_of_gk (vs := [_, _, _]) Tryz.func154 rfl rfl (Nat.le_of_ble_eq_true rfl) ?_
  refine gk_seq ?_
  refine gk_region ?_
  refine gk_y rfl rfl (y_assign rfl) ?_
  refine gk_nil (gk_sub (T' := [(0,_), (1,_), (2,_), (6,_)]) ⟨rfl, rfl, rfl, rfl, trivial⟩ ?_)
  refine gk_seq ?_
  refine gk_seq ?_
  refine gk_region ?_
  refine gk_y rfl rfl (y_move rfl) ?_
  refine gk_yx rfl rfl (yx_rangeStr (Tryz.underlying9) rfl) fun b10 => ?_
  refine gk_nil (gk_sub (T' := [(1,_), (2,_), (6,_), (10,_)]) ⟨rfl, rfl, rfl, rfl, trivial⟩ ?_)
  refine gk_block ?_
  refine gk_loop (X := Nat) (fun (p : Nat) => [(1, .func (.func gg) #[] gcap.toArray), (2, .bool true), (6, .int .i64 0), (10, .pointer (some ⟨b10, 0, none⟩))]) (fun (p : Nat) => [Iter b10 s p]) (fun (p : Nat) => (idxRune f s p = idxRune f s 0)) (fun (p : Nat) => s.size - p) 0 ⟨rfl, rfl, rfl, rfl, trivial⟩ rfl ?_ ?_
  · exact rfl
  · rintro p hI
    refine gk_seq ?_
    refine gk_region ?_
    refine gk_nextStr 0 rfl rfl rfl (fun hnx => ?_) (fun hnx => ?_)
    ·
      refine gk_y rfl rfl (y_extract rfl rfl) ?_
      refine gk_nil (gk_sub (T' := [(1,_), (2,_), (6,_), (10,_), (11,_), (12,_)]) ⟨rfl, rfl, rfl, rfl, rfl, rfl, trivial⟩ ?_)
      refine gk_seq ?_
      refine gk_condT rfl ?_
      refine gk_skip ?_
      refine gk_block ?_
      refine gk_seq ?_
      refine gk_region ?_
      refine gk_y rfl rfl (y_extract rfl rfl) ?_
      refine gk_y rfl rfl (y_extract rfl rfl) ?_
      refine gk_y rfl rfl (y_assign rfl) ?_
      refine gk_y rfl rfl (y_assign rfl) ?_
      refine gk_nil (gk_sub (T' := [(1,_), (2,_), (6,_), (7,_), (8,_), (10,_)]) ⟨rfl, rfl, rfl, rfl, rfl, rfl, trivial⟩ ?_)
      refine gk_seq ?_
      refine gk_region ?_
      refine gk_y rfl rfl (y_move rfl) ?_
      refine gk_y rfl rfl (y_move rfl) ?_
      refine gk_y rfl rfl (y_callV (fs := []) (cap := gcap) hen rfl rfl (fun w hw => hg _ w (hM _ hw.base.ext0))) ?_
      refine gk_y rfl rfl (y_move rfl) ?_
      refine gk_y rfl rfl (y_boolEq (Tryz.underlying4) rfl rfl) ?_
      refine gk_nil (gk_sub (T' := [(1,_), (2,_), (6,_), (7,_), (10,_), (19,_)]) ⟨rfl, rfl, rfl, rfl, rfl, rfl, trivial⟩ ?_)
      refine gk_cond rfl (fun hc19 => ?_) (fun hc19 => ?_)
      · skip
        refine gk_seq ?_
        refine gk_region ?_
        refine gk_y rfl rfl (y_move rfl) ?_
        refine gk_y rfl rfl (y_assign rfl) ?_
        refine gk_nil (gk_sub (T' := [(1,_), (2,_), (6,_), (10,_)]) ⟨rfl, rfl, rfl, rfl, trivial⟩ ?_)
        refine gk_ret ?_
        refine gk_pure (rv_one rfl (r1_tmp rfl)) ?_
        exact congrArg _ ((idxRune_hit hnx (by simpa using hc19)).symm.trans hI)
      · skip
        refine gk_skip ?_
        exact gk_next _ ⟨rfl, rfl, rfl, rfl, trivial⟩ rfl ((idxRune_next hnx (by simpa using hc19)).symm.trans hI) (by have := decode_pos s p; omega)
    ·
      refine gk_y rfl rfl (y_extract rfl rfl) ?_
      refine gk_nil (gk_sub (T' := [(1,_), (2,_), (6,_), (10,_), (11,_), (12,_)]) ⟨rfl, rfl, rfl, rfl, rfl, rfl, trivial⟩ ?_)
      refine gk_seq ?_
      refine gk_condF rfl ?_
      refine gk_exit rfl ?_
      refine gk_seq ?_
      refine gk_region ?_
      refine gk_y rfl rfl (y_assign rfl) ?_
      refine gk_nil (gk_sub (T' := [(6,_)]) ⟨rfl, trivial⟩ ?_)
      refine gk_ret ?_
      refine gk_pure (rv_one rfl (r1_tmp rfl)) ?_
      exact congrArg _ ((idxRune_end hnx).symm.trans hI)
set_option maxRecDepth 100000 in
set_option maxHeartbeats 1000000 in
theorem sIndexFunc_c (s : ByteArray) (f : Int → Bool) (gg : FuncId) (gcap : List Value) (w : World)  (M : World → Prop) (hM : ∀ w', Ext w w' → M w') (hen : En Tryz.prog gg) (hg : ∀ r w', M w' → Calls Tryz.prog gg ([Value.int .i32 r] ++ gcap).toArray w' (Pure (.bool (f r)) w')) :
    Calls Tryz.prog 137 #[.string s, .func (.func gg) #[] gcap.toArray] w (Pure (.int .i64 (idxRune f s 0)) w) := by
  refine calls_of_gk (vs := [_, _]) Tryz.func137 rfl rfl (Nat.le_of_ble_eq_true rfl) ?_
  refine gk_seq ?_
  refine gk_region ?_
  refine gk_y rfl rfl (y_assign rfl) ?_
  refine gk_nil (gk_sub (T' := [(0,_), (1,_), (4,_)]) ⟨rfl, rfl, rfl, trivial⟩ ?_)
  refine gk_seq ?_
  refine gk_region ?_
  refine gk_y rfl rfl (y_move rfl) ?_
  refine gk_y rfl rfl (y_move rfl) ?_
  refine gk_y rfl rfl (y_call en154 rfl (fun w hw => sindexfunc_c s f _ _ w M (fun w' h => hM w' (hw.base.ext0.trans h)) hen hg)) ?_
  refine gk_y rfl rfl (y_assign rfl) ?_
  refine gk_nil (gk_sub (T' := [(4,_)]) ⟨rfl, trivial⟩ ?_)
  refine gk_ret ?_
  refine gk_pure (rv_one rfl (r1_tmp rfl)) ?_
  rfl
set_option maxRecDepth 100000 in
set_option maxHeartbeats 1000000 in
theorem scontains_c (s : ByteArray) (f : Int → Bool) (gg : FuncId) (gcap : List Value) (w : World)  (M : World → Prop) (hM : ∀ w', Ext w w' → M w') (hen : En Tryz.prog gg) (hg : ∀ r w', M w' → Calls Tryz.prog gg ([Value.int .i32 r] ++ gcap).toArray w' (Pure (.bool (f r)) w')) :
    Calls Tryz.prog 115 #[.string s, .func (.func gg) #[] gcap.toArray] w (Pure (.bool (decide (0 ≤ idxRune f s 0))) w) := by
  refine calls_of_gk (vs := [_, _]) Tryz.func115 rfl rfl (Nat.le_of_ble_eq_true rfl) ?_
  refine gk_seq ?_
  refine gk_region ?_
  refine gk_y rfl rfl (y_assign rfl) ?_
  refine gk_nil (gk_sub (T' := [(0,_), (1,_), (4,_)]) ⟨rfl, rfl, rfl, trivial⟩ ?_)
  refine gk_seq ?_
  refine gk_region ?_
  refine gk_y rfl rfl (y_move rfl) ?_
  refine gk_y rfl rfl (y_move rfl) ?_
  refine gk_y rfl rfl (y_call en137 rfl (fun w hw => sIndexFunc_c s f _ _ w M (fun w' h => hM w' (hw.base.ext0.trans h)) hen hg)) ?_
  refine gk_y rfl rfl (y_geq rfl rfl) ?_
  refine gk_y rfl rfl (y_assign rfl) ?_
  refine gk_nil (gk_sub (T' := [(4,_)]) ⟨rfl, trivial⟩ ?_)
  refine gk_ret ?_
  refine gk_pure (rv_one rfl (r1_tmp rfl)) ?_
  rfl
set_option maxRecDepth 100000 in
set_option maxHeartbeats 1000000 in
theorem named1_c (r : Int) (w : World)  :
    Calls Tryz.prog 114 #[.int .i32 r] w (Pure (.bool (oddR r)) w) := by
  refine calls_of_gk (vs := [_]) Tryz.func114 rfl rfl (Nat.le_of_ble_eq_true rfl) ?_
  refine gk_seq ?_
  refine gk_region ?_
  refine gk_y rfl rfl (y_assign rfl) ?_
  refine gk_nil (gk_sub (T' := [(0,_), (2,_)]) ⟨rfl, rfl, trivial⟩ ?_)
  refine gk_seq ?_
  refine gk_any 17 (fun _ => mixed) (by kernel_rfl) ?_
  refine ph_y (y_move rfl) ?_
  refine ph_y (y_geq rfl rfl) ?_
  refine ph_y (y_move rfl) ?_
  refine ph_gT rfl rfl (fun hgd => by (try rw [hgd]); exact (y_move rfl)) ?_
  refine ph_gT rfl rfl (fun hgd => by (try rw [hgd]); exact (y_leq rfl rfl)) ?_
  refine ph_y (y_pickAnd rfl rfl rfl) ?_
  refine ph_y (y_not rfl) ?_
  refine ph_y (y_move rfl) ?_
  refine ph_gT rfl rfl (fun hgd => by (try rw [hgd]); exact (y_move rfl)) ?_
  refine ph_gT rfl rfl (fun hgd => by (try rw [hgd]); exact (y_geq rfl rfl)) ?_
  refine ph_gT rfl rfl (fun hgd => by (try rw [hgd]); exact (y_move rfl)) ?_
  refine ph_gTT rfl rfl (fun hgd => by (try rw [hgd]); exact (y_move rfl)) ?_
  refine ph_gTT rfl rfl (fun hgd => by (try rw [hgd]); exact (y_leq rfl rfl)) ?_
  refine ph_gT rfl rfl (fun hgd => by (try rw [hgd]); exact (y_pickAnd rfl rfl rfl)) ?_
  refine ph_gT rfl rfl (fun hgd => by (try rw [hgd]); exact (y_not rfl)) ?_
  refine ph_y (y_pickAnd rfl rfl rfl) ?_
  refine ph_y (y_assign rfl) ?_
  refine gk_nil (gk_sub (T' := [(2,_)]) ⟨rfl, trivial⟩ ?_)
  refine gk_ret ?_
  refine gk_pure (rv_one rfl (r1_tmp rfl)) ?_
  rfl
set_option maxRecDepth 100000 in
set_option maxHeartbeats 1000000 in
theorem named_c (s : ByteArray) (w : World)  :
    Calls Tryz.prog 74 #[.string s] w (Pure (.bool (namedB s)) w) := by
  refine calls_of_gk (vs := [_]) Tryz.func74 rfl rfl (Nat.le_of_ble_eq_true rfl) ?_
  refine gk_seq ?_
  refine gk_region ?_
  refine gk_y rfl rfl (y_assign rfl) ?_
  refine gk_nil (gk_sub (T' := [(0,_), (2,_)]) ⟨rfl, rfl, trivial⟩ ?_)
  refine gk_seq ?_
  refine gk_region ?_
  refine gk_y rfl rfl (y_assign rfl) ?_
  refine gk_nil (gk_sub (T' := [(0,_), (2,_), (3,_)]) ⟨rfl, rfl, rfl, trivial⟩ ?_)
  refine gk_seq ?_
  refine gk_any 10 (fun _ => mixed) (by kernel_rfl) ?_
  refine ph_y (y_move rfl) ?_
  refine ph_y (y_lenStr (Tryz.underlying9) rfl) ?_
  refine ph_y (y_call en55 rfl (fun w hw => within_c _ _ _ w)) ?_
  refine ph_y (y_move rfl) ?_
  refine ph_gT rfl rfl (fun hgd => by (try rw [hgd]); exact (y_move rfl)) ?_
  refine ph_gT rfl rfl (fun hgd => by (try rw [hgd]); exact (y_move rfl)) ?_
  refine ph_gT rfl rfl (fun hgd => by (try rw [hgd]); exact (y_call (v := .bool (decide (0 ≤ idxRune oddR s 0))) en115 rfl (fun w hw => scontains_c s oddR _ [] w (fun _ => True) (fun _ _ => trivial) en114 (fun r w _ => named1_c r w)))) ?_
  refine ph_gT rfl rfl (fun hgd => by (try rw [hgd]); exact (y_not rfl)) ?_
  refine ph_y (y_pickAnd rfl rfl rfl) ?_
  refine ph_y (y_assign rfl) ?_
  refine gk_nil (gk_sub (T' := [(2,_)]) ⟨rfl, trivial⟩ ?_)
  refine gk_ret ?_
  refine gk_pure (rv_one rfl (r1_tmp rfl)) ?_
  rfl
set_option maxRecDepth 100000 in
set_option maxHeartbeats 1000000 in
theorem rnamed_c (s : ByteArray) (w : World) (hs : Fits s.size) :
    Calls Tryz.prog 71 #[.string s] w (Pure (.bool (rnamedB s)) w) := by
  refine calls_of_gk (vs := [_]) Tryz.func71 rfl rfl (Nat.le_of_ble_eq_true rfl) ?_
  refine gk_seq ?_
  refine gk_region ?_
  refine gk_y rfl rfl (y_assign rfl) ?_
  refine gk_nil (gk_sub (T' := [(0,_), (2,_)]) ⟨rfl, rfl, trivial⟩ ?_)
  refine gk_seq ?_
  refine gk_seq ?_
  refine gk_region ?_
  refine gk_y rfl rfl (y_assign rfl) ?_
  refine gk_nil (gk_sub (T' := [(0,_), (2,_), (3,_)]) ⟨rfl, rfl, rfl, trivial⟩ ?_)
  refine gk_block ?_
  refine gk_loop (X := Int) (fun (i : Int) => [(0, .string s), (2, .bool false), (3, .int .i64 i)]) (fun (i : Int) => []) (fun (i : Int) => (0 ≤ i ∧ i ≤ s.size ∧ ∀ j : Nat, (j : Int) < i → oddB (byteI s j) = false)) (fun (i : Int) => (s.size - i).toNat) 0 ⟨rfl, rfl, rfl, trivial⟩ rfl ?_ ?_
  · exact ⟨by omega, by omega, fun j hj => by omega⟩
  · rintro i hI
    obtain ⟨g0, g1, g2⟩ := hI
    refine gk_seq ?_
    refine gk_seq ?_
    refine gk_region ?_
    refine gk_y rfl rfl (y_move rfl) ?_
    refine gk_y rfl rfl (y_move rfl) ?_
    refine gk_y rfl rfl (y_lenStr (Tryz.underlying9) rfl) ?_
    refine gk_y rfl rfl (y_lss rfl rfl) ?_
    refine gk_nil (gk_sub (T' := [(0,_), (2,_), (3,_), (7,_)]) ⟨rfl, rfl, rfl, rfl, trivial⟩ ?_)
    refine gk_cond rfl (fun hc7 => ?_) (fun hc7 => ?_)
    · simp only [decide_eq_true_eq] at hc7
      refine gk_skip ?_
      refine gk_seq ?_
      refine gk_block ?_
      refine gk_seq ?_
      refine gk_any 22 (fun _ => mixed) (by kernel_rfl) ?_
      refine ph_y (y_move rfl) ?_
      refine ph_y (y_move rfl) ?_
      refine ph_y (y_strIndex (Tryz.underlying9) rfl rfl (by omega) (by omega)) ?_
      refine ph_y (y_lss rfl rfl) ?_
      refine ph_y (y_move rfl) ?_
      refine ph_gF rfl rfl (fun hgd => by (try rw [hgd]); exact (y_move rfl)) ?_
      refine ph_gF rfl rfl (fun hgd => by (try rw [hgd]); exact (y_move rfl)) ?_
      refine ph_gF rfl rfl (fun hgd => by (try rw [hgd]); exact (y_strIndex (Tryz.underlying9) rfl rfl (by omega) (by omega))) ?_
      refine ph_gF rfl rfl (fun hgd => by (try rw [hgd]); exact (y_gtr rfl rfl)) ?_
      refine ph_y (y_pickOr rfl rfl rfl) ?_
      refine ph_y (y_move rfl) ?_
      refine ph_gT rfl rfl (fun hgd => by (try rw [hgd]); exact (y_move rfl)) ?_
      refine ph_gT rfl rfl (fun hgd => by (try rw [hgd]); exact (y_move rfl)) ?_
      refine ph_gT rfl rfl (fun hgd => by (try rw [hgd]); exact (y_strIndex (Tryz.underlying9) rfl rfl (by omega) (by omega))) ?_
      refine ph_gT rfl rfl (fun hgd => by (try rw [hgd]); exact (y_lss rfl rfl)) ?_
      refine ph_gT rfl rfl (fun hgd => by (try rw [hgd]); exact (y_move rfl)) ?_
      refine ph_gTF rfl rfl (fun hgd => by (try rw [hgd]); exact (y_move rfl)) ?_
      refine ph_gTF rfl rfl (fun hgd => by (try rw [hgd]); exact (y_move rfl)) ?_
      refine ph_gTF rfl rfl (fun hgd => by (try rw [hgd]); exact (y_strIndex (Tryz.underlying9) rfl rfl (by omega) (by omega))) ?_
      refine ph_gTF rfl rfl (fun hgd => by (try rw [hgd]); exact (y_gtr rfl rfl)) ?_
      refine ph_gT rfl rfl (fun hgd => by (try rw [hgd]); exact (y_pickOr rfl rfl rfl)) ?_
      refine ph_y (y_pickAnd rfl rfl rfl) ?_
      refine gk_nil (gk_sub (T' := [(0,_), (2,_), (3,_), (31,_)]) ⟨rfl, rfl, rfl, rfl, trivial⟩ ?_)
      refine gk_cond rfl (fun hc31 => ?_) (fun hc31 => ?_)
      · skip
        refine gk_seq ?_
        refine gk_region ?_
        refine gk_y rfl rfl (y_assign rfl) ?_
        refine gk_nil (gk_sub (T' := [(0,_), (2,_), (3,_)]) ⟨rfl, rfl, rfl, trivial⟩ ?_)
        refine gk_ret ?_
        refine gk_pure (rv_one rfl (r1_tmp rfl)) ?_
        exact congrArg _ (rnamed_no g0 (by omega) hc31).symm
      · skip
        refine gk_skip ?_
        refine gk_region ?_
        refine gk_y rfl rfl (y_move rfl) ?_
        refine gk_y rfl rfl (y_addI rfl rfl (by omega) (by omega)) ?_
        refine gk_y rfl rfl (y_assign rfl) ?_
        refine gk_nil (gk_sub (T' := [(0,_), (2,_), (3,_)]) ⟨rfl, rfl, rfl, trivial⟩ ?_)
        exact gk_next _ ⟨rfl, rfl, rfl, trivial⟩ rfl ⟨by omega, by omega, fun j hj => if h : (j : Int) < i then g2 j h else (by rw [show (j : Int) = i from by omega]; exact hc31)⟩ (by omega)
    · simp only [decide_eq_false_iff_not] at hc7
      refine gk_exit rfl ?_
      refine gk_seq ?_
      refine gk_any 9 (fun _ => mixed) (by kernel_rfl) ?_
      refine ph_y (y_move rfl) ?_
      refine ph_y (y_lenStr (Tryz.underlying9) rfl) ?_
      refine ph_y (y_geq rfl rfl) ?_
      refine ph_y (y_move rfl) ?_
      refine ph_gT rfl rfl (fun hgd => by (try rw [hgd]); exact (y_move rfl)) ?_
      refine ph_gT rfl rfl (fun hgd => by (try rw [hgd]); exact (y_lenStr (Tryz.underlying9) rfl)) ?_
      refine ph_gT rfl rfl (fun hgd => by (try rw [hgd]); exact (y_leq rfl rfl)) ?_
      refine ph_y (y_pickAnd rfl rfl rfl) ?_
      refine ph_y (y_assign rfl) ?_
      refine gk_nil (gk_sub (T' := [(2,_)]) ⟨rfl, trivial⟩ ?_)
      refine gk_ret ?_
      refine gk_pure (rv_one rfl (r1_tmp rfl)) ?_
      exact congrArg _ (rnamed_yes g2 (by omega)).symm
set_option maxRecDepth 100000 in
set_option maxHeartbeats 1000000 in
theorem rvalid_c (a : Option Addr) (cap : Nat) (s : Stn) (w : World) (hl : Has w (Pts a s.shape)) (hs : Small s.shape.length) (hn : Fits s.name.size) :
    Calls Tryz.prog 37 #[.agg #[.string s.name, .slice a s.shape.length cap, .int .i64 s.depth, .int .i64 s.density, .int .i64 s.grain.x, .int .i64 s.grain.z]] w (Pure (.bool (rvalidB s)) w) := by
  refine calls_of_gk (vs := [_]) Tryz.func37 rfl rfl (Nat.le_of_ble_eq_true rfl) ?_
  refine gk_seq ?_
  refine gk_region ?_
  refine gk_yx rfl rfl (yx_box (vs := [_, _, _, _, _, _]) rfl rfl) fun b1 => ?_
  refine gk_y rfl rfl (y_assign rfl) ?_
  refine gk_nil (gk_sub (T' := [(1,_), (2,_)]) ⟨rfl, rfl, trivial⟩ ?_)
  refine gk_seq ?_
  refine gk_region ?_
  refine gk_y rfl rfl (y_fieldAddr fo28_4 rfl) ?_
  refine gk_y rfl rfl (y_loadBA 0 tf26 rfl rfl (vs := [_, _]) rfl rfl) ?_
  refine gk_yx rfl rfl (yx_alloc tf26 (zs := [_, _]) rfl) fun b3 => ?_
  refine gk_storeV 0 tf26 rfl rfl (vs := [_, _]) rfl rfl rfl rfl rfl ?_
  refine gk_nil (gk_sub (T' := [(1,_), (2,_), (3,_)]) ⟨rfl, rfl, rfl, trivial⟩ ?_)
  refine gk_seq ?_
  refine gk_any 39 (fun _ => mixed) (by kernel_rfl) ?_
  refine ph_y (y_fieldAddr fo28_0 rfl) ?_
  refine ph_y (y_loadB1 1 tf9 rfl rfl rfl) ?_
  refine ph_y (y_call en71 rfl (fun w hw => rnamed_c _ w (by assumption))) ?_
  refine ph_y (y_move rfl) ?_
  refine ph_gT rfl rfl (fun hgd => by (try rw [hgd]); exact (y_fieldAddr fo28_1 rfl)) ?_
  refine ph_gT rfl rfl (fun hgd => by (try rw [hgd]); exact (y_loadB1 1 tf24 rfl rfl rfl)) ?_
  refine ph_gT rfl rfl (fun hgd => by (try rw [hgd]); exact (y_call (v := .bool (rplacedB s.shape)) en72 rfl (fun w hw => rplaced_c _ _ s.shape w (Rd.has (Has.rd hl) hw) (by assumption)))) ?_
  refine ph_y (y_pickAnd rfl rfl rfl) ?_
  refine ph_y (y_move rfl) ?_
  refine ph_gT rfl rfl (fun hgd => by (try rw [hgd]); exact (y_fieldAddr fo28_2 rfl)) ?_
  refine ph_gT rfl rfl (fun hgd => by (try rw [hgd]); exact (y_loadB1 1 tf3 rfl rfl rfl)) ?_
  refine ph_gT rfl rfl (fun hgd => by (try rw [hgd]); exact (y_call (v := .bool (decide (1 ≤ s.depth) && decide (s.depth ≤ 2000))) en73 rfl (fun w hw => in_c _ _ _ w))) ?_
  refine ph_y (y_pickAnd rfl rfl rfl) ?_
  refine ph_y (y_move rfl) ?_
  refine ph_gT rfl rfl (fun hgd => by (try rw [hgd]); exact (y_fieldAddr fo28_3 rfl)) ?_
  refine ph_gT rfl rfl (fun hgd => by (try rw [hgd]); exact (y_loadB1 1 tf3 rfl rfl rfl)) ?_
  refine ph_gT rfl rfl (fun hgd => by (try rw [hgd]); exact (y_call (v := .bool (decide (1 ≤ s.density) && decide (s.density ≤ 10000))) en73 rfl (fun w hw => in_c _ _ _ w))) ?_
  refine ph_y (y_pickAnd rfl rfl rfl) ?_
  refine ph_y (y_move rfl) ?_
  refine ph_gT rfl rfl (fun hgd => by (try rw [hgd]); exact (y_fieldAddr fo26_0 rfl)) ?_
  refine ph_gT rfl rfl (fun hgd => by (try rw [hgd]); exact (y_loadB1 0 tf3 rfl rfl rfl)) ?_
  refine ph_gT rfl rfl (fun hgd => by (try rw [hgd]); exact (y_neq rfl rfl)) ?_
  refine ph_gT rfl rfl (fun hgd => by (try rw [hgd]); exact (y_move rfl)) ?_
  refine ph_gTF rfl rfl (fun hgd => by (try rw [hgd]); exact (y_fieldAddr fo26_1 rfl)) ?_
  refine ph_gTF rfl rfl (fun hgd => by (try rw [hgd]); exact (y_loadB1 0 tf3 rfl rfl rfl)) ?_
  refine ph_gTF rfl rfl (fun hgd => by (try rw [hgd]); exact (y_neq rfl rfl)) ?_
  refine ph_gT rfl rfl (fun hgd => by (try rw [hgd]); exact (y_pickOr rfl rfl rfl)) ?_
  refine ph_y (y_pickAnd rfl rfl rfl) ?_
  refine ph_y (y_move rfl) ?_
  refine ph_gT rfl rfl (fun hgd => by (try rw [hgd]); exact (y_fieldAddr fo26_0 rfl)) ?_
  refine ph_gT rfl rfl (fun hgd => by (try rw [hgd]); exact (y_loadB1 0 tf3 rfl rfl rfl)) ?_
  refine ph_gT rfl rfl (fun hgd => by (try rw [hgd]); exact (y_call (v := .bool (decide ((-100) ≤ s.grain.x) && decide (s.grain.x ≤ 100))) en73 rfl (fun w hw => in_c _ _ _ w))) ?_
  refine ph_y (y_pickAnd rfl rfl rfl) ?_
  refine ph_y (y_move rfl) ?_
  refine ph_gT rfl rfl (fun hgd => by (try rw [hgd]); exact (y_fieldAddr fo26_1 rfl)) ?_
  refine ph_gT rfl rfl (fun hgd => by (try rw [hgd]); exact (y_loadB1 0 tf3 rfl rfl rfl)) ?_
  refine ph_gT rfl rfl (fun hgd => by (try rw [hgd]); exact (y_call (v := .bool (decide ((-100) ≤ s.grain.z) && decide (s.grain.z ≤ 100))) en73 rfl (fun w hw => in_c _ _ _ w))) ?_
  refine ph_y (y_pickAnd rfl rfl rfl) ?_
  refine ph_y (y_assign rfl) ?_
  refine gk_nil (gk_sub (T' := [(2,_)]) ⟨rfl, trivial⟩ ?_)
  refine gk_ret ?_
  refine gk_pure (rv_one rfl (r1_tmp rfl)) ?_
  rfl
set_option maxRecDepth 100000 in
set_option maxHeartbeats 1000000 in
theorem check_c (a : Option Addr) (cap : Nat) (s : Stn) (w : World) (hl : Has w (Pts a s.shape)) (hs : Small s.shape.length) :
    Calls Tryz.prog 38 #[.agg #[.string s.name, .slice a s.shape.length cap, .int .i64 s.depth, .int .i64 s.density, .int .i64 s.grain.x, .int .i64 s.grain.z]] w (Pure (.int .i64 (checkI s)) w) := by
  refine calls_of_gk (vs := [_]) Tryz.func38 rfl rfl (Nat.le_of_ble_eq_true rfl) ?_
  refine gk_seq ?_
  refine gk_region ?_
  refine gk_yx rfl rfl (yx_box (vs := [_, _, _, _, _, _]) rfl rfl) fun b1 => ?_
  refine gk_y rfl rfl (y_assign rfl) ?_
  refine gk_nil (gk_sub (T' := [(1,_), (2,_)]) ⟨rfl, rfl, trivial⟩ ?_)
  refine gk_seq ?_
  refine gk_region ?_
  refine gk_y rfl rfl (y_fieldAddr fo52_4 rfl) ?_
  refine gk_y rfl rfl (y_loadBA 0 tf50 rfl rfl (vs := [_, _]) rfl rfl) ?_
  refine gk_yx rfl rfl (yx_alloc tf50 (zs := [_, _]) rfl) fun b3 => ?_
  refine gk_storeV 0 tf50 rfl rfl (vs := [_, _]) rfl rfl rfl rfl rfl ?_
  refine gk_nil (gk_sub (T' := [(1,_), (2,_), (3,_)]) ⟨rfl, rfl, rfl, trivial⟩ ?_)
  refine gk_seq ?_
  refine gk_any 14 (fun _ => mixed) (by kernel_rfl) ?_
  refine ph_y (y_loadBA 0 tf50 rfl rfl (vs := [_, _]) rfl rfl) ?_
  refine ph_y (y_buildL (parts := []) rfl bd50_) ?_
  refine ph_y (y_neq50 rfl rfl) ?_
  refine ph_y (y_move rfl) ?_
  refine ph_gT rfl rfl (fun hgd => by (try rw [hgd]); exact (y_fieldAddr fo50_0 rfl)) ?_
  refine ph_gT rfl rfl (fun hgd => by (try rw [hgd]); exact (y_loadB1 0 tf3 rfl rfl rfl)) ?_
  refine ph_gT rfl rfl (fun hgd => by (try rw [hgd]); exact (y_call (v := .bool (decide ((-100) ≤ s.grain.x) && decide (s.grain.x ≤ 100))) en55 rfl (fun w hw => within_c _ _ _ w))) ?_
  refine ph_y (y_pickAnd rfl rfl rfl) ?_
  refine ph_y (y_move rfl) ?_
  refine ph_gT rfl rfl (fun hgd => by (try rw [hgd]); exact (y_fieldAddr fo50_1 rfl)) ?_
  refine ph_gT rfl rfl (fun hgd => by (try rw [hgd]); exact (y_loadB1 0 tf3 rfl rfl rfl)) ?_
  refine ph_gT rfl rfl (fun hgd => by (try rw [hgd]); exact (y_call (v := .bool (decide ((-100) ≤ s.grain.z) && decide (s.grain.z ≤ 100))) en55 rfl (fun w hw => within_c _ _ _ w))) ?_
  refine ph_y (y_pickAnd rfl rfl rfl) ?_
  refine ph_y (y_assign rfl) ?_
  refine gk_nil (gk_sub (T' := [(1,_), (2,_), (4,_)]) ⟨rfl, rfl, rfl, trivial⟩ ?_)
  refine gk_seq ?_
  refine gk_seq ?_
  refine gk_any 26 (fun _ => mixed) (by kernel_rfl) ?_
  refine ph_y (y_fieldAddr fo52_0 rfl) ?_
  refine ph_y (y_loadB1 1 tf9 rfl rfl rfl) ?_
  refine ph_y (y_call en74 rfl (fun w hw => named_c _ w)) ?_
  refine ph_y (y_not rfl) ?_
  refine ph_y (y_move rfl) ?_
  refine ph_gF rfl rfl (fun hgd => by (try rw [hgd]); exact (y_fieldAddr fo52_1 rfl)) ?_
  refine ph_gF rfl rfl (fun hgd => by (try rw [hgd]); exact (y_loadB1 1 tf49 rfl rfl rfl)) ?_
  refine ph_gF rfl rfl (fun hgd => by (try rw [hgd]); exact (y_call (v := .bool (placedB s.shape)) en75 rfl (fun w hw => placed_c _ _ s.shape w (Rd.has (Has.rd hl) hw) (by assumption)))) ?_
  refine ph_gF rfl rfl (fun hgd => by (try rw [hgd]); exact (y_not rfl)) ?_
  refine ph_y (y_pickOr rfl rfl rfl) ?_
  refine ph_y (y_move rfl) ?_
  refine ph_gF rfl rfl (fun hgd => by (try rw [hgd]); exact (y_fieldAddr fo52_2 rfl)) ?_
  refine ph_gF rfl rfl (fun hgd => by (try rw [hgd]); exact (y_loadB1 1 tf3 rfl rfl rfl)) ?_
  refine ph_gF rfl rfl (fun hgd => by (try rw [hgd]); exact (y_call (v := .bool (decide (1 ≤ s.depth) && decide (s.depth ≤ 2000))) en55 rfl (fun w hw => within_c _ _ _ w))) ?_
  refine ph_gF rfl rfl (fun hgd => by (try rw [hgd]); exact (y_not rfl)) ?_
  refine ph_y (y_pickOr rfl rfl rfl) ?_
  refine ph_y (y_move rfl) ?_
  refine ph_gF rfl rfl (fun hgd => by (try rw [hgd]); exact (y_fieldAddr fo52_3 rfl)) ?_
  refine ph_gF rfl rfl (fun hgd => by (try rw [hgd]); exact (y_loadB1 1 tf3 rfl rfl rfl)) ?_
  refine ph_gF rfl rfl (fun hgd => by (try rw [hgd]); exact (y_call (v := .bool (decide (1 ≤ s.density) && decide (s.density ≤ 10000))) en55 rfl (fun w hw => within_c _ _ _ w))) ?_
  refine ph_gF rfl rfl (fun hgd => by (try rw [hgd]); exact (y_not rfl)) ?_
  refine ph_y (y_pickOr rfl rfl rfl) ?_
  refine ph_y (y_move rfl) ?_
  refine ph_gF rfl rfl (fun hgd => by (try rw [hgd]); exact (y_move rfl)) ?_
  refine ph_gF rfl rfl (fun hgd => by (try rw [hgd]); exact (y_not rfl)) ?_
  refine ph_y (y_pickOr rfl rfl rfl) ?_
  refine gk_nil (gk_sub (T' := [(2,_), (45,_)]) ⟨rfl, rfl, trivial⟩ ?_)
  refine gk_cond rfl (fun hc45 => ?_) (fun hc45 => ?_)
  · skip
    refine gk_seq ?_
    refine gk_region ?_
    refine gk_y rfl rfl (y_assign rfl) ?_
    refine gk_nil (gk_sub (T' := [(2,_)]) ⟨rfl, trivial⟩ ?_)
    refine gk_ret ?_
    refine gk_pure (rv_one rfl (r1_tmp rfl)) ?_
    exact congrArg _ (if_pos hc45).symm
  · skip
    refine gk_skip ?_
    refine gk_seq ?_
    refine gk_region ?_
    refine gk_y rfl rfl (y_assign rfl) ?_
    refine gk_nil (gk_sub (T' := [(2,_)]) ⟨rfl, trivial⟩ ?_)
    refine gk_ret ?_
    refine gk_pure (rv_one rfl (r1_tmp rfl)) ?_
    exact congrArg _ (if_neg (by rw [show badB s = false from hc45]; exact Bool.false_ne_true)).symm
end Go.Proofs.YtmpaebfjnjmmlaaGreatDoor

namespace Go.Proofs.YtmpaebfjnjmmlaaGreatDoor
open Go.K Go.Stn Go.RowKit
theorem tf52 : TF Tryz.prog 52 true 6 (.agg #[.string ⟨#[]⟩, .slice none 0 0, .int IntKind.i64 0, .int IntKind.i64 0, .int IntKind.i64 0, .int IntKind.i64 0]) := ⟨by kernel_rfl, by kernel_rfl⟩
theorem af49 : AF Tryz.prog 49 50 2 16 [.int IntKind.i64 0, .int IntKind.i64 0] := ⟨Tryz.underlying49, by kernel_rfl, rfl⟩
theorem bd50_0i (x0 : Int) (w : World) : (Instr.build 50 #[(0, .int .i64 x0)]).run Tryz.prog w = .ok (.agg #[.int .i64 x0, .int IntKind.i64 0]) w := by kernel_rfl
theorem bd50_1i (x0 : Int) (w : World) : (Instr.build 50 #[(1, .int .i64 x0)]).run Tryz.prog w = .ok (.agg #[.int IntKind.i64 0, .int .i64 x0]) w := by kernel_rfl
theorem bd52_0s_1l_2i_3i_4ii (x0 : ByteArray) (x1a : Option Addr) (x1n x1c : Nat) (x2 : Int) (x3 : Int) (x4 : Int) (x5 : Int) (w : World) : (Instr.build 52 #[(0, .string x0), (1, .slice x1a x1n x1c), (2, .int .i64 x2), (3, .int .i64 x3), (4, .agg #[.int .i64 x4, .int .i64 x5])]).run Tryz.prog w = .ok (.agg #[.string x0, .slice x1a x1n x1c, .int .i64 x2, .int .i64 x3, .int .i64 x4, .int .i64 x5]) w := by kernel_rfl
theorem bs49_1 (x0_0 : Int) (x0_1 : Int) (w : World) : (Instr.buildSlice 49 1 #[(0, .agg #[.int .i64 x0_0, .int .i64 x0_1])]).run Tryz.prog w = .ok (.slice (some ⟨w.heap.size, 0, none⟩) 1 1) (w.alloc (.cells (([(⟨x0_0, x0_1⟩ : Pt)] : List (Pt)).flatMap encPt).toArray 50)) := by kernel_rfl
theorem bs49_4 (x0_0 : Int) (x0_1 : Int) (x1_0 : Int) (x1_1 : Int) (x2_0 : Int) (x2_1 : Int) (x3_0 : Int) (x3_1 : Int) (w : World) : (Instr.buildSlice 49 4 #[(0, .agg #[.int .i64 x0_0, .int .i64 x0_1]), (1, .agg #[.int .i64 x1_0, .int .i64 x1_1]), (2, .agg #[.int .i64 x2_0, .int .i64 x2_1]), (3, .agg #[.int .i64 x3_0, .int .i64 x3_1])]).run Tryz.prog w = .ok (.slice (some ⟨w.heap.size, 0, none⟩) 4 4) (w.alloc (.cells (([(⟨x0_0, x0_1⟩ : Pt), (⟨x1_0, x1_1⟩ : Pt), (⟨x2_0, x2_1⟩ : Pt), (⟨x3_0, x3_1⟩ : Pt)] : List (Pt)).flatMap encPt).toArray 50)) := by kernel_rfl
set_option maxRecDepth 100000 in
set_option maxHeartbeats 1000000 in
theorem brick_c  (w : World)  :
    Calls Tryz.prog 19 #[] w (Gives (fun b : Nat => stnV brickS (some ⟨b, 0, none⟩) 4) (fun b => Row (some ⟨b, 0, none⟩) 2 4 50 encPt brickS.shape) w) := by
  refine calls_of_gk (vs := []) Tryz.func19 rfl rfl (Nat.le_of_ble_eq_true rfl) ?_
  refine gk_seq ?_
  refine gk_region ?_
  refine gk_yx rfl rfl (yx_alloc tf52 (zs := [_, _, _, _, _, _]) rfl) fun b0 => ?_
  refine gk_nil (gk_sub (T' := [(0,_)]) ⟨rfl, trivial⟩ ?_)
  refine gk_seq ?_
  refine gk_region ?_
  refine gk_y rfl rfl (y_buildL (parts := []) rfl bd50_) ?_
  refine gk_y rfl rfl (y_buildL rfl (bd50_0i _)) ?_
  refine gk_y rfl rfl (y_buildL rfl (bd50_0i_1i _ _)) ?_
  refine gk_y rfl rfl (y_buildL rfl (bd50_1i _)) ?_
  refine gk_yx rfl rfl (yx_buildSlice rfl (bs49_4 _ _ _ _ _ _ _ _) encPt_ok rfl) fun b5 => ?_
  refine gk_y rfl rfl (y_buildL rfl (bd50_0i _)) ?_
  refine gk_y rfl rfl (y_buildL rfl (bd52_0s_1l_2i_3i_4ii _ _ _ _ _ _ _ _)) ?_
  refine gk_storeV 1 tf52 rfl rfl (vs := [_, _, _, _, _, _]) rfl rfl rfl rfl rfl ?_
  refine gk_nil (gk_sub (T' := [(0,_)]) ⟨rfl, trivial⟩ ?_)
  refine gk_ret ?_
  refine gk_gives b5 0 (rv_one rfl (r1_cellA (i := 1) (vs := [_, _, _, _, _, _]) tf52 rfl rfl rfl rfl)) ?_ rfl
  rfl
end Go.Proofs.YtmpaebfjnjmmlaaGreatDoor

namespace Go.Proofs.YtmpaebfjnjmmlaaGreatDoor
open Go.K Go.Stn Go.RowKit
theorem en29 : En Tryz.prog 29 := en_of Tryz.func29 (by kernel_rfl) (by kernel_rfl)
theorem en38 : En Tryz.prog 38 := en_of Tryz.func38 (by kernel_rfl) (by kernel_rfl)
theorem en47 : En Tryz.prog 47 := en_of Tryz.func47 (by kernel_rfl) (by kernel_rfl)
theorem en65 : En Tryz.prog 65 := en_of Tryz.func65 (by kernel_rfl) (by kernel_rfl)
theorem en83 : En Tryz.prog 83 := en_of Tryz.func83 (by kernel_rfl) (by kernel_rfl)
theorem en123 : En Tryz.prog 123 := en_of Tryz.func123 (by kernel_rfl) (by kernel_rfl)
set_option maxRecDepth 100000 in
set_option maxHeartbeats 1000000 in
theorem edges_c (a : Option Addr) (cap : Nat) (l : List Pt) (w : World)  :
    Calls Tryz.prog 83 #[.slice a l.length cap] w (Gives (fun b : Nat => .func (.func 123) #[] #[.pointer (some ⟨b, 0, none⟩)]) (fun b => Box b [.slice a l.length cap] 49) w) := by
  refine calls_of_gk (vs := [_]) Tryz.func83 rfl rfl (Nat.le_of_ble_eq_true rfl) ?_
  refine gk_seq ?_
  refine gk_region ?_
  refine gk_yx rfl rfl (yx_box (vs := [_]) rfl rfl) fun b1 => ?_
  refine gk_y rfl rfl (y_assign rfl) ?_
  refine gk_nil (gk_sub (T' := [(1,_), (2,_)]) ⟨rfl, rfl, trivial⟩ ?_)
  refine gk_seq ?_
  refine gk_region ?_
  refine gk_y rfl rfl (y_makeFunc («as» := []) (bs := [_]) rfl rfl) ?_
  refine gk_y rfl rfl (y_assign rfl) ?_
  refine gk_nil (gk_sub (T' := [(2,_)]) ⟨rfl, trivial⟩ ?_)
  refine gk_ret ?_
  refine gk_gives b1 0 (rv_one rfl (r1_tmp rfl)) ?_ rfl
  rfl
set_option maxRecDepth 100000 in
set_option maxHeartbeats 1000000 in
theorem edges1_c (a : Option Addr) (cap : Nat) (l : List Pt) (b : Nat) (hs : Small l.length) :
    SeqC Tryz.prog 123 [.pointer (some ⟨b, 0, none⟩)] (edgeVs l) (fun w => Has w (Box b [.slice a l.length cap] 49) ∧ Has w (Pts a l)) := by
  intro X J Rl D y w B x0 hB hA h0 hM hy
  refine calls_of_gkB hB hA (vs := [_, _]) Tryz.func123 rfl rfl (Nat.le_of_ble_eq_true rfl) ?_
  have hmem : ∀ {cz : Cx} {Hz : List Res} {xz : X} {pz : Nat} {w' : World}, Inside (fun k => k < w.heap.size ∧ ¬ B k) w cz → Hz[pz]? = some (J xz) → Hp cz.U cz.w0 Hz w' → (Has w' (Box b [.slice a l.length cap] 49) ∧ Has w' (Pts a l)) := fun hin hp hw => by
    obtain ⟨B', q1, q2, q3, q4⟩ := own_of_in hin hp hw
    exact hM _ _ B' q4 q1 q2 q3
  have ins0 := insideB Tryz.prog Tryz.f123.ntmps w B
  refine gk_seq ?_
  refine gk_region ?_
  refine gk_y rfl rfl (y_load1 tf49 rfl (fun _ hw => has_box_cell (hmem ins0 (pz := 0) rfl hw).1 rfl)) ?_
  refine gk_y rfl rfl (y_lenS (Tryz.underlying49) rfl) ?_
  refine gk_y rfl rfl (y_move rfl) ?_
  refine gk_nil (gk_sub (T' := [(0,_), (1,_), (5,_), (6,_)]) ⟨rfl, rfl, rfl, rfl, trivial⟩ ?_)
  refine gk_block ?_
  refine gk_loop (X := Int × X) (fun ⟨i, x⟩ => [(0, .func (.yield y) #[] #[]), (1, .pointer (some ⟨b, 0, none⟩)), (5, .int .i64 (l.length : Int)), (6, .int .i64 i)]) (fun ⟨i, x⟩ => [J x]) (fun ⟨i, x⟩ => (0 ≤ i ∧ i ≤ l.length ∧ Rl i.toNat x)) (fun ⟨i, x⟩ => (l.length - i).toNat) (0, x0) ⟨rfl, rfl, rfl, rfl, trivial⟩ rfl ?_ ?_
  · exact ⟨by omega, by omega, h0⟩
  · rintro ⟨i, x⟩ hI
    obtain ⟨g0, g1, g2⟩ := hI
    refine gk_seq ?_
    refine gk_region ?_
    refine gk_y rfl rfl (y_lss rfl rfl) ?_
    refine gk_nil (gk_sub (T' := [(0,_), (1,_), (5,_), (6,_), (7,_)]) ⟨rfl, rfl, rfl, rfl, rfl, trivial⟩ ?_)
    refine gk_seq ?_
    refine gk_cond rfl (fun hc7 => ?_) (fun hc7 => ?_)
    · have hc7 := of_decide_eq_true hc7
      have hpos : 0 < l.length := by omega
      refine gk_skip ?_
      refine gk_seq ?_
      refine gk_block ?_
      refine gk_seq ?_
      refine gk_region ?_
      refine gk_y rfl rfl (y_move rfl) ?_
      refine gk_y rfl rfl (y_assign rfl) ?_
      refine gk_nil (gk_sub (T' := [(0,_), (1,_), (3,_), (5,_), (6,_)]) ⟨rfl, rfl, rfl, rfl, rfl, trivial⟩ ?_)
      refine gk_seq ?_
      refine gk_any 9 (fun _ => mixed) (by kernel_rfl) ?_
      refine ph_y (y_move rfl) ?_
      refine ph_y (y_load1 tf49 rfl (fun _ hw => has_box_cell (hmem ins0 (pz := 0) rfl hw).1 rfl)) ?_
      refine ph_y (y_move rfl) ?_
      refine ph_y (y_indexE se49 rfl rfl (fun _ hw => (hmem ins0 (pz := 0) rfl hw).2) (by omega) (by omega)) ?_
      refine ph_y (y_loadE (vs := [_, _]) tf50 rfl (fun _ hw => (hmem ins0 (pz := 0) rfl hw).2) (by omega) (by omega) rfl) ?_
      refine ph_y (y_load1 tf49 rfl (fun _ hw => has_box_cell (hmem ins0 (pz := 0) rfl hw).1 rfl)) ?_
      refine ph_y (y_move rfl) ?_
      refine ph_y (y_addI rfl rfl (by omega) (by omega)) ?_
      refine ph_y (y_call en88 rfl (fun w hw => at_c _ _ l (i + 1) w (hmem ins0 (pz := 0) rfl hw).2 (by assumption) (by omega) (by omega) (by omega))) ?_
      refine gk_sub (T' := [(0,_), (1,_), (5,_), (6,_), (9,_), (13,_), (17,_)]) ⟨rfl, rfl, rfl, rfl, rfl, rfl, rfl, trivial⟩ ?_
      refine gk_yield 0 ins0 rfl rfl rfl rfl (hy _ _ _ (edge_get g0 (by omega)) g2) fun b18 x18 hp18 => ?_
      refine gk_y rfl rfl (y_not rfl) ?_
      refine gk_nil (gk_sub (T' := [(0,_), (1,_), (5,_), (6,_), (19,_)]) ⟨rfl, rfl, rfl, rfl, rfl, trivial⟩ ?_)
      refine gk_cond rfl (fun hc19 => ?_) (fun hc19 => ?_)
      · skip
        refine gk_ret ?_
        refine gk_turns x18 0 (rv_none rfl) rfl rfl (.inr (by have := hp18; rwa [show b18 = false from by simpa using hc19, if_neg Bool.false_ne_true] at this))
      · skip
        refine gk_skip ?_
        refine gk_region ?_
        refine gk_y rfl rfl (y_addI rfl rfl (by omega) (by omega)) ?_
        refine gk_y rfl rfl (y_move rfl) ?_
        refine gk_nil (gk_sub (T' := [(0,_), (1,_), (5,_), (6,_)]) ⟨rfl, rfl, rfl, rfl, trivial⟩ ?_)
        exact gk_next (i + 1, x18) ⟨rfl, rfl, rfl, rfl, trivial⟩ rfl ⟨by omega, by omega, by have := hp18; rw [show b18 = true from by simpa using hc19, if_pos rfl] at this; rwa [show (i + 1).toNat = i.toNat + 1 from by omega]⟩ (by simp only []; omega)
    · have hc7 := of_decide_eq_false hc7
      refine gk_exit rfl ?_
      refine gk_turns x 0 (rv_none rfl) rfl rfl (.inl (by rw [edges_len]; rwa [show i.toNat = l.length from by omega] at g2))
set_option maxRecDepth 100000 in
set_option maxHeartbeats 1000000 in
theorem twice_c (a : Option Addr) (cap : Nat) (l : List Pt) (w : World) (hl : Has w (Pts a l)) (hs : Small l.length) :
    Calls Tryz.prog 65 #[.slice a l.length cap] w (Pure (.int .i64 (twiceW l)) w) := by
  refine calls_of_gk (vs := [_]) Tryz.func65 rfl rfl (Nat.le_of_ble_eq_true rfl) ?_
  refine gk_seq ?_
  refine gk_region ?_
  refine gk_y rfl rfl (y_assign rfl) ?_
  refine gk_nil (gk_sub (T' := [(0,_), (2,_)]) ⟨rfl, rfl, trivial⟩ ?_)
  refine gk_seq ?_
  refine gk_region ?_
  refine gk_yx rfl rfl (yx_alloc tf3 (zs := [_]) rfl) fun b3 => ?_
  refine gk_storeV 0 tf3 rfl rfl (vs := [_]) rfl rfl rfl rfl rfl ?_
  refine gk_nil (gk_sub (T' := [(0,_), (2,_), (3,_)]) ⟨rfl, rfl, rfl, trivial⟩ ?_)
  refine gk_seq ?_
  refine gk_seq ?_
  refine gk_region ?_
  refine gk_y rfl rfl (y_move rfl) ?_
  refine gk_yx rfl rfl (yx_call en83 rfl (fun w hw => edges_c _ _ l w)) fun p7 => ?_
  refine gk_nil (gk_sub (T' := [(2,_), (3,_), (7,_)]) ⟨rfl, rfl, rfl, trivial⟩ ?_)
  refine gk_block ?_
  refine gk_sub (T' := [(2,_), (3,_), (7,_)]) ⟨rfl, rfl, rfl, trivial⟩ ?_
  refine gk_rangeFunc (X := Int) (fun s => [Box p7 [.slice a l.length cap] 49, Box b3 [.int .i64 s] 3]) (fun n s => s = ((edgesL l).take n).foldl (fun s e => W (s + crossW e.1 e.2)) 0) (fun s => False) [] 0 rfl en123 rfl rfl rfl (edges1_c _ _ l _ (by assumption)) (fun s w hw => ⟨hw.has (p := 0) rfl, (Rd.has (Has.rd hl) hw)⟩) (edges_two _) rfl ?_ ?_ ?_ ?_
  · rintro R1 R2 rl U' w' n s args hget hR hrd hins hbeg
    obtain ⟨e, he, rfl⟩ := edge_inv hget
    refine gk_sub (T' := [(3,_), (8,_), (9,_)]) ⟨rfl, rfl, rfl, trivial⟩ ?_
    refine gk_seq ?_
    refine gk_region ?_
    refine gk_yx rfl rfl (yx_alloc tf50 (zs := [_, _]) rfl) fun b4 => ?_
    refine gk_storeV 0 tf50 rfl rfl (vs := [_, _]) rfl rfl rfl rfl rfl ?_
    refine gk_nil (gk_sub (T' := [(3,_), (4,_), (9,_)]) ⟨rfl, rfl, rfl, trivial⟩ ?_)
    refine gk_region ?_
    refine gk_yx rfl rfl (yx_alloc tf50 (zs := [_, _]) rfl) fun b5 => ?_
    refine gk_storeV 0 tf50 rfl rfl (vs := [_, _]) rfl rfl rfl rfl rfl ?_
    refine gk_nil (gk_sub (T' := [(3,_), (4,_), (5,_)]) ⟨rfl, rfl, rfl, trivial⟩ ?_)
    refine gk_front 2 rfl ?_
    refine hbeg _ _ _ ?_
    refine gk_block ?_
    refine gk_any 5 (fun _ => mixed) (by kernel_rfl) ?_
    refine ph_y (y_loadB1 4 tf3 rfl rfl rfl) ?_
    refine ph_y (y_loadBA 2 tf50 rfl rfl (vs := [_, _]) rfl rfl) ?_
    refine ph_y (y_loadBA 1 tf50 rfl rfl (vs := [_, _]) rfl rfl) ?_
    refine ph_y (y_call en85 rfl (fun w hw => cross_c ⟨_, _⟩ ⟨_, _⟩ w)) ?_
    refine ph_y (y_add rfl rfl) ?_
    refine gk_sub (T' := [(3,_), (14,_)]) ⟨rfl, rfl, trivial⟩ ?_
    refine gk_storeV 4 tf3 rfl rfl (vs := [_]) rfl rfl rfl rfl rfl ?_
    refine gk_nil (gk_sub (T' := []) trivial ?_)
    refine gk_dropAt 1 rfl ?_
    refine gk_dropAt 1 rfl ?_
    exact gk_joined (W (s + crossW e.1 e.2)) trivial rfl (by rw [fold_succ _ _ he, ← hR])
  · intro Dm s hR
    have hR := hR.trans (fold_all _ _ (by simp [edgeVs]))
    refine gk_seq ?_
    refine gk_region ?_
    refine gk_y rfl rfl (y_loadB1 2 tf3 rfl rfl rfl) ?_
    refine gk_y rfl rfl (y_assign rfl) ?_
    refine gk_nil (gk_sub (T' := [(2,_)]) ⟨rfl, trivial⟩ ?_)
    refine gk_ret ?_
    refine gk_unmark 0 rfl ?_
    refine gk_pure (rv_one rfl (r1_tmp rfl)) ?_
    rw [hR]; rfl
  · exact fun _ _ h => h.elim
  · exact fun _ _ _ _ h => absurd h (by simp)
set_option maxRecDepth 100000 in
set_option maxHeartbeats 1000000 in
theorem weight0_c (a : Option Addr) (cap : Nat) (s : Stn) (w : World) (hl : Has w (Pts a s.shape)) (hs : Small s.shape.length) :
    Calls Tryz.prog 29 #[.agg #[.string s.name, .slice a s.shape.length cap, .int .i64 s.depth, .int .i64 s.density, .int .i64 s.grain.x, .int .i64 s.grain.z]] w (Pure (.int .i64 (weightW s)) w) := by
  refine calls_of_gk (vs := [_]) Tryz.func29 rfl rfl (Nat.le_of_ble_eq_true rfl) ?_
  refine gk_seq ?_
  refine gk_region ?_
  refine gk_yx rfl rfl (yx_box (vs := [_, _, _, _, _, _]) rfl rfl) fun b1 => ?_
  refine gk_y rfl rfl (y_assign rfl) ?_
  refine gk_nil (gk_sub (T' := [(1,_), (2,_)]) ⟨rfl, rfl, trivial⟩ ?_)
  refine gk_seq ?_
  refine gk_any 10 (fun _ => mixed) (by kernel_rfl) ?_
  refine ph_y (y_fieldAddr fo52_1 rfl) ?_
  refine ph_y (y_loadB1 0 tf49 rfl rfl rfl) ?_
  refine ph_y (y_call en65 rfl (fun w hw => twice_c _ _ s.shape w (Rd.has (Has.rd hl) hw) (by assumption))) ?_
  refine ph_y (y_fieldAddr fo52_2 rfl) ?_
  refine ph_y (y_loadB1 0 tf3 rfl rfl rfl) ?_
  refine ph_y (y_mul rfl rfl) ?_
  refine ph_y (y_fieldAddr fo52_3 rfl) ?_
  refine ph_y (y_loadB1 0 tf3 rfl rfl rfl) ?_
  refine ph_y (y_mul rfl rfl) ?_
  refine ph_y (y_assign rfl) ?_
  refine gk_nil (gk_sub (T' := [(2,_)]) ⟨rfl, trivial⟩ ?_)
  refine gk_ret ?_
  refine gk_pure (rv_one rfl (r1_tmp rfl)) ?_
  rfl
set_option maxRecDepth 100000 in
set_option maxHeartbeats 1000000 in
theorem ask64_c (a : Option Addr) (cap : Nat) (s : Stn) (gg : FuncId) (gfs gcap : List Value) (v : Int) (w : World) (hl : Has w (Pts a s.shape)) (hs : Small s.shape.length) (M : World → Prop) (hM : ∀ w', Ext w w' → M w') (hen : En Tryz.prog gg) (hg : checkI s = 0 → ∀ w', M w' → Calls Tryz.prog gg (gfs ++ [] ++ gcap).toArray w' (Pure (.int .i64 v) w')) :
    Calls Tryz.prog 47 #[.agg #[.string s.name, .slice a s.shape.length cap, .int .i64 s.depth, .int .i64 s.density, .int .i64 s.grain.x, .int .i64 s.grain.z], .func (.func gg) gfs.toArray gcap.toArray] w (Pure (.tuple #[.int .i64 (askI s v), .int .i64 (checkI s)]) w) := by
  refine calls_of_gk (vs := [_, _]) Tryz.func47 rfl rfl (Nat.le_of_ble_eq_true rfl) ?_
  refine gk_seq ?_
  refine gk_region ?_
  refine gk_yx rfl rfl (yx_box (vs := [_, _, _, _, _, _]) rfl rfl) fun b2 => ?_
  refine gk_y rfl rfl (y_assign rfl) ?_
  refine gk_y rfl rfl (y_assign rfl) ?_
  refine gk_nil (gk_sub (T' := [(1,_), (2,_), (4,_), (5,_)]) ⟨rfl, rfl, rfl, rfl, trivial⟩ ?_)
  refine gk_seq ?_
  refine gk_seq ?_
  refine gk_region ?_
  refine gk_y rfl rfl (y_loadBA 0 tf52 rfl rfl (vs := [_, _, _, _, _, _]) rfl rfl) ?_
  refine gk_y rfl rfl (y_call en38 rfl (fun w hw => check_c _ _ s w (Rd.has (Has.rd hl) hw) (by assumption))) ?_
  refine gk_y rfl rfl (y_assign rfl) ?_
  refine gk_nil (gk_sub (T' := [(1,_), (4,_), (5,_), (6,_)]) ⟨rfl, rfl, rfl, rfl, trivial⟩ ?_)
  refine gk_seq ?_
  refine gk_region ?_
  refine gk_y rfl rfl (y_move rfl) ?_
  refine gk_y rfl rfl (y_neq rfl rfl) ?_
  refine gk_nil (gk_sub (T' := [(1,_), (4,_), (5,_), (6,_), (10,_)]) ⟨rfl, rfl, rfl, rfl, rfl, trivial⟩ ?_)
  refine gk_cond rfl (fun hc10 => ?_) (fun hc10 => ?_)
  · skip
    refine gk_seq ?_
    refine gk_region ?_
    refine gk_y rfl rfl (y_move rfl) ?_
    refine gk_y rfl rfl (y_move rfl) ?_
    refine gk_y rfl rfl (y_assign rfl) ?_
    refine gk_y rfl rfl (y_assign rfl) ?_
    refine gk_nil (gk_sub (T' := [(1,_), (4,_), (5,_)]) ⟨rfl, rfl, rfl, trivial⟩ ?_)
    refine gk_ret ?_
    refine gk_pure (rv_two rfl (r1_tmp rfl) (r1_tmp rfl)) ?_
    have hk : ¬ checkI s = 0 := by simpa using hc10
    rw [askI, if_neg hk]
  · have hk : checkI s = 0 := by simpa using hc10
    refine gk_skip ?_
    refine gk_seq ?_
    refine gk_region ?_
    refine gk_y rfl rfl (y_move rfl) ?_
    refine gk_y rfl rfl (y_callV (fs := gfs) (cap := gcap) hen rfl rfl (fun w hw => hg hk w (hM _ hw.base.ext0))) ?_
    refine gk_y rfl rfl (y_assign rfl) ?_
    refine gk_y rfl rfl (y_assign rfl) ?_
    refine gk_nil (gk_sub (T' := [(4,_), (5,_)]) ⟨rfl, rfl, trivial⟩ ?_)
    refine gk_ret ?_
    refine gk_pure (rv_two rfl (r1_tmp rfl) (r1_tmp rfl)) ?_
    rw [askI, if_pos hk, hk]
set_option maxRecDepth 100000 in
set_option maxHeartbeats 1000000 in
theorem weight_c (a : Option Addr) (cap : Nat) (s : Stn) (w : World) (hl : Has w (Pts a s.shape)) (hs : Small s.shape.length) :
    Calls Tryz.prog 20 #[.agg #[.string s.name, .slice a s.shape.length cap, .int .i64 s.depth, .int .i64 s.density, .int .i64 s.grain.x, .int .i64 s.grain.z]] w (Pure (.tuple #[.int .i64 (askI s (weightW s)), .int .i64 (checkI s)]) w) := by
  refine calls_of_gk (vs := [_]) Tryz.func20 rfl rfl (Nat.le_of_ble_eq_true rfl) ?_
  refine gk_seq ?_
  refine gk_region ?_
  refine gk_yx rfl rfl (yx_box (vs := [_, _, _, _, _, _]) rfl rfl) fun b1 => ?_
  refine gk_y rfl rfl (y_assign rfl) ?_
  refine gk_y rfl rfl (y_assign rfl) ?_
  refine gk_nil (gk_sub (T' := [(1,_), (2,_), (3,_)]) ⟨rfl, rfl, rfl, trivial⟩ ?_)
  refine gk_seq ?_
  refine gk_region ?_
  refine gk_y rfl rfl (y_loadBA 0 tf52 rfl rfl (vs := [_, _, _, _, _, _]) rfl rfl) ?_
  refine gk_y rfl rfl (y_loadBA 0 tf52 rfl rfl (vs := [_, _, _, _, _, _]) rfl rfl) ?_
  refine gk_y rfl rfl (y_makeFunc («as» := [_]) (bs := []) rfl rfl) ?_
  refine gk_y rfl rfl (y_call en47 rfl (fun w hw => ask64_c _ _ s 29 [stnV s a cap] [] (weightW s) w (Rd.has (Has.rd hl) hw) (by assumption) (fun w' => Has w' (Pts a s.shape)) (fun w' hx => Has.ext (Rd.has (Has.rd hl) hw) hx) en29 (fun _ w' hp => weight0_c _ _ s w' hp (by assumption)))) ?_
  refine gk_y rfl rfl (y_extract rfl rfl) ?_
  refine gk_y rfl rfl (y_extract rfl rfl) ?_
  refine gk_y rfl rfl (y_assign rfl) ?_
  refine gk_y rfl rfl (y_assign rfl) ?_
  refine gk_nil (gk_sub (T' := [(2,_), (3,_)]) ⟨rfl, rfl, trivial⟩ ?_)
  refine gk_ret ?_
  refine gk_pure (rv_two rfl (r1_tmp rfl) (r1_tmp rfl)) ?_
  rfl
end Go.Proofs.YtmpaebfjnjmmlaaGreatDoor
