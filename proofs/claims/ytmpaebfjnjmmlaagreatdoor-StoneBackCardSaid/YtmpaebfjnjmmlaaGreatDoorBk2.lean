/- What the proof of the root text leans on, part 2: the layer, plain facts and walks. No statement of the seat is proved in this text. -/
import Derived.ChangeSame
import Derived.Deep.Slices
import Derived.Handed
import Derived.HandedShaped
import Derived.LaidHandle
import Derived.LaidLaws
import Derived.LaidMore
import Derived.Laws.DeepStrings4
import Derived.Lay
import Derived.Lib.AppendStr
import Derived.Lib.AtoiAll
import Derived.Lib.IndexBytes
import Derived.Lib.IndexLaws
import Derived.Lib.ItoaNum
import Derived.Lib.LaidU8
import Derived.Lib.SplitLaws
import Derived.OpenShut
import Derived.ProofKit
import Derived.Shelf.Small.Strs
import Derived.Shelf.Strconv.AtoiAll
import Derived.Shelf.Strconv.Itoa3
import Derived.Shelf.Strings.BuilderF
import Derived.Shelf.Strings.Cut
import Derived.Shelf.Strings.Split
import Derived.Shelf.Vars
import Derived.SizedLaws
import Derived.Stop.Joined
import Derived.Test.YtmpaebfjnjmmlaaGreatDoorProg
import Derived.Test.YtmpaebfjnjmmlaaGreatDoorRows
import Derived.WideKeyArgs
import Derived.WideLaws
import Derived.Test.YtmpaebfjnjmmlaaGreatDoorBk1
namespace Go.K
open Go Go.RowKit
/-- t is an array type of n elements e of k cells -/
structure AE (P : Program) (t e : TypeId) (n k : Nat) : Prop where
  u : P.underlying t = some (.array n e)
  i : (P.info? e).map (fun i => i.size) = some k
abbrev encVal (v : Value) : List Value := [v]
theorem elems_cell {w : World} {b o i : Nat} {l : List Value} {v : Value} (h : Has w (Elems (some ⟨b, o, none⟩) 1 encVal l)) (hv : l[i]? = some v) : w.cell? ⟨b, o + i * 1, none⟩ = some v := by
  obtain ⟨b', off, hb, hc⟩ := elems_at h hv
  simp only [Option.some.injEq, Addr.mk.injEq] at hb
  obtain ⟨rfl, rfl, _⟩ := hb
  exact hc.1
section
variable {c : Cx} {ds : List Deferred} {p : Post} {T : List (Nat × Value)} {H : List Res} {ops : Array Oper} {rest : List Oper} {d : Option Nat} {ty : TypeId} {ps : String} {af : Array Edge} {g : Option (Nat × Bool)} {x y z : Operand} {u v : Value}
theorem y_castT {o : Oper} {b : Bool} (h : Y c ds H T o (.bool b)) (hb : b = true) : Y c ds H T o (.bool true) := by subst hb; exact h
theorem y_indexA {t e : TypeId} {n k b o : Nat} {kd : IntKind} {i : Int} (m : Nat) (ht : AE c.P t e n k) (hx : evo T x = some (.pointer (some ⟨b, o, none⟩))) (hy : evo T y = some (.int kd i)) (hm : i = (m : Int)) (h1 : m < n) :
    Y c ds H T ⟨d, .indexAddr t x y, ty, ps, af, g⟩ (.pointer (some ⟨b, o + m * k, none⟩)) :=
  y_run fun a w ha hw => by
    subst hm
    simp only [execOp, ha.eval hx, ha.eval hy]
    refine run_val ?_
    unfold Instr.indexAt
    rw [run_bind_ok (v := (kd, (m : Int))) (w' := w) rfl]
    simp only []
    have hz : (sizeOf e).run c.P w = .ok k w := by
      have hi := ht.i
      cases hu : c.P.info? e with
      | none => rw [hu] at hi; cases hi
      | some j =>
        rw [hu] at hi
        simp only [Option.map_some, Option.some.injEq] at hi
        unfold sizeOf
        rw [run_bind_ok (run_info hu)]
        simp [pure, hi]
    have hu := run_underlying' (w := w) ht.u
    rw [run_bind_ok hu]
    simp only []
    have hs : (Instr.sureAddr (.pointer (some ⟨b, o, none⟩))).run c.P w = .ok ⟨b, o, none⟩ w := rfl
    rw [run_bind_ok hs, run_bind_ok (v := (some ⟨b, o, none⟩, n, e)) (w' := w) rfl, run_bind_ok hu]
    simp only []
    rw [if_pos ⟨by omega, by omega⟩, run_bind_ok hz]
    simp only [addr_add, Int.toNat_natCast]
    rfl
variable {α : Type} {k : Nat} {enc : α → List Value}
/-- a store into an element, among operations in any order -/
theorem so_elem {t e : TypeId} {gg : Bool} {zz : Value} {a : Option Addr} {cap : Nat} {l : List α} {ix : Int} {vs : List Value} {x' : α} (he : Enc k enc) (ht : TF c.P t gg k zz) (hx : evo T x = some (epx a (ix.toNat * k))) (hy : evo T y = some v)
    (hv : v.cells = vs.toArray) (hxx : enc x' = vs) (h0 : 0 ≤ ix) (h1 : ix < (l.length : Int)) : StoreOb c ds T H ⟨d, .store t x y, ty, ps, af, g⟩ (Row a k cap e enc l) (Row a k cap e enc (l.set ix.toNat x')) := by
  refine ⟨fun A w B ha hw hBl hA => ?_⟩
  have hlt : ix.toNat < l.length := by omega
  rcases hA with ⟨_, _, rfl⟩ | ⟨b, off, cs, hab, hB, hbk, g1, g2, g3⟩
  · simp at hlt
  subst hab
  have hvl : vs.length = k := by rw [← hxx]; exact he.len x'
  have hone : vs.all cell1 = true := by rw [← hxx]; exact he.one x'
  have hkk : (ix.toNat + 1) * k ≤ cap * k := Nat.mul_le_mul_right _ (by omega)
  rw [Nat.add_mul, Nat.one_mul] at hkk
  obtain ⟨w', hr, hm, hb'⟩ := run_storeCells (P := c.P) (o := off + ix.toNat * k) vs cs 0 w hbk (by omega) hone
  have hrun : (execOp A.eval ⟨d, .store t x y, ty, ps, af, g⟩).run c.P w = .ok .skip w' := by
    simp only [execOp, ha.eval hx, ha.eval hy, epx, Option.map_some, addr_add]
    have h3 : (Instr.storeAt t (.pointer (some ⟨b, off + ix.toNat * k, none⟩)) v).run c.P w = .ok () w' := by
      unfold Instr.storeAt
      rw [run_bind_ok (v := ⟨b, off + ix.toNat * k, none⟩) (w' := w) rfl]
      unfold storeVar
      rw [run_bind_ok ht.size]
      have : v.cells.size = k := by rw [hv]; simpa using hvl
      simp only [this, ne_eq, not_true_eq_false, if_false]
      rw [hv]
      exact hr
    rw [run_bind_ok h3]
    rfl
  unfold Yld
  rw [hrun]
  refine ⟨⟨hm.os, hm.tape, hm.output, hm.size, fun j hj hbj => hm.same j hj (fun h => hbj ((hB j).2 h))⟩, B, (fun j hj => .inl hj), .inr ⟨b, off, over cs (off + ix.toNat * k) vs, rfl, hB, hb', by simpa using g1, by rw [over_length]; exact g2, ?_⟩⟩
  rw [List.length_set, over_eq vs cs _ (by omega), hvl]
  have hll : l.length * k ≤ cap * k := Nat.mul_le_mul_right _ g1
  have hik : ix.toNat * k + k ≤ l.length * k := by
    have : (ix.toNat + 1) * k ≤ l.length * k := Nat.mul_le_mul_right _ hlt
    rwa [Nat.add_mul, Nat.one_mul] at this
  have e1 : (cs.take (off + ix.toNat * k)).drop off = (l.take ix.toNat).flatMap enc := by
    rw [List.drop_take, Nat.add_sub_cancel_left, ← flat_take he (by omega), ← g3, List.take_take, Nat.min_eq_left (by omega)]
  have hAl : ((l.take ix.toNat).flatMap enc).length = ix.toNat * k := by rw [flat_len he, List.length_take, Nat.min_eq_left (by omega)]
  have e2 : (cs.take (off + ix.toNat * k) ++ vs ++ cs.drop (off + ix.toNat * k + k)).drop off = (l.take ix.toNat).flatMap enc ++ (vs ++ cs.drop (off + ix.toNat * k + k)) := by
    rw [List.append_assoc, List.drop_append_of_le_length (by rw [List.length_take]; omega), e1]
  rw [e2, List.take_append, hAl, List.take_of_length_le (l := (l.take ix.toNat).flatMap enc) (by rw [hAl]; omega), List.take_append, hvl, List.take_of_length_le (l := vs) (by rw [hvl]; omega)]
  have e3 : (cs.drop (off + ix.toNat * k + k)).take (l.length * k - ix.toNat * k - k) = (l.drop (ix.toNat + 1)).flatMap enc := by
    rw [← flat_drop he (by omega), ← g3, List.drop_take, List.drop_drop, Nat.add_mul, Nat.one_mul]
    congr 1
    · omega
    · rw [Nat.add_assoc]
  rw [e3, List.set_eq_take_append_cons_drop, if_pos hlt, List.flatMap_append, List.flatMap_cons, hxx]
end
end Go.K

namespace Go.Stn
open Go Go.K Go.RowKit
abbrev W (n : Int) : Int := IntKind.i64.wrap n
structure Pt where
  x : Int
  z : Int
  deriving Inhabited, DecidableEq
abbrev encPt (p : Pt) : List Value := [.int .i64 p.x, .int .i64 p.z]
abbrev ptV (p : Pt) : Value := .agg #[.int .i64 p.x, .int .i64 p.z]
abbrev Pts (a : Option Addr) (l : List Pt) : Res := Elems a 2 encPt l
theorem encPt_ok : Enc 2 encPt := ⟨fun _ => rfl, fun _ => rfl, by decide⟩
abbrev encI (n : Int) : List Value := [.int .i64 n]
abbrev Ints (a : Option Addr) (l : List Int) : Res := Elems a 1 encI l
theorem encI_ok : Enc 1 encI := ⟨fun _ => rfl, fun _ => rfl, by decide⟩
/-- lengths of slices that fit -/
abbrev Small (n : Nat) : Prop := n ≤ 1099511627776
/-- lengths of texts that fit -/
abbrev Fits (n : Nat) : Prop := n ≤ 140737488355328
def byteI (s : ByteArray) (i : Int) : Int := ((s[i.toNat]?.getD 0).toNat : Int)
def cmpI (x y : Int) : Int := if x < y then -1 else if y < x then 1 else 0
def subW (p q : Pt) : Pt := ⟨W (p.x - q.x), W (p.z - q.z)⟩
def crossW (p q : Pt) : Int := W (W (p.x * q.z) - W (p.z * q.x))
def dotW (p q : Pt) : Int := W (W (p.x * q.x) + W (p.z * q.z))
def turnW (p q r : Pt) : Int := crossW (subW q p) (subW r q)
def sideW (p q r : Pt) : Int := W (W (W (q.x - p.x) * W (r.z - p.z)) - W (W (q.z - p.z) * W (r.x - p.x)))
/-- for all numbers below n -/
def allI (n : Nat) (p : Nat → Bool) : Bool := (List.range n).all p
theorem allI_iff {n : Nat} {p : Nat → Bool} : allI n p = true ↔ ∀ i, i < n → p i = true := by simp [allI]
theorem allI_true {n : Nat} {p : Nat → Bool} (h : ∀ i, i < n → p i = true) : allI n p = true := allI_iff.2 h
theorem allI_false {n i : Nat} {p : Nat → Bool} (hi : i < n) (h : p i = false) : allI n p = false := by
  cases hb : allI n p with
  | false => rfl
  | true => rw [allI_iff.1 hb i hi] at h; cases h
def orI : List Int → Int
  | [] => 0
  | x :: r => if x ≠ 0 then x else orI r
theorem orI_drop (l : List Int) (n : Nat) (h : n < l.length) : orI (l.drop n) = if l.getD n default ≠ 0 then l.getD n default else orI (l.drop (n + 1)) := by
  rw [List.drop_eq_getElem_cons h]
  simp [orI, h]
theorem orI_step {l : List Int} {i : Int} (h0 : 0 ≤ i) (h1 : i < (l.length : Int)) (h : l.getD i.toNat default = 0) : orI (l.drop (i + 1).toNat) = orI (l.drop i.toNat) := by
  rw [orI_drop l i.toNat (by omega), if_neg (by simpa using h), show (i + 1).toNat = i.toNat + 1 from by omega]
theorem orI_hit {l : List Int} {i : Int} (h0 : 0 ≤ i) (h1 : i < (l.length : Int)) (h : ¬ l.getD i.toNat default = 0) : orI (l.drop i.toNat) = l.getD i.toNat default := by
  rw [orI_drop l i.toNat (by omega), if_pos h]
theorem orI_end {l : List Int} {i : Int} (h : (l.length : Int) ≤ i) : orI (l.drop i.toNat) = 0 := by
  rw [List.drop_of_length_le (by omega)]; rfl
def lowerW (p q : Pt) : Int := orI [cmpI p.z q.z, cmpI p.x q.x]
def atL (l : List Pt) (i : Int) : Pt := l.getD ((i + (l.length : Int)).tmod (l.length : Int)).toNat default
def nextL (l : List Pt) (i : Int) : Pt := l.getD ((i + 1).tmod (l.length : Int)).toNat default
def ptAt (l : List Pt) (i : Int) : Pt := l.getD i.toNat default
def leastL (l : List Pt) : Pt := l.foldl (fun o p => ⟨min o.x p.x, min o.z p.z⟩) (l.getD 0 default)
theorem take_succ {α : Type} [Inhabited α] {l : List α} {i : Int} (h0 : 0 ≤ i) (h1 : i < (l.length : Int)) : l.take (i + 1).toNat = l.take i.toNat ++ [l.getD i.toNat default] := by
  have hlt : i.toNat < l.length := by omega
  rw [show (i + 1).toNat = i.toNat + 1 from by omega, List.take_add_one]
  simp [hlt]
theorem fold_take {α β : Type} [Inhabited α] {l : List α} {i : Int} (f : β → α → β) (b : β) (h0 : 0 ≤ i) (h1 : i < (l.length : Int)) : (l.take (i + 1).toNat).foldl f b = f ((l.take i.toNat).foldl f b) (l.getD i.toNat default) := by
  rw [take_succ h0 h1, List.foldl_append]; rfl
theorem take_all {α : Type} {l : List α} {i : Int} (h : (l.length : Int) ≤ i) : l.take i.toNat = l := List.take_of_length_le (by omega)
/-- the index of the first one that is so; -1: none is -/
def findI {α : Type} (p : α → Bool) (l : List α) : Int := if l.any p = true then (l.findIdx p : Int) else -1
theorem findI_hit {α : Type} [Inhabited α] {p : α → Bool} {l : List α} {i : Int} (h0 : 0 ≤ i) (h1 : i < (l.length : Int)) (ha : ∀ j : Nat, (j : Int) < i → p (l.getD j default) = false) (hp : p (l.getD i.toNat default) = true) : findI p l = i := by
  have hlt : i.toNat < l.length := by omega
  have hp' : p l[i.toNat] = true := by simpa [hlt] using hp
  have hany : l.any p = true := List.any_eq_true.2 ⟨l[i.toNat], List.getElem_mem hlt, hp'⟩
  have hidx : l.findIdx p = i.toNat := (List.findIdx_eq hlt).2 ⟨hp', fun j hj => by
    have := ha j (by omega)
    have hj' : j < l.length := by omega
    simpa [hj'] using this⟩
  rw [findI, if_pos hany, hidx]
  omega
theorem findI_none {α : Type} [Inhabited α] {p : α → Bool} {l : List α} (ha : ∀ j : Nat, j < l.length → p (l.getD j default) = false) : findI p l = -1 := by
  have : ¬ l.any p = true := fun h => by
    obtain ⟨x, hx, hp⟩ := List.any_eq_true.1 h
    obtain ⟨j, hj, rfl⟩ := List.getElem_of_mem hx
    have := ha j hj
    simp [hj, hp] at this
  rw [findI, if_neg this]
theorem findI_any {α : Type} (p : α → Bool) (l : List α) : decide (0 ≤ findI p l) = l.any p := by
  unfold findI
  cases h : l.any p with
  | true => simp
  | false => simp
/-- the first one of the least -/
def minF {α : Type} [Inhabited α] (f : α → α → Int) (l : List α) : α := (l.drop 1).foldl (fun m p => if f p m < 0 then p else m) (l.getD 0 default)
theorem minF_take {α : Type} [Inhabited α] {f : α → α → Int} {l : List α} {i : Int} (h0 : 1 ≤ i) (h1 : i < (l.length : Int)) :
    minF f (l.take (i + 1).toNat) = if f (l.getD i.toNat default) (minF f (l.take i.toNat)) < 0 then l.getD i.toNat default else minF f (l.take i.toNat) := by
  have hlt : i.toNat < l.length := by omega
  unfold minF
  have e0 : ∀ n, 0 < n → (l.take n).getD 0 default = l.getD 0 default := fun n hn => by
    simp only [List.getD_eq_getElem?_getD, List.getElem?_take]; rw [if_pos hn]
  rw [take_succ (by omega) h1, List.drop_append_of_le_length (by simp; omega), List.foldl_append, ← take_succ (by omega) h1, e0 _ (by omega), e0 _ (by omega)]
  rfl
def cvx1 (l : List Pt) (i : Int) : Bool := decide (0 < turnW (atL l (i - 1)) (ptAt l i) (atL l (i + 1)))
def cvx2 (l : List Pt) (i k : Int) : Bool := decide (0 < turnW (ptAt l i) (atL l (i + 1)) (atL l (i + k)))
def cvxI (l : List Pt) (i : Int) : Bool := cvx1 l i && allI (l.length - 3) fun k => cvx2 l i (k + 2 : Nat)
def convexB (l : List Pt) : Bool := (decide (3 ≤ (l.length : Int)) && decide ((l.length : Int) ≤ 12)) && allI l.length fun i => cvxI l i
theorem convex_no {l : List Pt} (h : (!(decide (3 ≤ (l.length : Int)) && decide ((l.length : Int) ≤ 12))) = true) : convexB l = false := by
  rw [Bool.not_eq_true'] at h
  rw [convexB, h]; rfl
theorem convex_len {l : List Pt} (h : (!(decide (3 ≤ (l.length : Int)) && decide ((l.length : Int) ≤ 12))) = false) : 3 ≤ l.length ∧ l.length ≤ 12 := by
  simp at h; omega
theorem cvx1_of {l : List Pt} {i : Int} (h : ¬ turnW (atL l (i - 1)) (ptAt l i) (atL l (i + 1)) ≤ 0) : cvx1 l i = true := by
  rw [cvx1, decide_eq_true_eq]; omega
theorem cvx2_of {l : List Pt} {i k : Int} (h : ¬ turnW (ptAt l i) (atL l (i + 1)) (atL l (i + k)) ≤ 0) : cvx2 l i k = true := by
  rw [cvx2, decide_eq_true_eq]; omega
theorem cvxI_true {l : List Pt} {i : Int} {k : Int} (hk : (l.length : Int) - 1 ≤ k) (h1 : cvx1 l i = true) (h2 : ∀ j : Nat, 2 ≤ j → (j : Int) < k → cvx2 l i j = true) : cvxI l i = true := by
  rw [cvxI, h1, Bool.true_and]
  exact allI_true fun j hj => h2 (j + 2) (by omega) (by omega)
theorem convex_bad {l : List Pt} {i : Int} (h0 : 0 ≤ i) (h1 : i < (l.length : Int)) (h : cvxI l i = false) : convexB l = false := by
  rw [convexB, allI_false (i := i.toNat) (by omega) (by rw [show ((i.toNat : Nat) : Int) = i from by omega]; exact h), Bool.and_false]
theorem convex_bad1 {l : List Pt} {i : Int} (h0 : 0 ≤ i) (h1 : i < (l.length : Int)) (h : turnW (atL l (i - 1)) (ptAt l i) (atL l (i + 1)) ≤ 0) : convexB l = false :=
  convex_bad h0 h1 (by rw [cvxI, cvx1, decide_eq_false (by omega), Bool.false_and])
theorem convex_bad2 {l : List Pt} {i k : Int} (h0 : 0 ≤ i) (h1 : i < (l.length : Int)) (h2 : 2 ≤ k) (h3 : k < (l.length : Int) - 1) (h : turnW (ptAt l i) (atL l (i + 1)) (atL l (i + k)) ≤ 0) : convexB l = false :=
  convex_bad h0 h1 (by
    rw [cvxI, allI_false (i := k.toNat - 2) (by omega) ?_, Bool.and_false]
    rw [show ((k.toNat - 2 + 2 : Nat) : Int) = k from by omega, cvx2, decide_eq_false (by omega)])
theorem convex_yes {l : List Pt} {i : Int} (hl : 3 ≤ l.length ∧ l.length ≤ 12) (h : ∀ j : Nat, (j : Int) < i → cvxI l j = true) (hi : (l.length : Int) ≤ i) : convexB l = true := by
  rw [convexB, allI_true (fun j hj => h j (by omega)), Bool.and_true, Bool.and_eq_true, decide_eq_true_eq, decide_eq_true_eq]
  omega
def rcv (l : List Pt) (i k : Int) : Bool := !(!decide (k = i) && !decide (k = (i + 1).tmod (l.length : Int))) || decide (0 < sideW (ptAt l i) (nextL l i) (ptAt l k))
def rcvI (l : List Pt) (i : Int) : Bool := allI l.length fun k => rcv l i k
def rconvexB (l : List Pt) : Bool := !(decide ((l.length : Int) < 3) || decide (12 < (l.length : Int))) && allI l.length fun i => rcvI l i
theorem rconvex_no {l : List Pt} (h : (decide ((l.length : Int) < 3) || decide (12 < (l.length : Int))) = true) : rconvexB l = false := by rw [rconvexB, h]; rfl
theorem rconvex_len {l : List Pt} (h : (decide ((l.length : Int) < 3) || decide (12 < (l.length : Int))) = false) : 3 ≤ l.length ∧ l.length ≤ 12 := by
  simp at h; omega
theorem rcv_of {l : List Pt} {i k : Int} (h : ((!decide (k = i) && !decide (k = (i + 1).tmod (l.length : Int))) && decide (sideW (ptAt l i) (nextL l i) (ptAt l k) ≤ 0)) = false) : rcv l i k = true := by
  unfold rcv
  cases hb : (!decide (k = i) && !decide (k = (i + 1).tmod (l.length : Int))) with
  | false => rfl
  | true =>
    rw [hb, Bool.true_and, decide_eq_false_iff_not] at h
    simp only [Bool.not_true, Bool.false_or, decide_eq_true_eq]
    omega
theorem rconvex_bad {l : List Pt} {i k : Int} (h0 : 0 ≤ i) (h1 : i < (l.length : Int)) (h2 : 0 ≤ k) (h3 : k < (l.length : Int))
    (h : ((!decide (k = i) && !decide (k = (i + 1).tmod (l.length : Int))) && decide (sideW (ptAt l i) (nextL l i) (ptAt l k) ≤ 0)) = true) : rconvexB l = false := by
  rw [rconvexB, allI_false (i := i.toNat) (by omega) ?_, Bool.and_false]
  rw [show ((i.toNat : Nat) : Int) = i from by omega, rcvI, allI_false (i := k.toNat) (by omega)]
  rw [show ((k.toNat : Nat) : Int) = k from by omega]
  rw [Bool.and_eq_true, decide_eq_true_eq] at h
  rw [rcv, h.1, decide_eq_false (by omega)]; rfl
theorem rconvex_yes {l : List Pt} {i : Int} (hl : (decide ((l.length : Int) < 3) || decide (12 < (l.length : Int))) = false) (h : ∀ j : Nat, (j : Int) < i → rcvI l j = true) (hi : (l.length : Int) ≤ i) : rconvexB l = true := by
  rw [rconvexB, hl, allI_true (fun j hj => h j (by omega))]; rfl
theorem rconvex_pos {l : List Pt} (h : rconvexB l = true) : 0 < l.length := by
  rw [rconvexB, Bool.and_eq_true, Bool.not_eq_true'] at h
  have := rconvex_len h.1
  omega
theorem rconvex_pos2 {l : List Pt} {b : Bool} (h : (rconvexB l && b) = true) : 0 < l.length := rconvex_pos (Bool.and_eq_true_iff.1 h).1
/-- the index of the first one of the lowest -/
def rfirstN (l : List Pt) : Nat → Int
  | 0 => 0
  | n + 1 => if (decide ((ptAt l (n : Int)).z < (ptAt l (rfirstN l n)).z) || (decide ((ptAt l (n : Int)).z = (ptAt l (rfirstN l n)).z) && decide ((ptAt l (n : Int)).x < (ptAt l (rfirstN l n)).x))) = true then (n : Int) else rfirstN l n
def rfirst (l : List Pt) : Int := rfirstN l l.length
theorem rfirstN_succ {l : List Pt} {i : Int} (h0 : 0 ≤ i) : rfirstN l (i + 1).toNat = if (decide ((ptAt l i).z < (ptAt l (rfirstN l i.toNat)).z) || (decide ((ptAt l i).z = (ptAt l (rfirstN l i.toNat)).z) && decide ((ptAt l i).x < (ptAt l (rfirstN l i.toNat)).x))) = true then i else rfirstN l i.toNat := by
  rw [show (i + 1).toNat = i.toNat + 1 from by omega, rfirstN, show ((i.toNat : Nat) : Int) = i from by omega]
theorem rfirstN_all {l : List Pt} {i : Int} (h : i.toNat = l.length) : rfirstN l i.toNat = rfirst l := by rw [h]; rfl
def farB (p : Pt) : Bool := !(decide (0 ≤ p.x) && decide (p.x ≤ 2000)) || !(decide (0 ≤ p.z) && decide (p.z ≤ 2000))
def placedB (l : List Pt) : Bool := !(l.any farB || !convexB l) && ((decide ((leastL l).x = 0) && decide ((leastL l).z = 0)) && (decide ((minF lowerW l).x = (l.getD 0 default).x) && decide ((minF lowerW l).z = (l.getD 0 default).z)))
theorem placed_no {l : List Pt} (h : (l.any farB || !convexB l) = true) : placedB l = false := by rw [placedB, h]; rfl
theorem placed_yes {l : List Pt} (h : (l.any farB || !convexB l) = false) : placedB l = ((decide ((leastL l).x = 0) && decide ((leastL l).z = 0)) && (decide ((minF lowerW l).x = (l.getD 0 default).x) && decide ((minF lowerW l).z = (l.getD 0 default).z))) := by rw [placedB, h]; rfl
theorem convex_lenB {l : List Pt} (h : convexB l = true) : 3 ≤ l.length ∧ l.length ≤ 12 := by
  rw [convexB, Bool.and_eq_true, Bool.and_eq_true, decide_eq_true_eq, decide_eq_true_eq] at h
  omega
theorem placed_pos {l : List Pt} (h : (l.any farB || !convexB l) = false) : 0 < l.length := by
  rw [Bool.or_eq_false_iff, Bool.not_eq_false'] at h
  have := convex_lenB h.2
  omega
def rplacedB (l : List Pt) : Bool := allI l.length (fun i => !farB (l.getD i default)) && (((rconvexB l && decide ((leastL l).x = 0)) && decide ((leastL l).z = 0)) && decide (rfirst l = 0))
theorem rplaced_no {l : List Pt} {i : Int} (h0 : 0 ≤ i) (h1 : i < (l.length : Int)) (h : farB (l.getD i.toNat default) = true) : rplacedB l = false := by
  rw [rplacedB, allI_false (i := i.toNat) (by omega) (by rw [h]; rfl)]; rfl
theorem rplaced_yes {l : List Pt} {i : Int} (h : ∀ j : Nat, (j : Int) < i → farB (l.getD j default) = false) (hi : (l.length : Int) ≤ i) : rplacedB l = (((rconvexB l && decide ((leastL l).x = 0)) && decide ((leastL l).z = 0)) && decide (rfirst l = 0)) := by
  rw [rplacedB, allI_true (fun j hj => by rw [h j (by omega)]; rfl)]; rfl
def edgesL (l : List Pt) : List (Pt × Pt) := (List.range l.length).map fun (i : Nat) => (ptAt l (i : Int), atL l ((i : Int) + 1))
abbrev edgeV (e : Pt × Pt) : List Value := [ptV e.1, ptV e.2]
abbrev edgeVs (l : List Pt) : List (List Value) := (edgesL l).map edgeV
theorem edges_len (l : List Pt) : (edgeVs l).length = l.length := by simp [edgeVs, edgesL]
theorem edges_len' (l : List Pt) : (edgesL l).length = l.length := by simp [edgesL]
theorem edge_get {l : List Pt} {i : Int} (h0 : 0 ≤ i) (h1 : i < (l.length : Int)) : (edgeVs l)[i.toNat]? = some [ptV (ptAt l i), ptV (atL l (i + 1))] := by
  have hlt : i.toNat < l.length := by omega
  have : ((i.toNat : Nat) : Int) = i := by omega
  simp [edgeVs, edgesL, hlt, this]
theorem edge_inv {l : List Pt} {n : Nat} {args : List Value} (h : (edgeVs l)[n]? = some args) : ∃ e, (edgesL l)[n]? = some e ∧ args = [ptV e.1, ptV e.2] := by
  rw [List.getElem?_map] at h
  cases he : (edgesL l)[n]? with
  | none => rw [he] at h; cases h
  | some e => rw [he] at h; exact ⟨e, rfl, by simpa using h.symm⟩
theorem edges_two (l : List Pt) : ∀ a ∈ edgeVs l, a.length = 2 := fun a ha => by
  obtain ⟨e, _, rfl⟩ := List.mem_map.1 ha; rfl
def twiceW (l : List Pt) : Int := (edgesL l).foldl (fun s e => W (s + crossW e.1 e.2)) 0
theorem fold_succ {α β : Type} {l : List α} {n : Nat} {e : α} (f : β → α → β) (b : β) (h : l[n]? = some e) : (l.take (n + 1)).foldl f b = f ((l.take n).foldl f b) e := by
  rw [List.take_add_one, h, List.foldl_append]; rfl
theorem fold_all {α β : Type} {l : List α} {n : Nat} (f : β → α → β) (b : β) (h : n = l.length) : (l.take n).foldl f b = l.foldl f b := by rw [h, List.take_length]
theorem decode_low {s : ByteArray} {i : Nat} (h : (s.get! i).toNat < 128) : Utf8.decode s i = ((s.get! i).toNat, 1) := by
  unfold Utf8.decode
  simp only [Nat.add_zero]
  rw [if_pos h]
theorem decode_high {s : ByteArray} {i : Nat} (h : ¬ (s.get! i).toNat < 128) : 128 ≤ (Utf8.decode s i).1 ∧ 1 ≤ (Utf8.decode s i).2 := by
  unfold Utf8.decode
  simp only [Nat.add_zero]
  rw [if_neg h]
  simp only [Utf8.runeError]
  repeat' split
  all_goals simp_all
  all_goals omega
theorem decode_pos (s : ByteArray) (i : Nat) : 1 ≤ (Utf8.decode s i).2 := by
  by_cases h : (s.get! i).toNat < 128
  · rw [decode_low h]; exact Nat.le_refl _
  · exact (decode_high h).2
def idxRune (f : Int → Bool) (s : ByteArray) (p : Nat) : Int :=
  if h : p < s.size then (if f ((Utf8.decode s p).1 : Int) = true then (p : Int) else idxRune f s (p + (Utf8.decode s p).2)) else -1
termination_by s.size - p
decreasing_by have := decode_pos s p; omega
theorem idxRune_hit {f : Int → Bool} {s : ByteArray} {p : Nat} (h : p < s.size) (hf : f ((Utf8.decode s p).1 : Int) = true) : idxRune f s p = p := by rw [idxRune, dif_pos h, if_pos hf]
theorem idxRune_next {f : Int → Bool} {s : ByteArray} {p : Nat} (h : p < s.size) (hf : f ((Utf8.decode s p).1 : Int) = false) : idxRune f s p = idxRune f s (p + (Utf8.decode s p).2) := by
  conv => lhs; rw [idxRune, dif_pos h, if_neg (by rw [hf]; exact Bool.false_ne_true)]
theorem idxRune_end {f : Int → Bool} {s : ByteArray} {p : Nat} (h : ¬ p < s.size) : idxRune f s p = -1 := by rw [idxRune, dif_neg h]
def oddR (r : Int) : Bool := !(decide (97 ≤ r) && decide (r ≤ 122)) && !(decide (48 ≤ r) && decide (r ≤ 57))
def oddB (b : Int) : Bool := (decide (b < 97) || decide (122 < b)) && (decide (b < 48) || decide (57 < b))
def namedB (s : ByteArray) : Bool := (decide (1 ≤ (s.size : Int)) && decide ((s.size : Int) ≤ 16)) && !decide (0 ≤ idxRune oddR s 0)
def rnamedB (s : ByteArray) : Bool := allI s.size (fun i => !oddB (byteI s i)) && (decide (1 ≤ (s.size : Int)) && decide ((s.size : Int) ≤ 16))
theorem rnamed_no {s : ByteArray} {i : Int} (h0 : 0 ≤ i) (h1 : i < (s.size : Int)) (h : oddB (byteI s i) = true) : rnamedB s = false := by
  rw [rnamedB, allI_false (i := i.toNat) (by omega) (by rw [show ((i.toNat : Nat) : Int) = i from by omega, h]; rfl)]; rfl
theorem rnamed_yes {s : ByteArray} {i : Int} (h : ∀ j : Nat, (j : Int) < i → oddB (byteI s j) = false) (hi : (s.size : Int) ≤ i) : rnamedB s = (decide (1 ≤ (s.size : Int)) && decide ((s.size : Int) ≤ 16)) := by
  rw [rnamedB, allI_true (fun j hj => by rw [h j (by omega)]; rfl)]; rfl
structure Stn where
  name : ByteArray
  shape : List Pt
  depth : Int
  density : Int
  grain : Pt
  deriving DecidableEq
abbrev stnV (s : Stn) (a : Option Addr) (cap : Nat) : Value := .agg #[.string s.name, .slice a s.shape.length cap, .int .i64 s.depth, .int .i64 s.density, .int .i64 s.grain.x, .int .i64 s.grain.z]
def rvalidB (s : Stn) : Bool := ((((((rnamedB s.name && rplacedB s.shape) && (decide (1 ≤ s.depth) && decide (s.depth ≤ 2000))) && (decide (1 ≤ s.density) && decide (s.density ≤ 10000))) && ((!decide (s.grain.x = 0)) || (!decide (s.grain.z = 0)))) &&
  (decide (-100 ≤ s.grain.x) && decide (s.grain.x ≤ 100))) && (decide (-100 ≤ s.grain.z) && decide (s.grain.z ≤ 100)))
def grainedB (s : Stn) : Bool := (((!(decide (s.grain.x = 0) && decide (s.grain.z = 0))) && (decide (-100 ≤ s.grain.x) && decide (s.grain.x ≤ 100))) && (decide (-100 ≤ s.grain.z) && decide (s.grain.z ≤ 100)))
def badB (s : Stn) : Bool := ((((!namedB s.name || !placedB s.shape) || !(decide (1 ≤ s.depth) && decide (s.depth ≤ 2000))) || !(decide (1 ≤ s.density) && decide (s.density ≤ 10000))) || !grainedB s)
def checkI (s : Stn) : Int := if badB s = true then 2 else 0
def brickS : Stn := ⟨⟨#[98, 114, 105, 99, 107]⟩, [⟨0, 0⟩, ⟨200, 0⟩, ⟨200, 80⟩, ⟨0, 80⟩], 100, 2400, ⟨1, 0⟩⟩
end Go.Stn

namespace Go.Stn
open Go Go.K Go.RowKit
def weightW (s : Stn) : Int := W (W (twiceW s.shape * s.depth) * s.density)
def askI (s : Stn) (v : Int) : Int := if checkI s = 0 then v else 0
def askL {α : Type} (s : Stn) (l : List α) : List α := if checkI s = 0 then l else []
/-- all corners are within range -/
def Near (l : List Pt) : Prop := ∀ p ∈ l, farB p = false
theorem near_in {p : Pt} (h : farB p = false) : 0 ≤ p.x ∧ p.x ≤ 2000 ∧ 0 ≤ p.z ∧ p.z ≤ 2000 := by
  unfold farB at h
  simp at h
  omega
theorem near_getD {l : List Pt} (h : Near l) {i : Nat} (hi : i < l.length) : farB (l.getD i default) = false := h _ (by simp [hi])
theorem near_edge {l : List Pt} (h : Near l) {n : Nat} {e : Pt × Pt} (he : (edgesL l)[n]? = some e) : farB e.1 = false ∧ farB e.2 = false := by
  unfold edgesL at he
  rw [List.getElem?_map] at he
  have hn : n < l.length := by
    rcases Nat.lt_or_ge n l.length with h | h
    · exact h
    · rw [List.getElem?_eq_none (by simpa using h)] at he; cases he
  rw [List.getElem?_range hn] at he
  simp only [Option.map_some, Option.some.injEq] at he
  subst he
  refine ⟨?_, ?_⟩
  · exact near_getD h (by omega)
  · unfold atL
    refine near_getD h ?_
    have q0 : 0 ≤ ((n : Int) + 1 + (l.length : Int)).tmod (l.length : Int) := Int.tmod_nonneg _ (by omega)
    have q1 : ((n : Int) + 1 + (l.length : Int)).tmod (l.length : Int) < (l.length : Int) := Int.tmod_lt_of_pos _ (by omega)
    omega
/-- how many steps an edge has -/
def stepsN (p q : Pt) : Nat := Nat.gcd (q.x - p.x).natAbs (q.z - p.z).natAbs
def stepsI (p q : Pt) : Int := (stepsN p q : Int)
/-- a border point of an edge -/
def bpW (p q : Pt) (k : Int) : Pt := ⟨W (p.x + W (W ((subW q p).x.tdiv (stepsI p q)) * k)), W (p.z + W (W ((subW q p).z.tdiv (stepsI p q)) * k))⟩
def borderE (e : Pt × Pt) : List Pt := (List.range (stepsN e.1 e.2)).map fun (k : Nat) => bpW e.1 e.2 (k : Int)
def borderL (l : List Pt) : List Pt := (edgesL l).flatMap borderE
abbrev onePt (p : Pt) : List Value := [ptV p]
abbrev borderVs (l : List Pt) : List (List Value) := (borderL l).map onePt
def preN (l : List Pt) (n : Nat) : Nat := (((edgesL l).take n).flatMap borderE).length
theorem borderE_len (e : Pt × Pt) : (borderE e).length = stepsN e.1 e.2 := by simp [borderE]
theorem preN_zero (l : List Pt) : preN l 0 = 0 := by simp [preN]
theorem preN_succ {l : List Pt} {n : Nat} {e : Pt × Pt} (h : (edgesL l)[n]? = some e) : preN l (n + 1) = preN l n + stepsN e.1 e.2 := by
  unfold preN
  rw [List.take_add_one, h]
  simp [borderE_len]
theorem preN_all (l : List Pt) : preN l (edgeVs l).length = (borderVs l).length := by
  unfold preN
  rw [show (edgeVs l).length = (edgesL l).length from by simp [edgeVs], List.take_length]
  simp [borderVs, borderL]
theorem border_get {l : List Pt} {n : Nat} {e : Pt × Pt} (h : (edgesL l)[n]? = some e) {k : Int} (h0 : 0 ≤ k) (h1 : k < stepsI e.1 e.2) : (borderVs l)[preN l n + k.toNat]? = some [ptV (bpW e.1 e.2 k)] := by
  have hk : k.toNat < stepsN e.1 e.2 := by unfold stepsI at h1; omega
  have hn : n < (edgesL l).length := (List.getElem?_eq_some_iff.1 h).1
  have hsplit : borderL l = ((edgesL l).take n).flatMap borderE ++ (borderE e ++ ((edgesL l).drop (n + 1)).flatMap borderE) := by
    unfold borderL
    conv => lhs; rw [← List.take_append_drop n (edgesL l), List.drop_eq_getElem_cons hn]
    rw [List.flatMap_append, List.flatMap_cons]
    have : (edgesL l)[n] = e := (List.getElem?_eq_some_iff.1 h).2
    rw [this]
  unfold borderVs preN
  rw [List.getElem?_map, hsplit, List.getElem?_append_right (by omega), Nat.add_sub_cancel_left, List.getElem?_append_left (by rw [borderE_len]; omega)]
  unfold borderE
  rw [List.getElem?_map, List.getElem?_range hk]
  simp only [Option.map_some, onePt]
  rw [show ((k.toNat : Nat) : Int) = k from by omega]
theorem ones_one (l : List Pt) : ∀ a ∈ l.map onePt, a.length = 1 := fun a ha => by
  obtain ⟨e, _, rfl⟩ := List.mem_map.1 ha; rfl
theorem ones_inv {l : List Pt} {n : Nat} {args : List Value} (h : (l.map onePt)[n]? = some args) : ∃ p, l[n]? = some p ∧ args = [ptV p] := by
  rw [List.getElem?_map] at h
  cases he : l[n]? with
  | none => rw [he] at h; cases h
  | some e => rw [he] at h; exact ⟨e, rfl, by simpa using h.symm⟩
/-- numbers' greatest common divisor, round by round -/
theorem gcd_step {a b : Int} (ha : 0 ≤ a) (hb : 0 ≤ b) : Nat.gcd b.toNat (a.tmod b).toNat = Nat.gcd a.toNat b.toNat := by
  have h : (a.tmod b).toNat = a.toNat % b.toNat := by
    obtain ⟨m, rfl⟩ := Int.eq_ofNat_of_zero_le ha
    obtain ⟨n, rfl⟩ := Int.eq_ofNat_of_zero_le hb
    rfl
  rw [h, Nat.gcd_comm, ← Nat.gcd_rec, Nat.gcd_comm]
theorem near_sub {p q : Pt} (hp : farB p = false) (hq : farB q = false) : subW q p = ⟨q.x - p.x, q.z - p.z⟩ ∧ -2000 ≤ q.x - p.x ∧ q.x - p.x ≤ 2000 ∧ -2000 ≤ q.z - p.z ∧ q.z - p.z ≤ 2000 := by
  have h1 := near_in hp
  have h2 := near_in hq
  refine ⟨?_, by omega, by omega, by omega, by omega⟩
  unfold subW
  rw [show W (q.x - p.x) = q.x - p.x from wrap64_in (by omega) (by omega), show W (q.z - p.z) = q.z - p.z from wrap64_in (by omega) (by omega)]
theorem steps_le {p q : Pt} (hp : farB p = false) (hq : farB q = false) : stepsN p q ≤ 2000 := by
  have h := near_sub hp hq
  unfold stepsN
  by_cases hx : (q.x - p.x).natAbs = 0
  · rw [hx, Nat.gcd_zero_left]; omega
  · exact Nat.le_trans (Nat.gcd_le_left _ (by omega)) (by omega)
theorem take_snoc {α : Type} {l : List α} {n : Nat} {p : α} (h : l[n]? = some p) : l.take (n + 1) = l.take n ++ [p] := by rw [List.take_add_one, h]; rfl
theorem check_good {s : Stn} (h : checkI s = 0) : badB s = false := by
  unfold checkI at h
  cases hb : badB s with
  | false => rfl
  | true => rw [hb] at h; simp at h
theorem check_placed {s : Stn} (h : checkI s = 0) : placedB s.shape = true := by
  have := check_good h
  unfold badB at this
  simp only [Bool.or_eq_false_iff, Bool.not_eq_false'] at this
  exact this.1.1.1.2
theorem placed_near {l : List Pt} (h : placedB l = true) : Near l ∧ 3 ≤ l.length ∧ l.length ≤ 12 := by
  unfold placedB at h
  rw [Bool.and_eq_true, Bool.not_eq_true', Bool.or_eq_false_iff, Bool.not_eq_false'] at h
  refine ⟨fun p hp => ?_, convex_lenB h.1.2⟩
  cases hf : farB p with
  | false => rfl
  | true => have := h.1.1; rw [List.any_eq_true.2 ⟨p, hp, hf⟩] at this; cases this
theorem check_near {s : Stn} (h : checkI s = 0) : Near s.shape := (placed_near (check_placed h)).1
theorem check_len {s : Stn} (h : checkI s = 0) : 3 ≤ s.shape.length ∧ s.shape.length ≤ 12 := (placed_near (check_placed h)).2
theorem border_len {l : List Pt} (h : Near l) : (borderL l).length ≤ l.length * 2000 := by
  have key : ∀ n, n ≤ l.length → preN l n ≤ n * 2000 := by
    intro n
    induction n with
    | zero => intro _; simp [preN_zero]
    | succ n ih =>
      intro hn
      have hlt : n < (edgesL l).length := by rw [edges_len']; omega
      have he : (edgesL l)[n]? = some (edgesL l)[n] := by simp [hlt]
      have := steps_le (near_edge h he).1 (near_edge h he).2
      rw [preN_succ he]
      have := ih (by omega)
      omega
  have := key l.length (Nat.le_refl _)
  have h2 := preN_all l
  rw [show (edgeVs l).length = l.length from edges_len l] at h2
  rw [h2] at this
  simpa [borderVs] using this
/-- a slice among slices -/
structure Sli where
  a : Option Addr
  cap : Nat
  l : List Pt
instance : Inhabited Sli := ⟨⟨none, 0, []⟩⟩
abbrev encSli (s : Sli) : List Value := [.slice s.a s.l.length s.cap]
theorem encSli_ok : Enc 1 encSli := ⟨fun _ => rfl, fun _ => rfl, by decide⟩
theorem sum_le (ls : List Sli) (n : Nat) : ((ls.take n).flatMap Sli.l).length ≤ (ls.flatMap Sli.l).length := by
  conv => rhs; rw [← List.take_append_drop n ls, List.flatMap_append, List.length_append]
  omega
theorem sum_succ {ls : List Sli} {i : Int} (h0 : 0 ≤ i) (h1 : i < (ls.length : Int)) : (ls.take (i + 1).toNat).flatMap Sli.l = (ls.take i.toNat).flatMap Sli.l ++ (ls.getD i.toNat default).l := by
  rw [take_succ h0 h1, List.flatMap_append]; simp
theorem two_in {w : World} {x y : Sli} (hx : Has w (Pts x.a x.l)) (hy : Has w (Pts y.a y.l)) : ∀ i, i < [x, y].length → Has w (Pts ([x, y].getD i default).a ([x, y].getD i default).l)
  | 0, _ => hx
  | 1, _ => hy
  | n + 2, h => absurd h (by simp)
def eqB (v p : Pt) : Bool := decide (v.x = p.x) && decide (v.z = p.z)
theorem eqB_iff {v p : Pt} : eqB v p = true ↔ v = p := by
  unfold eqB
  cases v; cases p
  simp
end Go.Stn

namespace Go.K
open Go Go.Stn Go.ChangeShapes Go.WideShapes Go.ChangeAt Go.WideElems Go.RowKit
def I64 (n : Int) : Prop := -9223372036854775808 ≤ n ∧ n ≤ 9223372036854775807
def PtIn (p : Pt) : Prop := I64 p.x ∧ I64 p.z
theorem list_of {α : Type} {Q : Nat → α → Prop} : ∀ n, (∀ i, i < n → ∃ x, Q i x) → ∃ l : List α, l.length = n ∧ ∀ i x, l[i]? = some x → Q i x
  | 0, _ => ⟨[], rfl, fun i x h => by simp at h⟩
  | n + 1, h => by
    obtain ⟨l, hl, hq⟩ := list_of n (fun i hi => h i (by omega))
    obtain ⟨x, hx⟩ := h n (by omega)
    refine ⟨l ++ [x], by simp [hl], fun i y hy => ?_⟩
    rcases Nat.lt_or_ge i n with hi | hi
    · rw [List.getElem?_append_left (by omega)] at hy; exact hq i y hy
    · rw [List.getElem?_append_right (by omega), hl] at hy
      have : i = n := by
        rcases Nat.lt_or_ge n i with g | g
        · rw [List.getElem?_eq_none (by simp; omega)] at hy; cases hy
        · omega
      subst this
      simp at hy
      subst hy; exact hx
section
variable {H : Type} {enc : TypeId × Value → H} {P : Program} {w : World} {base : Nat} {spare : Nat → Bool} {held : Bool}
/-- P has points at type e -/
structure PtT (P : Program) (e : TypeId) (fx fz : Field) : Prop where
  u : P.underlying e = some (.struct #[fx, fz])
  ox : fx.offset = 0
  oz : fz.offset = 1
  tx : P.underlying fx.type = some (.int .i64)
  tz : P.underlying fz.type = some (.int .i64)
  cx : P.cellsOf fx.type = 1
  cz : P.cellsOf fz.type = 1
  c : P.cellsOf e = 2
theorem open_pt {e : TypeId} {fx fz : Field} {fuel : Nat} {cs : List Value} {x : DataW H × List MemPlace} (T : PtT P e fx fz) (h : DataW.trod enc P w base spare held fuel e cs = some x) : ∃ p : Pt, PtIn p ∧ cs = encPt p := by
  obtain ⟨ys, n, _, _, hlen, _, hf⟩ := DataW.trod_struct T.u h
  rw [T.c] at hlen
  match cs, hlen with
  | [c0, c1], _ =>
    have h0 := hf 0 fx rfl
    have h1 := hf 1 fz rfl
    rw [T.ox, T.cx] at h0
    rw [T.oz, T.cz] at h1
    have hy : ys.length = 2 := by
      obtain ⟨ys', n', _, hx', _, hl', _⟩ := DataW.trod_struct T.u h
      have : (ys.map (·.1)).length = (ys'.map (·.1)).length := by
        have := ‹x = (.agg (ys.map (·.1)), ys.flatMap (·.2))›.symm.trans hx'
        simp only [Prod.mk.injEq, DataW.agg.injEq] at this
        rw [this.1]
      simp only [List.length_map] at this
      rw [this]; exact hl'
    match ys, hy with
    | [y0, y1], _ =>
      obtain ⟨a, e1, _, w1⟩ := DataW.trod_int T.tx (show DataW.trod enc P w base spare held n fx.type [c0] = some y0 from h0)
      obtain ⟨b, e2, _, w2⟩ := DataW.trod_int T.tz (show DataW.trod enc P w base spare held n fz.type [c1] = some y1 from h1)
      simp only [List.cons.injEq, and_true] at e1 e2
      subst e1; subst e2
      exact ⟨⟨a, b⟩, ⟨bounds_i64 w1, bounds_i64 w2⟩, rfl⟩
theorem open_pts {t e : TypeId} {fx fz : Field} {fuel : Nat} {cs : List Value} {x : DataW H × List MemPlace} (ht : P.underlying t = some (.slice e)) (T : PtT P e fx fz) (h : DataW.trod enc P w base spare held fuel t cs = some x) :
    ∃ (a : Option Addr) (l : List Pt) (cap : Nat), cs = [.slice a l.length cap] ∧ Has w (Pts a l) ∧ l.length ≤ cap ∧ ∀ p ∈ l, PtIn p := by
  rcases Go.Deep.open_slice ht h with ⟨rfl, _⟩ | ⟨a, len, cap, m, n, D, Pl, rfl, hb, hl, hm, hmm, hx, hi⟩
  · exact ⟨none, [], 0, rfl, has_nil, Nat.le_refl _, fun p hp => by cases hp⟩
  · have hlm : len ≤ m := by rw [hmm]; split <;> omega
    obtain ⟨l, hll, hq⟩ := list_of (Q := fun i (p : Pt) => PtIn p ∧ w.cell? (a.add (i * 2)) = some (.int .i64 p.x) ∧ w.cell? (a.add (i * 2 + 1)) = some (.int .i64 p.z)) len (fun i hil => by
      obtain ⟨cs', hc, ht'⟩ := hi i (by omega)
      obtain ⟨p, hp, rfl⟩ := open_pt T ht'
      rw [T.c] at hc
      obtain ⟨_, _, hat⟩ := World.cells?_some hc
      have h0 := hat 0 (by decide)
      have h1 := hat 1 (by decide)
      rw [Go.Deep.add_add] at h0 h1
      exact ⟨p, hp, h0, h1⟩)
    refine ⟨some a, l, cap, by rw [hll], ?_, by omega, fun p hp => ?_⟩
    · cases l with
      | nil => exact has_nil
      | cons p0 r =>
        have hc0 := (hq 0 p0 rfl).2.1
        obtain ⟨b, off, sp⟩ := a
        have hsp : sp = none := by
          cases sp with
          | none => rfl
          | some s =>
            exfalso
            simp only [World.cell?, Addr.add] at hc0
            split at hc0 <;> simp_all
        subst hsp
        have hbs : b < w.heap.size := by
          rcases Nat.lt_or_ge b w.heap.size with h | h
          · exact h
          · exfalso
            rw [addr_add] at hc0
            simp [World.cell?, Array.getElem?_eq_none h] at hc0
        refine ⟨(· = b), fun k hk => by rw [hk]; exact hbs, .inr ⟨b, off, rfl, fun _ => Iff.rfl, fun i p hp => ?_⟩⟩
        obtain ⟨_, h1, h2⟩ := hq i p hp
        rw [addr_add] at h1 h2
        exact ⟨h1, by rw [Nat.add_assoc]; exact h2, trivial⟩
    · obtain ⟨i, hi', rfl⟩ := List.getElem_of_mem hp
      exact (hq i _ (by simp [hi'])).1
/-- P has stones at type t -/
structure StnT (P : Program) (t tl e : TypeId) (f0 f1 f2 f3 f4 fx fz : Field) : Prop where
  u : P.underlying t = some (.struct #[f0, f1, f2, f3, f4])
  o0 : f0.offset = 0
  o1 : f1.offset = 1
  o2 : f2.offset = 2
  o3 : f3.offset = 3
  o4 : f4.offset = 4
  t0 : P.underlying f0.type = some .string
  t1 : f1.type = tl
  ul : P.underlying tl = some (.slice e)
  t2 : P.underlying f2.type = some (.int .i64)
  t3 : P.underlying f3.type = some (.int .i64)
  t4 : f4.type = e
  c0 : P.cellsOf f0.type = 1
  c1 : P.cellsOf tl = 1
  c2 : P.cellsOf f2.type = 1
  c3 : P.cellsOf f3.type = 1
  c : P.cellsOf t = 6
  pt : PtT P e fx fz
structure StnIn (s : Stn) : Prop where
  name : s.name.size ≤ maxLen
  shape : ∀ p ∈ s.shape, PtIn p
  depth : I64 s.depth
  density : I64 s.density
  grain : PtIn s.grain
theorem open_stn {t tl e : TypeId} {f0 f1 f2 f3 f4 fx fz : Field} {fuel : Nat} {cs : List Value} {x : DataW H × List MemPlace} (T : StnT P t tl e f0 f1 f2 f3 f4 fx fz) (h : DataW.trod enc P w base spare held fuel t cs = some x) :
    ∃ (s : Stn) (a : Option Addr) (cap : Nat), StnIn s ∧ Has w (Pts a s.shape) ∧ s.shape.length ≤ cap ∧ cs = [.string s.name, .slice a s.shape.length cap, .int .i64 s.depth, .int .i64 s.density, .int .i64 s.grain.x, .int .i64 s.grain.z] := by
  obtain ⟨ys, n, _, _, hlen, hyl, hf⟩ := DataW.trod_struct T.u h
  rw [T.c] at hlen
  match cs, hlen with
  | [c0, c1, c2, c3, c4, c5], _ =>
    match ys, hyl with
    | [y0, y1, y2, y3, y4], _ =>
      have h0 := hf 0 f0 rfl
      have h1 := hf 1 f1 rfl
      have h2 := hf 2 f2 rfl
      have h3 := hf 3 f3 rfl
      have h4 := hf 4 f4 rfl
      rw [T.o0, T.c0] at h0
      rw [T.o1, T.t1, T.c1] at h1
      rw [T.o2, T.c2] at h2
      rw [T.o3, T.c3] at h3
      rw [T.o4, T.t4, T.pt.c] at h4
      obtain ⟨s, e0, _, w0⟩ := DataW.trod_string T.t0 (show DataW.trod enc P w base spare held n f0.type [c0] = some y0 from h0)
      obtain ⟨a, l, cap, e1, hp, hc, hin⟩ := open_pts T.ul T.pt (show DataW.trod enc P w base spare held n tl [c1] = some y1 from h1)
      obtain ⟨d, e2, _, w2⟩ := DataW.trod_int T.t2 (show DataW.trod enc P w base spare held n f2.type [c2] = some y2 from h2)
      obtain ⟨k, e3, _, w3⟩ := DataW.trod_int T.t3 (show DataW.trod enc P w base spare held n f3.type [c3] = some y3 from h3)
      obtain ⟨g, wg, e4⟩ := open_pt T.pt (show DataW.trod enc P w base spare held n e [c4, c5] = some y4 from h4)
      simp only [List.cons.injEq, and_true] at e0 e1 e2 e3 e4
      obtain ⟨e4, e5⟩ := e4
      subst e0; subst e1; subst e2; subst e3; subst e4; subst e5
      exact ⟨⟨s, l, d, k, g⟩, a, cap, ⟨w0, hin, bounds_i64 w2, bounds_i64 w3, wg⟩, hp, hc, rfl⟩
end
section
variable {H : Type} {enc : TypeId × Value → H} {P : Program}
theorem trodAll_stays (hl : laidOutB P = true) {W W' : World} {sp' : Nat → Bool} : ∀ (ts : List TypeId) (vs : List Value) (ds : List (DataW H)) (ps : List MemPlace), (∀ t ∈ ts, P.readableRec t = true ∧ t < P.types.size) →
    DataW.TrodAll enc P W 0 (fun _ => true) true ts vs ds ps → (∀ p ∈ ps, W.sameAt W' p) → (∀ p ∈ ps, sp' p.block = true) → DataW.TrodAll enc P W' 0 sp' true ts vs ds ps
  | [], [], [], ps, _, h, _, _ => h
  | t :: ts, v :: vs, d :: ds, ps, hr, ⟨p, q, h1, h2, he⟩, hs, hsp => by
    subst he
    exact ⟨p, q, Trod_stays hl (hr t (List.mem_cons_self ..)).1 (hr t (List.mem_cons_self ..)).2 h1 (fun x hx => hs x (List.mem_append_left _ hx)) (fun x hx => hsp x (List.mem_append_left _ hx)),
      trodAll_stays hl ts vs ds q (fun x hx => hr x (List.mem_cons_of_mem _ hx)) h2 (fun x hx => hs x (List.mem_append_right _ hx)) (fun x hx => hsp x (List.mem_append_right _ hx)), rfl⟩
  | [], [], _ :: _, _, _, h, _, _ => h.elim
  | [], _ :: _, _, _, _, h, _, _ => h.elim
  | _ :: _, [], _, _, _, h, _, _ => h.elim
  | _ :: _, _ :: _, [], _, _, h, _, _ => h.elim
theorem law_post {f : Func} {s : ChangeSpec} {apart fresh handsOn again : Bool} {W W' : World} {args : Array Value} {ds : List (DataW H)} {before : List MemPlace} {tb : TypeId} (hl : laidOutB P = true)
    (hW : DataW.Whole enc P f.params.toList s.vars apart W args.toList ds [] before) (hvars : s.vars = []) (hread : f.params.toList.all (fun t => P.readableRec t && decide (t < P.types.size)) = true)
    (hfn : s.fn H (ds ++ []) = { results := [.lit (.bool true)], args := ds }) (hrt : f.resultTypes = #[tb]) (htb : P.underlying tb = some .bool) (hb : Ext W W') : s.post enc P f apart fresh handsOn again W args (.bool true) W' := by
  have hlt : ∀ p ∈ before, p.block < W.heap.size := fun p hp => hW.lt p hp
  have hold : ∀ p ∈ before, (fun b => decide (b < W.heap.size)) p.block = true := fun p hp => by simpa using hlt p hp
  have hW0 := hW
  obtain ⟨p, q, hA, hV, hpq, hz, hn⟩ := hW
  rw [hvars] at hV
  obtain ⟨_, rfl⟩ := trodVars_none hV
  rw [List.append_nil] at hpq
  subst hpq
  have hr : ∀ t ∈ f.params.toList, P.readableRec t = true ∧ t < P.types.size := fun t ht => by
    have := List.all_eq_true.1 hread t ht
    simpa using this
  have hsame : ∀ x ∈ before, W.sameAt W' x := fun x hx => by
    have hlx := hlt x hx
    cases x with
    | cell b off => exact hb.below.cell (p := ⟨b, off, none⟩) hlx
    | map b => exact hb.block b hlx
  have hargs : ∀ sp : Nat → Bool, (∀ p ∈ before, sp p.block = true) → DataW.TrodAll enc P W' 0 sp true f.params.toList args.toList ds before := fun sp hsp => trodAll_stays hl _ _ _ _ hr hA hsame hsp
  have hres : ∀ (b : Nat) (sp : Nat → Bool) (hd : Bool), DataW.TrodAll enc P W' b sp hd f.resultTypes.toList ((Value.bool true).resultList f.resultTypes.size) [.lit (.bool true)] [] := fun b sp hd => by
    rw [hrt]
    exact ⟨[], [], ⟨1, by simp [DataW.trod, Value.cells, htb]⟩, rfl, rfl⟩
  refine ⟨ds, [], before, [], before, [], hW0, ?_, ?_, ?_, World.keptBut_mono (fun p hp => ⟨hp, Or.inr (Or.inl hp)⟩) (hb.below.frame (· ∈ before)), fun _ => ?_⟩
  · rw [hfn]; exact hres _ _ _
  · rw [hfn]; exact hargs _ hold
  · rw [hfn, hvars]; rfl
  · refine ⟨fun j t r ht hrr => ?_, ds.cons (.lit (.bool true)), [], before, ⟨before, [], ?_, by rw [hvars]; rfl, by simp, ?_, ?_⟩, fun x hx _ => hx⟩
    · rw [hrt] at ht hrr
      have h0 : t = tb := by
        rcases j with _ | j
        · simpa using ht.symm
        · simp at ht
      have h1 : r = .bool true := by
        rcases j with _ | j
        · simpa [Value.resultList] using hrr.symm
        · simp at ht
      subst h0; subst h1
      exact okWide_bool_mk htb true
    · have h1 := trodAll_append (hargs (fun _ => true) (fun _ _ => rfl)) (hres 0 (fun _ => true) true)
      simpa using h1
    · intro b off hp
      rw [hb.below.frozen (hlt _ hp)]
      exact hz b off (by simpa using hp)
    · intro ha
      have := hn ha
      simpa using this
end
theorem funcs_at {P : Program} {W : World} {l : List (String × DataW Unit)} (h : laidMetH P l W) {n : String} {x d : DataW Unit} (hm : (n, x) ∈ l) (hh : x.handleName?.isSome = true) (hd : x.funcsIn? = some d) : funcsAt P W n d := by
  unfold laidMetH at h
  have hmem : (n, x) ∈ l.filter fun x => x.2.handleName?.isSome := List.mem_filter.2 ⟨hm, hh⟩
  split at h
  · rename_i hf
    rw [hf] at hmem; cases hmem
  · rename_i y ys hf
    rw [hf] at hmem
    have := h.2 _ hmem
    simp only [hd] at this
    exact this
end Go.K

namespace Go.K
open Go Go.RowKit
/-- the cells of a variable of the program -/
def VarR (b : Nat) (cs : Array Value) : Res where
  A B w := (∀ k, B k ↔ k = b) ∧ ∃ t fz, w.heap[b]? = some (.cells cs t fz)
  loc _ _ _ h hA := ⟨hA.1, let ⟨t, fz, hb⟩ := hA.2; ⟨t, fz, (h b ((hA.1 b).2 rfl)).trans hb⟩⟩
theorem var_of {P : Program} {w : World} {b : Nat} {cs : Array Value} {n : String} (hn : P.globalNamed n = some b) (h : Has w (VarR b cs)) : w.var? P n = some cs := by
  obtain ⟨B, _, _, t, fz, hb⟩ := h
  unfold World.var?
  rw [hn]
  simp [hb]
theorem var_has {P : Program} {w : World} {b : Nat} {cs : Array Value} {n : String} (hn : P.globalNamed n = some b) (h : w.var? P n = some cs) : Has w (VarR b cs) := by
  unfold World.var? at h
  rw [hn] at h
  simp only [Option.bind_some] at h
  split at h
  · rename_i cs' t fz hb
    cases h
    have hlt : b < w.heap.size := by
      rcases Nat.lt_or_ge b w.heap.size with h' | h'
      · exact h'
      · simp [Array.getElem?_eq_none h'] at hb
    exact ⟨(· = b), fun k hk => by rw [hk]; exact hlt, fun _ => Iff.rfl, t, fz, hb⟩
  · cases h
theorem ext_grow {w : World} {k : Nat} {os : Array Obj} : Ext w (Go.Sort.grow (w.drewN k) os) := by
  refine ⟨rfl, ⟨rfl, Nat.le_add_right _ _⟩, rfl, ?_, fun i hi => ?_⟩
  · show w.heap.size ≤ (w.heap ++ os).size
    simp
  · show (w.heap ++ os)[i]? = _
    rw [Array.getElem?_append, if_pos hi]
abbrev pow10V : Array Value := (Lib.pow10Tab.map fun z => Value.int .u64 z).toArray
/-- a number's text -/
def itoaB (n : Int) : ByteArray := ⟨(Lib.itoa n).toArray⟩
open Go.Proofs in
theorem itoa_pure {P : Program} {ρ : Go.Shelf.Ren} (L : LaysM.n171 P ρ) {b : Nat} (hn : P.globalNamed "internal/strconv.uint64pow10" = some b) (n : Int) (w : World) (h0 : -9223372036854775808 ≤ n) (h1 : n ≤ 9223372036854775807) (hv : Has w (VarR b pow10V)) :
    Calls P (ρ.f 171) #[.int .i64 n] w (Pure (.string (itoaB n)) w) := by
  refine (Any.strconv_Itoa L n h0 h1 w (var_of hn hv)).mono ?_
  rintro e w' ⟨rfl, k, os, rfl⟩
  exact ⟨rfl, ext_grow⟩
end Go.K

namespace Go.Proofs.YtmpaebfjnjmmlaaGreatDoor
open Go Go.K Go.Stn Go.ChangeShapes Go.WideShapes Go.ChangeAt Go.RowKit
theorem own : ownKnob Tryz.prog.godebug = none := by kernel_rfl
theorem laidOut : laidOutB Tryz.prog = true := by kernel_rfl
theorem gWays : Tryz.prog.globalNamed "copestone/stone.ways" = some 0 := by kernel_rfl
theorem tWays : (Tryz.prog.globals[0]?).map (·.type) = some 109 := by kernel_rfl
abbrev wayFns : List Value := [.func (.func 194) #[] #[], .func (.func 195) #[] #[], .func (.func 196) #[] #[], .func (.func 197) #[] #[]]
set_option maxRecDepth 100000 in
theorem of_laid {W : World} {l : List (String × DataW Unit)} (h : laidMetH Tryz.prog l W) (hm : ("copestone/stone.ways", Rows.laid_copestone_stone_ways) ∈ l) : Has W (Elems (some ⟨0, 0, none⟩) 1 encVal wayFns) := by
  obtain ⟨g, t, cs, fuel, p, hg, ht, hv, hd⟩ := funcs_at h hm rfl rfl
  obtain rfl := Option.some.inj (gWays.symm.trans hg)
  obtain rfl := Option.some.inj (tWays.symm.trans ht)
  obtain ⟨xs, m, _, hx, hlen, hn, hel⟩ := DataW.trod_array Tryz.underlying109 hd
  have c108 : Tryz.prog.cellsOf 108 = 1 := by kernel_rfl
  have c109 : Tryz.prog.cellsOf 109 = 4 := by kernel_rfl
  rw [c109] at hlen
  rw [c108] at hel
  simp only [Prod.mk.injEq] at hx
  have hx1 := hx.1
  obtain ⟨l⟩ := cs
  match l, hlen, xs, hn with
  | [v0, v1, v2, v3], _, [x0, x1, x2, x3], _ =>
    have hx2 : DataW.agg [DataW.held _, DataW.held _, DataW.held _, DataW.held _] = DataW.agg [x0.1, x1.1, x2.1, x3.1] := hx1
    simp only [DataW.agg.injEq, List.cons.injEq, and_true] at hx2
    obtain ⟨y0, y1, y2, y3⟩ := hx2
    have f0 : v0 = .func (.func 194) #[] #[] := func_of_trod (q := x0.2) Tryz.underlying108 (by kernel_rfl) (by have := hel 0 (by decide); rw [show x0 = (x0.1, x0.2) from rfl, ← y0] at this; exact this)
    have f1 : v1 = .func (.func 195) #[] #[] := func_of_trod (q := x1.2) Tryz.underlying108 (by kernel_rfl) (by have := hel 1 (by decide); rw [show x1 = (x1.1, x1.2) from rfl, ← y1] at this; exact this)
    have f2 : v2 = .func (.func 196) #[] #[] := func_of_trod (q := x2.2) Tryz.underlying108 (by kernel_rfl) (by have := hel 2 (by decide); rw [show x2 = (x2.1, x2.2) from rfl, ← y2] at this; exact this)
    have f3 : v3 = .func (.func 197) #[] #[] := func_of_trod (q := x3.2) Tryz.underlying108 (by kernel_rfl) (by have := hel 3 (by decide); rw [show x3 = (x3.1, x3.2) from rfl, ← y3] at this; exact this)
    subst f0; subst f1; subst f2; subst f3
    have hc := World.var?_cell hg hv
    have hb : 0 < W.heap.size := by
      rcases Nat.lt_or_ge 0 W.heap.size with h | h
      · exact h
      · exfalso
        have := hc 0
        simp [World.cell?, Array.getElem?_eq_none h] at this
    refine ⟨(· = 0), fun k hk => by rw [hk]; exact hb, .inr ⟨0, 0, rfl, fun _ => Iff.rfl, fun i x hi => ?_⟩⟩
    refine ⟨?_, trivial⟩
    have := hc i
    rw [show 0 + i * 1 = i from by omega, this]
    simpa using hi
theorem stnT : ∃ f0 f1 f2 f3 f4 fx fz, StnT Tryz.prog 28 24 26 f0 f1 f2 f3 f4 fx fz :=
  ⟨_, _, _, _, _, _, _, Tryz.underlying28, rfl, rfl, rfl, rfl, rfl, by kernel_rfl, rfl, Tryz.underlying24, by kernel_rfl, by kernel_rfl, rfl, by kernel_rfl, by kernel_rfl, by kernel_rfl, by kernel_rfl, by kernel_rfl,
    ⟨Tryz.underlying26, rfl, rfl, by kernel_rfl, by kernel_rfl, by kernel_rfl, by kernel_rfl, by kernel_rfl⟩⟩
theorem laid_plain {W : World} {l : List (String × DataW Unit)} (h : laidMetH Tryz.prog l W) {n : String} {d : DataW Unit} (hm : (n, d) ∈ l) (hd : d.handleName?.isNone = true) : Lib.VarReads Tryz.prog W n d := by
  unfold laidMetH at h
  split at h
  · exact Lib.laidMet.reads h hm
  · exact Lib.laidMet.reads h.1 (List.mem_filter.2 ⟨hm, hd⟩)
set_option maxRecDepth 100000 in
theorem pow10_of_laid {W : World} {l : List (String × DataW Unit)} (h : laidMetH Tryz.prog l W) (hm : ("internal/strconv.uint64pow10", Rows.laid_internal_strconv_uint64pow10) ∈ l) : Has W (VarR 2 pow10V) := by
  have hg : Tryz.prog.globalNamed "internal/strconv.uint64pow10" = some 2 := by kernel_rfl
  obtain ⟨g, t, cs, fuel, p, hg', ht, hv, hd⟩ := laid_plain h hm (by kernel_rfl)
  obtain rfl := Option.some.inj (hg.symm.trans hg')
  obtain rfl := Option.some.inj ((show (Tryz.prog.globals[2]?).map (·.type) = some 184 by kernel_rfl).symm.trans ht)
  have hc := Lib.cells_of_tab (k := .u64) (zs := Lib.pow10Tab) Tryz.underlying184 Tryz.underlying154 (by kernel_rfl) (by kernel_rfl) (show DataW.trod (fun _ => ()) Tryz.prog W 0 (fun _ => true) false fuel 184 cs.toList = some (Lib.tabData .u64 Lib.pow10Tab, p) from hd)
  refine var_has hg ?_
  rw [hv, pow10V, ← hc]
end Go.Proofs.YtmpaebfjnjmmlaaGreatDoor

namespace Go.Proofs.YtmpaebfjnjmmlaaGreatDoor
open Go Go.K Go.Stn Go.ChangeShapes Go.WideShapes Go.ChangeAt Go.RowKit
theorem stone_fits {H : Type} {enc : TypeId × Value → H} {P : Program} {w : World} {base : Nat} {spare : Nat → Bool} {held : Bool} {t tl e : TypeId} {f0 f1 f2 f3 f4 fx fz : Field} {s : Stn} {a : Option Addr} {cap : Nat} {d : DataW H} {p : List MemPlace} (T : StnT P t tl e f0 f1 f2 f3 f4 fx fz)
    (h : DataW.Trod enc P w base spare held t (stnV s a cap) d p) {ts : List TypeId} {r : List (DataW H)} (hw : (DataW.weightsEach P (t :: ts) (d :: r)).all (· ≤ reachBytes) = true) : Fits s.name.size := by
  obtain ⟨fuel, hf⟩ := h
  obtain ⟨ys, n, _, hx, hlen, hyl, hg⟩ := DataW.trod_struct T.u hf
  match ys, hyl with
  | [y0, y1, y2, y3, y4], _ =>
    have h0 := hg 0 f0 rfl
    rw [T.o0, T.c0] at h0
    obtain ⟨s', e0, ey, w0⟩ := DataW.trod_string T.t0 (show DataW.trod enc P w base spare held n f0.type [.string s.name] = some y0 from h0)
    simp only [List.cons.injEq, Value.string.injEq, and_true] at e0
    subst e0
    simp only [Prod.mk.injEq] at hx
    have hd := hx.1
    subst hd
    have hb : DataW.weightsEach P (t :: ts) (DataW.agg (List.map (fun x => x.1) [y0, y1, y2, y3, y4]) :: r) = s.name.size :: ((DataW.weightsEach P [f1.type, f2.type, f3.type, f4.type] [y1.1, y2.1, y3.1, y4.1]) ++ DataW.weightsEach P ts r) := by
      rw [DataW.weightsEach, DataW.weights, T.u]
      simp only [List.map_cons, List.map_nil, ey]
      show DataW.weightsEach P (f0.type :: [f1.type, f2.type, f3.type, f4.type]) (DataW.lit (Lit.string s.name.data.toList) :: [y1.1, y2.1, y3.1, y4.1]) ++ DataW.weightsEach P ts r = _
      rw [DataW.weightsEach, DataW.weights]
      rfl
    rw [hb] at hw
    simp only [List.all_cons, Bool.and_eq_true, decide_eq_true_eq] at hw
    have := hw.1
    unfold reachBytes at this
    unfold Fits
    omega
end Go.Proofs.YtmpaebfjnjmmlaaGreatDoor

namespace Go.Stn
open Go Go.K Go.RowKit
theorem W_in {n : Int} (h1 : -9223372036854775808 ≤ n) (h2 : n ≤ 9223372036854775807) : W n = n := wrap64_in h1 h2
theorem byteI_get {s : ByteArray} {p : Nat} (h : p < s.size) : byteI s (p : Int) = ((s.get! p).toNat : Int) := by
  unfold byteI
  have h1 : s[((p : Nat) : Int).toNat]? = some (s[p]'h) := by
    rw [show ((p : Nat) : Int).toNat = p from by omega]
    exact getElem?_pos s p h
  rw [h1]
  simp only [Option.getD_some]
  have h2 : s.get! p = s[p]'h := by
    cases s with
    | mk d =>
      simp only [ByteArray.get!]
      exact getElem!_pos d p h
  rw [h2]
theorem odd_low {n : Nat} : oddR (n : Int) = oddB (n : Int) := by
  unfold oddR oddB
  rw [Bool.eq_iff_iff]
  simp <;> omega
theorem odd_high {n : Int} (h : 128 ≤ n) : oddR n = true ∧ oddB n = true := by
  unfold oddR oddB
  simp
  omega
theorem idxRune_iff (s : ByteArray) : ∀ (m p : Nat), s.size - p = m → (0 ≤ idxRune oddR s p ↔ ∃ j, p ≤ j ∧ j < s.size ∧ oddB (byteI s (j : Nat)) = true) := by
  intro m
  induction m using Nat.strongRecOn with
  | _ m ih =>
    intro p hm
    by_cases hp : p < s.size
    · by_cases hlow : (s.get! p).toNat < 128
      · have hd := decode_low hlow
        have hb := byteI_get hp
        cases ho : oddB (byteI s (p : Int)) with
        | true =>
          rw [idxRune_hit hp (by rw [hd]; rw [hb] at ho; rw [odd_low]; exact ho)]
          exact ⟨fun _ => ⟨p, Nat.le_refl _, hp, ho⟩, fun _ => by omega⟩
        | false =>
          rw [idxRune_next hp (by rw [hd]; rw [hb] at ho; rw [odd_low]; exact ho), hd]
          rw [ih (s.size - (p + 1)) (by omega) (p + 1) rfl]
          constructor
          · rintro ⟨j, h1, h2, h3⟩; exact ⟨j, by omega, h2, h3⟩
          · rintro ⟨j, h1, h2, h3⟩
            refine ⟨j, ?_, h2, h3⟩
            by_cases hj : j = p
            · subst hj; rw [ho] at h3; cases h3
            · omega
      · have hd := decode_high hlow
        rw [idxRune_hit hp (odd_high (by omega)).1]
        refine ⟨fun _ => ⟨p, Nat.le_refl _, hp, ?_⟩, fun _ => by omega⟩
        rw [byteI_get hp]
        exact (odd_high (by omega)).2
    · rw [idxRune_end hp]
      refine ⟨fun h => by omega, ?_⟩
      rintro ⟨j, h1, h2, _⟩; omega
theorem named_eq (s : ByteArray) : namedB s = rnamedB s := by
  unfold namedB rnamedB
  have h := idxRune_iff s s.size 0 (by omega)
  have : (!decide (0 ≤ idxRune oddR s 0)) = allI s.size (fun i => !oddB (byteI s i)) := by
    rw [Bool.eq_iff_iff, allI_iff]
    simp only [Bool.not_eq_true', decide_eq_false_iff_not, h]
    constructor
    · intro hn i hi
      cases ho : oddB (byteI s (i : Int)) with
      | false => rfl
      | true => exact absurd ⟨i, Nat.zero_le _, hi, ho⟩ hn
    · rintro ha ⟨j, _, h2, h3⟩
      have := ha j h2
      rw [h3] at this; cases this
  rw [this, Bool.and_comm]
def inR (b : Int) (p : Pt) : Prop := -b ≤ p.x ∧ p.x ≤ b ∧ -b ≤ p.z ∧ p.z ≤ b
theorem mul_bd {a b m n : Int} (h1 : -m ≤ a) (h2 : a ≤ m) (h3 : -n ≤ b) (h4 : b ≤ n) : -(m * n) ≤ a * b ∧ a * b ≤ m * n := by
  have hm : 0 ≤ m := by omega
  have hn : 0 ≤ n := by omega
  have h : a.natAbs * b.natAbs ≤ m.natAbs * n.natAbs := Nat.mul_le_mul (by omega) (by omega)
  have e1 : ((a * b).natAbs : Int) ≤ m * n := by
    rw [Int.natAbs_mul]
    have : ((m.natAbs * n.natAbs : Nat) : Int) = m * n := by rw [Int.natCast_mul, Int.natAbs_of_nonneg hm, Int.natAbs_of_nonneg hn]
    omega
  omega
def subZ (p q : Pt) : Pt := ⟨p.x - q.x, p.z - q.z⟩
def crossZ (p q : Pt) : Int := p.x * q.z - p.z * q.x
def dotZ (p q : Pt) : Int := p.x * q.x + p.z * q.z
def sideZ (p q r : Pt) : Int := (q.x - p.x) * (r.z - p.z) - (q.z - p.z) * (r.x - p.x)
theorem subW_eq {p q : Pt} {b : Int} (hb : b ≤ 1000000000) (hp : inR b p) (hq : inR b q) : subW p q = subZ p q := by
  unfold inR at hp hq
  unfold subW subZ
  rw [W_in (by omega) (by omega), W_in (by omega) (by omega)]
theorem subZ_in {p q : Pt} {b : Int} (hp : inR b p) (hq : inR b q) : inR (b + b) (subZ p q) := by
  unfold inR subZ at *
  dsimp only
  omega
theorem crossW_eq {p q : Pt} {b c : Int} (hb : b ≤ 1000000000) (hc : c ≤ 1000000000) (hp : inR b p) (hq : inR c q) : crossW p q = crossZ p q := by
  unfold inR at hp hq
  obtain ⟨a1, a2⟩ := mul_bd hp.1 hp.2.1 hq.2.2.1 hq.2.2.2
  obtain ⟨a3, a4⟩ := mul_bd hp.2.2.1 hp.2.2.2 hq.1 hq.2.1
  have hm : b * c ≤ 1000000000 * 1000000000 := Int.mul_le_mul hb hc (by omega) (by omega)
  unfold crossW crossZ
  rw [W_in (n := p.x * q.z) (by omega) (by omega), W_in (n := p.z * q.x) (by omega) (by omega), W_in (by omega) (by omega)]
theorem dotW_eq {p q : Pt} {b c : Int} (hb : b ≤ 1000000000) (hc : c ≤ 1000000000) (hp : inR b p) (hq : inR c q) : dotW p q = dotZ p q := by
  unfold inR at hp hq
  obtain ⟨a1, a2⟩ := mul_bd hp.1 hp.2.1 hq.1 hq.2.1
  obtain ⟨a3, a4⟩ := mul_bd hp.2.2.1 hp.2.2.2 hq.2.2.1 hq.2.2.2
  have hm : b * c ≤ 1000000000 * 1000000000 := Int.mul_le_mul hb hc (by omega) (by omega)
  unfold dotW dotZ
  rw [W_in (n := p.x * q.x) (by omega) (by omega), W_in (n := p.z * q.z) (by omega) (by omega), W_in (by omega) (by omega)]
theorem turn_ring (p q r : Pt) : crossZ (subZ q p) (subZ r q) = sideZ p q r := by
  unfold crossZ subZ sideZ
  dsimp only
  grind
theorem turnW_eq {p q r : Pt} {b : Int} (hb : b ≤ 100000000) (hp : inR b p) (hq : inR b q) (hr : inR b r) : turnW p q r = sideZ p q r := by
  unfold turnW
  rw [subW_eq (by omega) hq hp, subW_eq (by omega) hr hq, crossW_eq (b := b + b) (c := b + b) (by omega) (by omega) (subZ_in hq hp) (subZ_in hr hq), turn_ring]
theorem sideW_eq {p q r : Pt} {b : Int} (hb : b ≤ 100000000) (hp : inR b p) (hq : inR b q) (hr : inR b r) : sideW p q r = sideZ p q r := by
  unfold inR at hp hq hr
  unfold sideW sideZ
  have e1 : W (q.x - p.x) = q.x - p.x := W_in (by omega) (by omega)
  have e2 : W (r.z - p.z) = r.z - p.z := W_in (by omega) (by omega)
  have e3 : W (q.z - p.z) = q.z - p.z := W_in (by omega) (by omega)
  have e4 : W (r.x - p.x) = r.x - p.x := W_in (by omega) (by omega)
  rw [e1, e2, e3, e4]
  obtain ⟨a1, a2⟩ := mul_bd (a := q.x - p.x) (b := r.z - p.z) (m := b + b) (n := b + b) (by omega) (by omega) (by omega) (by omega)
  obtain ⟨a3, a4⟩ := mul_bd (a := q.z - p.z) (b := r.x - p.x) (m := b + b) (n := b + b) (by omega) (by omega) (by omega) (by omega)
  have hm : (b + b) * (b + b) ≤ 200000000 * 200000000 := Int.mul_le_mul (by omega) (by omega) (by omega) (by omega)
  rw [W_in (n := (q.x - p.x) * (r.z - p.z)) (by omega) (by omega), W_in (n := (q.z - p.z) * (r.x - p.x)) (by omega) (by omega), W_in (by omega) (by omega)]
theorem side_cyc (p q r : Pt) : sideZ p q r = sideZ q r p := by
  unfold sideZ
  grind
theorem far_in {p : Pt} (h : farB p = false) : 0 ≤ p.x ∧ p.x ≤ 2000 ∧ 0 ≤ p.z ∧ p.z ≤ 2000 := by
  unfold farB at h
  simp at h
  omega
theorem near {l : List Pt} (h : l.any farB = false) {p : Pt} (hp : p ∈ l) : farB p = false := by
  cases hf : farB p with
  | false => rfl
  | true => rw [List.any_eq_true.2 ⟨p, hp, hf⟩] at h; cases h
/-- corner number i, counted round and round -/
def cor (l : List Pt) (i : Nat) : Pt := l.getD (i % l.length) default
theorem cor_mem {l : List Pt} (h : 0 < l.length) (i : Nat) : cor l i ∈ l := by
  have : i % l.length < l.length := Nat.mod_lt _ h
  unfold cor
  simp [this]
theorem atL_cor {l : List Pt} {i : Int} {n : Nat} (h : i + (l.length : Int) = (n : Int)) : atL l i = cor l n := by
  unfold atL cor
  rw [h]
  rfl
theorem nextL_cor {l : List Pt} (i : Nat) : nextL l (i : Int) = cor l (i + 1) := by
  unfold nextL cor
  rfl
theorem ptAt_cor {l : List Pt} {i : Nat} (h : i < l.length) : ptAt l (i : Int) = cor l i := by
  unfold ptAt cor
  rw [Nat.mod_eq_of_lt h]
  rfl
theorem cor_add {l : List Pt} (i : Nat) : cor l (i + l.length) = cor l i := by
  unfold cor
  rw [Nat.add_mod_right]
/-- all other corners lie to the left of each edge -/
def Cvx (l : List Pt) : Prop := ∀ i k, i < l.length → 2 ≤ k → k < l.length → 0 < sideZ (cor l i) (cor l (i + 1)) (cor l (i + k))
theorem cor_in {l : List Pt} (hf : l.any farB = false) (h : 0 < l.length) (i : Nat) : inR 2000 (cor l i) := by
  have := far_in (near hf (cor_mem h i))
  unfold inR
  omega
theorem convex_iff {l : List Pt} (hf : l.any farB = false) (h3 : 3 ≤ l.length) (h12 : l.length ≤ 12) : convexB l = true ↔ Cvx l := by
  have hin := cor_in hf (by omega)
  have e1 : ∀ i : Nat, i < l.length → cvx1 l i = decide (0 < sideZ (cor l (i + (l.length - 1))) (cor l i) (cor l (i + 1))) := fun i hi => by
    unfold cvx1
    rw [atL_cor (n := i + (l.length - 1)) (by omega), ptAt_cor hi, atL_cor (i := (i : Int) + 1) (n := i + 1 + l.length) (by omega), cor_add]
    rw [turnW_eq (b := 2000) (by omega) (hin _) (hin _) (hin _)]
  have e2 : ∀ i k : Nat, i < l.length → cvx2 l i (k : Nat) = decide (0 < sideZ (cor l i) (cor l (i + 1)) (cor l (i + k))) := fun i k hi => by
    unfold cvx2
    rw [ptAt_cor hi, atL_cor (i := (i : Int) + 1) (n := i + 1 + l.length) (by omega), atL_cor (n := i + k + l.length) (by omega), cor_add, cor_add]
    rw [turnW_eq (b := 2000) (by omega) (hin _) (hin _) (hin _)]
  unfold convexB
  rw [decide_eq_true (by omega), decide_eq_true (by omega), Bool.and_self, Bool.true_and, allI_iff]
  constructor
  · intro h i k hi hk2 hk
    have hi2 := h i hi
    unfold cvxI at hi2
    rw [Bool.and_eq_true, allI_iff] at hi2
    by_cases hkn : k = l.length - 1
    · have := hi2.1
      rw [e1 i hi, decide_eq_true_eq, side_cyc] at this
      rw [hkn]
      exact this
    · have := hi2.2 (k - 2) (by omega)
      rw [show k - 2 + 2 = k from by omega, e2 i k hi, decide_eq_true_eq] at this
      exact this
  · intro h i hi
    unfold cvxI
    rw [Bool.and_eq_true, allI_iff]
    refine ⟨?_, fun k hk => ?_⟩
    · rw [e1 i hi, decide_eq_true_eq, side_cyc]
      exact h i (l.length - 1) hi (by omega) (by omega)
    · rw [e2 i (k + 2) hi, decide_eq_true_eq]
      exact h i (k + 2) hi (by omega) (by omega)
theorem rconvex_iff {l : List Pt} (hf : l.any farB = false) (h3 : 3 ≤ l.length) (h12 : l.length ≤ 12) : rconvexB l = true ↔ Cvx l := by
  have hin := cor_in hf (by omega)
  have e1 : ∀ i k : Nat, i < l.length → k < l.length → (rcv l i k = true ↔ (k = i ∨ k = (i + 1) % l.length ∨ 0 < sideZ (cor l i) (cor l (i + 1)) (cor l k))) := fun i k hi hk => by
    unfold rcv
    rw [ptAt_cor hi, nextL_cor, ptAt_cor hk, sideW_eq (b := 2000) (by omega) (hin _) (hin _) (hin _)]
    have e : ((i : Int) + 1).tmod (l.length : Int) = (((i + 1) % l.length : Nat) : Int) := rfl
    rw [e]
    simp only [Bool.or_eq_true, Bool.not_eq_true', Bool.and_eq_false_iff, Bool.not_eq_false', decide_eq_true_eq]
    omega
  unfold rconvexB
  have hz : (decide ((l.length : Int) < 3) || decide (12 < (l.length : Int))) = false := by
    rw [decide_eq_false (by omega), decide_eq_false (by omega)]; rfl
  rw [hz, Bool.not_false, Bool.true_and, allI_iff]
  unfold rcvI
  simp only [allI_iff]
  constructor
  · intro h i k hi hk2 hk
    have hlt : (i + k) % l.length < l.length := Nat.mod_lt _ (by omega)
    have := (e1 i ((i + k) % l.length) hi hlt).1 (h i hi _ hlt)
    have hc : cor l ((i + k) % l.length) = cor l (i + k) := by unfold cor; rw [Nat.mod_mod]
    rw [hc] at this
    rcases this with h1 | h1 | h1
    · exfalso
      rcases Nat.lt_or_ge (i + k) l.length with g | g
      · rw [Nat.mod_eq_of_lt g] at h1; omega
      · rw [Nat.mod_eq_sub_mod g, Nat.mod_eq_of_lt (by omega)] at h1; omega
    · exfalso
      rcases Nat.lt_or_ge (i + k) l.length with g | g
      · rw [Nat.mod_eq_of_lt g, Nat.mod_eq_of_lt (by omega)] at h1; omega
      · rw [Nat.mod_eq_sub_mod g, Nat.mod_eq_of_lt (by omega)] at h1
        rcases Nat.lt_or_ge (i + 1) l.length with g' | g'
        · rw [Nat.mod_eq_of_lt g'] at h1; omega
        · rw [Nat.mod_eq_sub_mod g', Nat.mod_eq_of_lt (by omega)] at h1; omega
    · exact h1
  · intro h i hi k hk
    rw [e1 i k hi hk]
    by_cases h1 : k = i
    · exact .inl h1
    · by_cases h2 : k = (i + 1) % l.length
      · exact .inr (.inl h2)
      · refine .inr (.inr ?_)
        rcases Nat.lt_or_ge i k with g | g
        · have : 2 ≤ k - i := by
            rw [Nat.mod_eq_of_lt (by omega)] at h2; omega
          have := h i (k - i) hi this (by omega)
          rwa [show i + (k - i) = k from by omega] at this
        · have h4 : 2 ≤ k + l.length - i := by
            rcases Nat.lt_or_ge (i + 1) l.length with g' | g'
            · omega
            · rw [Nat.mod_eq_sub_mod g', Nat.mod_eq_of_lt (by omega)] at h2; omega
          have := h i (k + l.length - i) hi h4 (by omega)
          rw [show i + (k + l.length - i) = k + l.length from by omega, cor_add] at this
          exact this
theorem convex_eq {l : List Pt} (hf : l.any farB = false) : convexB l = rconvexB l := by
  by_cases h : 3 ≤ l.length ∧ l.length ≤ 12
  · rw [Bool.eq_iff_iff, convex_iff hf h.1 h.2, rconvex_iff hf h.1 h.2]
  · have e1 : convexB l = false := by
      refine convex_no ?_
      rw [Bool.not_eq_true']
      by_cases h1 : 3 ≤ l.length
      · rw [decide_eq_false (p := (l.length : Int) ≤ 12) (by omega), Bool.and_false]
      · rw [decide_eq_false (p := 3 ≤ (l.length : Int)) (by omega), Bool.false_and]
    have e2 : rconvexB l = false := by
      refine rconvex_no ?_
      by_cases h1 : 3 ≤ l.length
      · rw [decide_eq_true (p := 12 < (l.length : Int)) (by omega), Bool.or_true]
      · rw [decide_eq_true (p := (l.length : Int) < 3) (by omega), Bool.true_or]
    rw [e1, e2]
def Lo (p q : Pt) : Prop := p.z < q.z ∨ (p.z = q.z ∧ p.x < q.x)
instance (p q : Pt) : Decidable (Lo p q) := by unfold Lo; exact inferInstance
theorem lower_lt {p q : Pt} : lowerW p q < 0 ↔ Lo p q := by
  unfold lowerW cmpI Lo
  simp only [orI]
  repeat' split
  all_goals omega
theorem Lo.trans {p q r : Pt} (h : Lo p q) (k : Lo q r) : Lo p r := by
  unfold Lo at *; omega
theorem Lo.irrefl {p : Pt} : ¬ Lo p p := by
  unfold Lo; omega
theorem Lo.total {p q : Pt} (h : ¬ Lo p q) (k : ¬ Lo q p) : p = q := by
  cases p; cases q
  unfold Lo at *
  simp only [Pt.mk.injEq]
  dsimp only at *
  omega
theorem Lo.of_not {p q r : Pt} (h : Lo p q) (k : ¬ Lo r q) : Lo p r := by
  unfold Lo at *; omega
theorem rfirst_test {p q : Pt} : (decide (p.z < q.z) || (decide (p.z = q.z) && decide (p.x < q.x))) = true ↔ Lo p q := by
  unfold Lo; simp
/-- the index of the first one of the lowest -/
theorem rfirstN_spec (l : List Pt) : ∀ n, n ≤ l.length → 0 < n → ∃ m : Nat, rfirstN l n = (m : Int) ∧ m < n ∧ (∀ j, j < n → ¬ Lo (l.getD j default) (l.getD m default)) ∧ ∀ j, j < m → Lo (l.getD m default) (l.getD j default) := by
  intro n
  induction n with
  | zero => intro _ h; omega
  | succ n ih =>
    intro hn _
    rw [rfirstN]
    by_cases h0 : n = 0
    · subst h0
      refine ⟨0, ?_, by omega, fun j hj => ?_, fun j hj => by omega⟩
      · simp [rfirstN]
      · have : j = 0 := by omega
        subst this; exact Lo.irrefl
    · obtain ⟨m, h1, h2, h3, h4⟩ := ih (by omega) (by omega)
      rw [h1]
      by_cases hlo : Lo (l.getD n default) (l.getD m default)
      · rw [if_pos (rfirst_test.2 (by simpa [ptAt] using hlo))]
        refine ⟨n, rfl, by omega, fun j hj => ?_, fun j hj => ?_⟩
        · by_cases hjn : j = n
          · subst hjn; exact Lo.irrefl
          · exact fun h => h3 j (by omega) (h.trans hlo)
        · exact hlo.of_not (h3 j hj)
      · rw [if_neg (fun h => hlo (by simpa [ptAt] using rfirst_test.1 h))]
        refine ⟨m, rfl, by omega, fun j hj => ?_, h4⟩
        by_cases hjn : j = n
        · subst hjn; exact hlo
        · exact h3 j (by omega)
theorem rfirst_spec {l : List Pt} (h : 0 < l.length) : ∃ m : Nat, rfirst l = (m : Int) ∧ m < l.length ∧ (∀ j, j < l.length → ¬ Lo (l.getD j default) (l.getD m default)) ∧ ∀ j, j < m → Lo (l.getD m default) (l.getD j default) :=
  rfirstN_spec l l.length (Nat.le_refl _) h
theorem minF_spec {l : List Pt} (h : 0 < l.length) : minF lowerW l ∈ l ∧ ∀ p ∈ l, ¬ Lo p (minF lowerW l) := by
  have key : ∀ (r : List Pt) (m : Pt), let x := r.foldl (fun m p => if lowerW p m < 0 then p else m) m; (x = m ∨ x ∈ r) ∧ ¬ Lo m x ∧ ∀ p ∈ r, ¬ Lo p x := by
    intro r
    induction r with
    | nil => intro m; exact ⟨.inl rfl, Lo.irrefl, fun p hp => by cases hp⟩
    | cons q r ih =>
      intro m
      simp only [List.foldl_cons]
      obtain ⟨h1, h2, h3⟩ := ih (if lowerW q m < 0 then q else m)
      by_cases hq : lowerW q m < 0
      · simp only [if_pos hq] at h1 h2 h3 ⊢
        have hlo := lower_lt.1 hq
        refine ⟨?_, fun hm => h2 ?_, fun p hp => ?_⟩
        · rcases h1 with h1 | h1
          · exact .inr (by rw [h1]; exact List.mem_cons_self ..)
          · exact .inr (List.mem_cons_of_mem _ h1)
        · exact hlo.trans hm
        · rcases List.mem_cons.1 hp with rfl | hp
          · exact h2
          · exact h3 p hp
      · simp only [if_neg hq] at h1 h2 h3 ⊢
        have hlo : ¬ Lo q m := fun h => hq (lower_lt.2 h)
        refine ⟨?_, h2, fun p hp => ?_⟩
        · rcases h1 with h1 | h1
          · exact .inl h1
          · exact .inr (List.mem_cons_of_mem _ h1)
        · rcases List.mem_cons.1 hp with rfl | hp
          · exact fun hpx => (by
              by_cases hmx : Lo p m
              · exact hlo hmx
              · exact h2 ((Classical.byContradiction fun hn => by
                  have := Lo.of_not hpx hn
                  exact hmx this) ))
          · exact h3 p hp
  cases l with
  | nil => simp at h
  | cons q r =>
    have := key r q
    unfold minF
    simp only [List.drop_succ_cons, List.drop_zero, List.getD_cons_zero]
    obtain ⟨h1, h2, h3⟩ := this
    refine ⟨?_, fun p hp => ?_⟩
    · rcases h1 with h1 | h1
      · rw [h1]; exact List.mem_cons_self ..
      · exact List.mem_cons_of_mem _ h1
    · rcases List.mem_cons.1 hp with rfl | hp
      · exact h2
      · exact h3 p hp
theorem getD_mem {l : List Pt} {i : Nat} (h : i < l.length) : l.getD i default ∈ l := by simp [h]
theorem minF_first {l : List Pt} (h : 0 < l.length) : ∃ m : Nat, rfirst l = (m : Int) ∧ m < l.length ∧ minF lowerW l = l.getD m default ∧ ∀ j, j < m → l.getD j default ≠ l.getD m default := by
  obtain ⟨m, h1, h2, h3, h4⟩ := rfirst_spec h
  obtain ⟨g1, g2⟩ := minF_spec h
  refine ⟨m, h1, h2, Lo.total (fun hl => ?_) (g2 _ (getD_mem h2)), fun j hj he => Lo.irrefl (he ▸ h4 j hj)⟩
  obtain ⟨j, hj, he⟩ := List.getElem_of_mem g1
  refine h3 j hj ?_
  rw [show l.getD j default = minF lowerW l from by simp [hj, he]]
  exact hl
theorem first_zero {l : List Pt} (h : 0 < l.length) : rfirst l = 0 ↔ minF lowerW l = l.getD 0 default := by
  obtain ⟨m, h1, h2, h3, h4⟩ := minF_first h
  rw [h1, h3]
  constructor
  · intro hm
    have : m = 0 := by omega
    rw [this]
  · intro hm
    have : ¬ 0 < m := fun h0 => h4 0 h0 hm.symm
    omega
theorem pt_eq {p q : Pt} : (decide (p.x = q.x) && decide (p.z = q.z)) = decide (p = q) := by
  cases p; cases q
  rw [Bool.eq_iff_iff]
  simp
theorem placed_eq (l : List Pt) : placedB l = rplacedB l := by
  cases hf : l.any farB with
  | true =>
    have e1 : placedB l = false := placed_no (by rw [hf]; rfl)
    obtain ⟨p, hp, hpf⟩ := List.any_eq_true.1 hf
    obtain ⟨i, hi, rfl⟩ := List.getElem_of_mem hp
    have e2 : rplacedB l = false := rplaced_no (i := (i : Int)) (by omega) (by omega) (by simpa [hi] using hpf)
    rw [e1, e2]
  | false =>
    have hall : allI l.length (fun i => !farB (l.getD i default)) = true := allI_true fun i hi => by
      rw [near hf (getD_mem hi)]; rfl
    unfold placedB rplacedB
    rw [hf, hall, Bool.false_or, Bool.not_not, Bool.true_and, convex_eq hf]
    cases hc : rconvexB l with
    | false => rfl
    | true =>
      have hpos := rconvex_pos hc
      rw [pt_eq]
      simp only [Bool.true_and]
      congr 1
      rw [Bool.eq_iff_iff, decide_eq_true_eq, decide_eq_true_eq, first_zero hpos]
theorem grained_eq (s : Stn) : grainedB s = ((((!decide (s.grain.x = 0)) || (!decide (s.grain.z = 0))) && (decide (-100 ≤ s.grain.x) && decide (s.grain.x ≤ 100))) && (decide (-100 ≤ s.grain.z) && decide (s.grain.z ≤ 100))) := by
  unfold grainedB
  rw [Bool.not_and]
/-- **the program's answer on a stone is the document's** -/
theorem check_valid (s : Stn) : checkI s = if rvalidB s = true then 0 else 2 := by
  have : badB s = !rvalidB s := by
    unfold badB rvalidB
    rw [named_eq, placed_eq, grained_eq]
    cases rnamedB s.name <;> cases rplacedB s.shape <;> simp [Bool.and_assoc, Bool.or_assoc]
  unfold checkI
  rw [this]
  cases rvalidB s <;> rfl
end Go.Stn

namespace Go.Stn
open Go Go.K Go.RowKit
theorem first_in {l : List Pt} (h : 0 < l.length) : 0 ≤ findI (eqB (minF lowerW l)) l ∧ findI (eqB (minF lowerW l)) l < (l.length : Int) := by
  have hm : l.any (eqB (minF lowerW l)) = true := List.any_eq_true.2 ⟨_, (minF_spec h).1, eqB_iff.2 rfl⟩
  have hlt : l.findIdx (eqB (minF lowerW l)) < l.length := List.findIdx_lt_length_of_exists (by simpa using hm)
  unfold findI
  rw [if_pos hm]
  omega
abbrev firstI (l : List Pt) : Int := findI (eqB (minF lowerW l)) l
def rotL (l : List Pt) (f : Int) : List Pt := l.drop f.toNat ++ l.take f.toNat
def settledW (l : List Pt) : List Pt := (rotL l (firstI l)).map fun p => subW p (leastL l)
theorem rotL_len {l : List Pt} {f : Int} (h1 : f ≤ (l.length : Int)) : (rotL l f).length = l.length := by
  unfold rotL
  simp
  omega
theorem map_step {o m : List Pt} {g : Pt → Pt} {i : Int} (h0 : 0 ≤ i) (h1 : i < (o.length : Int)) (hm : m = (o.take i.toNat).map g ++ o.drop i.toNat) : m.set i.toNat (g (m.getD i.toNat default)) = (o.take (i + 1).toNat).map g ++ o.drop (i + 1).toNat := by
  have hlt : i.toNat < o.length := by omega
  have hl : ((o.take i.toNat).map g).length = i.toNat := by simp; omega
  have hget : m.getD i.toNat default = o[i.toNat] := by
    rw [hm, List.getD_eq_getElem?_getD, List.getElem?_append_right (by omega), hl, Nat.sub_self, List.getElem?_drop]
    simp [hlt]
  rw [hget, hm, List.set_append_right _ _ (by omega), hl, Nat.sub_self, show (i + 1).toNat = i.toNat + 1 from by omega, List.drop_eq_getElem_cons hlt, List.set_cons_zero, List.take_add_one, show o[i.toNat]?.toList = [o[i.toNat]] from by simp [hlt], List.map_append]
  simp only [List.map_cons, List.map_nil, List.append_assoc, List.cons_append, List.nil_append]
theorem setp_end {o m : List Pt} {g : Pt → Pt} {i : Int} (hm : m = (o.take i.toNat).map g ++ o.drop i.toNat) (hi : (o.length : Int) ≤ i) : m = o.map g := by
  rw [hm, take_all hi, List.drop_of_length_le (by omega), List.append_nil]
/-- is a point on an edge, its end left out? -/
def onE (x : Pt) (e : Pt × Pt) : Bool := ((decide (crossW (subW e.2 e.1) (subW x e.1) = 0) && decide (0 ≤ dotW (subW x e.1) (subW e.2 e.1))) && decide (dotW (subW x e.1) (subW x e.1) < dotW (subW e.2 e.1) (subW e.2 e.1)))
def edgeI (l : List Pt) (x : Pt) : Int := if farB x = true then -1 else findI (onE x) (edgesL l)
theorem findI_at {α : Type} {p : α → Bool} {l : List α} {n : Nat} {e : α} (he : l[n]? = some e) (ha : ∀ j x, j < n → l[j]? = some x → p x = false) (hp : p e = true) : findI p l = (n : Int) := by
  have hlt : n < l.length := (List.getElem?_eq_some_iff.1 he).1
  have hle : l[n] = e := (List.getElem?_eq_some_iff.1 he).2
  have hany : l.any p = true := List.any_eq_true.2 ⟨l[n], List.getElem_mem hlt, by rw [hle]; exact hp⟩
  have hidx : l.findIdx p = n := (List.findIdx_eq hlt).2 ⟨by rw [hle]; exact hp, fun j hj => ha j _ hj (by simp)⟩
  rw [findI, if_pos hany, hidx]
theorem findI_no {α : Type} {p : α → Bool} {l : List α} (ha : ∀ j x, j < l.length → l[j]? = some x → p x = false) : findI p l = -1 := by
  have : ¬ l.any p = true := fun h => by
    obtain ⟨x, hx, hp⟩ := List.any_eq_true.1 h
    obtain ⟨j, hj, rfl⟩ := List.getElem_of_mem hx
    rw [ha j _ hj (by simp [hj])] at hp
    cases hp
  rw [findI, if_neg this]
theorem none_succ {α : Type} {p : α → Bool} {l : List α} {n : Nat} {e : α} (he : l[n]? = some e) (ha : ∀ j x, j < n → l[j]? = some x → p x = false) (hp : p e = false) : ∀ j x, j < n + 1 → l[j]? = some x → p x = false := fun j x hj hx => by
  rcases Nat.lt_or_ge j n with h | h
  · exact ha j x h hx
  · have : j = n := by omega
    subst this
    rw [he] at hx
    cases hx
    exact hp
theorem edge_lt {l : List Pt} {x : Pt} : edgeI l x < (l.length : Int) ∧ -1 ≤ edgeI l x := by
  unfold edgeI
  split
  · omega
  · unfold findI
    split
    · rename_i h
      have : (edgesL l).findIdx (onE x) < (edgesL l).length := List.findIdx_lt_length_of_exists (by simpa using h)
      rw [edges_len'] at this
      omega
    · omega
theorem edge_n {l : List Pt} {n : Nat} {e : Pt × Pt} (he : (edgesL l)[n]? = some e) : n < l.length := by
  have := (List.getElem?_eq_some_iff.1 he).1
  rwa [edges_len'] at this
def both0 (p q : Pt) (e : Pt × Pt) : Bool := decide (turnW e.1 e.2 p = 0) && decide (turnW e.1 e.2 q = 0)
def apartB (l : List Pt) (p q : Pt) : Bool := !(edgesL l).any (both0 p q)
theorem apart_no {l : List Pt} {p q : Pt} {n : Nat} {e : Pt × Pt} (he : (edgesL l)[n]? = some e) (h : both0 p q e = true) : apartB l p q = false := by
  rw [apartB, List.any_eq_true.2 ⟨e, List.mem_of_getElem? he, h⟩]; rfl
theorem apart_yes {l : List Pt} {p q : Pt} (h : ∀ j x, j < (edgesL l).length → (edgesL l)[j]? = some x → both0 p q x = false) : apartB l p q = true := by
  have : (edgesL l).any (both0 p q) = false := by
    cases hb : (edgesL l).any (both0 p q) with
    | false => rfl
    | true =>
      obtain ⟨x, hx, hp⟩ := List.any_eq_true.1 hb
      obtain ⟨j, hj, rfl⟩ := List.getElem_of_mem hx
      rw [h j _ hj (by simp [hj])] at hp
      cases hp
  rw [apartB, this]; rfl
/-- the corners from number i on, up to k of them, till q -/
def rightN (l : List Pt) (q : Pt) : Nat → Int → List Pt
  | 0, _ => [q]
  | k + 1, i => if eqB (atL l i) q = true then [q] else atL l i :: rightN l q k (i + 1)
def rightT (l : List Pt) (p q : Pt) : Nat := if edgeI l p ≤ edgeI l q then (edgeI l q - edgeI l p).toNat else (edgeI l q - edgeI l p + (l.length : Int)).toNat
def rightL (l : List Pt) (p q : Pt) : List Pt := p :: rightN l q (rightT l p q) (edgeI l p + 1)
theorem tmod_wrap {x n : Int} (h0 : 0 ≤ x) (h1 : x < n + n) : (x + n).tmod n = if x < n then x else x - n := by
  obtain ⟨a, rfl⟩ := Int.eq_ofNat_of_zero_le h0
  obtain ⟨m, rfl⟩ := Int.eq_ofNat_of_zero_le (show 0 ≤ n by omega)
  have : ((a : Int) + (m : Int)).tmod (m : Int) = (((a + m) % m : Nat) : Int) := rfl
  rw [this, Nat.add_mod_right]
  by_cases h : a < m
  · rw [Nat.mod_eq_of_lt h, if_pos (by omega)]
  · rw [Nat.mod_eq_sub_mod (by omega), Nat.mod_eq_of_lt (by omega), if_neg (by omega)]
    omega
theorem rightN_len (l : List Pt) (q : Pt) : ∀ (k : Nat) (i : Int), 1 ≤ (rightN l q k i).length ∧ (rightN l q k i).length ≤ k + 1
  | 0, i => by simp [rightN]
  | k + 1, i => by
    have := rightN_len l q k (i + 1)
    unfold rightN
    split
    · simp
    · simp; omega
theorem rightT_le {l : List Pt} {p q : Pt} (h1 : 0 ≤ edgeI l p) (h2 : 0 ≤ edgeI l q) : rightT l p q < l.length := by
  have := edge_lt (l := l) (x := p)
  have := edge_lt (l := l) (x := q)
  unfold rightT
  split <;> omega
theorem rightL_len {l : List Pt} {p q : Pt} (h1 : 0 ≤ edgeI l p) (h2 : 0 ≤ edgeI l q) : 2 ≤ (rightL l p q).length ∧ (rightL l p q).length ≤ l.length + 1 := by
  have := rightT_le h1 h2
  have := rightN_len l q (rightT l p q) (edgeI l p + 1)
  unfold rightL
  simp
  omega
/-- round number m is the last one -/
theorem right_last {l : List Pt} {p q : Pt} (h1 : 0 ≤ edgeI l p) (h2 : 0 ≤ edgeI l q) {m : Nat} (hm : m ≤ rightT l p q) : edgeI l q = ((edgeI l p + 1 + (m : Int)) - 1 + (l.length : Int)).tmod (l.length : Int) ↔ m = rightT l p q := by
  have a1 := edge_lt (l := l) (x := p)
  have a2 := edge_lt (l := l) (x := q)
  have a3 := rightT_le h1 h2
  rw [show edgeI l p + 1 + (m : Int) - 1 = edgeI l p + (m : Int) from by omega, tmod_wrap (by omega) (by omega)]
  unfold rightT at *
  split at hm <;> split <;> omega
theorem right_stop {l : List Pt} {p q : Pt} {m : Nat} {i : Int} {o : List Pt} (h1 : 0 ≤ edgeI l p) (h2 : 0 ≤ edgeI l q) (hm : m ≤ rightT l p q) (hi : i = edgeI l p + 1 + (m : Int)) (hr : rightL l p q = o ++ rightN l q (rightT l p q - m) i)
    (ht : (eqB (atL l i) q || decide (edgeI l q = (i - 1 + (l.length : Int)).tmod (l.length : Int))) = true) : o ++ [q] = rightL l p q := by
  rw [hr]
  cases hk : rightT l p q - m with
  | zero => rfl
  | succ k =>
    unfold rightN
    cases he : eqB (atL l i) q with
    | true => rfl
    | false =>
      rw [he, Bool.false_or, decide_eq_true_eq, hi, right_last h1 h2 hm] at ht
      omega
theorem right_go {l : List Pt} {p q : Pt} {m : Nat} {i : Int} {o : List Pt} (h1 : 0 ≤ edgeI l p) (h2 : 0 ≤ edgeI l q) (hm : m ≤ rightT l p q) (hi : i = edgeI l p + 1 + (m : Int)) (hr : rightL l p q = o ++ rightN l q (rightT l p q - m) i)
    (ht : (eqB (atL l i) q || decide (edgeI l q = (i - 1 + (l.length : Int)).tmod (l.length : Int))) = false) : m + 1 ≤ rightT l p q ∧ rightL l p q = (o ++ [atL l i]) ++ rightN l q (rightT l p q - (m + 1)) (i + 1) := by
  rw [Bool.or_eq_false_iff, decide_eq_false_iff_not, hi, right_last h1 h2 hm] at ht
  obtain ⟨k, hk⟩ : ∃ k, rightT l p q - m = k + 1 := ⟨rightT l p q - m - 1, by omega⟩
  refine ⟨by omega, ?_⟩
  rw [hr, hk, show rightT l p q - (m + 1) = k from by omega]
  unfold rightN
  rw [if_neg (by rw [hi, ht.1]; exact Bool.false_ne_true)]
  cases k <;> simp [rightN]
/-- a piece of a stone -/
def pieceW (s : Stn) (c : ByteArray) (l : List Pt) : Stn := ⟨s.name ++ c, settledW l, s.depth, s.density, s.grain⟩
def zeroS : Stn := ⟨⟨#[]⟩, [], 0, 0, ⟨0, 0⟩⟩
def splitE (s : Stn) (p q : Pt) : Int :=
  if checkI s ≠ 0 then checkI s else if (decide (edgeI s.shape p < 0) || decide (edgeI s.shape q < 0)) = true then 8 else if apartB s.shape p q = false then 2 else
  if (decide ((s.name.size : Int) = 16) || decide (12 < max ((rightL s.shape q p).length : Int) ((rightL s.shape p q).length : Int))) = true then 5 else 0
def splitA (s : Stn) (p q : Pt) : Stn := if splitE s p q = 0 then pieceW s ⟨#[97]⟩ (rightL s.shape q p) else zeroS
def splitB (s : Stn) (p q : Pt) : Stn := if splitE s p q = 0 then pieceW s ⟨#[98]⟩ (rightL s.shape p q) else zeroS
theorem split_bad {s : Stn} {p q : Pt} {e : Int} (hE : splitE s p q = e) (he : e ≠ 0) : splitA s p q = zeroS ∧ splitB s p q = zeroS := by
  unfold splitA splitB
  rw [hE, if_neg he, if_neg he]
  exact ⟨rfl, rfl⟩
theorem split_good {s : Stn} {p q : Pt} (hE : splitE s p q = 0) : splitA s p q = pieceW s ⟨#[97]⟩ (rightL s.shape q p) ∧ splitB s p q = pieceW s ⟨#[98]⟩ (rightL s.shape p q) := by
  unfold splitA splitB
  rw [hE, if_pos rfl, if_pos rfl]
  exact ⟨rfl, rfl⟩
theorem check_named {s : Stn} (h : checkI s = 0) : s.name.size ≤ 16 := by
  have := check_good h
  unfold badB at this
  simp only [Bool.or_eq_false_iff, Bool.not_eq_false'] at this
  have h2 := this.1.1.1.1
  unfold namedB at h2
  simp only [Bool.and_eq_true, decide_eq_true_eq] at h2
  omega
end Go.Stn

namespace Go.Stn
open Go Go.K Go.RowKit
def outB (s : Stn) (p : Pt) (t : Int) (q : Pt) : Bool := apartB s.shape p q && decide (W (100 * max (crossW (subW q p) s.grain) (W (-(crossW (subW q p) s.grain)))) ≤ W (t * max (dotW (subW q p) s.grain) (W (-(dotW (subW q p) s.grain)))))
abbrev rotB (l : List Pt) (i : Int) : List Pt := l.drop (i + 1).toNat ++ l.take i.toNat
def outcomesL (s : Stn) (p : Pt) (t : Int) : List Pt := (rotB (borderL s.shape) (findI (eqB p) (borderL s.shape))).filter (outB s p t)
abbrev outVs (s : Stn) (p : Pt) (t : Int) : List (List Value) := (outcomesL s p t).map onePt
theorem findI_lt {α : Type} (p : α → Bool) {l : List α} (h : 0 ≤ findI p l) : findI p l < (l.length : Int) := by
  unfold findI at *
  split at h
  · rename_i h1
    rw [if_pos h1]
    have : l.findIdx p < l.length := List.findIdx_lt_length_of_exists (by simpa using h1)
    omega
  · omega
theorem rotB_len {l : List Pt} {i : Int} (h0 : 0 ≤ i) (h1 : i < (l.length : Int)) : (rotB l i).length + 1 = l.length := by
  unfold rotB
  simp
  omega
theorem filt_succ {l : List Pt} {f : Pt → Bool} {i : Int} (h0 : 0 ≤ i) (h1 : i < (l.length : Int)) : ((l.take (i + 1).toNat).filter f).length = ((l.take i.toNat).filter f).length + if f (l.getD i.toNat default) = true then 1 else 0 := by
  rw [take_succ h0 h1, List.filter_append, List.length_append]
  congr 1
  rw [List.filter_cons]
  split <;> rfl
theorem filt_get {l : List Pt} {f : Pt → Bool} {i : Int} (h0 : 0 ≤ i) (h1 : i < (l.length : Int)) (hf : f (l.getD i.toNat default) = true) : ((l.filter f).map onePt)[((l.take i.toNat).filter f).length]? = some [ptV (l.getD i.toNat default)] := by
  have hlt : i.toNat < l.length := by omega
  have hl : l.filter f = (l.take i.toNat).filter f ++ (l.getD i.toNat default :: (l.drop (i.toNat + 1)).filter f) := by
    conv => lhs; rw [← List.take_append_drop i.toNat l, List.drop_eq_getElem_cons hlt, List.filter_append]
    rw [List.filter_cons, if_pos (by simpa [hlt] using hf)]
    simp [hlt]
  rw [List.getElem?_map, hl, List.getElem?_append_right (Nat.le_refl _), Nat.sub_self]
  rfl
def struckE (s : Stn) (p : Pt) (t : Int) : Int := if checkI s ≠ 0 then checkI s else if edgeI s.shape p < 0 then 8 else if (decide (0 ≤ t) && decide (t ≤ 100)) = false then 3 else 0
def outL (s : Stn) (p : Pt) (t : Int) : List Pt := if struckE s p t = 0 then outcomesL s p t else []
def flipW (p : Pt) (way : Int) : Pt := if 3 < way then ⟨W (-p.x), p.z⟩ else p
def quartW (p : Pt) (k : Int) : Pt := if k = 0 then p else if k = 1 then ⟨W (-p.z), p.x⟩ else if k = 2 then ⟨W (-p.x), W (-p.z)⟩ else ⟨p.z, W (-p.x)⟩
def moveW (way : Int) (p : Pt) : Pt := quartW (flipW p way) (way.tmod 4)
def turnedL (s : Stn) (way : Int) : List Pt := if 3 < way then (s.shape.map (moveW way)).reverse else s.shape.map (moveW way)
def turnedE (s : Stn) (way : Int) : Int := if checkI s ≠ 0 then checkI s else if (decide (0 ≤ way) && decide (way ≤ 7)) = false then 3 else 0
def turnedS (s : Stn) (way : Int) : Stn := if turnedE s way = 0 then ⟨s.name, settledW (turnedL s way), s.depth, s.density, moveW way s.grain⟩ else zeroS
theorem turned_bad {s : Stn} {way e : Int} (hE : turnedE s way = e) (he : e ≠ 0) : turnedS s way = zeroS := by
  unfold turnedS
  rw [hE, if_neg he]
theorem turned_good {s : Stn} {way : Int} (hE : turnedE s way = 0) : turnedS s way = ⟨s.name, settledW (turnedL s way), s.depth, s.density, moveW way s.grain⟩ := by
  unfold turnedS
  rw [hE, if_pos rfl]
theorem map_take_succ {l : List Pt} {g : Pt → Pt} {i : Int} (h0 : 0 ≤ i) (h1 : i < (l.length : Int)) : (l.take (i + 1).toNat).map g = (l.take i.toNat).map g ++ [g (l.getD i.toNat default)] := by
  rw [take_succ h0 h1, List.map_append]; rfl
end Go.Stn

namespace Go.Stn
open Go Go.K Go.RowKit
set_option maxRecDepth 100000
theorem brick_ok : checkI brickS = 0 := by decide +kernel
theorem brick_weight : weightW brickS = 7680000000 := by decide +kernel
def wA : Stn := ⟨⟨#[98, 114, 105, 99, 107, 97]⟩, [⟨0, 0⟩, ⟨50, 0⟩, ⟨50, 80⟩, ⟨0, 80⟩], 100, 2400, ⟨1, 0⟩⟩
def wB : Stn := ⟨⟨#[98, 114, 105, 99, 107, 98]⟩, [⟨0, 0⟩, ⟨150, 0⟩, ⟨150, 80⟩, ⟨0, 80⟩], 100, 2400, ⟨1, 0⟩⟩
theorem brick_splitE : splitE brickS ⟨50, 0⟩ ⟨50, 80⟩ = 0 := by decide +kernel
theorem brick_splitA : splitA brickS ⟨50, 0⟩ ⟨50, 80⟩ = wA := by decide +kernel
theorem brick_splitB : splitB brickS ⟨50, 0⟩ ⟨50, 80⟩ = wB := by decide +kernel
theorem brick_in : 0 ≤ findI (eqB ⟨0, 40⟩) (borderL brickS.shape) := by decide +kernel
theorem brick_struck : struckE brickS ⟨0, 40⟩ 0 = 0 := by decide +kernel
theorem brick_out : outL brickS ⟨0, 40⟩ 0 = [⟨200, 40⟩] := by decide +kernel
theorem brick_turnE : turnedE brickS 1 = 0 := by decide +kernel
theorem brick_turn : (turnedS brickS 1).grain = ⟨0, 1⟩ := by decide +kernel
theorem brick_border : (askL brickS (borderL brickS.shape)).length = 560 := by decide +kernel
end Go.Stn

namespace Go.Stn
open Go Go.K Go.RowKit
def sameSB (a b : Stn) : Bool := (((((a.name.toList == b.name.toList) && decide (a.depth = b.depth)) && decide (a.density = b.density)) && decide (a.grain.x = b.grain.x)) && decide (a.grain.z = b.grain.z)) && decide (a.shape = b.shape)
theorem same_refl (a : Stn) : sameSB a a = true := by simp [sameSB]
theorem same_at {p q : Pt} (h : ((!decide (p.x = q.x)) || (!decide (p.z = q.z))) = false) : p = q := by
  cases p; cases q
  simpa using h
theorem same_no {p q : Pt} (h : ((!decide (p.x = q.x)) || (!decide (p.z = q.z))) = true) : p ≠ q := fun he => by
  rw [he] at h
  simp at h
theorem same_all {l m : List Pt} {i : Int} (hl : l.length = m.length) (hi : (l.length : Int) ≤ i) (h : ∀ j : Nat, (j : Int) < i → l.getD j default = m.getD j default) : l = m := by
  apply List.ext_getElem hl
  intro j h1 h2
  have := h j (by omega)
  simpa [h1, h2] using this
end Go.Stn

namespace Go.K
open Go Go.RowKit
/-- the map at b holds true for each of the texts, in the order in which they came -/
def SetR (b : Nat) (l : List ByteArray) : Res where
  A B w := (∀ j, B j ↔ j = b) ∧ ∃ es clock, w.heap[b]? = some (.map es clock) ∧ es.toList.map (fun e => (e.key, e.val)) = l.map (fun s => (Value.string s, Value.bool true))
  loc _ _ _ h hA := ⟨hA.1, by obtain ⟨es, clock, h1, h2⟩ := hA.2; exact ⟨es, clock, (h b ((hA.1 b).2 rfl)).trans h1, h2⟩⟩
/-- is a text in a set? -/
abbrev inSet (l : List ByteArray) (s : ByteArray) : Bool := l.any (s == ·)
theorem find_set (s : ByteArray) : ∀ (es : List MapEntry) (l : List ByteArray) (i : Nat), es.map (fun e => (e.key, e.val)) = l.map (fun s => (Value.string s, Value.bool true)) →
    (Instr.findNow .string (.string s) es i = some none ∧ l.any (s == ·) = false) ∨ (∃ j, Instr.findNow .string (.string s) es i = some (some (j, .bool true)) ∧ l.any (s == ·) = true)
  | [], [], i, _ => .inl ⟨rfl, rfl⟩
  | [], _ :: _, _, h => by simp at h
  | _ :: _, [], _, h => by simp at h
  | e :: es, n :: l, i, h => by
    simp only [List.map_cons, List.cons.injEq, Prod.mk.injEq] at h
    obtain ⟨⟨h1, h2⟩, h3⟩ := h
    unfold Instr.findNow
    rw [h1]
    simp only [Instr.sameNow, List.any_cons]
    cases hs : (s == n) with
    | true => exact .inr ⟨i, by rw [h2], by simp⟩
    | false =>
      rcases find_set s es l (i + 1) h3 with ⟨g1, g2⟩ | ⟨j, g1, g2⟩
      · exact .inl ⟨g1, by simpa using g2⟩
      · exact .inr ⟨j, g1, by simpa using g2⟩
/-- closed facts on a type of maps from texts to truths -/
structure MB (P : Program) (t k e : TypeId) (z : Value) : Prop where
  u : P.underlying t = some (.map k e)
  k : P.underlying k = some .string
  e : TF P e false 1 (.bool false)
section
variable {c : Cx} {ds : List Deferred} {p : Post} {T : List (Nat × Value)} {H : List Res} {ops : Array Oper} {rest : List Oper} {d : Option Nat} {ty : TypeId} {ps : String} {af : Array Edge} {g : Option (Nat × Bool)} {x y : Operand}
theorem run_getMap {P : Program} {w : World} {b : Nat} {es : Array MapEntry} {clock : Nat} (hb : w.heap[b]? = some (.map es clock)) : (getObj b).run P w = .ok (.map es clock) w := by
  unfold getObj
  simp [Sem.run, hb]
theorem yx_makeMap {t : TypeId} : YX c ds H T ⟨d, .makeMap t none, ty, ps, af, g⟩ (fun b => .map (some b)) (fun b => SetR b []) := by
  refine ⟨fun a w ha hw => ?_⟩
  unfold Yld
  have : (execOp a.eval ⟨d, .makeMap t none, ty, ps, af, g⟩).run c.P w = .ok (.value (.map (some w.heap.size))) (w.alloc (.map #[] 0)) := by
    simp only [execOp]
    exact run_val rfl
  rw [this]
  refine ⟨w.heap.size, rfl, ext_alloc _, (· = w.heap.size), fun k hk => by subst hk; simp, fun k => Iff.rfl, #[], 0, World.alloc_heap_new w _, rfl⟩
theorem run_checkKey_string {k : TypeId} {P : Program} {w : World} (hk : P.underlying k = some .string) (e : Bool) (s : ByteArray) : (Instr.checkKey e 10000 k (.string s)).run P w = .ok () w := by
  unfold Instr.checkKey
  rw [run_bind_ok (run_underlying' hk)]
  rfl
theorem y_lookupSet {t k e : TypeId} {z : Value} {b : Nat} {l : List ByteArray} {s : ByteArray} (hm : MB c.P t k e z) (hx : evo T x = some (.map (some b))) (hy : evo T y = some (.string s)) (h : ∀ w, Hp c.U c.w0 H w → Has w (SetR b l)) :
    Y c ds H T ⟨d, .lookup t x y false, ty, ps, af, g⟩ (.bool (inSet l s)) :=
  y_run fun a w ha hw => by
    obtain ⟨B, _, _, es, clock, hb, hes⟩ := h w hw
    simp only [execOp, ha.eval hx, ha.eval hy]
    refine run_val ?_
    unfold Instr.lookup
    rw [run_bind_ok (run_underlying' hm.u)]
    dsimp only
    rw [run_bind_ok (run_getMap hb)]
    dsimp only
    rw [run_bind_ok (v := es) (w' := w) rfl, run_bind_ok (run_checkKey_string hm.k _ s)]
    have hf : ∀ r, Instr.findNow .string (.string s) es.toList 0 = some r → (Instr.findKey k (.string s) es.toList).run c.P w = .ok r w := fun r hr => by
      unfold Instr.findKey
      rw [run_bind_ok (run_underlying' hm.k), hr]
      rfl
    rcases find_set s es.toList l 0 hes with ⟨g1, g2⟩ | ⟨j, g1, g2⟩
    · rw [show inSet l s = false from g2, run_bind_ok (hf _ g1)]
      dsimp only
      rw [run_bind_ok hm.e.zero, run_bind_ok (v := ((.bool false, false) : Value × Bool)) (w' := w) rfl]
      rfl
    · rw [show inSet l s = true from g2, run_bind_ok (hf _ g1)]
      dsimp only
      rw [run_bind_ok (v := ((.bool true, true) : Value × Bool)) (w' := w) rfl]
      rfl
theorem gk_mapSet {t k e : TypeId} {z : Operand} {zz : Value} {b : Nat} {l : List ByteArray} {s : ByteArray} (i : Nat) (hm : MB c.P t k e zz) (hx : evo T x = some (.map (some b))) (hy : evo T y = some (.string s)) (hz : evo T z = some (.bool true)) (hi : H[i]? = some (SetR b l)) (hn : inSet l s = false)
    (kk : GK c ds (KL c ops p rest) T (H.set i (SetR b (l ++ [s])))) : GK c ds (KL c ops p (⟨none, .mapUpdate t x y z, ty, ps, af, none⟩ :: rest)) T H := by
  refine gk_heap rfl (fun a w ha hw => ?_) kk
  obtain ⟨B0, hB0, hA0⟩ := hw.has hi
  obtain ⟨hBb, es, clock, hb, hes⟩ := hA0
  have hf : (Instr.findKey k (.string s) es.toList).run c.P w = .ok none w := by
    unfold Instr.findKey
    rw [run_bind_ok (run_underlying' hm.k)]
    rcases find_set s es.toList l 0 hes with ⟨g1, _⟩ | ⟨j, _, g2⟩
    · rw [g1]; rfl
    · rw [show inSet l s = true from g2] at hn; cases hn
  have hr : (Instr.mapUpdate t (.map (some b)) (.string s) (.bool true)).run c.P w = .ok () (w.putObj b (.map (es.push { key := .string s, val := .bool true, born := clock }) (clock + 1))) := by
    unfold Instr.mapUpdate
    rw [run_bind_ok (run_underlying' hm.u)]
    dsimp only
    rw [run_bind_ok (run_getMap hb)]
    dsimp only
    rw [run_bind_ok (run_checkKey_string hm.k _ s), run_bind_ok hf]
    dsimp only
    simp [setObj, Sem.run, hb, World.putObj]
  unfold Yld
  have : (execOp a.eval ⟨none, .mapUpdate t x y z, ty, ps, af, none⟩).run c.P w = .ok .skip (w.putObj b (.map (es.push { key := .string s, val := .bool true, born := clock }) (clock + 1))) := by
    simp only [execOp, ha.eval hx, ha.eval hy, ha.eval hz]
    rw [run_bind_ok hr]
    rfl
  rw [this]
  refine hw.upd hi fun B hB hA => ⟨B, mod_put ((hA.1 b).2 rfl), fun k hk => .inl hk, hA.1, es.push { key := .string s, val := .bool true, born := clock }, clock + 1, ?_, ?_⟩
  · exact World.putObj_heap_same (hB0 b ((hBb b).2 rfl))
  · simp [hes]
end
end Go.K

namespace Go.Stn
open Go Go.K Go.RowKit
/-- a stone, and where its corners lie -/
structure SC where
  s : Stn
  a : Option Addr
  cap : Nat
instance : Inhabited SC := ⟨⟨⟨⟨#[]⟩, [], 0, 0, ⟨0, 0⟩⟩, none, 0⟩⟩
abbrev encSC (z : SC) : List Value := [.string z.s.name, .slice z.a z.s.shape.length z.cap, .int .i64 z.s.depth, .int .i64 z.s.density, .int .i64 z.s.grain.x, .int .i64 z.s.grain.z]
theorem encSC_ok : Enc 6 encSC := ⟨fun _ => rfl, fun _ => rfl, by decide⟩
abbrev plainL (L : List SC) : List Stn := L.map (·.s)
abbrev namesL (L : List SC) : List ByteArray := L.map (·.s.name)
/-- a stone that no heap has at this place -/
def badAt (L : List SC) (i : Nat) : Bool := ((!decide (checkI (L.getD i default).s = 0)) || inSet (namesL (L.take i)) (L.getD i default).s.name) || decide (200 < (L.length : Int))
def heapI (L : List SC) : Int := if (List.range L.length).any (badAt L) = true then 2 else 0
theorem heap_bad {L : List SC} {i : Int} (h0 : 0 ≤ i) (h1 : i < (L.length : Int)) (hb : badAt L i.toNat = true) : heapI L = 2 := by
  unfold heapI
  rw [if_pos (List.any_eq_true.2 ⟨i.toNat, List.mem_range.2 (by omega), hb⟩)]
theorem heap_good {L : List SC} {i : Int} (h0 : ¬ i < (L.length : Int)) (hg : ∀ j : Nat, (j : Int) < i → badAt L j = false) : heapI L = 0 := by
  unfold heapI
  rw [if_neg]
  intro h
  obtain ⟨j, hj, hb⟩ := List.any_eq_true.1 h
  rw [List.mem_range] at hj
  rw [hg j (by omega)] at hb
  cases hb
theorem names_succ {L : List SC} {i : Int} (h0 : 0 ≤ i) (h1 : i < (L.length : Int)) : namesL (L.take (i + 1).toNat) = namesL (L.take i.toNat) ++ [(L.getD i.toNat default).s.name] := by
  unfold namesL
  rw [take_succ h0 h1, List.map_append]; rfl
/-- the same stones, one behind the other -/
def sameAllB (A B : List SC) : Bool := decide (A.length = B.length) && (List.range A.length).all fun i => sameSB (A.getD i default).s (B.getD i default).s
theorem sameAll_len {A B : List SC} (h : ¬ A.length = B.length) : sameAllB A B = false := by
  unfold sameAllB
  rw [decide_eq_false h]; rfl
theorem sameAll_no {A B : List SC} {i : Int} (h0 : 0 ≤ i) (h1 : i < (A.length : Int)) (h : sameSB (A.getD i.toNat default).s (B.getD i.toNat default).s = false) : sameAllB A B = false := by
  unfold sameAllB
  rw [Bool.and_eq_false_iff]
  right
  rw [Bool.eq_false_iff]
  intro ht
  rw [List.all_eq_true] at ht
  have := ht i.toNat (List.mem_range.2 (by omega))
  rw [h] at this
  cases this
theorem sameAll_yes {A B : List SC} {i : Int} (hl : A.length = B.length) (h0 : ¬ i < (A.length : Int)) (h : ∀ j : Nat, (j : Int) < i → (!sameSB (A.getD j default).s (B.getD j default).s) = false) : sameAllB A B = true := by
  unfold sameAllB
  rw [decide_eq_true hl, Bool.true_and, List.all_eq_true]
  intro j hj
  rw [List.mem_range] at hj
  simpa using h j (by omega)
end Go.Stn

namespace Go.Proofs.YtmpaebfjnjmmlaaGreatDoor
open Go Go.K Go.Stn Go.ChangeShapes Go.WideShapes Go.ChangeAt Go.WideElems Go.RowKit
section
variable {H : Type} {enc : TypeId × Value → H} {P : Program} {w : World} {base : Nat} {spare : Nat → Bool} {held : Bool}
theorem weights_all {e : TypeId} {d : DataW H} : ∀ {l : List (DataW H)}, d ∈ l → ∀ n ∈ d.weights P e, n ∈ DataW.weightsAll P e l
  | [], h, _, _ => by cases h
  | x :: r, h, n, hn => by
    rw [DataW.weightsAll]
    rcases List.mem_cons.1 h with rfl | h
    · exact List.mem_append_left _ hn
    · exact List.mem_append_right _ (weights_all h n hn)
end
end Go.Proofs.YtmpaebfjnjmmlaaGreatDoor

namespace Go.Proofs.YtmpaebfjnjmmlaaGreatDoor
open Go Go.K Go.Stn Go.ChangeShapes Go.WideShapes Go.ChangeAt Go.WideElems Go.RowKit
theorem stone_big {H : Type} {enc : TypeId × Value → H} {P : Program} {w : World} {base : Nat} {spare : Nat → Bool} {held : Bool} {t tl e : TypeId} {f0 f1 f2 f3 f4 fx fz : Field} {s : Stn} {a : Option Addr} {cap : Nat} {d : DataW H} {p : List MemPlace} (T : StnT P t tl e f0 f1 f2 f3 f4 fx fz)
    (hbe : P.bytesOf e = 16) (h : DataW.Trod enc P w base spare held t (stnV s a cap) d p) {ts : List TypeId} {r : List (DataW H)} (hw : (DataW.weightsEach P (t :: ts) (d :: r)).all (· ≤ reachBytes) = true) : s.shape.length ≤ 8796093022208 := by
  obtain ⟨fuel, hf⟩ := h
  obtain ⟨ys, n, _, hx, hlen, hyl, hg⟩ := DataW.trod_struct T.u hf
  match ys, hyl with
  | [y0, y1, y2, y3, y4], _ =>
    have h1 := hg 1 f1 rfl
    rw [T.o1, T.t1, T.c1] at h1
    have h1' : DataW.trod enc P w base spare held n tl [.slice a s.shape.length cap] = some y1 := h1
    simp only [Prod.mk.injEq] at hx
    have hd := hx.1
    subst hd
    rcases DataW.trod_slice T.ul h1' with ⟨hc, _⟩ | ⟨a', len, cap', elems, rest, _, _, hc, hy, _, _, _, hl, _, _, _⟩
    · simp only [List.cons.injEq, Value.slice.injEq, and_true] at hc
      rw [hc.2.1]; decide
    · simp only [List.cons.injEq, Value.slice.injEq, and_true] at hc
      have hb : ((elems.map (·.1)).length + (rest.map (·.1)).length) * P.bytesOf e ∈ DataW.weightsEach P (t :: ts) (DataW.agg (List.map (fun x => x.1) [y0, y1, y2, y3, y4]) :: r) := by
        rw [DataW.weightsEach, DataW.weights, T.u]
        refine List.mem_append_left _ ?_
        show _ ∈ DataW.weightsEach P (f0.type :: f1.type :: [f2.type, f3.type, f4.type]) (y0.1 :: y1.1 :: [y2.1, y3.1, y4.1])
        rw [DataW.weightsEach, DataW.weightsEach]
        refine List.mem_append_right _ (List.mem_append_left _ ?_)
        rw [hy, T.t1, DataW.weights, T.ul]
        exact List.mem_cons_self ..
      have := List.all_eq_true.1 hw _ hb
      rw [decide_eq_true_eq, hbe, List.length_map, hl] at this
      unfold reachBytes at this
      omega
section
variable {H : Type} {enc : TypeId × Value → H} {P : Program} {w : World} {base : Nat} {spare : Nat → Bool} {held : Bool}
theorem open_stsB {t ts tl e : TypeId} {f0 f1 f2 f3 f4 fx fz : Field} {fuel : Nat} {cs : List Value} {x : DataW H × List MemPlace} (ht : P.underlying t = some (.slice ts)) (T : StnT P ts tl e f0 f1 f2 f3 f4 fx fz) (hbe : P.bytesOf e = 16) (h : DataW.trod enc P w base spare held fuel t cs = some x)
    (hx : (x.1.weights P t).all (· ≤ reachBytes) = true) :
    ∃ (a : Option Addr) (L : List SC) (cap : Nat), cs = [.slice a L.length cap] ∧ Has w (Elems a 6 encSC L) ∧ L.length ≤ cap ∧ (∀ z ∈ L, Has w (Pts z.a z.s.shape)) ∧ (∀ z ∈ L, StnIn z.s) ∧ (∀ z ∈ L, Fits z.s.name.size) ∧ ∀ z ∈ L, z.s.shape.length ≤ 8796093022208 := by
  rcases Go.Deep.open_slice ht h with ⟨rfl, _⟩ | ⟨a, len, cap, m, n, D, Pl, rfl, hb, hl, hm, hmm, hxe, hi⟩
  · exact ⟨none, [], 0, rfl, ⟨fun _ => False, fun _ h => h.elim, .inl rfl⟩, Nat.le_refl _, by simp, by simp, by simp, by simp⟩
  · have hlm : len ≤ m := by rw [hmm]; split <;> omega
    obtain ⟨L, hll, hq⟩ := list_of (Q := fun i (z : SC) => StnIn z.s ∧ Has w (Pts z.a z.s.shape) ∧ (Fits z.s.name.size ∧ z.s.shape.length ≤ 8796093022208) ∧ ∀ j v, (encSC z)[j]? = some v → w.cell? (a.add (i * 6 + j)) = some v) len (fun i hil => by
      obtain ⟨cs', hc, ht'⟩ := hi i (by omega)
      obtain ⟨s, sa, sc, h1, h2, _, rfl⟩ := open_stn T ht'
      rw [T.c] at hc
      obtain ⟨_, _, hat⟩ := World.cells?_some hc
      refine ⟨⟨s, sa, sc⟩, h1, h2, ?_, fun j v hj => ?_⟩
      · suffices hwt : (DataW.weightsEach P (ts :: []) (D i :: [])).all (· ≤ reachBytes) = true from
          ⟨stone_fits T (ts := []) (r := []) (show DataW.Trod enc P w base spare held ts (stnV s sa sc) (D i) (Pl i) from ⟨n, ht'⟩) hwt, stone_big T hbe (ts := []) (r := []) (show DataW.Trod enc P w base spare held ts (stnV s sa sc) (D i) (Pl i) from ⟨n, ht'⟩) hwt⟩
        rw [hxe] at hx
        have he : DataW.weightsEach P [ts] [D i] = (D i).weights P ts := by simp [DataW.weightsEach]
        rw [he, List.all_eq_true]
        intro k hk
        refine List.all_eq_true.1 hx k ?_
        rw [DataW.weights, ht]
        refine List.mem_cons_of_mem _ (List.mem_append_left _ (weights_all (List.mem_map.2 ⟨i, List.mem_range.2 hil, rfl⟩) k hk))
      · have hj6 : j < 6 := (List.getElem?_eq_some_iff.1 hj).1
        have h0 := hat j hj6
        rw [Go.Deep.add_add] at h0
        rw [h0]; exact hj)
    refine ⟨some a, L, cap, by rw [hll], ?_, by omega, fun z hz => ?_, fun z hz => ?_, fun z hz => ?_, fun z hz => ?_⟩
    · cases L with
      | nil => exact ⟨fun _ => False, fun _ h => h.elim, .inl rfl⟩
      | cons z0 r =>
        have hc0 := (hq 0 z0 rfl).2.2.2 0 _ rfl
        obtain ⟨b, off, sp⟩ := a
        have hsp : sp = none := by
          cases sp with
          | none => rfl
          | some s =>
            exfalso
            simp only [World.cell?, Addr.add] at hc0
            split at hc0 <;> simp_all
        subst hsp
        have hbs : b < w.heap.size := by
          rcases Nat.lt_or_ge b w.heap.size with h | h
          · exact h
          · exfalso
            rw [addr_add] at hc0
            simp [World.cell?, Array.getElem?_eq_none h] at hc0
        refine ⟨(· = b), fun k hk => by rw [hk]; exact hbs, .inr ⟨b, off, rfl, fun _ => Iff.rfl, fun i z hz => cellsAt_of _ _ fun j v hj => ?_⟩⟩
        have := (hq i z hz).2.2.2 j v hj
        rw [addr_add] at this
        rw [Nat.add_assoc]; exact this
    · obtain ⟨i, hi', rfl⟩ := List.getElem_of_mem hz
      exact (hq i _ (by simp [hi'])).2.1
    · obtain ⟨i, hi', rfl⟩ := List.getElem_of_mem hz
      exact (hq i _ (by simp [hi'])).1
    · obtain ⟨i, hi', rfl⟩ := List.getElem_of_mem hz
      exact (hq i _ (by simp [hi'])).2.2.1.1
    · obtain ⟨i, hi', rfl⟩ := List.getElem_of_mem hz
      exact (hq i _ (by simp [hi'])).2.2.1.2
end
end Go.Proofs.YtmpaebfjnjmmlaaGreatDoor

namespace Go.K
open Go Go.RowKit
structure Slots (c : Cx) (H : List Res) (G : Nat → Option Res) (B : Nat → Nat → Prop) (w : World) : Prop where
  own : ∀ j R, G j = some R → R.A (B j) w ∧ ∀ k, B j k → ¬ c.U k ∧ k < w.heap.size
  dis : ∀ i j, (G i).isSome = true → (G j).isSome = true → i ≠ j → ∀ k, B i k → ¬ B j k
  out : Holds H (fun k => c.U k ∨ ∃ i, (G i).isSome = true ∧ B i k) w
section
variable {c : Cx} {H : List Res} {G : Nat → Option Res} {B : Nat → Nat → Prop} {w w' : World}
theorem Slots.congr {G' : Nat → Option Res} (h : Slots c H G B w) (hg : ∀ j, G' j = G j) : Slots c H G' B w := by
  have : G' = G := funext hg
  rw [this]; exact h
theorem Slots.ext (h : Slots c H G B w) (hx : Ext w w') : Slots c H G B w' :=
  ⟨fun j R hj => ⟨R.loc _ w w' (fun k hk => hx.block k ((h.own j R hj).2 k hk).2) (h.own j R hj).1, fun k hk => ⟨((h.own j R hj).2 k hk).1, Nat.lt_of_lt_of_le ((h.own j R hj).2 k hk).2 hx.size⟩⟩, h.dis, Holds.ext hx h.out⟩
theorem Slots.new (h : Slots c H G B w) (hb : Base c.U c.w0 w) (hx : Ext w w') (i : Nat) {R : Res} {Bn : Nat → Prop} (hBn : ∀ k, Bn k → w.heap.size ≤ k ∧ k < w'.heap.size) (hA : R.A Bn w') :
    Slots c H (fun j => if j = i then some R else G j) (fun j => if j = i then Bn else B j) w' := by
  have h' := h.ext hx
  have hUlt : ∀ k, c.U k → k < w.heap.size := fun k hk => Nat.lt_of_lt_of_le (hb.lt k hk) hb.size
  refine ⟨fun j S hj => ?_, fun a b ha hb' hab k hk1 hk2 => ?_, ?_⟩
  · by_cases hji : j = i
    · simp only [if_pos hji, Option.some.injEq] at hj ⊢
      subst hj
      exact ⟨hA, fun k hk => ⟨fun hu => by have := hUlt k hu; have := (hBn k hk).1; omega, (hBn k hk).2⟩⟩
    · simp only [if_neg hji] at hj ⊢
      exact h'.own j S hj
  · by_cases hai : a = i
    · have hbi : b ≠ i := fun e => hab (hai.trans e.symm)
      simp only [if_pos hai] at ha hk1
      simp only [if_neg hbi] at hb' hk2
      obtain ⟨S, hS⟩ := Option.isSome_iff_exists.1 hb'
      have := ((h.own b S hS).2 k hk2).2
      have := (hBn k hk1).1
      omega
    · simp only [if_neg hai] at ha hk1
      by_cases hbi : b = i
      · simp only [if_pos hbi] at hb' hk2
        obtain ⟨S, hS⟩ := Option.isSome_iff_exists.1 ha
        have := ((h.own a S hS).2 k hk1).2
        have := (hBn k hk2).1
        omega
      · simp only [if_neg hbi] at hb' hk2
        exact h.dis a b ha hb' hab k hk1 hk2
  · have key : ∀ (L : List Res) (V V' : Nat → Prop), (∀ k, k < w.heap.size → V' k → V k) → Holds L V w → Holds L V' w' := by
      intro L
      induction L with
      | nil => intro _ _ _ _; trivial
      | cons R L ih =>
        intro V V' hV hh
        obtain ⟨C, hC, hA, hr'⟩ := hh
        refine ⟨C, fun k hk => ⟨fun hv => (hC k hk).1 (hV k (hC k hk).2 hv), Nat.lt_of_lt_of_le (hC k hk).2 hx.size⟩, R.loc C w w' (fun k hk => hx.block k (hC k hk).2) hA, ?_⟩
        exact ih _ _ (fun k hk hv => hv.imp (hV k hk) id) hr'
    refine key H _ _ ?_ h.out
    rintro k hk (hu | ⟨j, hj, hbj⟩)
    · exact .inl hu
    · by_cases hji : j = i
      · simp only [if_pos hji] at hbj
        have := (hBn k hbj).1
        omega
      · simp only [if_neg hji] at hj hbj
        exact .inr ⟨j, hj, hbj⟩
theorem Slots.holds (h : Slots c H G B w) : ∀ (js : List Nat) (Rs : List Res), F2 (fun j R => G j = some R) js Rs → js.Nodup → Holds (Rs ++ H) c.U w := by
  have key : ∀ (js : List Nat) (Rs : List Res) (X : Nat → Prop), F2 (fun j R => G j = some R) js Rs → js.Nodup → (∀ j ∈ js, ¬ X j) → Holds (Rs ++ H) (fun k => c.U k ∨ ∃ i, X i ∧ (G i).isSome = true ∧ B i k) w := by
    intro js
    induction js with
    | nil =>
      intro Rs X hf _ _
      cases Rs with
      | nil => exact Holds.anti H (fun k hk => by
          rcases hk with hu | ⟨i, _, hi, hb⟩
          · exact .inl hu
          · exact .inr ⟨i, hi, hb⟩) h.out
      | cons _ _ => exact hf.elim
    | cons j js ih =>
      intro Rs X hf hn hX
      cases Rs with
      | nil => exact hf.elim
      | cons R Rs =>
        obtain ⟨hj, hf'⟩ := hf
        rw [List.nodup_cons] at hn
        obtain ⟨g1, g2⟩ := h.own j R hj
        refine ⟨B j, fun k hk => ⟨?_, (g2 k hk).2⟩, g1, ?_⟩
        · rintro (hu | ⟨i, hXi, hi, hbi⟩)
          · exact (g2 k hk).1 hu
          · exact h.dis j i (by rw [hj]; rfl) hi (fun e => hX j (List.mem_cons_self ..) (e ▸ hXi)) k hk hbi
        · refine Holds.anti _ ?_ (ih Rs (fun i => X i ∨ i = j) hf' hn.2 (fun i hi hx => ?_))
          · rintro k ((hu | ⟨i, hXi, hi, hbi⟩) | hk)
            · exact .inl hu
            · exact .inr ⟨i, .inl hXi, hi, hbi⟩
            · exact .inr ⟨j, .inr rfl, by rw [hj]; rfl, hk⟩
          · rcases hx with hx | hx
            · exact hX i (List.mem_cons_of_mem _ hi) hx
            · subst hx; exact hn.1 hi
  intro js Rs hf hn
  refine Holds.anti _ (fun k hk => .inl hk) (key js Rs (fun _ => False) hf hn (fun _ _ h => h))
end
/-- what operation i is: where its value goes, whose memory it makes or turns, its value, that memory; all out of what was chosen -/
structure E3 (XS : Nat → Type) where
  i : Nat
  d : Option Nat
  t : Option Nat
  V : ((i : Nat) → XS i) → Value
  A : ((i : Nat) → XS i) → Res
def tIs (t : Option Nat) (j : Nat) : Bool := match t with
  | some k => Nat.beq k j
  | none => false
/-- i waits for j, by a table -/
def rcf (ms : List Nat) (i j : Nat) : Bool := Nat.blt j i && Nat.beq (Nat.land (Nat.shiftRight (ms.getD i 0) j) 1) 1
section
variable {XS : Nat → Type}
def slotAt (ρ : (i : Nat) → XS i) (done : Nat → Bool) (j : Nat) : List (E3 XS) → Option Res
  | [] => none
  | x :: r => bif tIs x.t j && done x.i then some (x.A ρ) else slotAt ρ done j r
def viewT (ρ : (i : Nat) → XS i) (f : Nat → Bool) : List (E3 XS) → List (Nat × Value)
  | [] => []
  | x :: r => match x.d with
    | some d => bif f x.i then (d, x.V ρ) :: viewT ρ f r else viewT ρ f r
    | none => viewT ρ f r
theorem viewT_spec {ρ : (i : Nat) → XS i} {f : Nat → Bool} {t : Nat} {v : Value} {T : List (Nat × Value)} : ∀ (S : List (E3 XS)), lk (viewT ρ f S ++ T) t = some v → (∃ x ∈ S, x.d = some t ∧ f x.i = true ∧ v = x.V ρ) ∨ lk T t = some v
  | [], h => .inr h
  | x :: r, h => by
    have rest : lk (viewT ρ f r ++ T) t = some v → (∃ y ∈ x :: r, y.d = some t ∧ f y.i = true ∧ v = y.V ρ) ∨ lk T t = some v := fun h => by
      rcases viewT_spec r h with ⟨y, hy, h2⟩ | h2
      · exact .inl ⟨y, List.mem_cons_of_mem _ hy, h2⟩
      · exact .inr h2
    unfold viewT at h
    cases hd : x.d with
    | none => rw [hd] at h; exact rest h
    | some d =>
      rw [hd] at h
      cases hf : f x.i with
      | false => rw [hf] at h; exact rest h
      | true =>
        rw [hf] at h
        simp only [cond_true, List.cons_append] at h
        by_cases hdt : d = t
        · subst hdt
          rw [lk_cons_self, Option.some.injEq] at h
          exact .inl ⟨x, List.mem_cons_self .., hd, hf, h.symm⟩
        · rw [lk_cons_ne hdt] at h; exact rest h
def Loc3 (ms : List Nat) (x : E3 XS) : Prop := ∀ ρ ρ' : (i : Nat) → XS i, (∀ j, (rcf ms x.i j = true ∨ j = x.i) → ρ j = ρ' j) → x.V ρ = x.V ρ' ∧ x.A ρ = x.A ρ'
end
end Go.K

namespace Go.K
open Go Go.RowKit
abbrev onF (listed : Array Bool) : Nat → Bool := fun k => listed.getD k false
/-- the state when the operations of 'listed' are done -/
structure Inv3 {XS : Nat → Type} (c : Cx) (ds : List Deferred) (ops pre : List Oper) (T0 : List (Nat × Value)) (H : List Res) (S : List (E3 XS)) (listed : Array Bool) (a : Act) (w : World) : Prop where
  base : Base c.U c.w0 w
  size : a.tmps.size = c.n
  defers : a.defers = ds
  closed : ∀ (k : Nat) (o : Oper), ops[k]? = some o → isOn listed k → ∀ j, bindsTo o j = true → isOn listed j
  old : ∀ s v, lk T0 s = some v → (∀ (i : Nat) (o : Oper), pre[i]? = some o → isOn listed i → o.dst ≠ some s) → a.tmps[s]? = some v
  fam : ∃ (ρ : (i : Nat) → XS i) (B : Nat → Nat → Prop), (∀ x ∈ S, isOn listed x.i → ∀ d, x.d = some d → a.tmps[d]? = some (x.V ρ)) ∧ Slots c H (fun j => slotAt ρ (onF listed) j S) B w
section
variable {XS : Nat → Type} {c : Cx} {ds : List Deferred} {p : Post} {ops pre suf : List Oper} {T0 : List (Nat × Value)} {H : List Res} {S : List (E3 XS)} {listed : Array Bool} {a : Act} {w : World} {ms : List Nat}
theorem closed_set (hI : ∀ (k : Nat) (o : Oper), ops[k]? = some o → isOn listed k → ∀ j, bindsTo o j = true → isOn listed j) {i : Nat} {o : Oper} (ho : ops[i]? = some o) (hil : i < listed.size) (hclo : ∀ j, bindsTo o j = true → isOn listed j) :
    ∀ (k : Nat) (o : Oper), ops[k]? = some o → isOn (listed.setIfInBounds i true) k → ∀ j, bindsTo o j = true → isOn (listed.setIfInBounds i true) j := by
  have hon : ∀ j, isOn (listed.setIfInBounds i true) j ↔ j = i ∨ isOn listed j := isOn_set hil
  intro k ok hk honk j hj
  rcases (hon k).1 honk with rfl | hk'
  · rw [ho] at hk; cases hk
    exact (hon j).2 (.inr (hclo j hj))
  · exact (hon j).2 (.inr (hI k ok hk hk' j hj))
/-- what the entries are -/
structure Ents3 (ms : List Nat) (pre : List Oper) (S : List (E3 XS)) : Prop where
  nd : (S.map (·.i)).Nodup
  op : ∀ x ∈ S, ∃ o, pre[x.i]? = some o ∧ o.dst = x.d
  loc : ∀ x ∈ S, Loc3 ms x
  /-- a store waits for whoever is at its slot before it -/
  sto : ∀ x ∈ S, ∀ j, x.t = some j → j ≠ x.i → rcf ms x.i j = true ∧ ∀ r, r < x.i → rcf ms r j = true → rcf ms x.i r = true
theorem Ents3.uniq (h : Ents3 ms pre S) : ∀ x ∈ S, ∀ y ∈ S, x.i = y.i → x = y := by
  have key : ∀ (L : List (E3 XS)), (L.map (·.i)).Nodup → ∀ x ∈ L, ∀ y ∈ L, x.i = y.i → x = y := by
    intro L
    induction L with
    | nil => intro _ x hx; cases hx
    | cons z r ih =>
      intro hn x hx y hy hxy
      simp only [List.map_cons, List.nodup_cons] at hn
      rcases List.mem_cons.1 hx with rfl | hx' <;> rcases List.mem_cons.1 hy with rfl | hy'
      · rfl
      · exact absurd (List.mem_map.2 ⟨y, hy', hxy.symm⟩) hn.1
      · exact absurd (List.mem_map.2 ⟨x, hx', hxy⟩) hn.1
      · exact ih hn.2 x hx' y hy' hxy
  exact key S h.nd
theorem Inv3.sat (hI : Inv3 c ds ops pre T0 H S listed a w) {ρ : (i : Nat) → XS i} (hv : ∀ x ∈ S, isOn listed x.i → ∀ d, x.d = some d → a.tmps[d]? = some (x.V ρ)) {i : Nat} (hpre : ∀ (k : Nat) o, pre[k]? = some o → ops[k]? = some o) (hun : ¬ isOn listed i)
    {o : Oper} (hclo : ∀ j, bindsTo o j = true → isOn listed j) {S' : List (E3 XS)} (hS : ∀ x ∈ S', x ∈ S) : Sat c.n (viewT ρ (bindsTo o) S' ++ baseT pre i T0) ds a := by
  refine ⟨hI.size, fun t v h => ?_, hI.defers⟩
  rcases viewT_spec S' h with ⟨x, hx, hd, hb, rfl⟩ | h
  · exact hv x (hS x hx) (hclo _ hb) t hd
  · rw [baseT_eq] at h
    obtain ⟨h1, h2⟩ := lk_filter (fun s => pre.all (fun f => (match f.dst with | some d => !Nat.beq d s | none => true) || bindsTo f i)) T0 _ (fun _ _ _ _ => trivial) rfl t v h
    refine hI.old t v h1 fun k o hk hon hd => ?_
    rw [List.all_eq_true] at h2
    have h3 := h2 o (List.mem_of_getElem? hk)
    rw [hd] at h3
    simp only [Nat.beq_refl, Bool.not_true, Bool.false_or] at h3
    exact hun (hI.closed k o (hpre k o hk) hon i h3)
theorem Inv3.put (hI : Inv3 c ds ops pre T0 H S listed a w) (hE : Ents3 ms pre S) {i d : Nat} {o : Oper} {x : E3 XS} (hx : x ∈ S) (hxi : x.i = i) (hp : pre[i]? = some o) (ho : ops[i]? = some o) (hil : i < listed.size) (hd : o.dst = some d) (hxd : x.d = some d)
    (hdist : ∀ j oj, pre[j]? = some oj → j ≠ i → oj.dst ≠ some d) (hn : d < c.n) (hclo : ∀ j, bindsTo o j = true → isOn listed j) {w' : World} {v : Value} (hb : Base c.U c.w0 w') {ρ' : (i : Nat) → XS i} {B' : Nat → Nat → Prop}
    (hv : v = x.V ρ') (hold : ∀ y ∈ S, isOn listed y.i → y.i ≠ i → ∀ d', y.d = some d' → a.tmps[d']? = some (y.V ρ')) (hs : Slots c H (fun j => slotAt ρ' (onF (listed.setIfInBounds i true)) j S) B' w') :
    Inv3 c ds ops pre T0 H S (listed.setIfInBounds i true) (a.put (some d) v) w' := by
  have hon : ∀ j, isOn (listed.setIfInBounds i true) j ↔ j = i ∨ isOn listed j := isOn_set hil
  have hput : ∀ t u, t ≠ d → a.tmps[t]? = some u → (a.put (some d) v).tmps[t]? = some u := fun t u ht hu => by
    simp only [Act.put]
    rw [Array.getElem?_setIfInBounds_ne (Ne.symm ht)]; exact hu
  refine ⟨hb, by simp [Act.put, hI.size], hI.defers, closed_set hI.closed ho hil hclo, ?_, ρ', B', ?_, hs⟩
  · intro s u hs' hno
    have hsd : s ≠ d := fun h => hno i o hp ((hon i).2 (.inl rfl)) (by rw [hd, h])
    exact hput s u hsd (hI.old s u hs' (fun k ok hk hlk => hno k ok hk ((hon k).2 (.inr hlk))))
  · intro y hy hoy d' hd'
    by_cases hyi : y.i = i
    · have : y = x := hE.uniq y hy x hx (hyi.trans hxi.symm)
      subst this
      rw [hxd, Option.some.injEq] at hd'
      subst hd'
      simp [Act.put, hI.size, hn, hv]
    · have hly : isOn listed y.i := ((hon y.i).1 hoy).resolve_left hyi
      refine hput d' _ ?_ (hold y hy hly hyi d' hd')
      intro hdd
      obtain ⟨oy, hoy', hdy⟩ := hE.op y hy
      exact hdist y.i oy hoy' hyi (by rw [hdy, hd', hdd])
end
end Go.K

namespace Go.K
open Go Go.RowKit
section
variable {α : Type} {k : Nat} {enc : α → List Value} {P : Program}
theorem ext_drew (w : World) : Ext w w.drew := ⟨rfl, ⟨rfl, Nat.le_succ _⟩, rfl, Nat.le_refl _, fun _ _ => rfl⟩
variable {c : Cx} {ds : List Deferred} {H : List Res} {T : List (Nat × Value)} {d : Option Nat} {ty : TypeId} {ps : String} {af : Array Edge} {g : Option (Nat × Bool)} {x y : Operand}
end
end Go.K

namespace Go.K
open Go Go.RowKit
abbrev encU8 (b : UInt8) : List Value := [.int .u8 b.toNat]
theorem encU8_ok : Enc 1 encU8 := ⟨fun _ => rfl, fun _ => rfl, by decide⟩
theorem flat_u8 (s : ByteArray) : s.data.toList.flatMap encU8 = Lib.strCells s := by
  unfold Lib.strCells
  induction s.data.toList with
  | nil => rfl
  | cons a r ih => simp [List.flatMap_cons, ih]
theorem run_append_rowS {P : Program} {t u ty e : TypeId} (ht : P.underlying t = some (.slice e)) (hu : P.underlying u = some .string) (hi : (P.info? e).map (fun i => (i.size, i.bytes, i.zero)) = some (1, 1, some (.int .u8 0)))
    {a : Option Addr} {cap : Nat} {l : List UInt8} {s : ByteArray} {w : World} {B : Nat → Prop}
    (hR : (Row a 1 cap e encU8 l).A B w) (hb : l.length + s.size ≤ 140737488355328) :
    ∃ a' cap' w' B', (Builtin.append_ #[t, u] ty #[.slice a l.length cap, .string s]).run P w = .ok (.slice a' (l.length + s.size) cap') w' ∧ Mod B w w' ∧ Own B B' w w' ∧ (Row a' 1 cap' e encU8 (l ++ s.data.toList)).A B' w' ∧ ((∀ x, a = some x → x.off = 0) → ∀ x, a' = some x → x.off = 0) := by
  cases hu0 : P.info? e with
  | none => rw [hu0] at hi; cases hi
  | some i =>
  rw [hu0] at hi
  simp only [Option.map_some, Option.some.injEq, Prod.mk.injEq] at hi
  obtain ⟨hsz, hby, hz0⟩ := hi
  have hcap := Row.bounds hR
  have hsl : s.data.toList.length = s.size := by rw [Array.length_toList]; rfl
  have hnl := Lib.strCells_length s
  by_cases hroom : l.length + s.size ≤ cap
  · rcases hR with ⟨rfl, rfl, rfl⟩ | ⟨b, off, cs, ha, hB, hbk, h1, h2, h3⟩
    · have hs0 : s.size = 0 := by simpa using hroom
      have hse : s.data.toList = [] := List.length_eq_zero_iff.1 (by omega)
      refine ⟨none, 0, w, B, ?_, Mod.rfl, fun k hk => .inl hk, .inl ⟨rfl, rfl, by simp [hse]⟩, fun _ _ h => by cases h⟩
      have hf := Lib.run_firstCells_string (P := P) w i.size s
      rw [hs0] at hf
      simp [Builtin.append_, run_underlying ht, run_underlying hu, sizeOf, typeInfo, hu0, Builtin.lenOf, hs0, hf, storeCells, Lib.strCells, hse]
    · subst ha
      have hfit : off + l.length + (Lib.strCells s).length ≤ cs.length := by rw [hnl]; omega
      have hall : (Lib.strCells s).all cell1 = true := by rw [← flat_u8]; exact flat_all encU8_ok _
      obtain ⟨w', hr, hmd, hb'⟩ := run_storeCells (P := P) (b := b) (o := off) (Lib.strCells s) cs l.length w hbk (by omega) hall
      refine ⟨some ⟨b, off, none⟩, cap, w', (· = b), ?_, ⟨hmd.os, hmd.tape, hmd.output, hmd.size, fun j hj hbj => hmd.same j hj (fun h => hbj ((hB j).2 h))⟩, fun j hj => .inl ((hB j).2 hj), ?_, fun h x hx => by cases hx; exact h _ rfl⟩
      · have hf := Lib.run_firstCells_string (P := P) w 1 s
        have key : ∀ (vs : List Value) (q j : Nat) (w : World), (storeCells ⟨b, off, none⟩ vs (q + j)).run P w = (storeCells (Addr.add ⟨b, off, none⟩ q) vs j).run P w := by
          intro vs q
          induction vs with
          | nil => intro j w; rfl
          | cons v r ih =>
            intro j w
            unfold storeCells
            simp only [Sem.run_bind, addr_add]
            rw [show off + (q + j) = off + q + j from by omega]
            congr 1
            funext _ w1
            rw [show q + j + 1 = q + (j + 1) from by omega]
            have := ih (j + 1) w1
            rw [addr_add] at this
            exact this
        have hst := (key (Lib.strCells s) l.length 0 w).symm.trans (by first | exact hr | (rw [Nat.add_zero]; exact hr))
        simp [Builtin.append_, run_underlying ht, run_underlying hu, sizeOf, typeInfo, hu0, hsz, Builtin.lenOf, hroom, hf, hst]
      · refine .inr ⟨b, off, over cs (off + l.length) (Lib.strCells s), rfl, fun _ => Iff.rfl, hb', by simpa [hsl] using hroom, by rw [over_length]; exact h2, ?_⟩
        obtain ⟨t1, t2⟩ := over_take (Lib.strCells s) cs (off + l.length) (by omega)
        rw [List.flatMap_append, flat_u8, List.length_append, hsl, Nat.mul_one, ← hnl]
        have e1 : ((over cs (off + l.length) (Lib.strCells s)).drop off).take l.length = l.flatMap encU8 := by
          rw [← h3]
          have := congrArg (List.drop off) t1
          rw [List.drop_take, List.drop_take, Nat.add_sub_cancel_left] at this
          rw [this, Nat.mul_one]
        rw [List.take_add, e1, List.drop_drop, t2]
  · have hg : cap < l.length + s.size := by omega
    rcases hR with ⟨ha, hc0, hl0⟩ | ⟨b, off, cs, ha, hB, hbk, h1, h2, h3⟩
    · subst ha; subst hc0; subst hl0
      have hs0 : 0 < s.size := by simpa using hg
      have hr := run_append_nil_string (P := P) w t u ty e i (.int .u8 0) ht hu hu0 hz0 s hs0 (by simp at hb; omega) (by rw [hby]; simp at hb; omega)
      have hge := grownCap_ge w s.size 0 e
      refine ⟨some ⟨w.heap.size, 0, none⟩, grownCap w s.size 0 e, w.drew.alloc (.cells (s.data.map (fun b => Value.int .u8 b.toNat) ++ Builtin.zeroCells (Value.int .u8 0).cells (grownCap w s.size 0 e - s.size)) e), (· = w.heap.size), by simpa only [List.length_nil, Nat.zero_add] using hr, ⟨rfl, ⟨rfl, Nat.le_succ _⟩, rfl, by simp, fun j hj _ => heap_alloc_old w.drew _ hj⟩, fun j hj => .inr ⟨by omega, by subst hj; simp⟩, .inr ⟨w.heap.size, 0, Lib.strCells s ++ (Builtin.zeroCells (Value.int .u8 0).cells (grownCap w s.size 0 e - s.size)).toList, rfl, fun _ => Iff.rfl, ?_, ?_, ?_, ?_⟩, fun _ x hx => by cases hx; rfl⟩
      · refine (World.alloc_heap_new w.drew _).trans ?_
        congr 2
        apply Array.ext'
        simp [Lib.strCells]
      · simpa [hsl] using hge
      · have hz1 : (Value.int IntKind.u8 0).cells.size = 1 := rfl
        simp only [List.length_append, hnl, Array.length_toList, size_zeroCells, hz1]
        omega
      · simp only [List.drop_zero, List.nil_append, Nat.mul_one, hsl, ← hnl, List.take_left, flat_u8]
    · subst ha
      have holds : ∀ j v, (l.flatMap encU8)[j]? = some v → w.cell? ((⟨b, off, none⟩ : Addr).add j) = some v := by
        intro j v hj
        rw [addr_add, row_cells hbk]
        rw [← h3, List.getElem?_take] at hj
        split at hj
        · rwa [List.getElem?_drop] at hj
        · cases hj
      have hlo : (l.flatMap encU8).length = l.length * i.size := by rw [hsz]; exact flat_len encU8_ok l
      have hr := Lib.run_append_grow_string (P := P) w t u ty e i (.int .u8 0) ht hu hu0 hz0 ⟨b, off, none⟩ l.length cap (l.flatMap encU8) hlo holds s hg (by omega) (by rw [hby]; exact growslice_fits hg (by omega))
      have hge := grownCap_ge w (l.length + s.size) cap e
      rw [hsz] at hlo
      refine ⟨some ⟨w.heap.size, 0, none⟩, grownCap w (l.length + s.size) cap e, w.drew.alloc (.cells ((l.flatMap encU8).toArray ++ (Lib.strCells s).toArray ++ Builtin.zeroCells (Value.int .u8 0).cells (grownCap w (l.length + s.size) cap e - (l.length + s.size))) e), (· = w.heap.size), hr, ⟨rfl, ⟨rfl, Nat.le_succ _⟩, rfl, by simp, fun j hj _ => heap_alloc_old w.drew _ hj⟩, fun j hj => .inr ⟨by omega, by subst hj; simp⟩, .inr ⟨w.heap.size, 0, l.flatMap encU8 ++ Lib.strCells s ++ (Builtin.zeroCells (Value.int .u8 0).cells (grownCap w (l.length + s.size) cap e - (l.length + s.size))).toList, rfl, fun _ => Iff.rfl, ?_, ?_, ?_, ?_⟩, fun _ x hx => by cases hx; rfl⟩
      · refine (World.alloc_heap_new w.drew _).trans ?_
        congr 2
        exact Array.ext' (by simp)
      · simpa [hsl] using hge
      · have hz1 : (Value.int IntKind.u8 0).cells.size = 1 := rfl
        simp only [List.length_append, hlo, hnl, Array.length_toList, size_zeroCells, hz1]
        omega
      · simp only [List.drop_zero, List.flatMap_append, List.length_append, hsl, Nat.mul_one, flat_u8]
        rw [← hnl, ← Nat.mul_one l.length, ← hlo, ← List.length_append, List.take_left]
end Go.K

namespace Go.K
open Go Go.RowKit Go.Shelf Go.Proofs
/-- a builder of a text, that holds the bytes l -/
def Bld (b : Nat) (T e : TypeId) (l : List UInt8) : Res where
  A B w := ∃ p v a c B1, w.heap[b]? = some (.cells #[p, v] T (0, 0)) ∧ (p = .pointer none ∨ p = .pointer (some ⟨b, 0, none⟩)) ∧ v = .slice a l.length c ∧ (Row a 1 c e encU8 l).A B1 w ∧ ¬ B1 b ∧ (∀ k, B k ↔ (k = b ∨ B1 k)) ∧ ∀ x, a = some x → x.off = 0
  loc _ w w' h hA := by
    obtain ⟨p, v, a, c, B1, h1, h2, h3, h4, h5, h6, h7⟩ := hA
    exact ⟨p, v, a, c, B1, (h b ((h6 b).2 (.inl rfl))).trans h1, h2, h3, (Row a 1 c e encU8 l).loc B1 w w' (fun k hk => h k ((h6 k).2 (.inr hk))) h4, h5, h6, h7⟩
section
variable {P : Program} {ρ : Ren}
theorem mod_setCell {w : World} {b o : Nat} {v : Value} {cs : Array Value} {t : TypeId} (h : w.heap[b]? = some (.cells cs t (0, 0))) :
    Mod (· = b) w (w.setCell ⟨b, o, none⟩ v) ∧ (w.setCell ⟨b, o, none⟩ v).heap[b]? = some (.cells (cs.setIfInBounds o v) t (0, 0)) := by
  refine ⟨⟨by simp [World.setCell], ⟨by simp [World.setCell], by simp [World.setCell]⟩, by simp [World.setCell], ?_, fun k hk hb => ?_⟩, ?_⟩
  · simp [World.setCell]
  · simp only [World.setCell]
    rw [Array.getElem?_modify, if_neg (fun e => hb e.symm)]
  · simp only [World.setCell]
    rw [Array.getElem?_modify, if_pos rfl, h]
    rfl
theorem copyCheck_m (L : Lays.n240 P ρ) (X : Builder.X72 P ρ) {b : Nat} {p v : Value} {w : World} (hbk : w.heap[b]? = some (.cells #[p, v] (ρ.t 72) (0, 0))) (hp : p = .pointer none ∨ p = .pointer (some ⟨b, 0, none⟩)) :
    Calls P (ρ.f 240) #[.pointer (some ⟨b, 0, none⟩)] w fun e w' => e = .returned (.tuple #[]) ∧ w'.heap[b]? = some (.cells #[.pointer (some ⟨b, 0, none⟩), v] (ρ.t 72) (0, 0)) ∧ Mod (· = b) w w' := by
  have c0 : w.cell? ⟨b, 0, none⟩ = some p := by rw [Lib.cell_of_heap hbk]; rfl
  rcases hp with rfl | rfl
  · refine (Any.Builder_copyCheck_fresh L X b w c0 (by simp [World.shape?, hbk]) (Lib.frozen_of_heap hbk 0)).mono ?_
    rintro e w' ⟨rfl, rfl⟩
    obtain ⟨h1, h2⟩ := mod_setCell (o := 0) (v := .pointer (some ⟨b, 0, none⟩)) hbk
    exact ⟨rfl, h2, h1⟩
  · refine (Any.Builder_copyCheck_used L X b w c0).mono ?_
    rintro e w' ⟨rfl, rfl⟩
    exact ⟨rfl, hbk, Mod.rfl⟩
theorem wpList_append_rowS {ops : Array Oper} {rest : List Oper} {o : Oper} {a : Act} {Q : Exit → Act → World → Prop} (hgd : o.guard = none) (sl x : Operand) (t u e : TypeId)
    (ho : o.op = .call { callee := .builtin .append, args := #[sl, x], argTypes := #[t, u] }) (ht : P.underlying t = some (.slice e)) (hu : P.underlying u = some .string) (hi : (P.info? e).map (fun i => (i.size, i.bytes, i.zero)) = some (1, 1, some (.int .u8 0)))
    {ad : Option Addr} {cap : Nat} {l : List UInt8} {s : ByteArray} {w : World} {B : Nat → Prop} (hs : a.eval sl = .slice ad l.length cap) (hx : a.eval x = .string s) (hR : (Row ad 1 cap e encU8 l).A B w) (hb : l.length + s.size ≤ 140737488355328)
    (h : ∀ a' cap' w' B', Mod B w w' → Own B B' w w' → (Row a' 1 cap' e encU8 (l ++ s.data.toList)).A B' w' → ((∀ x, ad = some x → x.off = 0) → ∀ x, a' = some x → x.off = 0) → wpList P ops Q rest (a.put o.dst (.slice a' (l.length + s.size) cap')) w') :
    wpList P ops Q (o :: rest) a w := by
  refine wpList_plain hgd fun K hK => ?_
  obtain ⟨a', cap', w', B', hr, h2, h3, h4, h5⟩ := run_append_rowS (P := P) (ty := o.type) ht hu hi hR hb
  unfold Oper.wp execOp
  simp only [ho, resolve, invoke, builtin, Sem.run_bind, Sem.run_pure, Result.andThen_ok, List.map_toArray, List.map_cons, List.map_nil, hs, hx, hr]
  exact hK _ _ (h a' cap' w' B' h2 h3 h4 h5)
set_option maxHeartbeats 2000000 in
set_option maxRecDepth 100000 in
theorem writeString_turns (L : Lays.n166 P ρ) (X : Builder.Extra P ρ) {b : Nat} {l : List UInt8} (s : ByteArray) {w : World} {B : Nat → Prop} (hBl : ∀ k, B k → k < w.heap.size) (hA : (Bld b (ρ.t 72) (ρ.t 5) l).A B w) (hlen : l.length + s.size ≤ 140737488355328) :
    Calls P (ρ.f 166) #[.pointer (some ⟨b, 0, none⟩), .string s] w (Turns (fun _ : Unit => .tuple #[.int .i64 s.size, .nilIface]) (fun _ => Bld b (ρ.t 72) (ρ.t 5) (l ++ s.data.toList)) (fun _ => True) B w) := by
  obtain ⟨p, v, a, c, B1, hbk, hp, rfl, hR, hnb, hBk, hoff⟩ := hA
  have hinf : (P.info? (ρ.t 5)).map (fun i => (i.size, i.bytes, i.zero)) = some (1, 1, some (.int .u8 0)) := by
    have := X.infoByte
    cases hi : P.info? (ρ.t 5) with
    | none => rw [hi] at this; cases this
    | some i =>
      rw [hi] at this
      simp only [Option.map_some, Option.some.injEq, Prod.mk.injEq] at this ⊢
      exact ⟨this.2.1, this.2.2, this.1⟩
  have hlt : b < w.heap.size := hBl b ((hBk b).2 (.inl rfl))
  have mixed := L.mixed
  have t72 := L.t72; have a72 := L.a72; have z72 := L.z72; have v72 := L.v72; have u72 := run_underlying L.t72
  have t70 := L.t70; have a70 := L.a70; have z70 := L.z70; have v70 := L.v70; have u70 := run_underlying L.t70
  have t37 := L.t37; have a37 := L.a37; have z37 := L.z37; have v37 := L.v37; have u37 := run_underlying L.t37
  have t3 := L.t3; have a3 := L.a3; have z3 := L.z3; have v3 := L.v3; have u3 := run_underlying L.t3
  have t9 := L.t9; have a9 := L.a9; have z9 := L.z9; have v9 := L.v9; have u9 := run_underlying L.t9
  have t4 := L.t4; have a4 := L.a4; have z4 := L.z4; have v4 := L.v4; have u4 := run_underlying L.t4
  have t164 := L.t164; have a164 := L.a164; have z164 := L.z164; have v164 := L.v164; have u164 := run_underlying L.t164
  have t5 := X.t5; have a5 := X.a5; have z5 := X.z5; have v5 := X.v5; have u5 := run_underlying X.t5
  have e240 : ∀ args w, (callFunc (ρ.f 240) args).run P w = .ok (.enter (ρ.f 240) args) w := enters_of L.f240 (by kernel_rfl) rfl
  go_enter L.f166, Body.n166_ntmps ρ
  go_wp2_with (go_at_fn (ρ.f 240); refine (copyCheck_m { L with } X.toX72 hbk hp).mono ?_)
  rintro e w1 ⟨rfl, hbk1, hm1⟩
  have hR1 : (Row a 1 c (ρ.t 5) encU8 l).A B1 w1 := (Row a 1 c (ρ.t 5) encU8 l).loc B1 w w1 (fun k hk => hm1.same k (hBl k ((hBk k).2 (.inr hk))) (fun e => hnb (e ▸ hk))) hR
  have c0 : w1.cell? ⟨b, 0, none⟩ = some (.pointer (some ⟨b, 0, none⟩)) := by rw [Lib.cell_of_heap hbk1]; rfl
  have c1 : w1.cell? ⟨b, 1, none⟩ = some (.slice a l.length c) := by rw [Lib.cell_of_heap hbk1]; rfl
  go_wp2_with (at_builtin; refine wpList_append_rowS rfl _ _ (ρ.t 37) (ρ.t 9) (ρ.t 5) rfl L.t37 L.t9 hinf (s := s) rfl rfl hR1 hlen ?_)
  intro a' c' w2 B2 hm2 ho2 hR2 hoff2
  have hlt1 : b < w1.heap.size := Nat.lt_of_lt_of_le hlt hm1.size
  have hb2 : w2.heap[b]? = some (.cells #[.pointer (some ⟨b, 0, none⟩), .slice a l.length c] (ρ.t 72) (0, 0)) := by
    rw [hm2.same b hlt1 hnb]; exact hbk1
  have d0 : w2.cell? ⟨b, 0, none⟩ = some (.pointer (some ⟨b, 0, none⟩)) := by rw [Lib.cell_of_heap hb2]; rfl
  have d1 : w2.cell? ⟨b, 1, none⟩ = some (.slice a l.length c) := by rw [Lib.cell_of_heap hb2]; rfl
  have f1 : w2.frozen? ⟨b, 1, none⟩ = false := Lib.frozen_of_heap hb2 1
  go_wp2
  go_ret2
  obtain ⟨hm3, hb3⟩ := mod_setCell (o := 1) (v := .slice a' (l.length + s.size) c') hb2
  have hnb2 : ¬ B2 b := fun h => by
    rcases ho2 b h with h | h
    · exact hnb h
    · omega
  refine ⟨(), fun k => k = b ∨ B2 k, rfl, trivial, ?_, ?_, ?_⟩
  · refine ⟨hm3.os.trans (hm2.os.trans hm1.os), (hm1.tape.trans hm2.tape).trans hm3.tape, hm3.output.trans (hm2.output.trans hm1.output), Nat.le_trans hm1.size (Nat.le_trans hm2.size hm3.size), fun k hk hb => ?_⟩
    have hkb : k ≠ b := fun e => hb ((hBk k).2 (.inl e))
    have hk1 : ¬ B1 k := fun h => hb ((hBk k).2 (.inr h))
    rw [hm3.same k (Nat.lt_of_lt_of_le hk (Nat.le_trans hm1.size hm2.size)) hkb, hm2.same k (Nat.lt_of_lt_of_le hk hm1.size) hk1, hm1.same k hk hkb]
  · rintro k (rfl | hk)
    · exact .inl ((hBk _).2 (.inl rfl))
    · rcases ho2 k hk with h | h
      · exact .inl ((hBk k).2 (.inr h))
      · refine .inr ⟨Nat.le_trans hm1.size h.1, Nat.lt_of_lt_of_le h.2 hm3.size⟩
  · have hl2 : (l ++ s.data.toList).length = l.length + s.size := by rw [List.length_append, Array.length_toList]; rfl
    refine ⟨_, _, a', c', B2, hb3, .inr rfl, by rw [hl2], ?_, hnb2, fun _ => Iff.rfl, hoff2 hoff⟩
    refine (Row a' 1 c' (ρ.t 5) encU8 _).loc B2 w2 _ (fun k hk => hm3.same k ?_ (fun e => hnb2 (e ▸ hk))) hR2
    rcases ho2 k hk with h | h
    · exact Nat.lt_of_lt_of_le (hBl k ((hBk k).2 (.inr h))) (Nat.le_trans hm1.size hm2.size)
    · exact h.2
theorem mod_freeze {w : World} {g n : Nat} : Mod (· = g) w (w.drew.freeze ⟨g, 0, none⟩ n) := by
  have hw : w.drew.freeze ⟨g, 0, none⟩ n = { w.drew with heap := (w.drew.freeze ⟨g, 0, none⟩ n).heap } := by
    unfold World.freeze
    split <;> rfl
  rw [hw]
  refine ⟨rfl, ⟨rfl, Nat.le_succ _⟩, rfl, ?_, fun k hk hb => ?_⟩
  · show w.heap.size ≤ (w.drew.freeze ⟨g, 0, none⟩ n).heap.size
    unfold World.freeze
    split <;> simp
  · show (w.drew.freeze ⟨g, 0, none⟩ n).heap[k]? = _
    unfold World.freeze
    split
    · rfl
    · refine Array.getElem?_modify.trans ?_
      rw [if_neg (fun e => hb e.symm)]; rfl
set_option maxHeartbeats 2000000 in
set_option maxRecDepth 100000 in
theorem builderString_turns (L : Lays.n169 P ρ) (X : Builder.Extra P ρ) {b : Nat} {l : List UInt8} {w : World} {B : Nat → Prop} (_ : ∀ k, B k → k < w.heap.size) (hA : (Bld b (ρ.t 72) (ρ.t 5) l).A B w) (h0 : l ≠ []) (h63 : l.length ≤ 9223372036854775807) :
    Calls P (ρ.f 169) #[.pointer (some ⟨b, 0, none⟩)] w (Turns (fun _ : Unit => .string ⟨l.toArray⟩) (fun _ => Emp) (fun _ => True) B w) := by
  obtain ⟨p, v, a, c, B1, hbk, hp, rfl, hR, hnb, hBk, hoff⟩ := hA
  have hl0 : l.length ≠ 0 := by simpa using h0
  have hcap := Row.bounds hR
  rcases hR with ⟨_, _, hl⟩ | ⟨g, off, cs, ha, hB, hg, h1, h2, h3⟩
  · exact absurd hl h0
  obtain rfl : off = 0 := hoff _ ha
  subst ha
  rw [Nat.zero_add, Nat.mul_one] at h2
  rw [List.drop_zero, Nat.mul_one] at h3
  have c1 : w.drew.cell? ⟨b, 1, none⟩ = some (.slice (some ⟨g, 0, none⟩) l.length c) := by
    have : w.drew.heap[b]? = some (.cells #[p, .slice (some ⟨g, 0, none⟩) l.length c] (ρ.t 72) (0, 0)) := hbk
    rw [Lib.cell_of_heap this]; rfl
  have hSD : (Builtin.unsafeSliceData_ #[(ρ.t 37)] (ρ.t 127) #[.slice (some ⟨g, 0, none⟩) l.length c]).run P w.drew = .ok (.pointer (some ⟨g, 0, none⟩)) w.drew :=
    Lib.run_unsafeSliceData_row _ _ _ _ _ _ (by omega)
  have hUS : (Builtin.unsafeString_ #[(ρ.t 127), (ρ.t 3)] (ρ.t 9) #[.pointer (some ⟨g, 0, none⟩), .int .i64 l.length]).run P w.drew = .ok (.string ⟨l.toArray⟩) (w.drew.freeze ⟨g, 0, none⟩ l.length) := by
    refine Lib.run_unsafeString_row w.drew (ρ.t 127) (ρ.t 3) (ρ.t 9) (ρ.t 5) L.t127 X.cellsByte g cs.length (by have hg' : w.drew.heap[g]? = some (.cells cs.toArray (ρ.t 5) (0, 0)) := hg; simp [World.shape?, hg']) l h0 (by omega) h63 ?_
    intro j x hx
    have hjl : j < l.length := (List.getElem?_eq_some_iff.1 hx).1
    have h4 : cs[j]? = some (.int .u8 x.toNat) := by
      have h5 := congrArg (fun z : List Value => z[j]?) h3
      simp only [List.getElem?_take, if_pos hjl] at h5
      rw [h5]
      have := flat_get encU8_ok l j x hx
      have h6 := congrArg (fun z : List Value => z[0]?) this
      simpa using h6
    rw [addr_add, Nat.zero_add, Lib.cell_of_heap (show w.drew.heap[g]? = some (.cells cs.toArray (ρ.t 5) (0, 0)) from hg)]
    simpa using h4
  have mixed := L.mixed
  have t72 := L.t72; have a72 := L.a72; have z72 := L.z72; have v72 := L.v72; have u72 := run_underlying L.t72
  have t70 := L.t70; have a70 := L.a70; have z70 := L.z70; have v70 := L.v70; have u70 := run_underlying L.t70
  have t37 := L.t37; have a37 := L.a37; have z37 := L.z37; have v37 := L.v37; have u37 := run_underlying L.t37
  have t127 := L.t127; have a127 := L.a127; have z127 := L.z127; have v127 := L.v127; have u127 := run_underlying L.t127
  have t3 := L.t3; have a3 := L.a3; have z3 := L.z3; have v3 := L.v3; have u3 := run_underlying L.t3
  have t9 := L.t9; have a9 := L.a9; have z9 := L.z9; have v9 := L.v9; have u9 := run_underlying L.t9
  have t5 := X.t5; have a5 := X.a5; have z5 := X.z5; have v5 := X.v5; have u5 := run_underlying X.t5
  have hmod : Mod B w (w.drew.freeze ⟨g, 0, none⟩ l.length) := by
    have := mod_freeze (w := w) (g := g) (n := l.length)
    exact ⟨this.os, this.tape, this.output, this.size, fun k hk hb => this.same k hk (fun e => hb ((hBk k).2 (.inr ((hB k).2 e))))⟩
  go_enter L.f169, Body.n169_ntmps ρ
  go_wp2
  go_region_o
  all_goals (go_wp2; go_ret; exact ⟨(), B, rfl, trivial, hmod, fun _ hk => .inl hk, trivial⟩)
theorem ext_allocd (w : World) (o : Obj) : Ext w (w.alloc o).drew := ⟨rfl, ⟨rfl, Nat.le_succ _⟩, rfl, by simp, fun j hj => heap_alloc_old w _ hj⟩
set_option maxHeartbeats 4000000 in
set_option maxRecDepth 100000 in
theorem builderString_empty (L : Lays.n169 P ρ) (X : Builder.Extra P ρ) {b : Nat} {w : World} {B : Nat → Prop} (hBl : ∀ k, B k → k < w.heap.size) (hA : (Bld b (ρ.t 72) (ρ.t 5) []).A B w) :
    Calls P (ρ.f 169) #[.pointer (some ⟨b, 0, none⟩)] w (Turns (fun _ : Unit => .string ⟨#[]⟩) (fun _ => Emp) (fun _ => True) B w) := by
  obtain ⟨p, v, a, c, B1, hbk, hp, rfl, hR, hnb, hBk, hoff⟩ := hA
  have hUS := Any.unsafeString_none L X
  have hlt : b < w.heap.size := hBl b ((hBk b).2 (.inl rfl))
  have fin : ∀ w', Ext w w' → Turns (fun _ : Unit => Value.string ⟨#[]⟩) (fun _ => Emp) (fun _ => True) B w (.returned (.string ⟨#[]⟩)) w' := fun w' hx => ⟨(), B, rfl, trivial, hx.mod B, fun _ hk => .inl hk, trivial⟩
  have fin1 := fin w.drew ⟨rfl, ⟨rfl, Nat.le_succ _⟩, rfl, Nat.le_refl _, fun _ _ => rfl⟩
  rcases hR with ⟨rfl, rfl, _⟩ | ⟨g, off, cs, ha, hB, hg, h1, h2, h3⟩
  · have c1 : w.drew.cell? ⟨b, 1, none⟩ = some (.slice none 0 0) := by
      have : w.drew.heap[b]? = some (.cells #[p, .slice none 0 0] (ρ.t 72) (0, 0)) := hbk
      rw [Lib.cell_of_heap this]; rfl
    have hSD : (Builtin.unsafeSliceData_ #[(ρ.t 37)] (ρ.t 127) #[.slice none 0 0]).run P w.drew = .ok (.pointer none) w.drew := rfl
    have mixed := L.mixed
    have t72 := L.t72; have a72 := L.a72; have z72 := L.z72; have v72 := L.v72; have u72 := run_underlying L.t72
    have t70 := L.t70; have a70 := L.a70; have z70 := L.z70; have v70 := L.v70; have u70 := run_underlying L.t70
    have t37 := L.t37; have a37 := L.a37; have z37 := L.z37; have v37 := L.v37; have u37 := run_underlying L.t37
    have t127 := L.t127; have a127 := L.a127; have z127 := L.z127; have v127 := L.v127; have u127 := run_underlying L.t127
    have t3 := L.t3; have a3 := L.a3; have z3 := L.z3; have v3 := L.v3; have u3 := run_underlying L.t3
    have t9 := L.t9; have a9 := L.a9; have z9 := L.z9; have v9 := L.v9; have u9 := run_underlying L.t9
    have t5 := X.t5; have a5 := X.a5; have z5 := X.z5; have v5 := X.v5; have u5 := run_underlying X.t5
    go_enter L.f169, Body.n169_ntmps ρ
    go_wp2
    go_region_o
    all_goals (go_wp2; go_ret; exact fin1)
  · obtain rfl : off = 0 := hoff _ ha
    subst ha
    by_cases hc0 : c = 0
    · subst hc0
      have c1 : w.drew.cell? ⟨b, 1, none⟩ = some (.slice (some ⟨g, 0, none⟩) 0 0) := by
        have : w.drew.heap[b]? = some (.cells #[p, .slice (some ⟨g, 0, none⟩) 0 0] (ρ.t 72) (0, 0)) := hbk
        rw [Lib.cell_of_heap this]; rfl
      have hSD : (Builtin.unsafeSliceData_ #[(ρ.t 37)] (ρ.t 127) #[.slice (some ⟨g, 0, none⟩) 0 0]).run P w.drew = .ok (.pointer (some ⟨w.drew.heap.size, 0, none⟩)) (w.drew.alloc (.view ⟨g, 0, none⟩ (ρ.t 5))) :=
        Lib.run_unsafeSliceData_zero w.drew _ _ (ρ.t 5) L.t127 ⟨g, 0, none⟩ 0 ((ρ.t 5), cs.length) (by have hg' : w.drew.heap[g]? = some (.cells cs.toArray (ρ.t 5) (0, 0)) := hg; simp [World.shape?, hg'])
      have c2 : (w.drew.alloc (.view ⟨g, 0, none⟩ (ρ.t 5))).cell? ⟨b, 1, none⟩ = some (.slice (some ⟨g, 0, none⟩) 0 0) := by
        have : (w.drew.alloc (.view ⟨g, 0, none⟩ (ρ.t 5))).heap[b]? = _ := (Lib.alloc_old w.drew _ b hlt).trans hbk
        rw [Lib.cell_of_heap this]; rfl
      have c3 : (w.alloc (.view ⟨g, 0, none⟩ (ρ.t 5))).drew.cell? ⟨b, 1, none⟩ = some (.slice (some ⟨g, 0, none⟩) 0 0) := c2
      have c0 : w.cell? ⟨b, 1, none⟩ = some (.slice (some ⟨g, 0, none⟩) 0 0) := c1
      have fin2 := fin (w.alloc (.view ⟨g, 0, none⟩ (ρ.t 5))).drew (ext_allocd w _)
      have mixed := L.mixed
      have t72 := L.t72; have a72 := L.a72; have z72 := L.z72; have v72 := L.v72; have u72 := run_underlying L.t72
      have t70 := L.t70; have a70 := L.a70; have z70 := L.z70; have v70 := L.v70; have u70 := run_underlying L.t70
      have t37 := L.t37; have a37 := L.a37; have z37 := L.z37; have v37 := L.v37; have u37 := run_underlying L.t37
      have t127 := L.t127; have a127 := L.a127; have z127 := L.z127; have v127 := L.v127; have u127 := run_underlying L.t127
      have t3 := L.t3; have a3 := L.a3; have z3 := L.z3; have v3 := L.v3; have u3 := run_underlying L.t3
      have t9 := L.t9; have a9 := L.a9; have z9 := L.z9; have v9 := L.v9; have u9 := run_underlying L.t9
      have t5 := X.t5; have a5 := X.a5; have z5 := X.z5; have v5 := X.v5; have u5 := run_underlying X.t5
      go_enter L.f169, Body.n169_ntmps ρ
      go_wp2
      go_region_o
      all_goals (go_wp2; go_ret; exact fin2)
    · have c1 : w.drew.cell? ⟨b, 1, none⟩ = some (.slice (some ⟨g, 0, none⟩) 0 c) := by
        have : w.drew.heap[b]? = some (.cells #[p, .slice (some ⟨g, 0, none⟩) 0 c] (ρ.t 72) (0, 0)) := hbk
        rw [Lib.cell_of_heap this]; rfl
      have hSD : (Builtin.unsafeSliceData_ #[(ρ.t 37)] (ρ.t 127) #[.slice (some ⟨g, 0, none⟩) 0 c]).run P w.drew = .ok (.pointer (some ⟨g, 0, none⟩)) w.drew :=
        Lib.run_unsafeSliceData_row _ _ _ _ _ _ hc0
      clear hc0
      have mixed := L.mixed
      have t72 := L.t72; have a72 := L.a72; have z72 := L.z72; have v72 := L.v72; have u72 := run_underlying L.t72
      have t70 := L.t70; have a70 := L.a70; have z70 := L.z70; have v70 := L.v70; have u70 := run_underlying L.t70
      have t37 := L.t37; have a37 := L.a37; have z37 := L.z37; have v37 := L.v37; have u37 := run_underlying L.t37
      have t127 := L.t127; have a127 := L.a127; have z127 := L.z127; have v127 := L.v127; have u127 := run_underlying L.t127
      have t3 := L.t3; have a3 := L.a3; have z3 := L.z3; have v3 := L.v3; have u3 := run_underlying L.t3
      have t9 := L.t9; have a9 := L.a9; have z9 := L.z9; have v9 := L.v9; have u9 := run_underlying L.t9
      have t5 := X.t5; have a5 := X.a5; have z5 := X.z5; have v5 := X.v5; have u5 := run_underlying X.t5
      go_enter L.f169, Body.n169_ntmps ρ
      go_wp2
      go_region_o
      all_goals (go_wp2; go_ret; exact fin1)
/-- a new builder -/
theorem bld_new {b : Nat} {T e : TypeId} {B : Nat → Prop} {w : World} (h : (Box b [.pointer none, .slice none 0 0] T).A B w) : (Bld b T e []).A B w := by
  obtain ⟨h2, h1⟩ := h
  exact ⟨_, _, none, 0, fun _ => False, h1, .inl rfl, rfl, row_nil, id, fun k => by rw [h2]; simp, fun _ h => by cases h⟩
end
end Go.K

namespace Go.K
open Go Go.RowKit Go.Shelf Go.Proofs
theorem mod_freeze' {w : World} {g n : Nat} : Mod (· = g) w (w.freeze ⟨g, 0, none⟩ n) := by
  have hw : w.freeze ⟨g, 0, none⟩ n = { w with heap := (w.freeze ⟨g, 0, none⟩ n).heap } := by
    unfold World.freeze
    split <;> rfl
  rw [hw]
  refine ⟨rfl, ⟨rfl, Nat.le_refl _⟩, rfl, ?_, fun k _ hb => ?_⟩
  · show w.heap.size ≤ (w.freeze ⟨g, 0, none⟩ n).heap.size
    unfold World.freeze
    split <;> simp
  · show (w.freeze ⟨g, 0, none⟩ n).heap[k]? = _
    unfold World.freeze
    split
    · rfl
    · refine Array.getElem?_modify.trans ?_
      rw [if_neg (fun e => hb e.symm)]
theorem Mod.trans' {B : Nat → Prop} {a b c : World} (h : Mod B a b) (k : Mod B b c) : Mod B a c :=
  ⟨k.os.trans h.os, h.tape.trans k.tape, k.output.trans h.output, Nat.le_trans h.size k.size, fun i hi hb => (k.same i (Nat.lt_of_lt_of_le hi h.size) hb).trans (h.same i hi hb)⟩
/-- what turned alone was new -/
theorem ext_fresh {w w1 w2 : World} (h : Ext w w1) (k : Mod (· = w.heap.size) w1 w2) (_ : w.heap.size < w1.heap.size) : Ext w w2 :=
  ⟨k.os.trans h.os, h.tape.trans k.tape, k.output.trans h.output, Nat.le_trans h.size k.size, fun i hi => (k.same i (Nat.lt_of_lt_of_le hi h.size) (by omega)).trans (h.block i hi)⟩
theorem ext_bytesWorld (w : World) (e : TypeId) (s : ByteArray) : Ext w (Lib.bytesWorld w e s) := by
  have h1 : Ext w (w.drew.alloc (.cells (Lib.bytesCells w e s) e)) := ⟨rfl, ⟨rfl, Nat.le_succ _⟩, rfl, by simp, fun j hj => heap_alloc_old w.drew _ hj⟩
  have hw : Lib.bytesWorld w e s = { (w.drew.alloc (.cells (Lib.bytesCells w e s) e)) with heap := (Lib.bytesWorld w e s).heap } := by
    unfold Lib.bytesWorld World.freeze
    rfl
  rw [hw]
  refine ⟨rfl, ⟨rfl, Nat.le_succ _⟩, rfl, ?_, fun k hk => ?_⟩
  · show w.heap.size ≤ (Lib.bytesWorld w e s).heap.size
    unfold Lib.bytesWorld World.freeze
    simp
  · show (Lib.bytesWorld w e s).heap[k]? = _
    unfold Lib.bytesWorld World.freeze
    refine Array.getElem?_modify.trans ?_
    rw [if_neg (by show ¬ w.heap.size = k; omega)]
    exact h1.block k hk
section
variable {P : Program} {ρ : Ren}
set_option maxHeartbeats 4000000 in
set_option maxRecDepth 100000 in
theorem clone_x (L : LaysM.n316 P ρ) (s : ByteArray) (w : World) (hlim : s.size ≤ 281474976710656) :
    Calls P (ρ.f 316) #[.string s] w fun e w' => e = .returned (.string s) ∧ Ext w w' := by
  have mixed := L.mixed
  have t5 := L.t5; have a5 := L.a5; have z5 := L.z5; have v5 := L.v5
  have t9 := L.t9; have a9 := L.a9; have z9 := L.z9; have v9 := L.v9
  have t3 := L.t3; have a3 := L.a3; have z3 := L.z3; have v3 := L.v3
  have t4 := L.t4; have a4 := L.a4; have z4 := L.z4; have v4 := L.v4
  have t37 := L.t37; have a37 := L.a37; have z37 := L.z37; have v37 := L.v37
  have t0 := L.t0; have a0 := L.a0; have z0 := L.z0; have v0 := L.v0
  have t127 := L.t127; have a127 := L.a127; have z127 := L.z127; have v127 := L.v127
  by_cases h0 : s.size = 0
  · have hs : s = ⟨#[]⟩ := by
      apply ByteArray.ext
      exact Array.eq_empty_of_size_eq_zero h0
    subst hs
    go_enter L.f316, Body.n316_ntmps ρ
    go_wp2
    go_ret
    exact ⟨rfl, Ext.rfl⟩
  · obtain ⟨i0, hi, hz0, hz1, hz2⟩ := info_parts L.i5
    have hinfo : (P.info? (ρ.t 5)).map (·.size) = some 1 := by rw [hi]; simp [hz1]
    have hco : P.cellsOf (ρ.t 5) = 1 := by simp [Program.cellsOf, hi, hz1]
    -- 'make([]byte, len(s))', for the walk to take; what it lays under a name
    obtain ⟨M, hM⟩ : ∃ M, M = madeCells (Value.int .u8 0).cells (((s.size : Nat) : Int).toNat * i0.size) := ⟨_, rfl⟩
    have hMs : M.size = s.size := by rw [hM, size_madeCells, hz1]; simp
    have hmk : ∀ W : World, (Instr.makeSlice (ρ.t 37) (.int .i64 (s.size : Int)) (.int .i64 (s.size : Int))).run P W = .ok (.slice (some ⟨W.heap.size, 0, none⟩) s.size s.size) (W.alloc (.cells M (ρ.t 5))) := fun W => by
      have h := run_make (P := P) W (ρ.t 37) (ρ.t 5) i0 (.int .u8 0) L.t37 hi hz0 .i64 .i64 (s.size : Int) (s.size : Int) (by omega) (by omega) (by rw [hz2]; omega) (by omega)
      rw [← hM] at h
      simpa using h
    clear hM
    -- 'copy(b, s)'
    have hcp := Lib.run_copy_row_string (P := P) (w.alloc (.cells M (ρ.t 5))) (ρ.t 37) (ρ.t 9) (ρ.t 3) (ρ.t 5) w.heap.size 0 s.size s.size s M (ρ.t 5) L.t37 hinfo (heap_alloc_new w _) (Nat.le_refl _) (by omega)
    obtain ⟨Y, hY⟩ : ∃ Y, Y = (M.toList.take 0 ++ Lib.byteCells s.data.toList ++ M.toList.drop (0 + s.size)).toArray := ⟨_, rfl⟩
    rw [← hY] at hcp
    have hYl : Y.toList = Lib.byteCells s.data.toList := by
      rw [hY, List.toList_toArray, List.take_zero, List.nil_append, List.drop_of_length_le (by rw [Array.length_toList]; omega), List.append_nil]
    have hYs : Y.size = s.size := by rw [← Array.length_toList, hYl, Lib.byteCells_length, ← Lib.size_eq]
    have hgY : ((w.alloc (.cells M (ρ.t 5))).setRow w.heap.size Y).heap[w.heap.size]? = some (.cells Y (ρ.t 5) (0, 0)) := setRow_heap _ _ M _ (ρ.t 5) (0, 0) (heap_alloc_new w _)
    -- 'unsafe.String(&b[0], len(b))'
    have hne : s.data.toList ≠ [] := fun e => h0 (by rw [Lib.size_eq, e]; rfl)
    have hUS := Lib.run_unsafeString_row (P := P) ((w.alloc (.cells M (ρ.t 5))).setRow w.heap.size Y) (ρ.t 127) (ρ.t 3) (ρ.t 9) (ρ.t 5) L.t127 hco w.heap.size Y.size (by unfold World.shape?; rw [hgY]) s.data.toList hne (by rw [← Lib.size_eq]; omega) (by rw [← Lib.size_eq]; omega)
      (fun j x hx => Lib.cells_of_row hgY Y.size j _ (by rw [List.take_of_length_le (by rw [Array.length_toList]; exact Nat.le_refl _), hYl]; simp [Lib.byteCells, hx]))
    rw [← Lib.size_eq] at hUS
    clear hY
    go_enter L.f316, Body.n316_ntmps ρ
    go_wp2
    go_ret
    have hb1 : Ext w (w.alloc (.cells M (ρ.t 5))) := ext_alloc _
    have hb2 : Mod (· = w.heap.size) (w.alloc (.cells M (ρ.t 5))) ((w.alloc (.cells M (ρ.t 5))).setRow w.heap.size Y) := ⟨rfl, ⟨rfl, Nat.le_refl _⟩, rfl, by simp, fun k _ hk => setRow_other _ _ _ _ (by omega)⟩
    exact ⟨rfl, ext_fresh hb1 (hb2.trans' (mod_freeze' (g := w.heap.size))) (by simp)⟩
set_option maxHeartbeats 6400000 in
set_option maxRecDepth 100000 in
theorem syntaxError_x (L : LaysM.n279 P ρ) (fn s : ByteArray) (ev : Value) (w : World) (hlim : s.size ≤ 281474976710656) (hv : w.cell? ⟨(ρ.g 15), 0, none⟩ = some ev)
    (hev : ev = .nilIface ∨ ∃ te pe, ev = .iface te pe) :
    Calls P (ρ.f 279) #[.string fn, .string s] w fun e w' => ∃ N, e = .returned (.pointer (some ⟨N, 0, none⟩)) ∧ w.heap.size ≤ N ∧ w'.heap[N]? = some (.cells #[.string fn, .string s, ev] (ρ.t 210) (0, 0)) ∧ Ext w w' := by
  have mixed := L.mixed
  have t9 := L.t9; have a9 := L.a9; have z9 := L.z9; have v9 := L.v9
  have t168 := L.t168; have a168 := L.a168; have z168 := L.z168; have v168 := L.v168
  have t75 := L.t75; have a75 := L.a75; have z75 := L.z75; have v75 := L.v75
  have t210 := L.t210; have u210 := run_underlying L.t210; have a210 := L.a210; have z210 := L.z210; have v210 := L.v210
  have e316 : ∀ args w, (callFunc (ρ.f 316) args).run P w = .ok (.enter (ρ.f 316) args) w := enters_of L.f316 (by kernel_rfl) rfl
  rcases hev with rfl | ⟨te, pe, rfl⟩
  all_goals (
    have hG : (ρ.g 15) < w.heap.size := Lib.lt_of_cell hv
    have hvd : w.drew.cell? ⟨(ρ.g 15), 0, none⟩ = some _ := hv
    go_enter L.f279, Body.n279_ntmps ρ
    go_wp2
    go_region_with_o (
        go_at_fn (ρ.f 316)
        refine (clone_x { L with } s _ hlim).mono ?_
        rintro e w2 ⟨rfl, hbel⟩
        have hv2 : w2.cell? ⟨(ρ.g 15), 0, none⟩ = some _ := ((Ext.below hbel).cell (show (⟨(ρ.g 15), 0, none⟩ : Addr).block < w.drew.heap.size from hG)).trans hvd)
    all_goals (
      go_wp2
      go_ret
      have hs2 : w.heap.size ≤ w2.heap.size := hbel.size
      exact ⟨_, rfl, hs2, heap_alloc_new w2 _, ((ext_drew w).trans hbel).trans (ext_alloc _)⟩))
set_option maxHeartbeats 6400000 in
set_option maxRecDepth 100000 in
theorem rangeError_x (L : LaysM.n280 P ρ) (fn s : ByteArray) (ev : Value) (w : World) (hlim : s.size ≤ 281474976710656) (hv : w.cell? ⟨(ρ.g 16), 0, none⟩ = some ev)
    (hev : ev = .nilIface ∨ ∃ te pe, ev = .iface te pe) :
    Calls P (ρ.f 280) #[.string fn, .string s] w fun e w' => ∃ N, e = .returned (.pointer (some ⟨N, 0, none⟩)) ∧ w.heap.size ≤ N ∧ w'.heap[N]? = some (.cells #[.string fn, .string s, ev] (ρ.t 210) (0, 0)) ∧ Ext w w' := by
  have mixed := L.mixed
  have t9 := L.t9; have a9 := L.a9; have z9 := L.z9; have v9 := L.v9
  have t168 := L.t168; have a168 := L.a168; have z168 := L.z168; have v168 := L.v168
  have t75 := L.t75; have a75 := L.a75; have z75 := L.z75; have v75 := L.v75
  have t210 := L.t210; have u210 := run_underlying L.t210; have a210 := L.a210; have z210 := L.z210; have v210 := L.v210
  have e316 : ∀ args w, (callFunc (ρ.f 316) args).run P w = .ok (.enter (ρ.f 316) args) w := enters_of L.f316 (by kernel_rfl) rfl
  rcases hev with rfl | ⟨te, pe, rfl⟩
  all_goals (
    have hG : (ρ.g 16) < w.heap.size := Lib.lt_of_cell hv
    have hvd : w.drew.cell? ⟨(ρ.g 16), 0, none⟩ = some _ := hv
    go_enter L.f280, Body.n280_ntmps ρ
    go_wp2
    go_region_with_o (
        go_at_fn (ρ.f 316)
        refine (clone_x { L with } s _ hlim).mono ?_
        rintro e w2 ⟨rfl, hbel⟩
        have hv2 : w2.cell? ⟨(ρ.g 16), 0, none⟩ = some _ := ((Ext.below hbel).cell (show (⟨(ρ.g 16), 0, none⟩ : Addr).block < w.drew.heap.size from hG)).trans hvd)
    all_goals (
      go_wp2
      go_ret
      have hs2 : w.heap.size ≤ w2.heap.size := hbel.size
      exact ⟨_, rfl, hs2, heap_alloc_new w2 _, ((ext_drew w).trans hbel).trans (ext_alloc _)⟩))
set_option maxHeartbeats 4000000 in
set_option maxRecDepth 100000 in
theorem toErrorS_x (L : LaysC.n245 P ρ) (fn s : ByteArray) (base bits : Int) (ev : Value) (w : World) (hlim : s.size ≤ 281474976710656) (hv : w.cell? ⟨(ρ.g 15), 0, none⟩ = some ev) (hev : ev = .nilIface ∨ ∃ te pe, ev = .iface te pe) :
    Calls P (ρ.f 245) #[.string fn, .string s, .int .i64 base, .int .i64 bits, .iface (ρ.t 167) (.int .i64 2)] w fun e w' => ∃ N, e = .returned (.iface (ρ.t 168) (.pointer (some ⟨N, 0, none⟩))) ∧ w.heap.size ≤ N ∧ w'.heap[N]? = some (.cells #[.string fn, .string s, ev] (ρ.t 210) (0, 0)) ∧ Ext w w' := by
  have mixed := L.mixed
  have t9 := L.t9; have a9 := L.a9; have z9 := L.z9; have v9 := L.v9
  have t3 := L.t3; have a3 := L.a3; have z3 := L.z3; have v3 := L.v3
  have t75 := L.t75; have a75 := L.a75; have z75 := L.z75; have v75 := L.v75
  have t167 := L.t167; have a167 := L.a167; have z167 := L.z167; have v167 := L.v167
  have t4 := L.t4; have a4 := L.a4; have z4 := L.z4; have v4 := L.v4
  have t168 := L.t168; have a168 := L.a168; have z168 := L.z168; have v168 := L.v168
  have e279 : ∀ args w, (callFunc (ρ.f 279) args).run P w = .ok (.enter (ρ.f 279) args) w := enters_of L.f279 (by kernel_rfl) rfl
  -- 'err == strconv.ErrSyntax', for the walk to take
  have heq : ∀ W, (binOp .eql (ρ.t 75) (.iface (ρ.t 167) (.int .i64 2)) (.iface (ρ.t 167) (.int .i64 2))).run P W = .ok (.bool true) W := fun W => Lib.run_eql_iface_int W 2 2 L.t75 L.c167 L.t167
  go_enter L.f245, Body.n245_ntmps ρ
  go_wp2_with (go_at_fn (ρ.f 279); refine (syntaxError_x { L with } fn s ev _ hlim ?_ hev).mono ?_)
  · exact hv
  rintro e w2 ⟨N, rfl, h1, h2, h3⟩
  go_wp2
  go_ret
  exact ⟨N, rfl, h1, h2, h3⟩
set_option maxHeartbeats 4000000 in
set_option maxRecDepth 100000 in
theorem toErrorR_x (L : LaysC.n245 P ρ) (fn s : ByteArray) (base bits : Int) (ev : Value) (w : World) (hlim : s.size ≤ 281474976710656) (hv : w.cell? ⟨(ρ.g 16), 0, none⟩ = some ev) (hev : ev = .nilIface ∨ ∃ te pe, ev = .iface te pe) :
    Calls P (ρ.f 245) #[.string fn, .string s, .int .i64 base, .int .i64 bits, .iface (ρ.t 167) (.int .i64 1)] w fun e w' => ∃ N, e = .returned (.iface (ρ.t 168) (.pointer (some ⟨N, 0, none⟩))) ∧ w.heap.size ≤ N ∧ w'.heap[N]? = some (.cells #[.string fn, .string s, ev] (ρ.t 210) (0, 0)) ∧ Ext w w' := by
  have mixed := L.mixed
  have t9 := L.t9; have a9 := L.a9; have z9 := L.z9; have v9 := L.v9
  have t3 := L.t3; have a3 := L.a3; have z3 := L.z3; have v3 := L.v3
  have t75 := L.t75; have a75 := L.a75; have z75 := L.z75; have v75 := L.v75
  have t167 := L.t167; have a167 := L.a167; have z167 := L.z167; have v167 := L.v167
  have t4 := L.t4; have a4 := L.a4; have z4 := L.z4; have v4 := L.v4
  have t168 := L.t168; have a168 := L.a168; have z168 := L.z168; have v168 := L.v168
  have e280 : ∀ args w, (callFunc (ρ.f 280) args).run P w = .ok (.enter (ρ.f 280) args) w := enters_of L.f280 (by kernel_rfl) rfl
  -- 'err == strconv.ErrSyntax': no; 'err == strconv.ErrRange': yes: for the walk to take
  have hq12 : ∀ W, (binOp .eql (ρ.t 75) (.iface (ρ.t 167) (.int .i64 1)) (.iface (ρ.t 167) (.int .i64 2))).run P W = .ok (.bool false) W := fun W => Lib.run_eql_iface_int W 1 2 L.t75 L.c167 L.t167
  have hq11 : ∀ W, (binOp .eql (ρ.t 75) (.iface (ρ.t 167) (.int .i64 1)) (.iface (ρ.t 167) (.int .i64 1))).run P W = .ok (.bool true) W := fun W => Lib.run_eql_iface_int W 1 1 L.t75 L.c167 L.t167
  go_enter L.f245, Body.n245_ntmps ρ
  go_wp2_with (go_at_fn (ρ.f 280); refine (rangeError_x { L with } fn s ev _ hlim ?_ hev).mono ?_)
  · exact hv
  rintro e w2 ⟨N, rfl, h1, h2, h3⟩
  go_wp2
  go_ret
  exact ⟨N, rfl, h1, h2, h3⟩
set_option maxHeartbeats 4000000 in
set_option maxRecDepth 100000 in
theorem atoiS_x (L : LaysC.n172 P ρ) (s : ByteArray) (hlim : s.size ≤ 281474976710656) (h : Lib.atoiAll s.data.toList = Lib.atoiAll []) (ev : Value) (w : World) (hv : w.cell? ⟨(ρ.g 15), 0, none⟩ = some ev) (hev : ev = .nilIface ∨ ∃ te pe, ev = .iface te pe) :
    Calls P (ρ.f 172) #[.string s] w fun e w' => ∃ N, e = .returned (.tuple #[.int .i64 (0), .iface (ρ.t 168) (.pointer (some ⟨N, 0, none⟩))]) ∧ w.heap.size ≤ N ∧ w'.heap[N]? = some (.cells #[.string ⟨#[65, 116, 111, 105]⟩, .string s, ev] (ρ.t 210) (0, 0)) ∧ Ext w w' := by
  have mixed := L.mixed
  have t9 := L.t9; have a9 := L.a9; have z9 := L.z9; have v9 := L.v9
  have t3 := L.t3; have a3 := L.a3; have z3 := L.z3; have v3 := L.v3
  have t75 := L.t75; have a75 := L.a75; have z75 := L.z75; have v75 := L.v75
  have t76 := L.t76; have a76 := L.a76; have z76 := L.z76; have v76 := L.v76
  have t4 := L.t4; have a4 := L.a4; have z4 := L.z4; have v4 := L.v4
  have e244 : ∀ args w, (callFunc (ρ.f 244) args).run P w = .ok (.enter (ρ.f 244) args) w := enters_of L.f244 (by kernel_rfl) rfl
  have e245 : ∀ args w, (callFunc (ρ.f 245) args).run P w = .ok (.enter (ρ.f 245) args) w := enters_of L.f245 (by kernel_rfl) rfl
  have hG : (ρ.g 15) < w.heap.size := Lib.lt_of_cell hv
  have hI := Any.internal_strconv_Atoi_all { L with } s (by omega) w
  rw [h] at hI
  obtain ⟨sb0, sb1⟩ := Lib.atoiSat_bounds s.data.toList
  generalize Lib.atoiSat s.data.toList = sat at hI sb0 sb1 ⊢
  have hI : Calls P (ρ.f 244) #[.string s] w fun e w' => e = .returned (.tuple #[.int .i64 (0), .iface (ρ.t 167) (.int .i64 2)]) ∧ (w' = w ∨ ∃ t, w' = Lib.bytesWorld w (ρ.t 5) t) := hI
  clear h
  go_enter L.f172, Body.n172_ntmps ρ
  go_wp2_with (go_at_fn (ρ.f 244); refine hI.mono ?_)
  rintro e W1 ⟨rfl, hW⟩
  have hb1 : Ext w W1 := by
    rcases hW with rfl | ⟨t, rfl⟩
    · exact Ext.rfl
    · exact ext_bytesWorld _ _ _
  have hv1 : W1.cell? ⟨(ρ.g 15), 0, none⟩ = some ev := ((Ext.below hb1).cell (show (⟨(ρ.g 15), 0, none⟩ : Addr).block < w.heap.size from hG)).trans hv
  clear hW
  go_wp2_with (go_at_fn (ρ.f 245); refine (toErrorS_x { L with } ⟨#[65, 116, 111, 105]⟩ s 0 0 ev _ hlim ?_ hev).mono ?_)
  · exact hv1
  rintro e W2 ⟨N, rfl, h1, h2, h3⟩
  go_wp2
  go_ret2
  exact ⟨N, rfl, Nat.le_trans hb1.size h1, h2, hb1.trans h3⟩
set_option maxHeartbeats 4000000 in
set_option maxRecDepth 100000 in
theorem atoiR_x (L : LaysC.n172 P ρ) (s : ByteArray) (hlim : s.size ≤ 281474976710656) (h : Lib.atoiAll s.data.toList = .range) (ev : Value) (w : World) (hv : w.cell? ⟨(ρ.g 16), 0, none⟩ = some ev) (hev : ev = .nilIface ∨ ∃ te pe, ev = .iface te pe) :
    Calls P (ρ.f 172) #[.string s] w fun e w' => ∃ N, e = .returned (.tuple #[.int .i64 (Lib.atoiSat s.data.toList), .iface (ρ.t 168) (.pointer (some ⟨N, 0, none⟩))]) ∧ w.heap.size ≤ N ∧ w'.heap[N]? = some (.cells #[.string ⟨#[65, 116, 111, 105]⟩, .string s, ev] (ρ.t 210) (0, 0)) ∧ Ext w w' := by
  have mixed := L.mixed
  have t9 := L.t9; have a9 := L.a9; have z9 := L.z9; have v9 := L.v9
  have t3 := L.t3; have a3 := L.a3; have z3 := L.z3; have v3 := L.v3
  have t75 := L.t75; have a75 := L.a75; have z75 := L.z75; have v75 := L.v75
  have t76 := L.t76; have a76 := L.a76; have z76 := L.z76; have v76 := L.v76
  have t4 := L.t4; have a4 := L.a4; have z4 := L.z4; have v4 := L.v4
  have e244 : ∀ args w, (callFunc (ρ.f 244) args).run P w = .ok (.enter (ρ.f 244) args) w := enters_of L.f244 (by kernel_rfl) rfl
  have e245 : ∀ args w, (callFunc (ρ.f 245) args).run P w = .ok (.enter (ρ.f 245) args) w := enters_of L.f245 (by kernel_rfl) rfl
  have hG : (ρ.g 16) < w.heap.size := Lib.lt_of_cell hv
  have hI := Any.internal_strconv_Atoi_all { L with } s (by omega) w
  rw [h] at hI
  obtain ⟨sb0, sb1⟩ := Lib.atoiSat_bounds s.data.toList
  generalize Lib.atoiSat s.data.toList = sat at hI sb0 sb1 ⊢
  have hI : Calls P (ρ.f 244) #[.string s] w fun e w' => e = .returned (.tuple #[.int .i64 (sat), .iface (ρ.t 167) (.int .i64 1)]) ∧ (w' = w ∨ ∃ t, w' = Lib.bytesWorld w (ρ.t 5) t) := hI
  clear h
  go_enter L.f172, Body.n172_ntmps ρ
  go_wp2_with (go_at_fn (ρ.f 244); refine hI.mono ?_)
  rintro e W1 ⟨rfl, hW⟩
  have hb1 : Ext w W1 := by
    rcases hW with rfl | ⟨t, rfl⟩
    · exact Ext.rfl
    · exact ext_bytesWorld _ _ _
  have hv1 : W1.cell? ⟨(ρ.g 16), 0, none⟩ = some ev := ((Ext.below hb1).cell (show (⟨(ρ.g 16), 0, none⟩ : Addr).block < w.heap.size from hG)).trans hv
  clear hW
  go_wp2_with (go_at_fn (ρ.f 245); refine (toErrorR_x { L with } ⟨#[65, 116, 111, 105]⟩ s 0 0 ev _ hlim ?_ hev).mono ?_)
  · exact hv1
  rintro e W2 ⟨N, rfl, h1, h2, h3⟩
  go_wp2
  go_ret2
  exact ⟨N, rfl, Nat.le_trans hb1.size h1, h2, hb1.trans h3⟩
end
end Go.K

namespace Go.Txt
open Go
/-- the parts of a text between bytes -/
def cutL (b : UInt8) : List UInt8 → List (List UInt8)
  | [] => [[]]
  | x :: r => if x = b then [] :: cutL b r else match cutL b r with
    | [] => [[x]]
    | h :: t => (x :: h) :: t
theorem cutL_end {b : UInt8} : ∀ {p : List UInt8}, (∀ x ∈ p, x ≠ b) → cutL b p = [p]
  | [], _ => rfl
  | x :: r, h => by
    rw [cutL, if_neg (h x (by simp)), cutL_end (p := r) (fun y hy => h y (by simp [hy]))]
theorem cutL_hit {b : UInt8} {r : List UInt8} : ∀ {p : List UInt8}, (∀ x ∈ p, x ≠ b) → cutL b (p ++ b :: r) = p :: cutL b r
  | [], _ => by rw [List.nil_append, cutL, if_pos rfl]
  | x :: q, h => by
    rw [List.cons_append, cutL, if_neg (h x (by simp)), cutL_hit (p := q) (fun y hy => h y (by simp [hy]))]
theorem cutL_pos (b : UInt8) (l : List UInt8) : 0 < (cutL b l).length := by
  induction l with
  | nil => simp [cutL]
  | cons x r ih =>
    rw [cutL]
    split
    · simp
    · split <;> simp
theorem cut_spec (l : List UInt8) (b : UInt8) : (∃ p r, l = p ++ b :: r ∧ (∀ x ∈ p, x ≠ b) ∧ Lib.cut l [b] = (p, r, true)) ∨ ((∀ x ∈ l, x ≠ b) ∧ Lib.cut l [b] = (l, [], false)) := by
  have hge := Lib.indexByte_ge l b
  by_cases h : Lib.indexByte l b = -1
  · right
    refine ⟨fun x hx e => ?_, ?_⟩
    · obtain ⟨k, hk, rfl⟩ := List.getElem_of_mem hx
      exact Lib.indexByte_none h k (by rw [List.getElem?_eq_getElem hk, e])
    · unfold Lib.cut
      rw [Lib.index_one, if_neg (by omega)]
  · left
    obtain ⟨o, ho⟩ : ∃ o : Nat, Lib.indexByte l b = o := ⟨(Lib.indexByte l b).toNat, by omega⟩
    obtain ⟨h1, h2⟩ := Lib.indexByte_some ho
    have hlt : o < l.length := (List.getElem?_eq_some_iff.1 h1).1
    refine ⟨l.take o, l.drop (o + 1), ?_, fun x hx e => ?_, ?_⟩
    · have : l.drop o = b :: l.drop (o + 1) := by
        rw [List.drop_eq_getElem_cons hlt]
        congr 1
        exact (List.getElem?_eq_some_iff.1 h1).2
      rw [← this, List.take_append_drop]
    · obtain ⟨k, hk, rfl⟩ := List.mem_take_iff_getElem.1 hx
      exact h2 k (by omega) (by rw [List.getElem?_eq_getElem (by omega), e])
    · unfold Lib.cut
      rw [Lib.index_one, ho, if_pos (by omega)]
      simp
theorem split_spec (c : UInt8) : ∀ (k : Nat) (l : List UInt8), l.count c = k → Lib.splitK [c] 0 k l = cutL c l
  | 0, l, h => by
    rw [Lib.splitK, cutL_end]
    intro x hx e
    subst e
    exact absurd (List.count_pos_iff.2 hx) (by omega)
  | k + 1, l, h => by
    rw [Lib.splitK, Lib.index_one]
    have hge := Lib.indexByte_ge l c
    have hm : ¬ Lib.indexByte l c = -1 := fun e => by
      have h0 : c ∈ l := List.count_pos_iff.1 (by omega)
      obtain ⟨j, hj, e2⟩ := List.getElem_of_mem h0
      exact Lib.indexByte_none e j (by rw [List.getElem?_eq_getElem hj, e2])
    rw [if_neg (fun e => hm (beq_iff_eq.1 e))]
    obtain ⟨o, ho⟩ : ∃ o : Nat, Lib.indexByte l c = o := ⟨(Lib.indexByte l c).toNat, by omega⟩
    obtain ⟨h1, h2⟩ := Lib.indexByte_some ho
    have hlt : o < l.length := (List.getElem?_eq_some_iff.1 h1).1
    have hl : l = l.take o ++ c :: l.drop (o + 1) := by
      have : l.drop o = c :: l.drop (o + 1) := by
        rw [List.drop_eq_getElem_cons hlt]
        congr 1
        exact (List.getElem?_eq_some_iff.1 h1).2
      rw [← this, List.take_append_drop]
    have hp : ∀ x ∈ l.take o, x ≠ c := fun x hx e => by
      obtain ⟨k, hk, rfl⟩ := List.mem_take_iff_getElem.1 hx
      exact h2 k (by omega) (by rw [List.getElem?_eq_getElem (by omega), e])
    have hc : (l.drop (o + 1)).count c = k := by
      have h3 := congrArg (List.count c) hl
      rw [h, List.count_append, List.count_cons_self, List.count_eq_zero_of_not_mem (fun hx => hp c hx rfl)] at h3
      omega
    have ih := split_spec c k (l.drop (o + 1)) hc
    rw [ho, Int.toNat_natCast, Nat.add_zero, show o + [c].length = o + 1 from rfl, ih]
    conv => rhs; rw [hl]
    rw [cutL_hit hp]
def isDig (c : UInt8) : Prop := 48 ≤ c.toNat ∧ c.toNat ≤ 57
instance (c : UInt8) : Decidable (isDig c) := inferInstanceAs (Decidable (_ ∧ _))
/-- what digits spell -/
def decVal (acc : Nat) (l : List UInt8) : Nat := l.foldl (fun a c => a * 10 + (c.toNat - 48)) acc
theorem decVal_cons (a : Nat) (c : UInt8) (r : List UInt8) : decVal a (c :: r) = decVal (a * 10 + (c.toNat - 48)) r := by unfold decVal; rw [List.foldl_cons]
theorem decVal_one (a : Nat) (c : UInt8) : decVal a [c] = a * 10 + (c.toNat - 48) := by rw [decVal_cons]; rfl
theorem decVal_app (l : List UInt8) (a : Nat) (m : List UInt8) : decVal a (l ++ m) = decVal (decVal a l) m := by unfold decVal; rw [List.foldl_append]
theorem dig_nat {u : Nat} (h : u < 10) : (UInt8.ofNat (48 + u)).toNat = 48 + u := by
  rw [UInt8.toNat_ofNat']; omega
theorem dec_spec (u : Nat) : (∀ c ∈ Lib.decDigits u, isDig c) ∧ decVal 0 (Lib.decDigits u) = u ∧ (∃ c r, Lib.decDigits u = c :: r ∧ (c = 48 → u = 0)) ∧ (u = 0 → Lib.decDigits u = [48]) := by
  induction u using Nat.strongRecOn with
  | _ u ih =>
    rw [Lib.decDigits]
    split
    · rename_i h
      have hd := dig_nat h
      refine ⟨fun c hc => ?_, ?_, ⟨_, _, rfl, fun e => ?_⟩, fun e => by subst e; rfl⟩
      · rw [List.mem_singleton] at hc
        subst hc
        unfold isDig; omega
      · rw [decVal_one]; omega
      · have := congrArg UInt8.toNat e
        rw [hd] at this
        have h48 : (48 : UInt8).toNat = 48 := rfl
        omega
    · rename_i h
      obtain ⟨h1, h2, ⟨c, r, h3, h4⟩, _⟩ := ih (u / 10) (by omega)
      have hd := dig_nat (u := u % 10) (by omega)
      refine ⟨fun x hx => ?_, ?_, ⟨c, r ++ [UInt8.ofNat (48 + u % 10)], by rw [h3]; rfl, fun e => ?_⟩, fun e => by omega⟩
      · rcases List.mem_append.1 hx with hx | hx
        · exact h1 x hx
        · rw [List.mem_singleton] at hx
          subst hx
          unfold isDig; omega
      · rw [decVal_app, h2]
        rw [decVal_one]; omega
      · have := h4 e
        omega
theorem parse_digs : ∀ (l : List UInt8) (acc : Nat), (∀ c ∈ l, isDig c) → (acc + 1) * 10 ^ l.length ≤ 10 ^ 18 → Lib.parseUint10 acc l = .ok (decVal acc l)
  | [], _, _, _ => rfl
  | c :: r, acc, hd, hb => by
    have hc := hd c (by simp)
    unfold isDig at hc
    rw [List.length_cons, Nat.pow_succ, Nat.mul_comm (10 ^ r.length) 10, ← Nat.mul_assoc] at hb
    have hp : 1 ≤ 10 ^ r.length := Nat.pos_of_ne_zero (by simp)
    have h1 : (acc + 1) * 10 ≤ 10 ^ 18 := Nat.le_trans (Nat.le_mul_of_pos_right _ hp) hb
    have h18 : (10 : Nat) ^ 18 = 1000000000000000000 := rfl
    rw [Lib.parseUint10, if_pos hc, if_neg (by omega), if_neg (by omega), decVal_cons]
    refine parse_digs r _ (fun x hx => hd x (by simp [hx])) (Nat.le_trans (Nat.mul_le_mul_right _ ?_) hb)
    omega
/-- a word's number, as the program reads it -/
def numL (s : List UInt8) : Option Int := if s.length ≤ 6 then match Lib.atoiAll s with
  | .ok v => if Lib.itoa v = s then some v else none
  | _ => none else none
theorem atoi_itoa {v : Int} (h : (Lib.itoa v).length ≤ 6) : Lib.atoiAll (Lib.itoa v) = .ok v := by
  have key : ∀ u : Nat, (Lib.decDigits u).length ≤ 6 → Lib.parseMag (Lib.decDigits u) = .ok u ∧ u < 10 ^ 18 := fun u hu => by
    obtain ⟨h1, h2, ⟨c, r, h3, _⟩, _⟩ := dec_spec u
    have hb : (0 + 1) * 10 ^ (Lib.decDigits u).length ≤ 10 ^ 18 := by
      rw [Nat.zero_add, Nat.one_mul]
      exact Nat.pow_le_pow_right (by decide) (by omega)
    have hp := parse_digs (Lib.decDigits u) 0 h1 hb
    rw [h2] at hp
    refine ⟨?_, ?_⟩
    · unfold Lib.parseMag
      rw [if_neg (by rw [h3]; simp)]; exact hp
    · have h4 := Lib.lt_pow_nDigits u
      rw [← Lib.decDigits_length] at h4
      exact Nat.lt_of_lt_of_le h4 (Nat.pow_le_pow_right (by decide) (by omega))
  unfold Lib.itoa at h ⊢
  split at h
  · rename_i hn
    rw [if_pos hn]
    obtain ⟨k1, k2⟩ := key v.natAbs (by simp at h; omega)
    unfold Lib.atoiAll
    have e45 : ((45 : UInt8).toNat = 43 ∨ (45 : UInt8).toNat = 45) := .inr rfl
    have e45' : (45 : UInt8).toNat = 45 := rfl
    have h18 : (10 : Nat) ^ 18 = 1000000000000000000 := rfl
    simp only [if_pos e45, k1]
    rw [if_neg (by omega), if_neg (by omega), if_pos e45']
    congr 1
    omega
  · rename_i hn
    rw [if_neg hn]
    obtain ⟨k1, k2⟩ := key v.toNat h
    obtain ⟨h1, _, ⟨c, r, h3, _⟩, _⟩ := dec_spec v.toNat
    have hc := h1 c (by rw [h3]; simp)
    unfold isDig at hc
    have h18 : (10 : Nat) ^ 18 = 1000000000000000000 := rfl
    unfold Lib.atoiAll
    rw [h3] at k1 ⊢
    simp only [if_neg (show ¬ (c.toNat = 43 ∨ c.toNat = 45) by omega), k1]
    rw [if_neg (by omega), if_neg (by omega), if_neg (by omega)]
    congr 1
    omega
theorem numL_iff (s : List UInt8) (v : Int) : numL s = some v ↔ s.length ≤ 6 ∧ s = Lib.itoa v := by
  unfold numL
  constructor
  · intro h
    split at h
    · rename_i hl
      split at h
      · split at h
        · rename_i he
          cases h
          exact ⟨hl, he.symm⟩
        · cases h
      · cases h
    · cases h
  · rintro ⟨hl, rfl⟩
    rw [if_pos hl, atoi_itoa hl]
    simp
end Go.Txt

namespace Go.K
open Go Go.RowKit Go.Shelf Go.Proofs
abbrev encS (s : ByteArray) : List Value := [.string s]
theorem encS_ok : Enc 1 encS := ⟨fun _ => rfl, fun _ => rfl, by decide⟩
/-- a variable that holds some number -/
def IntV (b : Nat) : Res where
  A B w := (∀ k, B k ↔ k = b) ∧ ∃ m, w.cell? ⟨b, 0, none⟩ = some (.int .i64 m)
  loc _ w w' h hA := ⟨hA.1, let ⟨m, hm⟩ := hA.2; ⟨m, by
    have := h b ((hA.1 b).2 rfl)
    simp only [World.cell?] at hm ⊢
    rw [this]; exact hm⟩⟩
/-- a variable that holds some error, or none -/
def ErrV (b : Nat) : Res where
  A B w := (∀ k, B k ↔ k = b) ∧ ∃ v, w.cell? ⟨b, 0, none⟩ = some v ∧ (v = .nilIface ∨ ∃ te pe, v = .iface te pe)
  loc _ w w' h hA := ⟨hA.1, let ⟨m, hm, hv⟩ := hA.2; ⟨m, by
    have := h b ((hA.1 b).2 rfl)
    simp only [World.cell?] at hm ⊢
    rw [this]; exact hm, hv⟩⟩
theorem ext_drewN (w : World) (n : Nat) : Ext w (w.drewN n) := ⟨rfl, ⟨rfl, Nat.le_add_right _ _⟩, rfl, Nat.le_refl _, fun _ _ => rfl⟩
section
variable {P : Program} {ρ : Ren}
abbrev mkB (l : List UInt8) : ByteArray := ⟨l.toArray⟩
def cutV (s sep : ByteArray) : Value := .tuple #[.string (mkB (Lib.cut s.data.toList sep.data.toList).1), .string (mkB (Lib.cut s.data.toList sep.data.toList).2.1), .bool (Lib.cut s.data.toList sep.data.toList).2.2]
theorem cut_pure (L : Lays.n145 P ρ) (s sep : ByteArray) (w : World) (hs : s.size < 4294967281) (hm : Has w (IntV (ρ.g 1))) : Calls P (ρ.f 145) #[.string s, .string sep] w (Pure (cutV s sep) w) := by
  obtain ⟨_, _, _, m, hm⟩ := hm
  refine (Any.strings_Cut L s sep m w hs hm).mono ?_
  rintro e w' ⟨rfl, n, rfl⟩
  exact ⟨rfl, ext_drewN w n⟩
def splitL (s : ByteArray) (c : UInt8) : List ByteArray := Lib.splitB ⟨#[c]⟩ 0 (Lib.countB s ⟨#[c]⟩) s
theorem splitL_data (s : ByteArray) (c : UInt8) : (splitL s c).map (·.data.toList) = Txt.cutL c s.data.toList := by
  unfold splitL
  rw [Lib.splitB_data]
  exact Txt.split_spec c _ _ (by rw [← Lib.count_one])
theorem split_gives (L : Lays.n146 P ρ) (hi9 : (P.info? (ρ.t 9)).map (fun i => (i.zero, i.size, i.bytes)) = some (some (.string ByteArray.empty), 1, 16)) (s : ByteArray) (c : UInt8) (w : World) (hs : s.size < 4294967281) (hm : Has w (IntV (ρ.g 1))) :
    Calls P (ρ.f 146) #[.string s, .string ⟨#[c]⟩] w (Gives (fun b : Nat => .slice (some ⟨b, 0, none⟩) (splitL s c).length (splitL s c).length) (fun b => Row (some ⟨b, 0, none⟩) 1 (splitL s c).length (ρ.t 9) encS (splitL s c)) w) := by
  obtain ⟨_, _, _, m, hm⟩ := hm
  have hlen : (splitL s c).length = Lib.countB s ⟨#[c]⟩ + 1 := Lib.splitB_all _ (show 1 ≤ (⟨#[c]⟩ : ByteArray).size from Nat.le_refl 1) 0 _ s rfl
  refine (Any.strings_Split L hi9 s ⟨#[c]⟩ m w hs hm (show 1 ≤ (⟨#[c]⟩ : ByteArray).size from Nat.le_refl 1)).mono ?_
  rintro e w' ⟨rfl, rfl⟩
  refine ⟨w.heap.size, by rw [hlen], ext_alloc _, (· = w.heap.size), fun k hk => by subst hk; simp, .inr ⟨w.heap.size, 0, (splitL s c).map Value.string, rfl, fun _ => Iff.rfl, World.alloc_heap_new w _, Nat.le_refl _, by simp, ?_⟩⟩
  rw [List.drop_zero, Nat.mul_one, ← List.length_map (f := Value.string), List.take_length]
  induction splitL s c with
  | nil => rfl
  | cons x r ih => rw [List.map_cons, List.flatMap_cons, ih]; rfl
def isNilI : Value → Bool
  | .nilIface => true
  | _ => false
def atoiV (s : ByteArray) : Int := match Lib.atoiAll s.data.toList with
  | .ok v => v
  | .range => Lib.atoiSat s.data.toList
  | _ => 0
def atoiB (s : ByteArray) : Bool := match Lib.atoiAll s.data.toList with
  | .ok _ => true
  | _ => false
theorem atoi_gives (L : LaysC.n172 P ρ) (s : ByteArray) (w : World) (hs : s.size ≤ 281474976710656) (h15 : Has w (ErrV (ρ.g 15))) (h16 : Has w (ErrV (ρ.g 16))) :
    Calls P (ρ.f 172) #[.string s] w (Gives (fun v : {v : Value // (v = .nilIface ∨ ∃ u z, v = .iface u z) ∧ isNilI v = atoiB s} => .tuple #[.int .i64 (atoiV s), v.1]) (fun _ => Emp) w) := by
  have emp : ∀ {w' : World}, New w w' Emp := fun {_} => ⟨fun _ => False, fun _ h => h.elim, trivial⟩
  cases h : Lib.atoiAll s.data.toList with
  | ok v =>
    refine (Any.strconv_Atoi_ok L s (by omega) v h w).mono ?_
    rintro e w' ⟨rfl, hw⟩
    refine ⟨⟨.nilIface, .inl rfl, by simp [atoiB, h, isNilI]⟩, by simp [atoiV, h], ?_, emp⟩
    rcases hw with rfl | ⟨t, rfl⟩
    · exact Ext.rfl
    · exact ext_bytesWorld _ _ _
  | range =>
    obtain ⟨_, _, _, ev, hv, hev⟩ := h16
    refine (atoiR_x L s hs h ev w hv hev).mono ?_
    rintro e w' ⟨N, rfl, _, _, hx⟩
    exact ⟨⟨.iface (ρ.t 168) (.pointer (some ⟨N, 0, none⟩)), .inr ⟨_, _, rfl⟩, by simp [atoiB, h, isNilI]⟩, by simp [atoiV, h], hx, emp⟩
  | _ =>
    obtain ⟨_, _, _, ev, hv, hev⟩ := h15
    refine (atoiS_x L s hs h ev w hv hev).mono ?_
    rintro e w' ⟨N, rfl, _, _, hx⟩
    exact ⟨⟨.iface (ρ.t 168) (.pointer (some ⟨N, 0, none⟩)), .inr ⟨_, _, rfl⟩, by simp [atoiB, h, isNilI]⟩, by simp [atoiV, h], hx, emp⟩
end
section
variable {c : Cx} {ds : List Deferred} {T : List (Nat × Value)} {H : List Res} {d : Option Nat} {ty : TypeId} {ps : String} {af : Array Edge} {g : Option (Nat × Bool)} {x y z : Operand}
theorem y_ifaceNil {t t' : TypeId} {v : Value} (ht : c.P.underlying t = some (.interface (c.P.methodsAt t))) (hx : evo T x = some v) (hv : v = .nilIface ∨ ∃ u z, v = .iface u z) :
    Y c ds H T ⟨d, .binOp .eql t x (.const .nilIface) t', ty, ps, af, g⟩ (.bool (isNilI v)) :=
  y_run fun a w ha _ => by
    have hxe := ha.eval hx
    have hye : a.eval (.const .nilIface) = .nilIface := rfl
    simp only [execOp, hxe, hye]
    rcases hv with rfl | ⟨u, z, rfl⟩
    · have hg : (eqGuard .eql t x (.const .nilIface) .nilIface .nilIface).run c.P w = .ok () w := by rw [eqGuard_nil_constR]; rfl
      refine run_val ?_
      rw [run_bind_ok hg]
      exact run_eql_nil_nil w t ht
    · have hg : (eqGuard .eql t x (.const .nilIface) (.iface u z) .nilIface).run c.P w = .ok () w := rfl
      refine run_val ?_
      rw [run_bind_ok hg]
      exact run_eql_held_nil w t u z ht
end
end Go.K

namespace Go.Proofs.YtmpaebfjnjmmlaaGreatDoor
open Go Go.K Go.Stn Go.ChangeShapes Go.WideShapes Go.ChangeAt Go.RowKit
abbrev laidR : List (String × DataW Unit) := Rows.stoneReadsRow.laid
noncomputable def worldR (os : Os) : World := (World.doorLaid Tryz.prog 400 os).layVars Tryz.prog [("unicode/utf8.first", Go.Pinned.utf8First)]
theorem worldR_os (os : Os) : (worldR os).os = os := World.layVars_os _ _ _
theorem door_metR (os : Os) (args : Array Value) : laidMetH Tryz.prog laidR ((worldR os).forCall (fun _ _ => 0) ⟨#[], args, []⟩).memory :=
  laidMetH_of_parts3 (fuel := 8) (laidMet_of_run' 8 (by kernel_rfl) (by kernel_rfl)) (by kernel_rfl) (by kernel_rfl)
section
variable {H : Type} {enc : TypeId × Value → H}
theorem returnsInHanded_of_change_and_shaped {a : Assume} {C : Checked} {os : Os} {f : FuncId} {fn : Func} {s : ChangeSpec} {conds : List PathCond} {apart fresh handsOn again : Bool} {X : World → Array Value → Prop}
    (hX : ∀ (w w' : World) (args : Array Value), w.heap = w'.heap → X w args → X w' args)
    (own : ownKnob C.prog.godebug = none) (started : os.Started) (noInit : C.prog.inits.idxOf? f = none) (hfn : C.prog.funcs[f]? = some fn)
    (witness : ∃ (w : World) (tape : Tape) (i : Input), w.os = os ∧ (w.forCall tape i).Shaped C.prog ∧ i.vars = [] ∧ Input.okWide C.prog (w.forCall tape i) .any w.heap.size f i ∧
      ((s.pre enc C.prog fn conds apart (w.forCall tape i).memory i.args ∧ X (w.forCall tape i).memory i.args) ∧ sizedMet enc C.prog fn (OpenSpec.ofChange s) apart (w.forCall tape i).memory i.args) ∧ a.holds C.prog (lone (Frame.enter C.prog f i.args .normal) [] (w.forCall tape i)))
    (contract : ∀ (W : World) (base : Nat) (args : Array Value) (ds gs : List (DataW H)) (before : List MemPlace),
      (∀ (j : Nat) t v, fn.params[j]? = some t → args[j]? = some v → Value.okWide C.prog W .any base t v) →
      DataW.Whole enc C.prog fn.params.toList s.vars apart W args.toList ds gs before →
      conds.all (PathCond.test C.prog ⟨fn.params.toList, ds, s.plain.varTypes C.prog, gs⟩) = true →
      (DataW.weightsEach C.prog (fn.params.toList ++ s.plain.varTypes C.prog) (ds ++ gs)).all (· ≤ reachBytes) = true → X W args →
      W.ShapedOpen C.prog →
      Calls C.prog f args W fun e W' => ∃ v, e = .returned v ∧ s.post enc C.prog fn apart fresh handsOn again W args v W') :
    ReturnsInHanded a C os f .any (fun w args => (s.pre enc C.prog fn conds apart w args ∧ X w args) ∧ sizedMet enc C.prog fn (OpenSpec.ofChange s) apart w args) (s.post enc C.prog fn apart fresh handsOn again) := by
  refine returnsInHanded_of_calls own started noInit witness ?_
  intro w tape i _ hsh _ hok hpre _
  obtain ⟨_, _, _, fn', hfn', _, _, _, _, hval⟩ := hok
  have e : fn' = fn := Option.some.inj (hfn'.symm.trans hfn)
  subst e
  obtain ⟨⟨⟨ds, gs, before, hw, hc⟩, hx⟩, hz⟩ := hpre
  have hw' := DataW.Whole.of_heap (w' := w.forCall tape i) (by rfl) hw
  refine (contract (w.forCall tape i) w.heap.size i.args ds gs before hval hw' hc (hz.weights hw) (hX _ _ _ (by rfl) hx) hsh).mono fun e W' ⟨v, he, hp⟩ => ?_
  subst he
  exact ChangeSpec.post_blind hp
end
theorem cell_lt {W : World} {b o : Nat} {v : Value} (h : W.cell? ⟨b, o, none⟩ = some v) : b < W.heap.size := by
  rcases Nat.lt_or_ge b W.heap.size with g | g
  · exact g
  · exfalso
    simp [World.cell?, Array.getElem?_eq_none g] at h
theorem int_of_shape {W : World} (h : W.ShapedOpen Tryz.prog) : Has W (IntV 1) := by
  obtain ⟨m, hm⟩ := cell_of_shapedOpen_int (P := Tryz.prog) (g := 1) (t := 3) (zero := #[.int .i64 0]) (k := .i64) h (of_decide_eq_true (by kernel_rfl)) (by kernel_rfl) rfl (by kernel_rfl) (by kernel_rfl) Tryz.underlying3
  exact ⟨(· = 1), fun k hk => by rw [hk]; exact cell_lt hm, fun _ => Iff.rfl, m, hm⟩
theorem errV_at {W : World} {l : List (String × DataW Unit)} {n nm : String} {d : DataW Unit} {b : Nat} (h : laidMetH Tryz.prog l W) (hm : (n, .iface nm d) ∈ l) (hd : (DataW.iface nm d).handleName?.isNone = true) (hb : Tryz.prog.globalNamed n = some b) (ht : (Tryz.prog.globals[b]?).map (·.type) = some 68) : Has W (ErrV b) := by
  obtain ⟨g, t, cs, fuel, p, hg', ht', hv, hd'⟩ := laid_plain h hm hd
  obtain rfl := Option.some.inj (hb.symm.trans hg')
  obtain rfl := Option.some.inj (ht.symm.trans ht')
  obtain ⟨f1, u, v, hcs, _, _⟩ := iface_of_trod Tryz.underlying68 hd'
  have hc : W.cell? ⟨b, 0, none⟩ = some (.iface u v) := by
    rw [World.var?_cell hb hv 0]
    obtain ⟨l0⟩ := cs
    have : l0 = [.iface u v] := hcs
    subst this; rfl
  exact ⟨(· = b), fun k hk => by rw [hk]; exact cell_lt hc, fun _ => Iff.rfl, .iface u v, hc, .inr ⟨u, v, rfl⟩⟩
theorem err3_of_laid {W : World} {l : List (String × DataW Unit)} (h : laidMetH Tryz.prog l W) (hm : ("strconv.ErrSyntax", Rows.laid_strconv_ErrSyntax) ∈ l) : Has W (ErrV 3) := errV_at h hm (by kernel_rfl) (by kernel_rfl) (by kernel_rfl)
theorem err4_of_laid {W : World} {l : List (String × DataW Unit)} (h : laidMetH Tryz.prog l W) (hm : ("strconv.ErrRange", Rows.laid_strconv_ErrRange) ∈ l) : Has W (ErrV 4) := errV_at h hm (by kernel_rfl) (by kernel_rfl) (by kernel_rfl)
end Go.Proofs.YtmpaebfjnjmmlaaGreatDoor

namespace Go.Proofs.YtmpaebfjnjmmlaaGreatDoor
open Go.K Go.Stn Go.RowKit
theorem tf3 : TF Tryz.prog 3 false 1 (.int IntKind.i64 0) := ⟨by kernel_rfl, by kernel_rfl⟩
theorem tf50 : TF Tryz.prog 50 true 2 (.agg #[.int IntKind.i64 0, .int IntKind.i64 0]) := ⟨by kernel_rfl, by kernel_rfl⟩
theorem fo26_0 : FO Tryz.prog 26 0 0 := ⟨by kernel_rfl⟩
theorem fo26_1 : FO Tryz.prog 26 1 1 := ⟨by kernel_rfl⟩
theorem fo50_0 : FO Tryz.prog 50 0 0 := ⟨by kernel_rfl⟩
theorem fo50_1 : FO Tryz.prog 50 1 1 := ⟨by kernel_rfl⟩
theorem se71 : SE Tryz.prog 71 3 1 := ⟨Tryz.underlying71, by kernel_rfl⟩
theorem en34 : En Tryz.prog 34 := en_of Tryz.func34 (by kernel_rfl) (by kernel_rfl)
theorem en68 : En Tryz.prog 68 := en_of Tryz.func68 (by kernel_rfl) (by kernel_rfl)
theorem en84 : En Tryz.prog 84 := en_of Tryz.func84 (by kernel_rfl) (by kernel_rfl)
theorem en85 : En Tryz.prog 85 := en_of Tryz.func85 (by kernel_rfl) (by kernel_rfl)
theorem en125 : En Tryz.prog 125 := en_of Tryz.func125 (by kernel_rfl) (by kernel_rfl)
theorem en148 : En Tryz.prog 148 := en_of Tryz.func148 (by kernel_rfl) (by kernel_rfl)
theorem bd50_0i_1i (x0 : Int) (x1 : Int) (w : World) : (Instr.build 50 #[(0, .int .i64 x0), (1, .int .i64 x1)]).run Tryz.prog w = .ok (.agg #[.int .i64 x0, .int .i64 x1]) w := by kernel_rfl
theorem bs71_2 (x0_0 : Int) (x1_0 : Int) (w : World) : (Instr.buildSlice 71 2 #[(0, .int .i64 x0_0), (1, .int .i64 x1_0)]).run Tryz.prog w = .ok (.slice (some ⟨w.heap.size, 0, none⟩) 2 2) (w.alloc (.cells (([x0_0, x1_0] : List (Int)).flatMap Go.Stn.encI).toArray 3)) := by kernel_rfl
theorem mixed : Tryz.prog.follows .mixedOrders = true := by kernel_rfl
set_option maxRecDepth 100000 in
set_option maxHeartbeats 1000000 in
theorem sub_c (p q : Pt) (w : World)  :
    Calls Tryz.prog 84 #[.agg #[.int .i64 p.x, .int .i64 p.z], .agg #[.int .i64 q.x, .int .i64 q.z]] w (Pure (ptV (subW p q)) w) := by
  refine calls_of_gk (vs := [_, _]) Tryz.func84 rfl rfl (Nat.le_of_ble_eq_true rfl) ?_
  refine gk_seq ?_
  refine gk_region ?_
  refine gk_yx rfl rfl (yx_box (vs := [_, _]) rfl rfl) fun b2 => ?_
  refine gk_yx rfl rfl (yx_box (vs := [_, _]) rfl rfl) fun b3 => ?_
  refine gk_yx rfl rfl (yx_alloc tf50 (zs := [_, _]) rfl) fun b4 => ?_
  refine gk_nil (gk_sub (T' := [(2,_), (3,_), (4,_)]) ⟨rfl, rfl, rfl, trivial⟩ ?_)
  refine gk_seq ?_
  refine gk_region ?_
  refine gk_y rfl rfl (y_fieldAddr fo50_0 rfl) ?_
  refine gk_y rfl rfl (y_loadB1 2 tf3 rfl rfl rfl) ?_
  refine gk_y rfl rfl (y_fieldAddr fo50_0 rfl) ?_
  refine gk_y rfl rfl (y_loadB1 1 tf3 rfl rfl rfl) ?_
  refine gk_y rfl rfl (y_sub rfl rfl) ?_
  refine gk_y rfl rfl (y_fieldAddr fo50_1 rfl) ?_
  refine gk_y rfl rfl (y_loadB1 2 tf3 rfl rfl rfl) ?_
  refine gk_y rfl rfl (y_fieldAddr fo50_1 rfl) ?_
  refine gk_y rfl rfl (y_loadB1 1 tf3 rfl rfl rfl) ?_
  refine gk_y rfl rfl (y_sub rfl rfl) ?_
  refine gk_y rfl rfl (y_buildL rfl (bd50_0i_1i _ _)) ?_
  refine gk_storeV 0 tf50 rfl rfl (vs := [_, _]) rfl rfl rfl rfl rfl ?_
  refine gk_nil (gk_sub (T' := [(4,_)]) ⟨rfl, trivial⟩ ?_)
  refine gk_ret ?_
  refine gk_pure (rv_one rfl (r1_cellA (i := 0) (vs := [_, _]) tf50 rfl rfl rfl rfl)) ?_
  rfl
set_option maxRecDepth 100000 in
set_option maxHeartbeats 1000000 in
theorem cross_c (p q : Pt) (w : World)  :
    Calls Tryz.prog 85 #[.agg #[.int .i64 p.x, .int .i64 p.z], .agg #[.int .i64 q.x, .int .i64 q.z]] w (Pure (.int .i64 (crossW p q)) w) := by
  refine calls_of_gk (vs := [_, _]) Tryz.func85 rfl rfl (Nat.le_of_ble_eq_true rfl) ?_
  refine gk_seq ?_
  refine gk_region ?_
  refine gk_yx rfl rfl (yx_box (vs := [_, _]) rfl rfl) fun b2 => ?_
  refine gk_yx rfl rfl (yx_box (vs := [_, _]) rfl rfl) fun b3 => ?_
  refine gk_y rfl rfl (y_assign rfl) ?_
  refine gk_nil (gk_sub (T' := [(2,_), (3,_), (4,_)]) ⟨rfl, rfl, rfl, trivial⟩ ?_)
  refine gk_seq ?_
  refine gk_region ?_
  refine gk_y rfl rfl (y_fieldAddr fo50_0 rfl) ?_
  refine gk_y rfl rfl (y_loadB1 1 tf3 rfl rfl rfl) ?_
  refine gk_y rfl rfl (y_fieldAddr fo50_1 rfl) ?_
  refine gk_y rfl rfl (y_loadB1 0 tf3 rfl rfl rfl) ?_
  refine gk_y rfl rfl (y_mul rfl rfl) ?_
  refine gk_y rfl rfl (y_fieldAddr fo50_1 rfl) ?_
  refine gk_y rfl rfl (y_loadB1 1 tf3 rfl rfl rfl) ?_
  refine gk_y rfl rfl (y_fieldAddr fo50_0 rfl) ?_
  refine gk_y rfl rfl (y_loadB1 0 tf3 rfl rfl rfl) ?_
  refine gk_y rfl rfl (y_mul rfl rfl) ?_
  refine gk_y rfl rfl (y_sub rfl rfl) ?_
  refine gk_y rfl rfl (y_assign rfl) ?_
  refine gk_nil (gk_sub (T' := [(4,_)]) ⟨rfl, trivial⟩ ?_)
  refine gk_ret ?_
  refine gk_pure (rv_one rfl (r1_tmp rfl)) ?_
  rfl
set_option maxRecDepth 100000 in
set_option maxHeartbeats 1000000 in
theorem dot_c (p q : Pt) (w : World)  :
    Calls Tryz.prog 86 #[.agg #[.int .i64 p.x, .int .i64 p.z], .agg #[.int .i64 q.x, .int .i64 q.z]] w (Pure (.int .i64 (dotW p q)) w) := by
  refine calls_of_gk (vs := [_, _]) Tryz.func86 rfl rfl (Nat.le_of_ble_eq_true rfl) ?_
  refine gk_seq ?_
  refine gk_region ?_
  refine gk_yx rfl rfl (yx_box (vs := [_, _]) rfl rfl) fun b2 => ?_
  refine gk_yx rfl rfl (yx_box (vs := [_, _]) rfl rfl) fun b3 => ?_
  refine gk_y rfl rfl (y_assign rfl) ?_
  refine gk_nil (gk_sub (T' := [(2,_), (3,_), (4,_)]) ⟨rfl, rfl, rfl, trivial⟩ ?_)
  refine gk_seq ?_
  refine gk_region ?_
  refine gk_y rfl rfl (y_fieldAddr fo50_0 rfl) ?_
  refine gk_y rfl rfl (y_loadB1 1 tf3 rfl rfl rfl) ?_
  refine gk_y rfl rfl (y_fieldAddr fo50_0 rfl) ?_
  refine gk_y rfl rfl (y_loadB1 0 tf3 rfl rfl rfl) ?_
  refine gk_y rfl rfl (y_mul rfl rfl) ?_
  refine gk_y rfl rfl (y_fieldAddr fo50_1 rfl) ?_
  refine gk_y rfl rfl (y_loadB1 1 tf3 rfl rfl rfl) ?_
  refine gk_y rfl rfl (y_fieldAddr fo50_1 rfl) ?_
  refine gk_y rfl rfl (y_loadB1 0 tf3 rfl rfl rfl) ?_
  refine gk_y rfl rfl (y_mul rfl rfl) ?_
  refine gk_y rfl rfl (y_add rfl rfl) ?_
  refine gk_y rfl rfl (y_assign rfl) ?_
  refine gk_nil (gk_sub (T' := [(4,_)]) ⟨rfl, trivial⟩ ?_)
  refine gk_ret ?_
  refine gk_pure (rv_one rfl (r1_tmp rfl)) ?_
  rfl
set_option maxRecDepth 100000 in
set_option maxHeartbeats 1000000 in
theorem turn_c (p q r : Pt) (w : World)  :
    Calls Tryz.prog 87 #[.agg #[.int .i64 p.x, .int .i64 p.z], .agg #[.int .i64 q.x, .int .i64 q.z], .agg #[.int .i64 r.x, .int .i64 r.z]] w (Pure (.int .i64 (turnW p q r)) w) := by
  refine calls_of_gk (vs := [_, _, _]) Tryz.func87 rfl rfl (Nat.le_of_ble_eq_true rfl) ?_
  refine gk_seq ?_
  refine gk_region ?_
  refine gk_yx rfl rfl (yx_box (vs := [_, _]) rfl rfl) fun b3 => ?_
  refine gk_yx rfl rfl (yx_box (vs := [_, _]) rfl rfl) fun b4 => ?_
  refine gk_yx rfl rfl (yx_box (vs := [_, _]) rfl rfl) fun b5 => ?_
  refine gk_y rfl rfl (y_assign rfl) ?_
  refine gk_nil (gk_sub (T' := [(3,_), (4,_), (5,_), (6,_)]) ⟨rfl, rfl, rfl, rfl, trivial⟩ ?_)
  refine gk_seq ?_
  refine gk_any 8 (fun _ => mixed) (by kernel_rfl) ?_
  refine ph_y (y_loadBA 1 tf50 rfl rfl (vs := [_, _]) rfl rfl) ?_
  refine ph_y (y_loadBA 2 tf50 rfl rfl (vs := [_, _]) rfl rfl) ?_
  refine ph_y (y_call en84 rfl (fun w hw => sub_c ⟨_, _⟩ ⟨_, _⟩ w)) ?_
  refine ph_y (y_loadBA 0 tf50 rfl rfl (vs := [_, _]) rfl rfl) ?_
  refine ph_y (y_loadBA 1 tf50 rfl rfl (vs := [_, _]) rfl rfl) ?_
  refine ph_y (y_call en84 rfl (fun w hw => sub_c ⟨_, _⟩ ⟨_, _⟩ w)) ?_
  refine ph_y (y_call en85 rfl (fun w hw => cross_c ⟨_, _⟩ ⟨_, _⟩ w)) ?_
  refine ph_y (y_assign rfl) ?_
  refine gk_nil (gk_sub (T' := [(6,_)]) ⟨rfl, trivial⟩ ?_)
  refine gk_ret ?_
  refine gk_pure (rv_one rfl (r1_tmp rfl)) ?_
  rfl
set_option maxRecDepth 100000 in
set_option maxHeartbeats 1000000 in
theorem within_c (n lo hi : Int) (w : World)  :
    Calls Tryz.prog 55 #[.int .i64 n, .int .i64 lo, .int .i64 hi] w (Pure (.bool (decide (lo ≤ n) && decide (n ≤ hi))) w) := by
  refine calls_of_gk (vs := [_, _, _]) Tryz.func55 rfl rfl (Nat.le_of_ble_eq_true rfl) ?_
  refine gk_seq ?_
  refine gk_region ?_
  refine gk_y rfl rfl (y_assign rfl) ?_
  refine gk_nil (gk_sub (T' := [(0,_), (1,_), (2,_), (6,_)]) ⟨rfl, rfl, rfl, rfl, trivial⟩ ?_)
  refine gk_seq ?_
  refine gk_any 9 (fun _ => mixed) (by kernel_rfl) ?_
  refine ph_y (y_move rfl) ?_
  refine ph_y (y_move rfl) ?_
  refine ph_y (y_geq rfl rfl) ?_
  refine ph_y (y_move rfl) ?_
  refine ph_gT rfl rfl (fun hgd => by (try rw [hgd]); exact (y_move rfl)) ?_
  refine ph_gT rfl rfl (fun hgd => by (try rw [hgd]); exact (y_move rfl)) ?_
  refine ph_gT rfl rfl (fun hgd => by (try rw [hgd]); exact (y_leq rfl rfl)) ?_
  refine ph_y (y_pickAnd rfl rfl rfl) ?_
  refine ph_y (y_assign rfl) ?_
  refine gk_nil (gk_sub (T' := [(6,_)]) ⟨rfl, trivial⟩ ?_)
  refine gk_ret ?_
  refine gk_pure (rv_one rfl (r1_tmp rfl)) ?_
  rfl
set_option maxRecDepth 100000 in
set_option maxHeartbeats 1000000 in
theorem in_c (n lo hi : Int) (w : World)  :
    Calls Tryz.prog 73 #[.int .i64 n, .int .i64 lo, .int .i64 hi] w (Pure (.bool (decide (lo ≤ n) && decide (n ≤ hi))) w) := by
  refine calls_of_gk (vs := [_, _, _]) Tryz.func73 rfl rfl (Nat.le_of_ble_eq_true rfl) ?_
  refine gk_seq ?_
  refine gk_region ?_
  refine gk_y rfl rfl (y_assign rfl) ?_
  refine gk_nil (gk_sub (T' := [(0,_), (1,_), (2,_), (6,_)]) ⟨rfl, rfl, rfl, rfl, trivial⟩ ?_)
  refine gk_seq ?_
  refine gk_any 9 (fun _ => mixed) (by kernel_rfl) ?_
  refine ph_y (y_move rfl) ?_
  refine ph_y (y_move rfl) ?_
  refine ph_y (y_geq rfl rfl) ?_
  refine ph_y (y_move rfl) ?_
  refine ph_gT rfl rfl (fun hgd => by (try rw [hgd]); exact (y_move rfl)) ?_
  refine ph_gT rfl rfl (fun hgd => by (try rw [hgd]); exact (y_move rfl)) ?_
  refine ph_gT rfl rfl (fun hgd => by (try rw [hgd]); exact (y_leq rfl rfl)) ?_
  refine ph_y (y_pickAnd rfl rfl rfl) ?_
  refine ph_y (y_assign rfl) ?_
  refine gk_nil (gk_sub (T' := [(6,_)]) ⟨rfl, trivial⟩ ?_)
  refine gk_ret ?_
  refine gk_pure (rv_one rfl (r1_tmp rfl)) ?_
  rfl
set_option maxRecDepth 100000 in
set_option maxHeartbeats 1000000 in
theorem side_c (p q r : Pt) (w : World)  :
    Calls Tryz.prog 136 #[.agg #[.int .i64 p.x, .int .i64 p.z], .agg #[.int .i64 q.x, .int .i64 q.z], .agg #[.int .i64 r.x, .int .i64 r.z]] w (Pure (.int .i64 (sideW p q r)) w) := by
  refine calls_of_gk (vs := [_, _, _]) Tryz.func136 rfl rfl (Nat.le_of_ble_eq_true rfl) ?_
  refine gk_seq ?_
  refine gk_region ?_
  refine gk_yx rfl rfl (yx_box (vs := [_, _]) rfl rfl) fun b3 => ?_
  refine gk_yx rfl rfl (yx_box (vs := [_, _]) rfl rfl) fun b4 => ?_
  refine gk_yx rfl rfl (yx_box (vs := [_, _]) rfl rfl) fun b5 => ?_
  refine gk_y rfl rfl (y_assign rfl) ?_
  refine gk_nil (gk_sub (T' := [(3,_), (4,_), (5,_), (6,_)]) ⟨rfl, rfl, rfl, rfl, trivial⟩ ?_)
  refine gk_seq ?_
  refine gk_region ?_
  refine gk_y rfl rfl (y_fieldAddr fo26_0 rfl) ?_
  refine gk_y rfl rfl (y_loadB1 1 tf3 rfl rfl rfl) ?_
  refine gk_y rfl rfl (y_fieldAddr fo26_0 rfl) ?_
  refine gk_y rfl rfl (y_loadB1 2 tf3 rfl rfl rfl) ?_
  refine gk_y rfl rfl (y_sub rfl rfl) ?_
  refine gk_y rfl rfl (y_fieldAddr fo26_1 rfl) ?_
  refine gk_y rfl rfl (y_loadB1 0 tf3 rfl rfl rfl) ?_
  refine gk_y rfl rfl (y_fieldAddr fo26_1 rfl) ?_
  refine gk_y rfl rfl (y_loadB1 2 tf3 rfl rfl rfl) ?_
  refine gk_y rfl rfl (y_sub rfl rfl) ?_
  refine gk_y rfl rfl (y_mul rfl rfl) ?_
  refine gk_y rfl rfl (y_fieldAddr fo26_1 rfl) ?_
  refine gk_y rfl rfl (y_loadB1 1 tf3 rfl rfl rfl) ?_
  refine gk_y rfl rfl (y_fieldAddr fo26_1 rfl) ?_
  refine gk_y rfl rfl (y_loadB1 2 tf3 rfl rfl rfl) ?_
  refine gk_y rfl rfl (y_sub rfl rfl) ?_
  refine gk_y rfl rfl (y_fieldAddr fo26_0 rfl) ?_
  refine gk_y rfl rfl (y_loadB1 0 tf3 rfl rfl rfl) ?_
  refine gk_y rfl rfl (y_fieldAddr fo26_0 rfl) ?_
  refine gk_y rfl rfl (y_loadB1 2 tf3 rfl rfl rfl) ?_
  refine gk_y rfl rfl (y_sub rfl rfl) ?_
  refine gk_y rfl rfl (y_mul rfl rfl) ?_
  refine gk_y rfl rfl (y_sub rfl rfl) ?_
  refine gk_y rfl rfl (y_assign rfl) ?_
  refine gk_nil (gk_sub (T' := [(6,_)]) ⟨rfl, trivial⟩ ?_)
  refine gk_ret ?_
  refine gk_pure (rv_one rfl (r1_tmp rfl)) ?_
  rfl
set_option maxRecDepth 100000 in
set_option maxHeartbeats 1000000 in
theorem nan_c (n : Int) (w : World)  :
    Calls Tryz.prog 148 #[.int .i64 n] w (Pure (.bool false) w) := by
  refine calls_of_gk (vs := [_]) Tryz.func148 rfl rfl (Nat.le_of_ble_eq_true rfl) ?_
  refine gk_seq ?_
  refine gk_region ?_
  refine gk_y rfl rfl (y_assign rfl) ?_
  refine gk_nil (gk_sub (T' := [(0,_), (2,_)]) ⟨rfl, rfl, trivial⟩ ?_)
  refine gk_seq ?_
  refine gk_region ?_
  refine gk_y rfl rfl (y_move rfl) ?_
  refine gk_y rfl rfl (y_move rfl) ?_
  refine gk_y rfl rfl (y_neq rfl rfl) ?_
  refine gk_y rfl rfl (y_assign rfl) ?_
  refine gk_nil (gk_sub (T' := [(2,_)]) ⟨rfl, trivial⟩ ?_)
  refine gk_ret ?_
  refine gk_pure (rv_one rfl (r1_tmp rfl)) ?_
  simp
set_option maxRecDepth 100000 in
set_option maxHeartbeats 1000000 in
theorem compare_c (x y : Int) (w : World)  :
    Calls Tryz.prog 125 #[.int .i64 x, .int .i64 y] w (Pure (.int .i64 (cmpI x y)) w) := by
  refine calls_of_gk (vs := [_, _]) Tryz.func125 rfl rfl (Nat.le_of_ble_eq_true rfl) ?_
  refine gk_seq ?_
  refine gk_region ?_
  refine gk_y rfl rfl (y_assign rfl) ?_
  refine gk_nil (gk_sub (T' := [(0,_), (1,_), (4,_)]) ⟨rfl, rfl, rfl, trivial⟩ ?_)
  refine gk_seq ?_
  refine gk_region ?_
  refine gk_y rfl rfl (y_move rfl) ?_
  refine gk_y rfl rfl (y_call en148 rfl (fun w hw => nan_c _ w)) ?_
  refine gk_y rfl rfl (y_assign rfl) ?_
  refine gk_nil (gk_sub (T' := [(0,_), (1,_), (4,_), (5,_)]) ⟨rfl, rfl, rfl, rfl, trivial⟩ ?_)
  refine gk_seq ?_
  refine gk_region ?_
  refine gk_y rfl rfl (y_move rfl) ?_
  refine gk_y rfl rfl (y_call en148 rfl (fun w hw => nan_c _ w)) ?_
  refine gk_y rfl rfl (y_assign rfl) ?_
  refine gk_nil (gk_sub (T' := [(0,_), (1,_), (4,_), (5,_), (6,_)]) ⟨rfl, rfl, rfl, rfl, rfl, trivial⟩ ?_)
  refine gk_seq ?_
  refine gk_seq ?_
  refine gk_region ?_
  refine gk_y rfl rfl (y_move rfl) ?_
  refine gk_nil (gk_sub (T' := [(0,_), (1,_), (4,_), (6,_), (11,_)]) ⟨rfl, rfl, rfl, rfl, rfl, trivial⟩ ?_)
  refine gk_condF rfl ?_
  refine gk_skip ?_
  refine gk_seq ?_
  refine gk_seq ?_
  refine gk_region ?_
  refine gk_y rfl rfl (y_move rfl) ?_
  refine gk_nil (gk_sub (T' := [(0,_), (1,_), (4,_), (13,_)]) ⟨rfl, rfl, rfl, rfl, trivial⟩ ?_)
  refine gk_condF rfl ?_
  refine gk_skip ?_
  refine gk_seq ?_
  refine gk_seq ?_
  refine gk_region ?_
  refine gk_y rfl rfl (y_move rfl) ?_
  refine gk_y rfl rfl (y_move rfl) ?_
  refine gk_y rfl rfl (y_lss rfl rfl) ?_
  refine gk_nil (gk_sub (T' := [(0,_), (1,_), (4,_), (16,_)]) ⟨rfl, rfl, rfl, rfl, trivial⟩ ?_)
  refine gk_cond rfl (fun hc16 => ?_) (fun hc16 => ?_)
  · simp only [decide_eq_true_eq] at hc16
    refine gk_seq ?_
    refine gk_region ?_
    refine gk_y rfl rfl (y_assign rfl) ?_
    refine gk_nil (gk_sub (T' := [(0,_), (1,_), (4,_)]) ⟨rfl, rfl, rfl, trivial⟩ ?_)
    refine gk_ret ?_
    refine gk_pure (rv_one rfl (r1_tmp rfl)) ?_
    simp only [cmpI]; rw [if_pos (by omega)]
  · simp only [decide_eq_false_iff_not] at hc16
    refine gk_skip ?_
    refine gk_seq ?_
    refine gk_seq ?_
    refine gk_region ?_
    refine gk_y rfl rfl (y_move rfl) ?_
    refine gk_y rfl rfl (y_move rfl) ?_
    refine gk_y rfl rfl (y_gtr rfl rfl) ?_
    refine gk_nil (gk_sub (T' := [(4,_), (19,_)]) ⟨rfl, rfl, trivial⟩ ?_)
    refine gk_cond rfl (fun hc19 => ?_) (fun hc19 => ?_)
    · simp only [decide_eq_true_eq] at hc19
      refine gk_seq ?_
      refine gk_region ?_
      refine gk_y rfl rfl (y_assign rfl) ?_
      refine gk_nil (gk_sub (T' := [(4,_)]) ⟨rfl, trivial⟩ ?_)
      refine gk_ret ?_
      refine gk_pure (rv_one rfl (r1_tmp rfl)) ?_
      simp only [cmpI]; rw [if_neg (by omega), if_pos (by omega)]
    · simp only [decide_eq_false_iff_not] at hc19
      refine gk_skip ?_
      refine gk_seq ?_
      refine gk_region ?_
      refine gk_y rfl rfl (y_assign rfl) ?_
      refine gk_nil (gk_sub (T' := [(4,_)]) ⟨rfl, trivial⟩ ?_)
      refine gk_ret ?_
      refine gk_pure (rv_one rfl (r1_tmp rfl)) ?_
      simp only [cmpI]; rw [if_neg (by omega), if_neg (by omega)]
set_option maxRecDepth 100000 in
set_option maxHeartbeats 1000000 in
theorem or_c (a : Option Addr) (cap : Nat) (l : List Int) (w : World) (hl : Has w (Ints a l)) (hs : Small l.length) :
    Calls Tryz.prog 68 #[.slice a l.length cap] w (Pure (.int .i64 (orI l)) w) := by
  refine calls_of_gk (vs := [_]) Tryz.func68 rfl rfl (Nat.le_of_ble_eq_true rfl) ?_
  refine gk_seq ?_
  refine gk_region ?_
  refine gk_y rfl rfl (y_assign rfl) ?_
  refine gk_nil (gk_sub (T' := [(0,_), (2,_)]) ⟨rfl, rfl, trivial⟩ ?_)
  refine gk_seq ?_
  refine gk_region ?_
  refine gk_y rfl rfl (y_assign rfl) ?_
  refine gk_nil (gk_sub (T' := [(0,_), (2,_), (3,_)]) ⟨rfl, rfl, rfl, trivial⟩ ?_)
  refine gk_seq ?_
  refine gk_seq ?_
  refine gk_region ?_
  refine gk_y rfl rfl (y_move rfl) ?_
  refine gk_y rfl rfl (y_lenS (Tryz.underlying71) rfl) ?_
  refine gk_y rfl rfl (y_move rfl) ?_
  refine gk_nil (gk_sub (T' := [(2,_), (3,_), (6,_), (7,_), (8,_)]) ⟨rfl, rfl, rfl, rfl, rfl, trivial⟩ ?_)
  refine gk_block ?_
  refine gk_loop (X := Int) (fun (i : Int) => [(2, .int .i64 0), (3, .int .i64 0), (6, .slice a l.length cap), (7, .int .i64 (l.length : Int)), (8, .int .i64 i)]) (fun (i : Int) => []) (fun (i : Int) => (0 ≤ i ∧ i ≤ l.length ∧ orI (l.drop i.toNat) = orI l)) (fun (i : Int) => (l.length - i).toNat) 0 ⟨rfl, rfl, rfl, rfl, rfl, trivial⟩ rfl ?_ ?_
  · exact ⟨by omega, by omega, rfl⟩
  · rintro i hI
    obtain ⟨h0, h1, h2⟩ := hI
    refine gk_seq ?_
    refine gk_region ?_
    refine gk_y rfl rfl (y_lss rfl rfl) ?_
    refine gk_nil (gk_sub (T' := [(2,_), (3,_), (6,_), (7,_), (8,_), (9,_)]) ⟨rfl, rfl, rfl, rfl, rfl, rfl, trivial⟩ ?_)
    refine gk_seq ?_
    refine gk_cond rfl (fun hc9 => ?_) (fun hc9 => ?_)
    · simp only [decide_eq_true_eq] at hc9
      refine gk_skip ?_
      refine gk_seq ?_
      refine gk_block ?_
      refine gk_seq ?_
      refine gk_region ?_
      refine gk_y rfl rfl (y_indexE se71 rfl rfl (fun _ hw => (Rd.has (Has.rd hl) hw)) (by omega) (by omega)) ?_
      refine gk_y rfl rfl (y_loadE1 tf3 rfl (fun _ hw => (Rd.has (Has.rd hl) hw)) (by omega) (by omega) rfl) ?_
      refine gk_y rfl rfl (y_assign rfl) ?_
      refine gk_nil (gk_sub (T' := [(2,_), (3,_), (5,_), (6,_), (7,_), (8,_)]) ⟨rfl, rfl, rfl, rfl, rfl, rfl, trivial⟩ ?_)
      refine gk_seq ?_
      refine gk_region ?_
      refine gk_y rfl rfl (y_move rfl) ?_
      refine gk_y rfl rfl (y_move rfl) ?_
      refine gk_y rfl rfl (y_neq rfl rfl) ?_
      refine gk_nil (gk_sub (T' := [(2,_), (3,_), (5,_), (6,_), (7,_), (8,_), (14,_)]) ⟨rfl, rfl, rfl, rfl, rfl, rfl, rfl, trivial⟩ ?_)
      refine gk_cond rfl (fun hc14 => ?_) (fun hc14 => ?_)
      · simp only [Bool.not_eq_true', decide_eq_false_iff_not] at hc14
        refine gk_seq ?_
        refine gk_region ?_
        refine gk_y rfl rfl (y_move rfl) ?_
        refine gk_y rfl rfl (y_assign rfl) ?_
        refine gk_nil (gk_sub (T' := [(2,_), (3,_), (6,_), (7,_), (8,_)]) ⟨rfl, rfl, rfl, rfl, rfl, trivial⟩ ?_)
        refine gk_ret ?_
        refine gk_pure (rv_one rfl (r1_tmp rfl)) ?_
        rw [← h2]; exact congrArg _ (orI_hit h0 (by omega) hc14).symm
      · simp only [Bool.not_eq_false', decide_eq_true_eq] at hc14
        refine gk_skip ?_
        refine gk_region ?_
        refine gk_y rfl rfl (y_addI rfl rfl (by omega) (by omega)) ?_
        refine gk_y rfl rfl (y_move rfl) ?_
        refine gk_nil (gk_sub (T' := [(2,_), (3,_), (6,_), (7,_), (8,_)]) ⟨rfl, rfl, rfl, rfl, rfl, trivial⟩ ?_)
        exact gk_next _ ⟨rfl, rfl, rfl, rfl, rfl, trivial⟩ rfl (by refine ⟨by omega, by omega, ?_⟩; exact (orI_step h0 (by omega) hc14).trans h2) (by omega)
    · simp only [decide_eq_false_iff_not] at hc9
      refine gk_exit rfl ?_
      refine gk_seq ?_
      refine gk_region ?_
      refine gk_y rfl rfl (y_move rfl) ?_
      refine gk_y rfl rfl (y_assign rfl) ?_
      refine gk_nil (gk_sub (T' := [(2,_)]) ⟨rfl, trivial⟩ ?_)
      refine gk_ret ?_
      refine gk_pure (rv_one rfl (r1_tmp rfl)) ?_
      rw [← h2]; exact congrArg _ (orI_end (by omega)).symm
set_option maxRecDepth 100000 in
set_option maxHeartbeats 1000000 in
theorem order_c (a : Option Addr) (cap : Nat) (l : List Int) (w : World) (hl : Has w (Ints a l)) (hs : Small l.length) :
    Calls Tryz.prog 34 #[.slice a l.length cap] w (Pure (.int .i64 (orI l)) w) := by
  refine calls_of_gk (vs := [_]) Tryz.func34 rfl rfl (Nat.le_of_ble_eq_true rfl) ?_
  refine gk_seq ?_
  refine gk_region ?_
  refine gk_y rfl rfl (y_assign rfl) ?_
  refine gk_nil (gk_sub (T' := [(0,_), (2,_)]) ⟨rfl, rfl, trivial⟩ ?_)
  refine gk_seq ?_
  refine gk_region ?_
  refine gk_y rfl rfl (y_move rfl) ?_
  refine gk_y rfl rfl (y_call en68 rfl (fun w hw => or_c _ _ l w (Rd.has (Has.rd hl) hw) hs)) ?_
  refine gk_y rfl rfl (y_assign rfl) ?_
  refine gk_nil (gk_sub (T' := [(2,_)]) ⟨rfl, trivial⟩ ?_)
  refine gk_ret ?_
  refine gk_pure (rv_one rfl (r1_tmp rfl)) ?_
  rfl
set_option maxRecDepth 100000 in
set_option maxHeartbeats 1000000 in
theorem lower_c (p q : Pt) (w : World)  :
    Calls Tryz.prog 95 #[.agg #[.int .i64 p.x, .int .i64 p.z], .agg #[.int .i64 q.x, .int .i64 q.z]] w (Pure (.int .i64 (lowerW p q)) w) := by
  refine calls_of_gk (vs := [_, _]) Tryz.func95 rfl rfl (Nat.le_of_ble_eq_true rfl) ?_
  refine gk_seq ?_
  refine gk_region ?_
  refine gk_yx rfl rfl (yx_box (vs := [_, _]) rfl rfl) fun b2 => ?_
  refine gk_yx rfl rfl (yx_box (vs := [_, _]) rfl rfl) fun b3 => ?_
  refine gk_y rfl rfl (y_assign rfl) ?_
  refine gk_nil (gk_sub (T' := [(2,_), (3,_), (4,_)]) ⟨rfl, rfl, rfl, trivial⟩ ?_)
  refine gk_seq ?_
  refine gk_any 13 (fun _ => mixed) (by kernel_rfl) ?_
  refine ph_y (y_fieldAddr fo50_1 rfl) ?_
  refine ph_y (y_loadB1 1 tf3 rfl rfl rfl) ?_
  refine ph_y (y_fieldAddr fo50_1 rfl) ?_
  refine ph_y (y_loadB1 0 tf3 rfl rfl rfl) ?_
  refine ph_y (y_call en125 rfl (fun w hw => compare_c _ _ w)) ?_
  refine ph_y (y_fieldAddr fo50_0 rfl) ?_
  refine ph_y (y_loadB1 1 tf3 rfl rfl rfl) ?_
  refine ph_y (y_fieldAddr fo50_0 rfl) ?_
  refine ph_y (y_loadB1 0 tf3 rfl rfl rfl) ?_
  refine ph_y (y_call en125 rfl (fun w hw => compare_c _ _ w)) ?_
  refine ph_yx (yx_buildSlice rfl (bs71_2 _ _) Go.Stn.encI_ok rfl) ?_
  refine ph_y (fun b15 => y_call en34 rfl (fun w hw => order_c _ _ ([(cmpI p.z q.z), (cmpI p.x q.x)]) w (has_row Go.Stn.encI_ok (hw.has (p := 0) rfl)) (by simp [Small]))) ?_
  refine ph_y (fun b15 => y_assign rfl) ?_
  intro b15
  refine gk_nil (gk_sub (T' := [(4,_)]) ⟨rfl, trivial⟩ ?_)
  refine gk_ret ?_
  refine gk_pure (rv_one rfl (r1_tmp rfl)) ?_
  rfl
end Go.Proofs.YtmpaebfjnjmmlaaGreatDoor
