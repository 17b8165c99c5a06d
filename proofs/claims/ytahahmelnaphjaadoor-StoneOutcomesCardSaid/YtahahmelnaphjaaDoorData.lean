/- Stones as plain data. No statement of the seat is proved in this text. -/
import Derived.Test.YtahahmelnaphjaaDoorK14
namespace Go.Stn
open Go Go.K Go.RowKit

abbrev W (n : Int) : Int := IntKind.i64.wrap n

structure Pt where
  x : Int
  z : Int
  deriving Inhabited, DecidableEq

abbrev encPt (p : Pt) : List Value := [.int .i64 p.x, .int .i64 p.z]
abbrev ptV (p : Pt) : Value := .agg #[.int .i64 p.x, .int .i64 p.z]
abbrev Pts (a : Option Addr) (l : List Pt) : Res := Elems a 2 encPt l
theorem encPt_ok : Enc 2 encPt := ⟨fun _ => rfl, fun _ => rfl, by decide⟩

abbrev encI (n : Int) : List Value := [.int .i64 n]
abbrev Ints (a : Option Addr) (l : List Int) : Res := Elems a 1 encI l
theorem encI_ok : Enc 1 encI := ⟨fun _ => rfl, fun _ => rfl, by decide⟩

/-- lengths of slices that fit -/
abbrev Small (n : Nat) : Prop := n ≤ 1099511627776

/-- lengths of texts that fit -/
abbrev Fits (n : Nat) : Prop := n ≤ 140737488355328

def byteI (s : ByteArray) (i : Int) : Int := ((s[i.toNat]?.getD 0).toNat : Int)

def cmpI (x y : Int) : Int := if x < y then -1 else if y < x then 1 else 0
def subW (p q : Pt) : Pt := ⟨W (p.x - q.x), W (p.z - q.z)⟩
def crossW (p q : Pt) : Int := W (W (p.x * q.z) - W (p.z * q.x))
def dotW (p q : Pt) : Int := W (W (p.x * q.x) + W (p.z * q.z))
def turnW (p q r : Pt) : Int := crossW (subW q p) (subW r q)
def sideW (p q r : Pt) : Int := W (W (W (q.x - p.x) * W (r.z - p.z)) - W (W (q.z - p.z) * W (r.x - p.x)))

/-- for all numbers below n -/
def allI (n : Nat) (p : Nat → Bool) : Bool := (List.range n).all p
theorem allI_iff {n : Nat} {p : Nat → Bool} : allI n p = true ↔ ∀ i, i < n → p i = true := by simp [allI]
theorem allI_true {n : Nat} {p : Nat → Bool} (h : ∀ i, i < n → p i = true) : allI n p = true := allI_iff.2 h
theorem allI_false {n i : Nat} {p : Nat → Bool} (hi : i < n) (h : p i = false) : allI n p = false := by
  cases hb : allI n p with
  | false => rfl
  | true => rw [allI_iff.1 hb i hi] at h; cases h

def orI : List Int → Int
  | [] => 0
  | x :: r => if x ≠ 0 then x else orI r
theorem orI_drop (l : List Int) (n : Nat) (h : n < l.length) : orI (l.drop n) = if l.getD n default ≠ 0 then l.getD n default else orI (l.drop (n + 1)) := by
  rw [List.drop_eq_getElem_cons h]
  simp [orI, h]
theorem orI_step {l : List Int} {i : Int} (h0 : 0 ≤ i) (h1 : i < (l.length : Int)) (h : l.getD i.toNat default = 0) : orI (l.drop (i + 1).toNat) = orI (l.drop i.toNat) := by
  rw [orI_drop l i.toNat (by omega), if_neg (by simpa using h), show (i + 1).toNat = i.toNat + 1 from by omega]
theorem orI_hit {l : List Int} {i : Int} (h0 : 0 ≤ i) (h1 : i < (l.length : Int)) (h : ¬ l.getD i.toNat default = 0) : orI (l.drop i.toNat) = l.getD i.toNat default := by
  rw [orI_drop l i.toNat (by omega), if_pos h]
theorem orI_end {l : List Int} {i : Int} (h : (l.length : Int) ≤ i) : orI (l.drop i.toNat) = 0 := by
  rw [List.drop_of_length_le (by omega)]; rfl
def lowerW (p q : Pt) : Int := orI [cmpI p.z q.z, cmpI p.x q.x]

def atL (l : List Pt) (i : Int) : Pt := l.getD ((i + (l.length : Int)).tmod (l.length : Int)).toNat default
def nextL (l : List Pt) (i : Int) : Pt := l.getD ((i + 1).tmod (l.length : Int)).toNat default
def ptAt (l : List Pt) (i : Int) : Pt := l.getD i.toNat default
def leastL (l : List Pt) : Pt := l.foldl (fun o p => ⟨min o.x p.x, min o.z p.z⟩) (l.getD 0 default)
def mostL (l : List Pt) : Pt := l.foldl (fun o p => ⟨max o.x p.x, max o.z p.z⟩) (l.getD 0 default)

theorem take_succ {α : Type} [Inhabited α] {l : List α} {i : Int} (h0 : 0 ≤ i) (h1 : i < (l.length : Int)) : l.take (i + 1).toNat = l.take i.toNat ++ [l.getD i.toNat default] := by
  have hlt : i.toNat < l.length := by omega
  rw [show (i + 1).toNat = i.toNat + 1 from by omega, List.take_add_one]
  simp [hlt]
theorem fold_take {α β : Type} [Inhabited α] {l : List α} {i : Int} (f : β → α → β) (b : β) (h0 : 0 ≤ i) (h1 : i < (l.length : Int)) : (l.take (i + 1).toNat).foldl f b = f ((l.take i.toNat).foldl f b) (l.getD i.toNat default) := by
  rw [take_succ h0 h1, List.foldl_append]; rfl
theorem take_all {α : Type} {l : List α} {i : Int} (h : (l.length : Int) ≤ i) : l.take i.toNat = l := List.take_of_length_le (by omega)

/-- the index of the first one that is so; -1: none is -/
def findI {α : Type} (p : α → Bool) (l : List α) : Int := if l.any p = true then (l.findIdx p : Int) else -1
theorem findI_hit {α : Type} [Inhabited α] {p : α → Bool} {l : List α} {i : Int} (h0 : 0 ≤ i) (h1 : i < (l.length : Int)) (ha : ∀ j : Nat, (j : Int) < i → p (l.getD j default) = false) (hp : p (l.getD i.toNat default) = true) : findI p l = i := by
  have hlt : i.toNat < l.length := by omega
  have hp' : p l[i.toNat] = true := by simpa [hlt] using hp
  have hany : l.any p = true := List.any_eq_true.2 ⟨l[i.toNat], List.getElem_mem hlt, hp'⟩
  have hidx : l.findIdx p = i.toNat := (List.findIdx_eq hlt).2 ⟨hp', fun j hj => by
    have := ha j (by omega)
    have hj' : j < l.length := by omega
    simpa [hj'] using this⟩
  rw [findI, if_pos hany, hidx]
  omega
theorem findI_none {α : Type} [Inhabited α] {p : α → Bool} {l : List α} (ha : ∀ j : Nat, j < l.length → p (l.getD j default) = false) : findI p l = -1 := by
  have : ¬ l.any p = true := fun h => by
    obtain ⟨x, hx, hp⟩ := List.any_eq_true.1 h
    obtain ⟨j, hj, rfl⟩ := List.getElem_of_mem hx
    have := ha j hj
    simp [hj, hp] at this
  rw [findI, if_neg this]
theorem findI_any {α : Type} (p : α → Bool) (l : List α) : decide (0 ≤ findI p l) = l.any p := by
  unfold findI
  cases h : l.any p with
  | true => simp
  | false => simp

/-- the first one of the least -/
def minF {α : Type} [Inhabited α] (f : α → α → Int) (l : List α) : α := (l.drop 1).foldl (fun m p => if f p m < 0 then p else m) (l.getD 0 default)
theorem minF_take {α : Type} [Inhabited α] {f : α → α → Int} {l : List α} {i : Int} (h0 : 1 ≤ i) (h1 : i < (l.length : Int)) :
    minF f (l.take (i + 1).toNat) = if f (l.getD i.toNat default) (minF f (l.take i.toNat)) < 0 then l.getD i.toNat default else minF f (l.take i.toNat) := by
  have hlt : i.toNat < l.length := by omega
  unfold minF
  have e0 : ∀ n, 0 < n → (l.take n).getD 0 default = l.getD 0 default := fun n hn => by
    simp only [List.getD_eq_getElem?_getD, List.getElem?_take]; rw [if_pos hn]
  rw [take_succ (by omega) h1, List.drop_append_of_le_length (by simp; omega), List.foldl_append, ← take_succ (by omega) h1, e0 _ (by omega), e0 _ (by omega)]
  rfl

def cvx1 (l : List Pt) (i : Int) : Bool := decide (0 < turnW (atL l (i - 1)) (ptAt l i) (atL l (i + 1)))
def cvx2 (l : List Pt) (i k : Int) : Bool := decide (0 < turnW (ptAt l i) (atL l (i + 1)) (atL l (i + k)))
def cvxI (l : List Pt) (i : Int) : Bool := cvx1 l i && allI (l.length - 3) fun k => cvx2 l i (k + 2 : Nat)
def convexB (l : List Pt) : Bool := (decide (3 ≤ (l.length : Int)) && decide ((l.length : Int) ≤ 12)) && allI l.length fun i => cvxI l i
theorem convex_no {l : List Pt} (h : (!(decide (3 ≤ (l.length : Int)) && decide ((l.length : Int) ≤ 12))) = true) : convexB l = false := by
  rw [Bool.not_eq_true'] at h
  rw [convexB, h]; rfl
theorem convex_len {l : List Pt} (h : (!(decide (3 ≤ (l.length : Int)) && decide ((l.length : Int) ≤ 12))) = false) : 3 ≤ l.length ∧ l.length ≤ 12 := by
  simp at h; omega
theorem cvx1_of {l : List Pt} {i : Int} (h : ¬ turnW (atL l (i - 1)) (ptAt l i) (atL l (i + 1)) ≤ 0) : cvx1 l i = true := by
  rw [cvx1, decide_eq_true_eq]; omega
theorem cvx2_of {l : List Pt} {i k : Int} (h : ¬ turnW (ptAt l i) (atL l (i + 1)) (atL l (i + k)) ≤ 0) : cvx2 l i k = true := by
  rw [cvx2, decide_eq_true_eq]; omega
theorem cvxI_true {l : List Pt} {i : Int} {k : Int} (hk : (l.length : Int) - 1 ≤ k) (h1 : cvx1 l i = true) (h2 : ∀ j : Nat, 2 ≤ j → (j : Int) < k → cvx2 l i j = true) : cvxI l i = true := by
  rw [cvxI, h1, Bool.true_and]
  exact allI_true fun j hj => h2 (j + 2) (by omega) (by omega)
theorem convex_bad {l : List Pt} {i : Int} (h0 : 0 ≤ i) (h1 : i < (l.length : Int)) (h : cvxI l i = false) : convexB l = false := by
  rw [convexB, allI_false (i := i.toNat) (by omega) (by rw [show ((i.toNat : Nat) : Int) = i from by omega]; exact h), Bool.and_false]
theorem convex_bad1 {l : List Pt} {i : Int} (h0 : 0 ≤ i) (h1 : i < (l.length : Int)) (h : turnW (atL l (i - 1)) (ptAt l i) (atL l (i + 1)) ≤ 0) : convexB l = false :=
  convex_bad h0 h1 (by rw [cvxI, cvx1, decide_eq_false (by omega), Bool.false_and])
theorem convex_bad2 {l : List Pt} {i k : Int} (h0 : 0 ≤ i) (h1 : i < (l.length : Int)) (h2 : 2 ≤ k) (h3 : k < (l.length : Int) - 1) (h : turnW (ptAt l i) (atL l (i + 1)) (atL l (i + k)) ≤ 0) : convexB l = false :=
  convex_bad h0 h1 (by
    rw [cvxI, allI_false (i := k.toNat - 2) (by omega) ?_, Bool.and_false]
    rw [show ((k.toNat - 2 + 2 : Nat) : Int) = k from by omega, cvx2, decide_eq_false (by omega)])
theorem convex_yes {l : List Pt} {i : Int} (hl : 3 ≤ l.length ∧ l.length ≤ 12) (h : ∀ j : Nat, (j : Int) < i → cvxI l j = true) (hi : (l.length : Int) ≤ i) : convexB l = true := by
  rw [convexB, allI_true (fun j hj => h j (by omega)), Bool.and_true, Bool.and_eq_true, decide_eq_true_eq, decide_eq_true_eq]
  omega
def rcv (l : List Pt) (i k : Int) : Bool := !(!decide (k = i) && !decide (k = (i + 1).tmod (l.length : Int))) || decide (0 < sideW (ptAt l i) (nextL l i) (ptAt l k))
def rcvI (l : List Pt) (i : Int) : Bool := allI l.length fun k => rcv l i k
def rconvexB (l : List Pt) : Bool := !(decide ((l.length : Int) < 3) || decide (12 < (l.length : Int))) && allI l.length fun i => rcvI l i
theorem rconvex_no {l : List Pt} (h : (decide ((l.length : Int) < 3) || decide (12 < (l.length : Int))) = true) : rconvexB l = false := by rw [rconvexB, h]; rfl
theorem rconvex_len {l : List Pt} (h : (decide ((l.length : Int) < 3) || decide (12 < (l.length : Int))) = false) : 3 ≤ l.length ∧ l.length ≤ 12 := by
  simp at h; omega
theorem rcv_of {l : List Pt} {i k : Int} (h : ((!decide (k = i) && !decide (k = (i + 1).tmod (l.length : Int))) && decide (sideW (ptAt l i) (nextL l i) (ptAt l k) ≤ 0)) = false) : rcv l i k = true := by
  unfold rcv
  cases hb : (!decide (k = i) && !decide (k = (i + 1).tmod (l.length : Int))) with
  | false => rfl
  | true =>
    rw [hb, Bool.true_and, decide_eq_false_iff_not] at h
    simp only [Bool.not_true, Bool.false_or, decide_eq_true_eq]
    omega
theorem rconvex_bad {l : List Pt} {i k : Int} (h0 : 0 ≤ i) (h1 : i < (l.length : Int)) (h2 : 0 ≤ k) (h3 : k < (l.length : Int))
    (h : ((!decide (k = i) && !decide (k = (i + 1).tmod (l.length : Int))) && decide (sideW (ptAt l i) (nextL l i) (ptAt l k) ≤ 0)) = true) : rconvexB l = false := by
  rw [rconvexB, allI_false (i := i.toNat) (by omega) ?_, Bool.and_false]
  rw [show ((i.toNat : Nat) : Int) = i from by omega, rcvI, allI_false (i := k.toNat) (by omega)]
  rw [show ((k.toNat : Nat) : Int) = k from by omega]
  rw [Bool.and_eq_true, decide_eq_true_eq] at h
  rw [rcv, h.1, decide_eq_false (by omega)]; rfl
theorem rconvex_yes {l : List Pt} {i : Int} (hl : (decide ((l.length : Int) < 3) || decide (12 < (l.length : Int))) = false) (h : ∀ j : Nat, (j : Int) < i → rcvI l j = true) (hi : (l.length : Int) ≤ i) : rconvexB l = true := by
  rw [rconvexB, hl, allI_true (fun j hj => h j (by omega))]; rfl
theorem rconvex_pos {l : List Pt} (h : rconvexB l = true) : 0 < l.length := by
  rw [rconvexB, Bool.and_eq_true, Bool.not_eq_true'] at h
  have := rconvex_len h.1
  omega
theorem rconvex_pos2 {l : List Pt} {b : Bool} (h : (rconvexB l && b) = true) : 0 < l.length := rconvex_pos (Bool.and_eq_true_iff.1 h).1
/-- the index of the first one of the lowest -/
def rfirstN (l : List Pt) : Nat → Int
  | 0 => 0
  | n + 1 => if (decide ((ptAt l (n : Int)).z < (ptAt l (rfirstN l n)).z) || (decide ((ptAt l (n : Int)).z = (ptAt l (rfirstN l n)).z) && decide ((ptAt l (n : Int)).x < (ptAt l (rfirstN l n)).x))) = true then (n : Int) else rfirstN l n
def rfirst (l : List Pt) : Int := rfirstN l l.length
theorem rfirstN_succ {l : List Pt} {i : Int} (h0 : 0 ≤ i) : rfirstN l (i + 1).toNat = if (decide ((ptAt l i).z < (ptAt l (rfirstN l i.toNat)).z) || (decide ((ptAt l i).z = (ptAt l (rfirstN l i.toNat)).z) && decide ((ptAt l i).x < (ptAt l (rfirstN l i.toNat)).x))) = true then i else rfirstN l i.toNat := by
  rw [show (i + 1).toNat = i.toNat + 1 from by omega, rfirstN, show ((i.toNat : Nat) : Int) = i from by omega]
theorem rfirstN_all {l : List Pt} {i : Int} (h : i.toNat = l.length) : rfirstN l i.toNat = rfirst l := by rw [h]; rfl
def farB (p : Pt) : Bool := !(decide (0 ≤ p.x) && decide (p.x ≤ 2000)) || !(decide (0 ≤ p.z) && decide (p.z ≤ 2000))
def placedB (l : List Pt) : Bool := !(l.any farB || !convexB l) && ((decide ((leastL l).x = 0) && decide ((leastL l).z = 0)) && (decide ((minF lowerW l).x = (l.getD 0 default).x) && decide ((minF lowerW l).z = (l.getD 0 default).z)))
theorem placed_no {l : List Pt} (h : (l.any farB || !convexB l) = true) : placedB l = false := by rw [placedB, h]; rfl
theorem placed_yes {l : List Pt} (h : (l.any farB || !convexB l) = false) : placedB l = ((decide ((leastL l).x = 0) && decide ((leastL l).z = 0)) && (decide ((minF lowerW l).x = (l.getD 0 default).x) && decide ((minF lowerW l).z = (l.getD 0 default).z))) := by rw [placedB, h]; rfl
theorem convex_lenB {l : List Pt} (h : convexB l = true) : 3 ≤ l.length ∧ l.length ≤ 12 := by
  rw [convexB, Bool.and_eq_true, Bool.and_eq_true, decide_eq_true_eq, decide_eq_true_eq] at h
  omega
theorem placed_pos {l : List Pt} (h : (l.any farB || !convexB l) = false) : 0 < l.length := by
  rw [Bool.or_eq_false_iff, Bool.not_eq_false'] at h
  have := convex_lenB h.2
  omega
def rplacedB (l : List Pt) : Bool := allI l.length (fun i => !farB (l.getD i default)) && (((rconvexB l && decide ((leastL l).x = 0)) && decide ((leastL l).z = 0)) && decide (rfirst l = 0))
theorem rplaced_no {l : List Pt} {i : Int} (h0 : 0 ≤ i) (h1 : i < (l.length : Int)) (h : farB (l.getD i.toNat default) = true) : rplacedB l = false := by
  rw [rplacedB, allI_false (i := i.toNat) (by omega) (by rw [h]; rfl)]; rfl
theorem rplaced_yes {l : List Pt} {i : Int} (h : ∀ j : Nat, (j : Int) < i → farB (l.getD j default) = false) (hi : (l.length : Int) ≤ i) : rplacedB l = (((rconvexB l && decide ((leastL l).x = 0)) && decide ((leastL l).z = 0)) && decide (rfirst l = 0)) := by
  rw [rplacedB, allI_true (fun j hj => by rw [h j (by omega)]; rfl)]; rfl

/-! ### edges -/
def edgesL (l : List Pt) : List (Pt × Pt) := (List.range l.length).map fun (i : Nat) => (ptAt l (i : Int), atL l ((i : Int) + 1))
abbrev edgeV (e : Pt × Pt) : List Value := [ptV e.1, ptV e.2]
abbrev edgeVs (l : List Pt) : List (List Value) := (edgesL l).map edgeV
theorem edges_len (l : List Pt) : (edgeVs l).length = l.length := by simp [edgeVs, edgesL]
theorem edges_len' (l : List Pt) : (edgesL l).length = l.length := by simp [edgesL]
theorem edge_get {l : List Pt} {i : Int} (h0 : 0 ≤ i) (h1 : i < (l.length : Int)) : (edgeVs l)[i.toNat]? = some [ptV (ptAt l i), ptV (atL l (i + 1))] := by
  have hlt : i.toNat < l.length := by omega
  have : ((i.toNat : Nat) : Int) = i := by omega
  simp [edgeVs, edgesL, hlt, this]
theorem edge_inv {l : List Pt} {n : Nat} {args : List Value} (h : (edgeVs l)[n]? = some args) : ∃ e, (edgesL l)[n]? = some e ∧ args = [ptV e.1, ptV e.2] := by
  rw [List.getElem?_map] at h
  cases he : (edgesL l)[n]? with
  | none => rw [he] at h; cases h
  | some e => rw [he] at h; exact ⟨e, rfl, by simpa using h.symm⟩
theorem edges_two (l : List Pt) : ∀ a ∈ edgeVs l, a.length = 2 := fun a ha => by
  obtain ⟨e, _, rfl⟩ := List.mem_map.1 ha; rfl
def twiceW (l : List Pt) : Int := (edgesL l).foldl (fun s e => W (s + crossW e.1 e.2)) 0
theorem fold_succ {α β : Type} {l : List α} {n : Nat} {e : α} (f : β → α → β) (b : β) (h : l[n]? = some e) : (l.take (n + 1)).foldl f b = f ((l.take n).foldl f b) e := by
  rw [List.take_add_one, h, List.foldl_append]; rfl
theorem fold_all {α β : Type} {l : List α} {n : Nat} (f : β → α → β) (b : β) (h : n = l.length) : (l.take n).foldl f b = l.foldl f b := by rw [h, List.take_length]

/-! ### names -/
theorem decode_low {s : ByteArray} {i : Nat} (h : (s.get! i).toNat < 128) : Utf8.decode s i = ((s.get! i).toNat, 1) := by
  unfold Utf8.decode
  simp only [Nat.add_zero]
  rw [if_pos h]
theorem decode_high {s : ByteArray} {i : Nat} (h : ¬ (s.get! i).toNat < 128) : 128 ≤ (Utf8.decode s i).1 ∧ 1 ≤ (Utf8.decode s i).2 := by
  unfold Utf8.decode
  simp only [Nat.add_zero]
  rw [if_neg h]
  simp only [Utf8.runeError]
  repeat' split
  all_goals simp_all
  all_goals omega
theorem decode_pos (s : ByteArray) (i : Nat) : 1 ≤ (Utf8.decode s i).2 := by
  by_cases h : (s.get! i).toNat < 128
  · rw [decode_low h]; exact Nat.le_refl _
  · exact (decode_high h).2

def idxRune (f : Int → Bool) (s : ByteArray) (p : Nat) : Int :=
  if h : p < s.size then (if f ((Utf8.decode s p).1 : Int) = true then (p : Int) else idxRune f s (p + (Utf8.decode s p).2)) else -1
termination_by s.size - p
decreasing_by have := decode_pos s p; omega
theorem idxRune_hit {f : Int → Bool} {s : ByteArray} {p : Nat} (h : p < s.size) (hf : f ((Utf8.decode s p).1 : Int) = true) : idxRune f s p = p := by rw [idxRune, dif_pos h, if_pos hf]
theorem idxRune_next {f : Int → Bool} {s : ByteArray} {p : Nat} (h : p < s.size) (hf : f ((Utf8.decode s p).1 : Int) = false) : idxRune f s p = idxRune f s (p + (Utf8.decode s p).2) := by
  conv => lhs; rw [idxRune, dif_pos h, if_neg (by rw [hf]; exact Bool.false_ne_true)]
theorem idxRune_end {f : Int → Bool} {s : ByteArray} {p : Nat} (h : ¬ p < s.size) : idxRune f s p = -1 := by rw [idxRune, dif_neg h]
def oddR (r : Int) : Bool := !(decide (97 ≤ r) && decide (r ≤ 122)) && !(decide (48 ≤ r) && decide (r ≤ 57))
def oddB (b : Int) : Bool := (decide (b < 97) || decide (122 < b)) && (decide (b < 48) || decide (57 < b))
def namedB (s : ByteArray) : Bool := (decide (1 ≤ (s.size : Int)) && decide ((s.size : Int) ≤ 16)) && !decide (0 ≤ idxRune oddR s 0)
def rnamedB (s : ByteArray) : Bool := allI s.size (fun i => !oddB (byteI s i)) && (decide (1 ≤ (s.size : Int)) && decide ((s.size : Int) ≤ 16))
theorem rnamed_no {s : ByteArray} {i : Int} (h0 : 0 ≤ i) (h1 : i < (s.size : Int)) (h : oddB (byteI s i) = true) : rnamedB s = false := by
  rw [rnamedB, allI_false (i := i.toNat) (by omega) (by rw [show ((i.toNat : Nat) : Int) = i from by omega, h]; rfl)]; rfl
theorem rnamed_yes {s : ByteArray} {i : Int} (h : ∀ j : Nat, (j : Int) < i → oddB (byteI s j) = false) (hi : (s.size : Int) ≤ i) : rnamedB s = (decide (1 ≤ (s.size : Int)) && decide ((s.size : Int) ≤ 16)) := by
  rw [rnamedB, allI_true (fun j hj => by rw [h j (by omega)]; rfl)]; rfl

/-! ### stones -/
structure Stn where
  name : ByteArray
  shape : List Pt
  depth : Int
  density : Int
  grain : Pt
  deriving DecidableEq
abbrev stnV (s : Stn) (a : Option Addr) (cap : Nat) : Value := .agg #[.string s.name, .slice a s.shape.length cap, .int .i64 s.depth, .int .i64 s.density, .int .i64 s.grain.x, .int .i64 s.grain.z]
def rvalidB (s : Stn) : Bool := ((((((rnamedB s.name && rplacedB s.shape) && (decide (1 ≤ s.depth) && decide (s.depth ≤ 2000))) && (decide (1 ≤ s.density) && decide (s.density ≤ 10000))) && ((!decide (s.grain.x = 0)) || (!decide (s.grain.z = 0)))) &&
  (decide (-100 ≤ s.grain.x) && decide (s.grain.x ≤ 100))) && (decide (-100 ≤ s.grain.z) && decide (s.grain.z ≤ 100)))
def grainedB (s : Stn) : Bool := (((!(decide (s.grain.x = 0) && decide (s.grain.z = 0))) && (decide (-100 ≤ s.grain.x) && decide (s.grain.x ≤ 100))) && (decide (-100 ≤ s.grain.z) && decide (s.grain.z ≤ 100)))
def badB (s : Stn) : Bool := ((((!namedB s.name || !placedB s.shape) || !(decide (1 ≤ s.depth) && decide (s.depth ≤ 2000))) || !(decide (1 ≤ s.density) && decide (s.density ≤ 10000))) || !grainedB s)
def checkI (s : Stn) : Int := if badB s = true then 2 else 0
def brickS : Stn := ⟨⟨#[98, 114, 105, 99, 107]⟩, [⟨0, 0⟩, ⟨200, 0⟩, ⟨200, 80⟩, ⟨0, 80⟩], 100, 2400, ⟨1, 0⟩⟩
end Go.Stn
