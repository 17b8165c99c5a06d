/- Stones as plain data, third text: settled shapes, cuts. No statement of the seat is proved in this text. -/
import Derived.Test.YtahahmelnaphjaaDoorD2
import Derived.Test.YtahahmelnaphjaaDoorL1
namespace Go.Stn
open Go Go.K Go.RowKit

theorem first_in {l : List Pt} (h : 0 < l.length) : 0 ≤ findI (eqB (minF lowerW l)) l ∧ findI (eqB (minF lowerW l)) l < (l.length : Int) := by
  have hm : l.any (eqB (minF lowerW l)) = true := List.any_eq_true.2 ⟨_, (minF_spec h).1, eqB_iff.2 rfl⟩
  have hlt : l.findIdx (eqB (minF lowerW l)) < l.length := List.findIdx_lt_length_of_exists (by simpa using hm)
  unfold findI
  rw [if_pos hm]
  omega
abbrev firstI (l : List Pt) : Int := findI (eqB (minF lowerW l)) l
def rotL (l : List Pt) (f : Int) : List Pt := l.drop f.toNat ++ l.take f.toNat
def settledW (l : List Pt) : List Pt := (rotL l (firstI l)).map fun p => subW p (leastL l)
theorem rotL_len {l : List Pt} {f : Int} (h1 : f ≤ (l.length : Int)) : (rotL l f).length = l.length := by
  unfold rotL
  simp
  omega
theorem settled_len {l : List Pt} (h : 0 < l.length) : (settledW l).length = l.length := by
  unfold settledW
  rw [List.length_map, rotL_len (Int.le_of_lt (first_in h).2)]
theorem map_step {o m : List Pt} {g : Pt → Pt} {i : Int} (h0 : 0 ≤ i) (h1 : i < (o.length : Int)) (hm : m = (o.take i.toNat).map g ++ o.drop i.toNat) : m.set i.toNat (g (m.getD i.toNat default)) = (o.take (i + 1).toNat).map g ++ o.drop (i + 1).toNat := by
  have hlt : i.toNat < o.length := by omega
  have hl : ((o.take i.toNat).map g).length = i.toNat := by simp; omega
  have hget : m.getD i.toNat default = o[i.toNat] := by
    rw [hm, List.getD_eq_getElem?_getD, List.getElem?_append_right (by omega), hl, Nat.sub_self, List.getElem?_drop]
    simp [hlt]
  rw [hget, hm, List.set_append_right _ _ (by omega), hl, Nat.sub_self, show (i + 1).toNat = i.toNat + 1 from by omega, List.drop_eq_getElem_cons hlt, List.set_cons_zero, List.take_add_one, show o[i.toNat]?.toList = [o[i.toNat]] from by simp [hlt], List.map_append]
  simp only [List.map_cons, List.map_nil, List.append_assoc, List.cons_append, List.nil_append]

theorem setp_end {o m : List Pt} {g : Pt → Pt} {i : Int} (hm : m = (o.take i.toNat).map g ++ o.drop i.toNat) (hi : (o.length : Int) ≤ i) : m = o.map g := by
  rw [hm, take_all hi, List.drop_of_length_le (by omega), List.append_nil]

/-- is a point on an edge, its end left out? -/
def onE (x : Pt) (e : Pt × Pt) : Bool := ((decide (crossW (subW e.2 e.1) (subW x e.1) = 0) && decide (0 ≤ dotW (subW x e.1) (subW e.2 e.1))) && decide (dotW (subW x e.1) (subW x e.1) < dotW (subW e.2 e.1) (subW e.2 e.1)))
def edgeI (l : List Pt) (x : Pt) : Int := if farB x = true then -1 else findI (onE x) (edgesL l)
theorem farB_def (x : Pt) : farB x = (!(decide (0 ≤ x.x) && decide (x.x ≤ 2000)) || !(decide (0 ≤ x.z) && decide (x.z ≤ 2000))) := rfl
theorem findI_at {α : Type} {p : α → Bool} {l : List α} {n : Nat} {e : α} (he : l[n]? = some e) (ha : ∀ j x, j < n → l[j]? = some x → p x = false) (hp : p e = true) : findI p l = (n : Int) := by
  have hlt : n < l.length := (List.getElem?_eq_some_iff.1 he).1
  have hle : l[n] = e := (List.getElem?_eq_some_iff.1 he).2
  have hany : l.any p = true := List.any_eq_true.2 ⟨l[n], List.getElem_mem hlt, by rw [hle]; exact hp⟩
  have hidx : l.findIdx p = n := (List.findIdx_eq hlt).2 ⟨by rw [hle]; exact hp, fun j hj => ha j _ hj (by simp)⟩
  rw [findI, if_pos hany, hidx]
theorem findI_no {α : Type} {p : α → Bool} {l : List α} (ha : ∀ j x, j < l.length → l[j]? = some x → p x = false) : findI p l = -1 := by
  have : ¬ l.any p = true := fun h => by
    obtain ⟨x, hx, hp⟩ := List.any_eq_true.1 h
    obtain ⟨j, hj, rfl⟩ := List.getElem_of_mem hx
    rw [ha j _ hj (by simp [hj])] at hp
    cases hp
  rw [findI, if_neg this]
theorem none_succ {α : Type} {p : α → Bool} {l : List α} {n : Nat} {e : α} (he : l[n]? = some e) (ha : ∀ j x, j < n → l[j]? = some x → p x = false) (hp : p e = false) : ∀ j x, j < n + 1 → l[j]? = some x → p x = false := fun j x hj hx => by
  rcases Nat.lt_or_ge j n with h | h
  · exact ha j x h hx
  · have : j = n := by omega
    subst this
    rw [he] at hx
    cases hx
    exact hp
theorem edge_lt {l : List Pt} {x : Pt} : edgeI l x < (l.length : Int) ∧ -1 ≤ edgeI l x := by
  unfold edgeI
  split
  · omega
  · unfold findI
    split
    · rename_i h
      have : (edgesL l).findIdx (onE x) < (edgesL l).length := List.findIdx_lt_length_of_exists (by simpa using h)
      rw [edges_len'] at this
      omega
    · omega
theorem edge_n {l : List Pt} {n : Nat} {e : Pt × Pt} (he : (edgesL l)[n]? = some e) : n < l.length := by
  have := (List.getElem?_eq_some_iff.1 he).1
  rwa [edges_len'] at this

def both0 (p q : Pt) (e : Pt × Pt) : Bool := decide (turnW e.1 e.2 p = 0) && decide (turnW e.1 e.2 q = 0)
def apartB (l : List Pt) (p q : Pt) : Bool := !(edgesL l).any (both0 p q)
theorem apart_no {l : List Pt} {p q : Pt} {n : Nat} {e : Pt × Pt} (he : (edgesL l)[n]? = some e) (h : both0 p q e = true) : apartB l p q = false := by
  rw [apartB, List.any_eq_true.2 ⟨e, List.mem_of_getElem? he, h⟩]; rfl
theorem apart_yes {l : List Pt} {p q : Pt} (h : ∀ j x, j < (edgesL l).length → (edgesL l)[j]? = some x → both0 p q x = false) : apartB l p q = true := by
  have : (edgesL l).any (both0 p q) = false := by
    cases hb : (edgesL l).any (both0 p q) with
    | false => rfl
    | true =>
      obtain ⟨x, hx, hp⟩ := List.any_eq_true.1 hb
      obtain ⟨j, hj, rfl⟩ := List.getElem_of_mem hx
      rw [h j _ hj (by simp [hj])] at hp
      cases hp
  rw [apartB, this]; rfl

/-- the corners from number i on, up to k of them, till q -/
def rightN (l : List Pt) (q : Pt) : Nat → Int → List Pt
  | 0, _ => [q]
  | k + 1, i => if eqB (atL l i) q = true then [q] else atL l i :: rightN l q k (i + 1)
def rightT (l : List Pt) (p q : Pt) : Nat := if edgeI l p ≤ edgeI l q then (edgeI l q - edgeI l p).toNat else (edgeI l q - edgeI l p + (l.length : Int)).toNat
def rightL (l : List Pt) (p q : Pt) : List Pt := p :: rightN l q (rightT l p q) (edgeI l p + 1)
theorem tmod_wrap {x n : Int} (h0 : 0 ≤ x) (h1 : x < n + n) : (x + n).tmod n = if x < n then x else x - n := by
  obtain ⟨a, rfl⟩ := Int.eq_ofNat_of_zero_le h0
  obtain ⟨m, rfl⟩ := Int.eq_ofNat_of_zero_le (show 0 ≤ n by omega)
  have : ((a : Int) + (m : Int)).tmod (m : Int) = (((a + m) % m : Nat) : Int) := rfl
  rw [this, Nat.add_mod_right]
  by_cases h : a < m
  · rw [Nat.mod_eq_of_lt h, if_pos (by omega)]
  · rw [Nat.mod_eq_sub_mod (by omega), Nat.mod_eq_of_lt (by omega), if_neg (by omega)]
    omega
theorem rightN_len (l : List Pt) (q : Pt) : ∀ (k : Nat) (i : Int), 1 ≤ (rightN l q k i).length ∧ (rightN l q k i).length ≤ k + 1
  | 0, i => by simp [rightN]
  | k + 1, i => by
    have := rightN_len l q k (i + 1)
    unfold rightN
    split
    · simp
    · simp; omega
theorem rightT_le {l : List Pt} {p q : Pt} (h1 : 0 ≤ edgeI l p) (h2 : 0 ≤ edgeI l q) : rightT l p q < l.length := by
  have := edge_lt (l := l) (x := p)
  have := edge_lt (l := l) (x := q)
  unfold rightT
  split <;> omega
theorem rightL_len {l : List Pt} {p q : Pt} (h1 : 0 ≤ edgeI l p) (h2 : 0 ≤ edgeI l q) : 2 ≤ (rightL l p q).length ∧ (rightL l p q).length ≤ l.length + 1 := by
  have := rightT_le h1 h2
  have := rightN_len l q (rightT l p q) (edgeI l p + 1)
  unfold rightL
  simp
  omega
/-- round number m is the last one -/
theorem right_last {l : List Pt} {p q : Pt} (h1 : 0 ≤ edgeI l p) (h2 : 0 ≤ edgeI l q) {m : Nat} (hm : m ≤ rightT l p q) : edgeI l q = ((edgeI l p + 1 + (m : Int)) - 1 + (l.length : Int)).tmod (l.length : Int) ↔ m = rightT l p q := by
  have a1 := edge_lt (l := l) (x := p)
  have a2 := edge_lt (l := l) (x := q)
  have a3 := rightT_le h1 h2
  rw [show edgeI l p + 1 + (m : Int) - 1 = edgeI l p + (m : Int) from by omega, tmod_wrap (by omega) (by omega)]
  unfold rightT at *
  split at hm <;> split <;> omega

theorem right_stop {l : List Pt} {p q : Pt} {m : Nat} {i : Int} {o : List Pt} (h1 : 0 ≤ edgeI l p) (h2 : 0 ≤ edgeI l q) (hm : m ≤ rightT l p q) (hi : i = edgeI l p + 1 + (m : Int)) (hr : rightL l p q = o ++ rightN l q (rightT l p q - m) i)
    (ht : (eqB (atL l i) q || decide (edgeI l q = (i - 1 + (l.length : Int)).tmod (l.length : Int))) = true) : o ++ [q] = rightL l p q := by
  rw [hr]
  cases hk : rightT l p q - m with
  | zero => rfl
  | succ k =>
    unfold rightN
    cases he : eqB (atL l i) q with
    | true => rfl
    | false =>
      rw [he, Bool.false_or, decide_eq_true_eq, hi, right_last h1 h2 hm] at ht
      omega
theorem right_go {l : List Pt} {p q : Pt} {m : Nat} {i : Int} {o : List Pt} (h1 : 0 ≤ edgeI l p) (h2 : 0 ≤ edgeI l q) (hm : m ≤ rightT l p q) (hi : i = edgeI l p + 1 + (m : Int)) (hr : rightL l p q = o ++ rightN l q (rightT l p q - m) i)
    (ht : (eqB (atL l i) q || decide (edgeI l q = (i - 1 + (l.length : Int)).tmod (l.length : Int))) = false) : m + 1 ≤ rightT l p q ∧ rightL l p q = (o ++ [atL l i]) ++ rightN l q (rightT l p q - (m + 1)) (i + 1) := by
  rw [Bool.or_eq_false_iff, decide_eq_false_iff_not, hi, right_last h1 h2 hm] at ht
  obtain ⟨k, hk⟩ : ∃ k, rightT l p q - m = k + 1 := ⟨rightT l p q - m - 1, by omega⟩
  refine ⟨by omega, ?_⟩
  rw [hr, hk, show rightT l p q - (m + 1) = k from by omega]
  unfold rightN
  rw [if_neg (by rw [hi, ht.1]; exact Bool.false_ne_true)]
  cases k <;> simp [rightN]

/-- a piece of a stone -/
def pieceW (s : Stn) (c : ByteArray) (l : List Pt) : Stn := ⟨s.name ++ c, settledW l, s.depth, s.density, s.grain⟩
def zeroS : Stn := ⟨⟨#[]⟩, [], 0, 0, ⟨0, 0⟩⟩
def splitE (s : Stn) (p q : Pt) : Int :=
  if checkI s ≠ 0 then checkI s else if (decide (edgeI s.shape p < 0) || decide (edgeI s.shape q < 0)) = true then 8 else if apartB s.shape p q = false then 2 else
  if (decide ((s.name.size : Int) = 16) || decide (12 < max ((rightL s.shape q p).length : Int) ((rightL s.shape p q).length : Int))) = true then 5 else 0
def splitA (s : Stn) (p q : Pt) : Stn := if splitE s p q = 0 then pieceW s ⟨#[97]⟩ (rightL s.shape q p) else zeroS
def splitB (s : Stn) (p q : Pt) : Stn := if splitE s p q = 0 then pieceW s ⟨#[98]⟩ (rightL s.shape p q) else zeroS
theorem split_bad {s : Stn} {p q : Pt} {e : Int} (hE : splitE s p q = e) (he : e ≠ 0) : splitA s p q = zeroS ∧ splitB s p q = zeroS := by
  unfold splitA splitB
  rw [hE, if_neg he, if_neg he]
  exact ⟨rfl, rfl⟩
theorem split_good {s : Stn} {p q : Pt} (hE : splitE s p q = 0) : splitA s p q = pieceW s ⟨#[97]⟩ (rightL s.shape q p) ∧ splitB s p q = pieceW s ⟨#[98]⟩ (rightL s.shape p q) := by
  unfold splitA splitB
  rw [hE, if_pos rfl, if_pos rfl]
  exact ⟨rfl, rfl⟩
theorem check_named {s : Stn} (h : checkI s = 0) : s.name.size ≤ 16 := by
  have := check_good h
  unfold badB at this
  simp only [Bool.or_eq_false_iff, Bool.not_eq_false'] at this
  have h2 := this.1.1.1.1
  unfold namedB at h2
  simp only [Bool.and_eq_true, decide_eq_true_eq] at h2
  omega
end Go.Stn
