/- What the proof of the root text leans on, part 3: the layer, plain facts and walks. No statement of the seat is proved in this text. -/
import Derived.Test.YtahahmelnaphjaaDoorRows
import Derived.Test.YtahahmelnaphjaaDoorHv2
namespace Go.Stn
open Go Go.K Go.RowKit
theorem first_in {l : List Pt} (h : 0 < l.length) : 0 ≤ findI (eqB (minF lowerW l)) l ∧ findI (eqB (minF lowerW l)) l < (l.length : Int) := by
  have hm : l.any (eqB (minF lowerW l)) = true := List.any_eq_true.2 ⟨_, (minF_spec h).1, eqB_iff.2 rfl⟩
  have hlt : l.findIdx (eqB (minF lowerW l)) < l.length := List.findIdx_lt_length_of_exists (by simpa using hm)
  unfold findI
  rw [if_pos hm]
  omega
abbrev firstI (l : List Pt) : Int := findI (eqB (minF lowerW l)) l
def rotL (l : List Pt) (f : Int) : List Pt := l.drop f.toNat ++ l.take f.toNat
def settledW (l : List Pt) : List Pt := (rotL l (firstI l)).map fun p => subW p (leastL l)
theorem rotL_len {l : List Pt} {f : Int} (h1 : f ≤ (l.length : Int)) : (rotL l f).length = l.length := by
  unfold rotL
  simp
  omega
theorem settled_len {l : List Pt} (h : 0 < l.length) : (settledW l).length = l.length := by
  unfold settledW
  rw [List.length_map, rotL_len (Int.le_of_lt (first_in h).2)]
theorem map_step {o m : List Pt} {g : Pt → Pt} {i : Int} (h0 : 0 ≤ i) (h1 : i < (o.length : Int)) (hm : m = (o.take i.toNat).map g ++ o.drop i.toNat) : m.set i.toNat (g (m.getD i.toNat default)) = (o.take (i + 1).toNat).map g ++ o.drop (i + 1).toNat := by
  have hlt : i.toNat < o.length := by omega
  have hl : ((o.take i.toNat).map g).length = i.toNat := by simp; omega
  have hget : m.getD i.toNat default = o[i.toNat] := by
    rw [hm, List.getD_eq_getElem?_getD, List.getElem?_append_right (by omega), hl, Nat.sub_self, List.getElem?_drop]
    simp [hlt]
  rw [hget, hm, List.set_append_right _ _ (by omega), hl, Nat.sub_self, show (i + 1).toNat = i.toNat + 1 from by omega, List.drop_eq_getElem_cons hlt, List.set_cons_zero, List.take_add_one, show o[i.toNat]?.toList = [o[i.toNat]] from by simp [hlt], List.map_append]
  simp only [List.map_cons, List.map_nil, List.append_assoc, List.cons_append, List.nil_append]
theorem setp_end {o m : List Pt} {g : Pt → Pt} {i : Int} (hm : m = (o.take i.toNat).map g ++ o.drop i.toNat) (hi : (o.length : Int) ≤ i) : m = o.map g := by
  rw [hm, take_all hi, List.drop_of_length_le (by omega), List.append_nil]
/-- is a point on an edge, its end left out? -/
def onE (x : Pt) (e : Pt × Pt) : Bool := ((decide (crossW (subW e.2 e.1) (subW x e.1) = 0) && decide (0 ≤ dotW (subW x e.1) (subW e.2 e.1))) && decide (dotW (subW x e.1) (subW x e.1) < dotW (subW e.2 e.1) (subW e.2 e.1)))
def edgeI (l : List Pt) (x : Pt) : Int := if farB x = true then -1 else findI (onE x) (edgesL l)
theorem findI_at {α : Type} {p : α → Bool} {l : List α} {n : Nat} {e : α} (he : l[n]? = some e) (ha : ∀ j x, j < n → l[j]? = some x → p x = false) (hp : p e = true) : findI p l = (n : Int) := by
  have hlt : n < l.length := (List.getElem?_eq_some_iff.1 he).1
  have hle : l[n] = e := (List.getElem?_eq_some_iff.1 he).2
  have hany : l.any p = true := List.any_eq_true.2 ⟨l[n], List.getElem_mem hlt, by rw [hle]; exact hp⟩
  have hidx : l.findIdx p = n := (List.findIdx_eq hlt).2 ⟨by rw [hle]; exact hp, fun j hj => ha j _ hj (by simp)⟩
  rw [findI, if_pos hany, hidx]
theorem findI_no {α : Type} {p : α → Bool} {l : List α} (ha : ∀ j x, j < l.length → l[j]? = some x → p x = false) : findI p l = -1 := by
  have : ¬ l.any p = true := fun h => by
    obtain ⟨x, hx, hp⟩ := List.any_eq_true.1 h
    obtain ⟨j, hj, rfl⟩ := List.getElem_of_mem hx
    rw [ha j _ hj (by simp [hj])] at hp
    cases hp
  rw [findI, if_neg this]
theorem none_succ {α : Type} {p : α → Bool} {l : List α} {n : Nat} {e : α} (he : l[n]? = some e) (ha : ∀ j x, j < n → l[j]? = some x → p x = false) (hp : p e = false) : ∀ j x, j < n + 1 → l[j]? = some x → p x = false := fun j x hj hx => by
  rcases Nat.lt_or_ge j n with h | h
  · exact ha j x h hx
  · have : j = n := by omega
    subst this
    rw [he] at hx
    cases hx
    exact hp
theorem edge_lt {l : List Pt} {x : Pt} : edgeI l x < (l.length : Int) ∧ -1 ≤ edgeI l x := by
  unfold edgeI
  split
  · omega
  · unfold findI
    split
    · rename_i h
      have : (edgesL l).findIdx (onE x) < (edgesL l).length := List.findIdx_lt_length_of_exists (by simpa using h)
      rw [edges_len'] at this
      omega
    · omega
theorem edge_n {l : List Pt} {n : Nat} {e : Pt × Pt} (he : (edgesL l)[n]? = some e) : n < l.length := by
  have := (List.getElem?_eq_some_iff.1 he).1
  rwa [edges_len'] at this
def both0 (p q : Pt) (e : Pt × Pt) : Bool := decide (turnW e.1 e.2 p = 0) && decide (turnW e.1 e.2 q = 0)
def apartB (l : List Pt) (p q : Pt) : Bool := !(edgesL l).any (both0 p q)
theorem apart_no {l : List Pt} {p q : Pt} {n : Nat} {e : Pt × Pt} (he : (edgesL l)[n]? = some e) (h : both0 p q e = true) : apartB l p q = false := by
  rw [apartB, List.any_eq_true.2 ⟨e, List.mem_of_getElem? he, h⟩]; rfl
theorem apart_yes {l : List Pt} {p q : Pt} (h : ∀ j x, j < (edgesL l).length → (edgesL l)[j]? = some x → both0 p q x = false) : apartB l p q = true := by
  have : (edgesL l).any (both0 p q) = false := by
    cases hb : (edgesL l).any (both0 p q) with
    | false => rfl
    | true =>
      obtain ⟨x, hx, hp⟩ := List.any_eq_true.1 hb
      obtain ⟨j, hj, rfl⟩ := List.getElem_of_mem hx
      rw [h j _ hj (by simp [hj])] at hp
      cases hp
  rw [apartB, this]; rfl
/-- the corners from number i on, up to k of them, till q -/
def rightN (l : List Pt) (q : Pt) : Nat → Int → List Pt
  | 0, _ => [q]
  | k + 1, i => if eqB (atL l i) q = true then [q] else atL l i :: rightN l q k (i + 1)
def rightT (l : List Pt) (p q : Pt) : Nat := if edgeI l p ≤ edgeI l q then (edgeI l q - edgeI l p).toNat else (edgeI l q - edgeI l p + (l.length : Int)).toNat
def rightL (l : List Pt) (p q : Pt) : List Pt := p :: rightN l q (rightT l p q) (edgeI l p + 1)
theorem tmod_wrap {x n : Int} (h0 : 0 ≤ x) (h1 : x < n + n) : (x + n).tmod n = if x < n then x else x - n := by
  obtain ⟨a, rfl⟩ := Int.eq_ofNat_of_zero_le h0
  obtain ⟨m, rfl⟩ := Int.eq_ofNat_of_zero_le (show 0 ≤ n by omega)
  have : ((a : Int) + (m : Int)).tmod (m : Int) = (((a + m) % m : Nat) : Int) := rfl
  rw [this, Nat.add_mod_right]
  by_cases h : a < m
  · rw [Nat.mod_eq_of_lt h, if_pos (by omega)]
  · rw [Nat.mod_eq_sub_mod (by omega), Nat.mod_eq_of_lt (by omega), if_neg (by omega)]
    omega
theorem rightN_len (l : List Pt) (q : Pt) : ∀ (k : Nat) (i : Int), 1 ≤ (rightN l q k i).length ∧ (rightN l q k i).length ≤ k + 1
  | 0, i => by simp [rightN]
  | k + 1, i => by
    have := rightN_len l q k (i + 1)
    unfold rightN
    split
    · simp
    · simp; omega
theorem rightT_le {l : List Pt} {p q : Pt} (h1 : 0 ≤ edgeI l p) (h2 : 0 ≤ edgeI l q) : rightT l p q < l.length := by
  have := edge_lt (l := l) (x := p)
  have := edge_lt (l := l) (x := q)
  unfold rightT
  split <;> omega
theorem rightL_len {l : List Pt} {p q : Pt} (h1 : 0 ≤ edgeI l p) (h2 : 0 ≤ edgeI l q) : 2 ≤ (rightL l p q).length ∧ (rightL l p q).length ≤ l.length + 1 := by
  have := rightT_le h1 h2
  have := rightN_len l q (rightT l p q) (edgeI l p + 1)
  unfold rightL
  simp
  omega
/-- round number m is the last one -/
theorem right_last {l : List Pt} {p q : Pt} (h1 : 0 ≤ edgeI l p) (h2 : 0 ≤ edgeI l q) {m : Nat} (hm : m ≤ rightT l p q) : edgeI l q = ((edgeI l p + 1 + (m : Int)) - 1 + (l.length : Int)).tmod (l.length : Int) ↔ m = rightT l p q := by
  have a1 := edge_lt (l := l) (x := p)
  have a2 := edge_lt (l := l) (x := q)
  have a3 := rightT_le h1 h2
  rw [show edgeI l p + 1 + (m : Int) - 1 = edgeI l p + (m : Int) from by omega, tmod_wrap (by omega) (by omega)]
  unfold rightT at *
  split at hm <;> split <;> omega
theorem right_stop {l : List Pt} {p q : Pt} {m : Nat} {i : Int} {o : List Pt} (h1 : 0 ≤ edgeI l p) (h2 : 0 ≤ edgeI l q) (hm : m ≤ rightT l p q) (hi : i = edgeI l p + 1 + (m : Int)) (hr : rightL l p q = o ++ rightN l q (rightT l p q - m) i)
    (ht : (eqB (atL l i) q || decide (edgeI l q = (i - 1 + (l.length : Int)).tmod (l.length : Int))) = true) : o ++ [q] = rightL l p q := by
  rw [hr]
  cases hk : rightT l p q - m with
  | zero => rfl
  | succ k =>
    unfold rightN
    cases he : eqB (atL l i) q with
    | true => rfl
    | false =>
      rw [he, Bool.false_or, decide_eq_true_eq, hi, right_last h1 h2 hm] at ht
      omega
theorem right_go {l : List Pt} {p q : Pt} {m : Nat} {i : Int} {o : List Pt} (h1 : 0 ≤ edgeI l p) (h2 : 0 ≤ edgeI l q) (hm : m ≤ rightT l p q) (hi : i = edgeI l p + 1 + (m : Int)) (hr : rightL l p q = o ++ rightN l q (rightT l p q - m) i)
    (ht : (eqB (atL l i) q || decide (edgeI l q = (i - 1 + (l.length : Int)).tmod (l.length : Int))) = false) : m + 1 ≤ rightT l p q ∧ rightL l p q = (o ++ [atL l i]) ++ rightN l q (rightT l p q - (m + 1)) (i + 1) := by
  rw [Bool.or_eq_false_iff, decide_eq_false_iff_not, hi, right_last h1 h2 hm] at ht
  obtain ⟨k, hk⟩ : ∃ k, rightT l p q - m = k + 1 := ⟨rightT l p q - m - 1, by omega⟩
  refine ⟨by omega, ?_⟩
  rw [hr, hk, show rightT l p q - (m + 1) = k from by omega]
  unfold rightN
  rw [if_neg (by rw [hi, ht.1]; exact Bool.false_ne_true)]
  cases k <;> simp [rightN]
/-- a piece of a stone -/
def pieceW (s : Stn) (c : ByteArray) (l : List Pt) : Stn := ⟨s.name ++ c, settledW l, s.depth, s.density, s.grain⟩
def zeroS : Stn := ⟨⟨#[]⟩, [], 0, 0, ⟨0, 0⟩⟩
def splitE (s : Stn) (p q : Pt) : Int :=
  if checkI s ≠ 0 then checkI s else if (decide (edgeI s.shape p < 0) || decide (edgeI s.shape q < 0)) = true then 8 else if apartB s.shape p q = false then 2 else
  if (decide ((s.name.size : Int) = 16) || decide (12 < max ((rightL s.shape q p).length : Int) ((rightL s.shape p q).length : Int))) = true then 5 else 0
def splitA (s : Stn) (p q : Pt) : Stn := if splitE s p q = 0 then pieceW s ⟨#[97]⟩ (rightL s.shape q p) else zeroS
def splitB (s : Stn) (p q : Pt) : Stn := if splitE s p q = 0 then pieceW s ⟨#[98]⟩ (rightL s.shape p q) else zeroS
theorem split_bad {s : Stn} {p q : Pt} {e : Int} (hE : splitE s p q = e) (he : e ≠ 0) : splitA s p q = zeroS ∧ splitB s p q = zeroS := by
  unfold splitA splitB
  rw [hE, if_neg he, if_neg he]
  exact ⟨rfl, rfl⟩
theorem split_good {s : Stn} {p q : Pt} (hE : splitE s p q = 0) : splitA s p q = pieceW s ⟨#[97]⟩ (rightL s.shape q p) ∧ splitB s p q = pieceW s ⟨#[98]⟩ (rightL s.shape p q) := by
  unfold splitA splitB
  rw [hE, if_pos rfl, if_pos rfl]
  exact ⟨rfl, rfl⟩
theorem check_named {s : Stn} (h : checkI s = 0) : s.name.size ≤ 16 := by
  have := check_good h
  unfold badB at this
  simp only [Bool.or_eq_false_iff, Bool.not_eq_false'] at this
  have h2 := this.1.1.1.1
  unfold namedB at h2
  simp only [Bool.and_eq_true, decide_eq_true_eq] at h2
  omega
end Go.Stn

namespace Go.Proofs.YtahahmelnaphjaaDoor
open Go.K Go.Stn Go.RowKit
theorem se156 : SE Tryd.prog 156 31 1 := ⟨Tryd.underlying156, by kernel_rfl⟩
theorem en119 : En Tryd.prog 119 := en_of Tryd.func119 (by kernel_rfl) (by kernel_rfl)
theorem en120 : En Tryd.prog 120 := en_of Tryd.func120 (by kernel_rfl) (by kernel_rfl)
theorem en134 : En Tryd.prog 134 := en_of Tryd.func134 (by kernel_rfl) (by kernel_rfl)
theorem bs156_2 (x0a : Option Addr) (x0l : List Pt) (x0c : Nat) (x1a : Option Addr) (x1l : List Pt) (x1c : Nat) (w : World) : (Instr.buildSlice 156 2 #[(0, .slice x0a x0l.length x0c), (1, .slice x1a x1l.length x1c)]).run Tryd.prog w = .ok (.slice (some ⟨w.heap.size, 0, none⟩) 2 2) (w.alloc (.cells (([⟨x0a, x0c, x0l⟩, ⟨x1a, x1c, x1l⟩] : List (Sli)).flatMap encSli).toArray 31)) := by kernel_rfl
set_option maxRecDepth 100000 in
set_option maxHeartbeats 1000000 in
theorem index_c (a : Option Addr) (cap : Nat) (l : List Pt) (v : Pt) (w : World) (hl : Has w (Pts a l)) (hs : Small l.length) :
    Calls Tryd.prog 119 #[.slice a l.length cap, .agg #[.int .i64 v.x, .int .i64 v.z]] w (Pure (.int .i64 (findI (eqB v) l)) w) := by
  refine calls_of_gk (vs := [_, _]) Tryd.func119 rfl rfl (Nat.le_of_ble_eq_true rfl) ?_
  refine gk_seq ?_
  refine gk_region ?_
  refine gk_yx rfl rfl (yx_box (vs := [_, _]) rfl rfl) fun b3 => ?_
  refine gk_y rfl rfl (y_assign rfl) ?_
  refine gk_nil (gk_sub (T' := [(0,_), (3,_), (4,_)]) ⟨rfl, rfl, rfl, trivial⟩ ?_)
  refine gk_seq ?_
  refine gk_seq ?_
  refine gk_region ?_
  refine gk_y rfl rfl (y_move rfl) ?_
  refine gk_y rfl rfl (y_lenS (Tryd.underlying31) rfl) ?_
  refine gk_y rfl rfl (y_move rfl) ?_
  refine gk_nil (gk_sub (T' := [(0,_), (3,_), (4,_), (7,_), (8,_)]) ⟨rfl, rfl, rfl, rfl, rfl, trivial⟩ ?_)
  refine gk_block ?_
  refine gk_loop (X := Int) (fun (i : Int) => [(0, .slice a l.length cap), (3, .pointer (some ⟨b3, 0, none⟩)), (4, .int .i64 0), (7, .int .i64 (l.length : Int)), (8, .int .i64 i)]) (fun (i : Int) => [Box b3 [.int .i64 v.x, .int .i64 v.z] 32]) (fun (i : Int) => (0 ≤ i ∧ i ≤ l.length ∧ ∀ j : Nat, (j : Int) < i → eqB v (l.getD j default) = false)) (fun (i : Int) => (l.length - i).toNat) 0 ⟨rfl, rfl, rfl, rfl, rfl, trivial⟩ rfl ?_ ?_
  · exact ⟨by omega, by omega, fun j hj => by omega⟩
  · rintro i hI
    obtain ⟨g0, g1, g2⟩ := hI
    refine gk_seq ?_
    refine gk_region ?_
    refine gk_y rfl rfl (y_lss rfl rfl) ?_
    refine gk_nil (gk_sub (T' := [(0,_), (3,_), (4,_), (7,_), (8,_), (9,_)]) ⟨rfl, rfl, rfl, rfl, rfl, rfl, trivial⟩ ?_)
    refine gk_seq ?_
    refine gk_cond rfl (fun hc9 => ?_) (fun hc9 => ?_)
    · simp only [decide_eq_true_eq] at hc9
      refine gk_skip ?_
      refine gk_seq ?_
      refine gk_block ?_
      refine gk_seq ?_
      refine gk_region ?_
      refine gk_y rfl rfl (y_move rfl) ?_
      refine gk_y rfl rfl (y_assign rfl) ?_
      refine gk_nil (gk_sub (T' := [(0,_), (3,_), (4,_), (5,_), (7,_), (8,_)]) ⟨rfl, rfl, rfl, rfl, rfl, rfl, trivial⟩ ?_)
      refine gk_seq ?_
      refine gk_any 6 (fun _ => mixed) (by kernel_rfl) ?_
      refine ph_y (y_loadBA 0 tf32 rfl rfl (vs := [_, _]) rfl rfl) ?_
      refine ph_y (y_move rfl) ?_
      refine ph_y (y_move rfl) ?_
      refine ph_y (y_indexE se31 rfl rfl (fun _ hw => (Rd.has (Has.rd hl) hw)) (by omega) (by omega)) ?_
      refine ph_y (y_loadE (vs := [_, _]) tf32 rfl (fun _ hw => (Rd.has (Has.rd hl) hw)) (by omega) (by omega) rfl) ?_
      refine ph_y (y_eql32 rfl rfl) ?_
      refine gk_nil (gk_sub (T' := [(0,_), (3,_), (4,_), (5,_), (7,_), (8,_), (16,_)]) ⟨rfl, rfl, rfl, rfl, rfl, rfl, rfl, trivial⟩ ?_)
      refine gk_cond rfl (fun hc16 => ?_) (fun hc16 => ?_)
      · skip
        refine gk_seq ?_
        refine gk_region ?_
        refine gk_y rfl rfl (y_move rfl) ?_
        refine gk_y rfl rfl (y_assign rfl) ?_
        refine gk_nil (gk_sub (T' := [(0,_), (3,_), (4,_), (7,_), (8,_)]) ⟨rfl, rfl, rfl, rfl, rfl, trivial⟩ ?_)
        refine gk_ret ?_
        refine gk_pure (rv_one rfl (r1_tmp rfl)) ?_
        exact congrArg _ (findI_hit g0 (by omega) g2 hc16).symm
      · skip
        refine gk_skip ?_
        refine gk_region ?_
        refine gk_y rfl rfl (y_addI rfl rfl (by omega) (by omega)) ?_
        refine gk_y rfl rfl (y_move rfl) ?_
        refine gk_nil (gk_sub (T' := [(0,_), (3,_), (4,_), (7,_), (8,_)]) ⟨rfl, rfl, rfl, rfl, rfl, trivial⟩ ?_)
        exact gk_next _ ⟨rfl, rfl, rfl, rfl, rfl, trivial⟩ rfl ⟨by omega, by omega, fun j hj => if h : (j : Int) < i then g2 j h else (by rw [show j = i.toNat from by omega]; exact hc16)⟩ (by omega)
    · simp only [decide_eq_false_iff_not] at hc9
      refine gk_exit rfl ?_
      refine gk_seq ?_
      refine gk_region ?_
      refine gk_y rfl rfl (y_assign rfl) ?_
      refine gk_nil (gk_sub (T' := [(4,_)]) ⟨rfl, trivial⟩ ?_)
      refine gk_ret ?_
      refine gk_pure (rv_one rfl (r1_tmp rfl)) ?_
      exact congrArg _ (findI_none (fun j hj => g2 j (by omega))).symm
set_option maxRecDepth 100000 in
set_option maxHeartbeats 1000000 in
theorem growNil_c (n : Int) (w : World) (h0 : 0 ≤ n) (h1 : n ≤ 1099511627776) :
    Calls Tryd.prog 134 #[.slice none 0 0, .int .i64 n] w (Gives (fun z : Option Addr × Nat => .slice z.1 0 z.2) (fun z => Row z.1 2 z.2 32 encPt []) w) := by
  refine calls_of_gk (vs := [_, _]) Tryd.func134 rfl rfl (Nat.le_of_ble_eq_true rfl) ?_
  refine gk_seq ?_
  refine gk_region ?_
  refine gk_y rfl rfl (y_assign rfl) ?_
  refine gk_nil (gk_sub (T' := [(0,_), (1,_), (4,_)]) ⟨rfl, rfl, rfl, trivial⟩ ?_)
  refine gk_seq ?_
  refine gk_seq ?_
  refine gk_region ?_
  refine gk_y rfl rfl (y_move rfl) ?_
  refine gk_y rfl rfl (y_lss rfl rfl) ?_
  refine gk_nil (gk_sub (T' := [(0,_), (1,_), (4,_), (6,_)]) ⟨rfl, rfl, rfl, rfl, trivial⟩ ?_)
  refine gk_cond rfl (fun hc6 => ?_) (fun hc6 => ?_)
  · exfalso; simp at hc6; omega
  · simp only [decide_eq_false_iff_not] at hc6
    refine gk_skip ?_
    refine gk_seq ?_
    refine gk_seq ?_
    refine gk_region ?_
    refine gk_y rfl rfl (y_move rfl) ?_
    refine gk_y rfl rfl (y_move rfl) ?_
    refine gk_y rfl rfl (y_capS (Tryd.underlying31) rfl) ?_
    refine gk_y rfl rfl (y_move rfl) ?_
    refine gk_y rfl rfl (y_lenS (Tryd.underlying31) rfl) ?_
    refine gk_y rfl rfl (y_subI rfl rfl (by omega) (by omega)) ?_
    refine gk_y rfl rfl (y_subI rfl rfl (by omega) (by omega)) ?_
    refine gk_y rfl rfl (y_assign rfl) ?_
    refine gk_nil (gk_sub (T' := [(0,_), (1,_), (4,_)]) ⟨rfl, rfl, rfl, trivial⟩ ?_)
    refine gk_seq ?_
    refine gk_region ?_
    refine gk_y rfl rfl (y_move rfl) ?_
    refine gk_y rfl rfl (y_gtr rfl rfl) ?_
    refine gk_nil (gk_sub (T' := [(0,_), (1,_), (4,_), (16,_)]) ⟨rfl, rfl, rfl, rfl, trivial⟩ ?_)
    refine gk_cond rfl (fun hc16 => ?_) (fun hc16 => ?_)
    · simp only [decide_eq_true_eq] at hc16
      refine gk_region ?_
      refine gk_y rfl rfl (y_move rfl) ?_
      refine gk_y rfl rfl (y_move rfl) ?_
      refine gk_y rfl rfl (y_capS (Tryd.underlying31) rfl) ?_
      refine gk_y rfl rfl (y_sliceHi se31 rfl rfl (by decide) (by decide)) ?_
      refine gk_y rfl rfl (y_move rfl) ?_
      refine gk_yx rfl rfl (yx_appendZeros encPt af31 (by decide) (Tryd.underlying3) rfl rfl (by omega) (by omega) (by omega)) fun z22 => ?_
      refine gk_y rfl rfl (y_move rfl) ?_
      refine gk_y rfl rfl (y_lenS (Tryd.underlying31) rfl) ?_
      refine gk_y rfl rfl (y_sliceHi se31 rfl rfl (by omega) (by omega)) ?_
      refine gk_y rfl rfl (y_assign rfl) ?_
      refine gk_nil (gk_sub (T' := [(0,_), (4,_)]) ⟨rfl, rfl, trivial⟩ ?_)
      refine gk_seq ?_
      refine gk_region ?_
      refine gk_y rfl rfl (y_move rfl) ?_
      refine gk_y rfl rfl (y_assign rfl) ?_
      refine gk_nil (gk_sub (T' := [(4,_)]) ⟨rfl, trivial⟩ ?_)
      refine gk_ret ?_
      refine gk_gives (some ⟨z22.1, 0, none⟩, z22.2) 0 (rv_one rfl (r1_tmp rfl)) ?_ rfl
      exact congrArg (fun a => Value.slice a 0 _) subA_zero
    · simp only [decide_eq_false_iff_not] at hc16
      refine gk_newNil 32 encPt 2 ?_
      refine gk_skip ?_
      refine gk_seq ?_
      refine gk_region ?_
      refine gk_y rfl rfl (y_move rfl) ?_
      refine gk_y rfl rfl (y_assign rfl) ?_
      refine gk_nil (gk_sub (T' := [(4,_)]) ⟨rfl, trivial⟩ ?_)
      refine gk_ret ?_
      refine gk_gives (none, 0) 0 (rv_one rfl (r1_tmp rfl)) ?_ rfl
      rfl
set_option maxRecDepth 100000 in
set_option maxHeartbeats 1000000 in
theorem concat_c (a : Option Addr) (cap : Nat) (ls : List Sli) (w : World) (hl : Has w (Elems a 1 encSli ls)) (hin : ∀ i, i < ls.length → Has w (Pts (ls.getD i default).a (ls.getD i default).l)) (hs : Small ls.length) (ht : Small (ls.flatMap Sli.l).length) :
    Calls Tryd.prog 120 #[.slice a ls.length cap] w (Gives (fun z : Option Addr × Nat => .slice z.1 (ls.flatMap Sli.l).length z.2) (fun z => Row z.1 2 z.2 32 encPt (ls.flatMap Sli.l)) w) := by
  refine calls_of_gk (vs := [_]) Tryd.func120 rfl rfl (Nat.le_of_ble_eq_true rfl) ?_
  refine gk_seq ?_
  refine gk_region ?_
  refine gk_y rfl rfl (y_assign rfl) ?_
  refine gk_nil (gk_sub (T' := [(0,_), (2,_)]) ⟨rfl, rfl, trivial⟩ ?_)
  refine gk_seq ?_
  refine gk_region ?_
  refine gk_y rfl rfl (y_assign rfl) ?_
  refine gk_nil (gk_sub (T' := [(0,_), (2,_), (3,_)]) ⟨rfl, rfl, rfl, trivial⟩ ?_)
  refine gk_seq ?_
  refine gk_seq ?_
  refine gk_region ?_
  refine gk_y rfl rfl (y_move rfl) ?_
  refine gk_y rfl rfl (y_lenS (Tryd.underlying156) rfl) ?_
  refine gk_y rfl rfl (y_move rfl) ?_
  refine gk_nil (gk_sub (T' := [(0,_), (2,_), (3,_), (9,_), (10,_), (11,_)]) ⟨rfl, rfl, rfl, rfl, rfl, rfl, trivial⟩ ?_)
  refine gk_block ?_
  refine gk_loop (X := Int × Int) (fun ⟨i, z⟩ => [(0, .slice a ls.length cap), (2, .slice none 0 0), (3, .int .i64 z), (9, .slice a ls.length cap), (10, .int .i64 (ls.length : Int)), (11, .int .i64 i)]) (fun ⟨i, z⟩ => []) (fun ⟨i, z⟩ => (0 ≤ i ∧ i ≤ ls.length ∧ z = (((ls.take i.toNat).flatMap Sli.l).length : Int))) (fun ⟨i, z⟩ => (ls.length - i).toNat) (0, 0) ⟨rfl, rfl, rfl, rfl, rfl, rfl, trivial⟩ rfl ?_ ?_
  · exact ⟨by omega, by omega, rfl⟩
  · rintro ⟨i, z⟩ hI
    obtain ⟨g0, g1, g2⟩ := hI
    refine gk_seq ?_
    refine gk_region ?_
    refine gk_y rfl rfl (y_lss rfl rfl) ?_
    refine gk_nil (gk_sub (T' := [(0,_), (2,_), (3,_), (9,_), (10,_), (11,_), (12,_)]) ⟨rfl, rfl, rfl, rfl, rfl, rfl, rfl, trivial⟩ ?_)
    refine gk_seq ?_
    refine gk_cond rfl (fun hc12 => ?_) (fun hc12 => ?_)
    · have hc12 := of_decide_eq_true hc12
      have hsx := sum_succ (ls := ls) g0 hc12
      have hbx := sum_le ls (i + 1).toNat
      rw [hsx, List.length_append] at hbx
      refine gk_skip ?_
      refine gk_seq ?_
      refine gk_block ?_
      refine gk_seq ?_
      refine gk_region ?_
      refine gk_y rfl rfl (y_indexE se156 rfl rfl (fun _ hw => (Rd.has (Has.rd hl) hw)) (by omega) (by omega)) ?_
      refine gk_y rfl rfl (y_loadE1 tf31 rfl (fun _ hw => (Rd.has (Has.rd hl) hw)) (by omega) (by omega) rfl) ?_
      refine gk_y rfl rfl (y_assign rfl) ?_
      refine gk_nil (gk_sub (T' := [(0,_), (2,_), (3,_), (5,_), (9,_), (10,_), (11,_)]) ⟨rfl, rfl, rfl, rfl, rfl, rfl, rfl, trivial⟩ ?_)
      refine gk_seq ?_
      refine gk_region ?_
      refine gk_y rfl rfl (y_move rfl) ?_
      refine gk_y rfl rfl (y_move rfl) ?_
      refine gk_y rfl rfl (y_lenS (Tryd.underlying31) rfl) ?_
      refine gk_y rfl rfl (y_addI rfl rfl (by omega) (by omega)) ?_
      refine gk_y rfl rfl (y_assign rfl) ?_
      refine gk_nil (gk_sub (T' := [(0,_), (2,_), (3,_), (9,_), (10,_), (11,_)]) ⟨rfl, rfl, rfl, rfl, rfl, rfl, trivial⟩ ?_)
      refine gk_seq ?_
      refine gk_region ?_
      refine gk_y rfl rfl (y_move rfl) ?_
      refine gk_y rfl rfl (y_lss rfl rfl) ?_
      refine gk_nil (gk_sub (T' := [(0,_), (2,_), (3,_), (9,_), (10,_), (11,_), (20,_)]) ⟨rfl, rfl, rfl, rfl, rfl, rfl, rfl, trivial⟩ ?_)
      refine gk_cond rfl (fun hc20 => ?_) (fun hc20 => ?_)
      · exfalso; simp at hc20; omega
      · simp only [decide_eq_false_iff_not] at hc20
        refine gk_skip ?_
        refine gk_region ?_
        refine gk_y rfl rfl (y_addI rfl rfl (by omega) (by omega)) ?_
        refine gk_y rfl rfl (y_move rfl) ?_
        refine gk_nil (gk_sub (T' := [(0,_), (2,_), (3,_), (9,_), (10,_), (11,_)]) ⟨rfl, rfl, rfl, rfl, rfl, rfl, trivial⟩ ?_)
        exact gk_next (i + 1, _) ⟨rfl, rfl, rfl, rfl, rfl, rfl, trivial⟩ rfl ⟨by omega, by omega, by rw [hsx, List.length_append]; omega⟩ (by simp only []; omega)
    · have hc12 := of_decide_eq_false hc12
      have hbz := sum_le ls i.toNat
      refine gk_exit rfl ?_
      refine gk_seq ?_
      refine gk_region ?_
      refine gk_y rfl rfl (y_move rfl) ?_
      refine gk_yx rfl rfl (yx_call en134 rfl (fun w hw => growNil_c z w (by omega) (by omega))) fun p24 => ?_
      refine gk_y rfl rfl (y_assign rfl) ?_
      refine gk_nil (gk_sub (T' := [(0,_), (2,_), (6,_)]) ⟨rfl, rfl, rfl, trivial⟩ ?_)
      refine gk_seq ?_
      refine gk_seq ?_
      refine gk_region ?_
      refine gk_y rfl rfl (y_move rfl) ?_
      refine gk_y rfl rfl (y_lenS (Tryd.underlying156) rfl) ?_
      refine gk_y rfl rfl (y_move rfl) ?_
      refine gk_nil (gk_sub (T' := [(2,_), (6,_), (25,_), (26,_), (27,_)]) ⟨rfl, rfl, rfl, rfl, rfl, trivial⟩ ?_)
      refine gk_block ?_
      refine gk_loop (X := Int × Option Addr × Nat × List Pt) (fun ⟨i, b, bc, m⟩ => [(2, .slice none 0 0), (6, .slice b m.length bc), (25, .slice a ls.length cap), (26, .int .i64 (ls.length : Int)), (27, .int .i64 i)]) (fun ⟨i, b, bc, m⟩ => [Row b 2 bc 32 encPt m]) (fun ⟨i, b, bc, m⟩ => (0 ≤ i ∧ i ≤ ls.length ∧ m = (ls.take i.toNat).flatMap Sli.l)) (fun ⟨i, b, bc, m⟩ => (ls.length - i).toNat) (0, p24.1, p24.2, []) ⟨rfl, rfl, rfl, rfl, rfl, trivial⟩ rfl ?_ ?_
      · exact ⟨by omega, by omega, rfl⟩
      · rintro ⟨i, b, bc, m⟩ hI
        obtain ⟨g0, g1, g2⟩ := hI
        refine gk_seq ?_
        refine gk_region ?_
        refine gk_y rfl rfl (y_lss rfl rfl) ?_
        refine gk_nil (gk_sub (T' := [(2,_), (6,_), (25,_), (26,_), (27,_), (28,_)]) ⟨rfl, rfl, rfl, rfl, rfl, rfl, trivial⟩ ?_)
        refine gk_seq ?_
        refine gk_cond rfl (fun hc28 => ?_) (fun hc28 => ?_)
        · have hc28 := of_decide_eq_true hc28
          have hsx := sum_succ (ls := ls) g0 hc28
          have hbx := sum_le ls (i + 1).toNat
          rw [hsx, List.length_append, ← g2] at hbx
          refine gk_skip ?_
          refine gk_seq ?_
          refine gk_block ?_
          refine gk_seq ?_
          refine gk_region ?_
          refine gk_y rfl rfl (y_indexE se156 rfl rfl (fun _ hw => (Rd.has (Has.rd hl) hw)) (by omega) (by omega)) ?_
          refine gk_y rfl rfl (y_loadE1 tf31 rfl (fun _ hw => (Rd.has (Has.rd hl) hw)) (by omega) (by omega) rfl) ?_
          refine gk_y rfl rfl (y_assign rfl) ?_
          refine gk_nil (gk_sub (T' := [(2,_), (6,_), (8,_), (25,_), (26,_), (27,_)]) ⟨rfl, rfl, rfl, rfl, rfl, rfl, trivial⟩ ?_)
          refine gk_region ?_
          refine gk_y rfl rfl (y_move rfl) ?_
          refine gk_y rfl rfl (y_move rfl) ?_
          refine gk_append (m := (ls.getD (i).toNat default).l) 0 af31 encPt_ok rfl rfl rfl rfl (fun _ hw => (Rd.has (Has.rd (hin _ (by omega))) hw)) (by first | omega | (simp only [List.length_cons, List.length_nil]; omega)) (by first | (unfold maxLen; omega) | (simp only [List.length_cons, List.length_nil, maxLen]; omega)) fun a33 c33 => ?_
          refine gk_y rfl rfl (y_assign rfl) ?_
          refine gk_nil (gk_sub (T' := [(2,_), (6,_), (25,_), (26,_), (27,_)]) ⟨rfl, rfl, rfl, rfl, rfl, trivial⟩ ?_)
          refine gk_region ?_
          refine gk_y rfl rfl (y_addI rfl rfl (by omega) (by omega)) ?_
          refine gk_y rfl rfl (y_move rfl) ?_
          refine gk_nil (gk_sub (T' := [(2,_), (6,_), (25,_), (26,_), (27,_)]) ⟨rfl, rfl, rfl, rfl, rfl, trivial⟩ ?_)
          exact gk_next (i + 1, a33, c33, _) ⟨rfl, rfl, rfl, rfl, rfl, trivial⟩ rfl ⟨by omega, by omega, by rw [hsx, ← g2]⟩ (by simp only []; omega)
        · simp only [decide_eq_false_iff_not] at hc28
          refine gk_exit rfl ?_
          refine gk_seq ?_
          refine gk_region ?_
          refine gk_y rfl rfl (y_move rfl) ?_
          refine gk_y rfl rfl (y_assign rfl) ?_
          refine gk_nil (gk_sub (T' := [(2,_)]) ⟨rfl, trivial⟩ ?_)
          obtain rfl : m = ls.flatMap Sli.l := by rw [g2, take_all (by omega)]
          refine gk_ret ?_
          refine gk_gives (b, bc) 0 (rv_one rfl (r1_tmp rfl)) ?_ rfl
          rfl
theorem concat2_c (a : Option Addr) (cap : Nat) (x y : Sli) (w : World) (hl : Has w (Elems a 1 encSli [x, y])) (hx : Has w (Pts x.a x.l)) (hy : Has w (Pts y.a y.l)) (ht : Small (x.l.length + y.l.length)) :
    Calls Tryd.prog 120 #[.slice a 2 cap] w (Gives (fun z : Option Addr × Nat => .slice z.1 (x.l ++ y.l).length z.2) (fun z => Row z.1 2 z.2 32 encPt (x.l ++ y.l)) w) := by
  have h := concat_c a cap [x, y] w hl (two_in hx hy) (by simp [Small]) (by simpa using ht)
  have e : [x, y].flatMap Sli.l = x.l ++ y.l := by simp
  rw [e] at h
  exact h
set_option maxRecDepth 100000 in
set_option maxHeartbeats 1000000 in
theorem settled_c (a : Option Addr) (cap : Nat) (l : List Pt) (w : World) (hl : Has w (Pts a l)) (hs : Small l.length) (h0 : 0 < l.length) (hcap : l.length ≤ cap) :
    Calls Tryd.prog 60 #[.slice a l.length cap] w (Gives (fun z : Option Addr × Nat => .slice z.1 (settledW l).length z.2) (fun z => Row z.1 2 z.2 32 encPt (settledW l)) w) := by
  obtain ⟨f0, f1⟩ := first_in h0
  have f2 : (l.drop (findI (eqB (minF lowerW l)) l).toNat ++ l.take (findI (eqB (minF lowerW l)) l).toNat).length = l.length := rotL_len (Int.le_of_lt f1)
  refine calls_of_gk (vs := [_]) Tryd.func60 rfl rfl (Nat.le_of_ble_eq_true rfl) ?_
  refine gk_seq ?_
  refine gk_region ?_
  refine gk_y rfl rfl (y_assign rfl) ?_
  refine gk_nil (gk_sub (T' := [(0,_), (2,_)]) ⟨rfl, rfl, trivial⟩ ?_)
  refine gk_seq ?_
  refine gk_region ?_
  refine gk_y rfl rfl (y_move rfl) ?_
  refine gk_y rfl rfl (y_call en99 rfl (fun w hw => least_c _ _ l w (Rd.has (Has.rd hl) hw) (by assumption) (by omega))) ?_
  refine gk_yx rfl rfl (yx_alloc tf32 (zs := [_, _]) rfl) fun b3 => ?_
  refine gk_storeV 0 tf32 rfl rfl (vs := [_, _]) rfl rfl rfl rfl rfl ?_
  refine gk_nil (gk_sub (T' := [(0,_), (2,_), (3,_)]) ⟨rfl, rfl, rfl, trivial⟩ ?_)
  refine gk_seq ?_
  refine gk_region ?_
  refine gk_y rfl rfl (y_move rfl) ?_
  refine gk_y rfl rfl (y_move rfl) ?_
  refine gk_y rfl rfl (y_call en118 rfl (fun w hw => minfunc_c _ _ l lowerW _ [] w (Rd.has (Has.rd hl) hw) (by assumption) (by omega) (fun _ => True) (fun _ _ => trivial) en106 (fun p q w _ => lower_c p q w))) ?_
  refine gk_y rfl rfl (y_call en119 rfl (fun w hw => index_c _ _ l (minF lowerW l) w (Rd.has (Has.rd hl) hw) (by assumption))) ?_
  refine gk_y rfl rfl (y_assign rfl) ?_
  refine gk_nil (gk_sub (T' := [(0,_), (2,_), (3,_), (4,_)]) ⟨rfl, rfl, rfl, rfl, trivial⟩ ?_)
  refine gk_seq ?_
  refine gk_any 9 (fun _ => mixed) (by kernel_rfl) ?_
  refine ph_y (y_move rfl) ?_
  refine ph_y (y_move rfl) ?_
  refine ph_y (y_sliceLoL se31 rfl rfl (by omega) (by omega)) ?_
  refine ph_y (y_move rfl) ?_
  refine ph_y (y_move rfl) ?_
  refine ph_y (y_move rfl) ?_
  refine ph_y (y_slice3L se31 rfl rfl rfl (by omega) (by omega) (by omega) (by omega)) ?_
  refine ph_yx (yx_buildSlice rfl (bs156_2 _ _ _ _ _ _) encSli_ok rfl) ?_
  refine ph_yx (fun b20 => yx_call en120 rfl (fun w hw => concat2_c _ _ ⟨_, _, (l.drop (findI (eqB (minF lowerW l)) l).toNat)⟩ ⟨_, _, (l.take (findI (eqB (minF lowerW l)) l).toNat)⟩ w (has_row encSli_ok (hw.has (p := 0) rfl)) (elems_drop (Rd.has (Has.rd hl) hw) hcap (by omega)) (elems_take (Rd.has (Has.rd hl) hw) (by omega) (by omega)) (by simp only [List.length_drop, List.length_take]; omega))) ?_
  intro p21
  intro b20
  refine gk_sub (T' := [(2,_), (3,_), (21,_)]) ⟨rfl, rfl, rfl, trivial⟩ ?_
  refine gk_y rfl rfl (y_assign rfl) ?_
  refine gk_nil (gk_sub (T' := [(2,_), (3,_), (5,_)]) ⟨rfl, rfl, rfl, trivial⟩ ?_)
  refine gk_seq ?_
  refine gk_seq ?_
  refine gk_region ?_
  refine gk_y rfl rfl (y_move rfl) ?_
  refine gk_y rfl rfl (y_lenS (Tryd.underlying31) rfl) ?_
  refine gk_y rfl rfl (y_move rfl) ?_
  refine gk_nil (gk_sub (T' := [(2,_), (3,_), (5,_), (23,_), (24,_)]) ⟨rfl, rfl, rfl, rfl, rfl, trivial⟩ ?_)
  refine gk_block ?_
  refine gk_loop (X := Int × List Pt) (fun ⟨i, m⟩ => [(2, .slice none 0 0), (3, .pointer (some ⟨b3, 0, none⟩)), (5, .slice p21.1 (l.drop (findI (eqB (minF lowerW l)) l).toNat ++ l.take (findI (eqB (minF lowerW l)) l).toNat).length p21.2), (23, .int .i64 ((l.drop (findI (eqB (minF lowerW l)) l).toNat ++ l.take (findI (eqB (minF lowerW l)) l).toNat).length : Int)), (24, .int .i64 i)]) (fun ⟨i, m⟩ => [Row (some ⟨b20, 0, none⟩) 1 2 31 encSli [⟨(subA a 2 (findI (eqB (minF lowerW l)) l).toNat cap), (cap - (findI (eqB (minF lowerW l)) l).toNat), (l.drop (findI (eqB (minF lowerW l)) l).toNat)⟩, ⟨(subA a 2 0 (findI (eqB (minF lowerW l)) l).toNat), (findI (eqB (minF lowerW l)) l).toNat, (l.take (findI (eqB (minF lowerW l)) l).toNat)⟩], Row p21.1 2 p21.2 32 encPt m, Box b3 [.int .i64 ((leastL l).x), .int .i64 ((leastL l).z)] 32]) (fun ⟨i, m⟩ => (0 ≤ i ∧ i ≤ ((l.drop (findI (eqB (minF lowerW l)) l).toNat ++ l.take (findI (eqB (minF lowerW l)) l).toNat).length : Int) ∧ m.length = (l.drop (findI (eqB (minF lowerW l)) l).toNat ++ l.take (findI (eqB (minF lowerW l)) l).toNat).length ∧ m = ((l.drop (findI (eqB (minF lowerW l)) l).toNat ++ l.take (findI (eqB (minF lowerW l)) l).toNat).take i.toNat).map (fun p => subW p (leastL l)) ++ (l.drop (findI (eqB (minF lowerW l)) l).toNat ++ l.take (findI (eqB (minF lowerW l)) l).toNat).drop i.toNat)) (fun ⟨i, m⟩ => (((l.drop (findI (eqB (minF lowerW l)) l).toNat ++ l.take (findI (eqB (minF lowerW l)) l).toNat).length : Int) - i).toNat) (0, (l.drop (findI (eqB (minF lowerW l)) l).toNat ++ l.take (findI (eqB (minF lowerW l)) l).toNat)) ⟨rfl, rfl, rfl, rfl, rfl, trivial⟩ rfl ?_ ?_
  · exact ⟨by omega, by omega, rfl, rfl⟩
  · rintro ⟨i, m⟩ hI
    obtain ⟨g0, g1, g3, g2⟩ := hI
    refine gk_seq ?_
    refine gk_region ?_
    refine gk_y rfl rfl (y_lss rfl rfl) ?_
    refine gk_nil (gk_sub (T' := [(2,_), (3,_), (5,_), (23,_), (24,_), (25,_)]) ⟨rfl, rfl, rfl, rfl, rfl, rfl, trivial⟩ ?_)
    refine gk_seq ?_
    refine gk_cond rfl (fun hc25 => ?_) (fun hc25 => ?_)
    · simp only [decide_eq_true_eq] at hc25
      refine gk_skip ?_
      refine gk_seq ?_
      refine gk_block ?_
      refine gk_seq ?_
      refine gk_region ?_
      refine gk_y rfl rfl (y_move rfl) ?_
      refine gk_y rfl rfl (y_assign rfl) ?_
      refine gk_nil (gk_sub (T' := [(2,_), (3,_), (5,_), (6,_), (23,_), (24,_)]) ⟨rfl, rfl, rfl, rfl, rfl, rfl, trivial⟩ ?_)
      refine gk_any 9 (fun _ => mixed) (by kernel_rfl) ?_
      refine ph_y (y_move rfl) ?_
      refine ph_y (y_move rfl) ?_
      refine ph_y (y_move rfl) ?_
      refine ph_y (y_move rfl) ?_
      refine ph_y (y_indexN se31 rfl rfl (fun _ hw => (has_row encPt_ok (hw.has (p := 1) rfl))) g3 (by omega) (by omega)) ?_
      refine ph_y (y_loadE (vs := [_, _]) tf32 rfl (fun _ hw => (has_row encPt_ok (hw.has (p := 1) rfl))) (by omega) (by omega) rfl) ?_
      refine ph_y (y_loadBA 2 tf32 rfl rfl (vs := [_, _]) rfl rfl) ?_
      refine ph_y (y_call en89 rfl (fun w hw => sub_c ⟨_, _⟩ ⟨_, _⟩ w)) ?_
      refine ph_y (y_indexN se31 rfl rfl (fun _ hw => (has_row encPt_ok (hw.has (p := 1) rfl))) g3 (by omega) (by omega)) ?_
      refine gk_sub (T' := [(2,_), (3,_), (5,_), (23,_), (24,_), (34,_), (35,_)]) ⟨rfl, rfl, rfl, rfl, rfl, rfl, rfl, trivial⟩ ?_
      refine gk_storeE (x' := ⟨((subW (m.getD (i).toNat default) (leastL l)).x), ((subW (m.getD (i).toNat default) (leastL l)).z)⟩) 1 encPt_ok tf32 rfl rfl (vs := [_, _]) rfl rfl rfl (by omega) (by omega) ?_
      refine gk_nil (gk_sub (T' := [(2,_), (3,_), (5,_), (23,_), (24,_)]) ⟨rfl, rfl, rfl, rfl, rfl, trivial⟩ ?_)
      refine gk_region ?_
      refine gk_y rfl rfl (y_addI rfl rfl (by omega) (by omega)) ?_
      refine gk_y rfl rfl (y_move rfl) ?_
      refine gk_nil (gk_sub (T' := [(2,_), (3,_), (5,_), (23,_), (24,_)]) ⟨rfl, rfl, rfl, rfl, rfl, trivial⟩ ?_)
      exact gk_next (i + 1, _) ⟨rfl, rfl, rfl, rfl, rfl, trivial⟩ rfl ⟨by omega, by omega, by rw [List.length_set]; exact g3, map_step g0 (by omega) g2⟩ (by simp only []; omega)
    · simp only [decide_eq_false_iff_not] at hc25
      refine gk_exit rfl ?_
      refine gk_seq ?_
      refine gk_region ?_
      refine gk_y rfl rfl (y_move rfl) ?_
      refine gk_y rfl rfl (y_assign rfl) ?_
      refine gk_nil (gk_sub (T' := [(2,_)]) ⟨rfl, trivial⟩ ?_)
      obtain rfl : m = settledW l := setp_end (o := (l.drop (findI (eqB (minF lowerW l)) l).toNat ++ l.take (findI (eqB (minF lowerW l)) l).toNat)) g2 (by omega)
      refine gk_ret ?_
      refine gk_gives p21 1 (rv_one rfl (r1_tmp rfl)) ?_ rfl
      exact congrArg (fun n => Value.slice _ n _) g3.symm
end Go.Proofs.YtahahmelnaphjaaDoor

namespace Go.Proofs.YtahahmelnaphjaaDoor
open Go.K Go.Stn Go.RowKit
theorem tf4 : TF Tryd.prog 4 false 1 (.bool false) := ⟨by kernel_rfl, by kernel_rfl⟩
theorem en60 : En Tryd.prog 60 := en_of Tryd.func60 (by kernel_rfl) (by kernel_rfl)
theorem en68 : En Tryd.prog 68 := en_of Tryd.func68 (by kernel_rfl) (by kernel_rfl)
theorem en69 : En Tryd.prog 69 := en_of Tryd.func69 (by kernel_rfl) (by kernel_rfl)
theorem en70 : En Tryd.prog 70 := en_of Tryd.func70 (by kernel_rfl) (by kernel_rfl)
theorem en71 : En Tryd.prog 71 := en_of Tryd.func71 (by kernel_rfl) (by kernel_rfl)
theorem en123 : En Tryd.prog 123 := en_of Tryd.func123 (by kernel_rfl) (by kernel_rfl)
theorem bd34_  (w : World) : (Instr.build 34 #[]).run Tryd.prog w = .ok (.agg #[.string ⟨#[]⟩, .slice none 0 0, .int IntKind.i64 0, .int IntKind.i64 0, .int IntKind.i64 0, .int IntKind.i64 0]) w := by kernel_rfl
set_option maxRecDepth 100000 in
set_option maxHeartbeats 1000000 in
theorem edge_c (a : Option Addr) (cap : Nat) (s : Stn) (x : Pt) (w : World) (hl : Has w (Pts a s.shape)) (hs : Small s.shape.length) :
    Calls Tryd.prog 68 #[.agg #[.string s.name, .slice a s.shape.length cap, .int .i64 s.depth, .int .i64 s.density, .int .i64 s.grain.x, .int .i64 s.grain.z], .agg #[.int .i64 x.x, .int .i64 x.z]] w (Pure (.int .i64 (edgeI s.shape x)) w) := by
  refine calls_of_gk (vs := [_, _]) Tryd.func68 rfl rfl (Nat.le_of_ble_eq_true rfl) ?_
  refine gk_seq ?_
  refine gk_region ?_
  refine gk_yx rfl rfl (yx_box (vs := [_, _, _, _, _, _]) rfl rfl) fun b2 => ?_
  refine gk_yx rfl rfl (yx_box (vs := [_, _]) rfl rfl) fun b3 => ?_
  refine gk_yx rfl rfl (yx_alloc tf3 (zs := [_]) rfl) fun b4 => ?_
  refine gk_nil (gk_sub (T' := [(2,_), (3,_), (4,_)]) ⟨rfl, rfl, rfl, trivial⟩ ?_)
  refine gk_seq ?_
  refine gk_seq ?_
  refine gk_any 10 (fun _ => mixed) (by kernel_rfl) ?_
  refine ph_y (y_fieldAddr fo32_0 rfl) ?_
  refine ph_y (y_loadB1 1 tf3 rfl rfl rfl) ?_
  refine ph_y (y_call en55 rfl (fun w hw => within_c _ _ _ w)) ?_
  refine ph_y (y_not rfl) ?_
  refine ph_y (y_move rfl) ?_
  refine ph_gF rfl rfl (fun hgd => by (try rw [hgd]); exact (y_fieldAddr fo32_1 rfl)) ?_
  refine ph_gF rfl rfl (fun hgd => by (try rw [hgd]); exact (y_loadB1 1 tf3 rfl rfl rfl)) ?_
  refine ph_gF rfl rfl (fun hgd => by (try rw [hgd]); exact (y_call (v := .bool (decide (0 ≤ x.z) && decide (x.z ≤ 2000))) en55 rfl (fun w hw => within_c _ _ _ w))) ?_
  refine ph_gF rfl rfl (fun hgd => by (try rw [hgd]); exact (y_not rfl)) ?_
  refine ph_y (y_pickOr rfl rfl rfl) ?_
  refine gk_nil (gk_sub (T' := [(2,_), (3,_), (4,_), (18,_)]) ⟨rfl, rfl, rfl, rfl, trivial⟩ ?_)
  refine gk_cond rfl (fun hc18 => ?_) (fun hc18 => ?_)
  · skip
    refine gk_seq ?_
    refine gk_region ?_
    refine gk_storeV 0 tf3 rfl rfl (vs := [_]) rfl rfl rfl rfl rfl ?_
    refine gk_nil (gk_sub (T' := [(2,_), (3,_), (4,_)]) ⟨rfl, rfl, rfl, trivial⟩ ?_)
    refine gk_ret ?_
    refine gk_pure (rv_one rfl (r1_cell1 (i := 0) tf3 rfl rfl rfl)) ?_
    rw [edgeI, if_pos (show farB x = true from hc18)]
  · skip
    refine gk_skip ?_
    refine gk_seq ?_
    refine gk_region ?_
    refine gk_yx rfl rfl (yx_alloc tf3 (zs := [_]) rfl) fun b5 => ?_
    refine gk_storeV 0 tf3 rfl rfl (vs := [_]) rfl rfl rfl rfl rfl ?_
    refine gk_nil (gk_sub (T' := [(2,_), (3,_), (4,_), (5,_)]) ⟨rfl, rfl, rfl, rfl, trivial⟩ ?_)
    refine gk_seq ?_
    refine gk_seq ?_
    refine gk_region ?_
    refine gk_y rfl rfl (y_fieldAddr fo34_1 rfl) ?_
    refine gk_y rfl rfl (y_loadB1 3 tf31 rfl rfl rfl) ?_
    refine gk_yx rfl rfl (yx_call en82 rfl (fun w hw => edges_c _ _ s.shape w)) fun p21 => ?_
    refine gk_nil (gk_sub (T' := [(3,_), (4,_), (5,_), (21,_)]) ⟨rfl, rfl, rfl, rfl, trivial⟩ ?_)
    refine gk_block ?_
    refine gk_sub (T' := [(3,_), (4,_), (5,_), (21,_)]) ⟨rfl, rfl, rfl, rfl, trivial⟩ ?_
    refine gk_rangeFunc (X := Int × Int) (fun ⟨i, r⟩ => [Box p21 [.slice a s.shape.length cap] 31, Box b5 [.int .i64 i] 3, Box b4 [.int .i64 r] 3, Box b3 [.int .i64 x.x, .int .i64 x.z] 32, Box b2 [.string s.name, .slice a s.shape.length cap, .int .i64 s.depth, .int .i64 s.density, .int .i64 s.grain.x, .int .i64 s.grain.z] 34]) (fun n ⟨i, r⟩ => i = (n : Int) ∧ r = 0 ∧ ∀ j e, j < n → (edgesL s.shape)[j]? = some e → onE x e = false) (fun ⟨i, r⟩ => r = findI (onE x) (edgesL s.shape)) [] (0, 0) rfl en124 rfl rfl ⟨rfl, rfl, fun j e hj => absurd hj (by omega)⟩ (edges1_c _ _ s.shape _ (by assumption)) (fun ⟨i, r⟩ w hw => ⟨hw.has (p := 0) rfl, (Rd.has (Has.rd hl) hw)⟩) (edges_two _) rfl ?_ ?_ ?_ ?_
    · rintro R1 R2 rl U' w' n ⟨i, r⟩ args hget hR hrd hins hbeg
      obtain ⟨e, he, rfl⟩ := edge_inv hget
      obtain ⟨hi1, hr1, hN⟩ := hR
      have hn := edge_n he
      refine gk_sub (T' := [(3,_), (4,_), (5,_), (22,_), (23,_)]) ⟨rfl, rfl, rfl, rfl, rfl, trivial⟩ ?_
      refine gk_seq ?_
      refine gk_region ?_
      refine gk_yx rfl rfl (yx_alloc tf32 (zs := [_, _]) rfl) fun b6 => ?_
      refine gk_storeV 0 tf32 rfl rfl (vs := [_, _]) rfl rfl rfl rfl rfl ?_
      refine gk_nil (gk_sub (T' := [(3,_), (4,_), (5,_), (6,_), (23,_)]) ⟨rfl, rfl, rfl, rfl, rfl, trivial⟩ ?_)
      refine gk_region ?_
      refine gk_yx rfl rfl (yx_alloc tf32 (zs := [_, _]) rfl) fun b7 => ?_
      refine gk_storeV 0 tf32 rfl rfl (vs := [_, _]) rfl rfl rfl rfl rfl ?_
      refine gk_nil (gk_sub (T' := [(3,_), (4,_), (5,_), (6,_), (7,_)]) ⟨rfl, rfl, rfl, rfl, rfl, trivial⟩ ?_)
      refine gk_front 2 rfl ?_
      refine hbeg _ _ _ ?_
      refine gk_block ?_
      refine gk_seq ?_
      refine gk_region ?_
      refine gk_y rfl rfl (y_loadBA 6 tf32 rfl rfl (vs := [_, _]) rfl rfl) ?_
      refine gk_y rfl rfl (y_loadBA 2 tf32 rfl rfl (vs := [_, _]) rfl rfl) ?_
      refine gk_y rfl rfl (y_call en89 rfl (fun w hw => sub_c ⟨_, _⟩ ⟨_, _⟩ w)) ?_
      refine gk_yx rfl rfl (yx_alloc tf32 (zs := [_, _]) rfl) fun b8 => ?_
      refine gk_storeV 0 tf32 rfl rfl (vs := [_, _]) rfl rfl rfl rfl rfl ?_
      refine gk_nil (gk_sub (T' := [(4,_), (5,_), (6,_), (7,_), (8,_)]) ⟨rfl, rfl, rfl, rfl, rfl, trivial⟩ ?_)
      refine gk_seq ?_
      refine gk_seq ?_
      refine gk_any 27 (fun _ => mixed) (by kernel_rfl) ?_
      refine ph_y (y_loadBA 2 tf32 rfl rfl (vs := [_, _]) rfl rfl) ?_
      refine ph_y (y_loadBA 3 tf32 rfl rfl (vs := [_, _]) rfl rfl) ?_
      refine ph_y (y_call en89 rfl (fun w hw => sub_c ⟨_, _⟩ ⟨_, _⟩ w)) ?_
      refine ph_y (y_loadBA 0 tf32 rfl rfl (vs := [_, _]) rfl rfl) ?_
      refine ph_y (y_call en83 rfl (fun w hw => cross_c ⟨_, _⟩ ⟨_, _⟩ w)) ?_
      refine ph_y (y_eql rfl rfl) ?_
      refine ph_y (y_move rfl) ?_
      refine ph_gT rfl rfl (fun hgd => by (try rw [hgd]); exact (y_loadBA 0 tf32 rfl rfl (vs := [_, _]) rfl rfl)) ?_
      refine ph_gT rfl rfl (fun hgd => by (try rw [hgd]); exact (y_loadBA 2 tf32 rfl rfl (vs := [_, _]) rfl rfl)) ?_
      refine ph_gT rfl rfl (fun hgd => by (try rw [hgd]); exact (y_loadBA 3 tf32 rfl rfl (vs := [_, _]) rfl rfl)) ?_
      refine ph_gT rfl rfl (fun hgd => by (try rw [hgd]); exact (y_call (v := .agg #[.int .i64 ((subW e.2 e.1).x), .int .i64 ((subW e.2 e.1).z)]) en89 rfl (fun w hw => sub_c ⟨_, _⟩ ⟨_, _⟩ w))) ?_
      refine ph_gT rfl rfl (fun hgd => by (try rw [hgd]); exact (y_call (v := .int .i64 (dotW (subW x e.1) (subW e.2 e.1))) en123 rfl (fun w hw => dot_c ⟨_, _⟩ ⟨_, _⟩ w))) ?_
      refine ph_gT rfl rfl (fun hgd => by (try rw [hgd]); exact (y_geq rfl rfl)) ?_
      refine ph_y (y_pickAnd rfl rfl rfl) ?_
      refine ph_y (y_move rfl) ?_
      refine ph_gT rfl rfl (fun hgd => by (try rw [hgd]); exact (y_loadBA 0 tf32 rfl rfl (vs := [_, _]) rfl rfl)) ?_
      refine ph_gT rfl rfl (fun hgd => by (try rw [hgd]); exact (y_loadBA 0 tf32 rfl rfl (vs := [_, _]) rfl rfl)) ?_
      refine ph_gT rfl rfl (fun hgd => by (try rw [hgd]); exact (y_call (v := .int .i64 (dotW (subW x e.1) (subW x e.1))) en123 rfl (fun w hw => dot_c ⟨_, _⟩ ⟨_, _⟩ w))) ?_
      refine ph_gT rfl rfl (fun hgd => by (try rw [hgd]); exact (y_loadBA 2 tf32 rfl rfl (vs := [_, _]) rfl rfl)) ?_
      refine ph_gT rfl rfl (fun hgd => by (try rw [hgd]); exact (y_loadBA 3 tf32 rfl rfl (vs := [_, _]) rfl rfl)) ?_
      refine ph_gT rfl rfl (fun hgd => by (try rw [hgd]); exact (y_call (v := .agg #[.int .i64 ((subW e.2 e.1).x), .int .i64 ((subW e.2 e.1).z)]) en89 rfl (fun w hw => sub_c ⟨_, _⟩ ⟨_, _⟩ w))) ?_
      refine ph_gT rfl rfl (fun hgd => by (try rw [hgd]); exact (y_loadBA 2 tf32 rfl rfl (vs := [_, _]) rfl rfl)) ?_
      refine ph_gT rfl rfl (fun hgd => by (try rw [hgd]); exact (y_loadBA 3 tf32 rfl rfl (vs := [_, _]) rfl rfl)) ?_
      refine ph_gT rfl rfl (fun hgd => by (try rw [hgd]); exact (y_call (v := .agg #[.int .i64 ((subW e.2 e.1).x), .int .i64 ((subW e.2 e.1).z)]) en89 rfl (fun w hw => sub_c ⟨_, _⟩ ⟨_, _⟩ w))) ?_
      refine ph_gT rfl rfl (fun hgd => by (try rw [hgd]); exact (y_call (v := .int .i64 (dotW (subW e.2 e.1) (subW e.2 e.1))) en123 rfl (fun w hw => dot_c ⟨_, _⟩ ⟨_, _⟩ w))) ?_
      refine ph_gT rfl rfl (fun hgd => by (try rw [hgd]); exact (y_lss rfl rfl)) ?_
      refine ph_y (y_pickAnd rfl rfl rfl) ?_
      refine gk_nil (gk_sub (T' := [(4,_), (5,_), (53,_)]) ⟨rfl, rfl, rfl, trivial⟩ ?_)
      refine gk_cond rfl (fun hc53 => ?_) (fun hc53 => ?_)
      · skip
        refine gk_seq ?_
        refine gk_region ?_
        refine gk_y rfl rfl (y_loadB1 5 tf3 rfl rfl rfl) ?_
        refine gk_storeV 6 tf3 rfl rfl (vs := [_]) rfl rfl rfl rfl rfl ?_
        refine gk_nil (gk_sub (T' := [(4,_), (5,_)]) ⟨rfl, rfl, trivial⟩ ?_)
        refine gk_ret ?_
        refine gk_dropAt 0 rfl ?_
        refine gk_dropAt 1 rfl ?_
        refine gk_dropAt 1 rfl ?_
        exact gk_joined (i, i) trivial rfl (by show i = _; rw [hi1]; exact (findI_at he hN hc53).symm)
      · skip
        refine gk_skip ?_
        refine gk_region ?_
        refine gk_y rfl rfl (y_loadB1 5 tf3 rfl rfl rfl) ?_
        refine gk_y rfl rfl (y_addI rfl rfl (by omega) (by omega)) ?_
        refine gk_storeV 5 tf3 rfl rfl (vs := [_]) rfl rfl rfl rfl rfl ?_
        refine gk_nil (gk_sub (T' := [(4,_)]) ⟨rfl, trivial⟩ ?_)
        refine gk_dropAt 0 rfl ?_
        refine gk_dropAt 1 rfl ?_
        refine gk_dropAt 1 rfl ?_
        exact gk_joined (i + 1, r) trivial rfl ⟨by omega, hr1, none_succ he hN hc53⟩
    · rintro Dm ⟨i, r⟩ hR
      obtain ⟨hi1, hr1, hN⟩ := hR
      refine gk_seq ?_
      refine gk_region ?_
      refine gk_storeV 3 tf3 rfl rfl (vs := [_]) rfl rfl rfl rfl rfl ?_
      refine gk_nil (gk_sub (T' := [(4,_)]) ⟨rfl, trivial⟩ ?_)
      refine gk_ret ?_
      refine gk_unmark 0 rfl ?_
      refine gk_pure (rv_one rfl (r1_cell1 (i := 2) tf3 rfl rfl rfl)) ?_
      rw [edgeI, if_neg (show ¬ farB x = true by rw [show farB x = false from hc18]; exact Bool.false_ne_true), findI_no (fun j e hj => hN j e (by simpa [edgeVs] using hj))]
    · rintro Dm ⟨i, r⟩ hD
      refine gk_unmark 0 rfl ?_
      refine gk_pure (rv_one rfl (r1_cell1 (i := 2) tf3 rfl rfl rfl)) ?_
      rw [edgeI, if_neg (show ¬ farB x = true by rw [show farB x = false from hc18]; exact Bool.false_ne_true), hD]
    · exact fun _ _ _ _ h => absurd h (by simp)
set_option maxRecDepth 100000 in
set_option maxHeartbeats 1000000 in
theorem apart_c (a : Option Addr) (cap : Nat) (s : Stn) (p q : Pt) (w : World) (hl : Has w (Pts a s.shape)) (hs : Small s.shape.length) :
    Calls Tryd.prog 69 #[.agg #[.string s.name, .slice a s.shape.length cap, .int .i64 s.depth, .int .i64 s.density, .int .i64 s.grain.x, .int .i64 s.grain.z], .agg #[.int .i64 p.x, .int .i64 p.z], .agg #[.int .i64 q.x, .int .i64 q.z]] w (Pure (.bool (apartB s.shape p q)) w) := by
  refine calls_of_gk (vs := [_, _, _]) Tryd.func69 rfl rfl (Nat.le_of_ble_eq_true rfl) ?_
  refine gk_seq ?_
  refine gk_region ?_
  refine gk_yx rfl rfl (yx_box (vs := [_, _, _, _, _, _]) rfl rfl) fun b3 => ?_
  refine gk_yx rfl rfl (yx_box (vs := [_, _]) rfl rfl) fun b4 => ?_
  refine gk_yx rfl rfl (yx_box (vs := [_, _]) rfl rfl) fun b5 => ?_
  refine gk_yx rfl rfl (yx_alloc tf4 (zs := [_]) rfl) fun b6 => ?_
  refine gk_nil (gk_sub (T' := [(3,_), (4,_), (5,_), (6,_)]) ⟨rfl, rfl, rfl, rfl, trivial⟩ ?_)
  refine gk_seq ?_
  refine gk_seq ?_
  refine gk_region ?_
  refine gk_y rfl rfl (y_fieldAddr fo34_1 rfl) ?_
  refine gk_y rfl rfl (y_loadB1 3 tf31 rfl rfl rfl) ?_
  refine gk_yx rfl rfl (yx_call en82 rfl (fun w hw => edges_c _ _ s.shape w)) fun p11 => ?_
  refine gk_nil (gk_sub (T' := [(4,_), (5,_), (6,_), (11,_)]) ⟨rfl, rfl, rfl, rfl, trivial⟩ ?_)
  refine gk_block ?_
  refine gk_sub (T' := [(4,_), (5,_), (6,_), (11,_)]) ⟨rfl, rfl, rfl, rfl, trivial⟩ ?_
  refine gk_rangeFunc (X := Bool) (fun r => [Box p11 [.slice a s.shape.length cap] 31, Box b6 [.bool r] 4, Box b5 [.int .i64 q.x, .int .i64 q.z] 32, Box b4 [.int .i64 p.x, .int .i64 p.z] 32, Box b3 [.string s.name, .slice a s.shape.length cap, .int .i64 s.depth, .int .i64 s.density, .int .i64 s.grain.x, .int .i64 s.grain.z] 34]) (fun n r => r = false ∧ ∀ j e, j < n → (edgesL s.shape)[j]? = some e → both0 p q e = false) (fun r => r = false ∧ apartB s.shape p q = false) [] false rfl en124 rfl rfl ⟨rfl, fun j e hj => absurd hj (by omega)⟩ (edges1_c _ _ s.shape _ (by assumption)) (fun r w hw => ⟨hw.has (p := 0) rfl, (Rd.has (Has.rd hl) hw)⟩) (edges_two _) rfl ?_ ?_ ?_ ?_
  · rintro R1 R2 rl U' w' n r args hget hR hrd hins hbeg
    obtain ⟨e, he, rfl⟩ := edge_inv hget
    obtain ⟨hr1, hN⟩ := hR
    refine gk_sub (T' := [(4,_), (5,_), (6,_), (12,_), (13,_)]) ⟨rfl, rfl, rfl, rfl, rfl, trivial⟩ ?_
    refine gk_seq ?_
    refine gk_region ?_
    refine gk_yx rfl rfl (yx_alloc tf32 (zs := [_, _]) rfl) fun b7 => ?_
    refine gk_storeV 0 tf32 rfl rfl (vs := [_, _]) rfl rfl rfl rfl rfl ?_
    refine gk_nil (gk_sub (T' := [(4,_), (5,_), (6,_), (7,_), (13,_)]) ⟨rfl, rfl, rfl, rfl, rfl, trivial⟩ ?_)
    refine gk_region ?_
    refine gk_yx rfl rfl (yx_alloc tf32 (zs := [_, _]) rfl) fun b8 => ?_
    refine gk_storeV 0 tf32 rfl rfl (vs := [_, _]) rfl rfl rfl rfl rfl ?_
    refine gk_nil (gk_sub (T' := [(4,_), (5,_), (6,_), (7,_), (8,_)]) ⟨rfl, rfl, rfl, rfl, rfl, trivial⟩ ?_)
    refine gk_front 2 rfl ?_
    refine hbeg _ _ _ ?_
    refine gk_block ?_
    refine gk_seq ?_
    refine gk_any 12 (fun _ => mixed) (by kernel_rfl) ?_
    refine ph_y (y_loadBA 2 tf32 rfl rfl (vs := [_, _]) rfl rfl) ?_
    refine ph_y (y_loadBA 1 tf32 rfl rfl (vs := [_, _]) rfl rfl) ?_
    refine ph_y (y_loadBA 6 tf32 rfl rfl (vs := [_, _]) rfl rfl) ?_
    refine ph_y (y_call en108 rfl (fun w hw => turn_c ⟨_, _⟩ ⟨_, _⟩ ⟨_, _⟩ w)) ?_
    refine ph_y (y_eql rfl rfl) ?_
    refine ph_y (y_move rfl) ?_
    refine ph_gT rfl rfl (fun hgd => by (try rw [hgd]); exact (y_loadBA 2 tf32 rfl rfl (vs := [_, _]) rfl rfl)) ?_
    refine ph_gT rfl rfl (fun hgd => by (try rw [hgd]); exact (y_loadBA 1 tf32 rfl rfl (vs := [_, _]) rfl rfl)) ?_
    refine ph_gT rfl rfl (fun hgd => by (try rw [hgd]); exact (y_loadBA 5 tf32 rfl rfl (vs := [_, _]) rfl rfl)) ?_
    refine ph_gT rfl rfl (fun hgd => by (try rw [hgd]); exact (y_call (v := .int .i64 (turnW e.1 e.2 q)) en108 rfl (fun w hw => turn_c ⟨_, _⟩ ⟨_, _⟩ ⟨_, _⟩ w))) ?_
    refine ph_gT rfl rfl (fun hgd => by (try rw [hgd]); exact (y_eql rfl rfl)) ?_
    refine ph_y (y_pickAnd rfl rfl rfl) ?_
    refine gk_nil (gk_sub (T' := [(6,_), (25,_)]) ⟨rfl, rfl, trivial⟩ ?_)
    refine gk_cond rfl (fun hc25 => ?_) (fun hc25 => ?_)
    · skip
      refine gk_seq ?_
      refine gk_region ?_
      refine gk_storeV 4 tf4 rfl rfl (vs := [_]) rfl rfl rfl rfl rfl ?_
      refine gk_nil (gk_sub (T' := [(6,_)]) ⟨rfl, trivial⟩ ?_)
      refine gk_ret ?_
      refine gk_dropAt 1 rfl ?_
      refine gk_dropAt 1 rfl ?_
      exact gk_joined false trivial rfl ⟨rfl, apart_no he hc25⟩
    · skip
      refine gk_skip ?_
      refine gk_dropAt 1 rfl ?_
      refine gk_dropAt 1 rfl ?_
      exact gk_joined r trivial rfl ⟨hr1, none_succ he hN hc25⟩
  · intro Dm r hR
    obtain ⟨hr1, hN⟩ := hR
    refine gk_seq ?_
    refine gk_region ?_
    refine gk_storeV 2 tf4 rfl rfl (vs := [_]) rfl rfl rfl rfl rfl ?_
    refine gk_nil (gk_sub (T' := [(6,_)]) ⟨rfl, trivial⟩ ?_)
    refine gk_ret ?_
    refine gk_unmark 0 rfl ?_
    refine gk_pure (rv_one rfl (r1_cell1 (i := 1) tf4 rfl rfl rfl)) ?_
    rw [apart_yes (fun j e hj => hN j e (by simpa [edgeVs] using hj))]
  · rintro Dm r hD
    refine gk_unmark 0 rfl ?_
    refine gk_pure (rv_one rfl (r1_cell1 (i := 1) tf4 rfl rfl rfl)) ?_
    rw [hD.1, hD.2]
  · exact fun _ _ _ _ h => absurd h (by simp)
set_option maxRecDepth 100000 in
set_option maxHeartbeats 1000000 in
theorem right_c (a : Option Addr) (cap : Nat) (s : Stn) (p q : Pt) (w : World) (hl : Has w (Pts a s.shape)) (hs : Small s.shape.length) (h1 : 0 ≤ edgeI s.shape p) (h2 : 0 ≤ edgeI s.shape q) :
    Calls Tryd.prog 70 #[.agg #[.string s.name, .slice a s.shape.length cap, .int .i64 s.depth, .int .i64 s.density, .int .i64 s.grain.x, .int .i64 s.grain.z], .agg #[.int .i64 p.x, .int .i64 p.z], .agg #[.int .i64 q.x, .int .i64 q.z]] w (Gives (fun z : Option Addr × Nat => .slice z.1 (rightL s.shape p q).length z.2) (fun z => Row z.1 2 z.2 32 encPt (rightL s.shape p q)) w) := by
  have a1 := edge_lt (l := s.shape) (x := p)
  have a2 := edge_lt (l := s.shape) (x := q)
  have a3 := rightT_le h1 h2
  have a4 : 0 < s.shape.length := by omega
  refine calls_of_gk (vs := [_, _, _]) Tryd.func70 rfl rfl (Nat.le_of_ble_eq_true rfl) ?_
  refine gk_seq ?_
  refine gk_region ?_
  refine gk_yx rfl rfl (yx_box (vs := [_, _, _, _, _, _]) rfl rfl) fun b3 => ?_
  refine gk_yx rfl rfl (yx_box (vs := [_, _]) rfl rfl) fun b4 => ?_
  refine gk_yx rfl rfl (yx_box (vs := [_, _]) rfl rfl) fun b5 => ?_
  refine gk_y rfl rfl (y_assign rfl) ?_
  refine gk_nil (gk_sub (T' := [(3,_), (4,_), (5,_), (6,_)]) ⟨rfl, rfl, rfl, rfl, trivial⟩ ?_)
  refine gk_seq ?_
  refine gk_region ?_
  refine gk_y rfl rfl (y_loadBA 1 tf32 rfl rfl (vs := [_, _]) rfl rfl) ?_
  refine gk_yx rfl rfl (yx_buildSlice rfl (bs31_1 _ _) encPt_ok rfl) fun b11 => ?_
  refine gk_y rfl rfl (y_assign rfl) ?_
  refine gk_nil (gk_sub (T' := [(3,_), (4,_), (5,_), (6,_), (7,_)]) ⟨rfl, rfl, rfl, rfl, rfl, trivial⟩ ?_)
  refine gk_seq ?_
  refine gk_region ?_
  refine gk_y rfl rfl (y_loadBA 3 tf34 rfl rfl (vs := [_, _, _, _, _, _]) rfl rfl) ?_
  refine gk_y rfl rfl (y_loadBA 2 tf32 rfl rfl (vs := [_, _]) rfl rfl) ?_
  refine gk_y rfl rfl (y_call en68 rfl (fun w hw => edge_c _ _ s p w (Rd.has (Has.rd hl) hw) (by assumption))) ?_
  refine gk_y rfl rfl (y_addI rfl rfl (by omega) (by omega)) ?_
  refine gk_y rfl rfl (y_assign rfl) ?_
  refine gk_nil (gk_sub (T' := [(3,_), (5,_), (6,_), (7,_), (8,_)]) ⟨rfl, rfl, rfl, rfl, rfl, trivial⟩ ?_)
  refine gk_block ?_
  refine gk_loop (X := Nat × Int × Option Addr × Nat × List Pt) (fun ⟨m, i, b, bc, o⟩ => [(3, .pointer (some ⟨b3, 0, none⟩)), (5, .pointer (some ⟨b5, 0, none⟩)), (6, .slice none 0 0), (7, .slice b o.length bc), (8, .int .i64 i)]) (fun ⟨m, i, b, bc, o⟩ => [Row b 2 bc 32 encPt o, Box b5 [.int .i64 q.x, .int .i64 q.z] 32, Box b4 [.int .i64 p.x, .int .i64 p.z] 32, Box b3 [.string s.name, .slice a s.shape.length cap, .int .i64 s.depth, .int .i64 s.density, .int .i64 s.grain.x, .int .i64 s.grain.z] 34]) (fun ⟨m, i, b, bc, o⟩ => (m ≤ rightT s.shape p q ∧ i = edgeI s.shape p + 1 + (m : Int) ∧ o.length ≤ m + 1 ∧ rightL s.shape p q = o ++ rightN s.shape q (rightT s.shape p q - m) i)) (fun ⟨m, i, b, bc, o⟩ => rightT s.shape p q - m) (0, edgeI s.shape p + 1, (some ⟨b11, 0, none⟩), 1, [p]) ⟨rfl, rfl, rfl, rfl, rfl, trivial⟩ rfl ?_ ?_
  · exact ⟨by omega, by omega, by simp, rfl⟩
  · rintro ⟨m, i, b, bc, o⟩ hI
    obtain ⟨g0, g1, g2, g3⟩ := hI
    refine gk_seq ?_
    refine gk_block ?_
    refine gk_seq ?_
    refine gk_region ?_
    refine gk_y rfl rfl (y_fieldAddr fo34_1 rfl) ?_
    refine gk_y rfl rfl (y_loadB1 3 tf31 rfl rfl rfl) ?_
    refine gk_y rfl rfl (y_move rfl) ?_
    refine gk_y rfl rfl (y_call en90 rfl (fun w hw => at_c _ _ s.shape i w (Rd.has (Has.rd hl) hw) (by assumption) (by omega) (by omega) (by omega))) ?_
    refine gk_yx rfl rfl (yx_alloc tf32 (zs := [_, _]) rfl) fun b9 => ?_
    refine gk_storeV 0 tf32 rfl rfl (vs := [_, _]) rfl rfl rfl rfl rfl ?_
    refine gk_nil (gk_sub (T' := [(3,_), (5,_), (6,_), (7,_), (8,_), (9,_)]) ⟨rfl, rfl, rfl, rfl, rfl, rfl, trivial⟩ ?_)
    refine gk_seq ?_
    refine gk_seq ?_
    refine gk_any 19 (fun _ => mixed) (by kernel_rfl) ?_
    refine ph_y (y_loadBA 0 tf32 rfl rfl (vs := [_, _]) rfl rfl) ?_
    refine ph_y (y_loadBA 2 tf32 rfl rfl (vs := [_, _]) rfl rfl) ?_
    refine ph_y (y_eql32 rfl rfl) ?_
    refine ph_y (y_move rfl) ?_
    refine ph_gF rfl rfl (fun hgd => by (try rw [hgd]); exact (y_loadBA 4 tf34 rfl rfl (vs := [_, _, _, _, _, _]) rfl rfl)) ?_
    refine ph_gF rfl rfl (fun hgd => by (try rw [hgd]); exact (y_loadBA 2 tf32 rfl rfl (vs := [_, _]) rfl rfl)) ?_
    refine ph_gF rfl rfl (fun hgd => by (try rw [hgd]); exact (y_call (v := .int .i64 (edgeI s.shape q)) en68 rfl (fun w hw => edge_c _ _ s q w (Rd.has (Has.rd hl) hw) (by assumption)))) ?_
    refine ph_gF rfl rfl (fun hgd => by (try rw [hgd]); exact (y_move rfl)) ?_
    refine ph_gF rfl rfl (fun hgd => by (try rw [hgd]); exact (y_subI rfl rfl (by omega) (by omega))) ?_
    refine ph_gF rfl rfl (fun hgd => by (try rw [hgd]); exact (y_fieldAddr fo34_1 rfl)) ?_
    refine ph_gF rfl rfl (fun hgd => by (try rw [hgd]); exact (y_loadB1 4 tf31 rfl rfl rfl)) ?_
    refine ph_gF rfl rfl (fun hgd => by (try rw [hgd]); exact (y_lenS (Tryd.underlying31) rfl)) ?_
    refine ph_gF rfl rfl (fun hgd => by (try rw [hgd]); exact (y_addI rfl rfl (by omega) (by omega))) ?_
    refine ph_gF rfl rfl (fun hgd => by (try rw [hgd]); exact (y_fieldAddr fo34_1 rfl)) ?_
    refine ph_gF rfl rfl (fun hgd => by (try rw [hgd]); exact (y_loadB1 4 tf31 rfl rfl rfl)) ?_
    refine ph_gF rfl rfl (fun hgd => by (try rw [hgd]); exact (y_lenS (Tryd.underlying31) rfl)) ?_
    refine ph_gF rfl rfl (fun hgd => by (try rw [hgd]); exact (y_rem rfl rfl (by omega))) ?_
    refine ph_gF rfl rfl (fun hgd => by (try rw [hgd]); exact (y_eql rfl rfl)) ?_
    refine ph_y (y_pickOr rfl rfl rfl) ?_
    refine gk_nil (gk_sub (T' := [(3,_), (5,_), (6,_), (7,_), (8,_), (9,_), (40,_)]) ⟨rfl, rfl, rfl, rfl, rfl, rfl, rfl, trivial⟩ ?_)
    refine gk_cond rfl (fun hc40 => ?_) (fun hc40 => ?_)
    · have hfin := right_stop h1 h2 g0 g1 g3 hc40
      refine gk_seq ?_
      refine gk_region ?_
      refine gk_y rfl rfl (y_move rfl) ?_
      refine gk_y rfl rfl (y_loadBA 2 tf32 rfl rfl (vs := [_, _]) rfl rfl) ?_
      refine gk_yx rfl rfl (yx_buildSlice rfl (bs31_1 _ _) encPt_ok rfl) fun b43 => ?_
      refine gk_append (m := [⟨q.x, q.z⟩]) 2 af31 encPt_ok rfl rfl rfl rfl (fun _ hw => (has_row encPt_ok (hw.has (p := 0) rfl))) (by first | omega | (simp only [List.length_cons, List.length_nil]; omega)) (by first | (unfold maxLen; omega) | (simp only [List.length_cons, List.length_nil, maxLen]; omega)) fun a44 c44 => ?_
      refine gk_y rfl rfl (y_assign rfl) ?_
      refine gk_nil (gk_sub (T' := [(3,_), (5,_), (6,_), (7,_), (8,_), (9,_)]) ⟨rfl, rfl, rfl, rfl, rfl, rfl, trivial⟩ ?_)
      refine gk_ret ?_
      refine gk_gives (a44, c44) 2 (rv_one rfl (r1_tmp rfl)) ?_ (by rw [← hfin]; rfl)
      rw [← hfin]
    · have hgo := right_go h1 h2 g0 g1 g3 hc40
      refine gk_skip ?_
      refine gk_region ?_
      refine gk_y rfl rfl (y_move rfl) ?_
      refine gk_y rfl rfl (y_loadBA 0 tf32 rfl rfl (vs := [_, _]) rfl rfl) ?_
      refine gk_yx rfl rfl (yx_buildSlice rfl (bs31_1 _ _) encPt_ok rfl) fun b47 => ?_
      refine gk_append (m := [⟨((atL s.shape i).x), ((atL s.shape i).z)⟩]) 2 af31 encPt_ok rfl rfl rfl rfl (fun _ hw => (has_row encPt_ok (hw.has (p := 0) rfl))) (by first | omega | (simp only [List.length_cons, List.length_nil]; omega)) (by first | (unfold maxLen; omega) | (simp only [List.length_cons, List.length_nil, maxLen]; omega)) fun a48 c48 => ?_
      refine gk_y rfl rfl (y_assign rfl) ?_
      refine gk_nil (gk_sub (T' := [(3,_), (5,_), (6,_), (7,_), (8,_)]) ⟨rfl, rfl, rfl, rfl, rfl, trivial⟩ ?_)
      refine gk_region ?_
      refine gk_y rfl rfl (y_move rfl) ?_
      refine gk_y rfl rfl (y_addI rfl rfl (by omega) (by omega)) ?_
      refine gk_y rfl rfl (y_assign rfl) ?_
      refine gk_nil (gk_sub (T' := [(3,_), (5,_), (6,_), (7,_), (8,_)]) ⟨rfl, rfl, rfl, rfl, rfl, trivial⟩ ?_)
      refine gk_dropAt 0 rfl ?_
      refine gk_dropAt 0 rfl ?_
      exact gk_next (m + 1, i + 1, a48, c48, _) ⟨rfl, rfl, rfl, rfl, rfl, trivial⟩ rfl ⟨hgo.1, by omega, by rw [List.length_append]; simp only [List.length_cons, List.length_nil]; omega, hgo.2⟩ (by have := hgo.1; simp only []; omega)
set_option maxRecDepth 100000 in
set_option maxHeartbeats 1000000 in
theorem piece_c (a : Option Addr) (cap : Nat) (s : Stn) (c : ByteArray) (a2 : Option Addr) (cap2 : Nat) (l : List Pt) (w : World) (hl2 : Has w (Pts a2 l)) (hs2 : Small l.length) (h0 : 0 < l.length) (hcap : l.length ≤ cap2) (hn : s.name.size + c.size ≤ 4096) :
    Calls Tryd.prog 71 #[.agg #[.string s.name, .slice a s.shape.length cap, .int .i64 s.depth, .int .i64 s.density, .int .i64 s.grain.x, .int .i64 s.grain.z], .string c, .slice a2 l.length cap2] w (Gives (fun z : Option Addr × Nat => stnV (pieceW s c l) z.1 z.2) (fun z => Row z.1 2 z.2 32 encPt (pieceW s c l).shape) w) := by
  refine calls_of_gk (vs := [_, _, _]) Tryd.func71 rfl rfl (Nat.le_of_ble_eq_true rfl) ?_
  refine gk_seq ?_
  refine gk_region ?_
  refine gk_yx rfl rfl (yx_box (vs := [_, _, _, _, _, _]) rfl rfl) fun b3 => ?_
  refine gk_yx rfl rfl (yx_alloc tf34 (zs := [_, _, _, _, _, _]) rfl) fun b6 => ?_
  refine gk_nil (gk_sub (T' := [(1,_), (2,_), (3,_), (6,_)]) ⟨rfl, rfl, rfl, rfl, trivial⟩ ?_)
  refine gk_seq ?_
  refine gk_region ?_
  refine gk_y rfl rfl (y_fieldAddr fo34_0 rfl) ?_
  refine gk_y rfl rfl (y_loadB1 1 tf9 rfl rfl rfl) ?_
  refine gk_y rfl rfl (y_move rfl) ?_
  refine gk_y rfl rfl (y_strAdd rfl rfl (by omega)) ?_
  refine gk_y rfl rfl (y_fieldAddr fo34_0 rfl) ?_
  refine gk_storeV 1 tf9 rfl rfl (vs := [_]) rfl rfl rfl rfl rfl ?_
  refine gk_nil (gk_sub (T' := [(2,_), (3,_), (6,_)]) ⟨rfl, rfl, rfl, trivial⟩ ?_)
  refine gk_seq ?_
  refine gk_region ?_
  refine gk_y rfl rfl (y_move rfl) ?_
  refine gk_yx rfl rfl (yx_call en60 rfl (fun w hw => settled_c _ _ l w (Rd.has (Has.rd hl2) hw) (by assumption) (by assumption) hcap)) fun p13 => ?_
  refine gk_y rfl rfl (y_fieldAddr fo34_1 rfl) ?_
  refine gk_storeV 2 tf31 rfl rfl (vs := [_]) rfl rfl rfl rfl rfl ?_
  refine gk_nil (gk_sub (T' := [(3,_), (6,_)]) ⟨rfl, rfl, trivial⟩ ?_)
  refine gk_seq ?_
  refine gk_region ?_
  refine gk_y rfl rfl (y_loadBA 2 tf34 rfl rfl (vs := [_, _, _, _, _, _]) rfl rfl) ?_
  refine gk_storeV 1 tf34 rfl rfl (vs := [_, _, _, _, _, _]) rfl rfl rfl rfl rfl ?_
  refine gk_nil (gk_sub (T' := [(6,_)]) ⟨rfl, trivial⟩ ?_)
  refine gk_ret ?_
  refine gk_gives p13 0 (rv_one rfl (r1_cellA (i := 1) (vs := [_, _, _, _, _, _]) tf34 rfl rfl rfl rfl)) ?_ rfl
  rfl
set_option maxRecDepth 100000 in
set_option maxHeartbeats 1000000 in
theorem Split_c (a : Option Addr) (cap : Nat) (s : Stn) (p q : Pt) (w : World) (hl : Has w (Pts a s.shape)) (hs : Small s.shape.length) :
    Calls Tryd.prog 26 #[.agg #[.string s.name, .slice a s.shape.length cap, .int .i64 s.depth, .int .i64 s.density, .int .i64 s.grain.x, .int .i64 s.grain.z], .agg #[.int .i64 p.x, .int .i64 p.z], .agg #[.int .i64 q.x, .int .i64 q.z]] w (Gives (fun z : (Option Addr × Nat) × (Option Addr × Nat) => .tuple #[stnV (splitA s p q) z.1.1 z.1.2, stnV (splitB s p q) z.2.1 z.2.2, .int .i64 (splitE s p q)]) (fun z => SepR [Row z.1.1 2 z.1.2 32 encPt (splitA s p q).shape, Row z.2.1 2 z.2.2 32 encPt (splitB s p q).shape]) w) := by
  refine calls_of_gk (vs := [_, _, _]) Tryd.func26 rfl rfl (Nat.le_of_ble_eq_true rfl) ?_
  refine gk_seq ?_
  refine gk_region ?_
  refine gk_yx rfl rfl (yx_box (vs := [_, _, _, _, _, _]) rfl rfl) fun b3 => ?_
  refine gk_yx rfl rfl (yx_box (vs := [_, _]) rfl rfl) fun b4 => ?_
  refine gk_yx rfl rfl (yx_box (vs := [_, _]) rfl rfl) fun b5 => ?_
  refine gk_yx rfl rfl (yx_alloc tf34 (zs := [_, _, _, _, _, _]) rfl) fun b6 => ?_
  refine gk_yx rfl rfl (yx_alloc tf34 (zs := [_, _, _, _, _, _]) rfl) fun b7 => ?_
  refine gk_y rfl rfl (y_assign rfl) ?_
  refine gk_nil (gk_sub (T' := [(3,_), (4,_), (5,_), (6,_), (7,_), (8,_)]) ⟨rfl, rfl, rfl, rfl, rfl, rfl, trivial⟩ ?_)
  refine gk_seq ?_
  refine gk_seq ?_
  refine gk_region ?_
  refine gk_y rfl rfl (y_loadBA 4 tf34 rfl rfl (vs := [_, _, _, _, _, _]) rfl rfl) ?_
  refine gk_y rfl rfl (y_call en17 rfl (fun w hw => check_c _ _ s w (Rd.has (Has.rd hl) hw) (by assumption))) ?_
  refine gk_y rfl rfl (y_assign rfl) ?_
  refine gk_nil (gk_sub (T' := [(3,_), (4,_), (5,_), (6,_), (7,_), (8,_), (9,_)]) ⟨rfl, rfl, rfl, rfl, rfl, rfl, rfl, trivial⟩ ?_)
  refine gk_seq ?_
  refine gk_region ?_
  refine gk_y rfl rfl (y_move rfl) ?_
  refine gk_y rfl rfl (y_neq rfl rfl) ?_
  refine gk_nil (gk_sub (T' := [(3,_), (4,_), (5,_), (6,_), (7,_), (8,_), (9,_), (15,_)]) ⟨rfl, rfl, rfl, rfl, rfl, rfl, rfl, rfl, trivial⟩ ?_)
  refine gk_cond rfl (fun hc15 => ?_) (fun hc15 => ?_)
  · have hk : ¬ checkI s = 0 := by simpa using hc15
    have hE : splitE s p q = checkI s := by rw [splitE, if_pos hk]
    obtain ⟨hA, hB⟩ := split_bad hE hk
    refine gk_newNil 32 encPt 2 ?_
    refine gk_newNil 32 encPt 2 ?_
    refine gk_front 1 rfl ?_
    refine gk_front 1 rfl ?_
    refine gk_pack 2 ?_
    refine gk_seq ?_
    refine gk_region ?_
    refine gk_y rfl rfl (y_buildL (parts := []) rfl bd34_) ?_
    refine gk_y rfl rfl (y_buildL (parts := []) rfl bd34_) ?_
    refine gk_y rfl rfl (y_move rfl) ?_
    refine gk_storeV 2 tf34 rfl rfl (vs := [_, _, _, _, _, _]) rfl rfl rfl rfl rfl ?_
    refine gk_storeV 1 tf34 rfl rfl (vs := [_, _, _, _, _, _]) rfl rfl rfl rfl rfl ?_
    refine gk_y rfl rfl (y_assign rfl) ?_
    refine gk_nil (gk_sub (T' := [(3,_), (4,_), (5,_), (6,_), (7,_), (8,_)]) ⟨rfl, rfl, rfl, rfl, rfl, rfl, trivial⟩ ?_)
    refine gk_ret ?_
    refine gk_gives ((none, 0), (none, 0)) 0 (rv_three rfl (r1_cellA (i := 2) (vs := [_, _, _, _, _, _]) tf34 rfl rfl rfl rfl) (r1_cellA (i := 1) (vs := [_, _, _, _, _, _]) tf34 rfl rfl rfl rfl) (r1_tmp rfl)) ?_ (by rw [hA, hB]; rfl)
    rw [hA, hB, hE]; try rfl
  · have hk : checkI s = 0 := by simpa using hc15
    refine gk_skip ?_
    refine gk_seq ?_
    refine gk_block ?_
    refine gk_seq ?_
    refine gk_any 11 (fun _ => mixed) (by kernel_rfl) ?_
    refine ph_y (y_loadBA 4 tf34 rfl rfl (vs := [_, _, _, _, _, _]) rfl rfl) ?_
    refine ph_y (y_loadBA 3 tf32 rfl rfl (vs := [_, _]) rfl rfl) ?_
    refine ph_y (y_call en68 rfl (fun w hw => edge_c _ _ s p w (Rd.has (Has.rd hl) hw) (by assumption))) ?_
    refine ph_y (y_lss rfl rfl) ?_
    refine ph_y (y_move rfl) ?_
    refine ph_gF rfl rfl (fun hgd => by (try rw [hgd]); exact (y_loadBA 4 tf34 rfl rfl (vs := [_, _, _, _, _, _]) rfl rfl)) ?_
    refine ph_gF rfl rfl (fun hgd => by (try rw [hgd]); exact (y_loadBA 2 tf32 rfl rfl (vs := [_, _]) rfl rfl)) ?_
    refine ph_gF rfl rfl (fun hgd => by (try rw [hgd]); exact (y_call (v := .int .i64 (edgeI s.shape q)) en68 rfl (fun w hw => edge_c _ _ s q w (Rd.has (Has.rd hl) hw) (by assumption)))) ?_
    refine ph_gF rfl rfl (fun hgd => by (try rw [hgd]); exact (y_lss rfl rfl)) ?_
    refine ph_y (y_pickOr rfl rfl rfl) ?_
    refine ph_y (y_assign rfl) ?_
    refine gk_nil (gk_sub (T' := [(3,_), (4,_), (5,_), (6,_), (7,_), (8,_), (19,_)]) ⟨rfl, rfl, rfl, rfl, rfl, rfl, rfl, trivial⟩ ?_)
    refine gk_cond rfl (fun hc19 => ?_) (fun hc19 => ?_)
    · have hE : splitE s p q = 8 := by rw [splitE, if_neg (fun h => h hk), if_pos hc19]
      obtain ⟨hA, hB⟩ := split_bad hE (by decide)
      refine gk_newNil 32 encPt 2 ?_
      refine gk_newNil 32 encPt 2 ?_
      refine gk_front 1 rfl ?_
      refine gk_front 1 rfl ?_
      refine gk_pack 2 ?_
      refine gk_seq ?_
      refine gk_region ?_
      refine gk_y rfl rfl (y_buildL (parts := []) rfl bd34_) ?_
      refine gk_y rfl rfl (y_buildL (parts := []) rfl bd34_) ?_
      refine gk_storeV 2 tf34 rfl rfl (vs := [_, _, _, _, _, _]) rfl rfl rfl rfl rfl ?_
      refine gk_storeV 1 tf34 rfl rfl (vs := [_, _, _, _, _, _]) rfl rfl rfl rfl rfl ?_
      refine gk_y rfl rfl (y_assign rfl) ?_
      refine gk_nil (gk_sub (T' := [(3,_), (4,_), (5,_), (6,_), (7,_), (8,_)]) ⟨rfl, rfl, rfl, rfl, rfl, rfl, trivial⟩ ?_)
      refine gk_ret ?_
      refine gk_gives ((none, 0), (none, 0)) 0 (rv_three rfl (r1_cellA (i := 2) (vs := [_, _, _, _, _, _]) tf34 rfl rfl rfl rfl) (r1_cellA (i := 1) (vs := [_, _, _, _, _, _]) tf34 rfl rfl rfl rfl) (r1_tmp rfl)) ?_ (by rw [hA, hB]; rfl)
      rw [hA, hB, hE]; try rfl
    · have hed : 0 ≤ edgeI s.shape p ∧ 0 ≤ edgeI s.shape q := by simpa using hc19
      have hr1 := rightL_len hed.1 hed.2
      have hr2 := rightL_len hed.2 hed.1
      have hln := check_len hk
      have hnm := check_named hk
      refine gk_seq ?_
      refine gk_region ?_
      refine gk_y rfl rfl (y_loadBA 4 tf34 rfl rfl (vs := [_, _, _, _, _, _]) rfl rfl) ?_
      refine gk_y rfl rfl (y_loadBA 3 tf32 rfl rfl (vs := [_, _]) rfl rfl) ?_
      refine gk_y rfl rfl (y_loadBA 2 tf32 rfl rfl (vs := [_, _]) rfl rfl) ?_
      refine gk_y rfl rfl (y_call en69 rfl (fun w hw => apart_c _ _ s p q w (Rd.has (Has.rd hl) hw) (by assumption))) ?_
      refine gk_y rfl rfl (y_not rfl) ?_
      refine gk_y rfl rfl (y_assign rfl) ?_
      refine gk_nil (gk_sub (T' := [(3,_), (4,_), (5,_), (6,_), (7,_), (8,_), (32,_)]) ⟨rfl, rfl, rfl, rfl, rfl, rfl, rfl, trivial⟩ ?_)
      refine gk_cond rfl (fun hc32 => ?_) (fun hc32 => ?_)
      · have hap : apartB s.shape p q = false := by simpa using hc32
        have hE : splitE s p q = 2 := by rw [splitE, if_neg (fun h => h hk), if_neg (by rw [hc19]; exact Bool.false_ne_true), if_pos hap]
        obtain ⟨hA, hB⟩ := split_bad hE (by decide)
        refine gk_newNil 32 encPt 2 ?_
        refine gk_newNil 32 encPt 2 ?_
        refine gk_front 1 rfl ?_
        refine gk_front 1 rfl ?_
        refine gk_pack 2 ?_
        refine gk_seq ?_
        refine gk_region ?_
        refine gk_y rfl rfl (y_buildL (parts := []) rfl bd34_) ?_
        refine gk_y rfl rfl (y_buildL (parts := []) rfl bd34_) ?_
        refine gk_storeV 2 tf34 rfl rfl (vs := [_, _, _, _, _, _]) rfl rfl rfl rfl rfl ?_
        refine gk_storeV 1 tf34 rfl rfl (vs := [_, _, _, _, _, _]) rfl rfl rfl rfl rfl ?_
        refine gk_y rfl rfl (y_assign rfl) ?_
        refine gk_nil (gk_sub (T' := [(3,_), (4,_), (5,_), (6,_), (7,_), (8,_)]) ⟨rfl, rfl, rfl, rfl, rfl, rfl, trivial⟩ ?_)
        refine gk_ret ?_
        refine gk_gives ((none, 0), (none, 0)) 0 (rv_three rfl (r1_cellA (i := 2) (vs := [_, _, _, _, _, _]) tf34 rfl rfl rfl rfl) (r1_cellA (i := 1) (vs := [_, _, _, _, _, _]) tf34 rfl rfl rfl rfl) (r1_tmp rfl)) ?_ (by rw [hA, hB]; rfl)
        rw [hA, hB, hE]; try rfl
      · have hap : ¬ apartB s.shape p q = false := by simpa using hc32
        refine gk_skip ?_
        refine gk_seq ?_
        refine gk_any 8 (fun _ => mixed) (by kernel_rfl) ?_
        refine ph_y (y_loadBA 4 tf34 rfl rfl (vs := [_, _, _, _, _, _]) rfl rfl) ?_
        refine ph_y (y_loadBA 2 tf32 rfl rfl (vs := [_, _]) rfl rfl) ?_
        refine ph_y (y_loadBA 3 tf32 rfl rfl (vs := [_, _]) rfl rfl) ?_
        refine ph_yx (yx_call en70 rfl (fun w hw => right_c _ _ s q p w (Rd.has (Has.rd hl) hw) (by assumption) (by first | exact hed.1 | exact hed.2) (by first | exact hed.2 | exact hed.1))) ?_
        refine ph_y (y_loadBA 4 tf34 rfl rfl (vs := [_, _, _, _, _, _]) rfl rfl) ?_
        refine ph_y (y_loadBA 3 tf32 rfl rfl (vs := [_, _]) rfl rfl) ?_
        refine ph_y (y_loadBA 2 tf32 rfl rfl (vs := [_, _]) rfl rfl) ?_
        refine ph_yx (fun p43 => yx_call en70 rfl (fun w hw => right_c _ _ s p q w (Rd.has (Has.rd hl) hw) (by assumption) (by first | exact hed.1 | exact hed.2) (by first | exact hed.2 | exact hed.1))) ?_
        intro p47
        intro p43
        refine gk_sub (T' := [(3,_), (6,_), (7,_), (8,_), (43,_), (47,_)]) ⟨rfl, rfl, rfl, rfl, rfl, rfl, trivial⟩ ?_
        refine gk_y rfl rfl (y_assign rfl) ?_
        refine gk_y rfl rfl (y_assign rfl) ?_
        refine gk_nil (gk_sub (T' := [(3,_), (6,_), (7,_), (8,_), (10,_), (11,_)]) ⟨rfl, rfl, rfl, rfl, rfl, rfl, trivial⟩ ?_)
        refine gk_seq ?_
        refine gk_seq ?_
        refine gk_any 12 (fun _ => mixed) (by kernel_rfl) ?_
        refine ph_y (y_fieldAddr fo34_0 rfl) ?_
        refine ph_y (y_loadB1 6 tf9 rfl rfl rfl) ?_
        refine ph_y (y_lenStr (Tryd.underlying9) rfl) ?_
        refine ph_y (y_eql rfl rfl) ?_
        refine ph_y (y_move rfl) ?_
        refine ph_gF rfl rfl (fun hgd => by (try rw [hgd]); exact (y_move rfl)) ?_
        refine ph_gF rfl rfl (fun hgd => by (try rw [hgd]); exact (y_lenS (Tryd.underlying31) rfl)) ?_
        refine ph_gF rfl rfl (fun hgd => by (try rw [hgd]); exact (y_move rfl)) ?_
        refine ph_gF rfl rfl (fun hgd => by (try rw [hgd]); exact (y_lenS (Tryd.underlying31) rfl)) ?_
        refine ph_gF rfl rfl (fun hgd => by (try rw [hgd]); exact (y_max rfl rfl)) ?_
        refine ph_gF rfl rfl (fun hgd => by (try rw [hgd]); exact (y_gtr rfl rfl)) ?_
        refine ph_y (y_pickOr rfl rfl rfl) ?_
        refine gk_nil (gk_sub (T' := [(3,_), (6,_), (7,_), (8,_), (10,_), (11,_), (59,_)]) ⟨rfl, rfl, rfl, rfl, rfl, rfl, rfl, trivial⟩ ?_)
        refine gk_cond rfl (fun hc59 => ?_) (fun hc59 => ?_)
        · have hE : splitE s p q = 5 := by rw [splitE, if_neg (fun h => h hk), if_neg (by rw [hc19]; exact Bool.false_ne_true), if_neg hap, if_pos hc59]
          obtain ⟨hA, hB⟩ := split_bad hE (by decide)
          refine gk_newNil 32 encPt 2 ?_
          refine gk_newNil 32 encPt 2 ?_
          refine gk_front 1 rfl ?_
          refine gk_front 1 rfl ?_
          refine gk_pack 2 ?_
          refine gk_seq ?_
          refine gk_region ?_
          refine gk_y rfl rfl (y_buildL (parts := []) rfl bd34_) ?_
          refine gk_y rfl rfl (y_buildL (parts := []) rfl bd34_) ?_
          refine gk_storeV 4 tf34 rfl rfl (vs := [_, _, _, _, _, _]) rfl rfl rfl rfl rfl ?_
          refine gk_storeV 3 tf34 rfl rfl (vs := [_, _, _, _, _, _]) rfl rfl rfl rfl rfl ?_
          refine gk_y rfl rfl (y_assign rfl) ?_
          refine gk_nil (gk_sub (T' := [(3,_), (6,_), (7,_), (8,_), (10,_), (11,_)]) ⟨rfl, rfl, rfl, rfl, rfl, rfl, trivial⟩ ?_)
          refine gk_ret ?_
          refine gk_gives ((none, 0), (none, 0)) 0 (rv_three rfl (r1_cellA (i := 4) (vs := [_, _, _, _, _, _]) tf34 rfl rfl rfl rfl) (r1_cellA (i := 3) (vs := [_, _, _, _, _, _]) tf34 rfl rfl rfl rfl) (r1_tmp rfl)) ?_ (by rw [hA, hB]; rfl)
          rw [hA, hB, hE]; try rfl
        · have hE : splitE s p q = 0 := by rw [splitE, if_neg (fun h => h hk), if_neg (by rw [hc19]; exact Bool.false_ne_true), if_neg hap, if_neg (by rw [hc59]; exact Bool.false_ne_true)]
          obtain ⟨hA, hB⟩ := split_good hE
          refine gk_skip ?_
          refine gk_seq ?_
          refine gk_any 6 (fun _ => mixed) (by kernel_rfl) ?_
          refine ph_y (y_loadBA 6 tf34 rfl rfl (vs := [_, _, _, _, _, _]) rfl rfl) ?_
          refine ph_y (y_move rfl) ?_
          refine ph_yx (yx_call en71 rfl (fun w hw => piece_c _ _ s _ _ _ (rightL s.shape q p) w (has_row encPt_ok (hw.has (p := 0) rfl)) (by unfold Small; omega) (by omega) (row_cap (hw.has (p := 0) rfl)) (by change s.name.size + 1 ≤ _; omega))) ?_
          refine ph_y (y_loadBA 6 tf34 rfl rfl (vs := [_, _, _, _, _, _]) rfl rfl) ?_
          refine ph_y (y_move rfl) ?_
          refine ph_yx (fun p64 => yx_call en71 rfl (fun w hw => piece_c _ _ s _ _ _ (rightL s.shape p q) w (has_row encPt_ok (hw.has (p := 2) rfl)) (by unfold Small; omega) (by omega) (row_cap (hw.has (p := 2) rfl)) (by change s.name.size + 1 ≤ _; omega))) ?_
          intro p67
          intro p64
          refine gk_sub (T' := [(6,_), (7,_), (8,_), (64,_), (67,_)]) ⟨rfl, rfl, rfl, rfl, rfl, trivial⟩ ?_
          refine gk_storeV 5 tf34 rfl rfl (vs := [_, _, _, _, _, _]) rfl rfl rfl rfl rfl ?_
          refine gk_storeV 4 tf34 rfl rfl (vs := [_, _, _, _, _, _]) rfl rfl rfl rfl rfl ?_
          refine gk_y rfl rfl (y_assign rfl) ?_
          refine gk_nil (gk_sub (T' := [(6,_), (7,_), (8,_)]) ⟨rfl, rfl, rfl, trivial⟩ ?_)
          refine gk_front 1 rfl ?_
          refine gk_front 1 rfl ?_
          refine gk_pack 2 ?_
          refine gk_ret ?_
          refine gk_gives (p64, p67) 0 (rv_three rfl (r1_cellA (i := 4) (vs := [_, _, _, _, _, _]) tf34 rfl rfl rfl rfl) (r1_cellA (i := 3) (vs := [_, _, _, _, _, _]) tf34 rfl rfl rfl rfl) (r1_tmp rfl)) ?_ (by rw [hA, hB]; rfl)
          rw [hA, hB, hE]; try rfl
end Go.Proofs.YtahahmelnaphjaaDoor

namespace Go.Stn
open Go Go.K Go.RowKit
def outB (s : Stn) (p : Pt) (t : Int) (q : Pt) : Bool := apartB s.shape p q && decide (W (100 * max (crossW (subW q p) s.grain) (W (-(crossW (subW q p) s.grain)))) ≤ W (t * max (dotW (subW q p) s.grain) (W (-(dotW (subW q p) s.grain)))))
abbrev rotB (l : List Pt) (i : Int) : List Pt := l.drop (i + 1).toNat ++ l.take i.toNat
def outcomesL (s : Stn) (p : Pt) (t : Int) : List Pt := (rotB (borderL s.shape) (findI (eqB p) (borderL s.shape))).filter (outB s p t)
abbrev outVs (s : Stn) (p : Pt) (t : Int) : List (List Value) := (outcomesL s p t).map onePt
theorem findI_lt {α : Type} (p : α → Bool) {l : List α} (h : 0 ≤ findI p l) : findI p l < (l.length : Int) := by
  unfold findI at *
  split at h
  · rename_i h1
    rw [if_pos h1]
    have : l.findIdx p < l.length := List.findIdx_lt_length_of_exists (by simpa using h1)
    omega
  · omega
theorem rotB_len {l : List Pt} {i : Int} (h0 : 0 ≤ i) (h1 : i < (l.length : Int)) : (rotB l i).length + 1 = l.length := by
  unfold rotB
  simp
  omega
theorem filt_succ {l : List Pt} {f : Pt → Bool} {i : Int} (h0 : 0 ≤ i) (h1 : i < (l.length : Int)) : ((l.take (i + 1).toNat).filter f).length = ((l.take i.toNat).filter f).length + if f (l.getD i.toNat default) = true then 1 else 0 := by
  rw [take_succ h0 h1, List.filter_append, List.length_append]
  congr 1
  rw [List.filter_cons]
  split <;> rfl
theorem filt_get {l : List Pt} {f : Pt → Bool} {i : Int} (h0 : 0 ≤ i) (h1 : i < (l.length : Int)) (hf : f (l.getD i.toNat default) = true) : ((l.filter f).map onePt)[((l.take i.toNat).filter f).length]? = some [ptV (l.getD i.toNat default)] := by
  have hlt : i.toNat < l.length := by omega
  have hl : l.filter f = (l.take i.toNat).filter f ++ (l.getD i.toNat default :: (l.drop (i.toNat + 1)).filter f) := by
    conv => lhs; rw [← List.take_append_drop i.toNat l, List.drop_eq_getElem_cons hlt, List.filter_append]
    rw [List.filter_cons, if_pos (by simpa [hlt] using hf)]
    simp [hlt]
  rw [List.getElem?_map, hl, List.getElem?_append_right (Nat.le_refl _), Nat.sub_self]
  rfl
def struckE (s : Stn) (p : Pt) (t : Int) : Int := if checkI s ≠ 0 then checkI s else if edgeI s.shape p < 0 then 8 else if (decide (0 ≤ t) && decide (t ≤ 100)) = false then 3 else 0
def outL (s : Stn) (p : Pt) (t : Int) : List Pt := if struckE s p t = 0 then outcomesL s p t else []
def flipW (p : Pt) (way : Int) : Pt := if 3 < way then ⟨W (-p.x), p.z⟩ else p
def quartW (p : Pt) (k : Int) : Pt := if k = 0 then p else if k = 1 then ⟨W (-p.z), p.x⟩ else if k = 2 then ⟨W (-p.x), W (-p.z)⟩ else ⟨p.z, W (-p.x)⟩
def moveW (way : Int) (p : Pt) : Pt := quartW (flipW p way) (way.tmod 4)
def turnedL (s : Stn) (way : Int) : List Pt := if 3 < way then (s.shape.map (moveW way)).reverse else s.shape.map (moveW way)
def turnedE (s : Stn) (way : Int) : Int := if checkI s ≠ 0 then checkI s else if (decide (0 ≤ way) && decide (way ≤ 7)) = false then 3 else 0
def turnedS (s : Stn) (way : Int) : Stn := if turnedE s way = 0 then ⟨s.name, settledW (turnedL s way), s.depth, s.density, moveW way s.grain⟩ else zeroS
theorem turned_bad {s : Stn} {way e : Int} (hE : turnedE s way = e) (he : e ≠ 0) : turnedS s way = zeroS := by
  unfold turnedS
  rw [hE, if_neg he]
theorem turned_good {s : Stn} {way : Int} (hE : turnedE s way = 0) : turnedS s way = ⟨s.name, settledW (turnedL s way), s.depth, s.density, moveW way s.grain⟩ := by
  unfold turnedS
  rw [hE, if_pos rfl]
theorem map_take_succ {l : List Pt} {g : Pt → Pt} {i : Int} (h0 : 0 ≤ i) (h1 : i < (l.length : Int)) : (l.take (i + 1).toNat).map g = (l.take i.toNat).map g ++ [g (l.getD i.toNat default)] := by
  rw [take_succ h0 h1, List.map_append]; rfl
end Go.Stn

namespace Go.Proofs.YtahahmelnaphjaaDoor
open Go.K Go.Stn Go.RowKit
theorem en84 : En Tryd.prog 84 := en_of Tryd.func84 (by kernel_rfl) (by kernel_rfl)
theorem en85 : En Tryd.prog 85 := en_of Tryd.func85 (by kernel_rfl) (by kernel_rfl)
theorem en125 : En Tryd.prog 125 := en_of Tryd.func125 (by kernel_rfl) (by kernel_rfl)
set_option maxRecDepth 100000 in
set_option maxHeartbeats 1000000 in
theorem outcomes1_c (a : Option Addr) (cap : Nat) (s : Stn) (p : Pt) (t : Int) (b1 b2 b3 : Nat) (hv : checkI s = 0) (hi : 0 ≤ findI (eqB p) (borderL s.shape)) :
    SeqC Tryd.prog 125 [.pointer (some ⟨b1, 0, none⟩), .pointer (some ⟨b2, 0, none⟩), .pointer (some ⟨b3, 0, none⟩)] (outVs s p t) (fun w => Has w (Box b1 [.string s.name, .slice a s.shape.length cap, .int .i64 s.depth, .int .i64 s.density, .int .i64 s.grain.x, .int .i64 s.grain.z] 34) ∧ Has w (Box b2 [.int .i64 p.x, .int .i64 p.z] 32) ∧ Has w (Box b3 [.int .i64 t] 3) ∧ Has w (Pts a s.shape)) := by
  intro X J Rl D y w B x0 hB hA h0 hM hy
  have hnear := check_near hv
  have hlen := check_len hv
  have hbl := border_len hnear
  have hi2 := findI_lt _ hi
  have hrl : ((borderL s.shape).drop ((findI (eqB p) (borderL s.shape)) + 1).toNat ++ (borderL s.shape).take (findI (eqB p) (borderL s.shape)).toNat).length + 1 = (borderL s.shape).length := rotB_len hi hi2
  have hs : Small s.shape.length := by unfold Small; omega
  refine calls_of_gkB hB hA (vs := [_, _, _, _]) Tryd.func125 rfl rfl (Nat.le_of_ble_eq_true rfl) ?_
  have hmem : ∀ {cz : Cx} {Hz : List Res} {xz : X} {pz : Nat} {w' : World}, Inside (fun k => k < w.heap.size ∧ ¬ B k) w cz → Hz[pz]? = some (J xz) → Hp cz.U cz.w0 Hz w' → (Has w' (Box b1 [.string s.name, .slice a s.shape.length cap, .int .i64 s.depth, .int .i64 s.density, .int .i64 s.grain.x, .int .i64 s.grain.z] 34) ∧ Has w' (Box b2 [.int .i64 p.x, .int .i64 p.z] 32) ∧ Has w' (Box b3 [.int .i64 t] 3) ∧ Has w' (Pts a s.shape)) := fun hin hp hw => by
    obtain ⟨B', q1, q2, q3, q4⟩ := own_of_in hin hp hw
    exact hM _ _ B' q4 q1 q2 q3
  have ins0 := insideB Tryd.prog Tryd.f125.ntmps w B
  refine gk_seq ?_
  refine gk_region ?_
  refine gk_y rfl rfl (y_loadA tf34 rfl rfl (fun _ hw => has_box_cells (o := 0) (k := 6) (hmem ins0 (pz := 0) rfl hw).1 (vs := [_, _, _, _, _, _]) rfl)) ?_
  refine gk_yx rfl rfl (yx_call en66 rfl (fun w hw => border_c _ _ s w)) fun p13 => ?_
  refine gk_yx rfl rfl (yx_call en65 rfl (fun w hw => collect_c (borderL s.shape) _ [_] w (by unfold Small; omega) (fun w' => Has w' (Box p13 [.string s.name, .slice a s.shape.length cap, .int .i64 s.depth, .int .i64 s.density, .int .i64 s.grain.x, .int .i64 s.grain.z] 34) ∧ Has w' (Pts a s.shape)) (fun w' hx => ⟨Has.ext (hw.has (p := 0) rfl) hx, Has.ext (hmem ins0 (pz := 1) rfl hw).2.2.2 hx⟩) en122 (border1_c _ _ s p13 (by unfold Small; omega) hnear))) fun p14 => ?_
  refine gk_y rfl rfl (y_assign rfl) ?_
  refine gk_nil (gk_sub (T' := [(0,_), (1,_), (2,_), (3,_), (5,_)]) ⟨rfl, rfl, rfl, rfl, rfl, trivial⟩ ?_)
  refine gk_seq ?_
  refine gk_region ?_
  refine gk_y rfl rfl (y_move rfl) ?_
  refine gk_y rfl rfl (y_loadA tf32 rfl rfl (fun _ hw => has_box_cells (o := 0) (k := 2) (hmem ins0 (pz := 2) rfl hw).2.1 (vs := [_, _]) rfl)) ?_
  refine gk_y rfl rfl (y_call en119 rfl (fun w hw => index_c _ _ (borderL s.shape) p w (has_row encPt_ok (hw.has (p := 0) rfl)) (by unfold Small; omega))) ?_
  refine gk_y rfl rfl (y_assign rfl) ?_
  refine gk_nil (gk_sub (T' := [(0,_), (1,_), (2,_), (3,_), (5,_), (6,_)]) ⟨rfl, rfl, rfl, rfl, rfl, rfl, trivial⟩ ?_)
  refine gk_with (fun w hw => row_cap (hw.has (p := 0) rfl)) fun hcap => ?_
  refine gk_seq ?_
  refine gk_any 11 (fun _ => mixed) (by kernel_rfl) ?_
  refine ph_y (y_move rfl) ?_
  refine ph_y (y_move rfl) ?_
  refine ph_y (y_addI rfl rfl (by omega) (by omega)) ?_
  refine ph_y (y_sliceLoL se31 rfl rfl (by omega) (by omega)) ?_
  refine ph_y (y_move rfl) ?_
  refine ph_y (y_move rfl) ?_
  refine ph_y (y_sliceHiL se31 rfl rfl (by omega) (by omega) hcap) ?_
  refine ph_yx (yx_buildSlice rfl (bs156_2 _ _ _ _ _ _) encSli_ok rfl) ?_
  refine ph_yx (fun b25 => yx_call en120 rfl (fun w hw => concat2_c _ _ ⟨_, _, _⟩ ⟨_, _, _⟩ w (has_row encSli_ok (hw.has (p := 0) rfl)) (elems_drop (has_row encPt_ok (hw.has (p := 1) rfl)) hcap (by omega)) (elems_take (has_row encPt_ok (hw.has (p := 1) rfl)) (by omega) (by omega)) (by simp only [List.length_drop, List.length_take]; unfold Small; omega))) ?_
  refine ph_y (fun p26 => y_lenS (Tryd.underlying31) rfl) ?_
  refine ph_y (y_move rfl) ?_
  intro p26
  intro b25
  refine gk_nil (gk_sub (T' := [(0,_), (1,_), (2,_), (3,_), (26,_), (27,_), (28,_)]) ⟨rfl, rfl, rfl, rfl, rfl, rfl, rfl, trivial⟩ ?_)
  refine gk_block ?_
  refine gk_loop (X := Int × X) (fun ⟨i, x2⟩ => [(0, .func (.yield y) #[] #[]), (1, .pointer (some ⟨b1, 0, none⟩)), (2, .pointer (some ⟨b2, 0, none⟩)), (3, .pointer (some ⟨b3, 0, none⟩)), (26, .slice p26.1 ((borderL s.shape).drop ((findI (eqB p) (borderL s.shape)) + 1).toNat ++ (borderL s.shape).take (findI (eqB p) (borderL s.shape)).toNat).length p26.2), (27, .int .i64 (((borderL s.shape).drop ((findI (eqB p) (borderL s.shape)) + 1).toNat ++ (borderL s.shape).take (findI (eqB p) (borderL s.shape)).toNat).length : Int)), (28, .int .i64 i)]) (fun ⟨i, x2⟩ => [Row (some ⟨b25, 0, none⟩) 1 2 31 encSli [⟨(subA p14.1 2 ((findI (eqB p) (borderL s.shape)) + 1).toNat p14.2), (p14.2 - ((findI (eqB p) (borderL s.shape)) + 1).toNat), ((borderL s.shape).drop ((findI (eqB p) (borderL s.shape)) + 1).toNat)⟩, ⟨(subA p14.1 2 0 p14.2), p14.2, ((borderL s.shape).take (findI (eqB p) (borderL s.shape)).toNat)⟩], Row p26.1 2 p26.2 32 encPt ((borderL s.shape).drop ((findI (eqB p) (borderL s.shape)) + 1).toNat ++ (borderL s.shape).take (findI (eqB p) (borderL s.shape)).toNat), Row p14.1 2 p14.2 32 encPt (borderL s.shape), Box p13 [.string s.name, .slice a s.shape.length cap, .int .i64 s.depth, .int .i64 s.density, .int .i64 s.grain.x, .int .i64 s.grain.z] 34, J x2]) (fun ⟨i, x2⟩ => (0 ≤ i ∧ i ≤ (((borderL s.shape).drop ((findI (eqB p) (borderL s.shape)) + 1).toNat ++ (borderL s.shape).take (findI (eqB p) (borderL s.shape)).toNat).length : Int) ∧ Rl ((((borderL s.shape).drop ((findI (eqB p) (borderL s.shape)) + 1).toNat ++ (borderL s.shape).take (findI (eqB p) (borderL s.shape)).toNat).take i.toNat).filter (outB s p t)).length x2)) (fun ⟨i, x2⟩ => ((((borderL s.shape).drop ((findI (eqB p) (borderL s.shape)) + 1).toNat ++ (borderL s.shape).take (findI (eqB p) (borderL s.shape)).toNat).length : Int) - i).toNat) (0, x0) ⟨rfl, rfl, rfl, rfl, rfl, rfl, rfl, trivial⟩ rfl ?_ ?_
  · exact ⟨by omega, by omega, h0⟩
  · rintro ⟨i, x2⟩ hI
    obtain ⟨g0, g1, g2⟩ := hI
    refine gk_seq ?_
    refine gk_region ?_
    refine gk_y rfl rfl (y_lss rfl rfl) ?_
    refine gk_nil (gk_sub (T' := [(0,_), (1,_), (2,_), (3,_), (26,_), (27,_), (28,_), (29,_)]) ⟨rfl, rfl, rfl, rfl, rfl, rfl, rfl, rfl, trivial⟩ ?_)
    refine gk_seq ?_
    refine gk_cond rfl (fun hc29 => ?_) (fun hc29 => ?_)
    · simp only [decide_eq_true_eq] at hc29
      refine gk_skip ?_
      refine gk_seq ?_
      refine gk_block ?_
      refine gk_seq ?_
      refine gk_region ?_
      refine gk_y rfl rfl (y_indexE se31 rfl rfl (fun _ hw => (has_row encPt_ok (hw.has (p := 1) rfl))) (by omega) (by omega)) ?_
      refine gk_y rfl rfl (y_loadE (vs := [_, _]) tf32 rfl (fun _ hw => (has_row encPt_ok (hw.has (p := 1) rfl))) (by omega) (by omega) rfl) ?_
      refine gk_yx rfl rfl (yx_alloc tf32 (zs := [_, _]) rfl) fun b8 => ?_
      refine gk_storeV 0 tf32 rfl rfl (vs := [_, _]) rfl rfl rfl rfl rfl ?_
      refine gk_nil (gk_sub (T' := [(0,_), (1,_), (2,_), (3,_), (8,_), (26,_), (27,_), (28,_)]) ⟨rfl, rfl, rfl, rfl, rfl, rfl, rfl, rfl, trivial⟩ ?_)
      refine gk_seq ?_
      refine gk_region ?_
      refine gk_y rfl rfl (y_loadBA 0 tf32 rfl rfl (vs := [_, _]) rfl rfl) ?_
      refine gk_y rfl rfl (y_loadA tf32 rfl rfl (fun _ hw => has_box_cells (o := 0) (k := 2) (hmem ins0 (pz := 5) rfl hw).2.1 (vs := [_, _]) rfl)) ?_
      refine gk_y rfl rfl (y_call en89 rfl (fun w hw => sub_c ⟨_, _⟩ ⟨_, _⟩ w)) ?_
      refine gk_yx rfl rfl (yx_alloc tf32 (zs := [_, _]) rfl) fun b9 => ?_
      refine gk_storeV 0 tf32 rfl rfl (vs := [_, _]) rfl rfl rfl rfl rfl ?_
      refine gk_nil (gk_sub (T' := [(0,_), (1,_), (2,_), (3,_), (8,_), (9,_), (26,_), (27,_), (28,_)]) ⟨rfl, rfl, rfl, rfl, rfl, rfl, rfl, rfl, rfl, trivial⟩ ?_)
      refine gk_seq ?_
      refine gk_any 10 (fun _ => mixed) (by kernel_rfl) ?_
      refine ph_y (y_loadBA 0 tf32 rfl rfl (vs := [_, _]) rfl rfl) ?_
      refine ph_y (y_fieldAddr fo34_4 rfl) ?_
      refine ph_y (y_loadA tf32 rfl rfl (fun _ hw => has_box_cells (o := 4) (k := 2) (hmem ins0 (pz := 6) rfl hw).1 (vs := [_, _]) rfl)) ?_
      refine ph_y (y_call en83 rfl (fun w hw => cross_c ⟨_, _⟩ ⟨_, _⟩ w)) ?_
      refine ph_y (y_loadBA 0 tf32 rfl rfl (vs := [_, _]) rfl rfl) ?_
      refine ph_y (y_fieldAddr fo34_4 rfl) ?_
      refine ph_y (y_loadA tf32 rfl rfl (fun _ hw => has_box_cells (o := 4) (k := 2) (hmem ins0 (pz := 6) rfl hw).1 (vs := [_, _]) rfl)) ?_
      refine ph_y (y_call en123 rfl (fun w hw => dot_c ⟨_, _⟩ ⟨_, _⟩ w)) ?_
      refine ph_y (y_assign rfl) ?_
      refine ph_y (y_assign rfl) ?_
      refine gk_nil (gk_sub (T' := [(0,_), (1,_), (2,_), (3,_), (8,_), (10,_), (11,_), (26,_), (27,_), (28,_)]) ⟨rfl, rfl, rfl, rfl, rfl, rfl, rfl, rfl, rfl, rfl, trivial⟩ ?_)
      refine gk_seq ?_
      refine gk_any 21 (fun _ => mixed) (by kernel_rfl) ?_
      refine ph_y (y_loadA tf34 rfl rfl (fun _ hw => has_box_cells (o := 0) (k := 6) (hmem ins0 (pz := 6) rfl hw).1 (vs := [_, _, _, _, _, _]) rfl)) ?_
      refine ph_y (y_loadA tf32 rfl rfl (fun _ hw => has_box_cells (o := 0) (k := 2) (hmem ins0 (pz := 6) rfl hw).2.1 (vs := [_, _]) rfl)) ?_
      refine ph_y (y_loadBA 1 tf32 rfl rfl (vs := [_, _]) rfl rfl) ?_
      refine ph_y (y_call en69 rfl (fun w hw => apart_c _ _ s p (((borderL s.shape).drop ((findI (eqB p) (borderL s.shape)) + 1).toNat ++ (borderL s.shape).take (findI (eqB p) (borderL s.shape)).toNat).getD (i).toNat default) w (hmem ins0 (pz := 6) rfl hw).2.2.2 (by assumption))) ?_
      refine ph_y (y_move rfl) ?_
      refine ph_gT rfl rfl (fun hgd => by (try rw [hgd]); exact (y_move rfl)) ?_
      refine ph_gT rfl rfl (fun hgd => by (try rw [hgd]); exact (y_move rfl)) ?_
      refine ph_gT rfl rfl (fun hgd => by (try rw [hgd]); exact (y_neg rfl)) ?_
      refine ph_gT rfl rfl (fun hgd => by (try rw [hgd]); exact (y_max rfl rfl)) ?_
      refine ph_gT rfl rfl (fun hgd => by (try rw [hgd]); exact (y_mul rfl rfl)) ?_
      refine ph_gT rfl rfl (fun hgd => by (try rw [hgd]); exact (y_load1 tf3 rfl (fun _ hw => has_box_cell (hmem ins0 (pz := 6) rfl hw).2.2.1 rfl))) ?_
      refine ph_gT rfl rfl (fun hgd => by (try rw [hgd]); exact (y_move rfl)) ?_
      refine ph_gT rfl rfl (fun hgd => by (try rw [hgd]); exact (y_move rfl)) ?_
      refine ph_gT rfl rfl (fun hgd => by (try rw [hgd]); exact (y_neg rfl)) ?_
      refine ph_gT rfl rfl (fun hgd => by (try rw [hgd]); exact (y_max rfl rfl)) ?_
      refine ph_gT rfl rfl (fun hgd => by (try rw [hgd]); exact (y_mul rfl rfl)) ?_
      refine ph_gT rfl rfl (fun hgd => by (try rw [hgd]); exact (y_leq rfl rfl)) ?_
      refine ph_y (y_pickAnd rfl rfl rfl) ?_
      refine ph_y (y_move rfl) ?_
      refine ph_gT rfl rfl (fun hgd => by (try rw [hgd]); exact (y_move rfl)) ?_
      refine ph_gT rfl rfl (fun hgd => by (try rw [hgd]); exact (y_loadBA 1 tf32 rfl rfl (vs := [_, _]) rfl rfl)) ?_
      refine gk_sub (T' := [(0,_), (1,_), (2,_), (3,_), (26,_), (27,_), (28,_), (61,_), (62,_), (63,_)]) ⟨rfl, rfl, rfl, rfl, rfl, rfl, rfl, rfl, rfl, rfl, trivial⟩ ?_
      refine gk_guard rfl rfl rfl rfl (fun hg61 => ?_) (fun hg61 => ?_)
      · replace hg61 : _ = true := hg61
        try rw [hg61]
        refine gk_yield 6 ins0 rfl rfl rfl rfl (hy _ _ _ (filt_get g0 (by omega) (show outB s p t _ = true from hg61)) g2) fun b64 x64 hp64 => ?_
        refine gk_guard rfl rfl rfl rfl (fun _ => ?_) (fun h => absurd h (by decide))
        refine gk_y rfl rfl (y_not rfl) ?_
        refine gk_y rfl rfl (y_pick rfl rfl rfl) ?_
        refine gk_nil (gk_sub (T' := [(0,_), (1,_), (2,_), (3,_), (26,_), (27,_), (28,_), (66,_)]) ⟨rfl, rfl, rfl, rfl, rfl, rfl, rfl, rfl, trivial⟩ ?_)
        refine gk_cond rfl (fun hc66 => ?_) (fun hc66 => ?_)
        · skip
          refine gk_ret ?_
          refine gk_turns x64 6 (rv_none rfl) rfl rfl (.inr (by have := hp64; rwa [show b64 = false from by simpa using hc66, if_neg Bool.false_ne_true] at this))
        · skip
          refine gk_skip ?_
          refine gk_region ?_
          refine gk_y rfl rfl (y_addI rfl rfl (by omega) (by omega)) ?_
          refine gk_y rfl rfl (y_move rfl) ?_
          refine gk_nil (gk_sub (T' := [(0,_), (1,_), (2,_), (3,_), (26,_), (27,_), (28,_)]) ⟨rfl, rfl, rfl, rfl, rfl, rfl, rfl, trivial⟩ ?_)
          refine gk_dropAt 0 rfl ?_
          refine gk_dropAt 0 rfl ?_
          exact gk_next (i + 1, _) ⟨rfl, rfl, rfl, rfl, rfl, rfl, rfl, trivial⟩ rfl (by refine ⟨by omega, by omega, ?_⟩; rw [filt_succ g0 (by omega)]; first | (rw [if_pos (show outB s p t _ = true from hg61)]; have := hp64; rwa [show b64 = true from by simpa using hc66, if_pos rfl] at this) | (rw [if_neg (by rw [show outB s p t _ = false from hg61]; exact Bool.false_ne_true)]; exact g2)) (by simp only []; omega)
      · replace hg61 : _ = false := hg61
        try rw [hg61]
        refine gk_guard rfl rfl rfl rfl (fun h => absurd h (by decide)) (fun _ => ?_)
        refine gk_y rfl rfl (y_pick rfl rfl rfl) ?_
        refine gk_nil (gk_sub (T' := [(0,_), (1,_), (2,_), (3,_), (26,_), (27,_), (28,_), (66,_)]) ⟨rfl, rfl, rfl, rfl, rfl, rfl, rfl, rfl, trivial⟩ ?_)
        refine gk_condF rfl ?_
        refine gk_skip ?_
        refine gk_region ?_
        refine gk_y rfl rfl (y_addI rfl rfl (by omega) (by omega)) ?_
        refine gk_y rfl rfl (y_move rfl) ?_
        refine gk_nil (gk_sub (T' := [(0,_), (1,_), (2,_), (3,_), (26,_), (27,_), (28,_)]) ⟨rfl, rfl, rfl, rfl, rfl, rfl, rfl, trivial⟩ ?_)
        refine gk_dropAt 0 rfl ?_
        refine gk_dropAt 0 rfl ?_
        exact gk_next (i + 1, _) ⟨rfl, rfl, rfl, rfl, rfl, rfl, rfl, trivial⟩ rfl (by refine ⟨by omega, by omega, ?_⟩; rw [filt_succ g0 (by omega)]; first | (rw [if_pos (show outB s p t _ = true from hg61)]; have := hp64; rwa [show b64 = true from by simpa using hc66, if_pos rfl] at this) | (rw [if_neg (by rw [show outB s p t _ = false from hg61]; exact Bool.false_ne_true)]; exact g2)) (by simp only []; omega)
    · simp only [decide_eq_false_iff_not] at hc29
      refine gk_exit rfl ?_
      refine gk_turns x2 4 (rv_none rfl) rfl rfl (.inl (by rw [take_all (by omega)] at g2; rw [show (outVs s p t).length = (outcomesL s p t).length from List.length_map ..]; exact g2))
set_option maxRecDepth 100000 in
set_option maxHeartbeats 1000000 in
theorem outcomes_c (a : Option Addr) (cap : Nat) (s : Stn) (p : Pt) (t : Int) (w : World)  :
    Calls Tryd.prog 85 #[.agg #[.string s.name, .slice a s.shape.length cap, .int .i64 s.depth, .int .i64 s.density, .int .i64 s.grain.x, .int .i64 s.grain.z], .agg #[.int .i64 p.x, .int .i64 p.z], .int .i64 t] w (Gives (fun z : Nat × Nat × Nat => .func (.func 125) #[] #[.pointer (some ⟨z.1, 0, none⟩), .pointer (some ⟨z.2.1, 0, none⟩), .pointer (some ⟨z.2.2, 0, none⟩)]) (fun z => SepR [Box z.1 [.string s.name, .slice a s.shape.length cap, .int .i64 s.depth, .int .i64 s.density, .int .i64 s.grain.x, .int .i64 s.grain.z] 34, Box z.2.1 [.int .i64 p.x, .int .i64 p.z] 32, Box z.2.2 [.int .i64 t] 3]) w) := by
  refine calls_of_gk (vs := [_, _, _]) Tryd.func85 rfl rfl (Nat.le_of_ble_eq_true rfl) ?_
  refine gk_seq ?_
  refine gk_region ?_
  refine gk_yx rfl rfl (yx_box (vs := [_, _, _, _, _, _]) rfl rfl) fun b3 => ?_
  refine gk_yx rfl rfl (yx_box (vs := [_, _]) rfl rfl) fun b4 => ?_
  refine gk_yx rfl rfl (yx_box (vs := [_]) rfl rfl) fun b5 => ?_
  refine gk_y rfl rfl (y_assign rfl) ?_
  refine gk_nil (gk_sub (T' := [(3,_), (4,_), (5,_), (6,_)]) ⟨rfl, rfl, rfl, rfl, trivial⟩ ?_)
  refine gk_seq ?_
  refine gk_region ?_
  refine gk_y rfl rfl (y_makeFunc («as» := []) (bs := [_, _, _]) rfl rfl) ?_
  refine gk_y rfl rfl (y_assign rfl) ?_
  refine gk_nil (gk_sub (T' := [(6,_)]) ⟨rfl, trivial⟩ ?_)
  refine gk_front 1 rfl ?_
  refine gk_front 2 rfl ?_
  refine gk_pack 3 ?_
  refine gk_ret ?_
  refine gk_gives (b3, b4, b5) 0 (rv_one rfl (r1_tmp rfl)) ?_ rfl
  rfl
set_option maxRecDepth 100000 in
set_option maxHeartbeats 1000000 in
theorem struck_c (a : Option Addr) (cap : Nat) (s : Stn) (p : Pt) (t : Int) (w : World) (hl : Has w (Pts a s.shape)) (hs : Small s.shape.length) :
    Calls Tryd.prog 84 #[.agg #[.string s.name, .slice a s.shape.length cap, .int .i64 s.depth, .int .i64 s.density, .int .i64 s.grain.x, .int .i64 s.grain.z], .agg #[.int .i64 p.x, .int .i64 p.z], .int .i64 t] w (Pure (.int .i64 (struckE s p t)) w) := by
  refine calls_of_gk (vs := [_, _, _]) Tryd.func84 rfl rfl (Nat.le_of_ble_eq_true rfl) ?_
  refine gk_seq ?_
  refine gk_region ?_
  refine gk_yx rfl rfl (yx_box (vs := [_, _, _, _, _, _]) rfl rfl) fun b3 => ?_
  refine gk_yx rfl rfl (yx_box (vs := [_, _]) rfl rfl) fun b4 => ?_
  refine gk_y rfl rfl (y_assign rfl) ?_
  refine gk_nil (gk_sub (T' := [(2,_), (3,_), (4,_), (6,_)]) ⟨rfl, rfl, rfl, rfl, trivial⟩ ?_)
  refine gk_seq ?_
  refine gk_seq ?_
  refine gk_region ?_
  refine gk_y rfl rfl (y_loadBA 1 tf34 rfl rfl (vs := [_, _, _, _, _, _]) rfl rfl) ?_
  refine gk_y rfl rfl (y_call en17 rfl (fun w hw => check_c _ _ s w (Rd.has (Has.rd hl) hw) (by assumption))) ?_
  refine gk_y rfl rfl (y_assign rfl) ?_
  refine gk_nil (gk_sub (T' := [(2,_), (3,_), (4,_), (6,_), (7,_)]) ⟨rfl, rfl, rfl, rfl, rfl, trivial⟩ ?_)
  refine gk_seq ?_
  refine gk_region ?_
  refine gk_y rfl rfl (y_move rfl) ?_
  refine gk_y rfl rfl (y_neq rfl rfl) ?_
  refine gk_nil (gk_sub (T' := [(2,_), (3,_), (4,_), (6,_), (7,_), (11,_)]) ⟨rfl, rfl, rfl, rfl, rfl, rfl, trivial⟩ ?_)
  refine gk_cond rfl (fun hc11 => ?_) (fun hc11 => ?_)
  · have hk : ¬ checkI s = 0 := by simpa using hc11
    refine gk_seq ?_
    refine gk_region ?_
    refine gk_y rfl rfl (y_move rfl) ?_
    refine gk_y rfl rfl (y_assign rfl) ?_
    refine gk_nil (gk_sub (T' := [(2,_), (3,_), (4,_), (6,_)]) ⟨rfl, rfl, rfl, rfl, trivial⟩ ?_)
    refine gk_ret ?_
    refine gk_pure (rv_one rfl (r1_tmp rfl)) ?_
    rw [struckE, if_pos hk]
  · have hk : checkI s = 0 := by simpa using hc11
    refine gk_skip ?_
    refine gk_seq ?_
    refine gk_block ?_
    refine gk_seq ?_
    refine gk_region ?_
    refine gk_y rfl rfl (y_loadBA 1 tf34 rfl rfl (vs := [_, _, _, _, _, _]) rfl rfl) ?_
    refine gk_y rfl rfl (y_loadBA 0 tf32 rfl rfl (vs := [_, _]) rfl rfl) ?_
    refine gk_y rfl rfl (y_call en68 rfl (fun w hw => edge_c _ _ s p w (Rd.has (Has.rd hl) hw) (by assumption))) ?_
    refine gk_y rfl rfl (y_lss rfl rfl) ?_
    refine gk_y rfl rfl (y_assign rfl) ?_
    refine gk_nil (gk_sub (T' := [(2,_), (6,_), (13,_)]) ⟨rfl, rfl, rfl, trivial⟩ ?_)
    refine gk_cond rfl (fun hc13 => ?_) (fun hc13 => ?_)
    · have hc13 := of_decide_eq_true hc13
      refine gk_seq ?_
      refine gk_region ?_
      refine gk_y rfl rfl (y_assign rfl) ?_
      refine gk_nil (gk_sub (T' := [(6,_)]) ⟨rfl, trivial⟩ ?_)
      refine gk_ret ?_
      refine gk_pure (rv_one rfl (r1_tmp rfl)) ?_
      rw [struckE, if_neg (fun h => h hk), if_pos hc13]
    · have hc13 := of_decide_eq_false hc13
      refine gk_seq ?_
      refine gk_region ?_
      refine gk_y rfl rfl (y_move rfl) ?_
      refine gk_y rfl rfl (y_call en55 rfl (fun w hw => within_c _ _ _ w)) ?_
      refine gk_y rfl rfl (y_not rfl) ?_
      refine gk_y rfl rfl (y_assign rfl) ?_
      refine gk_nil (gk_sub (T' := [(6,_), (18,_)]) ⟨rfl, rfl, trivial⟩ ?_)
      refine gk_cond rfl (fun hc18 => ?_) (fun hc18 => ?_)
      · skip
        refine gk_seq ?_
        refine gk_region ?_
        refine gk_y rfl rfl (y_assign rfl) ?_
        refine gk_nil (gk_sub (T' := [(6,_)]) ⟨rfl, trivial⟩ ?_)
        refine gk_ret ?_
        refine gk_pure (rv_one rfl (r1_tmp rfl)) ?_
        rw [struckE, if_neg (fun h => h hk), if_neg hc13, if_pos (by simpa only [Bool.not_eq_true'] using hc18)]
      · skip
        refine gk_skip ?_
        refine gk_seq ?_
        refine gk_region ?_
        refine gk_y rfl rfl (y_assign rfl) ?_
        refine gk_nil (gk_sub (T' := [(6,_)]) ⟨rfl, trivial⟩ ?_)
        refine gk_ret ?_
        refine gk_pure (rv_one rfl (r1_tmp rfl)) ?_
        rw [struckE, if_neg (fun h => h hk), if_neg hc13, if_neg (by rw [show (decide (0 ≤ t) && decide (t ≤ 100)) = true from by simpa only [Bool.not_eq_false'] using hc18]; exact fun h => Bool.false_ne_true h.symm)]
theorem outcomes_len {s : Stn} {p : Pt} {t : Int} (hv : checkI s = 0) (hi : 0 ≤ findI (eqB p) (borderL s.shape)) : (outcomesL s p t).length ≤ 24000 := by
  have hnear := check_near hv
  have hlen := check_len hv
  have hbl := border_len hnear
  have h1 := rotB_len hi (findI_lt _ hi)
  have h2 := List.length_filter_le (outB s p t) (rotB (borderL s.shape) (findI (eqB p) (borderL s.shape)))
  unfold outcomesL
  omega
theorem struck_ok {s : Stn} {p : Pt} {t : Int} (h : struckE s p t = 0) : checkI s = 0 := by
  unfold struckE at h
  by_cases hk : checkI s = 0
  · exact hk
  · rw [if_pos hk] at h; exact absurd h hk
set_option maxRecDepth 100000 in
set_option maxHeartbeats 1000000 in
theorem Outcomes_c (a : Option Addr) (cap : Nat) (s : Stn) (p : Pt) (t : Int) (w : World) (hl : Has w (Pts a s.shape)) (hs : Small s.shape.length) (hin : struckE s p t = 0 → 0 ≤ findI (eqB p) (borderL s.shape)) :
    Calls Tryd.prog 35 #[.agg #[.string s.name, .slice a s.shape.length cap, .int .i64 s.depth, .int .i64 s.density, .int .i64 s.grain.x, .int .i64 s.grain.z], .agg #[.int .i64 p.x, .int .i64 p.z], .int .i64 t] w (Gives (fun z : Option Addr × Nat => .tuple #[.slice z.1 (outL s p t).length z.2, .int .i64 (struckE s p t)]) (fun z => Row z.1 2 z.2 32 encPt (outL s p t)) w) := by
  refine calls_of_gk (vs := [_, _, _]) Tryd.func35 rfl rfl (Nat.le_of_ble_eq_true rfl) ?_
  refine gk_seq ?_
  refine gk_region ?_
  refine gk_yx rfl rfl (yx_box (vs := [_, _, _, _, _, _]) rfl rfl) fun b3 => ?_
  refine gk_yx rfl rfl (yx_box (vs := [_, _]) rfl rfl) fun b4 => ?_
  refine gk_y rfl rfl (y_assign rfl) ?_
  refine gk_y rfl rfl (y_assign rfl) ?_
  refine gk_nil (gk_sub (T' := [(2,_), (3,_), (4,_), (6,_), (7,_)]) ⟨rfl, rfl, rfl, rfl, rfl, trivial⟩ ?_)
  refine gk_seq ?_
  refine gk_seq ?_
  refine gk_region ?_
  refine gk_y rfl rfl (y_loadBA 1 tf34 rfl rfl (vs := [_, _, _, _, _, _]) rfl rfl) ?_
  refine gk_y rfl rfl (y_loadBA 0 tf32 rfl rfl (vs := [_, _]) rfl rfl) ?_
  refine gk_y rfl rfl (y_move rfl) ?_
  refine gk_y rfl rfl (y_call en84 rfl (fun w hw => struck_c _ _ s p t w (Rd.has (Has.rd hl) hw) (by assumption))) ?_
  refine gk_y rfl rfl (y_assign rfl) ?_
  refine gk_nil (gk_sub (T' := [(2,_), (3,_), (4,_), (6,_), (7,_), (8,_)]) ⟨rfl, rfl, rfl, rfl, rfl, rfl, trivial⟩ ?_)
  refine gk_seq ?_
  refine gk_region ?_
  refine gk_y rfl rfl (y_move rfl) ?_
  refine gk_y rfl rfl (y_neq rfl rfl) ?_
  refine gk_nil (gk_sub (T' := [(2,_), (3,_), (4,_), (6,_), (7,_), (8,_), (14,_)]) ⟨rfl, rfl, rfl, rfl, rfl, rfl, rfl, trivial⟩ ?_)
  refine gk_cond rfl (fun hc14 => ?_) (fun hc14 => ?_)
  · have hk : ¬ struckE s p t = 0 := by simpa using hc14
    refine gk_newNil 32 encPt 2 ?_
    refine gk_seq ?_
    refine gk_region ?_
    refine gk_y rfl rfl (y_move rfl) ?_
    refine gk_y rfl rfl (y_assign rfl) ?_
    refine gk_y rfl rfl (y_assign rfl) ?_
    refine gk_nil (gk_sub (T' := [(2,_), (3,_), (4,_), (6,_), (7,_)]) ⟨rfl, rfl, rfl, rfl, rfl, trivial⟩ ?_)
    refine gk_ret ?_
    refine gk_gives (none, 0) 0 (rv_two rfl (r1_tmp rfl) (r1_tmp rfl)) ?_ (by simp only [outL, if_neg hk]; rfl)
    simp only [outL, if_neg hk]; rfl
  · have hk : struckE s p t = 0 := by simpa using hc14
    have hv := struck_ok hk
    refine gk_skip ?_
    refine gk_seq ?_
    refine gk_region ?_
    refine gk_y rfl rfl (y_loadBA 1 tf34 rfl rfl (vs := [_, _, _, _, _, _]) rfl rfl) ?_
    refine gk_y rfl rfl (y_loadBA 0 tf32 rfl rfl (vs := [_, _]) rfl rfl) ?_
    refine gk_y rfl rfl (y_move rfl) ?_
    refine gk_yx rfl rfl (yx_call en85 rfl (fun w hw => outcomes_c _ _ s p t w)) fun p19 => gk_split ?_
    refine gk_yx rfl rfl (yx_call en65 rfl (fun w hw => collect_c (outcomesL s p t) _ [_, _, _] w (by have := outcomes_len (t := t) hv (hin hk); unfold Small; omega) (fun w' => Has w' (Box p19.1 [.string s.name, .slice a s.shape.length cap, .int .i64 s.depth, .int .i64 s.density, .int .i64 s.grain.x, .int .i64 s.grain.z] 34) ∧ Has w' (Box p19.2.1 [.int .i64 p.x, .int .i64 p.z] 32) ∧ Has w' (Box p19.2.2 [.int .i64 t] 3) ∧ Has w' (Pts a s.shape)) (fun w' hx => ⟨Has.ext (hw.has (p := 0) rfl) hx, Has.ext (hw.has (p := 1) rfl) hx, Has.ext (hw.has (p := 2) rfl) hx, Has.ext (Rd.has (Has.rd hl) hw) hx⟩) en125 (outcomes1_c _ _ s p t _ _ _ hv (hin hk)))) fun p20 => ?_
    refine gk_y rfl rfl (y_assign rfl) ?_
    refine gk_y rfl rfl (y_assign rfl) ?_
    refine gk_nil (gk_sub (T' := [(6,_), (7,_)]) ⟨rfl, rfl, trivial⟩ ?_)
    refine gk_ret ?_
    refine gk_gives p20 0 (rv_two rfl (r1_tmp rfl) (r1_tmp rfl)) ?_ (by simp only [outL, if_pos hk]; rfl)
    rw [hk]; simp only [outL, if_pos hk]
end Go.Proofs.YtahahmelnaphjaaDoor

namespace Go.Proofs.YtahahmelnaphjaaDoor
open Go.K Go.Stn Go.RowKit
theorem tf90 : TF Tryd.prog 90 false 1 (.nilFunc) := ⟨by kernel_rfl, by kernel_rfl⟩
theorem en58 : En Tryd.prog 58 := en_of Tryd.func58 (by kernel_rfl) (by kernel_rfl)
theorem en59 : En Tryd.prog 59 := en_of Tryd.func59 (by kernel_rfl) (by kernel_rfl)
theorem en173 : En Tryd.prog 173 := en_of Tryd.func173 (by kernel_rfl) (by kernel_rfl)
theorem en174 : En Tryd.prog 174 := en_of Tryd.func174 (by kernel_rfl) (by kernel_rfl)
theorem en175 : En Tryd.prog 175 := en_of Tryd.func175 (by kernel_rfl) (by kernel_rfl)
theorem en176 : En Tryd.prog 176 := en_of Tryd.func176 (by kernel_rfl) (by kernel_rfl)
set_option maxRecDepth 100000 in
set_option maxHeartbeats 1000000 in
theorem ways1_c (p : Pt) (w : World)  :
    Calls Tryd.prog 173 #[.agg #[.int .i64 p.x, .int .i64 p.z]] w (Pure (ptV p) w) := by
  refine calls_of_gk (vs := [_]) Tryd.func173 rfl rfl (Nat.le_of_ble_eq_true rfl) ?_
  refine gk_seq ?_
  refine gk_region ?_
  refine gk_yx rfl rfl (yx_box (vs := [_, _]) rfl rfl) fun b1 => ?_
  refine gk_yx rfl rfl (yx_alloc tf32 (zs := [_, _]) rfl) fun b2 => ?_
  refine gk_nil (gk_sub (T' := [(1,_), (2,_)]) ⟨rfl, rfl, trivial⟩ ?_)
  refine gk_seq ?_
  refine gk_region ?_
  refine gk_y rfl rfl (y_loadBA 1 tf32 rfl rfl (vs := [_, _]) rfl rfl) ?_
  refine gk_storeV 0 tf32 rfl rfl (vs := [_, _]) rfl rfl rfl rfl rfl ?_
  refine gk_nil (gk_sub (T' := [(2,_)]) ⟨rfl, trivial⟩ ?_)
  refine gk_ret ?_
  refine gk_pure (rv_one rfl (r1_cellA (i := 0) (vs := [_, _]) tf32 rfl rfl rfl rfl)) ?_
  rfl
set_option maxRecDepth 100000 in
set_option maxHeartbeats 1000000 in
theorem ways2_c (p : Pt) (w : World)  :
    Calls Tryd.prog 174 #[.agg #[.int .i64 p.x, .int .i64 p.z]] w (Pure (ptV ⟨W (-p.z), p.x⟩) w) := by
  refine calls_of_gk (vs := [_]) Tryd.func174 rfl rfl (Nat.le_of_ble_eq_true rfl) ?_
  refine gk_seq ?_
  refine gk_region ?_
  refine gk_yx rfl rfl (yx_box (vs := [_, _]) rfl rfl) fun b1 => ?_
  refine gk_yx rfl rfl (yx_alloc tf32 (zs := [_, _]) rfl) fun b2 => ?_
  refine gk_nil (gk_sub (T' := [(1,_), (2,_)]) ⟨rfl, rfl, trivial⟩ ?_)
  refine gk_seq ?_
  refine gk_region ?_
  refine gk_y rfl rfl (y_fieldAddr fo32_1 rfl) ?_
  refine gk_y rfl rfl (y_loadB1 1 tf3 rfl rfl rfl) ?_
  refine gk_y rfl rfl (y_neg rfl) ?_
  refine gk_y rfl rfl (y_fieldAddr fo32_0 rfl) ?_
  refine gk_y rfl rfl (y_loadB1 1 tf3 rfl rfl rfl) ?_
  refine gk_y rfl rfl (y_buildL rfl (bd32_0i_1i _ _)) ?_
  refine gk_storeV 0 tf32 rfl rfl (vs := [_, _]) rfl rfl rfl rfl rfl ?_
  refine gk_nil (gk_sub (T' := [(2,_)]) ⟨rfl, trivial⟩ ?_)
  refine gk_ret ?_
  refine gk_pure (rv_one rfl (r1_cellA (i := 0) (vs := [_, _]) tf32 rfl rfl rfl rfl)) ?_
  rfl
set_option maxRecDepth 100000 in
set_option maxHeartbeats 1000000 in
theorem ways3_c (p : Pt) (w : World)  :
    Calls Tryd.prog 175 #[.agg #[.int .i64 p.x, .int .i64 p.z]] w (Pure (ptV ⟨W (-p.x), W (-p.z)⟩) w) := by
  refine calls_of_gk (vs := [_]) Tryd.func175 rfl rfl (Nat.le_of_ble_eq_true rfl) ?_
  refine gk_seq ?_
  refine gk_region ?_
  refine gk_yx rfl rfl (yx_box (vs := [_, _]) rfl rfl) fun b1 => ?_
  refine gk_yx rfl rfl (yx_alloc tf32 (zs := [_, _]) rfl) fun b2 => ?_
  refine gk_nil (gk_sub (T' := [(1,_), (2,_)]) ⟨rfl, rfl, trivial⟩ ?_)
  refine gk_seq ?_
  refine gk_region ?_
  refine gk_y rfl rfl (y_fieldAddr fo32_0 rfl) ?_
  refine gk_y rfl rfl (y_loadB1 1 tf3 rfl rfl rfl) ?_
  refine gk_y rfl rfl (y_neg rfl) ?_
  refine gk_y rfl rfl (y_fieldAddr fo32_1 rfl) ?_
  refine gk_y rfl rfl (y_loadB1 1 tf3 rfl rfl rfl) ?_
  refine gk_y rfl rfl (y_neg rfl) ?_
  refine gk_y rfl rfl (y_buildL rfl (bd32_0i_1i _ _)) ?_
  refine gk_storeV 0 tf32 rfl rfl (vs := [_, _]) rfl rfl rfl rfl rfl ?_
  refine gk_nil (gk_sub (T' := [(2,_)]) ⟨rfl, trivial⟩ ?_)
  refine gk_ret ?_
  refine gk_pure (rv_one rfl (r1_cellA (i := 0) (vs := [_, _]) tf32 rfl rfl rfl rfl)) ?_
  rfl
set_option maxRecDepth 100000 in
set_option maxHeartbeats 1000000 in
theorem ways4_c (p : Pt) (w : World)  :
    Calls Tryd.prog 176 #[.agg #[.int .i64 p.x, .int .i64 p.z]] w (Pure (ptV ⟨p.z, W (-p.x)⟩) w) := by
  refine calls_of_gk (vs := [_]) Tryd.func176 rfl rfl (Nat.le_of_ble_eq_true rfl) ?_
  refine gk_seq ?_
  refine gk_region ?_
  refine gk_yx rfl rfl (yx_box (vs := [_, _]) rfl rfl) fun b1 => ?_
  refine gk_yx rfl rfl (yx_alloc tf32 (zs := [_, _]) rfl) fun b2 => ?_
  refine gk_nil (gk_sub (T' := [(1,_), (2,_)]) ⟨rfl, rfl, trivial⟩ ?_)
  refine gk_seq ?_
  refine gk_region ?_
  refine gk_y rfl rfl (y_fieldAddr fo32_1 rfl) ?_
  refine gk_y rfl rfl (y_loadB1 1 tf3 rfl rfl rfl) ?_
  refine gk_y rfl rfl (y_fieldAddr fo32_0 rfl) ?_
  refine gk_y rfl rfl (y_loadB1 1 tf3 rfl rfl rfl) ?_
  refine gk_y rfl rfl (y_neg rfl) ?_
  refine gk_y rfl rfl (y_buildL rfl (bd32_0i_1i _ _)) ?_
  refine gk_storeV 0 tf32 rfl rfl (vs := [_, _]) rfl rfl rfl rfl rfl ?_
  refine gk_nil (gk_sub (T' := [(2,_)]) ⟨rfl, trivial⟩ ?_)
  refine gk_ret ?_
  refine gk_pure (rv_one rfl (r1_cellA (i := 0) (vs := [_, _]) tf32 rfl rfl rfl rfl)) ?_
  rfl
theorem ae91 : AE Tryd.prog 91 90 4 1 := ⟨Tryd.underlying91, by kernel_rfl⟩
set_option maxRecDepth 100000 in
set_option maxHeartbeats 1000000 in
theorem turned1_0 (p : Pt) (way : Int) (b : Nat) (w : World) (hb : Has w (Box b [.int .i64 way] 3)) (hways : Has w (Elems (some ⟨0, 0, none⟩) 1 encVal [.func (.func 173) #[] #[], .func (.func 174) #[] #[], .func (.func 175) #[] #[], .func (.func 176) #[] #[]])) (hk : way.tmod 4 = 0) :
    Calls Tryd.prog 58 #[.agg #[.int .i64 p.x, .int .i64 p.z], .pointer (some ⟨b, 0, none⟩)] w (Pure (ptV (moveW way p)) w) := by
  refine calls_of_gk (vs := [_, _]) Tryd.func58 rfl rfl (Nat.le_of_ble_eq_true rfl) ?_
  refine gk_seq ?_
  refine gk_region ?_
  refine gk_yx rfl rfl (yx_box (vs := [_, _]) rfl rfl) fun b2 => ?_
  refine gk_yx rfl rfl (yx_alloc tf32 (zs := [_, _]) rfl) fun b3 => ?_
  refine gk_nil (gk_sub (T' := [(1,_), (2,_), (3,_)]) ⟨rfl, rfl, rfl, trivial⟩ ?_)
  refine gk_seq ?_
  refine gk_seq ?_
  refine gk_region ?_
  refine gk_y rfl rfl (y_load1 tf3 rfl (fun _ hw => has_box_cell (Rd.has (Has.rd hb) hw) rfl)) ?_
  refine gk_y rfl rfl (y_gtr rfl rfl) ?_
  refine gk_nil (gk_sub (T' := [(1,_), (2,_), (3,_), (5,_)]) ⟨rfl, rfl, rfl, rfl, trivial⟩ ?_)
  refine gk_cond rfl (fun hc5 => ?_) (fun hc5 => ?_)
  · have hc5 := of_decide_eq_true hc5
    refine gk_region ?_
    refine gk_y rfl rfl (y_fieldAddr fo32_0 rfl) ?_
    refine gk_y rfl rfl (y_loadB1 1 tf3 rfl rfl rfl) ?_
    refine gk_y rfl rfl (y_neg rfl) ?_
    refine gk_y rfl rfl (y_fieldAddr fo32_0 rfl) ?_
    refine gk_storeV 1 tf3 rfl rfl (vs := [_]) rfl rfl rfl rfl rfl ?_
    refine gk_nil (gk_sub (T' := [(1,_), (2,_), (3,_)]) ⟨rfl, rfl, rfl, trivial⟩ ?_)
    refine gk_seq ?_
    refine gk_any 6 (fun _ => mixed) (by kernel_rfl) ?_
    refine ph_y (y_load1 tf3 rfl (fun _ hw => has_box_cell (Rd.has (Has.rd hb) hw) rfl)) ?_
    refine ph_y (y_rem rfl rfl (by decide)) ?_
    refine ph_y (y_indexA 0 ae91 rfl rfl hk (by decide)) ?_
    refine ph_y (y_load1 tf90 rfl (fun _ hw => elems_cell (i := 0) (Rd.has (Has.rd hways) hw) rfl)) ?_
    refine ph_y (y_loadBA 1 tf32 rfl rfl (vs := [_, _]) rfl rfl) ?_
    refine ph_y (y_callV (fs := []) (cap := []) en173 rfl rfl (fun w hw => ways1_c (⟨(IntKind.i64.wrap (-p.x)), p.z⟩ : Pt) w)) ?_
    refine gk_sub (T' := [(3,_), (15,_)]) ⟨rfl, rfl, trivial⟩ ?_
    refine gk_storeV 0 tf32 rfl rfl (vs := [_, _]) rfl rfl rfl rfl rfl ?_
    refine gk_nil (gk_sub (T' := [(3,_)]) ⟨rfl, trivial⟩ ?_)
    refine gk_ret ?_
    refine gk_pure (rv_one rfl (r1_cellA (i := 0) (vs := [_, _]) tf32 rfl rfl rfl rfl)) ?_
    simp only [moveW, flipW, quartW, hk, if_pos hc5]; rfl
  · have hc5 := of_decide_eq_false hc5
    refine gk_skip ?_
    refine gk_seq ?_
    refine gk_any 6 (fun _ => mixed) (by kernel_rfl) ?_
    refine ph_y (y_load1 tf3 rfl (fun _ hw => has_box_cell (Rd.has (Has.rd hb) hw) rfl)) ?_
    refine ph_y (y_rem rfl rfl (by decide)) ?_
    refine ph_y (y_indexA 0 ae91 rfl rfl hk (by decide)) ?_
    refine ph_y (y_load1 tf90 rfl (fun _ hw => elems_cell (i := 0) (Rd.has (Has.rd hways) hw) rfl)) ?_
    refine ph_y (y_loadBA 1 tf32 rfl rfl (vs := [_, _]) rfl rfl) ?_
    refine ph_y (y_callV (fs := []) (cap := []) en173 rfl rfl (fun w hw => ways1_c p w)) ?_
    refine gk_sub (T' := [(3,_), (15,_)]) ⟨rfl, rfl, trivial⟩ ?_
    refine gk_storeV 0 tf32 rfl rfl (vs := [_, _]) rfl rfl rfl rfl rfl ?_
    refine gk_nil (gk_sub (T' := [(3,_)]) ⟨rfl, trivial⟩ ?_)
    refine gk_ret ?_
    refine gk_pure (rv_one rfl (r1_cellA (i := 0) (vs := [_, _]) tf32 rfl rfl rfl rfl)) ?_
    simp only [moveW, flipW, quartW, hk, if_neg hc5]; rfl
set_option maxRecDepth 100000 in
set_option maxHeartbeats 1000000 in
theorem turned1_1 (p : Pt) (way : Int) (b : Nat) (w : World) (hb : Has w (Box b [.int .i64 way] 3)) (hways : Has w (Elems (some ⟨0, 0, none⟩) 1 encVal [.func (.func 173) #[] #[], .func (.func 174) #[] #[], .func (.func 175) #[] #[], .func (.func 176) #[] #[]])) (hk : way.tmod 4 = 1) :
    Calls Tryd.prog 58 #[.agg #[.int .i64 p.x, .int .i64 p.z], .pointer (some ⟨b, 0, none⟩)] w (Pure (ptV (moveW way p)) w) := by
  refine calls_of_gk (vs := [_, _]) Tryd.func58 rfl rfl (Nat.le_of_ble_eq_true rfl) ?_
  refine gk_seq ?_
  refine gk_region ?_
  refine gk_yx rfl rfl (yx_box (vs := [_, _]) rfl rfl) fun b2 => ?_
  refine gk_yx rfl rfl (yx_alloc tf32 (zs := [_, _]) rfl) fun b3 => ?_
  refine gk_nil (gk_sub (T' := [(1,_), (2,_), (3,_)]) ⟨rfl, rfl, rfl, trivial⟩ ?_)
  refine gk_seq ?_
  refine gk_seq ?_
  refine gk_region ?_
  refine gk_y rfl rfl (y_load1 tf3 rfl (fun _ hw => has_box_cell (Rd.has (Has.rd hb) hw) rfl)) ?_
  refine gk_y rfl rfl (y_gtr rfl rfl) ?_
  refine gk_nil (gk_sub (T' := [(1,_), (2,_), (3,_), (5,_)]) ⟨rfl, rfl, rfl, rfl, trivial⟩ ?_)
  refine gk_cond rfl (fun hc5 => ?_) (fun hc5 => ?_)
  · have hc5 := of_decide_eq_true hc5
    refine gk_region ?_
    refine gk_y rfl rfl (y_fieldAddr fo32_0 rfl) ?_
    refine gk_y rfl rfl (y_loadB1 1 tf3 rfl rfl rfl) ?_
    refine gk_y rfl rfl (y_neg rfl) ?_
    refine gk_y rfl rfl (y_fieldAddr fo32_0 rfl) ?_
    refine gk_storeV 1 tf3 rfl rfl (vs := [_]) rfl rfl rfl rfl rfl ?_
    refine gk_nil (gk_sub (T' := [(1,_), (2,_), (3,_)]) ⟨rfl, rfl, rfl, trivial⟩ ?_)
    refine gk_seq ?_
    refine gk_any 6 (fun _ => mixed) (by kernel_rfl) ?_
    refine ph_y (y_load1 tf3 rfl (fun _ hw => has_box_cell (Rd.has (Has.rd hb) hw) rfl)) ?_
    refine ph_y (y_rem rfl rfl (by decide)) ?_
    refine ph_y (y_indexA 1 ae91 rfl rfl hk (by decide)) ?_
    refine ph_y (y_load1 tf90 rfl (fun _ hw => elems_cell (i := 1) (Rd.has (Has.rd hways) hw) rfl)) ?_
    refine ph_y (y_loadBA 1 tf32 rfl rfl (vs := [_, _]) rfl rfl) ?_
    refine ph_y (y_callV (fs := []) (cap := []) en174 rfl rfl (fun w hw => ways2_c (⟨(IntKind.i64.wrap (-p.x)), p.z⟩ : Pt) w)) ?_
    refine gk_sub (T' := [(3,_), (15,_)]) ⟨rfl, rfl, trivial⟩ ?_
    refine gk_storeV 0 tf32 rfl rfl (vs := [_, _]) rfl rfl rfl rfl rfl ?_
    refine gk_nil (gk_sub (T' := [(3,_)]) ⟨rfl, trivial⟩ ?_)
    refine gk_ret ?_
    refine gk_pure (rv_one rfl (r1_cellA (i := 0) (vs := [_, _]) tf32 rfl rfl rfl rfl)) ?_
    simp only [moveW, flipW, quartW, hk, if_pos hc5]; rfl
  · have hc5 := of_decide_eq_false hc5
    refine gk_skip ?_
    refine gk_seq ?_
    refine gk_any 6 (fun _ => mixed) (by kernel_rfl) ?_
    refine ph_y (y_load1 tf3 rfl (fun _ hw => has_box_cell (Rd.has (Has.rd hb) hw) rfl)) ?_
    refine ph_y (y_rem rfl rfl (by decide)) ?_
    refine ph_y (y_indexA 1 ae91 rfl rfl hk (by decide)) ?_
    refine ph_y (y_load1 tf90 rfl (fun _ hw => elems_cell (i := 1) (Rd.has (Has.rd hways) hw) rfl)) ?_
    refine ph_y (y_loadBA 1 tf32 rfl rfl (vs := [_, _]) rfl rfl) ?_
    refine ph_y (y_callV (fs := []) (cap := []) en174 rfl rfl (fun w hw => ways2_c p w)) ?_
    refine gk_sub (T' := [(3,_), (15,_)]) ⟨rfl, rfl, trivial⟩ ?_
    refine gk_storeV 0 tf32 rfl rfl (vs := [_, _]) rfl rfl rfl rfl rfl ?_
    refine gk_nil (gk_sub (T' := [(3,_)]) ⟨rfl, trivial⟩ ?_)
    refine gk_ret ?_
    refine gk_pure (rv_one rfl (r1_cellA (i := 0) (vs := [_, _]) tf32 rfl rfl rfl rfl)) ?_
    simp only [moveW, flipW, quartW, hk, if_neg hc5]; rfl
set_option maxRecDepth 100000 in
set_option maxHeartbeats 1000000 in
theorem turned1_2 (p : Pt) (way : Int) (b : Nat) (w : World) (hb : Has w (Box b [.int .i64 way] 3)) (hways : Has w (Elems (some ⟨0, 0, none⟩) 1 encVal [.func (.func 173) #[] #[], .func (.func 174) #[] #[], .func (.func 175) #[] #[], .func (.func 176) #[] #[]])) (hk : way.tmod 4 = 2) :
    Calls Tryd.prog 58 #[.agg #[.int .i64 p.x, .int .i64 p.z], .pointer (some ⟨b, 0, none⟩)] w (Pure (ptV (moveW way p)) w) := by
  refine calls_of_gk (vs := [_, _]) Tryd.func58 rfl rfl (Nat.le_of_ble_eq_true rfl) ?_
  refine gk_seq ?_
  refine gk_region ?_
  refine gk_yx rfl rfl (yx_box (vs := [_, _]) rfl rfl) fun b2 => ?_
  refine gk_yx rfl rfl (yx_alloc tf32 (zs := [_, _]) rfl) fun b3 => ?_
  refine gk_nil (gk_sub (T' := [(1,_), (2,_), (3,_)]) ⟨rfl, rfl, rfl, trivial⟩ ?_)
  refine gk_seq ?_
  refine gk_seq ?_
  refine gk_region ?_
  refine gk_y rfl rfl (y_load1 tf3 rfl (fun _ hw => has_box_cell (Rd.has (Has.rd hb) hw) rfl)) ?_
  refine gk_y rfl rfl (y_gtr rfl rfl) ?_
  refine gk_nil (gk_sub (T' := [(1,_), (2,_), (3,_), (5,_)]) ⟨rfl, rfl, rfl, rfl, trivial⟩ ?_)
  refine gk_cond rfl (fun hc5 => ?_) (fun hc5 => ?_)
  · have hc5 := of_decide_eq_true hc5
    refine gk_region ?_
    refine gk_y rfl rfl (y_fieldAddr fo32_0 rfl) ?_
    refine gk_y rfl rfl (y_loadB1 1 tf3 rfl rfl rfl) ?_
    refine gk_y rfl rfl (y_neg rfl) ?_
    refine gk_y rfl rfl (y_fieldAddr fo32_0 rfl) ?_
    refine gk_storeV 1 tf3 rfl rfl (vs := [_]) rfl rfl rfl rfl rfl ?_
    refine gk_nil (gk_sub (T' := [(1,_), (2,_), (3,_)]) ⟨rfl, rfl, rfl, trivial⟩ ?_)
    refine gk_seq ?_
    refine gk_any 6 (fun _ => mixed) (by kernel_rfl) ?_
    refine ph_y (y_load1 tf3 rfl (fun _ hw => has_box_cell (Rd.has (Has.rd hb) hw) rfl)) ?_
    refine ph_y (y_rem rfl rfl (by decide)) ?_
    refine ph_y (y_indexA 2 ae91 rfl rfl hk (by decide)) ?_
    refine ph_y (y_load1 tf90 rfl (fun _ hw => elems_cell (i := 2) (Rd.has (Has.rd hways) hw) rfl)) ?_
    refine ph_y (y_loadBA 1 tf32 rfl rfl (vs := [_, _]) rfl rfl) ?_
    refine ph_y (y_callV (fs := []) (cap := []) en175 rfl rfl (fun w hw => ways3_c (⟨(IntKind.i64.wrap (-p.x)), p.z⟩ : Pt) w)) ?_
    refine gk_sub (T' := [(3,_), (15,_)]) ⟨rfl, rfl, trivial⟩ ?_
    refine gk_storeV 0 tf32 rfl rfl (vs := [_, _]) rfl rfl rfl rfl rfl ?_
    refine gk_nil (gk_sub (T' := [(3,_)]) ⟨rfl, trivial⟩ ?_)
    refine gk_ret ?_
    refine gk_pure (rv_one rfl (r1_cellA (i := 0) (vs := [_, _]) tf32 rfl rfl rfl rfl)) ?_
    simp only [moveW, flipW, quartW, hk, if_pos hc5]; rfl
  · have hc5 := of_decide_eq_false hc5
    refine gk_skip ?_
    refine gk_seq ?_
    refine gk_any 6 (fun _ => mixed) (by kernel_rfl) ?_
    refine ph_y (y_load1 tf3 rfl (fun _ hw => has_box_cell (Rd.has (Has.rd hb) hw) rfl)) ?_
    refine ph_y (y_rem rfl rfl (by decide)) ?_
    refine ph_y (y_indexA 2 ae91 rfl rfl hk (by decide)) ?_
    refine ph_y (y_load1 tf90 rfl (fun _ hw => elems_cell (i := 2) (Rd.has (Has.rd hways) hw) rfl)) ?_
    refine ph_y (y_loadBA 1 tf32 rfl rfl (vs := [_, _]) rfl rfl) ?_
    refine ph_y (y_callV (fs := []) (cap := []) en175 rfl rfl (fun w hw => ways3_c p w)) ?_
    refine gk_sub (T' := [(3,_), (15,_)]) ⟨rfl, rfl, trivial⟩ ?_
    refine gk_storeV 0 tf32 rfl rfl (vs := [_, _]) rfl rfl rfl rfl rfl ?_
    refine gk_nil (gk_sub (T' := [(3,_)]) ⟨rfl, trivial⟩ ?_)
    refine gk_ret ?_
    refine gk_pure (rv_one rfl (r1_cellA (i := 0) (vs := [_, _]) tf32 rfl rfl rfl rfl)) ?_
    simp only [moveW, flipW, quartW, hk, if_neg hc5]; rfl
set_option maxRecDepth 100000 in
set_option maxHeartbeats 1000000 in
theorem turned1_3 (p : Pt) (way : Int) (b : Nat) (w : World) (hb : Has w (Box b [.int .i64 way] 3)) (hways : Has w (Elems (some ⟨0, 0, none⟩) 1 encVal [.func (.func 173) #[] #[], .func (.func 174) #[] #[], .func (.func 175) #[] #[], .func (.func 176) #[] #[]])) (hk : way.tmod 4 = 3) :
    Calls Tryd.prog 58 #[.agg #[.int .i64 p.x, .int .i64 p.z], .pointer (some ⟨b, 0, none⟩)] w (Pure (ptV (moveW way p)) w) := by
  refine calls_of_gk (vs := [_, _]) Tryd.func58 rfl rfl (Nat.le_of_ble_eq_true rfl) ?_
  refine gk_seq ?_
  refine gk_region ?_
  refine gk_yx rfl rfl (yx_box (vs := [_, _]) rfl rfl) fun b2 => ?_
  refine gk_yx rfl rfl (yx_alloc tf32 (zs := [_, _]) rfl) fun b3 => ?_
  refine gk_nil (gk_sub (T' := [(1,_), (2,_), (3,_)]) ⟨rfl, rfl, rfl, trivial⟩ ?_)
  refine gk_seq ?_
  refine gk_seq ?_
  refine gk_region ?_
  refine gk_y rfl rfl (y_load1 tf3 rfl (fun _ hw => has_box_cell (Rd.has (Has.rd hb) hw) rfl)) ?_
  refine gk_y rfl rfl (y_gtr rfl rfl) ?_
  refine gk_nil (gk_sub (T' := [(1,_), (2,_), (3,_), (5,_)]) ⟨rfl, rfl, rfl, rfl, trivial⟩ ?_)
  refine gk_cond rfl (fun hc5 => ?_) (fun hc5 => ?_)
  · have hc5 := of_decide_eq_true hc5
    refine gk_region ?_
    refine gk_y rfl rfl (y_fieldAddr fo32_0 rfl) ?_
    refine gk_y rfl rfl (y_loadB1 1 tf3 rfl rfl rfl) ?_
    refine gk_y rfl rfl (y_neg rfl) ?_
    refine gk_y rfl rfl (y_fieldAddr fo32_0 rfl) ?_
    refine gk_storeV 1 tf3 rfl rfl (vs := [_]) rfl rfl rfl rfl rfl ?_
    refine gk_nil (gk_sub (T' := [(1,_), (2,_), (3,_)]) ⟨rfl, rfl, rfl, trivial⟩ ?_)
    refine gk_seq ?_
    refine gk_any 6 (fun _ => mixed) (by kernel_rfl) ?_
    refine ph_y (y_load1 tf3 rfl (fun _ hw => has_box_cell (Rd.has (Has.rd hb) hw) rfl)) ?_
    refine ph_y (y_rem rfl rfl (by decide)) ?_
    refine ph_y (y_indexA 3 ae91 rfl rfl hk (by decide)) ?_
    refine ph_y (y_load1 tf90 rfl (fun _ hw => elems_cell (i := 3) (Rd.has (Has.rd hways) hw) rfl)) ?_
    refine ph_y (y_loadBA 1 tf32 rfl rfl (vs := [_, _]) rfl rfl) ?_
    refine ph_y (y_callV (fs := []) (cap := []) en176 rfl rfl (fun w hw => ways4_c (⟨(IntKind.i64.wrap (-p.x)), p.z⟩ : Pt) w)) ?_
    refine gk_sub (T' := [(3,_), (15,_)]) ⟨rfl, rfl, trivial⟩ ?_
    refine gk_storeV 0 tf32 rfl rfl (vs := [_, _]) rfl rfl rfl rfl rfl ?_
    refine gk_nil (gk_sub (T' := [(3,_)]) ⟨rfl, trivial⟩ ?_)
    refine gk_ret ?_
    refine gk_pure (rv_one rfl (r1_cellA (i := 0) (vs := [_, _]) tf32 rfl rfl rfl rfl)) ?_
    simp only [moveW, flipW, quartW, hk, if_pos hc5]; rfl
  · have hc5 := of_decide_eq_false hc5
    refine gk_skip ?_
    refine gk_seq ?_
    refine gk_any 6 (fun _ => mixed) (by kernel_rfl) ?_
    refine ph_y (y_load1 tf3 rfl (fun _ hw => has_box_cell (Rd.has (Has.rd hb) hw) rfl)) ?_
    refine ph_y (y_rem rfl rfl (by decide)) ?_
    refine ph_y (y_indexA 3 ae91 rfl rfl hk (by decide)) ?_
    refine ph_y (y_load1 tf90 rfl (fun _ hw => elems_cell (i := 3) (Rd.has (Has.rd hways) hw) rfl)) ?_
    refine ph_y (y_loadBA 1 tf32 rfl rfl (vs := [_, _]) rfl rfl) ?_
    refine ph_y (y_callV (fs := []) (cap := []) en176 rfl rfl (fun w hw => ways4_c p w)) ?_
    refine gk_sub (T' := [(3,_), (15,_)]) ⟨rfl, rfl, trivial⟩ ?_
    refine gk_storeV 0 tf32 rfl rfl (vs := [_, _]) rfl rfl rfl rfl rfl ?_
    refine gk_nil (gk_sub (T' := [(3,_)]) ⟨rfl, trivial⟩ ?_)
    refine gk_ret ?_
    refine gk_pure (rv_one rfl (r1_cellA (i := 0) (vs := [_, _]) tf32 rfl rfl rfl rfl)) ?_
    simp only [moveW, flipW, quartW, hk, if_neg hc5]; rfl
theorem turned1_c (p : Pt) (way : Int) (b : Nat) (w : World) (hb : Has w (Box b [.int .i64 way] 3)) (hways : Has w (Elems (some ⟨0, 0, none⟩) 1 encVal [.func (.func 173) #[] #[], .func (.func 174) #[] #[], .func (.func 175) #[] #[], .func (.func 176) #[] #[]])) (h0 : 0 ≤ way) : Calls Tryd.prog 58 #[ptV p, .pointer (some ⟨b, 0, none⟩)] w (Pure (ptV (moveW way p)) w) := by
  have h1 : way.tmod 4 < 4 := Int.tmod_lt_of_pos _ (by decide)
  have h2 : 0 ≤ way.tmod 4 := Int.tmod_nonneg _ h0
  rcases (show way.tmod 4 = 0 ∨ way.tmod 4 = 1 ∨ way.tmod 4 = 2 ∨ way.tmod 4 = 3 by omega) with h | h | h | h
  · exact turned1_0 p way b w hb hways h
  · exact turned1_1 p way b w hb hways h
  · exact turned1_2 p way b w hb hways h
  · exact turned1_3 p way b w hb hways h
def RevI (l m : List Pt) (i : Int) : Prop := ∀ k : Nat, k < l.length → m.getD k default = if (k : Int) < i ∨ (l.length : Int) - 1 - i < (k : Int) then l.getD (l.length - 1 - k) default else l.getD k default
theorem rev_step {l m : List Pt} {i j : Int} (h0 : 0 ≤ i) (hj : j = (l.length : Int) - 1 - i) (hij : i < j) (hl : m.length = l.length) (h : RevI l m i) : RevI l ((m.set i.toNat (m.getD j.toNat default)).set j.toNat (m.getD i.toNat default)) (i + 1) := fun k hk => by
  have hm : ∀ (a : List Pt) (n : Nat) (x : Pt) (k : Nat), (a.set n x).getD k default = if k = n ∧ n < a.length then x else a.getD k default := fun a n x k => by
    simp only [List.getD_eq_getElem?_getD, List.getElem?_set]
    by_cases h1 : n = k
    · subst h1
      by_cases h2 : n < a.length
      · simp [h2]
      · simp [h2]
    · rw [if_neg h1, if_neg (fun h => h1 h.1.symm)]
  rw [hm, hm, List.length_set]
  have hi := h i.toNat (by omega)
  have hjj := h j.toNat (by omega)
  rw [if_neg (by omega)] at hi hjj
  by_cases hkj : k = j.toNat
  · rw [if_pos ⟨hkj, by omega⟩, if_pos (by omega), hi]
    congr 1
    omega
  · rw [if_neg (fun h => hkj h.1)]
    by_cases hki : k = i.toNat
    · rw [if_pos ⟨hki, by omega⟩, if_pos (by omega), hjj]
      congr 1
      omega
    · rw [if_neg (fun h => hki h.1), h k hk]
      by_cases hc : (k : Int) < i ∨ (l.length : Int) - 1 - i < (k : Int)
      · rw [if_pos hc, if_pos (by omega)]
      · rw [if_neg hc, if_neg (by omega)]
theorem rev_end {l m : List Pt} {i j : Int} (_h0 : 0 ≤ i) (hj : j = (l.length : Int) - 1 - i) (hij : ¬ i < j) (hl : m.length = l.length) (h : RevI l m i) : m = l.reverse := by
  apply List.ext_getElem
  · rw [List.length_reverse, hl]
  · intro k h1 h2
    have := h k (by omega)
    rw [List.getElem_reverse]
    have e1 : m.getD k default = m[k] := by simp [h1]
    rw [← e1, this]
    have hk : l.length - 1 - k < l.length := by omega
    split
    · simp [hk]
    · rename_i hc
      have : k = l.length - 1 - k := by omega
      have h4 : l.getD (l.length - 1 - k) default = l[l.length - 1 - k] := by simp [hk]
      rw [← h4]
      exact congrArg (fun n => l.getD n default) this
set_option maxRecDepth 100000 in
set_option maxHeartbeats 1000000 in
theorem reverse_c (a : Option Addr) (cap : Nat) (l : List Pt) (w : World) (B : Nat → Prop) (hB : ∀ k, B k → k < w.heap.size) (hA : (Row a 2 cap 32 encPt l).A B w) (hs : Small l.length) :
    Calls Tryd.prog 59 #[.slice a l.length cap] w (Turns (fun _ : Unit => .tuple #[]) (fun _ => Row a 2 cap 32 encPt l.reverse) (fun _ => True) B w) := by
  refine calls_of_gkB hB hA (vs := [_]) Tryd.func59 rfl rfl (Nat.le_of_ble_eq_true rfl) ?_
  refine gk_seq ?_
  refine gk_region ?_
  refine gk_y rfl rfl (y_move rfl) ?_
  refine gk_y rfl rfl (y_lenS (Tryd.underlying31) rfl) ?_
  refine gk_y rfl rfl (y_subI rfl rfl (by omega) (by omega)) ?_
  refine gk_y rfl rfl (y_assign rfl) ?_
  refine gk_y rfl rfl (y_assign rfl) ?_
  refine gk_nil (gk_sub (T' := [(0,_), (2,_), (3,_)]) ⟨rfl, rfl, rfl, trivial⟩ ?_)
  refine gk_block ?_
  refine gk_loop (X := Int × Int × List Pt) (fun ⟨i, j, m⟩ => [(0, .slice a l.length cap), (2, .int .i64 i), (3, .int .i64 j)]) (fun ⟨i, j, m⟩ => [Row a 2 cap 32 encPt m]) (fun ⟨i, j, m⟩ => (0 ≤ i ∧ j = (l.length : Int) - 1 - i ∧ (i ≤ j + 1 ∨ i = 0) ∧ m.length = l.length ∧ RevI l m i)) (fun ⟨i, j, m⟩ => (j - i + 1).toNat) (0, (l.length : Int) - 1, l) ⟨rfl, rfl, rfl, trivial⟩ rfl ?_ ?_
  · exact ⟨by omega, by omega, .inr rfl, rfl, fun k hk => by rw [if_neg (by omega)]⟩
  · rintro ⟨i, j, m⟩ hI
    obtain ⟨g0, g1, g5, g3, g2⟩ := hI
    refine gk_seq ?_
    refine gk_seq ?_
    refine gk_region ?_
    refine gk_y rfl rfl (y_move rfl) ?_
    refine gk_y rfl rfl (y_move rfl) ?_
    refine gk_y rfl rfl (y_lss rfl rfl) ?_
    refine gk_nil (gk_sub (T' := [(0,_), (2,_), (3,_), (9,_)]) ⟨rfl, rfl, rfl, rfl, trivial⟩ ?_)
    refine gk_cond rfl (fun hc9 => ?_) (fun hc9 => ?_)
    · have hc9 := of_decide_eq_true hc9
      refine gk_skip ?_
      refine gk_seq ?_
      refine gk_block ?_
      refine gk_anyS (R' := Row a 2 cap 32 encPt ((m).set (i).toNat ⟨((m.getD (j).toNat default).x), ((m.getD (j).toNat default).z)⟩)) 13 [2, 3] 0 (fun _ => mixed) rfl rfl (by kernel_rfl) rfl ?_
      refine phs_y (y_move rfl) ?_
      refine phs_y (y_move rfl) ?_
      refine phs_y (y_move rfl) ?_
      refine phs_y (y_move rfl) ?_
      refine phs_y (y_move rfl) ?_
      refine phs_y (y_move rfl) ?_
      refine phs_y (y_indexN se31 rfl rfl (fun _ hw => (has_row encPt_ok (hw.has (p := 0) rfl))) (by first | exact g3 | (rw [List.length_set]; exact g3)) (by omega) (by first | omega | (rw [List.length_set]; omega))) ?_
      refine phs_y (y_loadE (vs := [_, _]) tf32 rfl (fun _ hw => (has_row encPt_ok (hw.has (p := 0) rfl))) (by omega) (by omega) rfl) ?_
      refine phs_y (y_move rfl) ?_
      refine phs_y (y_move rfl) ?_
      refine phs_y (y_indexN se31 rfl rfl (fun _ hw => (has_row encPt_ok (hw.has (p := 0) rfl))) (by first | exact g3 | (rw [List.length_set]; exact g3)) (by omega) (by first | omega | (rw [List.length_set]; omega))) ?_
      refine phs_y (y_loadE (vs := [_, _]) tf32 rfl (fun _ hw => (has_row encPt_ok (hw.has (p := 0) rfl))) (by omega) (by omega) rfl) ?_
      refine phs_y (y_indexN se31 rfl rfl (fun _ hw => (has_row encPt_ok (hw.has (p := 0) rfl))) (by first | exact g3 | (rw [List.length_set]; exact g3)) (by omega) (by first | omega | (rw [List.length_set]; omega))) ?_
      refine ⟨so_elem encPt_ok tf32 rfl rfl rfl (by rfl) (by omega) (by first | omega | (rw [List.length_set]; omega)), ?_⟩
      refine gk_sub (T' := [(0,_), (2,_), (3,_), (16,_), (17,_), (25,_)]) ⟨rfl, rfl, rfl, rfl, rfl, rfl, trivial⟩ ?_
      refine gk_y rfl rfl (y_indexN se31 rfl rfl (fun _ hw => (has_row encPt_ok (hw.has (p := 0) rfl))) (by first | exact g3 | (rw [List.length_set]; exact g3)) (by omega) (by first | omega | (rw [List.length_set]; omega))) ?_
      refine gk_storeE (x' := ⟨((m.getD (i).toNat default).x), ((m.getD (i).toNat default).z)⟩) 0 encPt_ok tf32 rfl rfl (vs := [_, _]) rfl rfl rfl (by omega) (by first | omega | (rw [List.length_set]; omega)) ?_
      refine gk_nil (gk_sub (T' := [(0,_), (2,_), (3,_)]) ⟨rfl, rfl, rfl, trivial⟩ ?_)
      refine gk_region ?_
      refine gk_y rfl rfl (y_move rfl) ?_
      refine gk_y rfl rfl (y_addI rfl rfl (by omega) (by omega)) ?_
      refine gk_y rfl rfl (y_move rfl) ?_
      refine gk_y rfl rfl (y_subI rfl rfl (by omega) (by omega)) ?_
      refine gk_y rfl rfl (y_assign rfl) ?_
      refine gk_y rfl rfl (y_assign rfl) ?_
      refine gk_nil (gk_sub (T' := [(0,_), (2,_), (3,_)]) ⟨rfl, rfl, rfl, trivial⟩ ?_)
      exact gk_next (i + 1, j - 1, _) ⟨rfl, rfl, rfl, trivial⟩ rfl ⟨by omega, by omega, by omega, by rw [List.length_set, List.length_set]; exact g3, rev_step g0 g1 hc9 g3 g2⟩ (by simp only []; omega)
    · have hc9 := of_decide_eq_false hc9
      obtain rfl : m = l.reverse := rev_end g0 g1 hc9 g3 g2
      refine gk_exit rfl ?_
      refine gk_turns () 0 (rv_none rfl) rfl rfl trivial
set_option maxRecDepth 100000 in
set_option maxHeartbeats 1000000 in
theorem Turned_c (a : Option Addr) (cap : Nat) (s : Stn) (way : Int) (w : World) (hl : Has w (Pts a s.shape)) (hs : Small s.shape.length) (hways : Has w (Elems (some ⟨0, 0, none⟩) 1 encVal [.func (.func 173) #[] #[], .func (.func 174) #[] #[], .func (.func 175) #[] #[], .func (.func 176) #[] #[]])) :
    Calls Tryd.prog 19 #[.agg #[.string s.name, .slice a s.shape.length cap, .int .i64 s.depth, .int .i64 s.density, .int .i64 s.grain.x, .int .i64 s.grain.z], .int .i64 way] w (Gives (fun z : Option Addr × Nat => .tuple #[stnV (turnedS s way) z.1 z.2, .int .i64 (turnedE s way)]) (fun z => Row z.1 2 z.2 32 encPt (turnedS s way).shape) w) := by
  refine calls_of_gk (vs := [_, _]) Tryd.func19 rfl rfl (Nat.le_of_ble_eq_true rfl) ?_
  refine gk_seq ?_
  refine gk_region ?_
  refine gk_yx rfl rfl (yx_box (vs := [_, _, _, _, _, _]) rfl rfl) fun b2 => ?_
  refine gk_yx rfl rfl (yx_box (vs := [_]) rfl rfl) fun b3 => ?_
  refine gk_yx rfl rfl (yx_alloc tf34 (zs := [_, _, _, _, _, _]) rfl) fun b4 => ?_
  refine gk_y rfl rfl (y_assign rfl) ?_
  refine gk_nil (gk_sub (T' := [(2,_), (3,_), (4,_), (5,_)]) ⟨rfl, rfl, rfl, rfl, trivial⟩ ?_)
  refine gk_seq ?_
  refine gk_seq ?_
  refine gk_region ?_
  refine gk_y rfl rfl (y_loadBA 2 tf34 rfl rfl (vs := [_, _, _, _, _, _]) rfl rfl) ?_
  refine gk_y rfl rfl (y_call en17 rfl (fun w hw => check_c _ _ s w (Rd.has (Has.rd hl) hw) (by assumption))) ?_
  refine gk_y rfl rfl (y_assign rfl) ?_
  refine gk_nil (gk_sub (T' := [(2,_), (3,_), (4,_), (5,_), (6,_)]) ⟨rfl, rfl, rfl, rfl, rfl, trivial⟩ ?_)
  refine gk_seq ?_
  refine gk_region ?_
  refine gk_y rfl rfl (y_move rfl) ?_
  refine gk_y rfl rfl (y_neq rfl rfl) ?_
  refine gk_nil (gk_sub (T' := [(2,_), (3,_), (4,_), (5,_), (6,_), (14,_)]) ⟨rfl, rfl, rfl, rfl, rfl, rfl, trivial⟩ ?_)
  refine gk_cond rfl (fun hc14 => ?_) (fun hc14 => ?_)
  · have hk : ¬ checkI s = 0 := by simpa using hc14
    have hE : turnedE s way = checkI s := by rw [turnedE, if_pos hk]
    have hT := turned_bad hE hk
    refine gk_newNil 32 encPt 2 ?_
    refine gk_seq ?_
    refine gk_region ?_
    refine gk_y rfl rfl (y_buildL (parts := []) rfl bd34_) ?_
    refine gk_y rfl rfl (y_move rfl) ?_
    refine gk_storeV 1 tf34 rfl rfl (vs := [_, _, _, _, _, _]) rfl rfl rfl rfl rfl ?_
    refine gk_y rfl rfl (y_assign rfl) ?_
    refine gk_nil (gk_sub (T' := [(2,_), (3,_), (4,_), (5,_)]) ⟨rfl, rfl, rfl, rfl, trivial⟩ ?_)
    refine gk_ret ?_
    refine gk_gives (none, 0) 0 (rv_two rfl (r1_cellA (i := 1) (vs := [_, _, _, _, _, _]) tf34 rfl rfl rfl rfl) (r1_tmp rfl)) ?_ (by rw [hT]; rfl)
    rw [hT, hE]; try rfl
  · have hk : checkI s = 0 := by simpa using hc14
    have hlen := check_len hk
    refine gk_skip ?_
    refine gk_seq ?_
    refine gk_seq ?_
    refine gk_region ?_
    refine gk_y rfl rfl (y_loadB1 1 tf3 rfl rfl rfl) ?_
    refine gk_y rfl rfl (y_call en55 rfl (fun w hw => within_c _ _ _ w)) ?_
    refine gk_y rfl rfl (y_not rfl) ?_
    refine gk_nil (gk_sub (T' := [(2,_), (3,_), (4,_), (5,_), (19,_)]) ⟨rfl, rfl, rfl, rfl, rfl, trivial⟩ ?_)
    refine gk_cond rfl (fun hc19 => ?_) (fun hc19 => ?_)
    · have hE : turnedE s way = 3 := by rw [turnedE, if_neg (fun h => h hk), if_pos (by simpa only [Bool.not_eq_true'] using hc19)]
      have hT := turned_bad hE (by decide)
      refine gk_newNil 32 encPt 2 ?_
      refine gk_seq ?_
      refine gk_region ?_
      refine gk_y rfl rfl (y_buildL (parts := []) rfl bd34_) ?_
      refine gk_storeV 1 tf34 rfl rfl (vs := [_, _, _, _, _, _]) rfl rfl rfl rfl rfl ?_
      refine gk_y rfl rfl (y_assign rfl) ?_
      refine gk_nil (gk_sub (T' := [(2,_), (3,_), (4,_), (5,_)]) ⟨rfl, rfl, rfl, rfl, trivial⟩ ?_)
      refine gk_ret ?_
      refine gk_gives (none, 0) 0 (rv_two rfl (r1_cellA (i := 1) (vs := [_, _, _, _, _, _]) tf34 rfl rfl rfl rfl) (r1_tmp rfl)) ?_ (by rw [hT]; rfl)
      rw [hT, hE]; try rfl
    · have hw7 : (decide (0 ≤ way) && decide (way ≤ 7)) = true := by simpa only [Bool.not_eq_false'] using hc19
      have hE : turnedE s way = 0 := by rw [turnedE, if_neg (fun h => h hk), if_neg (by rw [hw7]; exact fun h => Bool.false_ne_true h.symm)]
      have hT := turned_good hE
      have h0 : 0 ≤ way := by simp at hw7; omega
      refine gk_skip ?_
      refine gk_seq ?_
      refine gk_region ?_
      refine gk_y rfl rfl (y_makeFunc («as» := []) (bs := [_]) rfl rfl) ?_
      refine gk_y rfl rfl (y_assign rfl) ?_
      refine gk_nil (gk_sub (T' := [(2,_), (3,_), (4,_), (5,_), (7,_)]) ⟨rfl, rfl, rfl, rfl, rfl, trivial⟩ ?_)
      refine gk_seq ?_
      refine gk_region ?_
      refine gk_y rfl rfl (y_loadBA 2 tf34 rfl rfl (vs := [_, _, _, _, _, _]) rfl rfl) ?_
      refine gk_yx rfl rfl (yx_alloc tf34 (zs := [_, _, _, _, _, _]) rfl) fun b8 => ?_
      refine gk_storeV 0 tf34 rfl rfl (vs := [_, _, _, _, _, _]) rfl rfl rfl rfl rfl ?_
      refine gk_nil (gk_sub (T' := [(2,_), (3,_), (4,_), (5,_), (7,_), (8,_)]) ⟨rfl, rfl, rfl, rfl, rfl, rfl, trivial⟩ ?_)
      refine gk_seq ?_
      refine gk_region ?_
      refine gk_y rfl rfl (y_fieldAddr fo34_1 rfl) ?_
      refine gk_storeV 0 tf31 rfl rfl (vs := [_]) rfl rfl rfl rfl rfl ?_
      refine gk_nil (gk_sub (T' := [(2,_), (3,_), (4,_), (5,_), (7,_), (8,_)]) ⟨rfl, rfl, rfl, rfl, rfl, rfl, trivial⟩ ?_)
      refine gk_seq ?_
      refine gk_seq ?_
      refine gk_region ?_
      refine gk_y rfl rfl (y_fieldAddr fo34_1 rfl) ?_
      refine gk_y rfl rfl (y_loadB1 3 tf31 rfl rfl rfl) ?_
      refine gk_y rfl rfl (y_lenS (Tryd.underlying31) rfl) ?_
      refine gk_y rfl rfl (y_move rfl) ?_
      refine gk_nil (gk_sub (T' := [(2,_), (3,_), (4,_), (5,_), (7,_), (8,_), (25,_), (26,_), (27,_)]) ⟨rfl, rfl, rfl, rfl, rfl, rfl, rfl, rfl, rfl, trivial⟩ ?_)
      refine gk_block ?_
      refine gk_newNil 32 encPt 2 ?_
      refine gk_loop (X := Int × Option Addr × Nat × List Pt) (fun ⟨i, b, bc, m⟩ => [(2, .pointer (some ⟨b2, 0, none⟩)), (3, .pointer (some ⟨b3, 0, none⟩)), (4, .pointer (some ⟨b4, 0, none⟩)), (5, .int .i64 0), (7, .func (.func 58) #[] #[.pointer (some ⟨b3, 0, none⟩)]), (8, .pointer (some ⟨b8, 0, none⟩)), (25, .slice a s.shape.length cap), (26, .int .i64 (s.shape.length : Int)), (27, .int .i64 i)]) (fun ⟨i, b, bc, m⟩ => [Row b 2 bc 32 encPt m, Box b8 [.string s.name, .slice b m.length bc, .int .i64 s.depth, .int .i64 s.density, .int .i64 s.grain.x, .int .i64 s.grain.z] 34, Box b4 [.string ⟨#[]⟩, .slice none 0 0, .int .i64 0, .int .i64 0, .int .i64 0, .int .i64 0] 34, Box b3 [.int .i64 way] 3, Box b2 [.string s.name, .slice a s.shape.length cap, .int .i64 s.depth, .int .i64 s.density, .int .i64 s.grain.x, .int .i64 s.grain.z] 34]) (fun ⟨i, b, bc, m⟩ => (0 ≤ i ∧ i ≤ s.shape.length ∧ m = (s.shape.take i.toNat).map (moveW way) ∧ m.length ≤ s.shape.length)) (fun ⟨i, b, bc, m⟩ => (s.shape.length - i).toNat) (0, none, 0, []) ⟨rfl, rfl, rfl, rfl, rfl, rfl, rfl, rfl, rfl, trivial⟩ rfl ?_ ?_
      · exact ⟨by omega, by omega, rfl, by simp⟩
      · rintro ⟨i, b, bc, m⟩ hI
        obtain ⟨g0, g1, g2, g3⟩ := hI
        refine gk_seq ?_
        refine gk_region ?_
        refine gk_y rfl rfl (y_lss rfl rfl) ?_
        refine gk_nil (gk_sub (T' := [(2,_), (3,_), (4,_), (5,_), (7,_), (8,_), (25,_), (26,_), (27,_), (28,_)]) ⟨rfl, rfl, rfl, rfl, rfl, rfl, rfl, rfl, rfl, rfl, trivial⟩ ?_)
        refine gk_seq ?_
        refine gk_cond rfl (fun hc28 => ?_) (fun hc28 => ?_)
        · simp only [decide_eq_true_eq] at hc28
          refine gk_skip ?_
          refine gk_seq ?_
          refine gk_block ?_
          refine gk_seq ?_
          refine gk_region ?_
          refine gk_y rfl rfl (y_indexE se31 rfl rfl (fun _ hw => (Rd.has (Has.rd hl) hw)) (by omega) (by omega)) ?_
          refine gk_y rfl rfl (y_loadE (vs := [_, _]) tf32 rfl (fun _ hw => (Rd.has (Has.rd hl) hw)) (by omega) (by omega) rfl) ?_
          refine gk_yx rfl rfl (yx_alloc tf32 (zs := [_, _]) rfl) fun b10 => ?_
          refine gk_storeV 0 tf32 rfl rfl (vs := [_, _]) rfl rfl rfl rfl rfl ?_
          refine gk_nil (gk_sub (T' := [(2,_), (3,_), (4,_), (5,_), (7,_), (8,_), (10,_), (25,_), (26,_), (27,_)]) ⟨rfl, rfl, rfl, rfl, rfl, rfl, rfl, rfl, rfl, rfl, trivial⟩ ?_)
          refine gk_any 6 (fun _ => mixed) (by kernel_rfl) ?_
          refine ph_y (y_fieldAddr fo34_1 rfl) ?_
          refine ph_y (y_loadB1 2 tf31 rfl rfl rfl) ?_
          refine ph_y (y_move rfl) ?_
          refine ph_y (y_loadBA 0 tf32 rfl rfl (vs := [_, _]) rfl rfl) ?_
          refine ph_y (y_callV (fs := []) (cap := [_]) en58 rfl rfl (fun w hw => turned1_c (s.shape.getD (i).toNat default) way _ w (hw.has (p := 4) rfl) (Rd.has (Has.rd hways) hw) h0)) ?_
          refine ph_yx (yx_buildSlice rfl (bs31_1 _ _) encPt_ok rfl) ?_
          intro b36
          refine gk_sub (T' := [(2,_), (3,_), (4,_), (5,_), (7,_), (8,_), (25,_), (26,_), (27,_), (32,_), (36,_)]) ⟨rfl, rfl, rfl, rfl, rfl, rfl, rfl, rfl, rfl, rfl, rfl, trivial⟩ ?_
          refine gk_append (m := [⟨((moveW way (s.shape.getD (i).toNat default)).x), ((moveW way (s.shape.getD (i).toNat default)).z)⟩]) 2 af31 encPt_ok rfl rfl rfl rfl (fun _ hw => (has_row encPt_ok (hw.has (p := 0) rfl))) (by first | omega | (simp only [List.length_cons, List.length_nil]; omega)) (by first | (unfold maxLen; omega) | (simp only [List.length_cons, List.length_nil, maxLen]; omega)) fun a37 c37 => ?_
          refine gk_y rfl rfl (y_fieldAddr fo34_1 rfl) ?_
          refine gk_storeV 3 tf31 rfl rfl (vs := [_]) rfl rfl rfl rfl rfl ?_
          refine gk_nil (gk_sub (T' := [(2,_), (3,_), (4,_), (5,_), (7,_), (8,_), (25,_), (26,_), (27,_)]) ⟨rfl, rfl, rfl, rfl, rfl, rfl, rfl, rfl, rfl, trivial⟩ ?_)
          refine gk_region ?_
          refine gk_y rfl rfl (y_addI rfl rfl (by omega) (by omega)) ?_
          refine gk_y rfl rfl (y_move rfl) ?_
          refine gk_nil (gk_sub (T' := [(2,_), (3,_), (4,_), (5,_), (7,_), (8,_), (25,_), (26,_), (27,_)]) ⟨rfl, rfl, rfl, rfl, rfl, rfl, rfl, rfl, rfl, trivial⟩ ?_)
          refine gk_dropAt 0 rfl ?_
          refine gk_dropAt 0 rfl ?_
          exact gk_next (i + 1, a37, c37, _) ⟨rfl, rfl, rfl, rfl, rfl, rfl, rfl, rfl, rfl, trivial⟩ rfl ⟨by omega, by omega, by rw [map_take_succ g0 (by omega), ← g2], by rw [List.length_append, g2, List.length_map, List.length_take]; simp; omega⟩ (by simp only []; omega)
        · simp only [decide_eq_false_iff_not] at hc28
          refine gk_exit rfl ?_
          refine gk_seq ?_
          refine gk_seq ?_
          refine gk_region ?_
          refine gk_y rfl rfl (y_loadB1 3 tf3 rfl rfl rfl) ?_
          refine gk_y rfl rfl (y_gtr rfl rfl) ?_
          refine gk_nil (gk_sub (T' := [(2,_), (4,_), (5,_), (7,_), (8,_), (41,_)]) ⟨rfl, rfl, rfl, rfl, rfl, rfl, trivial⟩ ?_)
          have hm : m = s.shape.map (moveW way) := by rw [g2, take_all (by omega)]
          have hml : m.length = s.shape.length := by rw [hm, List.length_map]
          have hsm : Small m.length := by unfold Small; omega
          refine gk_cond rfl (fun hc41 => ?_) (fun hc41 => ?_)
          · have hc41 := of_decide_eq_true hc41
            have hL : turnedL s way = m.reverse := by rw [turnedL, if_pos hc41, hm]
            rw [hL] at hT
            refine gk_region ?_
            refine gk_y rfl rfl (y_fieldAddr fo34_1 rfl) ?_
            refine gk_y rfl rfl (y_loadB1 1 tf31 rfl rfl rfl) ?_
            refine gk_callU 0 en59 rfl rfl rfl (fun w B hF => reverse_c _ _ m w B (fun k hk => (hF.own k hk).2) hF.A (by assumption)) fun u44 hq44 => ?_
            refine gk_nil (gk_sub (T' := [(2,_), (4,_), (5,_), (7,_), (8,_)]) ⟨rfl, rfl, rfl, rfl, rfl, trivial⟩ ?_)
            refine gk_conv (R' := Box b8 [.string s.name, .slice b (m.reverse).length bc, .int .i64 s.depth, .int .i64 s.density, .int .i64 s.grain.x, .int .i64 s.grain.z] 34) 1 rfl (fun B w hA => by rw [show m.reverse.length = m.length from List.length_reverse ..]; exact hA) ?_
            refine gk_seq ?_
            refine gk_any 8 (fun _ => mixed) (by kernel_rfl) ?_
            refine ph_y (y_fieldAddr fo34_1 rfl) ?_
            refine ph_y (y_loadB1 1 tf31 rfl rfl rfl) ?_
            refine ph_yx (yx_call en60 rfl (fun w hw => settled_c _ _ (m.reverse) w (has_row encPt_ok (hw.has (p := 0) rfl)) (by first | assumption | (rw [List.length_reverse]; assumption)) (by first | omega | (rw [List.length_reverse]; omega)) (row_cap (hw.has (p := 0) rfl)))) ?_
            refine ph_y (y_move rfl) ?_
            refine ph_y (y_fieldAddr fo34_4 rfl) ?_
            refine ph_y (y_loadBA 4 tf32 rfl rfl (vs := [_, _]) rfl rfl) ?_
            refine ph_y (fun p47 => y_callV (fs := []) (cap := [_]) en58 rfl rfl (fun w hw => turned1_c s.grain way _ w (hw.has (p := 4) rfl) (Rd.has (Has.rd hways) hw) h0)) ?_
            refine ph_y (fun p47 => y_fieldAddr fo34_1 rfl) ?_
            intro p47
            refine gk_sub (T' := [(4,_), (5,_), (8,_), (47,_), (51,_), (52,_)]) ⟨rfl, rfl, rfl, rfl, rfl, rfl, trivial⟩ ?_
            refine gk_storeV 2 tf31 rfl rfl (vs := [_]) rfl rfl rfl rfl rfl ?_
            refine gk_y rfl rfl (y_fieldAddr fo34_4 rfl) ?_
            refine gk_storeV 2 tf32 rfl rfl (vs := [_, _]) rfl rfl rfl rfl rfl ?_
            refine gk_nil (gk_sub (T' := [(4,_), (5,_), (8,_)]) ⟨rfl, rfl, rfl, trivial⟩ ?_)
            refine gk_seq ?_
            refine gk_region ?_
            refine gk_y rfl rfl (y_loadBA 2 tf34 rfl rfl (vs := [_, _, _, _, _, _]) rfl rfl) ?_
            refine gk_storeV 3 tf34 rfl rfl (vs := [_, _, _, _, _, _]) rfl rfl rfl rfl rfl ?_
            refine gk_y rfl rfl (y_assign rfl) ?_
            refine gk_nil (gk_sub (T' := [(4,_), (5,_)]) ⟨rfl, rfl, trivial⟩ ?_)
            refine gk_ret ?_
            refine gk_gives p47 0 (rv_two rfl (r1_cellA (i := 3) (vs := [_, _, _, _, _, _]) tf34 rfl rfl rfl rfl) (r1_tmp rfl)) ?_ (by rw [hT]; rfl)
            rw [hT, hE]; try rfl
          · have hc41 := of_decide_eq_false hc41
            have hL : turnedL s way = m := by rw [turnedL, if_neg hc41, hm]
            rw [hL] at hT
            refine gk_skip ?_
            refine gk_seq ?_
            refine gk_any 8 (fun _ => mixed) (by kernel_rfl) ?_
            refine ph_y (y_fieldAddr fo34_1 rfl) ?_
            refine ph_y (y_loadB1 1 tf31 rfl rfl rfl) ?_
            refine ph_yx (yx_call en60 rfl (fun w hw => settled_c _ _ m w (has_row encPt_ok (hw.has (p := 0) rfl)) (by first | assumption | (rw [List.length_reverse]; assumption)) (by first | omega | (rw [List.length_reverse]; omega)) (row_cap (hw.has (p := 0) rfl)))) ?_
            refine ph_y (y_move rfl) ?_
            refine ph_y (y_fieldAddr fo34_4 rfl) ?_
            refine ph_y (y_loadBA 4 tf32 rfl rfl (vs := [_, _]) rfl rfl) ?_
            refine ph_y (fun p47 => y_callV (fs := []) (cap := [_]) en58 rfl rfl (fun w hw => turned1_c s.grain way _ w (hw.has (p := 4) rfl) (Rd.has (Has.rd hways) hw) h0)) ?_
            refine ph_y (fun p47 => y_fieldAddr fo34_1 rfl) ?_
            intro p47
            refine gk_sub (T' := [(4,_), (5,_), (8,_), (47,_), (51,_), (52,_)]) ⟨rfl, rfl, rfl, rfl, rfl, rfl, trivial⟩ ?_
            refine gk_storeV 2 tf31 rfl rfl (vs := [_]) rfl rfl rfl rfl rfl ?_
            refine gk_y rfl rfl (y_fieldAddr fo34_4 rfl) ?_
            refine gk_storeV 2 tf32 rfl rfl (vs := [_, _]) rfl rfl rfl rfl rfl ?_
            refine gk_nil (gk_sub (T' := [(4,_), (5,_), (8,_)]) ⟨rfl, rfl, rfl, trivial⟩ ?_)
            refine gk_seq ?_
            refine gk_region ?_
            refine gk_y rfl rfl (y_loadBA 2 tf34 rfl rfl (vs := [_, _, _, _, _, _]) rfl rfl) ?_
            refine gk_storeV 3 tf34 rfl rfl (vs := [_, _, _, _, _, _]) rfl rfl rfl rfl rfl ?_
            refine gk_y rfl rfl (y_assign rfl) ?_
            refine gk_nil (gk_sub (T' := [(4,_), (5,_)]) ⟨rfl, rfl, trivial⟩ ?_)
            refine gk_ret ?_
            refine gk_gives p47 0 (rv_two rfl (r1_cellA (i := 3) (vs := [_, _, _, _, _, _]) tf34 rfl rfl rfl rfl) (r1_tmp rfl)) ?_ (by rw [hT]; rfl)
            rw [hT, hE]; try rfl
end Go.Proofs.YtahahmelnaphjaaDoor

namespace Go.Stn
open Go Go.K Go.RowKit
set_option maxRecDepth 100000
theorem brick_ok : checkI brickS = 0 := by decide +kernel
theorem brick_weight : weightW brickS = 7680000000 := by decide +kernel
def wA : Stn := ⟨⟨#[98, 114, 105, 99, 107, 97]⟩, [⟨0, 0⟩, ⟨50, 0⟩, ⟨50, 80⟩, ⟨0, 80⟩], 100, 2400, ⟨1, 0⟩⟩
def wB : Stn := ⟨⟨#[98, 114, 105, 99, 107, 98]⟩, [⟨0, 0⟩, ⟨150, 0⟩, ⟨150, 80⟩, ⟨0, 80⟩], 100, 2400, ⟨1, 0⟩⟩
theorem brick_splitE : splitE brickS ⟨50, 0⟩ ⟨50, 80⟩ = 0 := by decide +kernel
theorem brick_splitA : splitA brickS ⟨50, 0⟩ ⟨50, 80⟩ = wA := by decide +kernel
theorem brick_splitB : splitB brickS ⟨50, 0⟩ ⟨50, 80⟩ = wB := by decide +kernel
theorem brick_in : 0 ≤ findI (eqB ⟨0, 40⟩) (borderL brickS.shape) := by decide +kernel
theorem brick_struck : struckE brickS ⟨0, 40⟩ 0 = 0 := by decide +kernel
theorem brick_out : outL brickS ⟨0, 40⟩ 0 = [⟨200, 40⟩] := by decide +kernel
theorem brick_turnE : turnedE brickS 1 = 0 := by decide +kernel
theorem brick_turn : (turnedS brickS 1).grain = ⟨0, 1⟩ := by decide +kernel
theorem brick_border : (askL brickS (borderL brickS.shape)).length = 560 := by decide +kernel
end Go.Stn

namespace Go.Proofs.YtahahmelnaphjaaDoor
open Go.K Go.Stn Go.RowKit
theorem en19 : En Tryd.prog 19 := en_of Tryd.func19 (by kernel_rfl) (by kernel_rfl)
theorem en23 : En Tryd.prog 23 := en_of Tryd.func23 (by kernel_rfl) (by kernel_rfl)
theorem en26 : En Tryd.prog 26 := en_of Tryd.func26 (by kernel_rfl) (by kernel_rfl)
theorem en28 : En Tryd.prog 28 := en_of Tryd.func28 (by kernel_rfl) (by kernel_rfl)
theorem en35 : En Tryd.prog 35 := en_of Tryd.func35 (by kernel_rfl) (by kernel_rfl)
theorem en52 : En Tryd.prog 52 := en_of Tryd.func52 (by kernel_rfl) (by kernel_rfl)
set_option maxRecDepth 100000 in
set_option maxHeartbeats 1000000 in
theorem wakes_c  (w : World) (hways : Has w (Elems (some ⟨0, 0, none⟩) 1 encVal [.func (.func 173) #[] #[], .func (.func 174) #[] #[], .func (.func 175) #[] #[], .func (.func 176) #[] #[]])) :
    Calls Tryd.prog 15 #[] w (Pure (.bool true) w) := by
  have hs : Small brickS.shape.length := by decide
  have hA4 : (1 : Int) < ((splitA brickS (⟨50, 0⟩ : Pt) (⟨50, 80⟩ : Pt)).shape.length : Int) := by rw [brick_splitA]; decide
  have hO1 : (0 : Int) < ((outL brickS (⟨0, 40⟩ : Pt) 0).length : Int) := by rw [brick_out]; decide
  have hin : struckE brickS (⟨0, 40⟩ : Pt) 0 = 0 → 0 ≤ findI (eqB (⟨0, 40⟩ : Pt)) (borderL brickS.shape) := fun _ => brick_in
  refine calls_of_gk (vs := []) Tryd.func15 rfl rfl (Nat.le_of_ble_eq_true rfl) ?_
  refine gk_seq ?_
  refine gk_region ?_
  refine gk_y rfl rfl (y_assign rfl) ?_
  refine gk_nil (gk_sub (T' := [(0,_)]) ⟨rfl, trivial⟩ ?_)
  refine gk_seq ?_
  refine gk_region ?_
  refine gk_yx rfl rfl (yx_call en52 rfl (fun w hw => brick_c w)) fun p13 => ?_
  refine gk_yx rfl rfl (yx_alloc tf34 (zs := [_, _, _, _, _, _]) rfl) fun b1 => ?_
  refine gk_storeV 0 tf34 rfl rfl (vs := [_, _, _, _, _, _]) rfl rfl rfl rfl rfl ?_
  refine gk_nil (gk_sub (T' := [(0,_), (1,_)]) ⟨rfl, rfl, trivial⟩ ?_)
  refine gk_seq ?_
  refine gk_region ?_
  refine gk_y rfl rfl (y_loadBA 0 tf34 rfl rfl (vs := [_, _, _, _, _, _]) rfl rfl) ?_
  refine gk_y rfl rfl (y_call en28 rfl (fun w hw => weight_c _ _ brickS w (has_row encPt_ok (hw.has (p := 1) rfl)) (by assumption))) ?_
  refine gk_y rfl rfl (y_move rfl) ?_
  refine gk_y rfl rfl (y_extract rfl rfl) ?_
  refine gk_y rfl rfl (y_extract rfl rfl) ?_
  refine gk_y rfl rfl (y_assign rfl) ?_
  refine gk_y rfl rfl (y_assign rfl) ?_
  refine gk_nil (gk_sub (T' := [(0,_), (1,_), (2,_), (3,_)]) ⟨rfl, rfl, rfl, rfl, trivial⟩ ?_)
  refine gk_seq ?_
  refine gk_region ?_
  refine gk_y rfl rfl (y_loadBA 0 tf34 rfl rfl (vs := [_, _, _, _, _, _]) rfl rfl) ?_
  refine gk_y rfl rfl (y_buildL rfl (bd32_0i _)) ?_
  refine gk_y rfl rfl (y_buildL rfl (bd32_0i_1i _ _)) ?_
  refine gk_yx rfl rfl (yx_call en26 rfl (fun w hw => Split_c _ _ brickS (⟨50, 0⟩ : Pt) (⟨50, 80⟩ : Pt) w (has_row encPt_ok (hw.has (p := 1) rfl)) (by assumption))) fun p23 => gk_split ?_
  refine gk_y rfl rfl (y_move rfl) ?_
  refine gk_y rfl rfl (y_extract rfl rfl) ?_
  refine gk_y rfl rfl (y_extract rfl rfl) ?_
  refine gk_y rfl rfl (y_extract rfl rfl) ?_
  refine gk_yx rfl rfl (yx_alloc tf34 (zs := [_, _, _, _, _, _]) rfl) fun b4 => ?_
  refine gk_yx rfl rfl (yx_alloc tf34 (zs := [_, _, _, _, _, _]) rfl) fun b5 => ?_
  refine gk_storeV 1 tf34 rfl rfl (vs := [_, _, _, _, _, _]) rfl rfl rfl rfl rfl ?_
  refine gk_storeV 0 tf34 rfl rfl (vs := [_, _, _, _, _, _]) rfl rfl rfl rfl rfl ?_
  refine gk_y rfl rfl (y_assign rfl) ?_
  refine gk_nil (gk_sub (T' := [(0,_), (1,_), (2,_), (3,_), (4,_), (5,_), (6,_)]) ⟨rfl, rfl, rfl, rfl, rfl, rfl, rfl, trivial⟩ ?_)
  refine gk_seq ?_
  refine gk_region ?_
  refine gk_y rfl rfl (y_loadBA 4 tf34 rfl rfl (vs := [_, _, _, _, _, _]) rfl rfl) ?_
  refine gk_y rfl rfl (y_buildL rfl (bd32_1i _)) ?_
  refine gk_yx rfl rfl (yx_call en35 rfl (fun w hw => Outcomes_c _ _ brickS (⟨0, 40⟩ : Pt) 0 w (has_row encPt_ok (hw.has (p := 5) rfl)) (by assumption) (by assumption))) fun p30 => ?_
  refine gk_y rfl rfl (y_move rfl) ?_
  refine gk_y rfl rfl (y_extract rfl rfl) ?_
  refine gk_y rfl rfl (y_extract rfl rfl) ?_
  refine gk_y rfl rfl (y_assign rfl) ?_
  refine gk_y rfl rfl (y_assign rfl) ?_
  refine gk_nil (gk_sub (T' := [(0,_), (1,_), (2,_), (3,_), (4,_), (5,_), (6,_), (7,_), (8,_)]) ⟨rfl, rfl, rfl, rfl, rfl, rfl, rfl, rfl, rfl, trivial⟩ ?_)
  refine gk_seq ?_
  refine gk_region ?_
  refine gk_y rfl rfl (y_loadBA 5 tf34 rfl rfl (vs := [_, _, _, _, _, _]) rfl rfl) ?_
  refine gk_yx rfl rfl (yx_call en19 rfl (fun w hw => Turned_c _ _ brickS 1 w (has_row encPt_ok (hw.has (p := 6) rfl)) (by assumption) (Rd.has (Has.rd hways) hw))) fun p35 => ?_
  refine gk_y rfl rfl (y_move rfl) ?_
  refine gk_y rfl rfl (y_extract rfl rfl) ?_
  refine gk_y rfl rfl (y_extract rfl rfl) ?_
  refine gk_yx rfl rfl (yx_alloc tf34 (zs := [_, _, _, _, _, _]) rfl) fun b9 => ?_
  refine gk_storeV 0 tf34 rfl rfl (vs := [_, _, _, _, _, _]) rfl rfl rfl rfl rfl ?_
  refine gk_y rfl rfl (y_assign rfl) ?_
  refine gk_nil (gk_sub (T' := [(0,_), (1,_), (2,_), (3,_), (4,_), (5,_), (6,_), (7,_), (8,_), (9,_), (10,_)]) ⟨rfl, rfl, rfl, rfl, rfl, rfl, rfl, rfl, rfl, rfl, rfl, trivial⟩ ?_)
  refine gk_seq ?_
  refine gk_region ?_
  refine gk_y rfl rfl (y_loadBA 7 tf34 rfl rfl (vs := [_, _, _, _, _, _]) rfl rfl) ?_
  refine gk_yx rfl rfl (yx_call en23 rfl (fun w hw => Border_c _ _ brickS w (has_row encPt_ok (hw.has (p := 8) rfl)) (by assumption))) fun p40 => ?_
  refine gk_y rfl rfl (y_move rfl) ?_
  refine gk_y rfl rfl (y_extract rfl rfl) ?_
  refine gk_y rfl rfl (y_extract rfl rfl) ?_
  refine gk_y rfl rfl (y_assign rfl) ?_
  refine gk_y rfl rfl (y_assign rfl) ?_
  refine gk_nil (gk_sub (T' := [(0,_), (2,_), (3,_), (4,_), (5,_), (6,_), (7,_), (8,_), (9,_), (10,_), (11,_), (12,_)]) ⟨rfl, rfl, rfl, rfl, rfl, rfl, rfl, rfl, rfl, rfl, rfl, rfl, trivial⟩ ?_)
  refine gk_seq ?_
  refine gk_region ?_
  refine gk_y rfl rfl (y_move rfl) ?_
  refine gk_y rfl rfl (y_castT (y_eql rfl rfl) (by rw [brick_ok]; rfl)) ?_
  refine gk_y rfl rfl (y_move rfl) ?_
  refine gk_guard rfl rfl rfl rfl (fun _ => ?_) (fun h => absurd h (by decide))
  refine gk_y rfl rfl (y_move rfl) ?_
  refine gk_guard rfl rfl rfl rfl (fun _ => ?_) (fun h => absurd h (by decide))
  refine gk_y rfl rfl (y_castT (y_eql rfl rfl) (by rw [askI, if_pos brick_ok, brick_weight]; rfl)) ?_
  refine gk_y rfl rfl (y_pick rfl rfl rfl) ?_
  refine gk_y rfl rfl (y_move rfl) ?_
  refine gk_guard rfl rfl rfl rfl (fun _ => ?_) (fun h => absurd h (by decide))
  refine gk_y rfl rfl (y_move rfl) ?_
  refine gk_guard rfl rfl rfl rfl (fun _ => ?_) (fun h => absurd h (by decide))
  refine gk_y rfl rfl (y_castT (y_eql rfl rfl) (by rw [brick_splitE]; rfl)) ?_
  refine gk_y rfl rfl (y_pick rfl rfl rfl) ?_
  refine gk_y rfl rfl (y_move rfl) ?_
  refine gk_guard rfl rfl rfl rfl (fun _ => ?_) (fun h => absurd h (by decide))
  refine gk_y rfl rfl (y_fieldAddr fo34_0 rfl) ?_
  refine gk_guard rfl rfl rfl rfl (fun _ => ?_) (fun h => absurd h (by decide))
  refine gk_y rfl rfl (y_loadB1 5 tf9 rfl rfl rfl) ?_
  refine gk_guard rfl rfl rfl rfl (fun _ => ?_) (fun h => absurd h (by decide))
  refine gk_y rfl rfl (y_castT (y_strEq rfl rfl) (by rw [brick_splitA]; decide +kernel)) ?_
  refine gk_y rfl rfl (y_pick rfl rfl rfl) ?_
  refine gk_y rfl rfl (y_move rfl) ?_
  refine gk_guard rfl rfl rfl rfl (fun _ => ?_) (fun h => absurd h (by decide))
  refine gk_y rfl rfl (y_fieldAddr fo34_1 rfl) ?_
  refine gk_guard rfl rfl rfl rfl (fun _ => ?_) (fun h => absurd h (by decide))
  refine gk_y rfl rfl (y_loadB1 5 tf31 rfl rfl rfl) ?_
  refine gk_guard rfl rfl rfl rfl (fun _ => ?_) (fun h => absurd h (by decide))
  refine gk_y rfl rfl (y_lenS (Tryd.underlying31) rfl) ?_
  refine gk_guard rfl rfl rfl rfl (fun _ => ?_) (fun h => absurd h (by decide))
  refine gk_y rfl rfl (y_castT (y_eql rfl rfl) (by rw [brick_splitA]; rfl)) ?_
  refine gk_y rfl rfl (y_pick rfl rfl rfl) ?_
  refine gk_y rfl rfl (y_move rfl) ?_
  refine gk_guard rfl rfl rfl rfl (fun _ => ?_) (fun h => absurd h (by decide))
  refine gk_y rfl rfl (y_fieldAddr fo34_1 rfl) ?_
  refine gk_guard rfl rfl rfl rfl (fun _ => ?_) (fun h => absurd h (by decide))
  refine gk_y rfl rfl (y_loadB1 5 tf31 rfl rfl rfl) ?_
  refine gk_guard rfl rfl rfl rfl (fun _ => ?_) (fun h => absurd h (by decide))
  refine gk_y rfl rfl (y_indexE se31 rfl rfl (fun _ hw => (has_row encPt_ok (hw.has (p := 6) rfl))) (by omega) (by omega)) ?_
  refine gk_guard rfl rfl rfl rfl (fun _ => ?_) (fun h => absurd h (by decide))
  refine gk_y rfl rfl (y_fieldE fo32_0 rfl (fun w hw => elems_addr (i := 1) (has_row encPt_ok (hw.has (p := 6) rfl)) (by omega) (by omega))) ?_
  refine gk_guard rfl rfl rfl rfl (fun _ => ?_) (fun h => absurd h (by decide))
  refine gk_y rfl rfl (y_loadEF tf3 rfl (fun _ hw => (has_row encPt_ok (hw.has (p := 6) rfl))) (by omega) (by omega) rfl) ?_
  refine gk_guard rfl rfl rfl rfl (fun _ => ?_) (fun h => absurd h (by decide))
  refine gk_y rfl rfl (y_castT (y_eql rfl rfl) (by rw [brick_splitA]; rfl)) ?_
  refine gk_y rfl rfl (y_pick rfl rfl rfl) ?_
  refine gk_y rfl rfl (y_move rfl) ?_
  refine gk_guard rfl rfl rfl rfl (fun _ => ?_) (fun h => absurd h (by decide))
  refine gk_y rfl rfl (y_fieldAddr fo34_0 rfl) ?_
  refine gk_guard rfl rfl rfl rfl (fun _ => ?_) (fun h => absurd h (by decide))
  refine gk_y rfl rfl (y_loadB1 4 tf9 rfl rfl rfl) ?_
  refine gk_guard rfl rfl rfl rfl (fun _ => ?_) (fun h => absurd h (by decide))
  refine gk_y rfl rfl (y_castT (y_strEq rfl rfl) (by rw [brick_splitB]; decide +kernel)) ?_
  refine gk_y rfl rfl (y_pick rfl rfl rfl) ?_
  refine gk_y rfl rfl (y_move rfl) ?_
  refine gk_guard rfl rfl rfl rfl (fun _ => ?_) (fun h => absurd h (by decide))
  refine gk_y rfl rfl (y_move rfl) ?_
  refine gk_guard rfl rfl rfl rfl (fun _ => ?_) (fun h => absurd h (by decide))
  refine gk_y rfl rfl (y_castT (y_eql rfl rfl) (by rw [brick_struck]; rfl)) ?_
  refine gk_y rfl rfl (y_pick rfl rfl rfl) ?_
  refine gk_y rfl rfl (y_move rfl) ?_
  refine gk_guard rfl rfl rfl rfl (fun _ => ?_) (fun h => absurd h (by decide))
  refine gk_y rfl rfl (y_move rfl) ?_
  refine gk_guard rfl rfl rfl rfl (fun _ => ?_) (fun h => absurd h (by decide))
  refine gk_y rfl rfl (y_lenS (Tryd.underlying31) rfl) ?_
  refine gk_guard rfl rfl rfl rfl (fun _ => ?_) (fun h => absurd h (by decide))
  refine gk_y rfl rfl (y_castT (y_eql rfl rfl) (by rw [brick_out]; rfl)) ?_
  refine gk_y rfl rfl (y_pick rfl rfl rfl) ?_
  refine gk_y rfl rfl (y_move rfl) ?_
  refine gk_guard rfl rfl rfl rfl (fun _ => ?_) (fun h => absurd h (by decide))
  refine gk_y rfl rfl (y_move rfl) ?_
  refine gk_guard rfl rfl rfl rfl (fun _ => ?_) (fun h => absurd h (by decide))
  refine gk_y rfl rfl (y_indexE se31 rfl rfl (fun _ hw => (has_row encPt_ok (hw.has (p := 3) rfl))) (by omega) (by omega)) ?_
  refine gk_guard rfl rfl rfl rfl (fun _ => ?_) (fun h => absurd h (by decide))
  refine gk_y rfl rfl (y_loadE (vs := [_, _]) tf32 rfl (fun _ hw => (has_row encPt_ok (hw.has (p := 3) rfl))) (by omega) (by omega) rfl) ?_
  refine gk_guard rfl rfl rfl rfl (fun _ => ?_) (fun h => absurd h (by decide))
  refine gk_y rfl rfl (y_buildL rfl (bd32_0i_1i _ _)) ?_
  refine gk_guard rfl rfl rfl rfl (fun _ => ?_) (fun h => absurd h (by decide))
  refine gk_y rfl rfl (y_castT (y_eql32 rfl rfl) (by rw [brick_out]; rfl)) ?_
  refine gk_y rfl rfl (y_pick rfl rfl rfl) ?_
  refine gk_y rfl rfl (y_move rfl) ?_
  refine gk_guard rfl rfl rfl rfl (fun _ => ?_) (fun h => absurd h (by decide))
  refine gk_y rfl rfl (y_move rfl) ?_
  refine gk_guard rfl rfl rfl rfl (fun _ => ?_) (fun h => absurd h (by decide))
  refine gk_y rfl rfl (y_castT (y_eql rfl rfl) (by rw [brick_turnE]; rfl)) ?_
  refine gk_y rfl rfl (y_pick rfl rfl rfl) ?_
  refine gk_y rfl rfl (y_move rfl) ?_
  refine gk_guard rfl rfl rfl rfl (fun _ => ?_) (fun h => absurd h (by decide))
  refine gk_y rfl rfl (y_fieldAddr fo34_4 rfl) ?_
  refine gk_guard rfl rfl rfl rfl (fun _ => ?_) (fun h => absurd h (by decide))
  refine gk_y rfl rfl (y_loadBA 1 tf32 rfl rfl (vs := [_, _]) rfl rfl) ?_
  refine gk_guard rfl rfl rfl rfl (fun _ => ?_) (fun h => absurd h (by decide))
  refine gk_y rfl rfl (y_buildL rfl (bd32_1i _)) ?_
  refine gk_guard rfl rfl rfl rfl (fun _ => ?_) (fun h => absurd h (by decide))
  refine gk_y rfl rfl (y_castT (y_eql32 rfl rfl) (by rw [brick_turn]; rfl)) ?_
  refine gk_y rfl rfl (y_pick rfl rfl rfl) ?_
  refine gk_y rfl rfl (y_move rfl) ?_
  refine gk_guard rfl rfl rfl rfl (fun _ => ?_) (fun h => absurd h (by decide))
  refine gk_y rfl rfl (y_move rfl) ?_
  refine gk_guard rfl rfl rfl rfl (fun _ => ?_) (fun h => absurd h (by decide))
  refine gk_y rfl rfl (y_castT (y_eql rfl rfl) (by rw [brick_ok]; rfl)) ?_
  refine gk_y rfl rfl (y_pick rfl rfl rfl) ?_
  refine gk_y rfl rfl (y_move rfl) ?_
  refine gk_guard rfl rfl rfl rfl (fun _ => ?_) (fun h => absurd h (by decide))
  refine gk_y rfl rfl (y_move rfl) ?_
  refine gk_guard rfl rfl rfl rfl (fun _ => ?_) (fun h => absurd h (by decide))
  refine gk_y rfl rfl (y_lenS (Tryd.underlying31) rfl) ?_
  refine gk_guard rfl rfl rfl rfl (fun _ => ?_) (fun h => absurd h (by decide))
  refine gk_y rfl rfl (y_castT (y_eql rfl rfl) (by rw [brick_border]; rfl)) ?_
  refine gk_y rfl rfl (y_pick rfl rfl rfl) ?_
  refine gk_y rfl rfl (y_assign rfl) ?_
  refine gk_nil (gk_sub (T' := [(0,_)]) ⟨rfl, trivial⟩ ?_)
  refine gk_ret ?_
  refine gk_pure (rv_one rfl (r1_tmp rfl)) ?_
  rfl
end Go.Proofs.YtahahmelnaphjaaDoor

namespace Go.Proofs.YtahahmelnaphjaaDoor
open Go Go.K Go.Stn Go.ChangeShapes Go.WideShapes Go.ChangeAt Go.RowKit
theorem own : ownKnob Tryd.prog.godebug = none := by kernel_rfl
theorem laidOut : laidOutB Tryd.prog = true := by kernel_rfl
theorem gWays : Tryd.prog.globalNamed "copestone/stone.ways" = some 0 := by kernel_rfl
theorem tWays : (Tryd.prog.globals[0]?).map (·.type) = some 91 := by kernel_rfl
abbrev laid1 : List (String × DataW Unit) := [("copestone/stone.ways", Rows.laid_copestone_stone_ways)]
abbrev wayFns : List Value := [.func (.func 173) #[] #[], .func (.func 174) #[] #[], .func (.func 175) #[] #[], .func (.func 176) #[] #[]]
theorem door_met (os : Os) (args : Array Value) : laidMetH Tryd.prog laid1 ((World.doorLaid Tryd.prog 400 os).forCall (fun _ _ => 0) ⟨#[], args, []⟩).memory :=
  laidMetH_of_parts3 (fuel := 8) (laidMet_of_run' 8 (by kernel_rfl) (by kernel_rfl)) (by kernel_rfl) (by kernel_rfl)
set_option maxRecDepth 100000 in
theorem of_laid {W : World} (h : laidMetH Tryd.prog laid1 W) : Has W (Elems (some ⟨0, 0, none⟩) 1 encVal wayFns) := by
  obtain ⟨g, t, cs, fuel, p, hg, ht, hv, hd⟩ := funcs_at h (List.mem_cons_self ..) rfl rfl
  obtain rfl := Option.some.inj (gWays.symm.trans hg)
  obtain rfl := Option.some.inj (tWays.symm.trans ht)
  obtain ⟨xs, m, _, hx, hlen, hn, hel⟩ := DataW.trod_array Tryd.underlying91 hd
  have c90 : Tryd.prog.cellsOf 90 = 1 := by kernel_rfl
  have c91 : Tryd.prog.cellsOf 91 = 4 := by kernel_rfl
  rw [c91] at hlen
  rw [c90] at hel
  simp only [Prod.mk.injEq] at hx
  have hx1 := hx.1
  obtain ⟨l⟩ := cs
  match l, hlen, xs, hn with
  | [v0, v1, v2, v3], _, [x0, x1, x2, x3], _ =>
    have hx2 : DataW.agg [DataW.held _, DataW.held _, DataW.held _, DataW.held _] = DataW.agg [x0.1, x1.1, x2.1, x3.1] := hx1
    simp only [DataW.agg.injEq, List.cons.injEq, and_true] at hx2
    obtain ⟨y0, y1, y2, y3⟩ := hx2
    have f0 : v0 = .func (.func 173) #[] #[] := func_of_trod (q := x0.2) Tryd.underlying90 (by kernel_rfl) (by have := hel 0 (by decide); rw [show x0 = (x0.1, x0.2) from rfl, ← y0] at this; exact this)
    have f1 : v1 = .func (.func 174) #[] #[] := func_of_trod (q := x1.2) Tryd.underlying90 (by kernel_rfl) (by have := hel 1 (by decide); rw [show x1 = (x1.1, x1.2) from rfl, ← y1] at this; exact this)
    have f2 : v2 = .func (.func 175) #[] #[] := func_of_trod (q := x2.2) Tryd.underlying90 (by kernel_rfl) (by have := hel 2 (by decide); rw [show x2 = (x2.1, x2.2) from rfl, ← y2] at this; exact this)
    have f3 : v3 = .func (.func 176) #[] #[] := func_of_trod (q := x3.2) Tryd.underlying90 (by kernel_rfl) (by have := hel 3 (by decide); rw [show x3 = (x3.1, x3.2) from rfl, ← y3] at this; exact this)
    subst f0; subst f1; subst f2; subst f3
    have hc := World.var?_cell hg hv
    have hb : 0 < W.heap.size := by
      rcases Nat.lt_or_ge 0 W.heap.size with h | h
      · exact h
      · exfalso
        have := hc 0
        simp [World.cell?, Array.getElem?_eq_none h] at this
    refine ⟨(· = 0), fun k hk => by rw [hk]; exact hb, .inr ⟨0, 0, rfl, fun _ => Iff.rfl, fun i x hi => ?_⟩⟩
    refine ⟨?_, trivial⟩
    have := hc i
    rw [show 0 + i * 1 = i from by omega, this]
    simpa using hi
theorem stnT : ∃ f0 f1 f2 f3 f4 fx fz, StnT Tryd.prog 26 22 24 f0 f1 f2 f3 f4 fx fz :=
  ⟨_, _, _, _, _, _, _, Tryd.underlying26, rfl, rfl, rfl, rfl, rfl, by kernel_rfl, rfl, Tryd.underlying22, by kernel_rfl, by kernel_rfl, rfl, by kernel_rfl, by kernel_rfl, by kernel_rfl, by kernel_rfl, by kernel_rfl,
    ⟨Tryd.underlying24, rfl, rfl, by kernel_rfl, by kernel_rfl, by kernel_rfl, by kernel_rfl, by kernel_rfl⟩⟩
abbrev zeroStone : Value := .agg #[.string ⟨#[]⟩, .slice none 0 0, .int .i64 0, .int .i64 0, .int .i64 0, .int .i64 0]
end Go.Proofs.YtahahmelnaphjaaDoor

namespace Go.Proofs.YtahahmelnaphjaaDoor
open Go Go.K Go.Stn Go.ChangeShapes Go.WideShapes Go.ChangeAt Go.RowKit
theorem stone_fits {H : Type} {enc : TypeId × Value → H} {P : Program} {w : World} {base : Nat} {spare : Nat → Bool} {held : Bool} {t tl e : TypeId} {f0 f1 f2 f3 f4 fx fz : Field} {s : Stn} {a : Option Addr} {cap : Nat} {d : DataW H} {p : List MemPlace} (T : StnT P t tl e f0 f1 f2 f3 f4 fx fz)
    (h : DataW.Trod enc P w base spare held t (stnV s a cap) d p) {ts : List TypeId} {r : List (DataW H)} (hw : (DataW.weightsEach P (t :: ts) (d :: r)).all (· ≤ reachBytes) = true) : Fits s.name.size := by
  obtain ⟨fuel, hf⟩ := h
  obtain ⟨ys, n, _, hx, hlen, hyl, hg⟩ := DataW.trod_struct T.u hf
  match ys, hyl with
  | [y0, y1, y2, y3, y4], _ =>
    have h0 := hg 0 f0 rfl
    rw [T.o0, T.c0] at h0
    obtain ⟨s', e0, ey, w0⟩ := DataW.trod_string T.t0 (show DataW.trod enc P w base spare held n f0.type [.string s.name] = some y0 from h0)
    simp only [List.cons.injEq, Value.string.injEq, and_true] at e0
    subst e0
    simp only [Prod.mk.injEq] at hx
    have hd := hx.1
    subst hd
    have hb : DataW.weightsEach P (t :: ts) (DataW.agg (List.map (fun x => x.1) [y0, y1, y2, y3, y4]) :: r) = s.name.size :: ((DataW.weightsEach P [f1.type, f2.type, f3.type, f4.type] [y1.1, y2.1, y3.1, y4.1]) ++ DataW.weightsEach P ts r) := by
      rw [DataW.weightsEach, DataW.weights, T.u]
      simp only [List.map_cons, List.map_nil, ey]
      show DataW.weightsEach P (f0.type :: [f1.type, f2.type, f3.type, f4.type]) (DataW.lit (Lit.string s.name.data.toList) :: [y1.1, y2.1, y3.1, y4.1]) ++ DataW.weightsEach P ts r = _
      rw [DataW.weightsEach, DataW.weights]
      rfl
    rw [hb] at hw
    simp only [List.all_cons, Bool.and_eq_true, decide_eq_true_eq] at hw
    have := hw.1
    unfold reachBytes at this
    unfold Fits
    omega
end Go.Proofs.YtahahmelnaphjaaDoor

namespace Go.Proofs.YtahahmelnaphjaaDoor
open Go.K Go.Stn Go.RowKit
theorem tf26 : TF Tryd.prog 26 true 6 (.agg #[.string ⟨#[]⟩, .slice none 0 0, .int IntKind.i64 0, .int IntKind.i64 0, .int IntKind.i64 0, .int IntKind.i64 0]) := ⟨by kernel_rfl, by kernel_rfl⟩
theorem en15 : En Tryd.prog 15 := en_of Tryd.func15 (by kernel_rfl) (by kernel_rfl)
theorem en16 : En Tryd.prog 16 := en_of Tryd.func16 (by kernel_rfl) (by kernel_rfl)
theorem en18 : En Tryd.prog 18 := en_of Tryd.func18 (by kernel_rfl) (by kernel_rfl)
end Go.Proofs.YtahahmelnaphjaaDoor

namespace Go.Stn
open Go Go.K Go.RowKit
/-- in its place -/
def settleI (l : List Pt) (i : Nat) : Pt := subW (ptAt l ((rfirst l + (i : Int)).tmod (l.length : Int))) (leastL l)
def settleW (l : List Pt) : List Pt := (List.range l.length).map (settleI l)
theorem rfirst_in {l : List Pt} (h : 0 < l.length) : 0 ≤ rfirst l ∧ rfirst l < (l.length : Int) := by
  obtain ⟨m, h1, h2, _⟩ := rfirst_spec h
  omega
end Go.Stn

namespace Go.Stn
open Go Go.K Go.RowKit
def ronB (a b p : Pt) : Bool := (decide (sideW a b p = 0) && (decide (min a.x b.x ≤ p.x) && decide (p.x ≤ max a.x b.x))) && (decide (min a.z b.z ≤ p.z) && decide (p.z ≤ max a.z b.z))
def rbordN (l : List Pt) (p : Pt) (n : Nat) : Bool := !allI n fun i => !ronB (ptAt l i) (nextL l i) p
def rbordB (l : List Pt) (p : Pt) : Bool := !farB p && rbordN l p l.length
def rboth (l : List Pt) (p q : Pt) (i : Int) : Bool := ronB (ptAt l i) (nextL l i) p && ronB (ptAt l i) (nextL l i) q
def rapartB (l : List Pt) (p q : Pt) : Bool := allI l.length fun i => !rboth l p q i
theorem rbord_yes {l : List Pt} {p : Pt} {i : Int} (hf : farB p = false) (h0 : 0 ≤ i) (h1 : i < (l.length : Int)) (h : ronB (ptAt l i) (nextL l i) p = true) : rbordB l p = true := by
  rw [rbordB, hf, rbordN, allI_false (i := i.toNat) (by omega) (by rw [show ((i.toNat : Nat) : Int) = i from by omega, h]; rfl)]; rfl
/-- is the corner the first one to the left? -/
def leftC (l : List Pt) (p q : Pt) (i : Int) : Bool := decide (0 < sideW p q (ptAt l i)) && decide (sideW p q (ptAt l ((i + (l.length : Int) - 1).tmod (l.length : Int))) ≤ 0)
def fromN (l : List Pt) (p q : Pt) : Nat → Int
  | 0 => 0
  | n + 1 => if leftC l p q (n : Int) = true then (n : Int) else fromN l p q n
theorem from_in {l : List Pt} {p q : Pt} : ∀ n, 0 ≤ fromN l p q n ∧ fromN l p q n ≤ (n : Int) ∧ (0 < n → fromN l p q n < (n : Int))
  | 0 => by simp [fromN]
  | n + 1 => by
    have := from_in (l := l) (p := p) (q := q) n
    unfold fromN
    split <;> omega
theorem from_succ {l : List Pt} {p q : Pt} {i : Int} (h0 : 0 ≤ i) : fromN l p q (i + 1).toNat = if leftC l p q i = true then i else fromN l p q i.toNat := by
  rw [show (i + 1).toNat = i.toNat + 1 from by omega, fromN, show ((i.toNat : Nat) : Int) = i from by omega]
def leftP (l : List Pt) (f : Int) (i : Int) : Pt := ptAt l ((f + i).tmod (l.length : Int))
def leftO (l : List Pt) (p q : Pt) (f : Int) (n : Nat) : List Pt := p :: q :: ((List.range n).map fun (j : Nat) => leftP l f (j : Int)).filter fun c => decide (0 < sideW p q c)
def leftL (l : List Pt) (p q : Pt) : List Pt := leftO l p q (fromN l p q l.length) l.length
theorem leftO_succ {l : List Pt} {p q : Pt} {f i : Int} (h0 : 0 ≤ i) : leftO l p q f (i + 1).toNat = if decide (0 < sideW p q (leftP l f i)) = true then leftO l p q f i.toNat ++ [leftP l f i] else leftO l p q f i.toNat := by
  unfold leftO
  rw [show (i + 1).toNat = i.toNat + 1 from by omega, List.range_succ, List.map_append, List.filter_append]
  have e : (List.map (fun (j : Nat) => leftP l f (j : Int)) [i.toNat]) = [leftP l f i] := by
    rw [List.map_cons, List.map_nil, show ((i.toNat : Nat) : Int) = i from by omega]
  rw [e]
  by_cases h : 0 < sideW p q (leftP l f i)
  · simp [h]
  · simp [h]
end Go.Stn

namespace Go.Stn
open Go Go.K Go.RowKit
def centF (s : Int × Int × Int) (e : Pt × Pt) : Int × Int × Int :=
  (W (s.1 + W (W (e.1.x + e.2.x) * crossW e.1 e.2)), W (s.2.1 + W (W (e.1.z + e.2.z) * crossW e.1 e.2)), W (s.2.2 + W (3 * crossW e.1 e.2)))
def centW (l : List Pt) : Int × Int × Int := (edgesL l).foldl centF (0, 0, 0)
end Go.Stn

namespace Go.Proofs.YtahahmelnaphjaaDoor
open Go.K Go.Stn Go.RowKit
theorem tf2 : TF Tryd.prog 2 false 1 (.int IntKind.i64 0) := ⟨by kernel_rfl, by kernel_rfl⟩
theorem tf112 : TF Tryd.prog 112 true 3 (.agg #[.int IntKind.i64 0, .int IntKind.i64 0, .int IntKind.i64 0]) := ⟨by kernel_rfl, by kernel_rfl⟩
theorem ae112 : AE Tryd.prog 112 2 3 1 := ⟨Tryd.underlying112, by kernel_rfl⟩
theorem en80 : En Tryd.prog 80 := en_of Tryd.func80 (by kernel_rfl) (by kernel_rfl)
theorem en81 : En Tryd.prog 81 := en_of Tryd.func81 (by kernel_rfl) (by kernel_rfl)
set_option maxRecDepth 100000 in
set_option maxHeartbeats 1000000 in
theorem centre1_c (a : Option Addr) (cap : Nat) (s : Stn) (b : Nat) (w : World) (hb : Has w (Box b [.string s.name, .slice a s.shape.length cap, .int .i64 s.depth, .int .i64 s.density, .int .i64 s.grain.x, .int .i64 s.grain.z] 34)) (hl : Has w (Pts a s.shape)) (hs : Small s.shape.length) :
    Calls Tryd.prog 81 #[.pointer (some ⟨b, 0, none⟩)] w (Pure (.agg #[.int .i64 (centW s.shape).1, .int .i64 (centW s.shape).2.1, .int .i64 (centW s.shape).2.2]) w) := by
  refine calls_of_gk (vs := [_]) Tryd.func81 rfl rfl (Nat.le_of_ble_eq_true rfl) ?_
  refine gk_seq ?_
  refine gk_region ?_
  refine gk_yx rfl rfl (yx_alloc tf112 (zs := [_, _, _]) rfl) fun b1 => ?_
  refine gk_nil (gk_sub (T' := [(0,_), (1,_)]) ⟨rfl, rfl, trivial⟩ ?_)
  refine gk_seq ?_
  refine gk_region ?_
  refine gk_yx rfl rfl (yx_alloc tf112 (zs := [_, _, _]) rfl) fun b2 => ?_
  refine gk_nil (gk_sub (T' := [(0,_), (1,_), (2,_)]) ⟨rfl, rfl, rfl, trivial⟩ ?_)
  refine gk_seq ?_
  refine gk_seq ?_
  refine gk_region ?_
  refine gk_y rfl rfl (y_fieldAddr fo34_1 rfl) ?_
  refine gk_y rfl rfl (y_load1 tf31 rfl (fun _ hw => has_box_cell (Rd.has (Has.rd hb) hw) rfl)) ?_
  refine gk_yx rfl rfl (yx_call en82 rfl (fun w hw => edges_c _ _ s.shape w)) fun p8 => ?_
  refine gk_nil (gk_sub (T' := [(1,_), (2,_), (8,_)]) ⟨rfl, rfl, rfl, trivial⟩ ?_)
  refine gk_block ?_
  refine gk_sub (T' := [(1,_), (2,_), (8,_)]) ⟨rfl, rfl, rfl, trivial⟩ ?_
  refine gk_rangeFunc (X := Int × Int × Int) (fun ⟨x, y, z⟩ => [Box p8 [.slice a s.shape.length cap] 31, Box b2 [.int .i64 x, .int .i64 y, .int .i64 z] 112, Box b1 [.int .i64 0, .int .i64 0, .int .i64 0] 112]) (fun n ⟨x, y, z⟩ => (x, y, z) = ((edgesL s.shape).take n).foldl centF (0, 0, 0)) (fun ⟨x, y, z⟩ => False) [] (0, 0, 0) rfl en124 rfl rfl rfl (edges1_c _ _ s.shape _ (by assumption)) (fun ⟨x, y, z⟩ w hw => ⟨hw.has (p := 0) rfl, (Rd.has (Has.rd hl) hw)⟩) (edges_two _) rfl ?_ ?_ ?_ ?_
  · rintro R1 R2 rl U' w' n ⟨x, y, z⟩ args hget hR hrd hins hbeg
    obtain ⟨e, he, rfl⟩ := edge_inv hget
    refine gk_sub (T' := [(2,_), (9,_), (10,_)]) ⟨rfl, rfl, rfl, trivial⟩ ?_
    refine gk_seq ?_
    refine gk_region ?_
    refine gk_yx rfl rfl (yx_alloc tf32 (zs := [_, _]) rfl) fun b3 => ?_
    refine gk_storeV 0 tf32 rfl rfl (vs := [_, _]) rfl rfl rfl rfl rfl ?_
    refine gk_nil (gk_sub (T' := [(2,_), (3,_), (10,_)]) ⟨rfl, rfl, rfl, trivial⟩ ?_)
    refine gk_region ?_
    refine gk_yx rfl rfl (yx_alloc tf32 (zs := [_, _]) rfl) fun b4 => ?_
    refine gk_storeV 0 tf32 rfl rfl (vs := [_, _]) rfl rfl rfl rfl rfl ?_
    refine gk_nil (gk_sub (T' := [(2,_), (3,_), (4,_)]) ⟨rfl, rfl, rfl, trivial⟩ ?_)
    refine gk_front 2 rfl ?_
    refine hbeg _ _ _ ?_
    refine gk_block ?_
    refine gk_seq ?_
    refine gk_region ?_
    refine gk_y rfl rfl (y_loadBA 2 tf32 rfl rfl (vs := [_, _]) rfl rfl) ?_
    refine gk_y rfl rfl (y_loadBA 1 tf32 rfl rfl (vs := [_, _]) rfl rfl) ?_
    refine gk_y rfl rfl (y_call en83 rfl (fun w hw => cross_c ⟨_, _⟩ ⟨_, _⟩ w)) ?_
    refine gk_y rfl rfl (y_assign rfl) ?_
    refine gk_nil (gk_sub (T' := [(2,_), (3,_), (4,_), (5,_)]) ⟨rfl, rfl, rfl, rfl, trivial⟩ ?_)
    refine gk_seq ?_
    refine gk_region ?_
    refine gk_y rfl rfl (y_indexA 0 ae112 rfl rfl rfl (by decide)) ?_
    refine gk_y rfl rfl (y_loadB1 4 tf2 rfl rfl rfl) ?_
    refine gk_y rfl rfl (y_fieldAddr fo32_0 rfl) ?_
    refine gk_y rfl rfl (y_loadB1 2 tf3 rfl rfl rfl) ?_
    refine gk_y rfl rfl (y_fieldAddr fo32_0 rfl) ?_
    refine gk_y rfl rfl (y_loadB1 1 tf3 rfl rfl rfl) ?_
    refine gk_y rfl rfl (y_add rfl rfl) ?_
    refine gk_y rfl rfl (y_move rfl) ?_
    refine gk_y rfl rfl (y_mul rfl rfl) ?_
    refine gk_y rfl rfl (y_add rfl rfl) ?_
    refine gk_y rfl rfl (y_indexA 0 ae112 rfl rfl rfl (by decide)) ?_
    refine gk_storeV 4 tf2 rfl rfl (vs := [_]) rfl rfl rfl rfl rfl ?_
    refine gk_nil (gk_sub (T' := [(2,_), (3,_), (4,_), (5,_)]) ⟨rfl, rfl, rfl, rfl, trivial⟩ ?_)
    refine gk_seq ?_
    refine gk_region ?_
    refine gk_y rfl rfl (y_indexA 1 ae112 rfl rfl rfl (by decide)) ?_
    refine gk_y rfl rfl (y_loadB1 4 tf2 rfl rfl rfl) ?_
    refine gk_y rfl rfl (y_fieldAddr fo32_1 rfl) ?_
    refine gk_y rfl rfl (y_loadB1 2 tf3 rfl rfl rfl) ?_
    refine gk_y rfl rfl (y_fieldAddr fo32_1 rfl) ?_
    refine gk_y rfl rfl (y_loadB1 1 tf3 rfl rfl rfl) ?_
    refine gk_y rfl rfl (y_add rfl rfl) ?_
    refine gk_y rfl rfl (y_move rfl) ?_
    refine gk_y rfl rfl (y_mul rfl rfl) ?_
    refine gk_y rfl rfl (y_add rfl rfl) ?_
    refine gk_y rfl rfl (y_indexA 1 ae112 rfl rfl rfl (by decide)) ?_
    refine gk_storeV 4 tf2 rfl rfl (vs := [_]) rfl rfl rfl rfl rfl ?_
    refine gk_nil (gk_sub (T' := [(2,_), (5,_)]) ⟨rfl, rfl, trivial⟩ ?_)
    refine gk_region ?_
    refine gk_y rfl rfl (y_indexA 2 ae112 rfl rfl rfl (by decide)) ?_
    refine gk_y rfl rfl (y_loadB1 4 tf2 rfl rfl rfl) ?_
    refine gk_y rfl rfl (y_move rfl) ?_
    refine gk_y rfl rfl (y_mul rfl rfl) ?_
    refine gk_y rfl rfl (y_add rfl rfl) ?_
    refine gk_y rfl rfl (y_indexA 2 ae112 rfl rfl rfl (by decide)) ?_
    refine gk_storeV 4 tf2 rfl rfl (vs := [_]) rfl rfl rfl rfl rfl ?_
    refine gk_nil (gk_sub (T' := []) trivial ?_)
    refine gk_dropAt 1 rfl ?_
    refine gk_dropAt 1 rfl ?_
    exact gk_joined (centF (x, y, z) e) trivial rfl (by rw [fold_succ _ _ he, ← hR])
  · rintro Dm ⟨x, y, z⟩ hR
    have hR := hR.trans (fold_all _ _ (by simp [edgeVs]))
    have hR : (x, y, z) = centW s.shape := hR
    refine gk_seq ?_
    refine gk_region ?_
    refine gk_y rfl rfl (y_loadBA 2 tf112 rfl rfl (vs := [_, _, _]) rfl rfl) ?_
    refine gk_storeV 3 tf112 rfl rfl (vs := [_, _, _]) rfl rfl rfl rfl rfl ?_
    refine gk_nil (gk_sub (T' := [(1,_)]) ⟨rfl, trivial⟩ ?_)
    refine gk_ret ?_
    refine gk_unmark 0 rfl ?_
    refine gk_pure (rv_one rfl (r1_cellA (i := 2) (vs := [_, _, _]) tf112 rfl rfl rfl rfl)) ?_
    rw [← hR]
  · exact fun _ _ h => h.elim
  · exact fun _ _ _ _ h => absurd h (by simp)
set_option maxRecDepth 100000 in
set_option maxHeartbeats 1000000 in
theorem ask3_c (a : Option Addr) (cap : Nat) (s : Stn) (gg : FuncId) (gfs gcap : List Value) (x y z : Int) (w : World) (hl : Has w (Pts a s.shape)) (hs : Small s.shape.length) (M : World → Prop) (hM : ∀ w', Ext w w' → M w') (hen : En Tryd.prog gg) (hg : checkI s = 0 → ∀ w', M w' → Calls Tryd.prog gg (gfs ++ [] ++ gcap).toArray w' (Pure (.agg #[.int .i64 x, .int .i64 y, .int .i64 z]) w')) :
    Calls Tryd.prog 80 #[.agg #[.string s.name, .slice a s.shape.length cap, .int .i64 s.depth, .int .i64 s.density, .int .i64 s.grain.x, .int .i64 s.grain.z], .func (.func gg) gfs.toArray gcap.toArray] w (Pure (.tuple #[.agg #[.int .i64 (askI s x), .int .i64 (askI s y), .int .i64 (askI s z)], .int .i64 (checkI s)]) w) := by
  refine calls_of_gk (vs := [_, _]) Tryd.func80 rfl rfl (Nat.le_of_ble_eq_true rfl) ?_
  refine gk_seq ?_
  refine gk_region ?_
  refine gk_yx rfl rfl (yx_box (vs := [_, _, _, _, _, _]) rfl rfl) fun b2 => ?_
  refine gk_yx rfl rfl (yx_alloc tf112 (zs := [_, _, _]) rfl) fun b4 => ?_
  refine gk_y rfl rfl (y_assign rfl) ?_
  refine gk_nil (gk_sub (T' := [(1,_), (2,_), (4,_), (5,_)]) ⟨rfl, rfl, rfl, rfl, trivial⟩ ?_)
  refine gk_seq ?_
  refine gk_seq ?_
  refine gk_region ?_
  refine gk_y rfl rfl (y_loadBA 1 tf34 rfl rfl (vs := [_, _, _, _, _, _]) rfl rfl) ?_
  refine gk_y rfl rfl (y_call en17 rfl (fun w hw => check_c _ _ s w (Rd.has (Has.rd hl) hw) (by assumption))) ?_
  refine gk_y rfl rfl (y_assign rfl) ?_
  refine gk_nil (gk_sub (T' := [(1,_), (4,_), (5,_), (6,_)]) ⟨rfl, rfl, rfl, rfl, trivial⟩ ?_)
  refine gk_seq ?_
  refine gk_region ?_
  refine gk_y rfl rfl (y_move rfl) ?_
  refine gk_y rfl rfl (y_neq rfl rfl) ?_
  refine gk_nil (gk_sub (T' := [(1,_), (4,_), (5,_), (6,_), (10,_)]) ⟨rfl, rfl, rfl, rfl, rfl, trivial⟩ ?_)
  refine gk_cond rfl (fun hc10 => ?_) (fun hc10 => ?_)
  · skip
    refine gk_seq ?_
    refine gk_region ?_
    refine gk_y rfl rfl (y_loadBA 0 tf112 rfl rfl (vs := [_, _, _]) rfl rfl) ?_
    refine gk_y rfl rfl (y_move rfl) ?_
    refine gk_storeV 0 tf112 rfl rfl (vs := [_, _, _]) rfl rfl rfl rfl rfl ?_
    refine gk_y rfl rfl (y_assign rfl) ?_
    refine gk_nil (gk_sub (T' := [(1,_), (4,_), (5,_)]) ⟨rfl, rfl, rfl, trivial⟩ ?_)
    refine gk_ret ?_
    refine gk_pure (rv_two rfl (r1_cellA (i := 0) (vs := [_, _, _]) tf112 rfl rfl rfl rfl) (r1_tmp rfl)) ?_
    have hk : ¬ checkI s = 0 := by simpa using hc10
    simp only [askI, if_neg hk]
  · have hk : checkI s = 0 := by simpa using hc10
    refine gk_skip ?_
    refine gk_seq ?_
    refine gk_region ?_
    refine gk_y rfl rfl (y_move rfl) ?_
    refine gk_y rfl rfl (y_callV (fs := gfs) (cap := gcap) hen rfl rfl (fun w hw => hg hk w (hM _ hw.base.ext0))) ?_
    refine gk_storeV 0 tf112 rfl rfl (vs := [_, _, _]) rfl rfl rfl rfl rfl ?_
    refine gk_y rfl rfl (y_assign rfl) ?_
    refine gk_nil (gk_sub (T' := [(4,_), (5,_)]) ⟨rfl, rfl, trivial⟩ ?_)
    refine gk_ret ?_
    refine gk_pure (rv_two rfl (r1_cellA (i := 0) (vs := [_, _, _]) tf112 rfl rfl rfl rfl) (r1_tmp rfl)) ?_
    simp only [askI, hk, if_true]
set_option maxRecDepth 100000 in
set_option maxHeartbeats 1000000 in
theorem Centre_c (a : Option Addr) (cap : Nat) (s : Stn) (w : World) (hl : Has w (Pts a s.shape)) (hs : Small s.shape.length) :
    Calls Tryd.prog 34 #[.agg #[.string s.name, .slice a s.shape.length cap, .int .i64 s.depth, .int .i64 s.density, .int .i64 s.grain.x, .int .i64 s.grain.z]] w (Pure (.tuple #[.int .i64 (askI s (centW s.shape).1), .int .i64 (askI s (centW s.shape).2.1), .int .i64 (askI s (centW s.shape).2.2), .int .i64 (checkI s)]) w) := by
  refine calls_of_gk (vs := [_]) Tryd.func34 rfl rfl (Nat.le_of_ble_eq_true rfl) ?_
  refine gk_seq ?_
  refine gk_region ?_
  refine gk_yx rfl rfl (yx_box (vs := [_, _, _, _, _, _]) rfl rfl) fun b1 => ?_
  refine gk_y rfl rfl (y_assign rfl) ?_
  refine gk_y rfl rfl (y_assign rfl) ?_
  refine gk_y rfl rfl (y_assign rfl) ?_
  refine gk_y rfl rfl (y_assign rfl) ?_
  refine gk_nil (gk_sub (T' := [(1,_), (2,_), (3,_), (4,_), (5,_)]) ⟨rfl, rfl, rfl, rfl, rfl, trivial⟩ ?_)
  refine gk_seq ?_
  refine gk_region ?_
  refine gk_y rfl rfl (y_loadBA 0 tf34 rfl rfl (vs := [_, _, _, _, _, _]) rfl rfl) ?_
  refine gk_y rfl rfl (y_makeFunc («as» := []) (bs := [_]) rfl rfl) ?_
  refine gk_y rfl rfl (y_call en80 rfl (fun w hw => ask3_c _ _ s 81 [] [.pointer (some ⟨b1, 0, none⟩)] (centW s.shape).1 (centW s.shape).2.1 (centW s.shape).2.2 w (Rd.has (Has.rd hl) hw) (by assumption) (fun w' => Has w' (Box b1 [.string s.name, .slice a s.shape.length cap, .int .i64 s.depth, .int .i64 s.density, .int .i64 s.grain.x, .int .i64 s.grain.z] 34) ∧ Has w' (Pts a s.shape)) (fun w' hx => ⟨Has.ext (hw.has (p := 0) rfl) hx, Has.ext (Rd.has (Has.rd hl) hw) hx⟩) en81 (fun _ w' hp => centre1_c _ _ s _ w' hp.1 hp.2 (by assumption)))) ?_
  refine gk_y rfl rfl (y_move rfl) ?_
  refine gk_y rfl rfl (y_extract rfl rfl) ?_
  refine gk_y rfl rfl (y_extract rfl rfl) ?_
  refine gk_yx rfl rfl (yx_alloc tf112 (zs := [_, _, _]) rfl) fun b6 => ?_
  refine gk_storeV 0 tf112 rfl rfl (vs := [_, _, _]) rfl rfl rfl rfl rfl ?_
  refine gk_y rfl rfl (y_assign rfl) ?_
  refine gk_nil (gk_sub (T' := [(2,_), (3,_), (4,_), (5,_), (6,_)]) ⟨rfl, rfl, rfl, rfl, rfl, trivial⟩ ?_)
  refine gk_seq ?_
  refine gk_any 11 (fun _ => mixed) (by kernel_rfl) ?_
  refine ph_y (y_indexA 0 ae112 rfl rfl rfl (by decide)) ?_
  refine ph_y (y_loadB1 0 tf2 rfl rfl rfl) ?_
  refine ph_y (y_indexA 1 ae112 rfl rfl rfl (by decide)) ?_
  refine ph_y (y_loadB1 0 tf2 rfl rfl rfl) ?_
  refine ph_y (y_indexA 2 ae112 rfl rfl rfl (by decide)) ?_
  refine ph_y (y_loadB1 0 tf2 rfl rfl rfl) ?_
  refine ph_y (y_move rfl) ?_
  refine ph_y (y_assign rfl) ?_
  refine ph_y (y_assign rfl) ?_
  refine ph_y (y_assign rfl) ?_
  refine ph_y (y_assign rfl) ?_
  refine gk_nil (gk_sub (T' := [(2,_), (3,_), (4,_), (5,_)]) ⟨rfl, rfl, rfl, rfl, trivial⟩ ?_)
  refine gk_ret ?_
  refine gk_pure (rv_four rfl (r1_tmp rfl) (r1_tmp rfl) (r1_tmp rfl) (r1_tmp rfl)) ?_
  rfl
end Go.Proofs.YtahahmelnaphjaaDoor

namespace Go.Proofs.YtahahmelnaphjaaDoor
open Go.K Go.Stn Go.RowKit
theorem af22 : AF Tryd.prog 22 24 2 16 [.int IntKind.i64 0, .int IntKind.i64 0] := ⟨Tryd.underlying22, by kernel_rfl, rfl⟩
theorem bd24_0i_1i (x0 : Int) (x1 : Int) (w : World) : (Instr.build 24 #[(0, .int .i64 x0), (1, .int .i64 x1)]).run Tryd.prog w = .ok (.agg #[.int .i64 x0, .int .i64 x1]) w := by kernel_rfl
theorem bs22_1 (x0_0 : Int) (x0_1 : Int) (w : World) : (Instr.buildSlice 22 1 #[(0, .agg #[.int .i64 x0_0, .int .i64 x0_1])]).run Tryd.prog w = .ok (.slice (some ⟨w.heap.size, 0, none⟩) 1 1) (w.alloc (.cells (([(⟨x0_0, x0_1⟩ : Pt)] : List (Pt)).flatMap encPt).toArray 24)) := by kernel_rfl
end Go.Proofs.YtahahmelnaphjaaDoor

namespace Go.Stn
open Go Go.K Go.RowKit
theorem firstI_eq {l : List Pt} (h : 0 < l.length) : firstI l = rfirst l := by
  obtain ⟨m, h1, h2, h3, h4⟩ := minF_first h
  rw [h1]
  refine findI_at (e := l.getD m default) (by simp [h2]) (fun j x hj hx => ?_) (eqB_iff.2 h3)
  cases he : eqB (minF lowerW l) x with
  | false => rfl
  | true =>
    have := eqB_iff.1 he
    have hxx : l.getD j default = x := by simp [hx]
    exact absurd (hxx.trans (this.symm.trans h3)) (h4 j hj)
theorem rot_get {l : List Pt} {m i : Nat} (hm : m < l.length) (hi : i < l.length) : (l.drop m ++ l.take m)[i]? = some (l.getD ((m + i) % l.length) default) := by
  by_cases h : m + i < l.length
  · rw [List.getElem?_append_left (by simp; omega), List.getElem?_drop, Nat.mod_eq_of_lt h]
    simp [h]
  · have h2 : (m + i) % l.length = m + i - l.length := by rw [Nat.mod_eq_sub_mod (by omega), Nat.mod_eq_of_lt (by omega)]
    rw [List.getElem?_append_right (by simp; omega), h2, List.length_drop, List.getElem?_take, if_pos (by omega)]
    have h3 : i - (l.length - m) = m + i - l.length := by omega
    rw [h3]
    simp [show m + i - l.length < l.length from by omega]
theorem settle_eq {l : List Pt} (h : 0 < l.length) : settleW l = settledW l := by
  have hr := rfirst_in h
  unfold settledW settleW
  rw [firstI_eq h]
  apply List.ext_getElem?
  intro i
  rw [List.getElem?_map, List.getElem?_map]
  unfold rotL
  by_cases hi : i < l.length
  · rw [List.getElem?_range hi, rot_get (by omega) hi]
    simp only [Option.map_some]
    unfold settleI ptAt
    obtain ⟨m, hm⟩ := Int.eq_ofNat_of_zero_le hr.1
    rw [hm]
    have : (((m : Int) + (i : Int)).tmod (l.length : Int)) = (((m + i) % l.length : Nat) : Int) := rfl
    rw [this, Int.toNat_natCast, Int.toNat_natCast]
  · rw [List.getElem?_eq_none (by simp; omega), List.getElem?_eq_none (by simp; omega)]
    rfl
end Go.Stn

namespace Go.Stn
open Go Go.K Go.RowKit
theorem coprime_parts {x z : Nat} (h : 0 < Nat.gcd x z) : Nat.Coprime (x / Nat.gcd x z) (z / Nat.gcd x z) := Nat.coprime_div_gcd_div_gcd h
end Go.Stn

namespace Go.Proofs.YtahahmelnaphjaaDoor
open Go.K Go.Stn Go.RowKit
theorem bs22_2 (x0_0 : Int) (x0_1 : Int) (x1_0 : Int) (x1_1 : Int) (w : World) : (Instr.buildSlice 22 2 #[(0, .agg #[.int .i64 x0_0, .int .i64 x0_1]), (1, .agg #[.int .i64 x1_0, .int .i64 x1_1])]).run Tryd.prog w = .ok (.slice (some ⟨w.heap.size, 0, none⟩) 2 2) (w.alloc (.cells (([(⟨x0_0, x0_1⟩ : Pt), (⟨x1_0, x1_1⟩ : Pt)] : List (Pt)).flatMap encPt).toArray 24)) := by kernel_rfl
set_option maxRecDepth 100000 in
set_option maxHeartbeats 1000000 in
theorem left_c (a : Option Addr) (cap : Nat) (l : List Pt) (p q : Pt) (w : World) (hl : Has w (Pts a l)) (hs : Small l.length) :
    Calls Tryd.prog 33 #[.slice a l.length cap, .agg #[.int .i64 p.x, .int .i64 p.z], .agg #[.int .i64 q.x, .int .i64 q.z]] w (Gives (fun z : Option Addr × Nat => .slice z.1 (leftL l p q).length z.2) (fun z => Row z.1 2 z.2 24 encPt (leftL l p q)) w) := by
  obtain ⟨e0, e1, e2⟩ := from_in (l := l) (p := p) (q := q) l.length
  refine calls_of_gk (vs := [_, _, _]) Tryd.func33 rfl rfl (Nat.le_of_ble_eq_true rfl) ?_
  refine gk_seq ?_
  refine gk_region ?_
  refine gk_yx rfl rfl (yx_box (vs := [_, _]) rfl rfl) fun b4 => ?_
  refine gk_yx rfl rfl (yx_box (vs := [_, _]) rfl rfl) fun b5 => ?_
  refine gk_y rfl rfl (y_assign rfl) ?_
  refine gk_nil (gk_sub (T' := [(0,_), (4,_), (5,_), (6,_)]) ⟨rfl, rfl, rfl, rfl, trivial⟩ ?_)
  refine gk_seq ?_
  refine gk_region ?_
  refine gk_y rfl rfl (y_loadBA 1 tf24 rfl rfl (vs := [_, _]) rfl rfl) ?_
  refine gk_y rfl rfl (y_loadBA 0 tf24 rfl rfl (vs := [_, _]) rfl rfl) ?_
  refine gk_yx rfl rfl (yx_buildSlice rfl (bs22_2 _ _ _ _) encPt_ok rfl) fun b14 => ?_
  refine gk_y rfl rfl (y_assign rfl) ?_
  refine gk_nil (gk_sub (T' := [(0,_), (4,_), (5,_), (6,_), (7,_)]) ⟨rfl, rfl, rfl, rfl, rfl, trivial⟩ ?_)
  refine gk_seq ?_
  refine gk_region ?_
  refine gk_y rfl rfl (y_assign rfl) ?_
  refine gk_nil (gk_sub (T' := [(0,_), (4,_), (5,_), (6,_), (7,_), (8,_)]) ⟨rfl, rfl, rfl, rfl, rfl, rfl, trivial⟩ ?_)
  refine gk_seq ?_
  refine gk_seq ?_
  refine gk_region ?_
  refine gk_y rfl rfl (y_assign rfl) ?_
  refine gk_nil (gk_sub (T' := [(0,_), (4,_), (5,_), (6,_), (7,_), (8,_), (9,_)]) ⟨rfl, rfl, rfl, rfl, rfl, rfl, rfl, trivial⟩ ?_)
  refine gk_block ?_
  refine gk_loop (X := Int) (fun i => [(0, .slice a l.length cap), (4, .pointer (some ⟨b4, 0, none⟩)), (5, .pointer (some ⟨b5, 0, none⟩)), (6, .slice none 0 0), (7, .slice (some ⟨b14, 0, none⟩) 2 2), (8, .int .i64 (fromN l p q i.toNat)), (9, .int .i64 i)]) (fun i => [Row (some ⟨b14, 0, none⟩) 2 2 24 encPt [⟨p.x, p.z⟩, ⟨q.x, q.z⟩], Box b5 [.int .i64 q.x, .int .i64 q.z] 24, Box b4 [.int .i64 p.x, .int .i64 p.z] 24]) (fun i => (0 ≤ i ∧ i ≤ l.length)) (fun i => (l.length - i).toNat) 0 ⟨rfl, rfl, rfl, rfl, rfl, rfl, rfl, trivial⟩ rfl ?_ ?_
  · exact ⟨by omega, by omega⟩
  · rintro i hI
    obtain ⟨g0, g1⟩ := hI
    have r0 : (l.length : Int) ≠ 0 → 0 ≤ (i + (l.length : Int) - 1).tmod (l.length : Int) := fun h => Int.tmod_nonneg _ (by omega)
    have r1 : (l.length : Int) ≠ 0 → (i + (l.length : Int) - 1).tmod (l.length : Int) < (l.length : Int) := fun h => Int.tmod_lt_of_pos _ (by omega)
    refine gk_seq ?_
    refine gk_seq ?_
    refine gk_region ?_
    refine gk_y rfl rfl (y_move rfl) ?_
    refine gk_y rfl rfl (y_move rfl) ?_
    refine gk_y rfl rfl (y_lenS (Tryd.underlying22) rfl) ?_
    refine gk_y rfl rfl (y_lss rfl rfl) ?_
    refine gk_nil (gk_sub (T' := [(0,_), (4,_), (5,_), (6,_), (7,_), (8,_), (9,_), (18,_)]) ⟨rfl, rfl, rfl, rfl, rfl, rfl, rfl, rfl, trivial⟩ ?_)
    refine gk_cond rfl (fun hc18 => ?_) (fun hc18 => ?_)
    · simp only [decide_eq_true_eq] at hc18
      refine gk_skip ?_
      refine gk_seq ?_
      refine gk_block ?_
      refine gk_seq ?_
      refine gk_any 25 (fun _ => mixed) (by kernel_rfl) ?_
      refine ph_y (y_loadBA 2 tf24 rfl rfl (vs := [_, _]) rfl rfl) ?_
      refine ph_y (y_loadBA 1 tf24 rfl rfl (vs := [_, _]) rfl rfl) ?_
      refine ph_y (y_move rfl) ?_
      refine ph_y (y_move rfl) ?_
      refine ph_y (y_indexE se22 rfl rfl (fun _ hw => (Rd.has (Has.rd hl) hw)) (by omega) (by omega)) ?_
      refine ph_y (y_loadE (vs := [_, _]) tf24 rfl (fun _ hw => (Rd.has (Has.rd hl) hw)) (by omega) (by omega) rfl) ?_
      refine ph_y (y_call en79 rfl (fun w hw => side_c ⟨_, _⟩ ⟨_, _⟩ ⟨_, _⟩ w)) ?_
      refine ph_y (y_gtr rfl rfl) ?_
      refine ph_y (y_move rfl) ?_
      refine ph_gT rfl rfl (fun hgd => by (try rw [hgd]); exact (y_loadBA 2 tf24 rfl rfl (vs := [_, _]) rfl rfl)) ?_
      refine ph_gT rfl rfl (fun hgd => by (try rw [hgd]); exact (y_loadBA 1 tf24 rfl rfl (vs := [_, _]) rfl rfl)) ?_
      refine ph_gT rfl rfl (fun hgd => by (try rw [hgd]); exact (y_move rfl)) ?_
      refine ph_gT rfl rfl (fun hgd => by (try rw [hgd]); exact (y_move rfl)) ?_
      refine ph_gT rfl rfl (fun hgd => by (try rw [hgd]); exact (y_move rfl)) ?_
      refine ph_gT rfl rfl (fun hgd => by (try rw [hgd]); exact (y_lenS (Tryd.underlying22) rfl)) ?_
      refine ph_gT rfl rfl (fun hgd => by (try rw [hgd]); exact (y_addI rfl rfl (by omega) (by omega))) ?_
      refine ph_gT rfl rfl (fun hgd => by (try rw [hgd]); exact (y_subI rfl rfl (by omega) (by omega))) ?_
      refine ph_gT rfl rfl (fun hgd => by (try rw [hgd]); exact (y_move rfl)) ?_
      refine ph_gT rfl rfl (fun hgd => by (try rw [hgd]); exact (y_lenS (Tryd.underlying22) rfl)) ?_
      refine ph_gT rfl rfl (fun hgd => by (try rw [hgd]); exact (y_rem rfl rfl (by omega))) ?_
      refine ph_gT rfl rfl (fun hgd => by (try rw [hgd]); exact (y_indexE se22 rfl rfl (fun _ hw => (Rd.has (Has.rd hl) hw)) (by omega) (by omega))) ?_
      refine ph_gT rfl rfl (fun hgd => by (try rw [hgd]); exact (y_loadE (vs := [_, _]) tf24 rfl (fun _ hw => (Rd.has (Has.rd hl) hw)) (by omega) (by omega) rfl)) ?_
      refine ph_gT rfl rfl (fun hgd => by (try rw [hgd]); exact (y_call (v := .int .i64 (sideW p q (l.getD ((Int.tmod ((i + (l.length : Int)) - 1) (l.length : Int))).toNat default))) en79 rfl (fun w hw => side_c ⟨_, _⟩ ⟨_, _⟩ ⟨_, _⟩ w))) ?_
      refine ph_gT rfl rfl (fun hgd => by (try rw [hgd]); exact (y_leq rfl rfl)) ?_
      refine ph_y (y_pickAnd rfl rfl rfl) ?_
      refine gk_nil (gk_sub (T' := [(0,_), (4,_), (5,_), (6,_), (7,_), (8,_), (9,_), (45,_)]) ⟨rfl, rfl, rfl, rfl, rfl, rfl, rfl, rfl, trivial⟩ ?_)
      refine gk_cond rfl (fun hc45 => ?_) (fun hc45 => ?_)
      · have hfs := from_succ (l := l) (p := p) (q := q) g0
        rw [if_pos (show leftC l p q i = true from hc45)] at hfs
        refine gk_region ?_
        refine gk_y rfl rfl (y_move rfl) ?_
        refine gk_y rfl rfl (y_assign rfl) ?_
        refine gk_nil (gk_sub (T' := [(0,_), (4,_), (5,_), (6,_), (7,_), (8,_), (9,_)]) ⟨rfl, rfl, rfl, rfl, rfl, rfl, rfl, trivial⟩ ?_)
        refine gk_region ?_
        refine gk_y rfl rfl (y_move rfl) ?_
        refine gk_y rfl rfl (y_addI rfl rfl (by omega) (by omega)) ?_
        refine gk_y rfl rfl (y_assign rfl) ?_
        refine gk_nil (gk_sub (T' := [(0,_), (4,_), (5,_), (6,_), (7,_), (8,_), (9,_)]) ⟨rfl, rfl, rfl, rfl, rfl, rfl, rfl, trivial⟩ ?_)
        refine gk_sub (T' := [(0,_), (4,_), (5,_), (6,_), (7,_), (8, .int .i64 (fromN l p q (i + 1).toNat)), (9,_)]) ⟨rfl, rfl, rfl, rfl, rfl, (by rw [hfs]; rfl), rfl, trivial⟩ ?_
        exact gk_next (i + 1) ⟨rfl, rfl, rfl, rfl, rfl, rfl, rfl, trivial⟩ rfl ⟨by omega, by omega⟩ (by omega)
      · have hfs := from_succ (l := l) (p := p) (q := q) g0
        rw [if_neg (by rw [show leftC l p q i = false from hc45]; exact Bool.false_ne_true)] at hfs
        refine gk_skip ?_
        refine gk_region ?_
        refine gk_y rfl rfl (y_move rfl) ?_
        refine gk_y rfl rfl (y_addI rfl rfl (by omega) (by omega)) ?_
        refine gk_y rfl rfl (y_assign rfl) ?_
        refine gk_nil (gk_sub (T' := [(0,_), (4,_), (5,_), (6,_), (7,_), (8,_), (9,_)]) ⟨rfl, rfl, rfl, rfl, rfl, rfl, rfl, trivial⟩ ?_)
        refine gk_sub (T' := [(0,_), (4,_), (5,_), (6,_), (7,_), (8, .int .i64 (fromN l p q (i + 1).toNat)), (9,_)]) ⟨rfl, rfl, rfl, rfl, rfl, (by rw [hfs]; rfl), rfl, trivial⟩ ?_
        exact gk_next (i + 1) ⟨rfl, rfl, rfl, rfl, rfl, rfl, rfl, trivial⟩ rfl ⟨by omega, by omega⟩ (by omega)
    · simp only [decide_eq_false_iff_not] at hc18
      refine gk_exit rfl ?_
      refine gk_seq ?_
      refine gk_seq ?_
      refine gk_region ?_
      refine gk_y rfl rfl (y_assign rfl) ?_
      refine gk_nil (gk_sub (T' := [(0,_), (4,_), (5,_), (6,_), (7,_), (8,_), (10,_)]) ⟨rfl, rfl, rfl, rfl, rfl, rfl, rfl, trivial⟩ ?_)
      refine gk_sub (T' := [(0,_), (4,_), (5,_), (6,_), (7,_), (8, .int .i64 (fromN l p q l.length)), (10,_)]) ⟨rfl, rfl, rfl, rfl, rfl, (by rw [show i.toNat = l.length from by omega]; rfl), rfl, trivial⟩ ?_
      refine gk_block ?_
      refine gk_loop (X := Int × Option Addr × Nat × List Pt) (fun ⟨i, b, bc, m⟩ => [(0, .slice a l.length cap), (4, .pointer (some ⟨b4, 0, none⟩)), (5, .pointer (some ⟨b5, 0, none⟩)), (6, .slice none 0 0), (7, .slice b m.length bc), (8, .int .i64 (fromN l p q l.length)), (10, .int .i64 i)]) (fun ⟨i, b, bc, m⟩ => [Row b 2 bc 24 encPt m, Box b5 [.int .i64 q.x, .int .i64 q.z] 24, Box b4 [.int .i64 p.x, .int .i64 p.z] 24]) (fun ⟨i, b, bc, m⟩ => (0 ≤ i ∧ i ≤ l.length ∧ m = leftO l p q (fromN l p q l.length) i.toNat ∧ m.length ≤ i.toNat + 2)) (fun ⟨i, b, bc, m⟩ => (l.length - i).toNat) (0, (some ⟨b14, 0, none⟩), 2, [p, q]) ⟨rfl, rfl, rfl, rfl, rfl, rfl, rfl, trivial⟩ rfl ?_ ?_
      · exact ⟨by omega, by omega, rfl, by simp⟩
      · rintro ⟨i, b, bc, m⟩ hI
        obtain ⟨g0, g1, g2, g3⟩ := hI
        have q0 : 0 ≤ (fromN l p q l.length + i).tmod (l.length : Int) := Int.tmod_nonneg _ (by omega)
        have q1 : (l.length : Int) ≠ 0 → (fromN l p q l.length + i).tmod (l.length : Int) < (l.length : Int) := fun h => Int.tmod_lt_of_pos _ (by omega)
        refine gk_seq ?_
        refine gk_seq ?_
        refine gk_region ?_
        refine gk_y rfl rfl (y_move rfl) ?_
        refine gk_y rfl rfl (y_move rfl) ?_
        refine gk_y rfl rfl (y_lenS (Tryd.underlying22) rfl) ?_
        refine gk_y rfl rfl (y_lss rfl rfl) ?_
        refine gk_nil (gk_sub (T' := [(0,_), (4,_), (5,_), (6,_), (7,_), (8,_), (10,_), (50,_)]) ⟨rfl, rfl, rfl, rfl, rfl, rfl, rfl, rfl, trivial⟩ ?_)
        refine gk_cond rfl (fun hc50 => ?_) (fun hc50 => ?_)
        · simp only [decide_eq_true_eq] at hc50
          refine gk_skip ?_
          refine gk_seq ?_
          refine gk_block ?_
          refine gk_seq ?_
          refine gk_region ?_
          refine gk_y rfl rfl (y_move rfl) ?_
          refine gk_y rfl rfl (y_move rfl) ?_
          refine gk_y rfl rfl (y_move rfl) ?_
          refine gk_y rfl rfl (y_addI rfl rfl (by omega) (by omega)) ?_
          refine gk_y rfl rfl (y_move rfl) ?_
          refine gk_y rfl rfl (y_lenS (Tryd.underlying22) rfl) ?_
          refine gk_y rfl rfl (y_rem rfl rfl (by omega)) ?_
          refine gk_y rfl rfl (y_indexE se22 rfl rfl (fun _ hw => (Rd.has (Has.rd hl) hw)) (by omega) (by omega)) ?_
          refine gk_y rfl rfl (y_loadE (vs := [_, _]) tf24 rfl (fun _ hw => (Rd.has (Has.rd hl) hw)) (by omega) (by omega) rfl) ?_
          refine gk_yx rfl rfl (yx_alloc tf24 (zs := [_, _]) rfl) fun b11 => ?_
          refine gk_storeV 0 tf24 rfl rfl (vs := [_, _]) rfl rfl rfl rfl rfl ?_
          refine gk_nil (gk_sub (T' := [(0,_), (4,_), (5,_), (6,_), (7,_), (8,_), (10,_), (11,_)]) ⟨rfl, rfl, rfl, rfl, rfl, rfl, rfl, rfl, trivial⟩ ?_)
          refine gk_seq ?_
          refine gk_region ?_
          refine gk_y rfl rfl (y_loadBA 3 tf24 rfl rfl (vs := [_, _]) rfl rfl) ?_
          refine gk_y rfl rfl (y_loadBA 2 tf24 rfl rfl (vs := [_, _]) rfl rfl) ?_
          refine gk_y rfl rfl (y_loadBA 0 tf24 rfl rfl (vs := [_, _]) rfl rfl) ?_
          refine gk_y rfl rfl (y_call en79 rfl (fun w hw => side_c ⟨_, _⟩ ⟨_, _⟩ ⟨_, _⟩ w)) ?_
          refine gk_y rfl rfl (y_gtr rfl rfl) ?_
          refine gk_nil (gk_sub (T' := [(0,_), (4,_), (5,_), (6,_), (7,_), (8,_), (10,_), (11,_), (66,_)]) ⟨rfl, rfl, rfl, rfl, rfl, rfl, rfl, rfl, rfl, trivial⟩ ?_)
          refine gk_cond rfl (fun hc66 => ?_) (fun hc66 => ?_)
          · skip
            refine gk_region ?_
            refine gk_y rfl rfl (y_move rfl) ?_
            refine gk_y rfl rfl (y_loadBA 0 tf24 rfl rfl (vs := [_, _]) rfl rfl) ?_
            refine gk_yx rfl rfl (yx_buildSlice rfl (bs22_1 _ _) encPt_ok rfl) fun b69 => ?_
            refine gk_append (m := [⟨((l.getD ((Int.tmod ((fromN l p q l.length) + i) (l.length : Int))).toNat default).x), ((l.getD ((Int.tmod ((fromN l p q l.length) + i) (l.length : Int))).toNat default).z)⟩]) 2 af22 encPt_ok rfl rfl rfl rfl (fun _ hw => (has_row encPt_ok (hw.has (p := 0) rfl))) (by first | omega | (simp only [List.length_cons, List.length_nil]; omega)) (by first | (unfold maxLen; omega) | (simp only [List.length_cons, List.length_nil, maxLen]; omega)) fun a70 c70 => ?_
            refine gk_y rfl rfl (y_assign rfl) ?_
            refine gk_nil (gk_sub (T' := [(0,_), (4,_), (5,_), (6,_), (7,_), (8,_), (10,_)]) ⟨rfl, rfl, rfl, rfl, rfl, rfl, rfl, trivial⟩ ?_)
            refine gk_region ?_
            refine gk_y rfl rfl (y_move rfl) ?_
            refine gk_y rfl rfl (y_addI rfl rfl (by omega) (by omega)) ?_
            refine gk_y rfl rfl (y_assign rfl) ?_
            refine gk_nil (gk_sub (T' := [(0,_), (4,_), (5,_), (6,_), (7,_), (8,_), (10,_)]) ⟨rfl, rfl, rfl, rfl, rfl, rfl, rfl, trivial⟩ ?_)
            refine gk_dropAt 0 rfl ?_
            refine gk_dropAt 0 rfl ?_
            exact gk_next (i + 1, _, _, _) ⟨rfl, rfl, rfl, rfl, rfl, rfl, rfl, trivial⟩ rfl ⟨by omega, by omega, by rw [leftO_succ g0, ← g2]; first | (rw [if_pos (show decide (0 < sideW p q (leftP l (fromN l p q l.length) i)) = true from hc66)]; rfl) | (rw [if_neg (by rw [show decide (0 < sideW p q (leftP l (fromN l p q l.length) i)) = false from hc66]; exact Bool.false_ne_true)]), by first | (rw [List.length_append]; simp only [List.length_cons, List.length_nil]; omega) | omega⟩ (by simp only []; omega)
          · skip
            refine gk_skip ?_
            refine gk_region ?_
            refine gk_y rfl rfl (y_move rfl) ?_
            refine gk_y rfl rfl (y_addI rfl rfl (by omega) (by omega)) ?_
            refine gk_y rfl rfl (y_assign rfl) ?_
            refine gk_nil (gk_sub (T' := [(0,_), (4,_), (5,_), (6,_), (7,_), (8,_), (10,_)]) ⟨rfl, rfl, rfl, rfl, rfl, rfl, rfl, trivial⟩ ?_)
            refine gk_dropAt 0 rfl ?_
            exact gk_next (i + 1, _, _, _) ⟨rfl, rfl, rfl, rfl, rfl, rfl, rfl, trivial⟩ rfl ⟨by omega, by omega, by rw [leftO_succ g0, ← g2]; first | (rw [if_pos (show decide (0 < sideW p q (leftP l (fromN l p q l.length) i)) = true from hc66)]; rfl) | (rw [if_neg (by rw [show decide (0 < sideW p q (leftP l (fromN l p q l.length) i)) = false from hc66]; exact Bool.false_ne_true)]), by first | (rw [List.length_append]; simp only [List.length_cons, List.length_nil]; omega) | omega⟩ (by simp only []; omega)
        · simp only [decide_eq_false_iff_not] at hc50
          refine gk_exit rfl ?_
          refine gk_seq ?_
          refine gk_region ?_
          refine gk_y rfl rfl (y_move rfl) ?_
          refine gk_y rfl rfl (y_assign rfl) ?_
          refine gk_nil (gk_sub (T' := [(6,_)]) ⟨rfl, trivial⟩ ?_)
          obtain rfl : m = leftL l p q := by rw [g2, show i.toNat = l.length from by omega]; rfl
          refine gk_ret ?_
          refine gk_gives (b, bc) 0 (rv_one rfl (r1_tmp rfl)) ?_ rfl
          rfl
end Go.Proofs.YtahahmelnaphjaaDoor

namespace Go.Stn
open Go Go.K Go.RowKit
/-- x = a + t / D (b - a), with 0 <= t < D -/
structure OnH (x a b : Pt) (D t : Int) : Prop where
  pos : 0 < D
  t0 : 0 ≤ t
  t1 : t < D
  ex : D * (x.x - a.x) = t * (b.x - a.x)
  ez : D * (x.z - a.z) = t * (b.z - a.z)
theorem OnH.lin {x a b : Pt} {D t : Int} (h : OnH x a b D t) (u v : Pt) : D * sideZ u v x = (D - t) * sideZ u v a + t * sideZ u v b := by
  have e1 := h.ex
  have e2 := h.ez
  unfold sideZ
  have f1 : D * (x.x - u.x) = t * (b.x - a.x) + D * (a.x - u.x) := by rw [← e1]; grind
  have f2 : D * (x.z - u.z) = t * (b.z - a.z) + D * (a.z - u.z) := by rw [← e2]; grind
  calc D * ((v.x - u.x) * (x.z - u.z) - (v.z - u.z) * (x.x - u.x)) = (v.x - u.x) * (D * (x.z - u.z)) - (v.z - u.z) * (D * (x.x - u.x)) := by grind
    _ = _ := by rw [f1, f2]; grind
theorem OnH.start {x a b : Pt} {D : Int} (h : OnH x a b D 0) : x = a := by
  have e1 := h.ex
  have e2 := h.ez
  have hp := h.pos
  rw [Int.zero_mul, Int.mul_eq_zero] at e1 e2
  cases x; cases a
  simp only [Pt.mk.injEq]
  dsimp only at *
  omega
theorem OnH.at {a b : Pt} (D : Int) (h : 0 < D) : OnH a a b D 0 := ⟨h, Int.le_refl _, h, by simp, by simp⟩
theorem side_same1 (u v : Pt) : sideZ u u v = 0 := by unfold sideZ; grind
theorem side_same2 (u v : Pt) : sideZ u v v = 0 := by unfold sideZ; grind
theorem side_same3 (u v : Pt) : sideZ u v u = 0 := by unfold sideZ; grind
theorem side_swap (u v w : Pt) : sideZ u v w = -sideZ u w v := by unfold sideZ; grind
theorem side_cyc2 (u v w : Pt) : sideZ u v w = sideZ w u v := by unfold sideZ; grind
theorem plucker (o e u v w : Pt) : sideZ o e v * sideZ o u w = sideZ o e u * sideZ o v w + sideZ o e w * sideZ o u v := by unfold sideZ; grind
theorem cor_mod (l : List Pt) (i : Nat) : cor l (i % l.length) = cor l i := by unfold cor; rw [Nat.mod_mod]
theorem cor_congr {l : List Pt} {i j : Nat} (h : i % l.length = j % l.length) : cor l i = cor l j := by unfold cor; rw [h]
theorem cor_add_mod (l : List Pt) (i k : Nat) : cor l (i % l.length + k) = cor l (i + k) := by unfold cor; rw [Nat.mod_add_mod]
theorem Cvx.edge {l : List Pt} (h : Cvx l) (i k : Nat) (h2 : 2 ≤ k) (hk : k < l.length) : 0 < sideZ (cor l i) (cor l (i + 1)) (cor l (i + k)) := by
  have := h (i % l.length) k (Nat.mod_lt _ (by omega)) h2 hk
  rwa [cor_mod, cor_add_mod, cor_add_mod] at this
/-- any three corners, in order, turn to the left -/
theorem Cvx.tri {l : List Pt} (h : Cvx l) (a i : Nat) (hi : 0 < i) : ∀ j, i < j → j < l.length → 0 < sideZ (cor l a) (cor l (a + i)) (cor l (a + j)) := by
  intro j
  induction j with
  | zero => intro hj; omega
  | succ j ih =>
    intro hj hn
    have hnext : ∀ i, 0 < i → i + 1 < l.length → 0 < sideZ (cor l a) (cor l (a + i)) (cor l (a + (i + 1))) := fun i h0 h1 => by
      have := h.edge (a + i) (l.length - i) (by omega) (by omega)
      rw [show a + i + (l.length - i) = a + l.length from by omega, cor_add, Nat.add_assoc] at this
      rw [side_cyc]
      exact this
    by_cases hij : i = j
    · subst hij; exact hnext i hi hn
    · have h1 := ih (by omega) (by omega)
      have h2 := hnext j (by omega) hn
      have e0 : 0 ≤ sideZ (cor l a) (cor l (a + 1)) (cor l (a + i)) := by
        by_cases h1 : i = 1
        · subst h1; rw [side_same2]; omega
        · exact Int.le_of_lt (h.edge a i (by omega) (by omega))
      have e1 := h.edge a j (by omega) (by omega)
      have e2 := h.edge a (j + 1) (by omega) (by omega)
      have hp := plucker (cor l a) (cor l (a + 1)) (cor l (a + i)) (cor l (a + j)) (cor l (a + (j + 1)))
      have p1 : 0 ≤ sideZ (cor l a) (cor l (a + 1)) (cor l (a + i)) * sideZ (cor l a) (cor l (a + j)) (cor l (a + (j + 1))) := Int.mul_nonneg e0 (Int.le_of_lt h2)
      have p2 : 0 < sideZ (cor l a) (cor l (a + 1)) (cor l (a + (j + 1))) * sideZ (cor l a) (cor l (a + i)) (cor l (a + j)) := Int.mul_pos e2 h1
      have p3 : 0 < sideZ (cor l a) (cor l (a + 1)) (cor l (a + j)) * sideZ (cor l a) (cor l (a + i)) (cor l (a + (j + 1))) := by omega
      exact Int.pos_of_mul_pos_right p3 e1
theorem Cvx.tri3 {l : List Pt} (h : Cvx l) {i j k : Nat} (hij : i < j) (hjk : j < k) (hk : k < i + l.length) : 0 < sideZ (cor l i) (cor l j) (cor l k) := by
  have := h.tri i (j - i) (by omega) (k - i) (by omega) (by omega)
  rwa [show i + (j - i) = j from by omega, show i + (k - i) = k from by omega] at this
theorem Cvx.tri0 {l : List Pt} (h : Cvx l) {i j k : Nat} (hij : i ≤ j) (hjk : j ≤ k) (hk : k ≤ i + l.length) : 0 ≤ sideZ (cor l i) (cor l j) (cor l k) := by
  by_cases h1 : i = j
  · subst h1; rw [side_same1]; omega
  · by_cases h2 : j = k
    · subst h2; rw [side_same2]; omega
    · by_cases h3 : k = i + l.length
      · subst h3; rw [cor_add, side_same3]; omega
      · exact Int.le_of_lt (h.tri3 (by omega) (by omega) (by omega))
theorem nn2 {a b c d : Int} (h1 : 0 ≤ a) (h2 : 0 ≤ b) (h3 : 0 ≤ c) (h4 : 0 ≤ d) : 0 ≤ a * b + c * d := Int.add_nonneg (Int.mul_nonneg h1 h2) (Int.mul_nonneg h3 h4)
theorem np2 {a b c d : Int} (h1 : 0 ≤ a) (h2 : b ≤ 0) (h3 : 0 ≤ c) (h4 : d ≤ 0) : a * b + c * d ≤ 0 := by
  have := Int.mul_nonpos_of_nonneg_of_nonpos h1 h2
  have := Int.mul_nonpos_of_nonneg_of_nonpos h3 h4
  omega
theorem pos2l {a b c d : Int} (h1 : 0 < a) (h2 : 0 < b) (h3 : 0 ≤ c) (h4 : 0 ≤ d) : 0 < a * b + c * d := by
  have := Int.mul_pos h1 h2
  have := Int.mul_nonneg h3 h4
  omega
theorem pos2r {a b c d : Int} (h1 : 0 ≤ a) (h2 : 0 ≤ b) (h3 : 0 < c) (h4 : 0 < d) : 0 < a * b + c * d := by
  have := Int.mul_nonneg h1 h2
  have := Int.mul_pos h3 h4
  omega
theorem nonpos_of {a b : Int} (h1 : 0 < a) (h2 : a * b ≤ 0) : b ≤ 0 := Classical.byContradiction fun h => by
  have := Int.mul_pos h1 (show 0 < b by omega)
  omega
theorem nonneg_of {a b : Int} (h1 : 0 < a) (h2 : 0 ≤ a * b) : 0 ≤ b := Classical.byContradiction fun h => by
  have := Int.mul_pos h1 (show 0 < -b by omega)
  rw [Int.mul_neg] at this
  omega
theorem pos_of {a b : Int} (h1 : 0 < a) (h2 : 0 < a * b) : 0 < b := Int.pos_of_mul_pos_right h2 h1
section
variable {l : List Pt} {p q : Pt} {a m : Nat} {D s E t : Int}
/-- the way from p to a corner -/
theorem side_pc (hp : OnH p (cor l a) (cor l (a + 1)) D s) (x y : Pt) : D * sideZ p x y = (D - s) * sideZ (cor l a) x y + s * sideZ (cor l (a + 1)) x y := by
  have := hp.lin x y
  rw [side_cyc2 x y p, side_cyc2 x y (cor l a), side_cyc2 x y (cor l (a + 1))] at this
  exact this
theorem side_qc {b : Nat} (hq : OnH q (cor l b) (cor l (b + 1)) E t) (x y : Pt) : E * sideZ x q y = (E - t) * sideZ x (cor l b) y + t * sideZ x (cor l (b + 1)) y := by
  have := hq.lin y x
  rw [side_cyc y x q, side_cyc y x (cor l b), side_cyc y x (cor l (b + 1))] at this
  exact this
theorem arc_pos (h : Cvx l) (hp : OnH p (cor l a) (cor l (a + 1)) D s) (hq : OnH q (cor l (a + m)) (cor l (a + m + 1)) E t) (hm : 1 ≤ m) {k : Nat} (h1 : m < k) (h2 : k < l.length) : 0 < sideZ p q (cor l (a + k)) := by
  refine pos_of hp.pos ?_
  rw [side_pc hp]
  have f1 : 0 < sideZ (cor l a) q (cor l (a + k)) := by
    refine pos_of hq.pos ?_
    rw [side_qc hq]
    exact pos2l (by have := hq.t1; omega) (h.tri3 (by omega) (by omega) (by omega)) hq.t0 (h.tri0 (by omega) (by omega) (by omega))
  have f2 : 0 ≤ sideZ (cor l (a + 1)) q (cor l (a + k)) := by
    refine nonneg_of hq.pos ?_
    rw [side_qc hq]
    exact nn2 (by have := hq.t1; omega) (h.tri0 (by omega) (by omega) (by omega)) hq.t0 (h.tri0 (by omega) (by omega) (by omega))
  exact pos2l (by have := hp.t1; omega) f1 hp.t0 f2
theorem arc_end (h : Cvx l) (hp : OnH p (cor l a) (cor l (a + 1)) D s) (hq : OnH q (cor l (a + m)) (cor l (a + m + 1)) E t) (hm : 1 ≤ m) (hn : m < l.length) (h3 : 3 ≤ l.length) (hs : 0 < s) (ht : m = 1 → 0 < t) : 0 < sideZ p q (cor l (a + l.length)) := by
  refine pos_of hp.pos ?_
  rw [side_pc hp]
  have f1 : 0 ≤ sideZ (cor l a) q (cor l (a + l.length)) := by rw [cor_add, side_same3]; omega
  have f2 : 0 < sideZ (cor l (a + 1)) q (cor l (a + l.length)) := by
    refine pos_of hq.pos ?_
    rw [side_qc hq]
    by_cases h1 : m = 1
    · exact pos2r (by have := hq.t1; omega) (h.tri0 (by omega) (by omega) (by omega)) (ht h1) (h.tri3 (by omega) (by omega) (by omega))
    · exact pos2l (by have := hq.t1; omega) (h.tri3 (by omega) (by omega) (by omega)) hq.t0 (h.tri0 (by omega) (by omega) (by omega))
  exact pos2r (by have := hp.t1; omega) f1 hs f2
theorem arc_neg (h : Cvx l) (hp : OnH p (cor l a) (cor l (a + 1)) D s) (hq : OnH q (cor l (a + m)) (cor l (a + m + 1)) E t) (hn : m < l.length) {k : Nat} (h1 : 1 ≤ k) (h2 : k ≤ m) : sideZ p q (cor l (a + k)) ≤ 0 := by
  refine nonpos_of hp.pos ?_
  rw [side_pc hp]
  have hs : ∀ i j : Nat, i ≤ a + k → a + k ≤ j → j ≤ i + l.length → sideZ (cor l i) (cor l j) (cor l (a + k)) ≤ 0 := fun i j c1 c2 c3 => by
    rw [side_swap]
    have := h.tri0 (i := i) (j := a + k) (k := j) c1 c2 c3
    omega
  have f : ∀ i : Nat, i = a ∨ i = a + 1 → sideZ (cor l i) q (cor l (a + k)) ≤ 0 := fun i hi => by
    refine nonpos_of hq.pos ?_
    rw [side_qc hq]
    exact np2 (by have := hq.t1; omega) (hs _ _ (by omega) (by omega) (by omega)) hq.t0 (hs _ _ (by omega) (by omega) (by omega))
  exact np2 (by have := hp.t1; omega) (f a (.inl rfl)) hp.t0 (f (a + 1) (.inr rfl))
/-- a border point lies to the left of each edge, or on it -/
theorem edge_nn (h : Cvx l) (h3 : 3 ≤ l.length) (i : Nat) {b : Nat} (hq : OnH q (cor l b) (cor l (b + 1)) E t) : 0 ≤ sideZ (cor l i) (cor l (i + 1)) q := by
  have key : ∀ j, 0 ≤ sideZ (cor l i) (cor l (i + 1)) (cor l j) := fun j => by
    have hj : cor l j = cor l (i + (j + (l.length - i % l.length)) % l.length) := by
      apply cor_congr
      rw [Nat.add_mod_mod, ← Nat.mod_add_mod, show i % l.length + (j + (l.length - i % l.length)) = j + l.length from by have := Nat.mod_lt i (show l.length > 0 by omega); omega, Nat.add_mod_right]
    rw [hj]
    have := Nat.mod_lt (j + (l.length - i % l.length)) (show l.length > 0 by omega)
    generalize (j + (l.length - i % l.length)) % l.length = k at this ⊢
    by_cases h0 : k = 0
    · subst h0
      show 0 ≤ sideZ (cor l i) (cor l (i + 1)) (cor l i)
      rw [side_same3]; omega
    · exact h.tri0 (by omega) (by omega) (by omega)
  refine nonneg_of hq.pos ?_
  rw [hq.lin]
  exact nn2 (by have := hq.t1; omega) (key _) hq.t0 (key _)
/-- the one edge whose line a border point lies on -/
theorem edge_zero (h : Cvx l) (h3 : 3 ≤ l.length) {i : Nat} {k : Nat} (hk : k < l.length) (hq : OnH q (cor l (i + k)) (cor l (i + k + 1)) E t) (h0 : sideZ (cor l i) (cor l (i + 1)) q = 0) : k = 0 ∨ (k = 1 ∧ t = 0) := by
  have hl := hq.lin (cor l i) (cor l (i + 1))
  rw [h0, Int.mul_zero] at hl
  have a1 := hq.t0
  have a2 := hq.t1
  by_cases c0 : k = 0
  · exact .inl c0
  · by_cases c1 : k = 1
    · subst c1
      refine .inr ⟨rfl, ?_⟩
      rw [side_same2, Int.mul_zero, Int.zero_add] at hl
      have := h.tri3 (i := i) (j := i + 1) (k := i + 1 + 1) (by omega) (by omega) (by omega)
      rcases Int.mul_eq_zero.1 hl.symm with h5 | h5
      · exact h5
      · omega
    · exfalso
      have := h.tri3 (i := i) (j := i + 1) (k := i + k) (by omega) (by omega) (by omega)
      have g2 := h.tri0 (i := i) (j := i + 1) (k := i + k + 1) (by omega) (by omega) (by omega)
      have := pos2l (a := E - t) (c := t) (by omega) this a1 g2
      omega
end
end Go.Stn

namespace Go.Stn
open Go Go.K Go.RowKit
theorem edgesL_get {l : List Pt} {i : Nat} (h : i < l.length) : (edgesL l)[i]? = some (cor l i, cor l (i + 1)) := by
  unfold edgesL
  rw [List.getElem?_map, List.getElem?_range h]
  simp only [Option.map_some]
  rw [ptAt_cor h, atL_cor (i := (i : Int) + 1) (n := i + 1 + l.length) (by omega), cor_add]
theorem sq_nn (a : Int) : 0 ≤ a * a := by
  rcases Int.le_total 0 a with h | h
  · exact Int.mul_nonneg h h
  · have := Int.mul_nonneg (show 0 ≤ -a by omega) (show 0 ≤ -a by omega)
    rw [Int.neg_mul_neg] at this
    exact this
theorem sq_lt {a b : Int} (h : a * a < b * b) (hb : 0 ≤ b) : a < b := Classical.byContradiction fun hn => by
  have : b * b ≤ a * a := Int.mul_le_mul (by omega) (by omega) hb (by omega)
  omega
theorem mul_zero_of {a b : Int} (h : 0 < a) (hz : a * b = 0) : b = 0 := by
  rcases Int.mul_eq_zero.1 hz with h1 | h1
  · omega
  · exact h1
theorem le_of_mul {a b c : Int} (h : 0 < a) (hz : a * b ≤ a * c) : b ≤ c := Int.le_of_mul_le_mul_left hz h
/-- from a to b, as a pair -/
theorem onH_id (a b x : Pt) : dotZ (subZ b a) (subZ b a) * (x.x - a.x) = dotZ (subZ x a) (subZ b a) * (b.x - a.x) - (b.z - a.z) * sideZ a b x ∧
    dotZ (subZ b a) (subZ b a) * (x.z - a.z) = dotZ (subZ x a) (subZ b a) * (b.z - a.z) + (b.x - a.x) * sideZ a b x := by
  unfold dotZ subZ sideZ
  dsimp only
  constructor <;> grind
theorem lagrange (a b x : Pt) : dotZ (subZ x a) (subZ b a) * dotZ (subZ x a) (subZ b a) = dotZ (subZ x a) (subZ x a) * dotZ (subZ b a) (subZ b a) - sideZ a b x * sideZ a b x := by
  unfold dotZ subZ sideZ
  dsimp only
  grind
theorem dot_pos {a b : Pt} (h : a ≠ b) : 0 < dotZ (subZ b a) (subZ b a) := by
  unfold dotZ subZ
  dsimp only
  have h1 := sq_nn (b.x - a.x)
  have h2 := sq_nn (b.z - a.z)
  rcases Int.lt_or_eq_of_le (Int.add_nonneg h1 h2) with h3 | h3
  · exact h3
  · exfalso
    have e1 : (b.x - a.x) * (b.x - a.x) = 0 := by omega
    have e2 : (b.z - a.z) * (b.z - a.z) = 0 := by omega
    have e1 : b.x - a.x = 0 := by rcases Int.mul_eq_zero.1 e1 with h | h <;> exact h
    have e2 : b.z - a.z = 0 := by rcases Int.mul_eq_zero.1 e2 with h | h <;> exact h
    apply h
    cases a; cases b
    simp only [Pt.mk.injEq]
    dsimp only at *
    omega
def OnS (x a b : Pt) : Prop := ∃ D t, OnH x a b D t
theorem onS_of {a b x : Pt} (h0 : sideZ a b x = 0) (h1 : 0 ≤ dotZ (subZ x a) (subZ b a)) (h2 : dotZ (subZ x a) (subZ b a) < dotZ (subZ b a) (subZ b a)) : OnS x a b := by
  obtain ⟨e1, e2⟩ := onH_id a b x
  rw [h0] at e1 e2
  exact ⟨_, _, by omega, h1, h2, by rw [e1]; omega, by rw [e2]; omega⟩
theorem onS_dot {a b x : Pt} {D t : Int} (h : OnH x a b D t) : D * dotZ (subZ x a) (subZ b a) = t * dotZ (subZ b a) (subZ b a) ∧ D * (D * dotZ (subZ x a) (subZ x a)) = t * t * dotZ (subZ b a) (subZ b a) := by
  have e1 := h.ex
  have e2 := h.ez
  unfold dotZ subZ
  dsimp only
  generalize x.x - a.x = u at *
  generalize x.z - a.z = v at *
  generalize b.x - a.x = d at *
  generalize b.z - a.z = f at *
  constructor
  · calc D * (u * d + v * f) = (D * u) * d + (D * v) * f := by grind
      _ = _ := by rw [e1, e2]; grind
  · calc D * (D * (u * u + v * v)) = (D * u) * (D * u) + (D * v) * (D * v) := by grind
      _ = _ := by rw [e1, e2]; grind
theorem onS_side {a b x : Pt} {D t : Int} (h : OnH x a b D t) : sideZ a b x = 0 := by
  have := h.lin a b
  rw [side_same3, side_same2, Int.mul_zero, Int.mul_zero, Int.add_zero] at this
  exact mul_zero_of h.pos this
theorem onE_iff {a b x : Pt} (ha : farB a = false) (hb : farB b = false) (hx : farB x = false) (hab : a ≠ b) : onE x (a, b) = true ↔ OnS x a b := by
  have i1 : inR 2000 a := by have := far_in ha; unfold inR; omega
  have i2 : inR 2000 b := by have := far_in hb; unfold inR; omega
  have i3 : inR 2000 x := by have := far_in hx; unfold inR; omega
  have hd := dot_pos hab
  unfold onE
  dsimp only
  rw [subW_eq (by omega) i2 i1, subW_eq (by omega) i3 i1]
  have j1 := subZ_in i2 i1
  have j2 := subZ_in i3 i1
  rw [crossW_eq (by omega) (by omega) j1 j2, dotW_eq (by omega) (by omega) j2 j1, dotW_eq (by omega) (by omega) j2 j2, dotW_eq (by omega) (by omega) j1 j1]
  have hc : crossZ (subZ b a) (subZ x a) = sideZ a b x := by
    unfold crossZ subZ sideZ
    dsimp only
  rw [hc]
  simp only [Bool.and_eq_true, decide_eq_true_eq]
  constructor
  · rintro ⟨⟨h0, h1⟩, h2⟩
    refine onS_of h0 h1 (sq_lt ?_ (by omega))
    have hl := lagrange a b x
    rw [h0] at hl
    have := Int.mul_lt_mul_of_pos_right h2 hd
    omega
  · rintro ⟨D, t, h⟩
    obtain ⟨e1, e2⟩ := onS_dot h
    refine ⟨⟨onS_side h, ?_⟩, ?_⟩
    · refine nonneg_of h.pos ?_
      rw [e1]
      exact Int.mul_nonneg h.t0 (by omega)
    · have hp := h.pos
      refine Classical.byContradiction fun hn => ?_
      have a1 : D * D * dotZ (subZ b a) (subZ b a) ≤ D * (D * dotZ (subZ x a) (subZ x a)) := by
        rw [Int.mul_assoc]
        exact Int.mul_le_mul_of_nonneg_left (Int.mul_le_mul_of_nonneg_left (by omega) (by omega)) (by omega)
      rw [e2] at a1
      have a2 : t * t < D * D := by
        have := Int.mul_le_mul (show t ≤ D - 1 by have := h.t1; omega) (show t ≤ D - 1 by have := h.t1; omega) h.t0 (by omega)
        have h3 : (D - 1) * (D - 1) = D * D - D - D + 1 := by grind
        omega
      have := Int.mul_lt_mul_of_pos_right a2 hd
      omega
theorem between1 {u d : Int} (h1 : min 0 d ≤ u) (h2 : u ≤ max 0 d) : 0 ≤ u * d ∧ u * d ≤ d * d := by
  rcases Int.le_total 0 d with h | h
  · exact ⟨Int.mul_nonneg (by omega) h, Int.mul_le_mul_of_nonneg_right (by omega) h⟩
  · have a := Int.mul_nonneg (show 0 ≤ -u by omega) (show 0 ≤ -d by omega)
    have b := Int.mul_le_mul_of_nonneg_right (show -u ≤ -d by omega) (show 0 ≤ -d by omega)
    rw [Int.neg_mul_neg] at a b
    rw [Int.neg_mul_neg] at b
    exact ⟨a, b⟩
theorem between2 {D t u d : Int} (hD : 0 < D) (h0 : 0 ≤ t) (h1 : t ≤ D) (h : D * u = t * d) : min 0 d ≤ u ∧ u ≤ max 0 d := by
  rcases Int.le_total 0 d with hd | hd
  · have a : 0 ≤ u := nonneg_of hD (by rw [h]; exact Int.mul_nonneg h0 hd)
    have b : u ≤ d := le_of_mul hD (by rw [h]; exact Int.mul_le_mul_of_nonneg_right h1 hd)
    omega
  · have a : u ≤ 0 := nonpos_of hD (by rw [h]; exact Int.mul_nonpos_of_nonneg_of_nonpos h0 hd)
    have b : d ≤ u := le_of_mul hD (by rw [h]; exact Int.mul_le_mul_of_nonpos_right h1 hd)
    omega
theorem ron_iff {a b x : Pt} (ha : farB a = false) (hb : farB b = false) (hx : farB x = false) (hab : a ≠ b) : ronB a b x = true ↔ OnS x a b ∨ x = b := by
  have i1 : inR 2000 a := by have := far_in ha; unfold inR; omega
  have i2 : inR 2000 b := by have := far_in hb; unfold inR; omega
  have i3 : inR 2000 x := by have := far_in hx; unfold inR; omega
  have hd := dot_pos hab
  unfold ronB
  rw [sideW_eq (by omega) i1 i2 i3]
  simp only [Bool.and_eq_true, decide_eq_true_eq]
  constructor
  · rintro ⟨⟨h0, h1, h2⟩, h3, h4⟩
    obtain ⟨c1, c2⟩ := between1 (u := x.x - a.x) (d := b.x - a.x) (by omega) (by omega)
    obtain ⟨c3, c4⟩ := between1 (u := x.z - a.z) (d := b.z - a.z) (by omega) (by omega)
    have d1 : 0 ≤ dotZ (subZ x a) (subZ b a) := by
      unfold dotZ subZ; dsimp only; omega
    have d2 : dotZ (subZ x a) (subZ b a) ≤ dotZ (subZ b a) (subZ b a) := by
      unfold dotZ subZ; dsimp only; omega
    rcases Int.lt_or_eq_of_le d2 with d3 | d3
    · exact .inl (onS_of h0 d1 d3)
    · refine .inr ?_
      obtain ⟨e1, e2⟩ := onH_id a b x
      rw [h0, d3, Int.mul_zero] at e1 e2
      have f1 := Int.eq_of_mul_eq_mul_left (by omega) (show dotZ (subZ b a) (subZ b a) * (x.x - a.x) = dotZ (subZ b a) (subZ b a) * (b.x - a.x) by omega)
      have f2 := Int.eq_of_mul_eq_mul_left (by omega) (show dotZ (subZ b a) (subZ b a) * (x.z - a.z) = dotZ (subZ b a) (subZ b a) * (b.z - a.z) by omega)
      cases x; cases b
      simp only [Pt.mk.injEq]
      dsimp only at *
      omega
  · rintro (⟨D, t, h⟩ | rfl)
    · obtain ⟨c1, c2⟩ := between2 h.pos h.t0 (by have := h.t1; omega) h.ex
      obtain ⟨c3, c4⟩ := between2 h.pos h.t0 (by have := h.t1; omega) h.ez
      exact ⟨⟨onS_side h, by omega, by omega⟩, by omega, by omega⟩
    · rw [side_same2]
      omega
/-- all that a border needs of a shape -/
structure Good (l : List Pt) : Prop where
  near : Near l
  cvx : Cvx l
  len : 3 ≤ l.length
section
variable {l : List Pt} (g : Good l)
include g
theorem Good.far (i : Nat) : farB (cor l i) = false := g.near _ (cor_mem (by have := g.len; omega) i)
theorem Good.ne (i : Nat) : cor l i ≠ cor l (i + 1) := fun h => by
  have := g.cvx.edge i 2 (by omega) (by have := g.len; omega)
  rw [h, side_same1] at this
  omega
/-- a point on edge number i -/
abbrev BP (l : List Pt) (x : Pt) (i : Nat) : Prop := OnS x (cor l i) (cor l (i + 1))
omit g in
theorem BP.congr {x : Pt} {i j : Nat} (h : BP l x i) (hij : i % l.length = j % l.length) : BP l x j := by
  have e1 : cor l i = cor l j := cor_congr hij
  have e2 : cor l (i + 1) = cor l (j + 1) := cor_congr (by rw [← Nat.mod_add_mod, hij, Nat.mod_add_mod])
  unfold BP at *
  rw [← e1, ← e2]
  exact h
theorem Good.zero {x : Pt} {i k : Nat} (hk : k < l.length) (h : BP l x (i + k)) (h0 : sideZ (cor l i) (cor l (i + 1)) x = 0) : k = 0 ∨ (k = 1 ∧ x = cor l (i + 1)) := by
  obtain ⟨D, t, h⟩ := h
  rcases edge_zero g.cvx g.len hk h h0 with h1 | ⟨h1, h2⟩
  · exact .inl h1
  · subst h1; subst h2; exact .inr ⟨rfl, h.start⟩
omit g in
theorem off_mod {n i j : Nat} (hi : i < n) (hj : j < n) : j % n = (i + (if i ≤ j then j - i else j + n - i)) % n := by
  split
  · rw [show i + (j - i) = j from by omega]
  · rw [show i + (j + n - i) = j + n from by omega, Nat.add_mod_right]
theorem Good.uniq {x : Pt} {i j : Nat} (hi : i < l.length) (hj : j < l.length) (h1 : BP l x i) (h2 : BP l x j) : i = j := by
  have s1 : sideZ (cor l i) (cor l (i + 1)) x = 0 := by obtain ⟨D, t, h⟩ := h1; exact onS_side h
  have s2 : sideZ (cor l j) (cor l (j + 1)) x = 0 := by obtain ⟨D, t, h⟩ := h2; exact onS_side h
  have a := g.zero (by split <;> omega) (h2.congr (off_mod hi hj)) s1
  have b := g.zero (by split <;> omega) (h1.congr (off_mod hj hi)) s2
  have := g.len
  rcases a with a | ⟨a, _⟩ <;> rcases b with b | ⟨b, _⟩ <;> (split at a <;> split at b <;> omega)
theorem Good.edge {x : Pt} (h : 0 ≤ edgeI l x) : ∃ i : Nat, edgeI l x = (i : Int) ∧ i < l.length ∧ BP l x i ∧ farB x = false := by
  have hf : farB x = false := by
    cases hf : farB x with
    | false => rfl
    | true => rw [edgeI, if_pos hf] at h; omega
  have hl := (edge_lt (l := l) (x := x)).1
  rw [edgeI, if_neg (by rw [hf]; exact Bool.false_ne_true)] at h hl ⊢
  unfold findI at h hl ⊢
  split at h
  · rename_i ha
    rw [if_pos ha] at hl
    rw [if_pos ha]
    refine ⟨_, rfl, by omega, ?_, hf⟩
    have hlt : (edgesL l).findIdx (onE x) < (edgesL l).length := List.findIdx_lt_length_of_exists (by simpa using ha)
    have hp : onE x (edgesL l)[(edgesL l).findIdx (onE x)] = true := List.findIdx_getElem
    have hg := edgesL_get (l := l) (i := (edgesL l).findIdx (onE x)) (by omega)
    have he : (edgesL l)[(edgesL l).findIdx (onE x)] = (cor l ((edgesL l).findIdx (onE x)), cor l ((edgesL l).findIdx (onE x) + 1)) := (List.getElem?_eq_some_iff.1 hg).2
    rw [he] at hp
    exact (onE_iff (g.far _) (g.far _) hf (g.ne _)).1 hp
  · omega
theorem Good.edge_at {x : Pt} {i : Nat} (hf : farB x = false) (hi : i < l.length) (h : BP l x i) : edgeI l x = (i : Int) := by
  rw [edgeI, if_neg (by rw [hf]; exact Bool.false_ne_true)]
  refine findI_at (edgesL_get hi) (fun j y hj hy => ?_) ((onE_iff (g.far _) (g.far _) hf (g.ne _)).2 h)
  rw [edgesL_get (by omega)] at hy
  cases hy
  cases ho : onE x (cor l j, cor l (j + 1)) with
  | false => rfl
  | true =>
    have := g.uniq hi (by omega) h ((onE_iff (g.far _) (g.far _) hf (g.ne _)).1 ho)
    omega
omit g in
theorem corners {i : Nat} (hi : i < l.length) : ptAt l (i : Int) = cor l i ∧ nextL l (i : Int) = cor l (i + 1) := ⟨ptAt_cor hi, nextL_cor i⟩
theorem Good.border {x : Pt} : rbordB l x = decide (0 ≤ edgeI l x) := by
  rw [Bool.eq_iff_iff, decide_eq_true_eq]
  constructor
  · intro h
    unfold rbordB rbordN at h
    rw [Bool.and_eq_true, Bool.not_eq_true', Bool.not_eq_true'] at h
    obtain ⟨hf, ha⟩ := h
    have hex : ∃ i, i < l.length ∧ ronB (ptAt l (i : Nat)) (nextL l (i : Nat)) x = true := Classical.byContradiction fun hn => by
      rw [allI_true (fun i hi => ?_)] at ha
      · cases ha
      · cases hr : ronB (ptAt l (i : Nat)) (nextL l (i : Nat)) x with
        | false => rfl
        | true => exact absurd ⟨i, hi, hr⟩ hn
    obtain ⟨i, hi, hr⟩ := hex
    rw [(corners hi).1, (corners hi).2, ron_iff (g.far _) (g.far _) hf (g.ne _)] at hr
    rcases hr with hr | hr
    · rw [g.edge_at hf hi hr]; omega
    · have hlt : (i + 1) % l.length < l.length := Nat.mod_lt _ (by omega)
      have : BP l x (i + 1) := ⟨1, 0, by rw [hr]; exact OnH.at 1 (by omega)⟩
      rw [g.edge_at hf hlt (this.congr (Nat.mod_mod _ _).symm)]; omega
  · intro h
    obtain ⟨i, _, hi, hb, hf⟩ := g.edge h
    refine rbord_yes (i := (i : Int)) hf (by omega) (by omega) ?_
    rw [(corners hi).1, (corners hi).2, ron_iff (g.far _) (g.far _) hf (g.ne _)]
    exact .inl hb
/-- a border point lies on an edge's line only on that edge -/
theorem Good.line {x : Pt} {a i : Nat} (hf : farB x = false) (ha : a < l.length) (hb : BP l x a) (hi : i < l.length) : sideZ (cor l i) (cor l (i + 1)) x = 0 ↔ ronB (cor l i) (cor l (i + 1)) x = true := by
  rw [ron_iff (g.far _) (g.far _) hf (g.ne _)]
  constructor
  · intro h0
    rcases g.zero (by split <;> omega) (hb.congr (off_mod hi ha)) h0 with h1 | ⟨_, h2⟩
    · have : a = i := by split at h1 <;> omega
      subst this; exact .inl hb
    · exact .inr h2
  · rintro (⟨D, t, h⟩ | rfl)
    · exact onS_side h
    · rw [side_same2]
theorem Good.apart {p q : Pt} (hp : 0 ≤ edgeI l p) (hq : 0 ≤ edgeI l q) : apartB l p q = rapartB l p q := by
  obtain ⟨a, _, ha, hbp, hfp⟩ := g.edge hp
  obtain ⟨b, _, hb, hbq, hfq⟩ := g.edge hq
  have i1 : inR 2000 p := by have := far_in hfp; unfold inR; omega
  have i2 : inR 2000 q := by have := far_in hfq; unfold inR; omega
  have ic : ∀ i, inR 2000 (cor l i) := fun i => by have := far_in (g.far i); unfold inR; omega
  have key : ∀ i, i < l.length → both0 p q (cor l i, cor l (i + 1)) = rboth l p q (i : Nat) := fun i hi => by
    unfold both0 rboth
    rw [(corners hi).1, (corners hi).2, Bool.eq_iff_iff]
    simp only [Bool.and_eq_true, decide_eq_true_eq]
    rw [turnW_eq (by omega) (ic _) (ic _) i1, turnW_eq (by omega) (ic _) (ic _) i2, g.line hfp ha hbp hi, g.line hfq hb hbq hi]
  unfold apartB rapartB
  rw [Bool.eq_iff_iff, Bool.not_eq_true', allI_iff, List.any_eq_false]
  constructor
  · intro h i hi
    have := h _ (List.mem_of_getElem? (edgesL_get hi))
    rw [key i hi] at this
    simpa using this
  · intro h e he
    obtain ⟨j, hj, rfl⟩ := List.getElem_of_mem he
    rw [edges_len'] at hj
    have hg := (List.getElem?_eq_some_iff.1 (edgesL_get hj)).2
    rw [hg, key j hj]
    simpa using h j hj
end
end Go.Stn
