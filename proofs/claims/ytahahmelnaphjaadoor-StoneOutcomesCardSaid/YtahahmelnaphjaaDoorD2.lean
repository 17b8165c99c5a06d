/- Stones as plain data, second text: weights, borders. No statement of the seat is proved in this text. -/
import Derived.Test.YtahahmelnaphjaaDoorData
namespace Go.Stn
open Go Go.K Go.RowKit

def weightW (s : Stn) : Int := W (W (twiceW s.shape * s.depth) * s.density)
def askI (s : Stn) (v : Int) : Int := if checkI s = 0 then v else 0
def askL {α : Type} (s : Stn) (l : List α) : List α := if checkI s = 0 then l else []
theorem check_cases (s : Stn) : checkI s = 0 ∨ checkI s = 2 := by
  unfold checkI; split <;> simp

/-- all corners are within range -/
def Near (l : List Pt) : Prop := ∀ p ∈ l, farB p = false
theorem near_in {p : Pt} (h : farB p = false) : 0 ≤ p.x ∧ p.x ≤ 2000 ∧ 0 ≤ p.z ∧ p.z ≤ 2000 := by
  unfold farB at h
  simp at h
  omega
theorem near_getD {l : List Pt} (h : Near l) {i : Nat} (hi : i < l.length) : farB (l.getD i default) = false := h _ (by simp [hi])
theorem near_edge {l : List Pt} (h : Near l) {n : Nat} {e : Pt × Pt} (he : (edgesL l)[n]? = some e) : farB e.1 = false ∧ farB e.2 = false := by
  unfold edgesL at he
  rw [List.getElem?_map] at he
  have hn : n < l.length := by
    rcases Nat.lt_or_ge n l.length with h | h
    · exact h
    · rw [List.getElem?_eq_none (by simpa using h)] at he; cases he
  rw [List.getElem?_range hn] at he
  simp only [Option.map_some, Option.some.injEq] at he
  subst he
  refine ⟨?_, ?_⟩
  · exact near_getD h (by omega)
  · unfold atL
    refine near_getD h ?_
    have q0 : 0 ≤ ((n : Int) + 1 + (l.length : Int)).tmod (l.length : Int) := Int.tmod_nonneg _ (by omega)
    have q1 : ((n : Int) + 1 + (l.length : Int)).tmod (l.length : Int) < (l.length : Int) := Int.tmod_lt_of_pos _ (by omega)
    omega

/-- how many steps an edge has -/
def stepsN (p q : Pt) : Nat := Nat.gcd (q.x - p.x).natAbs (q.z - p.z).natAbs
def stepsI (p q : Pt) : Int := (stepsN p q : Int)
/-- a border point of an edge -/
def bpW (p q : Pt) (k : Int) : Pt := ⟨W (p.x + W (W ((subW q p).x.tdiv (stepsI p q)) * k)), W (p.z + W (W ((subW q p).z.tdiv (stepsI p q)) * k))⟩
def borderE (e : Pt × Pt) : List Pt := (List.range (stepsN e.1 e.2)).map fun (k : Nat) => bpW e.1 e.2 (k : Int)
def borderL (l : List Pt) : List Pt := (edgesL l).flatMap borderE
abbrev onePt (p : Pt) : List Value := [ptV p]
abbrev borderVs (l : List Pt) : List (List Value) := (borderL l).map onePt
def preN (l : List Pt) (n : Nat) : Nat := (((edgesL l).take n).flatMap borderE).length
theorem borderE_len (e : Pt × Pt) : (borderE e).length = stepsN e.1 e.2 := by simp [borderE]
theorem preN_zero (l : List Pt) : preN l 0 = 0 := by simp [preN]
theorem preN_succ {l : List Pt} {n : Nat} {e : Pt × Pt} (h : (edgesL l)[n]? = some e) : preN l (n + 1) = preN l n + stepsN e.1 e.2 := by
  unfold preN
  rw [List.take_add_one, h]
  simp [borderE_len]
theorem preN_all (l : List Pt) : preN l (edgeVs l).length = (borderVs l).length := by
  unfold preN
  rw [show (edgeVs l).length = (edgesL l).length from by simp [edgeVs], List.take_length]
  simp [borderVs, borderL]
theorem border_get {l : List Pt} {n : Nat} {e : Pt × Pt} (h : (edgesL l)[n]? = some e) {k : Int} (h0 : 0 ≤ k) (h1 : k < stepsI e.1 e.2) : (borderVs l)[preN l n + k.toNat]? = some [ptV (bpW e.1 e.2 k)] := by
  have hk : k.toNat < stepsN e.1 e.2 := by unfold stepsI at h1; omega
  have hn : n < (edgesL l).length := (List.getElem?_eq_some_iff.1 h).1
  have hsplit : borderL l = ((edgesL l).take n).flatMap borderE ++ (borderE e ++ ((edgesL l).drop (n + 1)).flatMap borderE) := by
    unfold borderL
    conv => lhs; rw [← List.take_append_drop n (edgesL l), List.drop_eq_getElem_cons hn]
    rw [List.flatMap_append, List.flatMap_cons]
    have : (edgesL l)[n] = e := (List.getElem?_eq_some_iff.1 h).2
    rw [this]
  unfold borderVs preN
  rw [List.getElem?_map, hsplit, List.getElem?_append_right (by omega), Nat.add_sub_cancel_left, List.getElem?_append_left (by rw [borderE_len]; omega)]
  unfold borderE
  rw [List.getElem?_map, List.getElem?_range hk]
  simp only [Option.map_some, onePt]
  rw [show ((k.toNat : Nat) : Int) = k from by omega]
theorem ones_one (l : List Pt) : ∀ a ∈ l.map onePt, a.length = 1 := fun a ha => by
  obtain ⟨e, _, rfl⟩ := List.mem_map.1 ha; rfl
theorem ones_inv {l : List Pt} {n : Nat} {args : List Value} (h : (l.map onePt)[n]? = some args) : ∃ p, l[n]? = some p ∧ args = [ptV p] := by
  rw [List.getElem?_map] at h
  cases he : l[n]? with
  | none => rw [he] at h; cases h
  | some e => rw [he] at h; exact ⟨e, rfl, by simpa using h.symm⟩

/-- numbers' greatest common divisor, round by round -/
theorem gcd_step {a b : Int} (ha : 0 ≤ a) (hb : 0 ≤ b) : Nat.gcd b.toNat (a.tmod b).toNat = Nat.gcd a.toNat b.toNat := by
  have h : (a.tmod b).toNat = a.toNat % b.toNat := by
    obtain ⟨m, rfl⟩ := Int.eq_ofNat_of_zero_le ha
    obtain ⟨n, rfl⟩ := Int.eq_ofNat_of_zero_le hb
    rfl
  rw [h, Nat.gcd_comm, ← Nat.gcd_rec, Nat.gcd_comm]
theorem near_sub {p q : Pt} (hp : farB p = false) (hq : farB q = false) : subW q p = ⟨q.x - p.x, q.z - p.z⟩ ∧ -2000 ≤ q.x - p.x ∧ q.x - p.x ≤ 2000 ∧ -2000 ≤ q.z - p.z ∧ q.z - p.z ≤ 2000 := by
  have h1 := near_in hp
  have h2 := near_in hq
  refine ⟨?_, by omega, by omega, by omega, by omega⟩
  unfold subW
  rw [show W (q.x - p.x) = q.x - p.x from wrap64_in (by omega) (by omega), show W (q.z - p.z) = q.z - p.z from wrap64_in (by omega) (by omega)]
theorem steps_le {p q : Pt} (hp : farB p = false) (hq : farB q = false) : stepsN p q ≤ 2000 := by
  have h := near_sub hp hq
  unfold stepsN
  by_cases hx : (q.x - p.x).natAbs = 0
  · rw [hx, Nat.gcd_zero_left]; omega
  · exact Nat.le_trans (Nat.gcd_le_left _ (by omega)) (by omega)
theorem take_snoc {α : Type} {l : List α} {n : Nat} {p : α} (h : l[n]? = some p) : l.take (n + 1) = l.take n ++ [p] := by rw [List.take_add_one, h]; rfl
theorem check_good {s : Stn} (h : checkI s = 0) : badB s = false := by
  unfold checkI at h
  cases hb : badB s with
  | false => rfl
  | true => rw [hb] at h; simp at h
theorem check_placed {s : Stn} (h : checkI s = 0) : placedB s.shape = true := by
  have := check_good h
  unfold badB at this
  simp only [Bool.or_eq_false_iff, Bool.not_eq_false'] at this
  exact this.1.1.1.2
theorem placed_near {l : List Pt} (h : placedB l = true) : Near l ∧ 3 ≤ l.length ∧ l.length ≤ 12 := by
  unfold placedB at h
  rw [Bool.and_eq_true, Bool.not_eq_true', Bool.or_eq_false_iff, Bool.not_eq_false'] at h
  refine ⟨fun p hp => ?_, convex_lenB h.1.2⟩
  cases hf : farB p with
  | false => rfl
  | true => have := h.1.1; rw [List.any_eq_true.2 ⟨p, hp, hf⟩] at this; cases this
theorem check_near {s : Stn} (h : checkI s = 0) : Near s.shape := (placed_near (check_placed h)).1
theorem check_len {s : Stn} (h : checkI s = 0) : 3 ≤ s.shape.length ∧ s.shape.length ≤ 12 := (placed_near (check_placed h)).2
theorem border_len {l : List Pt} (h : Near l) : (borderL l).length ≤ l.length * 2000 := by
  have key : ∀ n, n ≤ l.length → preN l n ≤ n * 2000 := by
    intro n
    induction n with
    | zero => intro _; simp [preN_zero]
    | succ n ih =>
      intro hn
      have hlt : n < (edgesL l).length := by rw [edges_len']; omega
      have he : (edgesL l)[n]? = some (edgesL l)[n] := by simp [hlt]
      have := steps_le (near_edge h he).1 (near_edge h he).2
      rw [preN_succ he]
      have := ih (by omega)
      omega
  have := key l.length (Nat.le_refl _)
  have h2 := preN_all l
  rw [show (edgeVs l).length = l.length from edges_len l] at h2
  rw [h2] at this
  simpa [borderVs] using this
/-- a slice among slices -/
structure Sli where
  a : Option Addr
  cap : Nat
  l : List Pt
instance : Inhabited Sli := ⟨⟨none, 0, []⟩⟩
abbrev encSli (s : Sli) : List Value := [.slice s.a s.l.length s.cap]
theorem encSli_ok : Enc 1 encSli := ⟨fun _ => rfl, fun _ => rfl, by decide⟩
theorem sum_le (ls : List Sli) (n : Nat) : ((ls.take n).flatMap Sli.l).length ≤ (ls.flatMap Sli.l).length := by
  conv => rhs; rw [← List.take_append_drop n ls, List.flatMap_append, List.length_append]
  omega
theorem sum_succ {ls : List Sli} {i : Int} (h0 : 0 ≤ i) (h1 : i < (ls.length : Int)) : (ls.take (i + 1).toNat).flatMap Sli.l = (ls.take i.toNat).flatMap Sli.l ++ (ls.getD i.toNat default).l := by
  rw [take_succ h0 h1, List.flatMap_append]; simp
theorem two_in {w : World} {x y : Sli} (hx : Has w (Pts x.a x.l)) (hy : Has w (Pts y.a y.l)) : ∀ i, i < [x, y].length → Has w (Pts ([x, y].getD i default).a ([x, y].getD i default).l)
  | 0, _ => hx
  | 1, _ => hy
  | n + 2, h => absurd h (by simp)
def eqB (v p : Pt) : Bool := decide (v.x = p.x) && decide (v.z = p.z)
theorem eqB_iff {v p : Pt} : eqB v p = true ↔ v = p := by
  unfold eqB
  cases v; cases p
  simp
end Go.Stn
