/- Plain facts: steps along an edge, two ways; chips. No statement of the seat is proved in this text. -/
import Derived.Test.YtahahmelnaphjaaDoorL7
import Derived.Test.YtahahmelnaphjaaDoorL3
namespace Go.Stn
open Go Go.K Go.RowKit

/-- all whole points from one to the other -/
def alongL (p q : Pt) : List Pt := rbI [p, q] 0 (rlong [p, q] 0 + 1).toNat
theorem near_two {p q : Pt} (hp : farB p = false) (hq : farB q = false) : Near [p, q] := fun x hx => by
  rcases List.mem_cons.1 hx with rfl | hx
  · exact hp
  · rw [List.mem_singleton.1 hx]; exact hq
theorem two_at (p q : Pt) : atL [p, q] (0 + 1) = q := by
  have : (((0 : Int) + 1) + (([p, q].length : Nat) : Int)).tmod (([p, q].length : Nat) : Int) = 1 := by simp
  unfold atL
  rw [this]
  rfl
theorem long_pos {p q : Pt} (hp : farB p = false) (hq : farB q = false) (h : p ≠ q) : 0 < rlong [p, q] 0 ∧ rlong [p, q] 0 ≤ 2000 := by
  have hn := near_two hp hq
  obtain ⟨a, b⟩ := rlong_eq hn (i := 0) (by omega) (by simp)
  obtain ⟨c, d, _⟩ := rd_eq hn (i := 0) (by omega) (by simp)
  refine ⟨?_, b⟩
  rw [a, c, d]
  show 0 < ((max (q.x - p.x).natAbs (q.z - p.z).natAbs : Nat) : Int)
  have : ¬ (q.x = p.x ∧ q.z = p.z) := fun hh => h (by cases p; cases q; simp_all)
  omega
theorem steps_pos {p q : Pt} (h : p ≠ q) : 0 < stepsI p q := by
  unfold stepsI stepsN
  have : ¬ (q.x = p.x ∧ q.z = p.z) := fun hh => h (by cases p; cases q; simp_all)
  have h2 : 0 < Nat.gcd (q.x - p.x).natAbs (q.z - p.z).natAbs := by
    rcases Nat.eq_zero_or_pos (q.x - p.x).natAbs with hx | hx
    · rw [hx, Nat.gcd_zero_left]; omega
    · exact Nat.gcd_pos_of_pos_left _ hx
  omega
theorem steps_le2 {p q : Pt} (hp : farB p = false) (hq : farB q = false) (h : p ≠ q) : stepsI p q ≤ 2000 := by
  have a := near_in hp
  have b := near_in hq
  unfold stepsI stepsN
  have : ¬ (q.x = p.x ∧ q.z = p.z) := fun hh => h (by cases p; cases q; simp_all)
  rcases Nat.eq_zero_or_pos (q.x - p.x).natAbs with hx | hx
  · rw [hx, Nat.gcd_zero_left]; omega
  · have := Nat.gcd_le_left (q.z - p.z).natAbs hx
    omega

theorem along_eq {p q : Pt} (hp : farB p = false) (hq : farB q = false) (h : p ≠ q) : alongL p q = (List.range (stepsN p q + 1)).map fun (k : Nat) => bpW p q (k : Int) := by
  have hn := near_two hp hq
  have hl := long_pos hp hq h
  have h1 := rbE_eq hn (i := 0) (by simp)
  unfold rbE at h1
  rw [show (((0 : Nat) : Int)) = 0 from rfl] at h1
  unfold alongL
  rw [rbI_succ (by omega), h1]
  obtain ⟨e1, e2, d0, d1, d2, d3⟩ := rd_eq hn (i := 0) (by omega) (by simp)
  have hlong := (rlong_eq hn (i := 0) (by omega) (by simp)).1
  have hok : rbok [p, q] 0 (rlong [p, q] 0) = true := by
    unfold rbok
    rw [W_mul d0 d1 (by omega) (by omega), W_mul d2 d3 (by omega) (by omega), Int.mul_tmod_left, Int.mul_tmod_left]
    rfl
  rw [if_pos hok, List.range_succ, List.map_append]
  rw [two_at]
  show (List.range (stepsN p q)).map (fun (k : Nat) => bpW p q (k : Int)) ++ _ = _
  congr 1
  rw [List.map_cons, List.map_nil]
  congr 1
  have hs := steps_pos h
  have hs2 := steps_le2 hp hq h
  have hsub := near_sub hp hq
  have ha := near_in hp
  have hb := near_in hq
  have hgx : stepsI p q ∣ (q.x - p.x) := Int.ofNat_dvd_left.2 (Nat.gcd_dvd_left _ _)
  have hgz : stepsI p q ∣ (q.z - p.z) := Int.ofNat_dvd_left.2 (Nat.gcd_dvd_right _ _)
  have f1 : rdx [p, q] 0 = q.x - p.x := e1
  have f2 : rdz [p, q] 0 = q.z - p.z := e2
  have hqx : -2000 ≤ (q.x - p.x).tdiv (stepsI p q) ∧ (q.x - p.x).tdiv (stepsI p q) ≤ 2000 := by
    have := Int.natAbs_tdiv_le_natAbs (q.x - p.x) (stepsI p q)
    omega
  have hqz : -2000 ≤ (q.z - p.z).tdiv (stepsI p q) ∧ (q.z - p.z).tdiv (stepsI p q) ≤ 2000 := by
    have := Int.natAbs_tdiv_le_natAbs (q.z - p.z) (stepsI p q)
    omega
  unfold rbpt bpW
  rw [show ((stepsN p q : Nat) : Int) = stepsI p q from rfl, hsub.1, f1, f2, W_mul (by omega) (by omega) (by omega) (by omega), W_mul (by omega) (by omega) (by omega) (by omega), Int.mul_tdiv_cancel _ (by omega), Int.mul_tdiv_cancel _ (by omega)]
  dsimp only
  rw [show W ((q.x - p.x).tdiv (stepsI p q)) = (q.x - p.x).tdiv (stepsI p q) from W_in (by omega) (by omega), show W ((q.z - p.z).tdiv (stepsI p q)) = (q.z - p.z).tdiv (stepsI p q) from W_in (by omega) (by omega), Int.tdiv_mul_cancel hgx, Int.tdiv_mul_cancel hgz]
  rfl
theorem along_len {p q : Pt} (hp : farB p = false) (hq : farB q = false) (h : p ≠ q) : ((alongL p q).length : Int) = stepsI p q + 1 := by
  rw [along_eq hp hq h, List.length_map, List.length_range]; rfl
theorem along_at {p q : Pt} (hp : farB p = false) (hq : farB q = false) (h : p ≠ q) {k : Int} (h0 : 0 ≤ k) (h1 : k ≤ stepsI p q) : ptAt (alongL p q) k = bpW p q k := by
  have hk : k.toNat < stepsN p q + 1 := by unfold stepsI at h1; omega
  rw [along_eq hp hq h]
  unfold ptAt
  simp [hk, show ((k.toNat : Nat) : Int) = k from by omega]

/-! ### the two ends of a chip, as the document has them -/
def sbefore (l : List Pt) (c : Int) : List Pt := alongL (ptAt l c) (ptAt l ((c + (l.length : Int) - 1).tmod (l.length : Int)))
def sbehind (l : List Pt) (c : Int) : List Pt := alongL (ptAt l c) (ptAt l ((c + 1).tmod (l.length : Int)))
def soutB (l : List Pt) (c : Int) : Bool := decide (c < 0) || decide ((l.length : Int) ≤ c)
def sfarB (l : List Pt) (c b o : Int) : Bool := ((decide (b < 1) || decide (((sbefore l c).length : Int) ≤ b)) || decide (o < 1)) || decide (((sbehind l c).length : Int) ≤ o)
def sokB (l : List Pt) (c b o : Int) : Bool := !soutB l c && !sfarB l c b o
def sP (l : List Pt) (c b o : Int) : Pt := if sokB l c b o = true then ptAt (sbefore l c) b else ⟨0, 0⟩
def sQ (l : List Pt) (c b o : Int) : Pt := if sokB l c b o = true then ptAt (sbehind l c) o else ⟨0, 0⟩
/-! and as the program has them -/
def cP (l : List Pt) (c b : Int) : Pt := bpW (ptAt l c) (atL l (c - 1)) b
def cQ (l : List Pt) (c o : Int) : Pt := bpW (ptAt l c) (atL l (c + 1)) o
def cokB (l : List Pt) (c b o : Int) : Bool := (decide (0 ≤ c) && decide (c ≤ (l.length : Int) - 1)) && ((decide (1 ≤ b) && decide (b ≤ stepsI (ptAt l c) (atL l (c - 1)))) && (decide (1 ≤ o) && decide (o ≤ stepsI (ptAt l c) (atL l (c + 1)))))
def chipE (s : Stn) (c b o : Int) : Int := if checkI s ≠ 0 then checkI s else if cokB s.shape c b o = true then splitE s (cP s.shape c b) (cQ s.shape c o) else 3
def chipA (s : Stn) (c b o : Int) : Stn := if checkI s = 0 ∧ cokB s.shape c b o = true then splitA s (cP s.shape c b) (cQ s.shape c o) else zeroS
def chipB (s : Stn) (c b o : Int) : Stn := if checkI s = 0 ∧ cokB s.shape c b o = true then splitB s (cP s.shape c b) (cQ s.shape c o) else zeroS
theorem chip_bad {s : Stn} {c b o : Int} (h : checkI s ≠ 0) : chipE s c b o = checkI s ∧ chipA s c b o = zeroS ∧ chipB s c b o = zeroS := by
  unfold chipE chipA chipB
  exact ⟨if_pos h, if_neg (fun hn => h hn.1), if_neg (fun hn => h hn.1)⟩
theorem chip_out {s : Stn} {c b o : Int} (h : checkI s = 0) (hc : cokB s.shape c b o = false) : chipE s c b o = 3 ∧ chipA s c b o = zeroS ∧ chipB s c b o = zeroS := by
  unfold chipE chipA chipB
  rw [if_neg (fun hn => hn h), if_neg (by rw [hc]; exact Bool.false_ne_true), if_neg (fun hn => by rw [hc] at hn; exact Bool.false_ne_true hn.2), if_neg (fun hn => by rw [hc] at hn; exact Bool.false_ne_true hn.2)]
  exact ⟨rfl, rfl, rfl⟩
theorem chip_ok {s : Stn} {c b o : Int} (h : checkI s = 0) (hc : cokB s.shape c b o = true) : chipE s c b o = splitE s (cP s.shape c b) (cQ s.shape c o) ∧ chipA s c b o = splitA s (cP s.shape c b) (cQ s.shape c o) ∧ chipB s c b o = splitB s (cP s.shape c b) (cQ s.shape c o) := by
  unfold chipE chipA chipB
  rw [if_neg (fun hn => hn h), if_pos hc, if_pos ⟨h, hc⟩, if_pos ⟨h, hc⟩]
  exact ⟨rfl, rfl, rfl⟩

/-- the two neighbours of a corner -/
theorem Good.nb {l : List Pt} (g : Good l) {c : Int} (h0 : 0 ≤ c) (h1 : c < (l.length : Int)) :
    farB (ptAt l c) = false ∧ (farB (ptAt l ((c + (l.length : Int) - 1).tmod (l.length : Int))) = false ∧ ptAt l c ≠ ptAt l ((c + (l.length : Int) - 1).tmod (l.length : Int)) ∧ atL l (c - 1) = ptAt l ((c + (l.length : Int) - 1).tmod (l.length : Int))) ∧
      (farB (ptAt l ((c + 1).tmod (l.length : Int))) = false ∧ ptAt l c ≠ ptAt l ((c + 1).tmod (l.length : Int)) ∧ atL l (c + 1) = ptAt l ((c + 1).tmod (l.length : Int))) := by
  obtain ⟨i, rfl⟩ := Int.eq_ofNat_of_zero_le h0
  have hi : i < l.length := by omega
  have e0 : ptAt l (i : Int) = cor l i := ptAt_cor hi
  have e1 : ptAt l (((i : Int) + (l.length : Int) - 1).tmod (l.length : Int)) = cor l (i + l.length - 1) := by
    rw [show (i : Int) + (l.length : Int) - 1 = ((i + l.length - 1 : Nat) : Int) from by omega, show ((i + l.length - 1 : Nat) : Int).tmod (l.length : Int) = (((i + l.length - 1) % l.length : Nat) : Int) from rfl, ptAt_cor (Nat.mod_lt _ (by omega)), cor_mod]
  have e2 : ptAt l (((i : Int) + 1).tmod (l.length : Int)) = cor l (i + 1) := by
    rw [show (i : Int) + 1 = ((i + 1 : Nat) : Int) from rfl, show ((i + 1 : Nat) : Int).tmod (l.length : Int) = (((i + 1) % l.length : Nat) : Int) from rfl, ptAt_cor (Nat.mod_lt _ (by omega)), cor_mod]
  have e3 : atL l ((i : Int) - 1) = cor l (i + l.length - 1) := atL_cor (by omega)
  have e4 : atL l ((i : Int) + 1) = cor l (i + 1) := by rw [atL_cor (n := i + 1 + l.length) (by omega), cor_add]
  rw [e0, e1, e2, e3, e4]
  refine ⟨g.far _, ⟨g.far _, fun h => ?_, rfl⟩, g.far _, g.ne i, rfl⟩
  have := g.ne (i + l.length - 1)
  rw [show i + l.length - 1 + 1 = i + l.length from by omega, cor_add] at this
  exact this h.symm

/-- **the two ends of a chip, two ways** -/
theorem Good.chip {l : List Pt} (g : Good l) (c b o : Int) : cokB l c b o = sokB l c b o ∧ (sokB l c b o = true → sP l c b o = cP l c b ∧ sQ l c b o = cQ l c o) := by
  by_cases hc : 0 ≤ c ∧ c < (l.length : Int)
  · obtain ⟨f0, ⟨f1, n1, a1⟩, f2, n2, a2⟩ := g.nb hc.1 hc.2
    have l1 := along_len f0 f1 n1
    have l2 := along_len f0 f2 n2
    have hiff : cokB l c b o = sokB l c b o := by
      unfold cokB sokB soutB sfarB sbefore sbehind
      rw [l1, l2, a1, a2, Bool.eq_iff_iff]
      simp only [Bool.and_eq_true, Bool.not_eq_true', Bool.or_eq_false_iff, decide_eq_true_eq, decide_eq_false_iff_not]
      omega
    refine ⟨hiff, fun hs => ?_⟩
    unfold sP sQ
    rw [if_pos hs, if_pos hs]
    rw [← hiff] at hs
    unfold cokB at hs
    rw [a1, a2] at hs
    simp only [Bool.and_eq_true, decide_eq_true_eq] at hs
    unfold sbefore sbehind cP cQ
    rw [a1, a2]
    exact ⟨along_at f0 f1 n1 (by omega) (by omega), along_at f0 f2 n2 (by omega) (by omega)⟩
  · have e1 : sokB l c b o = false := by
      unfold sokB soutB
      rw [show (decide (c < 0) || decide ((l.length : Int) ≤ c)) = true from by simp; omega]
      rfl
    have e2 : cokB l c b o = false := by
      unfold cokB
      rw [show (decide (0 ≤ c) && decide (c ≤ (l.length : Int) - 1)) = false from by simp; omega]
      rfl
    rw [e1, e2]
    exact ⟨rfl, fun h => by cases h⟩
end Go.Stn
