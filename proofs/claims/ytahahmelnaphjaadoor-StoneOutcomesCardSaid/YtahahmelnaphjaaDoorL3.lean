/- Plain facts: borders, two ways. No statement of the seat is proved in this text. -/
import Derived.Test.YtahahmelnaphjaaDoorD6
namespace Go.Stn
open Go Go.K Go.RowKit

/-- the multiples of m below g * m -/
theorem filter_mult (m : Nat) (hm : 0 < m) : ∀ g, (List.range (g * m)).filter (fun k => decide (k % m = 0)) = (List.range g).map (fun j => j * m)
  | 0 => by simp
  | g + 1 => by
    have e : List.range ((g + 1) * m) = List.range (g * m) ++ (List.range m).map (g * m + ·) := by
      rw [Nat.add_mul, Nat.one_mul, List.range_add]
    rw [e, List.filter_append, filter_mult m hm g, List.range_succ, List.map_append]
    congr 1
    obtain ⟨n, rfl⟩ : ∃ n, m = n + 1 := ⟨m - 1, by omega⟩
    rw [List.range_succ_eq_map, List.map_cons, List.filter_cons]
    rw [if_pos (by simp)]
    have : (List.map (fun x => g * (n + 1) + x) (List.map Nat.succ (List.range n))).filter (fun k => decide (k % (n + 1) = 0)) = [] := by
      rw [List.filter_eq_nil_iff]
      intro x hx
      rw [List.map_map, List.mem_map] at hx
      obtain ⟨j, hj, rfl⟩ := hx
      rw [List.mem_range] at hj
      simp only [Function.comp_apply, decide_eq_true_eq]
      rw [Nat.mul_comm, Nat.mul_add_mod, Nat.mod_eq_of_lt (by omega)]
      omega
    rw [this]
    simp

theorem coprime_parts {x z : Nat} (h : 0 < Nat.gcd x z) : Nat.Coprime (x / Nat.gcd x z) (z / Nat.gcd x z) := Nat.coprime_div_gcd_div_gcd h

/-- both products are multiples of the longer one just where k is a multiple of its part -/
theorem both_mult {x z k : Nat} (h : 0 < max x z) : (max x z ∣ x * k ∧ max x z ∣ z * k) ↔ k % (max x z / Nat.gcd x z) = 0 := by
  have hg : 0 < Nat.gcd x z := by
    rcases Nat.eq_zero_or_pos x with hx | hx
    · subst hx; rw [Nat.gcd_zero_left]; omega
    · exact Nat.gcd_pos_of_pos_left _ hx
  have hc := coprime_parts hg
  have hx : x = Nat.gcd x z * (x / Nat.gcd x z) := (Nat.mul_div_cancel' (Nat.gcd_dvd_left x z)).symm
  have hz : z = Nat.gcd x z * (z / Nat.gcd x z) := (Nat.mul_div_cancel' (Nat.gcd_dvd_right x z)).symm
  generalize Nat.gcd x z = g at *
  generalize x / g = a at *
  generalize z / g = b at *
  rw [← Nat.dvd_iff_mod_eq_zero]
  rcases Nat.le_total x z with hle | hle
  · rw [Nat.max_eq_right hle] at *
    have : z / g = b := by rw [hz]; exact Nat.mul_div_cancel_left b hg
    rw [this]
    constructor
    · rintro ⟨h1, _⟩
      rw [hx, hz, Nat.mul_assoc] at h1
      have h2 := Nat.dvd_of_mul_dvd_mul_left hg h1
      exact hc.symm.dvd_of_dvd_mul_left h2
    · intro h1
      refine ⟨?_, Nat.dvd_mul_right _ _⟩
      rw [hx, hz, Nat.mul_assoc]
      exact Nat.mul_dvd_mul_left g (Nat.dvd_trans h1 (Nat.dvd_mul_left _ _))
  · rw [Nat.max_eq_left hle] at *
    have : x / g = a := by rw [hx]; exact Nat.mul_div_cancel_left a hg
    rw [this]
    constructor
    · rintro ⟨_, h1⟩
      rw [hx, hz, Nat.mul_assoc] at h1
      have h2 := Nat.dvd_of_mul_dvd_mul_left hg h1
      exact hc.dvd_of_dvd_mul_left h2
    · intro h1
      refine ⟨Nat.dvd_mul_right _ _, ?_⟩
      rw [hx, hz, Nat.mul_assoc]
      exact Nat.mul_dvd_mul_left g (Nat.dvd_trans h1 (Nat.dvd_mul_left _ _))

theorem tmod_zero {d : Int} {k n : Nat} : (d * (k : Int)).tmod (n : Int) = 0 ↔ n ∣ d.natAbs * k := by
  rw [← Int.dvd_iff_tmod_eq_zero, Int.ofNat_dvd_left, Int.natAbs_mul, Int.natAbs_natCast]

/-- d g-th parts of a step -/
theorem step_part {d : Int} {g m j n : Nat} (hg : 0 < g) (hm : 0 < m) (hn : n = g * m) (hd : (g : Int) ∣ d) : (d * ((j * m : Nat) : Int)).tdiv (n : Int) = d.tdiv (g : Int) * (j : Int) := by
  obtain ⟨q, rfl⟩ := hd
  rw [Int.mul_tdiv_cancel_left _ (by omega)]
  subst hn
  have : (g : Int) * q * ((j * m : Nat) : Int) = ((g * m : Nat) : Int) * (q * (j : Int)) := by
    rw [Int.natCast_mul, Int.natCast_mul]; grind
  rw [this, Int.mul_tdiv_cancel_left _ (by have := Nat.mul_pos hg hm; omega)]

theorem W_mul {a b : Int} (h1 : -2000 ≤ a) (h2 : a ≤ 2000) (h3 : -2000 ≤ b) (h4 : b ≤ 2000) : W (a * b) = a * b := by
  have := mul_bd h1 h2 h3 h4
  exact W_in (by omega) (by omega)

theorem next_at {l : List Pt} {i : Nat} (hi : i < l.length) : atL l ((i : Int) + 1) = nextL l (i : Int) := by
  rw [atL_cor (n := i + 1 + l.length) (by omega), cor_add, nextL_cor]

theorem rbE_eq {l : List Pt} (h : Near l) {i : Nat} (hi : i < l.length) : rbE l i = borderE (ptAt l (i : Int), atL l ((i : Int) + 1)) := by
  obtain ⟨e1, e2, d0, d1, d2, d3⟩ := rd_eq h (i := (i : Int)) (by omega) (by omega)
  obtain ⟨el, hl⟩ := rlong_eq h (i := (i : Int)) (by omega) (by omega)
  have hna := near_at h (i := (i : Int)) (by omega) (by omega)
  have hnb := near_next h (i := (i : Int)) (by omega) (by omega)
  have hsub := near_sub hna hnb
  have ha := near_in hna
  rw [next_at hi]
  generalize hdx : rdx l (i : Int) = dx at *
  generalize hdz : rdz l (i : Int) = dz at *
  have hst : stepsN (ptAt l (i : Int)) (nextL l (i : Int)) = Nat.gcd dx.natAbs dz.natAbs := by unfold stepsN; rw [e1, e2]
  unfold rbE rbI borderE
  rw [el, Int.toNat_natCast]
  simp only [hst]
  by_cases h0 : max dx.natAbs dz.natAbs = 0
  · have hx : dx.natAbs = 0 := by omega
    have hz : dz.natAbs = 0 := by omega
    rw [hx, hz]
    rfl
  · have hpos : 0 < max dx.natAbs dz.natAbs := by omega
    have hg : 0 < Nat.gcd dx.natAbs dz.natAbs := by
      rcases Nat.eq_zero_or_pos dx.natAbs with hx | hx
      · rw [hx, Nat.gcd_zero_left]; omega
      · exact Nat.gcd_pos_of_pos_left _ hx
    have hgd : Nat.gcd dx.natAbs dz.natAbs ∣ max dx.natAbs dz.natAbs := by
      rcases Nat.le_total dx.natAbs dz.natAbs with hle | hle
      · rw [Nat.max_eq_right hle]; exact Nat.gcd_dvd_right _ _
      · rw [Nat.max_eq_left hle]; exact Nat.gcd_dvd_left _ _
    have hgx : ((Nat.gcd dx.natAbs dz.natAbs : Nat) : Int) ∣ dx := Int.ofNat_dvd_left.2 (Nat.gcd_dvd_left _ _)
    have hgz : ((Nat.gcd dx.natAbs dz.natAbs : Nat) : Int) ∣ dz := Int.ofNat_dvd_left.2 (Nat.gcd_dvd_right _ _)
    have hbm := fun k => both_mult (x := dx.natAbs) (z := dz.natAbs) (k := k) hpos
    have hle : max dx.natAbs dz.natAbs ≤ 2000 := by omega
    obtain ⟨m, hm⟩ := hgd
    have hN : max dx.natAbs dz.natAbs / Nat.gcd dx.natAbs dz.natAbs = m := by rw [hm]; exact Nat.mul_div_cancel_left m hg
    rw [hN] at hbm
    have hstI : stepsI (ptAt l (i : Int)) (nextL l (i : Int)) = ((Nat.gcd dx.natAbs dz.natAbs : Nat) : Int) := by unfold stepsI; rw [hst]
    have hsub1 : subW (nextL l (i : Int)) (ptAt l (i : Int)) = ⟨dx, dz⟩ := by rw [hsub.1, e1, e2]
    generalize hgg : Nat.gcd dx.natAbs dz.natAbs = g at *
    generalize hLL : max dx.natAbs dz.natAbs = L at *
    have hmp : 0 < m := by
      rcases Nat.eq_zero_or_pos m with h | h
      · subst h; omega
      · exact h
    have hfil : (List.range L).filter (fun (k : Nat) => rbok l (i : Int) (k : Int)) = (List.range g).map (fun j => j * m) := by
      rw [hm, ← filter_mult m hmp g]
      apply List.filter_congr
      intro k hk
      rw [List.mem_range] at hk
      have hk2 : k ≤ 2000 := by rw [← hm] at hk; omega
      unfold rbok
      rw [hdx, hdz, el, W_mul (by omega) (by omega) (by omega) (by omega), W_mul (by omega) (by omega) (by omega) (by omega)]
      rw [Bool.eq_iff_iff, Bool.and_eq_true, decide_eq_true_eq, decide_eq_true_eq, decide_eq_true_eq, tmod_zero, tmod_zero]
      exact hbm k
    rw [hfil, List.map_map]
    apply List.map_congr_left
    intro j hj
    rw [List.mem_range] at hj
    have hjm : j * m ≤ 2000 := by
      have : j * m ≤ g * m := Nat.mul_le_mul_right _ (by omega)
      omega
    have hgl : g ≤ 2000 := by
      have : g * 1 ≤ g * m := Nat.mul_le_mul_left _ hmp
      omega
    have hqx : -2000 ≤ dx.tdiv (g : Int) ∧ dx.tdiv (g : Int) ≤ 2000 := by
      have := Int.natAbs_tdiv_le_natAbs dx (g : Int)
      omega
    have hqz : -2000 ≤ dz.tdiv (g : Int) ∧ dz.tdiv (g : Int) ≤ 2000 := by
      have := Int.natAbs_tdiv_le_natAbs dz (g : Int)
      omega
    simp only [Function.comp_apply]
    unfold rbpt bpW
    rw [hdx, hdz, el, hstI, hsub1]
    rw [W_mul (a := dx) (by omega) (by omega) (by omega) (by omega), W_mul (a := dz) (by omega) (by omega) (by omega) (by omega)]
    rw [step_part hg hmp hm hgx, step_part hg hmp hm hgz]
    rw [show W (dx.tdiv (g : Int)) = dx.tdiv (g : Int) from W_in (by omega) (by omega), show W (dz.tdiv (g : Int)) = dz.tdiv (g : Int) from W_in (by omega) (by omega)]

/-- **the program's border points are the document's** -/
theorem rborder_eq {l : List Pt} (h : Near l) : rborderL l = borderL l := by
  unfold rborderL borderL edgesL
  rw [List.flatMap_map]
  have key : ∀ (r : List Nat), (∀ i ∈ r, i < l.length) → r.flatMap (rbE l) = r.flatMap (fun (i : Nat) => borderE (ptAt l (i : Int), atL l ((i : Int) + 1))) := by
    intro r
    induction r with
    | nil => intro _; rfl
    | cons x r ih =>
      intro hr
      rw [List.flatMap_cons, List.flatMap_cons, rbE_eq h (hr x (List.mem_cons_self ..)), ih (fun i hi => hr i (List.mem_cons_of_mem _ hi))]
  exact key _ (fun i hi => List.mem_range.1 hi)
end Go.Stn
