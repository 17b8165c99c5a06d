/- Plain facts: areas of shapes that are turned round, moved, laid in ways. No statement of the seat is proved in this text. -/
import Derived.Test.YtahahmelnaphjaaDoorL6
namespace Go.Stn
open Go Go.K Go.RowKit

/-! ### sums -/
def sumI (n : Nat) (f : Nat → Int) : Int := (List.range n).foldl (fun s i => s + f i) 0
theorem sumI_zero (f : Nat → Int) : sumI 0 f = 0 := rfl
theorem sumI_succ (n : Nat) (f : Nat → Int) : sumI (n + 1) f = sumI n f + f n := by
  unfold sumI
  rw [List.range_succ, List.foldl_append]; rfl
theorem sumI_congr {n : Nat} {f g : Nat → Int} (h : ∀ i, i < n → f i = g i) : sumI n f = sumI n g := by
  induction n with
  | zero => rfl
  | succ n ih => rw [sumI_succ, sumI_succ, ih (fun i hi => h i (by omega)), h n (by omega)]
theorem sumI_add (n : Nat) (f g : Nat → Int) : sumI n (fun i => f i + g i) = sumI n f + sumI n g := by
  induction n with
  | zero => rfl
  | succ n ih => rw [sumI_succ, sumI_succ, sumI_succ, ih]; omega
theorem sumI_neg (n : Nat) (f : Nat → Int) : sumI n (fun i => -(f i)) = -(sumI n f) := by
  induction n with
  | zero => rfl
  | succ n ih => rw [sumI_succ, sumI_succ, ih]; omega
theorem sumI_tele (n : Nat) (f : Nat → Int) : sumI n (fun i => f i - f (i + 1)) = f 0 - f n := by
  induction n with
  | zero => rw [sumI_zero]; omega
  | succ n ih => rw [sumI_succ, ih]; omega
theorem sumI_front (n : Nat) (f : Nat → Int) : sumI (n + 1) f = f 0 + sumI n (fun i => f (i + 1)) := by
  induction n with
  | zero => rw [sumI_succ, sumI_zero, sumI_zero]; omega
  | succ n ih => rw [sumI_succ, ih, sumI_succ]; omega
theorem sumI_shift1 (n : Nat) (f : Nat → Int) (hf : f n = f 0) : sumI n (fun i => f (i + 1)) = sumI n f := by
  have h1 := sumI_front n f
  have h2 := sumI_succ n f
  omega
theorem sumI_shift (n : Nat) (f : Nat → Int) (hf : ∀ i, f (i + n) = f i) (k : Nat) : sumI n (fun i => f (k + i)) = sumI n f := by
  induction k with
  | zero => exact sumI_congr fun i _ => by rw [Nat.zero_add]
  | succ k ih =>
    rw [← ih]
    rw [← sumI_shift1 n (fun i => f (k + i)) (by show f (k + n) = f (k + 0); rw [hf, Nat.add_zero])]
    exact sumI_congr fun i _ => by show f (k + 1 + i) = f (k + (i + 1)); congr 1; omega
theorem sumI_rev (n : Nat) (f : Nat → Int) : sumI n (fun i => f (n - 1 - i)) = sumI n f := by
  induction n with
  | zero => rfl
  | succ n ih =>
    rw [sumI_front, sumI_succ n f, ← ih]
    have : sumI n (fun i => f (n + 1 - 1 - (i + 1))) = sumI n (fun i => f (n - 1 - i)) := sumI_congr fun i hi => by congr 1; omega
    rw [this, show n + 1 - 1 - 0 = n from by omega]
    omega

/-! ### twice the area -/
def twiceZ (l : List Pt) : Int := sumI l.length fun i => crossZ (cor l i) (cor l (i + 1))
theorem W_def (n : Int) : W n = (n + 9223372036854775808) % 18446744073709551616 - 9223372036854775808 := IntKind.wrap_i64 n
theorem W_add (a b : Int) : W (W a + W b) = W (a + b) := by
  simp only [W_def]; omega
theorem W_addl (a b : Int) : W (W a + b) = W (a + b) := by
  simp only [W_def]; omega
theorem W_addr (a b : Int) : W (a + W b) = W (a + b) := by
  simp only [W_def]; omega
theorem W_sub (a b : Int) : W (W a - W b) = W (a - b) := by
  simp only [W_def]; omega
theorem crossW_W (p q : Pt) : crossW p q = W (crossZ p q) := by
  unfold crossW crossZ
  rw [W_sub]
theorem twice_eq (l : List Pt) : twiceW l = W (twiceZ l) := by
  have key : ∀ n, n ≤ l.length → ((edgesL l).take n).foldl (fun s e => W (s + crossW e.1 e.2)) 0 = W (sumI n fun i => crossZ (cor l i) (cor l (i + 1))) := by
    intro n
    induction n with
    | zero => intro _; rfl
    | succ n ih =>
      intro hn
      rw [fold_succ _ _ (edgesL_get (by omega)), ih (by omega), sumI_succ, crossW_W, W_add]
  have := key l.length (Nat.le_refl _)
  rw [← edges_len', List.take_length, edges_len'] at this
  exact this

theorem cor_map {l : List Pt} (h : 0 < l.length) (f : Pt → Pt) (i : Nat) : cor (l.map f) i = f (cor l i) := by
  have hi : i % l.length < l.length := Nat.mod_lt _ h
  unfold cor
  rw [List.length_map]
  simp [hi]
theorem cor_rot {l : List Pt} {f : Nat} (hf : f < l.length) (i : Nat) : cor (l.drop f ++ l.take f) i = cor l (f + i) := by
  have hlen : (l.drop f ++ l.take f).length = l.length := by simp; omega
  have hi : i % l.length < l.length := Nat.mod_lt _ (by omega)
  unfold cor
  rw [hlen, List.getD_eq_getElem?_getD, rot_get hf hi]
  simp only [Option.getD_some]
  rw [Nat.add_mod_mod]
theorem cor_rev {l : List Pt} {i k : Nat} (hi : i < l.length) (hk : k ≤ l.length) : cor l.reverse (i + k) = cor l (l.length - 1 - i + (l.length - k)) := by
  have hn : 0 < l.length := by omega
  have h1 : (i + k) % l.length < l.length := Nat.mod_lt _ hn
  unfold cor
  rw [List.length_reverse, List.getD_eq_getElem?_getD, List.getElem?_reverse h1, ← List.getD_eq_getElem?_getD]
  congr 1
  rcases Nat.lt_or_ge (i + k) l.length with h | h
  · rw [Nat.mod_eq_of_lt h, Nat.mod_eq_sub_mod (by omega), Nat.mod_eq_of_lt (by omega)]; omega
  · rw [Nat.mod_eq_sub_mod h]
    rcases Nat.lt_or_ge (i + k - l.length) l.length with h2 | h2
    · rw [Nat.mod_eq_of_lt h2, Nat.mod_eq_of_lt (by omega)]; omega
    · omega

theorem twiceZ_rot {l : List Pt} {f : Nat} (hf : f < l.length) : twiceZ (l.drop f ++ l.take f) = twiceZ l := by
  have hlen : (l.drop f ++ l.take f).length = l.length := by simp; omega
  unfold twiceZ
  rw [hlen]
  rw [← sumI_shift l.length (fun i => crossZ (cor l i) (cor l (i + 1))) (fun i => by rw [cor_add, show i + l.length + 1 = i + 1 + l.length from by omega, cor_add]) f]
  exact sumI_congr fun i _ => by rw [cor_rot hf, cor_rot hf]; rfl
theorem twiceZ_sub {l : List Pt} (h : 0 < l.length) (o : Pt) : twiceZ (l.map fun p => subZ p o) = twiceZ l := by
  unfold twiceZ
  rw [List.length_map]
  have h1 : sumI l.length (fun i => crossZ (cor (l.map fun p => subZ p o) i) (cor (l.map fun p => subZ p o) (i + 1))) =
      sumI l.length (fun i => crossZ (cor l i) (cor l (i + 1)) + (crossZ o (cor l i) - crossZ o (cor l (i + 1)))) := sumI_congr fun i _ => by
    rw [cor_map h, cor_map h]
    unfold crossZ subZ
    dsimp only
    grind
  rw [h1, sumI_add, sumI_tele l.length (fun i => crossZ o (cor l i)), show cor l l.length = cor l (0 + l.length) from by rw [Nat.zero_add], cor_add]
  omega

/-! ### ways, without bounds -/
def flipZ (p : Pt) (way : Int) : Pt := if 3 < way then ⟨-p.x, p.z⟩ else p
def quartZ (p : Pt) (k : Int) : Pt := if k = 0 then p else if k = 1 then ⟨-p.z, p.x⟩ else if k = 2 then ⟨-p.x, -p.z⟩ else ⟨p.z, -p.x⟩
def moveZ (way : Int) (p : Pt) : Pt := quartZ (flipZ p way) (way.tmod 4)
theorem move_eq {way : Int} {p : Pt} {b : Int} (hb : b ≤ 1000000000) (hp : inR b p) : moveW way p = moveZ way p := by
  unfold inR at hp
  have hf : flipW p way = flipZ p way := by
    unfold flipW flipZ
    split
    · rw [W_neg (by omega) (by omega)]
    · rfl
  have hq : inR b (flipZ p way) := by
    unfold flipZ inR
    split
    · dsimp only; omega
    · exact hp
  unfold inR at hq
  unfold moveW moveZ quartW quartZ
  rw [hf, W_neg (n := (flipZ p way).x) (by omega) (by omega), W_neg (n := (flipZ p way).z) (by omega) (by omega)]
theorem move_in {way : Int} {p : Pt} {b : Int} (hp : inR b p) : inR b (moveZ way p) := by
  unfold inR at hp
  have hq : inR b (flipZ p way) := by
    unfold flipZ inR
    split
    · dsimp only; omega
    · exact hp
  unfold inR at hq
  unfold moveZ quartZ inR
  repeat' split
  all_goals (first | omega | (dsimp only; omega))
theorem move_sub (way : Int) (p q : Pt) : moveZ way (subZ p q) = subZ (moveZ way p) (moveZ way q) := by
  have hf : flipZ (subZ p q) way = subZ (flipZ p way) (flipZ q way) := by
    unfold flipZ
    by_cases hw : 3 < way
    · rw [if_pos hw, if_pos hw, if_pos hw]
      unfold subZ
      simp only [Pt.mk.injEq, and_true]
      omega
    · rw [if_neg hw, if_neg hw, if_neg hw]
  unfold moveZ
  rw [hf]
  generalize flipZ p way = p
  generalize flipZ q way = q
  generalize way.tmod 4 = k
  unfold quartZ subZ
  by_cases h0 : k = 0
  · simp only [if_pos h0]
  · by_cases h1 : k = 1
    · simp only [if_neg h0, if_pos h1, Pt.mk.injEq, and_true]
      omega
    · by_cases h2 : k = 2
      · simp only [if_neg h0, if_neg h1, if_pos h2, Pt.mk.injEq]
        omega
      · simp only [if_neg h0, if_neg h1, if_neg h2, Pt.mk.injEq, true_and]
        omega
theorem move_cross (way : Int) (p q : Pt) : crossZ (moveZ way p) (moveZ way q) = if 3 < way then -(crossZ p q) else crossZ p q := by
  have hq : ∀ (k : Int) (p q : Pt), crossZ (quartZ p k) (quartZ q k) = crossZ p q := fun k p q => by
    unfold quartZ crossZ
    repeat' split
    all_goals (first | rfl | (dsimp only; grind))
  unfold moveZ
  rw [hq]
  unfold flipZ
  split
  · unfold crossZ; dsimp only; grind
  · rfl
theorem side_cross (p q r : Pt) : sideZ p q r = crossZ (subZ q p) (subZ r p) := by
  unfold sideZ crossZ subZ
  rfl
theorem move_side (way : Int) (p q r : Pt) : sideZ (moveZ way p) (moveZ way q) (moveZ way r) = if 3 < way then -(sideZ p q r) else sideZ p q r := by
  rw [side_cross, side_cross, ← move_sub, ← move_sub, move_cross]
theorem move_inj {way : Int} {p q : Pt} (h : moveZ way p = moveZ way q) : p = q := by
  have hq : ∀ (k : Int) (p q : Pt), quartZ p k = quartZ q k → p = q := fun k p q h => by
    unfold quartZ at h
    cases p; cases q
    repeat' split at h
    all_goals (simp only [Pt.mk.injEq] at h ⊢; omega)
  have h2 := hq _ _ _ h
  unfold flipZ at h2
  split at h2
  · cases p; cases q
    simp only [Pt.mk.injEq] at h2 ⊢
    omega
  · exact h2

/-- a list of corners laid in a way -/
def turnL (way : Int) (l : List Pt) : List Pt := if 3 < way then (l.map (moveZ way)).reverse else l.map (moveZ way)
theorem turnL_len (way : Int) (l : List Pt) : (turnL way l).length = l.length := by unfold turnL; split <;> simp
theorem turnL_nodup {way : Int} {l : List Pt} (h : l.Nodup) : (turnL way l).Nodup := by
  have h1 : (l.map (moveZ way)).Nodup := by
    unfold List.Nodup at *
    rw [List.pairwise_map]
    exact h.imp fun hn he => hn (move_inj he)
  unfold turnL
  split
  · exact List.pairwise_reverse.2 (h1.imp fun h => h.symm)
  · exact h1
theorem turnL_sub (way : Int) (l : List Pt) (o : Pt) : turnL way (l.map fun p => subZ p o) = (turnL way l).map fun p => subZ p (moveZ way o) := by
  unfold turnL
  split
  · rw [List.map_reverse, List.map_map, List.map_map]
    congr 1
    apply List.map_congr_left
    intro p _
    exact move_sub way p o
  · rw [List.map_map, List.map_map]
    apply List.map_congr_left
    intro p _
    exact move_sub way p o
theorem turnL_mem {way : Int} {l : List Pt} {x : Pt} (h : x ∈ turnL way l) : ∃ p ∈ l, moveZ way p = x := by
  unfold turnL at h
  split at h
  · exact List.mem_map.1 (List.mem_reverse.1 h)
  · exact List.mem_map.1 h

theorem twiceZ_turn {l : List Pt} (h : 0 < l.length) (way : Int) : twiceZ (turnL way l) = twiceZ l := by
  have hl := turnL_len way l
  unfold twiceZ
  rw [hl]
  unfold turnL
  split
  · rename_i hw
    rw [← List.map_reverse]
    have hr : 0 < l.reverse.length := by simpa using h
    have h1 : sumI l.length (fun i => crossZ (cor (l.reverse.map (moveZ way)) i) (cor (l.reverse.map (moveZ way)) (i + 1))) =
        sumI l.length (fun i => (fun j => crossZ (cor l (j + (l.length - 1))) (cor l (j + l.length))) (l.length - 1 - i)) := sumI_congr fun i hi => by
      rw [cor_map hr, cor_map hr, move_cross, if_pos hw]
      have e1 := cor_rev (l := l) (i := i) (k := 0) hi (by omega)
      have e2 := cor_rev (l := l) (i := i) (k := 1) hi (by omega)
      rw [Nat.add_zero, Nat.sub_zero] at e1
      rw [e1, e2]
      show _ = crossZ (cor l (l.length - 1 - i + (l.length - 1))) (cor l (l.length - 1 - i + l.length))
      unfold crossZ
      grind
    rw [h1, sumI_rev l.length (fun j => crossZ (cor l (j + (l.length - 1))) (cor l (j + l.length)))]
    rw [← sumI_shift l.length (fun i => crossZ (cor l i) (cor l (i + 1))) (fun i => by rw [cor_add, show i + l.length + 1 = i + 1 + l.length from by omega, cor_add]) (l.length - 1)]
    exact sumI_congr fun i _ => by
      show crossZ (cor l (i + (l.length - 1))) (cor l (i + l.length)) = crossZ (cor l (l.length - 1 + i)) (cor l (l.length - 1 + i + 1))
      rw [show i + (l.length - 1) = l.length - 1 + i from by omega, show i + l.length = l.length - 1 + i + 1 from by omega]
  · rename_i hw
    exact sumI_congr fun i _ => by rw [cor_map h, cor_map h, move_cross, if_neg hw]

theorem Cvx.turn {l : List Pt} (h : Cvx l) (h3 : 3 ≤ l.length) (way : Int) : Cvx (turnL way l) := by
  intro i k hi h2 hk
  rw [turnL_len] at hi hk
  unfold turnL
  split
  · rename_i hw
    rw [← List.map_reverse]
    have hr : 0 < l.reverse.length := by simp; omega
    rw [cor_map hr, cor_map hr, cor_map hr, move_side, if_pos hw]
    have e1 := cor_rev (l := l) (i := i) (k := 0) hi (by omega)
    have e2 := cor_rev (l := l) (i := i) (k := 1) hi (by omega)
    have e3 := cor_rev (l := l) (i := i) (k := k) hi (by omega)
    rw [Nat.add_zero, Nat.sub_zero] at e1
    rw [e1, e2, e3]
    have he := h.edge (l.length - 1 - i + (l.length - 1)) (l.length - k + 1) (by omega) (by omega)
    rw [show l.length - 1 - i + (l.length - 1) + 1 = l.length - 1 - i + l.length from by omega, show l.length - 1 - i + (l.length - 1) + (l.length - k + 1) = l.length - 1 - i + (l.length - k) + l.length from by omega, cor_add _ , cor_add] at he
    rw [cor_add]
    unfold sideZ at *
    grind
  · rename_i hw
    rw [cor_map (by omega), cor_map (by omega), cor_map (by omega), move_side, if_neg hw]
    exact h i k hi h2 hk
theorem Cvx.sub {l : List Pt} (h : Cvx l) (h0 : 0 < l.length) (o : Pt) : Cvx (l.map fun p => subZ p o) := by
  intro i k hi h2 hk
  rw [List.length_map] at hi hk
  rw [cor_map h0, cor_map h0, cor_map h0]
  have := h i k hi h2 hk
  unfold sideZ subZ at *
  dsimp only
  grind
theorem Cvx.rot {l : List Pt} (h : Cvx l) {f : Nat} (hf : f < l.length) : Cvx (l.drop f ++ l.take f) := by
  have hlen : (l.drop f ++ l.take f).length = l.length := by simp; omega
  intro i k hi h2 hk
  rw [hlen] at hi hk
  rw [cor_rot hf, cor_rot hf, cor_rot hf, ← Nat.add_assoc, ← Nat.add_assoc]
  exact h.edge (f + i) k h2 hk
theorem Cvx.nodup {l : List Pt} (h : Cvx l) (h3 : 3 ≤ l.length) : l.Nodup := by
  unfold List.Nodup
  rw [List.pairwise_iff_getElem]
  intro i j hi hj hij he
  have e1 : cor l i = l[i] := by unfold cor; rw [Nat.mod_eq_of_lt hi]; simp [hi]
  have e2 : cor l j = l[j] := by unfold cor; rw [Nat.mod_eq_of_lt hj]; simp [hj]
  rw [← e1, ← e2] at he
  by_cases h1 : j = i + 1
  · subst h1
    have := h.edge i 2 (by omega) (by omega)
    rw [← he, side_same1] at this
    omega
  · have := h.tri3 (i := i) (j := i + 1) (k := j) (by omega) (by omega) (by omega)
    rw [← he, side_same3] at this
    omega
end Go.Stn
