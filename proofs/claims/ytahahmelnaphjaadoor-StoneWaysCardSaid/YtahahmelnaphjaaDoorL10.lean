/- Plain facts: one way behind another. No statement of the seat is proved in this text. -/
import Derived.Test.YtahahmelnaphjaaDoorL9
namespace Go.Stn
open Go Go.K Go.RowKit

/-! ### settled shapes, once more -/
theorem settled_rot : ∀ (u v : List Pt), (u ++ v).Nodup → settledW (v ++ u) = settledW (u ++ v)
  | [], v, _ => by simp
  | a :: u, v, hn => by
    have h1 : (u ++ (v ++ [a])).Nodup := by
      have hp : (a :: u ++ v).Perm (u ++ (v ++ [a])) := by
        have := List.perm_append_comm (l₁ := [a]) (l₂ := u ++ v)
        simpa using this
      exact hp.nodup_iff.1 hn
    have h2 := settled_rot u (v ++ [a]) h1
    rw [show v ++ a :: u = (v ++ [a]) ++ u from by simp, h2, show u ++ (v ++ [a]) = (u ++ v) ++ [a] from by simp]
    exact settled_step (by simpa using hn)

theorem least_in {l : List Pt} {b : Int} (h : 0 < l.length) (hb : ∀ p ∈ l, inR b p) : inR b (leastL l) := by
  obtain ⟨_, ⟨p, hp, e1⟩, ⟨q, hq, e2⟩⟩ := least_spec h
  have a := hb p hp
  have c := hb q hq
  unfold inR at *
  omega
theorem rot_mem {l : List Pt} {f : Int} {x : Pt} (h : x ∈ rotL l f) : x ∈ l := by
  unfold rotL at h
  rcases List.mem_append.1 h with h | h
  · exact List.mem_of_mem_drop h
  · exact List.mem_of_mem_take h
theorem settled_eqZ {l : List Pt} {b : Int} (hb : b ≤ 1000000000) (h : 0 < l.length) (hl : ∀ p ∈ l, inR b p) : settledW l = (rotL l (firstI l)).map fun p => subZ p (leastL l) := by
  unfold settledW
  apply List.map_congr_left
  intro p hp
  exact subW_eq hb (hl p (rot_mem hp)) (least_in h hl)
/-- its corners, from the lowest one on -/
theorem settled_form {l : List Pt} {b : Int} (hb : b ≤ 1000000000) (h : 0 < l.length) (hl : ∀ p ∈ l, inR b p) (hn : l.Nodup) :
    ∃ u v, l = u ++ minF lowerW l :: v ∧ minF lowerW l ∉ u ∧ settledW l = (minF lowerW l :: (v ++ u)).map fun p => subZ p (leastL l) := by
  obtain ⟨u, v, huv⟩ := List.append_of_mem (minF_spec h).1
  have hu : minF lowerW l ∉ u := fun hu => by
    rw [huv] at hn
    exact (List.nodup_append.1 hn).2.2 _ hu _ (List.mem_cons_self ..) rfl
  exact ⟨u, v, huv, hu, by rw [settled_eqZ hb h hl, rot_first huv rfl hu]⟩

theorem least_sub {l : List Pt} (h : 0 < l.length) (o : Pt) : leastL (l.map fun p => subZ p o) = subZ (leastL l) o := by
  obtain ⟨a1, ⟨p, b1, b2⟩, ⟨q, c1, c2⟩⟩ := least_spec h
  obtain ⟨d1, ⟨r, e1, e2⟩, ⟨t, f1, f2⟩⟩ := least_spec (l := l.map fun p => subZ p o) (by simpa using h)
  obtain ⟨r', er, rfl⟩ := List.mem_map.1 e1
  obtain ⟨t', et, rfl⟩ := List.mem_map.1 f1
  have g1 := (d1 _ (List.mem_map.2 ⟨p, b1, rfl⟩)).1
  have g2 := (d1 _ (List.mem_map.2 ⟨q, c1, rfl⟩)).2
  have g3 := (a1 r' er).1
  have g4 := (a1 t' et).2
  generalize leastL (l.map fun p => subZ p o) = y at *
  generalize leastL l = z at *
  cases y; cases z
  unfold subZ at *
  simp only [Pt.mk.injEq]
  dsimp only at *
  omega
theorem lo_sub {p q o : Pt} : Lo (subZ p o) (subZ q o) ↔ Lo p q := by
  unfold Lo subZ
  dsimp only
  omega
theorem min_sub {l : List Pt} (h : 0 < l.length) (o : Pt) : minF lowerW (l.map fun p => subZ p o) = subZ (minF lowerW l) o := by
  obtain ⟨a1, a2⟩ := minF_spec h
  obtain ⟨b1, b2⟩ := minF_spec (l := l.map fun p => subZ p o) (by simpa using h)
  obtain ⟨r, er, hr⟩ := List.mem_map.1 b1
  refine Lo.total (fun hl => ?_) (b2 _ (List.mem_map.2 ⟨_, a1, rfl⟩))
  rw [← hr, lo_sub] at hl
  exact a2 r er hl

theorem subZ_bd {p o : Pt} {b : Int} (hp : inR b p) (ho : inR b o) : inR (b + b) (subZ p o) := subZ_in hp ho
theorem settled_sub {l : List Pt} {b : Int} (hb : b ≤ 100000000) (h : 0 < l.length) (hl : ∀ p ∈ l, inR b p) (hn : l.Nodup) {o : Pt} (ho : inR b o) :
    settledW (l.map fun p => subZ p o) = settledW l := by
  obtain ⟨u, v, huv, hu, hs⟩ := settled_form (b := b) (by omega) h hl hn
  have h' : 0 < (l.map fun p => subZ p o).length := by simpa using h
  rw [hs, settled_eqZ (b := b + b) (by omega) h' (fun p hp => by
    obtain ⟨q, hq, rfl⟩ := List.mem_map.1 hp
    exact subZ_in (hl q hq) ho), least_sub h]
  have hinj : ∀ p q : Pt, subZ p o = subZ q o → p = q := fun p q hh => by
    unfold subZ at hh
    cases p; cases q
    simp only [Pt.mk.injEq] at hh ⊢
    omega
  have hmap : (l.map fun p => subZ p o) = (u.map fun p => subZ p o) ++ subZ (minF lowerW l) o :: v.map fun p => subZ p o := by
    conv => lhs; rw [huv]
    simp
  rw [rot_first hmap (min_sub h o) (fun hm => by
    obtain ⟨q, hq, he⟩ := List.mem_map.1 hm
    exact hu (hinj _ _ he ▸ hq))]
  rw [← List.map_append]
  show List.map _ (List.map (fun p => subZ p o) (minF lowerW l :: (v ++ u))) = _
  rw [List.map_map]
  apply List.map_congr_left
  intro p _
  show subZ (subZ p o) (subZ (leastL l) o) = subZ p (leastL l)
  unfold subZ
  simp only [Pt.mk.injEq]
  omega

theorem turnL_in {way : Int} {l : List Pt} {b : Int} (hl : ∀ p ∈ l, inR b p) : ∀ p ∈ turnL way l, inR b p := fun p hp => by
  obtain ⟨q, hq, rfl⟩ := turnL_mem hp
  exact move_in (hl q hq)
theorem turnL_append (way : Int) (u v : List Pt) : turnL way (u ++ v) = if 3 < way then turnL way v ++ turnL way u else turnL way u ++ turnL way v := by
  unfold turnL
  split
  · simp
  · simp

/-- a settled shape laid in a way and settled again -/
theorem settled_turn {l : List Pt} {b : Int} (hb : b ≤ 50000000) (h : 0 < l.length) (hl : ∀ p ∈ l, inR b p) (hn : l.Nodup) (way : Int) : settledW (turnL way (settledW l)) = settledW (turnL way l) := by
  obtain ⟨u, v, huv, hu, hs⟩ := settled_form (b := b) (by omega) h hl hn
  rw [hs, turnL_sub]
  have hmem : ∀ p ∈ minF lowerW l :: (v ++ u), p ∈ l := fun p hp => by
    rw [huv]
    rcases List.mem_cons.1 hp with hp | hp
    · simp [hp]
    · rcases List.mem_append.1 hp with hp | hp <;> simp [hp]
  have hperm : l.Perm (minF lowerW l :: (v ++ u)) := by
    conv => lhs; rw [huv]
    have := List.perm_append_comm (l₁ := u) (l₂ := minF lowerW l :: v)
    simpa using this
  have hn2 : (minF lowerW l :: (v ++ u)).Nodup := hperm.nodup_iff.1 hn
  rw [settled_sub (b := b) (by omega) (by rw [turnL_len]; simp) (turnL_in fun p hp => hl p (hmem p hp)) (turnL_nodup hn2) (move_in (least_in h hl))]
  have hn3 := turnL_nodup (way := way) hn
  have e1 : minF lowerW l :: (v ++ u) = (minF lowerW l :: v) ++ u := by simp
  rw [e1]
  conv => rhs; rw [huv]
  conv at hn3 => rw [huv]
  generalize minF lowerW l :: v = x at *
  rw [turnL_append, turnL_append]
  rw [turnL_append] at hn3
  split
  · rename_i hw
    rw [if_pos hw] at hn3
    exact settled_rot _ _ hn3
  · rename_i hw
    rw [if_neg hw] at hn3
    exact settled_rot _ _ hn3

/-! ### one way behind another -/
def compI (v w : Int) : Int := (w.tmod 4 + (if 3 < w then 4 - v.tmod 4 else v.tmod 4)).tmod 4 + (if (3 < w) ↔ (3 < v) then 0 else 4)
theorem ways8 {v : Int} (h0 : 0 ≤ v) (h7 : v ≤ 7) : v = 0 ∨ v = 1 ∨ v = 2 ∨ v = 3 ∨ v = 4 ∨ v = 5 ∨ v = 6 ∨ v = 7 := by omega
theorem move_comp {v w : Int} (hv0 : 0 ≤ v) (hv7 : v ≤ 7) (hw0 : 0 ≤ w) (hw7 : w ≤ 7) (p : Pt) : moveZ w (moveZ v p) = moveZ (compI v w) p := by
  cases p
  rcases ways8 hv0 hv7 with rfl | rfl | rfl | rfl | rfl | rfl | rfl | rfl <;> rcases ways8 hw0 hw7 with rfl | rfl | rfl | rfl | rfl | rfl | rfl | rfl <;> simp [moveZ, flipZ, quartZ, compI]
theorem comp_in {v w : Int} (hv0 : 0 ≤ v) (hv7 : v ≤ 7) (hw0 : 0 ≤ w) (hw7 : w ≤ 7) : 0 ≤ compI v w ∧ compI v w ≤ 7 ∧ (3 < compI v w ↔ ¬ ((3 < w) ↔ (3 < v))) := by
  rcases ways8 hv0 hv7 with rfl | rfl | rfl | rfl | rfl | rfl | rfl | rfl <;> rcases ways8 hw0 hw7 with rfl | rfl | rfl | rfl | rfl | rfl | rfl | rfl <;> simp [compI]
theorem turnL_comp {v w : Int} (hv0 : 0 ≤ v) (hv7 : v ≤ 7) (hw0 : 0 ≤ w) (hw7 : w ≤ 7) (l : List Pt) : turnL w (turnL v l) = turnL (compI v w) l := by
  have hc := (comp_in hv0 hv7 hw0 hw7).2.2
  have hm : ∀ l : List Pt, (l.map (moveZ v)).map (moveZ w) = l.map (moveZ (compI v w)) := fun l => by
    rw [List.map_map]
    exact List.map_congr_left fun p _ => move_comp hv0 hv7 hw0 hw7 p
  unfold turnL
  by_cases h1 : 3 < w <;> by_cases h2 : 3 < v
  · rw [if_pos h1, if_pos h2, if_neg (by rw [hc]; simp [h1, h2]), List.map_reverse, hm, List.reverse_reverse]
  · rw [if_pos h1, if_neg h2, if_pos (by rw [hc]; simp [h1, h2]), hm]
  · rw [if_neg h1, if_pos h2, if_pos (by rw [hc]; simp [h1, h2]), List.map_reverse, hm]
  · rw [if_neg h1, if_neg h2, if_neg (by rw [hc]; simp [h1, h2]), hm]

/-! ### a valid stone, laid in a way -/
theorem check_of {s : Stn} (h : badB s = false) : checkI s = 0 := by unfold checkI; rw [h]; rfl
theorem turned_L {s : Stn} (h : checkI s = 0) (way : Int) : turnedL s way = turnL way s.shape := by
  have hin := (check_in h).1
  unfold turnedL turnL
  rw [List.map_congr_left (fun p hp => move_eq (way := way) (b := 2000) (by omega) (hin p hp))]
theorem turned_ok {s : Stn} {way : Int} (h : checkI s = 0) (h0 : 0 ≤ way) (h7 : way ≤ 7) : turnedE s way = 0 ∧ turnedS s way = ⟨s.name, settledW (turnL way s.shape), s.depth, s.density, moveZ way s.grain⟩ := by
  have hE : turnedE s way = 0 := by
    rw [turnedE, if_neg (fun hn => hn h), if_neg]
    rw [decide_eq_true h0, decide_eq_true h7]
    exact fun hn => Bool.false_ne_true hn.symm
  refine ⟨hE, ?_⟩
  rw [turned_good hE, turned_L h, move_eq (b := 2000) (by omega) (check_in h).2]

theorem settled_placed {X : List Pt} (h3 : 3 ≤ X.length) (h12 : X.length ≤ 12) (hc : Cvx X) (hin : ∀ p ∈ X, inR 2000 p) (hd : ∀ p ∈ X, ∀ q ∈ X, p.x - q.x ≤ 2000 ∧ p.z - q.z ≤ 2000) : placedB (settledW X) = true := by
  have h0 : 0 < X.length := by omega
  have hn := hc.nodup h3
  have hz := settled_eqZ (b := 2000) (by omega) h0 hin
  obtain ⟨f0, f1⟩ : 0 ≤ firstI X ∧ firstI X < (X.length : Int) := first_in h0
  have hrot : ∃ f : Nat, f < X.length ∧ rotL X (firstI X) = X.drop f ++ X.take f := ⟨(firstI X).toNat, by omega, rfl⟩
  obtain ⟨f, hf, hr⟩ := hrot
  have hrl : (X.drop f ++ X.take f).length = X.length := by simp; omega
  have hrp : X.Perm (X.drop f ++ X.take f) := by
    have := List.perm_append_comm (l₁ := X.take f) (l₂ := X.drop f)
    rwa [List.take_append_drop] at this
  rw [hr] at hz
  have hcv : Cvx (settledW X) := by rw [hz]; exact (hc.rot hf).sub (by omega) _
  have hlen : (settledW X).length = X.length := settled_len h0
  have hmem : ∀ p ∈ settledW X, farB p = false := fun p hp => by
    rw [hz] at hp
    obtain ⟨q, hq, rfl⟩ := List.mem_map.1 hp
    have hq := hrp.mem_iff.2 hq
    obtain ⟨b1, ⟨p1, m1, e1⟩, ⟨p2, m2, e2⟩⟩ := least_spec h0
    have c1 := b1 q hq
    have c2 := hd q hq p1 m1
    have c3 := hd q hq p2 m2
    unfold farB subZ
    simp
    omega
  have hfar : (settledW X).any farB = false := by
    rw [List.any_eq_false]
    intro p hp
    rw [hmem p hp]
    exact Bool.false_ne_true
  have hconv : convexB (settledW X) = true := (convex_iff hfar (by omega) (by omega)).2 hcv
  have hleast : leastL (settledW X) = ⟨0, 0⟩ := by
    rw [hz, least_sub (by omega), ← least_perm h0 hrp]
    unfold subZ
    simp
  obtain ⟨u, v, huv, hu, hs⟩ := settled_form (b := 2000) (by omega) h0 hin hn
  have hmin : minF lowerW (settledW X) = (settledW X).getD 0 default := by
    have e1 : minF lowerW (settledW X) = subZ (minF lowerW X) (leastL X) := by rw [hz, min_sub (by omega), ← min_perm h0 hrp]
    rw [e1, hs]
    rfl
  unfold placedB
  rw [hfar, hconv, hleast, hmin]
  simp

theorem turned_valid {s : Stn} {way : Int} (h : checkI s = 0) (h0 : 0 ≤ way) (h7 : way ≤ 7) : checkI (turnedS s way) = 0 := by
  have g := good_of h
  have hln := check_len h
  have hin := (check_in h).1
  have hgr := (check_in h).2
  rw [(turned_ok h h0 h7).2]
  have hbad := check_good h
  unfold badB at hbad
  simp only [Bool.or_eq_false_iff, Bool.not_eq_false'] at hbad
  obtain ⟨⟨⟨⟨b1, b2⟩, b3⟩, b4⟩, b5⟩ := hbad
  refine check_of ?_
  unfold badB
  simp only [Bool.or_eq_false_iff, Bool.not_eq_false']
  refine ⟨⟨⟨⟨b1, ?_⟩, b3⟩, b4⟩, ?_⟩
  · refine settled_placed (by rw [turnL_len]; omega) (by rw [turnL_len]; omega) (g.cvx.turn g.len way) (turnL_in hin) ?_
    intro p hp q hq
    obtain ⟨p', hp', rfl⟩ := turnL_mem hp
    obtain ⟨q', hq', rfl⟩ := turnL_mem hq
    have a := near_in (g.near p' hp')
    have b := near_in (g.near q' hq')
    have hm := move_sub way p' q'
    have hb : inR 2000 (subZ p' q') := by unfold inR subZ; dsimp only; omega
    have := move_in (way := way) hb
    rw [hm] at this
    unfold inR subZ at this
    dsimp only at this
    omega
  · show grainedB ⟨s.name, settledW (turnL way s.shape), s.depth, s.density, moveZ way s.grain⟩ = true
    have b5' : grainedB s = true := b5
    unfold grainedB at b5' ⊢
    simp only [Bool.and_eq_true, decide_eq_true_eq, Bool.not_eq_true', Bool.and_eq_false_iff, decide_eq_false_iff_not] at b5' ⊢
    have h1 := move_in (way := way) (b := 100) (p := s.grain) (by unfold inR; omega)
    unfold inR at h1
    have h2 : moveZ way s.grain ≠ ⟨0, 0⟩ := fun hz => by
      have hzero : moveZ way ⟨0, 0⟩ = ⟨0, 0⟩ := by
        have := move_in (way := way) (b := 0) (p := ⟨0, 0⟩) (by unfold inR; simp)
        generalize moveZ way ⟨0, 0⟩ = m at this
        unfold inR at this
        cases m
        simp only [Pt.mk.injEq]
        dsimp only at this
        omega
      have := move_inj (hz.trans hzero.symm)
      rw [this] at b5'
      simp at b5'
    generalize moveZ way s.grain = m at *
    cases m
    simp only [ne_eq, Pt.mk.injEq] at h2
    dsimp only at *
    omega

theorem ways_comp {s : Stn} {v w : Int} (h : checkI s = 0) (hv0 : 0 ≤ v) (hv7 : v ≤ 7) (hw0 : 0 ≤ w) (hw7 : w ≤ 7) : turnedS (turnedS s v) w = turnedS s (compI v w) := by
  have g := good_of h
  have hc := comp_in hv0 hv7 hw0 hw7
  have hv := (turned_ok h hv0 hv7).2
  rw [(turned_ok (turned_valid h hv0 hv7) hw0 hw7).2, (turned_ok h hc.1 hc.2.1).2, hv]
  dsimp only
  rw [settled_turn (b := 2000) (by omega) (by rw [turnL_len]; have := g.len; omega) (turnL_in (check_in h).1) (turnL_nodup (g.cvx.nodup g.len)), turnL_comp hv0 hv7 hw0 hw7, move_comp hv0 hv7 hw0 hw7]
theorem settled_self {l : List Pt} (h : placedB l = true) (h0 : 0 < l.length) (hn : l.Nodup) : settledW l = l := by
  have hin : ∀ p ∈ l, inR 2000 p := fun p hp => by
    have := near_in ((placed_near h).1 p hp)
    unfold inR; omega
  unfold placedB at h
  simp only [Bool.and_eq_true, decide_eq_true_eq] at h
  obtain ⟨_, ⟨l1, l2⟩, m1, m2⟩ := h
  obtain ⟨u, v, huv, hu, hs⟩ := settled_form (b := 2000) (by omega) h0 hin hn
  have hl : leastL l = ⟨0, 0⟩ := by
    generalize leastL l = y at l1 l2 ⊢
    cases y
    simp only [Pt.mk.injEq]
    exact ⟨l1, l2⟩
  have hm : minF lowerW l = l.getD 0 default := by
    generalize minF lowerW l = y at m1 m2 ⊢
    generalize l.getD 0 default = z at m1 m2 ⊢
    cases y; cases z
    simp only [Pt.mk.injEq]
    exact ⟨m1, m2⟩
  have hu0 : u = [] := by
    cases u with
    | nil => rfl
    | cons a u =>
      exfalso
      apply hu
      have e : l.getD 0 default = a := by
        conv => lhs; rw [huv]
        rfl
      rw [hm, e]
      exact List.mem_cons_self ..
  rw [hs, hl]
  subst hu0
  rw [List.append_nil]
  conv => rhs; rw [huv]
  rw [List.nil_append]
  conv => rhs; rw [← List.map_id (minF lowerW l :: v)]
  apply List.map_congr_left
  intro p _
  unfold subZ
  simp
theorem ways_zero {s : Stn} (h : checkI s = 0) : turnedS s 0 = s := by
  have g := good_of h
  rw [(turned_ok h (by omega) (by omega)).2]
  have e1 : turnL 0 s.shape = s.shape := by
    unfold turnL
    rw [if_neg (by omega)]
    conv => rhs; rw [← List.map_id s.shape]
    apply List.map_congr_left
    intro p _
    unfold moveZ flipZ quartZ
    simp
  have e2 : moveZ 0 s.grain = s.grain := by
    unfold moveZ flipZ quartZ
    simp
  rw [e1, e2, settled_self (check_placed h) (by have := g.len; omega) (g.cvx.nodup g.len)]
theorem twice_settled {X : List Pt} (h : 0 < X.length) (hin : ∀ p ∈ X, inR 2000 p) : twiceZ (settledW X) = twiceZ X := by
  obtain ⟨f0, f1⟩ : 0 ≤ firstI X ∧ firstI X < (X.length : Int) := first_in h
  rw [settled_eqZ (b := 2000) (by omega) h hin]
  show twiceZ ((X.drop (firstI X).toNat ++ X.take (firstI X).toNat).map fun p => subZ p (leastL X)) = _
  rw [twiceZ_sub (by simp; omega), twiceZ_rot (by omega)]
theorem ways_weight {s : Stn} {v : Int} (h : checkI s = 0) (h0 : 0 ≤ v) (h7 : v ≤ 7) : weightW (turnedS s v) = weightW s := by
  have hl := check_len h
  rw [(turned_ok h h0 h7).2]
  unfold weightW
  dsimp only
  rw [twice_eq, twice_eq s.shape, twice_settled (by rw [turnL_len]; omega) (turnL_in (check_in h).1), twiceZ_turn (by omega)]
theorem ways_len {s : Stn} {v : Int} (h : checkI s = 0) (h0 : 0 ≤ v) (h7 : v ≤ 7) : (turnedS s v).shape.length = s.shape.length := by
  have hl := check_len h
  rw [(turned_ok h h0 h7).2]
  show (settledW (turnL v s.shape)).length = _
  rw [settled_len (by rw [turnL_len]; omega), turnL_len]
end Go.Stn
