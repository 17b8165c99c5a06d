/- Stones as plain data, fourth text: blows; stones laid in other ways. No statement of the seat is proved in this text. -/
import Derived.Test.YtahahmelnaphjaaDoorD3
namespace Go.Stn
open Go Go.K Go.RowKit

def outB (s : Stn) (p : Pt) (t : Int) (q : Pt) : Bool := apartB s.shape p q && decide (W (100 * max (crossW (subW q p) s.grain) (W (-(crossW (subW q p) s.grain)))) ≤ W (t * max (dotW (subW q p) s.grain) (W (-(dotW (subW q p) s.grain)))))
abbrev rotB (l : List Pt) (i : Int) : List Pt := l.drop (i + 1).toNat ++ l.take i.toNat
def outcomesL (s : Stn) (p : Pt) (t : Int) : List Pt := (rotB (borderL s.shape) (findI (eqB p) (borderL s.shape))).filter (outB s p t)
abbrev outVs (s : Stn) (p : Pt) (t : Int) : List (List Value) := (outcomesL s p t).map onePt
theorem findI_lt {α : Type} (p : α → Bool) {l : List α} (h : 0 ≤ findI p l) : findI p l < (l.length : Int) := by
  unfold findI at *
  split at h
  · rename_i h1
    rw [if_pos h1]
    have : l.findIdx p < l.length := List.findIdx_lt_length_of_exists (by simpa using h1)
    omega
  · omega
theorem rotB_len {l : List Pt} {i : Int} (h0 : 0 ≤ i) (h1 : i < (l.length : Int)) : (rotB l i).length + 1 = l.length := by
  unfold rotB
  simp
  omega
theorem filt_succ {l : List Pt} {f : Pt → Bool} {i : Int} (h0 : 0 ≤ i) (h1 : i < (l.length : Int)) : ((l.take (i + 1).toNat).filter f).length = ((l.take i.toNat).filter f).length + if f (l.getD i.toNat default) = true then 1 else 0 := by
  rw [take_succ h0 h1, List.filter_append, List.length_append]
  congr 1
  rw [List.filter_cons]
  split <;> rfl
theorem filt_get {l : List Pt} {f : Pt → Bool} {i : Int} (h0 : 0 ≤ i) (h1 : i < (l.length : Int)) (hf : f (l.getD i.toNat default) = true) : ((l.filter f).map onePt)[((l.take i.toNat).filter f).length]? = some [ptV (l.getD i.toNat default)] := by
  have hlt : i.toNat < l.length := by omega
  have hl : l.filter f = (l.take i.toNat).filter f ++ (l.getD i.toNat default :: (l.drop (i.toNat + 1)).filter f) := by
    conv => lhs; rw [← List.take_append_drop i.toNat l, List.drop_eq_getElem_cons hlt, List.filter_append]
    rw [List.filter_cons, if_pos (by simpa [hlt] using hf)]
    simp [hlt]
  rw [List.getElem?_map, hl, List.getElem?_append_right (Nat.le_refl _), Nat.sub_self]
  rfl
def struckE (s : Stn) (p : Pt) (t : Int) : Int := if checkI s ≠ 0 then checkI s else if edgeI s.shape p < 0 then 8 else if (decide (0 ≤ t) && decide (t ≤ 100)) = false then 3 else 0
def outL (s : Stn) (p : Pt) (t : Int) : List Pt := if struckE s p t = 0 then outcomesL s p t else []

/-! ### ways -/
def flipW (p : Pt) (way : Int) : Pt := if 3 < way then ⟨W (-p.x), p.z⟩ else p
def quartW (p : Pt) (k : Int) : Pt := if k = 0 then p else if k = 1 then ⟨W (-p.z), p.x⟩ else if k = 2 then ⟨W (-p.x), W (-p.z)⟩ else ⟨p.z, W (-p.x)⟩
def moveW (way : Int) (p : Pt) : Pt := quartW (flipW p way) (way.tmod 4)
def turnedL (s : Stn) (way : Int) : List Pt := if 3 < way then (s.shape.map (moveW way)).reverse else s.shape.map (moveW way)
def turnedE (s : Stn) (way : Int) : Int := if checkI s ≠ 0 then checkI s else if (decide (0 ≤ way) && decide (way ≤ 7)) = false then 3 else 0
def turnedS (s : Stn) (way : Int) : Stn := if turnedE s way = 0 then ⟨s.name, settledW (turnedL s way), s.depth, s.density, moveW way s.grain⟩ else zeroS
theorem turned_bad {s : Stn} {way e : Int} (hE : turnedE s way = e) (he : e ≠ 0) : turnedS s way = zeroS := by
  unfold turnedS
  rw [hE, if_neg he]
theorem turned_good {s : Stn} {way : Int} (hE : turnedE s way = 0) : turnedS s way = ⟨s.name, settledW (turnedL s way), s.depth, s.density, moveW way s.grain⟩ := by
  unfold turnedS
  rw [hE, if_pos rfl]
theorem map_take_succ {l : List Pt} {g : Pt → Pt} {i : Int} (h0 : 0 ≤ i) (h1 : i < (l.length : Int)) : (l.take (i + 1).toNat).map g = (l.take i.toNat).map g ++ [g (l.getD i.toNat default)] := by
  rw [take_succ h0 h1, List.map_append]; rfl
end Go.Stn
