/- What a row's bulk says of a stone's name. No statement of the seat is proved in this text. -/
import Derived.Test.YtahahmelnaphjaaDoorR1
namespace Go.Proofs.YtahahmelnaphjaaDoor
open Go Go.K Go.Stn Go.ChangeShapes Go.WideShapes Go.ChangeAt Go.RowKit

theorem stone_fits {H : Type} {enc : TypeId × Value → H} {P : Program} {w : World} {base : Nat} {spare : Nat → Bool} {held : Bool} {t tl e : TypeId} {f0 f1 f2 f3 f4 fx fz : Field} {s : Stn} {a : Option Addr} {cap : Nat} {d : DataW H} {p : List MemPlace} (T : StnT P t tl e f0 f1 f2 f3 f4 fx fz)
    (h : DataW.Trod enc P w base spare held t (stnV s a cap) d p) {ts : List TypeId} {r : List (DataW H)} (hw : (DataW.weightsEach P (t :: ts) (d :: r)).all (· ≤ reachBytes) = true) : Fits s.name.size := by
  obtain ⟨fuel, hf⟩ := h
  obtain ⟨ys, n, _, hx, hlen, hyl, hg⟩ := DataW.trod_struct T.u hf
  match ys, hyl with
  | [y0, y1, y2, y3, y4], _ =>
    have h0 := hg 0 f0 rfl
    rw [T.o0, T.c0] at h0
    obtain ⟨s', e0, ey, w0⟩ := DataW.trod_string T.t0 (show DataW.trod enc P w base spare held n f0.type [.string s.name] = some y0 from h0)
    simp only [List.cons.injEq, Value.string.injEq, and_true] at e0
    subst e0
    simp only [Prod.mk.injEq] at hx
    have hd := hx.1
    subst hd
    have hb : DataW.weightsEach P (t :: ts) (DataW.agg (List.map (fun x => x.1) [y0, y1, y2, y3, y4]) :: r) = s.name.size :: ((DataW.weightsEach P [f1.type, f2.type, f3.type, f4.type] [y1.1, y2.1, y3.1, y4.1]) ++ DataW.weightsEach P ts r) := by
      rw [DataW.weightsEach, DataW.weights, T.u]
      simp only [List.map_cons, List.map_nil, ey]
      show DataW.weightsEach P (f0.type :: [f1.type, f2.type, f3.type, f4.type]) (DataW.lit (Lit.string s.name.data.toList) :: [y1.1, y2.1, y3.1, y4.1]) ++ DataW.weightsEach P ts r = _
      rw [DataW.weightsEach, DataW.weights]
      rfl
    rw [hb] at hw
    simp only [List.all_cons, Bool.and_eq_true, decide_eq_true_eq] at hw
    have := hw.1
    unfold reachBytes at this
    unfold Fits
    omega
end Go.Proofs.YtahahmelnaphjaaDoor
