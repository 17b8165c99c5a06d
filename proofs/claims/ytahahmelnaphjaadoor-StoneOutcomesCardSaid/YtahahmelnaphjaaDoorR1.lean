/- The seat's rows: what they have in common. No statement of the seat is proved in this text. -/
import Derived.Test.YtahahmelnaphjaaDoorRows
import Derived.Test.YtahahmelnaphjaaDoorR0
import Derived.Test.YtahahmelnaphjaaDoorW11
namespace Go.Proofs.YtahahmelnaphjaaDoor
open Go Go.K Go.Stn Go.ChangeShapes Go.WideShapes Go.ChangeAt Go.RowKit

theorem own : ownKnob Tryd.prog.godebug = none := by kernel_rfl
theorem laidOut : laidOutB Tryd.prog = true := by kernel_rfl
theorem gWays : Tryd.prog.globalNamed "copestone/stone.ways" = some 0 := by kernel_rfl
theorem tWays : (Tryd.prog.globals[0]?).map (·.type) = some 91 := by kernel_rfl
abbrev laid1 : List (String × DataW Unit) := [("copestone/stone.ways", Rows.laid_copestone_stone_ways)]
abbrev wayFns : List Value := [.func (.func 173) #[] #[], .func (.func 174) #[] #[], .func (.func 175) #[] #[], .func (.func 176) #[] #[]]

theorem door_met (os : Os) (args : Array Value) : laidMetH Tryd.prog laid1 ((World.doorLaid Tryd.prog 400 os).forCall (fun _ _ => 0) ⟨#[], args, []⟩).memory :=
  laidMetH_of_parts3 (fuel := 8) (laidMet_of_run' 8 (by kernel_rfl) (by kernel_rfl)) (by kernel_rfl) (by kernel_rfl)

set_option maxRecDepth 100000 in
theorem of_laid {W : World} (h : laidMetH Tryd.prog laid1 W) : Has W (Elems (some ⟨0, 0, none⟩) 1 encVal wayFns) := by
  obtain ⟨g, t, cs, fuel, p, hg, ht, hv, hd⟩ := funcs_at h (List.mem_cons_self ..) rfl rfl
  obtain rfl := Option.some.inj (gWays.symm.trans hg)
  obtain rfl := Option.some.inj (tWays.symm.trans ht)
  obtain ⟨xs, m, _, hx, hlen, hn, hel⟩ := DataW.trod_array Tryd.underlying91 hd
  have c90 : Tryd.prog.cellsOf 90 = 1 := by kernel_rfl
  have c91 : Tryd.prog.cellsOf 91 = 4 := by kernel_rfl
  rw [c91] at hlen
  rw [c90] at hel
  simp only [Prod.mk.injEq] at hx
  have hx1 := hx.1
  obtain ⟨l⟩ := cs
  match l, hlen, xs, hn with
  | [v0, v1, v2, v3], _, [x0, x1, x2, x3], _ =>
    have hx2 : DataW.agg [DataW.held _, DataW.held _, DataW.held _, DataW.held _] = DataW.agg [x0.1, x1.1, x2.1, x3.1] := hx1
    simp only [DataW.agg.injEq, List.cons.injEq, and_true] at hx2
    obtain ⟨y0, y1, y2, y3⟩ := hx2
    have f0 : v0 = .func (.func 173) #[] #[] := func_of_trod (q := x0.2) Tryd.underlying90 (by kernel_rfl) (by have := hel 0 (by decide); rw [show x0 = (x0.1, x0.2) from rfl, ← y0] at this; exact this)
    have f1 : v1 = .func (.func 174) #[] #[] := func_of_trod (q := x1.2) Tryd.underlying90 (by kernel_rfl) (by have := hel 1 (by decide); rw [show x1 = (x1.1, x1.2) from rfl, ← y1] at this; exact this)
    have f2 : v2 = .func (.func 175) #[] #[] := func_of_trod (q := x2.2) Tryd.underlying90 (by kernel_rfl) (by have := hel 2 (by decide); rw [show x2 = (x2.1, x2.2) from rfl, ← y2] at this; exact this)
    have f3 : v3 = .func (.func 176) #[] #[] := func_of_trod (q := x3.2) Tryd.underlying90 (by kernel_rfl) (by have := hel 3 (by decide); rw [show x3 = (x3.1, x3.2) from rfl, ← y3] at this; exact this)
    subst f0; subst f1; subst f2; subst f3
    have hc := World.var?_cell hg hv
    have hb : 0 < W.heap.size := by
      rcases Nat.lt_or_ge 0 W.heap.size with h | h
      · exact h
      · exfalso
        have := hc 0
        simp [World.cell?, Array.getElem?_eq_none h] at this
    refine ⟨(· = 0), fun k hk => by rw [hk]; exact hb, .inr ⟨0, 0, rfl, fun _ => Iff.rfl, fun i x hi => ?_⟩⟩
    refine ⟨?_, trivial⟩
    have := hc i
    rw [show 0 + i * 1 = i from by omega, this]
    simpa using hi

theorem ptT : ∃ fx fz, PtT Tryd.prog 24 fx fz := ⟨_, _, Tryd.underlying24, rfl, rfl, by kernel_rfl, by kernel_rfl, by kernel_rfl, by kernel_rfl, by kernel_rfl⟩
theorem stnT : ∃ f0 f1 f2 f3 f4 fx fz, StnT Tryd.prog 26 22 24 f0 f1 f2 f3 f4 fx fz :=
  ⟨_, _, _, _, _, _, _, Tryd.underlying26, rfl, rfl, rfl, rfl, rfl, by kernel_rfl, rfl, Tryd.underlying22, by kernel_rfl, by kernel_rfl, rfl, by kernel_rfl, by kernel_rfl, by kernel_rfl, by kernel_rfl, by kernel_rfl,
    ⟨Tryd.underlying24, rfl, rfl, by kernel_rfl, by kernel_rfl, by kernel_rfl, by kernel_rfl, by kernel_rfl⟩⟩
abbrev zeroStone : Value := .agg #[.string ⟨#[]⟩, .slice none 0 0, .int .i64 0, .int .i64 0, .int .i64 0, .int .i64 0]
end Go.Proofs.YtahahmelnaphjaaDoor
