/- A layer for walks, fourteenth text: further operations. No statement of the seat is proved in this text. -/
import Derived.Test.YtahahmelnaphjaaDoorK13
namespace Go.K
open Go Go.RowKit

section
variable {c : Cx} {ds : List Deferred} {p : Post} {T : List (Nat × Value)} {H : List Res} {d : Option Nat} {ty : TypeId} {ps : String} {af : Array Edge} {g : Option (Nat × Bool)} {x y z : Operand} {u v : Value}

theorem run_eqBool {P : Program} {w : World} {t : TypeId} {m n : Bool} (ht : P.underlying t = some .bool) : (Op.equal t (.bool m) (.bool n)).run P w = .ok (m == n) w := by
  unfold Op.equal Op.maxDepth Op.equalIn
  rw [run_bind_ok (run_underlying' ht)]
  rfl

theorem y_boolEq {t t' : TypeId} {m n : Bool} (ht : c.P.underlying t = some .bool) (hx : evo T x = some (.bool m)) (hy : evo T y = some (.bool n)) : Y c ds H T ⟨d, .binOp .eql t x y t', ty, ps, af, g⟩ (.bool (m == n)) :=
  y_run fun a w ha _ => by
    simp only [execOp, ha.eval hx, ha.eval hy]
    exact run_val (by rw [run_bind_ok run_eqGuard_bool]; exact (run_bind_ok (run_eqBool ht)).trans rfl)
theorem y_boolNe {t t' : TypeId} {m n : Bool} (ht : c.P.underlying t = some .bool) (hx : evo T x = some (.bool m)) (hy : evo T y = some (.bool n)) : Y c ds H T ⟨d, .binOp .neq t x y t', ty, ps, af, g⟩ (.bool (!(m == n))) :=
  y_run fun a w ha _ => by
    simp only [execOp, ha.eval hx, ha.eval hy]
    exact run_val (by rw [run_bind_ok run_eqGuard_bool]; exact (run_bind_ok (run_eqBool ht)).trans rfl)
end
end Go.K
