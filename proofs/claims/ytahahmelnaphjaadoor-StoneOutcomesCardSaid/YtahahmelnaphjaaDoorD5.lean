/- Stones as plain data, fifth text: the stone of the chapter. No statement of the seat is proved in this text. -/
import Derived.Test.YtahahmelnaphjaaDoorD4
namespace Go.Stn
open Go Go.K Go.RowKit
set_option maxRecDepth 100000
theorem brick_ok : checkI brickS = 0 := by decide +kernel
theorem brick_weight : weightW brickS = 7680000000 := by decide +kernel
def wA : Stn := ⟨⟨#[98, 114, 105, 99, 107, 97]⟩, [⟨0, 0⟩, ⟨50, 0⟩, ⟨50, 80⟩, ⟨0, 80⟩], 100, 2400, ⟨1, 0⟩⟩
def wB : Stn := ⟨⟨#[98, 114, 105, 99, 107, 98]⟩, [⟨0, 0⟩, ⟨150, 0⟩, ⟨150, 80⟩, ⟨0, 80⟩], 100, 2400, ⟨1, 0⟩⟩
theorem brick_splitE : splitE brickS ⟨50, 0⟩ ⟨50, 80⟩ = 0 := by decide +kernel
theorem brick_splitA : splitA brickS ⟨50, 0⟩ ⟨50, 80⟩ = wA := by decide +kernel
theorem brick_splitB : splitB brickS ⟨50, 0⟩ ⟨50, 80⟩ = wB := by decide +kernel
theorem brick_in : 0 ≤ findI (eqB ⟨0, 40⟩) (borderL brickS.shape) := by decide +kernel
theorem brick_struck : struckE brickS ⟨0, 40⟩ 0 = 0 := by decide +kernel
theorem brick_out : outL brickS ⟨0, 40⟩ 0 = [⟨200, 40⟩] := by decide +kernel
theorem brick_turnE : turnedE brickS 1 = 0 := by decide +kernel
theorem brick_turn : (turnedS brickS 1).grain = ⟨0, 1⟩ := by decide +kernel
theorem brick_border : (askL brickS (borderL brickS.shape)).length = 560 := by decide +kernel
end Go.Stn
