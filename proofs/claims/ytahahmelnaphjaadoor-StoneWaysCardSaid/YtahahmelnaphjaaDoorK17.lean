/- The layer, seventeenth text: two things told of the same memory. No statement of the seat is proved in this text. -/
import Derived.Test.YtahahmelnaphjaaDoorK16
namespace Go.K
open Go

/-- both hold, perhaps of the same blocks -/
def Two (R S : Res) : Res where
  A B w := ∃ C D, (∀ k, C k → B k) ∧ (∀ k, D k → B k) ∧ R.A C w ∧ S.A D w
  loc B w w' h hA := by
    obtain ⟨C, D, hC, hD, a, b⟩ := hA
    exact ⟨C, D, hC, hD, R.loc C w w' (fun k hk => h k (hC k hk)) a, S.loc D w w' (fun k hk => h k (hD k hk)) b⟩
theorem has_fst {w : World} {R S : Res} (h : Has w (Two R S)) : Has w R := by
  obtain ⟨B, hB, C, D, hC, hD, a, b⟩ := h
  exact ⟨C, fun k hk => hB k (hC k hk), a⟩
theorem has_snd {w : World} {R S : Res} (h : Has w (Two R S)) : Has w S := by
  obtain ⟨B, hB, C, D, hC, hD, a, b⟩ := h
  exact ⟨D, fun k hk => hB k (hD k hk), b⟩
theorem two_dup {R : Res} {B : Nat → Prop} {w : World} (h : R.A B w) : (Two R R).A B w := ⟨B, B, fun _ h => h, fun _ h => h, h, h⟩
theorem two_next {R S X Y : Res} {B : Nat → Prop} {w : World} (hc : ∀ B w, X.A B w → Y.A B w) (h : (SepR [Two R S, X]).A B w) : (Two R Y).A B w := by
  obtain ⟨C, E, hC, hE, ⟨C1, D1, h1, h2, a, b⟩, h3⟩ := h
  obtain ⟨F, G, hF, hG, hx, _⟩ := h3
  exact ⟨C1, F, fun k hk => hC k (h1 k hk), fun k hk => (hE k (hF k hk)).1, a, hc F w hx⟩
end Go.K
