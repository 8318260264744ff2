/- word.Apply and scarabref02.Apply as the walks of the state ask for them: the same. The condition: the table of math/bits lies in the world. -/
import Derived.Test.YtbcdeanmjhcgeaaDoorZg
import Derived.Test.YtbcdeanmjhcgeaaDoorZL3
import Derived.Test.YtbcdeanmjhcgeaaDoorZAS3
namespace Go.Proofs.YtbcdeanmjhcgeaaDoor.Pg
set_option linter.unusedVariables false
set_option linter.unusedSimpArgs false
open Go.RowKit
open Go.Proofs.YtbcdeanmjhcgeaaDoor.Alu (Tab I6 Said sapply rapply_walk)
theorem both_ex : ∃ A : Int → Int → Int → Int × Int, AluOk A ∧ AluWhy A ∧ (∀ w, Tab w → AppW A w) ∧ ∀ w, AppR A w := by
  have key : ∀ k a b : Int, ∃ r : Int × Int, I64 r.1 ∧ I64 r.2 ∧ (r.2 = 20 → k = 19 ∨ k = 20) ∧ (r.2 = 21 → 25 ≤ k ∧ k ≤ 27) ∧
      (1 ≤ k → k ≤ 36 → I64 a → I64 b → (∀ W, Tab W → Calls Tryd.prog 69 #[.int .i64 k, .int .i64 a, .int .i64 b] W fun e w' => e = .returned (.tuple #[.int .i64 r.1, .int .i64 r.2]) ∧ w' = W) ∧
        ∀ W, Calls Tryd.prog 50 #[.int .i64 k, .int .i64 a, .int .i64 b] W fun e w' => e = .returned (.tuple #[.int .i64 r.1, .int .i64 r.2]) ∧ w' = W) := by
    intro k a b
    by_cases h : (1 ≤ k ∧ k ≤ 36) ∧ I64 a ∧ I64 b
    · obtain ⟨⟨h1, h2⟩, h3, h4⟩ := h
      obtain ⟨n, hn⟩ : ∃ n : Nat, n = 394 := ⟨_, rfl⟩
      obtain ⟨x, y, e1, e2⟩ := Twos.both k a b ⟨h3.1, by have := h3.2; omega⟩ ⟨h4.1, by have := h4.2; omega⟩ (n + 6) (by omega)
      obtain ⟨c, hx, hy, w1, w2⟩ := sapply h1 h2 h3 h4 e1
      rw [show n + 6 = n + 2 + 4 from rfl] at e2
      exact ⟨(x, y), hx, hy, w1, w2, fun _ _ _ _ => ⟨c, fun W => rapply_walk h1 h2 e2 W⟩⟩
    · exact ⟨(0, 0), ⟨by decide, by decide⟩, ⟨by decide, by decide⟩, fun e => absurd e (by decide), fun e => absurd e (by decide), fun h1 h2 h3 h4 => absurd ⟨⟨h1, h2⟩, h3, h4⟩ h⟩
  refine ⟨fun k a b => (key k a b).choose, fun k a b => ⟨(key k a b).choose_spec.1, (key k a b).choose_spec.2.1⟩, fun k a b => ⟨(key k a b).choose_spec.2.2.1, (key k a b).choose_spec.2.2.2.1⟩, ?_, ?_⟩
  · intro w hT W hW k a b h1 h2 h3 h4
    refine (((key k a b).choose_spec.2.2.2.2 h1 h2 h3 h4).1 W (hT.below hW)).mono ?_
    rintro e w' ⟨rfl, rfl⟩
    exact ⟨rfl, Below.refl _ _⟩
  · intro w W hW k a b h1 h2 h3 h4
    refine (((key k a b).choose_spec.2.2.2.2 h1 h2 h3 h4).2 W).mono ?_
    rintro e w' ⟨rfl, rfl⟩
    exact ⟨rfl, Below.refl _ _⟩
end Go.Proofs.YtbcdeanmjhcgeaaDoor.Pg
