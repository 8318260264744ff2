/- THE PURE LAW of WordQuotient: a is the quotient times b and the rest; the rest has a's sign or is 0, and is less in size than b. No condition. -/
import Derived.Test.YtckfnbjjghdaoaaDoorQ5
import Derived.Test.YtckfnbjjghdaoaaDoorRing
namespace Go.Proofs.YtckfnbjjghdaoaaDoor.Pure
open Go.RowKit Go.Proofs.YtckfnbjjghdaoaaDoor.Q Go.Proofs.YtckfnbjjghdaoaaDoorW.PrintWords Go.Proofs.YtckfnbjjghdaoaaDoor.Bits Go.Proofs.YtckfnbjjghdaoaaDoor.Ops

theorem quot_end (a b q r : Int) (hb : -9223372036854775808 ≤ b ∧ b < 9223372036854775808) (hs : wrap64 (wrap64 (q * b) + r) = a)
    (hr : r ≠ 0 → (r < 0 ↔ a < 0)) (hl : r < b ∨ r < -b) (hg : -r < b ∨ -r < -b) (k : Nat) : scarablaw02_WordQuotient.j0 (k + 2) a b r (wrap64 (wrap64 (q * b) + r)) true = some true := by
  simp only [scarablaw02_WordQuotient.j0]
  rw [if_pos trivial, if_pos hs]
  have e : ∀ x : Bool, x = false → scarablaw02_WordQuotient.j1 (k + 1) b r x = some true := by
    rintro x rfl
    simp only [scarablaw02_WordQuotient.j1]
    rw [if_neg (by decide)]
    have hrb : -9223372036854775808 < r ∧ r < 9223372036854775808 := by omega
    have e1 : wrap64 (-r) = -r := by unfold wrap64; omega
    by_cases h1 : r > 0
    · rw [if_pos h1, e1]
      by_cases h2 : b > 0
      · rw [if_pos h2, show wrap64 (-b) = -b by unfold wrap64; omega]
        simp; omega
      · rw [if_neg h2]
        simp; omega
    · rw [if_neg h1]
      by_cases h2 : b > 0
      · rw [if_pos h2, show wrap64 (-b) = -b by unfold wrap64; omega]
        simp; omega
      · rw [if_neg h2]
        simp; omega
  by_cases h0 : r = 0
  · rw [if_pos h0]; exact e _ rfl
  · rw [if_neg h0]
    apply e
    have := hr h0
    simp [this]

theorem WordQuotient : scarablaw02_WordQuotient.Pure := by
  intro a b ha hb
  have ba := wf_i64 ha
  have bb := wf_i64 hb
  refine ⟨20, ?_⟩
  unfold scarablaw02_WordQuotient.f
  rw [speaks 20 (by decide)]
  simp only [Option.bind_some, if_true]
  by_cases h0 : b = 0
  · subst h0
    rw [div0 19 a (.inl rfl) 20 (by decide), div0 20 a (.inr rfl) 20 (by decide)]
    rfl
  · rw [div19 a b h0 20 (by decide), div20 a b h0 20 (by decide)]
    simp only [Option.bind_some]
    rw [if_neg h0, did18 _ _ 20 (by decide)]
    simp only [Option.bind_some, if_true]
    rw [pair16 _ _ _ _ 20 (by decide)]
    simp only [Option.bind_some]
    refine quot_end a b _ _ bb ?_ ?_ ?_ ?_ 18
    · by_cases h : b = -1
      · subst h
        simp only [if_true]
        unfold wrap64; omega
      · simp only [if_neg h]
        have e1 : wrap64 (wrap64 (a.tdiv b) * b) = wrap64 (a.tdiv b * b) := by rw [wrap64_of, of_mul, of_wrap64, ← of_mul, ← wrap64_of]
        rw [e1]
        have e2 := Int.tdiv_mul_add_tmod a b
        have e3 : wrap64 (wrap64 (a.tdiv b * b) + a.tmod b) = wrap64 (a.tdiv b * b + a.tmod b) := by unfold wrap64; omega
        rw [e3, e2]
        unfold wrap64; omega
    · by_cases h : b = -1
      · simp [h]
      · simp only [if_neg h]
        intro hr
        by_cases hn : 0 ≤ a
        · have := Int.tmod_nonneg b hn; omega
        · have h2 := Int.tmod_nonneg (a := -a) b (by omega)
          rw [Int.neg_tmod] at h2
          omega
    all_goals
      by_cases h : b = -1
      · simp [h]
      · simp only [if_neg h]
        have h1 := Int.natAbs_tmod a b
        have h2 := Nat.mod_lt a.natAbs (show 0 < b.natAbs by omega)
        omega
end Go.Proofs.YtckfnbjjghdaoaaDoor.Pure
