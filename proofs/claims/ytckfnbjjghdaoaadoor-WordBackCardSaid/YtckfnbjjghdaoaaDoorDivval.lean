/- Division of two words by one, by either way: one value. -/
import Derived.Test.YtckfnbjjghdaoaaDoorRefdiv
namespace Go.Proofs.YtckfnbjjghdaoaaDoor.Divval
open Go.RowKit Go.Proofs.YtckfnbjjghdaoaaDoor.Q Go.Proofs.YtckfnbjjghdaoaaDoorW.PrintWords Go.Proofs.YtckfnbjjghdaoaaDoor.Bits Go.Proofs.YtckfnbjjghdaoaaDoor.Div Go.Proofs.YtckfnbjjghdaoaaDoor.Divs Go.Proofs.YtckfnbjjghdaoaaDoor.Refdiv
theorem xor_max (a : Int) (h0 : -9223372036854775808 ≤ a) (h1 : a < 0) : Go.bits .xor .u64 IntKind.u64.max (IntKind.u64.wrap a) = -1 - a := by
  rw [xor_u, of_u64, show of IntKind.u64.max = BitVec.allOnes 64 from by decide +kernel, BitVec.allOnes_xor, BitVec.toNat_not]
  have h := toNat_of_mod a
  omega
theorem abs_w (b : Int) (h0 : -9223372036854775808 ≤ b) (h1 : b < 9223372036854775808) : (b < 0 → IntKind.u64.wrap (-(IntKind.u64.wrap b)) = ((b.natAbs : Nat) : Int) ∧ IntKind.u64.wrap (wrap64 (-b)) = ((b.natAbs : Nat) : Int)) ∧ (¬ b < 0 → IntKind.u64.wrap b = ((b.natAbs : Nat) : Int)) := by
  refine ⟨fun h => ⟨?_, ?_⟩, fun h => ?_⟩
  · rw [u64_mod, u64_mod]; omega
  · rw [u64_mod]; unfold wrap64; omega
  · rw [u64_mod]; omega
theorem word_j0 (x2 : Int) (hi lo : Nat) (h0 : -9223372036854775808 ≤ x2) (h1 : x2 < 9223372036854775808) (h2 : x2 ≠ 0) (hlo : lo < 18446744073709551616) (k : Nat) (hk : 70 < k) :
    word_Divide.j0 k x2 true (hi : Int) (lo : Int) = some (whole (true != decide (x2 < 0)) true (hi * 18446744073709551616 + lo) x2.natAbs) := by
  obtain ⟨k, rfl⟩ : ∃ j, k = j + 1 := ⟨k - 1, by omega⟩
  have ha := abs_w x2 h0 h1
  rw [word_Divide.j0]
  by_cases h : x2 < 0
  · rw [if_pos h, (ha.1 h).1]
    exact word_j1 x2 true hi lo x2.natAbs (by omega) (by omega) hlo k (by omega)
  · rw [if_neg h, ha.2 h]
    exact word_j1 x2 true hi lo x2.natAbs (by omega) (by omega) hlo k (by omega)
theorem ref_j0 (x0 x2 : Int) (hi lo : Nat) (h0 : -9223372036854775808 ≤ x2) (h1 : x2 < 9223372036854775808) (h2 : x2 ≠ 0) (hhi : hi < 18446744073709551616) (hlo : lo < 18446744073709551616) (k : Nat) (hk : 150 < k) :
    scarabref02_Divide.j0 k x0 x2 (hi : Int) (lo : Int) = some (whole (decide (x0 < 0) != decide (x2 < 0)) (decide (x0 < 0)) (hi * 18446744073709551616 + lo) x2.natAbs) := by
  obtain ⟨k, rfl⟩ : ∃ j, k = j + 2 := ⟨k - 2, by omega⟩
  have ha := abs_w x2 h0 h1
  obtain ⟨m, hm⟩ : ∃ m, m = hi * 18446744073709551616 + lo := ⟨_, rfl⟩
  have hm128 : m / 2 ^ 128 = 0 := by
    rw [Nat.div_eq_of_lt]
    rw [show (2 : Nat) ^ 128 = 18446744073709551616 * 18446744073709551616 from by decide +kernel]
    omega
  have fin : scarabref02_Divide.j1 (k + 1) x0 x2 (hi : Int) (lo : Int) ((x2.natAbs : Nat) : Int) = some (whole (decide (x0 < 0) != decide (x2 < 0)) (decide (x0 < 0)) m x2.natAbs) := by
    rw [scarabref02_Divide.j1]
    have hl := ref_loop x0 x2 hi lo x2.natAbs (by omega) (by omega) hlo m hm _ rfl 128 (Nat.le_refl _) k (by omega) (m / 2 ^ 128) (m / 2 ^ 128 / x2.natAbs % 18446744073709551616) (m / 2 ^ 128 % x2.natAbs) _ rfl rfl rfl rfl
    rw [hm128, Nat.zero_div, Nat.zero_mod, Nat.zero_mod, show decide (18446744073709551616 ≤ 0) = false by decide] at hl
    exact hl
  rw [← hm, scarabref02_Divide.j0]
  by_cases h : x2 < 0
  · rw [if_pos h, (ha.1 h).2]; exact fin
  · rw [if_neg h, ha.2 h]; exact fin
/-- ONE VALUE, by both ways: m is the number's size. -/
theorem both (a0 a1 a2 : Int) (h0 : -9223372036854775808 ≤ a0 ∧ a0 < 9223372036854775808) (h1 : 0 ≤ a1 ∧ a1 < 18446744073709551616) (h2 : -9223372036854775808 ≤ a2 ∧ a2 < 9223372036854775808) (hz : a2 ≠ 0) (k : Nat) (hk : 160 < k) :
    ∃ m : Nat, (m : Int) = (if a0 < 0 then -(a0 * 18446744073709551616 + a1) else a0 * 18446744073709551616 + a1) ∧
      word_Divide.f k a0 a1 a2 = some (whole (decide (a0 < 0) != decide (a2 < 0)) (decide (a0 < 0)) m a2.natAbs) ∧
      scarabref02_Divide.f k a0 a1 a2 = some (whole (decide (a0 < 0) != decide (a2 < 0)) (decide (a0 < 0)) m a2.natAbs) := by
  have ha := abs_w a2 h2.1 h2.2
  unfold word_Divide.f scarabref02_Divide.f
  rw [if_neg hz, if_neg hz]
  by_cases hn : a0 < 0
  · rw [if_pos hn, if_pos hn, if_pos hn, decide_eq_true hn, xor_max a0 h0.1 hn]
    by_cases h : a1 = 0
    · have e1 : IntKind.u64.wrap (-a1) = ((0 : Nat) : Int) := by rw [h]; rfl
      have e2 : IntKind.u64.wrap (-1 - a0 + 1) = ((a0.natAbs : Nat) : Int) := by rw [u64_mod]; omega
      have e3 : IntKind.u64.wrap (IntKind.u64.wrap (wrap64 (-1 - a0)) + 1) = ((a0.natAbs : Nat) : Int) := by rw [u64_mod, u64_mod]; unfold wrap64; omega
      rw [if_pos (by rw [e1]; rfl), if_pos h, e2, e3, e1]
      refine ⟨a0.natAbs * 18446744073709551616 + 0, by omega, ?_, ?_⟩
      · exact word_j0 a2 a0.natAbs 0 h2.1 h2.2 hz (by decide) k (by omega)
      · have := ref_j0 a0 a2 a0.natAbs 0 h2.1 h2.2 hz (by omega) (by decide) k (by omega)
        rw [decide_eq_true hn] at this; exact this
    · have e1 : IntKind.u64.wrap (-a1) = (((18446744073709551616 - a1).toNat : Nat) : Int) := by rw [u64_mod]; omega
      have e2 : -1 - a0 = (((-1 - a0).toNat : Nat) : Int) := by omega
      have e3 : IntKind.u64.wrap (wrap64 (-1 - a0)) = (((-1 - a0).toNat : Nat) : Int) := by rw [u64_mod]; unfold wrap64; omega
      rw [if_neg (by rw [e1]; omega), if_neg h, e3, e1]
      refine ⟨(-1 - a0).toNat * 18446744073709551616 + (18446744073709551616 - a1).toNat, by omega, ?_, ?_⟩
      · rw [show word_Divide.j0 k a2 true (-1 - a0) (((18446744073709551616 - a1).toNat : Nat) : Int) = word_Divide.j0 k a2 true (((-1 - a0).toNat : Nat) : Int) (((18446744073709551616 - a1).toNat : Nat) : Int) by rw [← e2]]
        exact word_j0 a2 _ _ h2.1 h2.2 hz (by omega) k (by omega)
      · have := ref_j0 a0 a2 (-1 - a0).toNat (18446744073709551616 - a1).toNat h2.1 h2.2 hz (by omega) (by omega) k (by omega)
        rw [decide_eq_true hn] at this; exact this
  · rw [if_neg hn, if_neg hn, if_neg hn, decide_eq_false hn]
    have e1 : IntKind.u64.wrap a0 = ((a0.toNat : Nat) : Int) := by rw [u64_mod]; omega
    have e2 : a1 = ((a1.toNat : Nat) : Int) := by omega
    refine ⟨a0.toNat * 18446744073709551616 + a1.toNat, by omega, ?_, ?_⟩
    · rw [e1]
      by_cases h : a2 < 0
      · rw [if_pos h, (ha.1 h).1]
        have := word_j4 a2 false a0.toNat a1.toNat a2.natAbs (by omega) (by omega) (by omega) k (by omega)
        rw [← e2] at this; exact this
      · rw [if_neg h, ha.2 h]
        have := word_j4 a2 false a0.toNat a1.toNat a2.natAbs (by omega) (by omega) (by omega) k (by omega)
        rw [← e2] at this; exact this
    · have := ref_j0 a0 a2 a0.toNat a1.toNat h2.1 h2.2 hz (by omega) (by omega) k (by omega)
      rw [decide_eq_false hn, ← e2] at this
      rw [e1]; exact this
end Go.Proofs.YtckfnbjjghdaoaaDoor.Divval
