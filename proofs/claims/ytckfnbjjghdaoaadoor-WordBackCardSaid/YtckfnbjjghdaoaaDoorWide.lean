/- Whole products of two words: what both ways of the product come to: the product's high word and its low one. -/
import Derived.Test.YtckfnbjjghdaoaaDoorRing
import Derived.Test.YtckfnbjjghdaoaaDoorQ1
namespace Go.Proofs.YtckfnbjjghdaoaaDoor.Wide
open Go.RowKit Go.Proofs.YtckfnbjjghdaoaaDoor.Q Go.Proofs.YtckfnbjjghdaoaaDoorW.PrintWords Go.Proofs.YtckfnbjjghdaoaaDoor.Bits Go.Proofs.YtckfnbjjghdaoaaDoor.Ops

theorem low32 (x : Int) (h0 : 0 ≤ x) (h1 : x < 18446744073709551616) : Go.bits .and .u64 x 4294967295 = x % 4294967296 := by
  rw [and_u, show of 4294967295 = 4294967295#64 from rfl, BitVec.toNat_and]
  have e : (4294967295#64).toNat = 2 ^ 32 - 1 := rfl
  rw [e, Nat.and_two_pow_sub_one_eq_mod]
  have := toNat_of h0 h1
  simp only [Nat.reducePow]
  omega
theorem prod_bound (x y : Int) (hx : 0 ≤ x ∧ x ≤ 4294967295) (hy : 0 ≤ y ∧ y ≤ 4294967295) : 0 ≤ x * y ∧ x * y ≤ 18446744065119617025 := by
  refine ⟨Int.mul_nonneg hx.1 hy.1, ?_⟩
  have h1 : x * y ≤ 4294967295 * y := Int.mul_le_mul_of_nonneg_right hx.2 hy.1
  omega
theorem mul64 (u v : Int) (hu : 0 ≤ u ∧ u < 18446744073709551616) (hv : 0 ≤ v ∧ v < 18446744073709551616) :
    bits_Mul64.f u v = some (u * v / 18446744073709551616, u * v % 18446744073709551616) := by
  unfold bits_Mul64.f
  rw [low32 u hu.1 hu.2, low32 v hv.1 hv.2]
  obtain ⟨x1, hx1⟩ : ∃ x, u / 4294967296 = x := ⟨_, rfl⟩
  obtain ⟨x0, hx0⟩ : ∃ x, u % 4294967296 = x := ⟨_, rfl⟩
  obtain ⟨y1, hy1⟩ : ∃ x, v / 4294967296 = x := ⟨_, rfl⟩
  obtain ⟨y0, hy0⟩ : ∃ x, v % 4294967296 = x := ⟨_, rfl⟩
  rw [hx1, hx0, hy1, hy0]
  have eu : u = x1 * 4294967296 + x0 := by omega
  have ev : v = y1 * 4294967296 + y0 := by omega
  have b00 := prod_bound x0 y0 (by omega) (by omega)
  have b01 := prod_bound x0 y1 (by omega) (by omega)
  have b10 := prod_bound x1 y0 (by omega) (by omega)
  have b11 := prod_bound x1 y1 (by omega) (by omega)
  have euv : u * v = x1 * y1 * 18446744073709551616 + (x1 * y0 + x0 * y1) * 4294967296 + x0 * y0 := by
    rw [eu, ev, Int.add_mul, Int.mul_add, Int.mul_add, Int.add_mul]
    have e1 : x1 * 4294967296 * (y1 * 4294967296) = x1 * y1 * 18446744073709551616 := by
      rw [Int.mul_assoc, Int.mul_left_comm 4294967296, ← Int.mul_assoc]; rfl
    have e2 : x1 * 4294967296 * y0 = x1 * y0 * 4294967296 := by rw [Int.mul_assoc, Int.mul_comm 4294967296, ← Int.mul_assoc]
    have e3 : x0 * (y1 * 4294967296) = x0 * y1 * 4294967296 := by rw [Int.mul_assoc]
    omega
  rw [euv]
  generalize x0 * y0 = p00 at *
  generalize x0 * y1 = p01 at *
  generalize x1 * y0 = p10 at *
  generalize x1 * y1 = p11 at *
  have w00 : IntKind.u64.wrap p00 = p00 := u64_id (by omega) (by omega)
  have w01 : IntKind.u64.wrap p01 = p01 := u64_id (by omega) (by omega)
  have w10 : IntKind.u64.wrap p10 = p10 := u64_id (by omega) (by omega)
  have w11 : IntKind.u64.wrap p11 = p11 := u64_id (by omega) (by omega)
  rw [w00, w01, w10, w11]
  have wt : IntKind.u64.wrap (p10 + p00 / 4294967296) = p10 + p00 / 4294967296 := u64_id (by omega) (by omega)
  rw [wt, low32 _ (by omega) (by omega), u64_id (n := (p10 + p00 / 4294967296) % 4294967296 + p01) (by omega) (by omega), u64_id (n := p11 + (p10 + p00 / 4294967296) / 4294967296) (by omega) (by omega), u64_id (by omega) (by omega)]
  have eL : IntKind.u64.wrap (p11 * 18446744073709551616 + (p10 + p01) * 4294967296 + p00) = (p11 * 18446744073709551616 + (p10 + p01) * 4294967296 + p00) % 18446744073709551616 := by
    simp [IntKind.wrap, IntKind.bits, IntKind.signed]
  rw [eL]
  congr 2
  omega

theorem half_bound (a b : Int) (ha : -9223372036854775808 ≤ a ∧ a < 9223372036854775808) (hb : -9223372036854775808 ≤ b ∧ b < 9223372036854775808) :
    -85070591730234615865843651857942052864 ≤ a * b ∧ a * b ≤ 85070591730234615865843651857942052864 := by
  have h : (a * b).natAbs ≤ 9223372036854775808 * 9223372036854775808 := by
    rw [Int.natAbs_mul]
    exact Nat.mul_le_mul (by omega) (by omega)
  omega
/-- The high word and the low one. -/
theorem wide_val (a b : Int) (ha : -9223372036854775808 ≤ a ∧ a < 9223372036854775808) (hb : -9223372036854775808 ≤ b ∧ b < 9223372036854775808) :
    word_Wide.f a b = some (a * b / 18446744073709551616, a * b % 18446744073709551616) := by
  have hP := half_bound a b ha hb
  have ua : IntKind.u64.wrap a = if a < 0 then a + 18446744073709551616 else a := by
    simp only [IntKind.wrap, IntKind.bits, IntKind.signed]; simp; split <;> omega
  have ub : IntKind.u64.wrap b = if b < 0 then b + 18446744073709551616 else b := by
    simp only [IntKind.wrap, IntKind.bits, IntKind.signed]; simp; split <;> omega
  unfold word_Wide.f
  refine bindI (mul64 _ _ ⟨u64_nonneg _, by rw [ua]; split <;> omega⟩ ⟨u64_nonneg _, by rw [ub]; split <;> omega⟩) ?_
  dsimp only
  rw [ua, ub]
  by_cases h1 : a < 0 <;> by_cases h2 : b < 0
  · rw [if_pos h1, if_pos h2, if_pos h1, if_pos h2]
    have e : (a + 18446744073709551616) * (b + 18446744073709551616) = a * b + (a + b + 18446744073709551616) * 18446744073709551616 := by
      rw [Int.add_mul, Int.mul_add, Int.mul_add]; omega
    rw [e]
    generalize a * b = P at *
    rw [Int.add_mul_ediv_right _ _ (by decide), Int.add_mul_emod_self_right]
    congr 2
    rw [wrap64_of, of_u64, of_sub, of_u64, ← of_sub, ← wrap64_of]
    unfold wrap64
    omega
  · rw [if_pos h1, if_neg h2, if_pos h1, if_neg h2]
    have e : (a + 18446744073709551616) * b = a * b + b * 18446744073709551616 := by
      rw [Int.add_mul]; omega
    rw [e]
    generalize a * b = P at *
    rw [Int.add_mul_ediv_right _ _ (by decide), Int.add_mul_emod_self_right]
    congr 2
    rw [wrap64_of, of_u64, ← wrap64_of]
    unfold wrap64
    omega
  · rw [if_neg h1, if_pos h2, if_neg h1, if_pos h2]
    have e : a * (b + 18446744073709551616) = a * b + a * 18446744073709551616 := by
      rw [Int.mul_add]
    rw [e]
    generalize a * b = P at *
    rw [Int.add_mul_ediv_right _ _ (by decide), Int.add_mul_emod_self_right]
    congr 2
    rw [wrap64_of, of_u64, ← wrap64_of]
    unfold wrap64
    omega
  · rw [if_neg h1, if_neg h2, if_neg h1, if_neg h2]
    generalize a * b = P at *
    congr 2
    unfold wrap64
    omega

theorem bit_val (b : Int) (j : Nat) (hj : j < 64) : scarabref02_bit.f b (j : Int) = some (b / 2 ^ j % 2) := by
  unfold scarabref02_bit.f
  rw [u64_id (by omega) (by omega), if_pos (by omega)]
  have e : shr .u64 (IntKind.u64.wrap b) (j : Int) = (b % 18446744073709551616) / 2 ^ j := by
    unfold shr
    rw [Int.toNat_natCast, Nat.min_eq_left (show j ≤ IntKind.u64.bits by simp [IntKind.bits]; omega)]
    congr 1
  rw [e, and1_u]
  congr 1
  have e2 : (18446744073709551616 : Int) = 2 ^ j * (2 * 2 ^ (63 - j)) := by
    rw [show (2 : Int) * 2 ^ (63 - j) = 2 ^ (64 - j) by rw [show 64 - j = (63 - j) + 1 by omega, Int.pow_succ, Int.mul_comm], ← Int.pow_add, show j + (64 - j) = 64 by omega]; rfl
  have h := Int.emod_add_mul_ediv b 18446744073709551616
  have hp : (0 : Int) < 2 ^ j := Int.pow_pos (by decide)
  have e3 : b / 2 ^ j = (b % 18446744073709551616) / 2 ^ j + 2 * (2 ^ (63 - j) * (b / 18446744073709551616)) := by
    conv => lhs; rw [← h]
    rw [e2, Int.mul_assoc, Int.add_mul_ediv_left _ _ (by omega), Int.mul_assoc, ← e2]
  rw [e3]
  generalize (b % 18446744073709551616) / 2 ^ j = q
  generalize 2 ^ (63 - j) * (b / 18446744073709551616) = r
  unfold wrap64
  omega

theorem ref_loop (a b : Int) (ha : -9223372036854775808 ≤ a ∧ a < 9223372036854775808) (hb : -9223372036854775808 ≤ b ∧ b < 9223372036854775808) (j : Nat) : ∀ (V : Int), j ≤ 63 → V = a * (b / 2 ^ j) → ∀ k, j < k →
    scarabref02_Wide.l0 k a b (V / 18446744073709551616) (V % 18446744073709551616) ((j : Int) - 1) = some (a * b / 18446744073709551616, a * b % 18446744073709551616) := by
  induction j with
  | zero =>
    intro V hj hV k hk
    obtain ⟨k, rfl⟩ : ∃ m, k = m + 1 := ⟨k - 1, by omega⟩
    rw [scarabref02_Wide.l0, if_neg (by omega), hV, Int.pow_zero, Int.ediv_one]
  | succ j ih =>
    intro V hj hV k hk
    obtain ⟨k, rfl⟩ : ∃ m, k = m + 1 := ⟨k - 1, by omega⟩
    have e1 : ((j + 1 : Nat) : Int) - 1 = (j : Int) := by omega
    have e2 : wrap64 ((j : Int) - 1) = (j : Int) - 1 := by unfold wrap64; omega
    have hq : b / 2 ^ j = 2 * (b / 2 ^ (j + 1)) + b / 2 ^ j % 2 := by
      rw [Int.pow_succ, ← Int.ediv_ediv_of_nonneg (Int.le_of_lt (Int.pow_pos (by decide)))]
      omega
    have hqb : -4611686018427387904 ≤ b / 2 ^ (j + 1) ∧ b / 2 ^ (j + 1) < 4611686018427387904 := by
      have hp : (0 : Int) < 2 ^ (j + 1) := Int.pow_pos (by decide)
      have hp1 : (2 : Int) ≤ 2 ^ (j + 1) := by
        have h0 : (0 : Int) < 2 ^ j := Int.pow_pos (by decide)
        rw [Int.pow_succ]; omega
      constructor
      · rw [Int.le_ediv_iff_mul_le hp]
        omega
      · rw [Int.ediv_lt_iff_lt_mul hp]
        omega
    have hVb : -42535295865117307932921825928971026432 ≤ a * (b / 2 ^ (j + 1)) ∧ a * (b / 2 ^ (j + 1)) ≤ 42535295865117307932921825928971026432 := by
      have h : (a * (b / 2 ^ (j + 1))).natAbs ≤ 9223372036854775808 * 4611686018427387904 := by
        rw [Int.natAbs_mul]
        exact Nat.mul_le_mul (by omega) (by omega)
      omega
    rw [← hV] at hVb
    have hn : 2 * V + a * (b / 2 ^ j % 2) = a * (b / 2 ^ j) := by
      conv => rhs; rw [hq, Int.mul_add]
      rw [hV, Int.mul_left_comm]
    rw [e1, scarabref02_Wide.l0, if_pos (by omega)]
    refine bindI (bit_val b j (by omega)) ?_
    have hbit : b / 2 ^ j % 2 = 0 ∨ b / 2 ^ j % 2 = 1 := by omega
    have w1 : wrap64 (V / 18446744073709551616 * 2) = V / 18446744073709551616 * 2 := by unfold wrap64; omega
    have w2 : wrap64 (V % 18446744073709551616 / 9223372036854775808) = V % 18446744073709551616 / 9223372036854775808 := by unfold wrap64; omega
    have w3 : wrap64 (V / 18446744073709551616 * 2 + V % 18446744073709551616 / 9223372036854775808) = (2 * V) / 18446744073709551616 := by unfold wrap64; omega
    have w4 : IntKind.u64.wrap (V % 18446744073709551616 * 2) = (2 * V) % 18446744073709551616 := by
      simp only [IntKind.wrap, IntKind.bits, IntKind.signed]; simp; omega
    rw [w1, w2, w3, w4, e2]
    rcases hbit with h | h
    · rw [h, if_pos rfl]
      rw [h, Int.mul_zero, Int.add_zero] at hn
      exact ih (2 * V) (by omega) hn k (by omega)
    · rw [h, if_neg (by decide), if_neg (by omega)]
      rw [h, Int.mul_one] at hn
      have hu : IntKind.u64.wrap a = a % 18446744073709551616 := by simp [IntKind.wrap, IntKind.bits, IntKind.signed]
      have hs : IntKind.u64.wrap ((2 * V) % 18446744073709551616 + a % 18446744073709551616) = (2 * V + a) % 18446744073709551616 := by
        simp only [IntKind.wrap, IntKind.bits, IntKind.signed]; simp
      have hV2 := half_bound a (b / 2 ^ j) ha (by
        have hp : (0 : Int) < 2 ^ j := Int.pow_pos (by decide)
        have hp1 : (1 : Int) ≤ 2 ^ j := by omega
        constructor
        · rw [Int.le_ediv_iff_mul_le hp]
          omega
        · rw [Int.ediv_lt_iff_lt_mul hp]
          omega)
      rw [← hn] at hV2
      rw [hu, hs]
      have hih := ih (2 * V + a) (by omega) hn k (by omega)
      by_cases hc : (2 * V + a) % 18446744073709551616 < 2 * V % 18446744073709551616
      · rw [if_pos hc]
        have : wrap64 (wrap64 (2 * V / 18446744073709551616 + a / 9223372036854775808) + 1) = (2 * V + a) / 18446744073709551616 := by unfold wrap64; omega
        rw [this]; exact hih
      · rw [if_neg hc]
        have : wrap64 (2 * V / 18446744073709551616 + a / 9223372036854775808) = (2 * V + a) / 18446744073709551616 := by unfold wrap64; omega
        rw [this]; exact hih
theorem ref_val (a b : Int) (ha : -9223372036854775808 ≤ a ∧ a < 9223372036854775808) (hb : -9223372036854775808 ≤ b ∧ b < 9223372036854775808) (k : Nat) (hk : 65 < k) :
    scarabref02_Wide.f k a b = some (a * b / 18446744073709551616, a * b % 18446744073709551616) := by
  unfold scarabref02_Wide.f
  obtain ⟨k, rfl⟩ : ∃ m, k = m + 1 := ⟨k - 1, by omega⟩
  rw [scarabref02_Wide.l0, if_pos (by decide)]
  have hbit := bit_val b 63 (by decide)
  refine bindI hbit ?_
  have e2 : wrap64 (63 - 1) = ((63 : Nat) : Int) - 1 := by unfold wrap64; omega
  have w3 : wrap64 (wrap64 (0 * 2) + wrap64 (0 / 9223372036854775808)) = 0 := by unfold wrap64; omega
  have w4 : IntKind.u64.wrap (0 * 2) = 0 := by rw [u64_id (by decide) (by decide)]; rfl
  have e63 : (2 : Int) ^ 63 = 9223372036854775808 := rfl
  rw [w3, w4, e2, e63]
  have hu : IntKind.u64.wrap a = a % 18446744073709551616 := by simp [IntKind.wrap, IntKind.bits, IntKind.signed]
  by_cases h : b < 0
  · rw [show b / 9223372036854775808 % 2 = 1 by omega, if_neg (by decide), if_pos rfl, hu]
    have hs : IntKind.u64.wrap (0 - a % 18446744073709551616) = (-a) % 18446744073709551616 := by
      simp only [IntKind.wrap, IntKind.bits, IntKind.signed]; simp; omega
    rw [hs]
    have hih := ref_loop a b ha hb 63 (-a) (by decide) (by rw [e63, show b / 9223372036854775808 = -1 by omega]; omega) k (by omega)
    by_cases hc : 0 < a % 18446744073709551616
    · rw [if_pos hc]
      have : wrap64 (wrap64 (0 - a / 9223372036854775808) - 1) = (-a) / 18446744073709551616 := by unfold wrap64; omega
      rw [this]; exact hih
    · rw [if_neg hc]
      have : wrap64 (0 - a / 9223372036854775808) = (-a) / 18446744073709551616 := by unfold wrap64; omega
      rw [this]; exact hih
  · rw [show b / 9223372036854775808 % 2 = 0 by omega, if_pos rfl]
    exact ref_loop a b ha hb 63 0 (by decide) (by rw [e63, show b / 9223372036854775808 = 0 by omega]; omega) k (by omega)
end Go.Proofs.YtckfnbjjghdaoaaDoor.Wide
