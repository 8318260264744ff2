/- THE PURE LAW of WordPowers: both powers come to the same word. No condition. -/
import Derived.Test.YtckfnbjjghdaoaaDoorQ8
import Derived.Test.YtckfnbjjghdaoaaDoorRing
namespace Go.Proofs.YtckfnbjjghdaoaaDoor.Pure
open Go.RowKit Go.Proofs.YtckfnbjjghdaoaaDoor.Q Go.Proofs.YtckfnbjjghdaoaaDoorW.PrintWords Go.Proofs.YtckfnbjjghdaoaaDoor.Bits Go.Proofs.YtckfnbjjghdaoaaDoor.Ops

theorem pmul (a b : Int) : wrap64 (wrap64 a * b) = wrap64 (a * b) := by rw [wrap64_of, of_mul, of_wrap64, ← of_mul, ← wrap64_of]
theorem pmul' (a b : Int) : wrap64 (a * wrap64 b) = wrap64 (a * b) := by rw [wrap64_of, of_mul, of_wrap64, ← of_mul, ← wrap64_of]
theorem ppow (y : Int) (m : Nat) : ∀ a, wrap64 (a * (wrap64 y) ^ m) = wrap64 (a * y ^ m) := by
  induction m with
  | zero => intro a; rw [Int.pow_zero, Int.pow_zero]
  | succ m ih =>
    intro a
    rw [Int.pow_succ, Int.pow_succ, ← Int.mul_assoc, pmul', Int.mul_assoc, Int.mul_comm _ y, ← Int.mul_assoc, ih, Int.mul_assoc, Int.mul_comm y]
theorem prange (n : Int) : -9223372036854775808 ≤ wrap64 n ∧ wrap64 n < 9223372036854775808 := by unfold wrap64; omega
theorem pself {n : Int} (h : -9223372036854775808 ≤ n ∧ n < 9223372036854775808) : wrap64 n = n := by unfold wrap64; omega

theorem power_up (d : Nat) : ∀ (x acc : Int) (n : Nat), n < 2 ^ d → (-9223372036854775808 ≤ acc ∧ acc < 9223372036854775808) → ∀ k, d < k → word_Power.l0 k x n acc = some (wrap64 (acc * x ^ n)) := by
  induction d with
  | zero =>
    intro x acc n hn ha k hk
    obtain ⟨k, rfl⟩ : ∃ m, k = m + 1 := ⟨k - 1, by omega⟩
    obtain rfl : n = 0 := by omega
    simp only [word_Power.l0]
    rw [if_neg (by decide), Int.pow_zero, Int.mul_one, pself ha]
  | succ d ih =>
    intro x acc n hn ha k hk
    obtain ⟨k, rfl⟩ : ∃ m, k = m + 1 := ⟨k - 1, by omega⟩
    simp only [word_Power.l0]
    by_cases h0 : n = 0
    · subst h0
      rw [if_neg (by decide), Int.pow_zero, Int.mul_one, pself ha]
    · rw [if_pos (by omega), and1_u]
      have e2 : (n : Int) / 2 = ((n / 2 : Nat) : Int) := by omega
      have hd : n / 2 < 2 ^ d := by rw [Nat.pow_succ] at hn; omega
      rw [e2]
      by_cases h1 : (n : Int) % 2 = 1
      · rw [if_pos h1, ih _ _ _ hd (prange _) k (by omega), ppow, pmul]
        congr 2
        have : n = 2 * (n / 2) + 1 := by omega
        conv => rhs; rw [this, Int.pow_succ, Int.pow_mul, Int.pow_succ, Int.pow_succ, Int.pow_zero, Int.one_mul]
        rw [Int.mul_assoc, Int.mul_comm x]
      · rw [if_neg h1, ih _ _ _ hd ha k (by omega), ppow]
        congr 2
        have : n = 2 * (n / 2) := by omega
        conv => rhs; rw [this, Int.pow_mul, Int.pow_succ, Int.pow_succ, Int.pow_zero, Int.one_mul]

theorem power_ref (x : Int) (n : Nat) (j : Nat) : ∀ (acc : Int), j ≤ 64 → (-9223372036854775808 ≤ acc ∧ acc < 9223372036854775808) → ∀ k, j < k →
    scarabref02_Power.l0 k x n acc ((j : Int) - 1) = some (wrap64 (acc ^ (2 ^ j) * x ^ (n % 2 ^ j))) := by
  induction j with
  | zero =>
    intro acc hj ha k hk
    obtain ⟨k, rfl⟩ : ∃ m, k = m + 1 := ⟨k - 1, by omega⟩
    simp only [scarabref02_Power.l0]
    rw [if_neg (by omega)]
    simp [Nat.mod_one, Int.pow_succ, pself ha]
  | succ j ih =>
    intro acc hj ha k hk
    obtain ⟨k, rfl⟩ : ∃ m, k = m + 1 := ⟨k - 1, by omega⟩
    have e1 : ((j + 1 : Nat) : Int) - 1 = (j : Int) := by omega
    have e2 : wrap64 ((j : Int) - 1) = (j : Int) - 1 := by unfold wrap64; omega
    have e3 : shr .u64 (n : Int) (j : Int) = ((n / 2 ^ j : Nat) : Int) := by
      unfold shr
      rw [Int.toNat_natCast, Nat.min_eq_left (show j ≤ IntKind.u64.bits by simp [IntKind.bits]; omega), Int.natCast_ediv, Int.natCast_pow]
      rfl
    have e4 : acc ^ 2 ^ (j + 1) = (acc * acc) ^ 2 ^ j := by
      rw [Nat.pow_succ, Nat.mul_comm, Int.pow_mul, Int.pow_succ, Int.pow_succ, Int.pow_zero, Int.one_mul]
    have e5 := Nat.mod_pow_succ (b := 2) (k := j) (x := n)
    rw [e1]
    simp only [scarabref02_Power.l0]
    rw [if_pos (by omega), u64_id (by omega) (by omega), if_pos (by omega), e3, and1_u, e2]
    by_cases h : ((n / 2 ^ j : Nat) : Int) % 2 = 1
    · rw [if_pos h, ih _ (by omega) (prange _) k (by omega)]
      have h' : n / 2 ^ j % 2 = 1 := by omega
      rw [Int.mul_comm, ppow, Int.mul_pow, Int.mul_comm (wrap64 _ ^ _), ← Int.mul_assoc, ppow, e4, e5, h', Nat.mul_one, Int.pow_add, Int.mul_comm]
    · rw [if_neg h, ih _ (by omega) (prange _) k (by omega)]
      have h' : n / 2 ^ j % 2 = 0 := by omega
      rw [Int.mul_comm, ppow, Int.mul_comm, e4, e5, h', Nat.mul_zero, Nat.add_zero]

theorem WordPowers : scarablaw02_WordPowers.Pure := by
  intro a n ha hn
  have bn := wf_u64 hn
  obtain ⟨n, rfl⟩ := Int.eq_ofNat_of_zero_le bn.1
  have hn' : n < 2 ^ 64 := by have := bn.2; simp only [Nat.reducePow]; omega
  refine ⟨100, ?_⟩
  unfold scarablaw02_WordPowers.f word_Power.f scarabref02_Power.f
  rw [speaks 100 (by decide), show (4 : Int) = ((4 : Nat) : Int) from rfl, power_up 3 3 1 4 (by decide) (by decide) 100 (by decide), power_up 64 a 1 n hn' (by decide) 100 (by decide)]
  have := power_ref a n 64 1 (by decide) (by decide) 100 (by decide)
  rw [show ((64 : Nat) : Int) - 1 = 63 from rfl] at this
  rw [this, Nat.mod_eq_of_lt hn', Int.one_pow, show wrap64 (1 * 3 ^ 4) = 81 by unfold wrap64; omega]
  simp
end Go.Proofs.YtckfnbjjghdaoaaDoor.Pure
