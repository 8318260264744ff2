/- Words of 64 bits: what the walk writes with 'wrap', 'bits', shifts, told of bit vectors. -/
import Derived.Laws.Entries
import Derived.RowKit
import GoSem.Claim
import Derived.Test.YtkolpnilgpmoiaaWMore
namespace Go.Proofs.Ytkolpnilgpmoiaa.Bits
open Go.RowKit Go.Proofs.YtkolpnilgpmoiaaW.PrintWords

abbrev W := BitVec 64
def of (x : Int) : W := BitVec.ofInt 64 x

theorem wrap64_of (n : Int) : wrap64 n = (of n).toInt := by
  unfold wrap64 of
  rw [BitVec.toInt_ofInt]
  unfold Int.bmod
  simp only [Nat.reducePow]
  omega

theorem u64_of (n : Int) : IntKind.u64.wrap n = ((of n).toNat : Int) := by
  simp only [IntKind.wrap, IntKind.bits, IntKind.signed, of, BitVec.toNat_ofInt]
  simp
  omega

theorem i64_wrap (n : Int) : IntKind.i64.wrap n = wrap64 n := by
  simp [IntKind.wrap, IntKind.bits, IntKind.signed, wrap64]
  split <;> omega

theorem of_toInt (x : W) : of x.toInt = x := by simp [of]
theorem of_toNat (x : W) : of (x.toNat : Int) = x := by
  apply BitVec.eq_of_toNat_eq
  simp [of]
theorem of_inj_i {x y : Int} (hx : -9223372036854775808 ≤ x ∧ x < 9223372036854775808) (hy : -9223372036854775808 ≤ y ∧ y < 9223372036854775808) (h : of x = of y) : x = y := by
  have : (of x).toInt = (of y).toInt := by rw [h]
  rw [← wrap64_of, ← wrap64_of] at this
  unfold wrap64 at this
  omega
theorem toInt_of {x : Int} (h0 : -9223372036854775808 ≤ x) (h1 : x < 9223372036854775808) : (of x).toInt = x := by
  rw [← wrap64_of]; unfold wrap64; omega
theorem toNat_of {x : Int} (h0 : 0 ≤ x) (h1 : x < 18446744073709551616) : ((of x).toNat : Int) = x := by
  rw [← u64_of]; simp [IntKind.wrap, IntKind.bits, IntKind.signed]; omega

theorem of_add (x y : Int) : of (x + y) = of x + of y := by simp [of, BitVec.ofInt_add]
theorem of_mul (x y : Int) : of (x * y) = of x * of y := by simp [of, BitVec.ofInt_mul]
theorem of_neg (x : Int) : of (-x) = -of x := by simp [of, BitVec.ofInt_neg]
theorem of_sub (x y : Int) : of (x - y) = of x - of y := by
  rw [Int.sub_eq_add_neg, of_add, of_neg, BitVec.sub_eq_add_neg]
theorem of_wrap64 (x : Int) : of (wrap64 x) = of x := by rw [wrap64_of, of_toInt]
theorem of_u64 (x : Int) : of (IntKind.u64.wrap x) = of x := by rw [u64_of, of_toNat]

theorem and_u (x y : Int) : Go.bits .and .u64 x y = ((of x &&& of y).toNat : Int) := by
  show IntKind.u64.wrap ((of x &&& of y).toNat : Int) = _
  rw [u64_of, of_toNat]
theorem or_u (x y : Int) : Go.bits .or .u64 x y = ((of x ||| of y).toNat : Int) := by
  show IntKind.u64.wrap ((of x ||| of y).toNat : Int) = _
  rw [u64_of, of_toNat]
theorem xor_u (x y : Int) : Go.bits .xor .u64 x y = ((of x ^^^ of y).toNat : Int) := by
  show IntKind.u64.wrap ((of x ^^^ of y).toNat : Int) = _
  rw [u64_of, of_toNat]
theorem and_i (x y : Int) : Go.bits .and .i64 x y = (of x &&& of y).toInt := by
  show IntKind.i64.wrap ((of x &&& of y).toNat : Int) = _
  rw [i64_wrap, wrap64_of, of_toNat]
theorem or_i (x y : Int) : Go.bits .or .i64 x y = (of x ||| of y).toInt := by
  show IntKind.i64.wrap ((of x ||| of y).toNat : Int) = _
  rw [i64_wrap, wrap64_of, of_toNat]
theorem xor_i (x y : Int) : Go.bits .xor .i64 x y = (of x ^^^ of y).toInt := by
  show IntKind.i64.wrap ((of x ^^^ of y).toNat : Int) = _
  rw [i64_wrap, wrap64_of, of_toNat]
theorem andNot_i (x y : Int) : Go.bits .andNot .i64 x y = (of x &&& ~~~of y).toInt := by
  show IntKind.i64.wrap ((of x &&& ~~~of y).toNat : Int) = _
  rw [i64_wrap, wrap64_of, of_toNat]

theorem of_pow (n : Nat) (x : Int) : of (x * 2 ^ n) = of x <<< n := by
  rw [of_mul, BitVec.shiftLeft_eq_mul_twoPow]
  congr 1
  apply BitVec.eq_of_toNat_eq
  simp only [of, BitVec.toNat_ofInt, BitVec.toNat_twoPow]
  rw [show ((2 : Int) ^ n) = ((2 ^ n : Nat) : Int) by simp, ← Int.natCast_emod, Int.toNat_natCast]

theorem shl_u (x y : Int) : shl .u64 x y = ((of x <<< y.toNat).toNat : Int) := by
  unfold shl
  rw [u64_of, of_pow]
  simp only [IntKind.bits]
  by_cases h : y.toNat ≤ 64
  · rw [Nat.min_eq_left h]
  · rw [Nat.min_eq_right (by omega), BitVec.shiftLeft_eq_zero (Nat.le_refl _), BitVec.shiftLeft_eq_zero (by omega)]
theorem shl_i (x y : Int) : shl .i64 x y = (of x <<< y.toNat).toInt := by
  unfold shl
  rw [i64_wrap, wrap64_of, of_pow]
  simp only [IntKind.bits]
  by_cases h : y.toNat ≤ 64
  · rw [Nat.min_eq_left h]
  · rw [Nat.min_eq_right (by omega), BitVec.shiftLeft_eq_zero (Nat.le_refl _), BitVec.shiftLeft_eq_zero (by omega)]
theorem shr_u (x : W) (y : Int) : shr .u64 (x.toNat : Int) y = ((x >>> y.toNat).toNat : Int) := by
  unfold shr
  simp only [IntKind.bits, BitVec.toNat_ushiftRight, Nat.shiftRight_eq_div_pow]
  by_cases h : y.toNat ≤ 64
  · rw [Nat.min_eq_left h, Int.natCast_ediv]; simp
  · rw [Nat.min_eq_right (by omega)]
    have h1 := x.isLt
    rw [Nat.div_eq_of_lt (Nat.lt_of_lt_of_le h1 (Nat.pow_le_pow_right (by decide) (by omega)))]
    have : (x.toNat : Int) < 2 ^ 64 := by exact_mod_cast h1
    rw [Int.ediv_eq_zero_of_lt (by omega) this]
    rfl
theorem shr_i (x : W) (y : Int) : shr .i64 x.toInt y = (x.sshiftRight y.toNat).toInt := by
  unfold shr
  simp only [IntKind.bits, BitVec.toInt_sshiftRight, Int.shiftRight_eq_div_pow]
  by_cases h : y.toNat ≤ 64
  · rw [Nat.min_eq_left h]; simp
  · rw [Nat.min_eq_right (by omega)]
    have h1 := x.toInt_lt; have h2 := x.le_toInt
    simp only [Nat.reduceSub] at h1 h2
    have h3 : (2 : Int) ^ 64 ≤ ((2 ^ y.toNat : Nat) : Int) := by
      have : 2 ^ 64 ≤ 2 ^ y.toNat := Nat.pow_le_pow_right (by decide) (by omega)
      exact_mod_cast this
    by_cases h0 : 0 ≤ x.toInt
    · rw [Int.ediv_eq_zero_of_lt h0 (by omega), Int.ediv_eq_zero_of_lt h0 (by omega)]
    · have e : ∀ m : Int, 2 ^ 64 ≤ m → x.toInt / m = -1 := by
        intro m hm
        rw [show x.toInt / m = -1 ↔ _ from Int.ediv_eq_iff_of_pos (by omega)]
        constructor <;> omega
      rw [e _ (by omega), e _ h3]
theorem u64_nonneg (n : Int) : 0 ≤ IntKind.u64.wrap n := by rw [u64_of]; omega
theorem u64_id {n : Int} (h0 : 0 ≤ n) (h1 : n < 18446744073709551616) : IntKind.u64.wrap n = n := by
  simp [IntKind.wrap, IntKind.bits, IntKind.signed]; omega
theorem wf_i64 {n : Int} (h : (Lit.int .i64 n).wf = true) : -9223372036854775808 ≤ n ∧ n < 9223372036854775808 := by
  simp [Lit.wf, IntKind.min, IntKind.max, IntKind.signed, IntKind.bits] at h; omega
theorem wf_u64 {n : Int} (h : (Lit.int .u64 n).wf = true) : 0 ≤ n ∧ n < 18446744073709551616 := by
  simp [Lit.wf, IntKind.min, IntKind.max, IntKind.signed, IntKind.bits] at h; omega

theorem bindI {α β : Type} {a : Option α} {f : α → Option β} {x : α} {r : Option β} (h : a = some x) (h2 : f x = r) : a.bind f = r := by
  subst h; exact h2
theorem toNat_of_mod (x : Int) : ((of x).toNat : Int) = x % 18446744073709551616 := by
  rw [← u64_of]; simp [IntKind.wrap, IntKind.bits, IntKind.signed]
theorem and1_u (x : Int) : Go.bits .and .u64 x 1 = x % 2 := by
  rw [and_u, show of 1 = 1#64 from rfl, BitVec.toNat_and, show (1#64).toNat = 1 from rfl, Nat.and_one_is_mod]
  have := toNat_of_mod x
  omega
end Go.Proofs.Ytkolpnilgpmoiaa.Bits
