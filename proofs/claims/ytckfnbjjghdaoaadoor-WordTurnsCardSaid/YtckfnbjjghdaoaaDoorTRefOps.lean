/- The reference's words, bit by bit: a word put together out of bits, and what each loop puts together. -/
import Derived.Test.YtckfnbjjghdaoaaDoorTRing
import Derived.Test.YtckfnbjjghdaoaaDoorT4
namespace Go.Proofs.YtckfnbjjghdaoaaDoor.RefOps
open Go.RowKit Go.Proofs.YtckfnbjjghdaoaaDoor.T Go.Proofs.YtckfnbjjghdaoaaDoorW.PrintWords Go.Proofs.YtckfnbjjghdaoaaDoor.Bits Go.Proofs.YtckfnbjjghdaoaaDoor.Ops

def b2i (b : Bool) : Int := if b then 1 else 0
theorem bit_b (a : Int) (j : Nat) (hj : j < 64) : scarabref02_bit.f a (j : Int) = some (b2i ((of a).getLsbD j)) := by
  unfold scarabref02_bit.f
  rw [u64_id (n := (j : Int)) (by omega) (by omega), if_pos (by omega), u64_of, shr_u, and1_u, Int.toNat_natCast, BitVec.toNat_ushiftRight, Nat.shiftRight_eq_div_pow]
  congr 1
  rw [← BitVec.testBit_toNat, Nat.testBit_eq_decide_div_mod_eq]
  generalize (of a).toNat / 2 ^ j = q
  unfold b2i wrap64
  by_cases h : q % 2 = 1
  · rw [decide_eq_true h, if_pos rfl]; omega
  · rw [decide_eq_false h, if_neg (by decide)]; omega
theorem put_b (r : W) (j : Nat) (hj : j < 64) (b : Bool) : scarabref02_put.f r.toInt (j : Int) (b2i b) = some (r ||| (if b then 1#64 <<< j else 0#64)).toInt := by
  unfold scarabref02_put.f
  rw [u64_id (n := (j : Int)) (by omega) (by omega), if_pos (by omega), or_u, wrap64_of, of_toNat, of_u64, of_toInt, shl_u, of_u64, of_toNat, Int.toNat_natCast]
  cases b
  · simp [b2i, of]
  · rfl
/-- The word whose bits below j are v's. -/
def upto (v : Nat → Bool) : Nat → W
  | 0 => 0#64
  | j + 1 => upto v j ||| (if v j then 1#64 <<< j else 0#64)
theorem one_shl (j i : Nat) (hi : i < 64) : (1#64 <<< j).getLsbD i = decide (i = j) := by
  rw [BitVec.getLsbD_shiftLeft, BitVec.getLsbD_one]
  by_cases h : i = j
  · subst h; simp [hi]
  · by_cases h2 : i < j
    · simp [h2, h]
    · have : ¬ i - j = 0 := by omega
      simp [h, this]
theorem upto_bit (v : Nat → Bool) (j : Nat) : ∀ i, i < 64 → (upto v j).getLsbD i = (decide (i < j) && v i) := by
  induction j with
  | zero => intro i _; simp [upto]
  | succ j ih =>
    intro i hi
    simp only [upto]
    rw [BitVec.getLsbD_or, ih i hi]
    by_cases h : v j = true
    · rw [if_pos h, one_shl j i hi]
      by_cases h2 : i = j
      · subst h2; simp [h]
      · by_cases h3 : i < j
        · simp [h3, h2, show i < j + 1 by omega]
        · simp [h3, h2, show ¬ i < j + 1 by omega]
    · rw [if_neg h]
      by_cases h2 : i = j
      · subst h2; simp [h]
      · by_cases h3 : i < j
        · simp [h3, show i < j + 1 by omega]
        · simp [h3, show ¬ i < j + 1 by omega]
theorem upto_eq (v : Nat → Bool) (x : W) (h : ∀ i, i < 64 → x.getLsbD i = v i) : upto v 64 = x := by
  apply BitVec.eq_of_getLsbD_eq
  intro i hi
  rw [upto_bit v 64 i hi, h i hi]
  simp [hi]
theorem upto_zero (v : Nat → Bool) : (upto v 0).toInt = 0 := rfl

theorem conv_loop (a : Int) (n : Nat) (hn : 1 ≤ n) (hn2 : n ≤ 64) (s : Bool) (d : Nat) : ∀ (j : Nat), j + d = 64 → ∀ k, d < k →
    scarabref02_converted.l0 k a n s (upto (fun i => if i < n then (of a).getLsbD i else s && (of a).getLsbD (n - 1)) j).toInt j = some (upto (fun i => if i < n then (of a).getLsbD i else s && (of a).getLsbD (n - 1)) 64).toInt := by
  induction d with
  | zero =>
    intro j hj k hk
    obtain ⟨k, rfl⟩ : ∃ m, k = m + 1 := ⟨k - 1, by omega⟩
    obtain rfl : j = 64 := by omega
    rw [scarabref02_converted.l0, if_neg (by decide)]
  | succ d ih =>
    intro j hj k hk
    obtain ⟨k, rfl⟩ : ∃ m, k = m + 1 := ⟨k - 1, by omega⟩
    have e : wrap64 ((j : Int) + 1) = ((j + 1 : Nat) : Int) := by unfold wrap64; omega
    have hih := ih (j + 1) (by omega) k (by omega)
    rw [scarabref02_converted.l0, if_pos (by omega), e]
    by_cases h : j < n
    · rw [if_pos (by omega)]
      refine bindI (bit_b a j (by omega)) (bindI (put_b _ j (by omega) _) ?_)
      have : (upto (fun i => if i < n then (of a).getLsbD i else s && (of a).getLsbD (n - 1)) (j + 1)) = upto (fun i => if i < n then (of a).getLsbD i else s && (of a).getLsbD (n - 1)) j ||| (if (of a).getLsbD j then 1#64 <<< j else 0#64) := by
        simp only [upto, if_pos h]
      rw [← this]; exact hih
    · rw [if_neg (by omega)]
      have e1 : wrap64 ((n : Int) - 1) = ((n - 1 : Nat) : Int) := by unfold wrap64; omega
      by_cases hs : s = true
      · subst hs
        rw [if_pos rfl, e1]
        refine bindI (bit_b a (n - 1) (by omega)) (bindI (put_b _ j (by omega) _) ?_)
        have : (upto (fun i => if i < n then (of a).getLsbD i else true && (of a).getLsbD (n - 1)) (j + 1)) = upto (fun i => if i < n then (of a).getLsbD i else true && (of a).getLsbD (n - 1)) j ||| (if (of a).getLsbD (n - 1) then 1#64 <<< j else 0#64) := by
          simp only [upto, if_neg h, Bool.true_and]
        rw [← this]; exact hih
      · rw [if_neg hs]
        have hs' : s = false := by simpa using hs
        subst hs'
        refine bindI (put_b _ j (by omega) false) ?_
        have : (upto (fun i => if i < n then (of a).getLsbD i else false && (of a).getLsbD (n - 1)) (j + 1)) = upto (fun i => if i < n then (of a).getLsbD i else false && (of a).getLsbD (n - 1)) j ||| (if false = true then 1#64 <<< j else 0#64) := by
          simp only [upto, if_neg h, Bool.false_and]
        rw [← this]; exact hih
theorem conv_s (a : Int) (n : Nat) (hn : 1 ≤ n) (hn2 : n ≤ 64) (k : Nat) (hk : 64 < k) : scarabref02_converted.f k a n true = some (((of a).setWidth n).signExtend 64).toInt := by
  have := conv_loop a n hn hn2 true 64 0 rfl k hk
  rw [upto_zero] at this
  rw [upto_eq _ (((of a).setWidth n).signExtend 64)] at this
  · exact this
  · intro i hi
    rw [BitVec.getLsbD_signExtend, BitVec.getLsbD_setWidth, BitVec.msb_eq_getLsbD_last, BitVec.getLsbD_setWidth]
    by_cases h : i < n
    · simp [h, hi]
    · have : n - 1 < n := by omega
      simp [h, hi, this]
theorem conv_u (a : Int) (n : Nat) (hn : 1 ≤ n) (hn2 : n ≤ 64) (k : Nat) (hk : 64 < k) : scarabref02_converted.f k a n false = some (((of a).setWidth n).setWidth 64).toInt := by
  have := conv_loop a n hn hn2 false 64 0 rfl k hk
  rw [upto_zero] at this
  rw [upto_eq _ (((of a).setWidth n).setWidth 64)] at this
  · exact this
  · intro i hi
    rw [BitVec.getLsbD_setWidth, BitVec.getLsbD_setWidth]
    by_cases h : i < n
    · simp [h, hi]
    · simp [h]
/-- What each conversion comes to. -/
def conv (op : Int) (a : Int) : Int := if op = 10 then (((of a).setWidth 8).signExtend 64).toInt else if op = 11 then (((of a).setWidth 16).signExtend 64).toInt else if op = 12 then (((of a).setWidth 32).signExtend 64).toInt
  else if op = 13 then (((of a).setWidth 8).setWidth 64).toInt else if op = 14 then (((of a).setWidth 16).setWidth 64).toInt else (((of a).setWidth 32).setWidth 64).toInt
theorem set_toNat (a : Int) (n : Nat) (hn : n ≤ 64) : (((of a).setWidth n).toNat : Int) = a % 2 ^ n := by
  rw [BitVec.toNat_setWidth, Int.natCast_emod, toNat_of_mod]
  rw [show (18446744073709551616 : Int) = 2 ^ 64 from rfl, Int.natCast_pow]
  exact Int.emod_emod_of_dvd _ ⟨2 ^ (64 - n), by rw [show ((2 : Nat) : Int) = 2 from rfl, ← Int.pow_add]; congr 1; omega⟩
theorem wrap_s (a : Int) (n : Nat) (hn1 : 1 ≤ n) (hn : n ≤ 64) : (((of a).setWidth n).signExtend 64).toInt = ((a + 2 ^ (n - 1)) % 2 ^ n - 2 ^ (n - 1)) := by
  rw [BitVec.toInt_signExtend_of_le hn, BitVec.toInt_eq_toNat_bmod, set_toNat a n hn]
  have e : (2 : Int) ^ n = 2 * 2 ^ (n - 1) := by rw [show n = (n - 1) + 1 by omega, Int.pow_succ]; simp; omega
  have hp : (0 : Int) < 2 ^ (n - 1) := Int.pow_pos (by decide)
  unfold Int.bmod
  rw [Int.natCast_pow]
  simp only [Int.cast_ofNat_Int]
  rw [e]
  generalize (2 : Int) ^ (n - 1) = p at *
  have h1 := Int.emod_nonneg a (show 2 * p ≠ 0 by omega)
  have h2 := Int.emod_lt_of_pos a (show 0 < 2 * p by omega)
  rw [Int.emod_emod_of_dvd a (Int.dvd_refl _)]
  have e3 : (a + p) % (2 * p) = (a % (2 * p) + p) % (2 * p) := by rw [Int.emod_add_emod]
  rw [e3]
  generalize a % (2 * p) = r at *
  by_cases h : r < (2 * p + 1) / 2
  · rw [if_pos h, Int.emod_eq_of_lt (by omega) (by omega)]; omega
  · rw [if_neg h]
    have : (r + p) % (2 * p) = r + p - 2 * p := by
      rw [Int.emod_eq_iff (by omega)]
      refine ⟨by omega, by omega, ?_⟩
      exact ⟨-1, by omega⟩
    rw [this]; omega
end Go.Proofs.YtckfnbjjghdaoaaDoor.RefOps
