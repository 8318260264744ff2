/- Dividing two words by one: both ways come to the same. -/
import Derived.Test.YtckfnbjjghdaoaaDoorDiv
import Derived.Test.YtckfnbjjghdaoaaDoorQ13
import Derived.Test.YtckfnbjjghdaoaaDoorQ14
namespace Go.Proofs.YtckfnbjjghdaoaaDoor.Divs
open Go.RowKit Go.Proofs.YtckfnbjjghdaoaaDoor.Q Go.Proofs.YtckfnbjjghdaoaaDoorW.PrintWords Go.Proofs.YtckfnbjjghdaoaaDoor.Bits Go.Proofs.YtckfnbjjghdaoaaDoor.Div

/-- What a quotient and a rest come to, with their signs. -/
def out (neg na : Bool) (q r : Int) : Int × Int × Int :=
  if q > 9223372036854775808 ∨ (q = 9223372036854775808 ∧ neg = false) then (0, 0, 24)
  else (if neg = true then wrap64 (-(wrap64 q)) else wrap64 q, if na = true then wrap64 (-(wrap64 r)) else wrap64 r, 0)
/-- What a division of the number m by d comes to. -/
def whole (neg na : Bool) (m d : Nat) : Int × Int × Int := if 18446744073709551616 ≤ m / d then (0, 0, 24) else out neg na ((m / d : Nat) : Int) ((m % d : Nat) : Int)

theorem whole_big (neg na : Bool) (hi lo d : Nat) (hd : 0 < d) (h : d ≤ hi) : whole neg na (hi * 18446744073709551616 + lo) d = (0, 0, 24) := by
  unfold whole
  rw [if_pos]
  rw [Nat.le_div_iff_mul_le hd]
  omega
theorem whole_small (neg na : Bool) (hi lo d : Nat) (hd : 0 < d) (hlo : lo < 18446744073709551616) (h : hi < d) :
    whole neg na (hi * 18446744073709551616 + lo) d = out neg na (((hi * 18446744073709551616 + lo) / d : Nat) : Int) (((hi * 18446744073709551616 + lo) % d : Nat) : Int) := by
  unfold whole
  rw [if_neg]
  rw [Nat.not_le, Nat.div_lt_iff_lt_mul hd]
  omega

theorem tail1 (k : Nat) (neg na : Bool) (q r : Int) : (if neg = true then (if q > 9223372036854775808 then (word_Divide.j2 (k + 1) na q r true true) else (if q = 9223372036854775808 then (word_Divide.j2 (k + 1) na q r true (!true)) else (word_Divide.j2 (k + 1) na q r true false))) else (if q > 9223372036854775808 then (word_Divide.j3 (k + 1) na q r false true) else (if q = 9223372036854775808 then (word_Divide.j3 (k + 1) na q r false (!false)) else (word_Divide.j3 (k + 1) na q r false false)))) = some (out neg na q r) := by
  unfold out
  cases neg
  · rw [if_neg (show ¬ false = true by decide)]
    by_cases h1 : q > 9223372036854775808
    · rw [if_pos h1, word_Divide.j3, if_pos rfl, if_pos (.inl h1)]
    · rw [if_neg h1]
      by_cases h2 : q = 9223372036854775808
      · rw [if_pos h2, word_Divide.j3, if_pos (show (!false) = true from rfl), if_pos (.inr ⟨h2, rfl⟩)]
      · rw [if_neg h2, word_Divide.j3, if_neg (show ¬ false = true by decide), if_neg (show ¬ false = true by decide), if_neg (show ¬ (q > 9223372036854775808 ∨ (q = 9223372036854775808 ∧ false = false)) from fun e => e.elim h1 fun e => h2 e.1), if_neg (show ¬ false = true by decide)]
        cases na
        · rw [if_neg (show ¬ false = true by decide), if_neg (show ¬ false = true by decide)]
        · rw [if_pos rfl, if_pos rfl]
  · rw [if_pos rfl]
    by_cases h1 : q > 9223372036854775808
    · rw [if_pos h1, word_Divide.j2, if_pos rfl, if_pos (.inl h1)]
    · rw [if_neg h1]
      have hn : ¬ (q > 9223372036854775808 ∨ (q = 9223372036854775808 ∧ true = false)) := fun e => e.elim h1 fun e => absurd e.2 (by decide)
      by_cases h2 : q = 9223372036854775808
      · rw [if_pos h2, word_Divide.j2, if_neg (show ¬ (!true) = true by decide), if_pos rfl, if_neg hn, if_pos rfl]
        cases na
        · rw [if_neg (show ¬ false = true by decide), if_neg (show ¬ false = true by decide)]
        · rw [if_pos rfl, if_pos rfl]
      · rw [if_neg h2, word_Divide.j2, if_neg (show ¬ false = true by decide), if_pos rfl, if_neg hn, if_pos rfl]
        cases na
        · rw [if_neg (show ¬ false = true by decide), if_neg (show ¬ false = true by decide)]
        · rw [if_pos rfl, if_pos rfl]
theorem tail4 (k : Nat) (neg na : Bool) (q r : Int) : (if neg = true then (if q > 9223372036854775808 then (word_Divide.j5 (k + 1) na q r true true) else (if q = 9223372036854775808 then (word_Divide.j5 (k + 1) na q r true (!true)) else (word_Divide.j5 (k + 1) na q r true false))) else (if q > 9223372036854775808 then (word_Divide.j6 (k + 1) na q r false true) else (if q = 9223372036854775808 then (word_Divide.j6 (k + 1) na q r false (!false)) else (word_Divide.j6 (k + 1) na q r false false)))) = some (out neg na q r) := by
  unfold out
  cases neg
  · rw [if_neg (show ¬ false = true by decide)]
    by_cases h1 : q > 9223372036854775808
    · rw [if_pos h1, word_Divide.j6, if_pos rfl, if_pos (.inl h1)]
    · rw [if_neg h1]
      by_cases h2 : q = 9223372036854775808
      · rw [if_pos h2, word_Divide.j6, if_pos (show (!false) = true from rfl), if_pos (.inr ⟨h2, rfl⟩)]
      · rw [if_neg h2, word_Divide.j6, if_neg (show ¬ false = true by decide), if_neg (show ¬ false = true by decide), if_neg (show ¬ (q > 9223372036854775808 ∨ (q = 9223372036854775808 ∧ false = false)) from fun e => e.elim h1 fun e => h2 e.1), if_neg (show ¬ false = true by decide)]
        cases na
        · rw [if_neg (show ¬ false = true by decide), if_neg (show ¬ false = true by decide)]
        · rw [if_pos rfl, if_pos rfl]
  · rw [if_pos rfl]
    by_cases h1 : q > 9223372036854775808
    · rw [if_pos h1, word_Divide.j5, if_pos rfl, if_pos (.inl h1)]
    · rw [if_neg h1]
      have hn : ¬ (q > 9223372036854775808 ∨ (q = 9223372036854775808 ∧ true = false)) := fun e => e.elim h1 fun e => absurd e.2 (by decide)
      by_cases h2 : q = 9223372036854775808
      · rw [if_pos h2, word_Divide.j5, if_neg (show ¬ (!true) = true by decide), if_pos rfl, if_neg hn, if_pos rfl]
        cases na
        · rw [if_neg (show ¬ false = true by decide), if_neg (show ¬ false = true by decide)]
        · rw [if_pos rfl, if_pos rfl]
      · rw [if_neg h2, word_Divide.j5, if_neg (show ¬ false = true by decide), if_pos rfl, if_neg hn, if_pos rfl]
        cases na
        · rw [if_neg (show ¬ false = true by decide), if_neg (show ¬ false = true by decide)]
        · rw [if_pos rfl, if_pos rfl]
theorem word_j1 (x2 : Int) (na : Bool) (hi lo d : Nat) (hd : 0 < d) (hd2 : d < 18446744073709551616) (hlo : lo < 18446744073709551616) (k : Nat) (hk : 60 < k) :
    word_Divide.j1 k x2 na (hi : Int) (lo : Int) (d : Int) = some (whole (na != decide (x2 < 0)) na (hi * 18446744073709551616 + lo) d) := by
  obtain ⟨k, rfl⟩ : ∃ m, k = m + 2 := ⟨k - 2, by omega⟩
  rw [word_Divide.j1]
  by_cases h : d ≤ hi
  · rw [if_pos (Int.ofNat_le.mpr h), whole_big _ _ hi lo d hd h]
  · rw [if_neg (fun e => h (Int.ofNat_le.mp e)), whole_small _ _ hi lo d hd hlo (Nat.lt_of_not_le h)]
    exact bindI (div64 hi lo d hlo hd2 (Nat.lt_of_not_le h) (k + 1) (by omega)) (tail1 k _ na _ _)
theorem word_j4 (x2 : Int) (na : Bool) (hi lo d : Nat) (hd : 0 < d) (hd2 : d < 18446744073709551616) (hlo : lo < 18446744073709551616) (k : Nat) (hk : 60 < k) :
    word_Divide.j4 k x2 na (hi : Int) (lo : Int) (d : Int) = some (whole (na != decide (x2 < 0)) na (hi * 18446744073709551616 + lo) d) := by
  obtain ⟨k, rfl⟩ : ∃ m, k = m + 2 := ⟨k - 2, by omega⟩
  rw [word_Divide.j4]
  by_cases h : d ≤ hi
  · rw [if_pos (Int.ofNat_le.mpr h), whole_big _ _ hi lo d hd h]
  · rw [if_neg (fun e => h (Int.ofNat_le.mp e)), whole_small _ _ hi lo d hd hlo (Nat.lt_of_not_le h)]
    exact bindI (div64 hi lo d hlo hd2 (Nat.lt_of_not_le h) (k + 1) (by omega)) (tail4 k _ na _ _)
/- The reference's way: bit by bit. -/
theorem bit_of (x : Nat) (j : Nat) (hj : j < 64) : Go.bits .and .u64 (shr .u64 (x : Int) (j : Int)) 1 = ((x / 2 ^ j % 2 : Nat) : Int) := by
  have e : shr .u64 (x : Int) (j : Int) = ((x / 2 ^ j : Nat) : Int) := by
    unfold shr
    simp only [IntKind.bits, Int.toNat_natCast]
    rw [Nat.min_eq_left (by omega), Int.natCast_ediv, Int.natCast_pow]; rfl
  rw [e, and1_u]; omega
theorem pair_bit (hi lo i : Nat) (hlo : lo < 18446744073709551616) : (hi * 18446744073709551616 + lo) / 2 ^ i % 2 = if 64 ≤ i then hi / 2 ^ (i - 64) % 2 else lo / 2 ^ i % 2 := by
  by_cases h : 64 ≤ i
  · rw [if_pos h, show (2 : Nat) ^ i = 18446744073709551616 * 2 ^ (i - 64) by rw [show (18446744073709551616 : Nat) = 2 ^ 64 from rfl, ← Nat.pow_add]; congr 1; omega, ← Nat.div_div_eq_div_mul]
    congr 2
    omega
  · rw [if_neg h]
    have e : hi * 18446744073709551616 = 2 ^ i * (hi * 2 ^ (63 - i) * 2) := by
      rw [show (18446744073709551616 : Nat) = 2 ^ i * (2 ^ (63 - i) * 2) by rw [← Nat.pow_succ, ← Nat.pow_add, show i + (63 - i).succ = 64 by omega]]
      rw [Nat.mul_left_comm, Nat.mul_assoc]
    rw [e, Nat.add_comm, Nat.add_mul_div_left _ _ (Nat.pow_pos (by decide))]
    omega
theorem ref_fin (x0 x2 hi lo : Int) (d : Int) (q r : Int) (over : Bool) (k : Nat) (hk : 2 < k) :
    scarabref02_Divide.l0 k x0 x2 hi lo d q r over (-1) = some (if over = true then (0, 0, 24) else out (decide (x0 < 0) != decide (x2 < 0)) (decide (x0 < 0)) q r) := by
  obtain ⟨k, rfl⟩ : ∃ m, k = m + 2 := ⟨k - 2, by omega⟩
  rw [scarabref02_Divide.l0, if_neg (by decide)]
  generalize hneg : (decide (x0 < 0) != decide (x2 < 0)) = neg
  clear hneg
  cases neg
  · rw [if_neg (show ¬ false = true by decide)]
    cases over
    · rw [if_neg (show ¬ false = true by decide), if_neg (show ¬ false = true by decide)]
      unfold out
      by_cases h1 : q > 9223372036854775808
      · rw [if_pos h1, scarabref02_Divide.j4, if_pos rfl, if_pos (.inl h1)]
      · rw [if_neg h1]
        by_cases h2 : q = 9223372036854775808
        · rw [if_pos h2, scarabref02_Divide.j4, if_pos (show (!false) = true from rfl), if_pos (.inr ⟨h2, rfl⟩)]
        · rw [if_neg h2, scarabref02_Divide.j4, if_neg (show ¬ false = true by decide), if_neg (show ¬ false = true by decide), if_neg (show ¬ (q > 9223372036854775808 ∨ (q = 9223372036854775808 ∧ false = false)) by omega), if_neg (show ¬ false = true by decide)]
          by_cases hn : x0 < 0
          · rw [if_pos hn, decide_eq_true hn]; rfl
          · rw [if_neg hn, decide_eq_false hn]; rfl
    · rw [if_pos rfl, scarabref02_Divide.j4, if_pos rfl, if_pos rfl]
  · rw [if_pos rfl]
    cases over
    · rw [if_neg (show ¬ false = true by decide), if_neg (show ¬ false = true by decide)]
      unfold out
      by_cases h1 : q > 9223372036854775808
      · rw [if_pos h1, scarabref02_Divide.j3, if_pos rfl, if_pos (.inl h1)]
      · rw [if_neg h1]
        have hn2 : ¬ (q > 9223372036854775808 ∨ (q = 9223372036854775808 ∧ true = false)) := by
          rintro (e | ⟨_, e⟩)
          · exact h1 e
          · exact absurd e (by decide)
        by_cases h2 : q = 9223372036854775808
        · rw [if_pos h2, scarabref02_Divide.j3, if_neg (show ¬ (!true) = true by decide), if_pos rfl, if_neg hn2, if_pos rfl]
          by_cases hn : x0 < 0
          · rw [if_pos hn, decide_eq_true hn]; rfl
          · rw [if_neg hn, decide_eq_false hn]; rfl
        · rw [if_neg h2, scarabref02_Divide.j3, if_neg (show ¬ false = true by decide), if_pos rfl, if_neg hn2, if_pos rfl]
          by_cases hn : x0 < 0
          · rw [if_pos hn, decide_eq_true hn]; rfl
          · rw [if_neg hn, decide_eq_false hn]; rfl
    · rw [if_pos rfl, scarabref02_Divide.j3, if_pos rfl, if_pos rfl]
/-- One bit more of the number that is divided. -/
theorem more (P d b : Nat) (hd : 0 < d) (hb : b < 2) : (d ≤ 2 * (P % d) + b → (2 * P + b) / d = 2 * (P / d) + 1 ∧ (2 * P + b) % d = 2 * (P % d) + b - d) ∧ (2 * (P % d) + b < d → (2 * P + b) / d = 2 * (P / d) ∧ (2 * P + b) % d = 2 * (P % d) + b) := by
  have h1 := Nat.div_add_mod P d
  have h2 := Nat.mod_lt P hd
  have e : 2 * P + b = 2 * (P % d) + b + d * (2 * (P / d)) := by
    rw [Nat.mul_left_comm]
    generalize d * (P / d) = c at *
    generalize P % d = r at *
    omega
  constructor
  · intro h
    have e2 : 2 * P + b = (2 * (P % d) + b - d) + d * (2 * (P / d) + 1) := by rw [Nat.mul_add, Nat.mul_one]; omega
    constructor
    · rw [e2, Nat.add_mul_div_left _ _ hd, Nat.div_eq_of_lt (by omega)]; omega
    · rw [e2, Nat.add_mul_mod_self_left, Nat.mod_eq_of_lt (by omega)]
  · intro h
    constructor
    · rw [e, Nat.add_mul_div_left _ _ hd, Nat.div_eq_of_lt (by omega)]; omega
    · rw [e, Nat.add_mul_mod_self_left, Nat.mod_eq_of_lt (by omega)]
end Go.Proofs.YtckfnbjjghdaoaaDoor.Divs
