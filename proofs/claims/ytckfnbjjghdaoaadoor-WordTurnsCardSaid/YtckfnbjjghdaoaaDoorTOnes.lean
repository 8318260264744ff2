/- The counts of bits, of noughts at the front and at the end, and a word turned about: both ways come to the same. -/
import Derived.Test.YtckfnbjjghdaoaaDoorTPop
import Derived.Test.YtckfnbjjghdaoaaDoorTConvs
import Derived.Lib.TrailingZeros
import Derived.Test.YtckfnbjjghdaoaaDoorT1
import Derived.Test.YtckfnbjjghdaoaaDoorT5
namespace Go.Proofs.YtckfnbjjghdaoaaDoor.Ones
open Go.RowKit Go.Proofs.YtckfnbjjghdaoaaDoor.T Go.Proofs.YtckfnbjjghdaoaaDoorW.PrintWords Go.Proofs.YtckfnbjjghdaoaaDoor.Bits Go.Proofs.YtckfnbjjghdaoaaDoor.Ops Go.Proofs.YtckfnbjjghdaoaaDoor.RefOps Go.Proofs.YtckfnbjjghdaoaaDoor.Pop

theorem b2i_n (x : W) (j : Nat) : b2i (x.getLsbD j) = ((x.toNat / 2 ^ j % 2 : Nat) : Int) := by
  rw [← BitVec.testBit_toNat, Nat.testBit_eq_decide_div_mod_eq]
  generalize x.toNat / 2 ^ j = q
  unfold b2i
  by_cases h : q % 2 = 1
  · rw [decide_eq_true h, if_pos rfl]; omega
  · rw [decide_eq_false h, if_neg (by decide)]; omega
theorem b2i_01 (b : Bool) : b2i b = 0 ∨ b2i b = 1 := by cases b <;> simp [b2i]

/- How many bits are 1. -/
theorem ref_pop (a : Int) (d : Nat) : ∀ (j : Nat), j + d = 64 → ∀ k, d < k → ∀ c : Nat, c ≤ j →
    scarabref02_one.l0 k a (c : Int) (j : Int) = some ((c + pop d ((of a).toNat / 2 ^ j) : Nat) : Int) := by
  induction d with
  | zero =>
    intro j hj k hk c hc
    obtain ⟨k, rfl⟩ : ∃ m, k = m + 1 := ⟨k - 1, by omega⟩
    rw [scarabref02_one.l0, if_neg (by omega)]; rfl
  | succ d ih =>
    intro j hj k hk c hc
    obtain ⟨k, rfl⟩ : ∃ m, k = m + 1 := ⟨k - 1, by omega⟩
    rw [scarabref02_one.l0, if_pos (by omega)]
    refine bindI (bit_b a j (by omega)) ?_
    rw [b2i_n]
    have e := ih (j + 1) (by omega) k (by omega) (c + (of a).toNat / 2 ^ j % 2) (by omega)
    rw [show wrap64 ((c : Int) + (((of a).toNat / 2 ^ j % 2 : Nat) : Int)) = ((c + (of a).toNat / 2 ^ j % 2 : Nat) : Int) by unfold wrap64; omega,
      show wrap64 ((j : Int) + 1) = ((j + 1 : Nat) : Int) by unfold wrap64; omega, e]
    simp only [pop]
    rw [Nat.div_div_eq_div_mul, Nat.pow_succ, Nat.add_assoc]

/- How many bits a number takes. -/
def isLen (y L : Nat) : Prop := y < 2 ^ L ∧ (L ≠ 0 → 2 ^ (L - 1) ≤ y)
instance (y L : Nat) : Decidable (isLen y L) := by unfold isLen; exact inferInstance
theorem isLen_one {y L M : Nat} (h : isLen y L) (h2 : isLen y M) : L = M := by
  obtain ⟨a, b⟩ := h
  obtain ⟨c, d⟩ := h2
  by_cases e : L < M
  · have h1 := d (by omega)
    have h2 : 2 ^ L ≤ 2 ^ (M - 1) := Nat.pow_le_pow_right (by decide) (by omega)
    omega
  · by_cases e2 : M < L
    · have h1 := b (by omega)
      have h2 : 2 ^ M ≤ 2 ^ (L - 1) := Nat.pow_le_pow_right (by decide) (by omega)
      omega
    · omega
theorem isLen_up {x s l : Nat} (h : isLen (x / 2 ^ s) l) (h1 : 1 ≤ x / 2 ^ s) : isLen x (l + s) := by
  obtain ⟨a, b⟩ := h
  have hp : 0 < 2 ^ s := Nat.pow_pos (by decide)
  have hl : l ≠ 0 := by intro e; subst e; rw [Nat.pow_zero] at a; omega
  refine ⟨?_, fun _ => ?_⟩
  · rw [Nat.pow_add]; exact (Nat.div_lt_iff_lt_mul hp).mp a
  · rw [show l + s - 1 = (l - 1) + s by omega, Nat.pow_add]
    exact (Nat.le_div_iff_mul_le hp).mp (b hl)
theorem isLen_le {y L n : Nat} (h : isLen y L) (hy : y < 2 ^ n) : L ≤ n := by
  by_cases e : L ≤ n
  · exact e
  · have h1 := h.2 (by omega)
    have h2 : 2 ^ n ≤ 2 ^ (L - 1) := Nat.pow_le_pow_right (by decide) (by omega)
    omega
def lenT : ByteArray := ⟨#[0, 1, 2, 2, 3, 3, 3, 3, 4, 4, 4, 4, 4, 4, 4, 4, 5, 5, 5, 5, 5, 5, 5, 5, 5, 5, 5, 5, 5, 5, 5, 5, 6, 6, 6, 6, 6, 6, 6, 6, 6, 6, 6, 6, 6, 6, 6, 6, 6, 6, 6, 6, 6, 6, 6, 6, 6, 6, 6, 6, 6, 6, 6, 6, 7, 7, 7, 7, 7, 7, 7, 7, 7, 7, 7, 7, 7, 7, 7, 7, 7, 7, 7, 7, 7, 7, 7, 7, 7, 7, 7, 7, 7, 7, 7, 7, 7, 7, 7, 7, 7, 7, 7, 7, 7, 7, 7, 7, 7, 7, 7, 7, 7, 7, 7, 7, 7, 7, 7, 7, 7, 7, 7, 7, 7, 7, 7, 7, 8, 8, 8, 8, 8, 8, 8, 8, 8, 8, 8, 8, 8, 8, 8, 8, 8, 8, 8, 8, 8, 8, 8, 8, 8, 8, 8, 8, 8, 8, 8, 8, 8, 8, 8, 8, 8, 8, 8, 8, 8, 8, 8, 8, 8, 8, 8, 8, 8, 8, 8, 8, 8, 8, 8, 8, 8, 8, 8, 8, 8, 8, 8, 8, 8, 8, 8, 8, 8, 8, 8, 8, 8, 8, 8, 8, 8, 8, 8, 8, 8, 8, 8, 8, 8, 8, 8, 8, 8, 8, 8, 8, 8, 8, 8, 8, 8, 8, 8, 8, 8, 8, 8, 8, 8, 8, 8, 8, 8, 8, 8, 8, 8, 8, 8, 8, 8, 8, 8, 8, 8, 8, 8, 8, 8, 8, 8, 8]⟩
theorem lenT_ok : ∀ b : Fin 256, isLen b.val (bt lenT (b.val : Int)).toNat ∧ 0 ≤ bt lenT (b.val : Int) ∧ bt lenT (b.val : Int) ≤ 8 := by decide +kernel
theorem len_b (x : Nat) (hx : x < 256) : ∃ l : Nat, isLen x l ∧ l ≤ 8 ∧ bt lenT ((x : Int) % 256) = (l : Int) := by
  obtain ⟨h1, h2, h3⟩ := lenT_ok ⟨x, hx⟩
  simp only at h1 h2 h3
  refine ⟨_, h1, by omega, ?_⟩
  rw [show (x : Int) % 256 = (x : Int) by omega]; omega
theorem j0_eq (k : Nat) (x0 x2 : Int) : bits_Len64.j0 (k + 1) x0 x2 = (if x0 ≥ 65536 then (if (x0 / 65536) ≥ 256 then (if 0 ≤ (((x0 / 65536) / 256) % 256) then (if (((x0 / 65536) / 256) % 256) < 256 then (some (wrap64 ((wrap64 ((wrap64 (x2 + 16)) + 8)) + (wrap64 (bt lenT (((x0 / 65536) / 256) % 256)))))) else (none)) else (none)) else (if 0 ≤ ((x0 / 65536) % 256) then (if ((x0 / 65536) % 256) < 256 then (some (wrap64 ((wrap64 (x2 + 16)) + (wrap64 (bt lenT ((x0 / 65536) % 256)))))) else (none)) else (none))) else (if x0 ≥ 256 then (if 0 ≤ ((x0 / 256) % 256) then (if ((x0 / 256) % 256) < 256 then (some (wrap64 ((wrap64 (x2 + 8)) + (wrap64 (bt lenT ((x0 / 256) % 256)))))) else (none)) else (none)) else (if 0 ≤ ((x0) % 256) then (if ((x0) % 256) < 256 then (some (wrap64 (x2 + (wrap64 (bt lenT ((x0) % 256)))))) else (none)) else (none)))) := by
  rw [bits_Len64.j0]; rfl
theorem len32 (x s : Nat) (hx : x < 4294967296) (hs : s ≤ 32) (k : Nat) : ∃ L : Nat, bits_Len64.j0 (k + 1) (x : Int) (s : Int) = some ((L + s : Nat) : Int) ∧ isLen x L ∧ L ≤ 32 := by
  rw [j0_eq]
  by_cases h1 : x ≥ 65536
  · rw [if_pos (by omega)]
    by_cases h2 : x / 65536 ≥ 256
    · obtain ⟨l, hl, hl8, hb⟩ := len_b (x / 65536 / 256) (by omega)
      rw [if_pos (by omega), if_pos (by omega), if_pos (by omega), show (x : Int) / 65536 / 256 = ((x / 65536 / 256 : Nat) : Int) by omega, hb]
      exact ⟨l + 24, congrArg some (by unfold wrap64; omega), isLen_up (by rw [show x / 2 ^ 24 = x / 65536 / 256 by omega]; exact hl) (by omega), by omega⟩
    · obtain ⟨l, hl, hl8, hb⟩ := len_b (x / 65536) (by omega)
      rw [if_neg (by omega), if_pos (by omega), if_pos (by omega), show (x : Int) / 65536 = ((x / 65536 : Nat) : Int) by omega, hb]
      exact ⟨l + 16, congrArg some (by unfold wrap64; omega), isLen_up (by rw [show x / 2 ^ 16 = x / 65536 by omega]; exact hl) (by omega), by omega⟩
  · rw [if_neg (by omega)]
    by_cases h2 : x ≥ 256
    · obtain ⟨l, hl, hl8, hb⟩ := len_b (x / 256) (by omega)
      rw [if_pos (by omega), if_pos (by omega), if_pos (by omega), show (x : Int) / 256 = ((x / 256 : Nat) : Int) by omega, hb]
      exact ⟨l + 8, congrArg some (by unfold wrap64; omega), isLen_up (by rw [show x / 2 ^ 8 = x / 256 by omega]; exact hl) (by omega), by omega⟩
    · obtain ⟨l, hl, hl8, hb⟩ := len_b x (by omega)
      rw [if_neg (by omega), if_pos (by omega), if_pos (by omega), hb]
      exact ⟨l, congrArg some (by unfold wrap64; omega), hl, by omega⟩
theorem len64 (y : Nat) (hy : y < 18446744073709551616) (k : Nat) (hk : 0 < k) : ∃ L : Nat, bits_Len64.f k (y : Int) = some (L : Int) ∧ isLen y L ∧ L ≤ 64 := by
  obtain ⟨k, rfl⟩ : ∃ m, k = m + 1 := ⟨k - 1, by omega⟩
  unfold bits_Len64.f
  by_cases h : y ≥ 4294967296
  · obtain ⟨L, h1, h2, h3⟩ := len32 (y / 4294967296) 32 (by omega) (by decide) k
    rw [if_pos (by omega), show (y : Int) / 4294967296 = ((y / 4294967296 : Nat) : Int) by omega]
    exact ⟨L + 32, h1, isLen_up (by rw [show y / 2 ^ 32 = y / 4294967296 by omega]; exact h2) (by omega), by omega⟩
  · obtain ⟨L, h1, h2, h3⟩ := len32 y 0 (by omega) (by decide) k
    rw [if_neg (by omega)]
    exact ⟨L, h1, h2, by omega⟩
theorem lead64 (y : Nat) (hy : y < 18446744073709551616) (k : Nat) (hk : 0 < k) : ∃ L : Nat, bits_LeadingZeros64.f k (y : Int) = some (64 - (L : Int)) ∧ isLen y L ∧ L ≤ 64 := by
  obtain ⟨L, h1, h2, h3⟩ := len64 y hy k hk
  refine ⟨L, ?_, h2, h3⟩
  unfold bits_LeadingZeros64.f
  refine bindI h1 ?_
  congr 1; unfold wrap64; omega
theorem ref_lead (a : Int) (n : Nat) : n ≤ 64 → (of a).toNat < 2 ^ n → ∀ k, n < k → ∃ L : Nat, scarabref02_one.l1 k a (64 - (n : Int)) ((n : Int) - 1) = some (64 - (L : Int)) ∧ isLen (of a).toNat L := by
  induction n with
  | zero =>
    intro _ hy k hk
    obtain ⟨k, rfl⟩ : ∃ m, k = m + 1 := ⟨k - 1, by omega⟩
    rw [scarabref02_one.l1, if_neg (by decide)]
    exact ⟨0, rfl, hy, fun h => absurd rfl h⟩
  | succ n ih =>
    intro hn hy k hk
    obtain ⟨k, rfl⟩ : ∃ m, k = m + 1 := ⟨k - 1, by omega⟩
    rw [scarabref02_one.l1, if_pos (by omega), show (((n + 1 : Nat) : Int) - 1) = (n : Int) by omega]
    have hb := bit_b a n (by omega)
    rw [b2i_n] at hb
    have hlt : (of a).toNat / 2 ^ n < 2 := by
      rw [Nat.div_lt_iff_lt_mul (Nat.pow_pos (by decide)), Nat.mul_comm, ← Nat.pow_succ]; exact hy
    by_cases h : (of a).toNat / 2 ^ n = 0
    · have hy' : (of a).toNat < 2 ^ n := by
        have := Nat.pow_pos (n := n) (show 0 < 2 by decide)
        rcases Nat.div_eq_zero_iff.mp h with e | e <;> omega
      obtain ⟨L, h1, h2⟩ := ih (by omega) hy' k (by omega)
      refine ⟨L, ?_, h2⟩
      refine bindI hb ?_
      rw [h, if_pos (show ((0 % 2 : Nat) : Int) = 0 from rfl), show wrap64 (64 - ((n + 1 : Nat) : Int) + 1) = 64 - (n : Int) by unfold wrap64; omega, show wrap64 ((n : Int) - 1) = (n : Int) - 1 by unfold wrap64; omega]
      exact h1
    · refine ⟨n + 1, ?_, hy, fun _ => ?_⟩
      · refine bindI hb ?_
        rw [show (of a).toNat / 2 ^ n = 1 from Nat.le_antisymm (Nat.lt_succ_iff.mp hlt) (Nat.pos_of_ne_zero h), if_neg (by decide)]
      · have := (Nat.le_div_iff_mul_le (Nat.pow_pos (n := n) (show 0 < 2 by decide))).mp (show 1 ≤ (of a).toNat / 2 ^ n from Nat.pos_of_ne_zero h)
        rw [Nat.add_sub_cancel]; omega

/- How many noughts stand at the end. -/
theorem ref_trail (a : Int) (d : Nat) : ∀ (j : Nat), j + d = 64 → ∀ k, d < k → scarabref02_one.l2 k a (j : Int) (j : Int) = some ((j + Lib.ctzFrom d ((of a).toNat / 2 ^ j) : Nat) : Int) := by
  induction d with
  | zero =>
    intro j hj k hk
    obtain ⟨k, rfl⟩ : ∃ m, k = m + 1 := ⟨k - 1, by omega⟩
    rw [scarabref02_one.l2, if_neg (by omega)]; rfl
  | succ d ih =>
    intro j hj k hk
    obtain ⟨k, rfl⟩ : ∃ m, k = m + 1 := ⟨k - 1, by omega⟩
    rw [scarabref02_one.l2, if_pos (by omega)]
    have hb := bit_b a j (by omega)
    rw [b2i_n] at hb
    refine bindI hb ?_
    have e := ih (j + 1) (by omega) k (by omega)
    simp only [Lib.ctzFrom]
    by_cases h : (of a).toNat / 2 ^ j % 2 = 1
    · rw [if_pos h, h, if_neg (by decide)]; rfl
    · rw [if_neg h, show (of a).toNat / 2 ^ j % 2 = 0 by omega, if_pos (show ((0 : Nat) : Int) = 0 from rfl), show wrap64 ((j : Int) + 1) = ((j + 1 : Nat) : Int) by unfold wrap64; omega, e, Nat.div_div_eq_div_mul, Nat.pow_succ]
      congr 2; omega
theorem ctz_eq (y : Nat) : Lib.ctz 64 y = Lib.ctzFrom 64 y := by
  unfold Lib.ctz
  by_cases h : y = 0
  · subst h; rfl
  · rw [if_neg h]

/- A word turned about. -/
def flipw (x : W) : W := upto (fun i => x.getLsbD (63 - i)) 64
theorem flipw_bit (x : W) (i : Nat) (hi : i < 64) : (flipw x).getLsbD i = x.getLsbD (63 - i) := by
  unfold flipw; rw [upto_bit _ _ _ hi]; simp [hi]
def down (v : Nat → Bool) : Nat → W
  | 0 => 0#64
  | j + 1 => down v j ||| (if v (63 - j) then 1#64 <<< (63 - j) else 0#64)
theorem down_bit (v : Nat → Bool) (j : Nat) : j ≤ 64 → ∀ i, i < 64 → (down v j).getLsbD i = (decide (64 - j ≤ i) && v i) := by
  induction j with
  | zero => intro _ i hi; simp [down]; omega
  | succ j ih =>
    intro hj i hi
    simp only [down]
    rw [BitVec.getLsbD_or, ih (by omega) i hi]
    by_cases h : i = 63 - j
    · subst h
      rw [decide_eq_false (show ¬ 64 - j ≤ 63 - j by omega), decide_eq_true (show 64 - (j + 1) ≤ 63 - j by omega)]
      cases hv : v (63 - j)
      · simp
      · rw [if_pos rfl, one_shl _ _ hi]; simp
    · have e : (if v (63 - j) = true then 1#64 <<< (63 - j) else 0#64).getLsbD i = false := by
        cases hv : v (63 - j)
        · simp
        · rw [if_pos rfl, one_shl _ _ hi]; simp [h]
      rw [e, Bool.or_false]
      congr 1
      rw [decide_eq_decide]; omega
theorem flip_loop (a : Int) (d : Nat) : ∀ (j : Nat), j + d = 64 → ∀ k, d < k →
    word_flip.l0 k a ((down (fun i => (of a).getLsbD (63 - i)) j).toNat : Int) (j : Int) = some (flipw (of a)).toInt := by
  induction d with
  | zero =>
    intro j hj k hk
    obtain ⟨k, rfl⟩ : ∃ m, k = m + 1 := ⟨k - 1, by omega⟩
    obtain rfl : j = 64 := by omega
    rw [word_flip.l0, if_neg (by decide), wrap64_of, of_toNat]
    have : down (fun i => (of a).getLsbD (63 - i)) 64 = flipw (of a) := by
      apply BitVec.eq_of_getLsbD_eq
      intro i hi
      rw [down_bit _ _ (by decide) i hi, flipw_bit _ _ hi]; simp
    rw [this]
  | succ d ih =>
    intro j hj k hk
    obtain ⟨k, rfl⟩ : ∃ m, k = m + 1 := ⟨k - 1, by omega⟩
    have w1 : wrap64 (63 - (j : Int)) = ((63 - j : Nat) : Int) := by unfold wrap64; omega
    rw [word_flip.l0, if_pos (by omega), if_pos (by omega), w1, if_pos (by omega), show wrap64 ((j : Int) + 1) = ((j + 1 : Nat) : Int) by unfold wrap64; omega]
    have hb : Go.bits .and .u64 (shr .u64 (IntKind.u64.wrap a) (j : Int)) 1 = b2i ((of a).getLsbD j) := by
      rw [u64_of, shr_u, and1_u, Int.toNat_natCast, BitVec.toNat_ushiftRight, Nat.shiftRight_eq_div_pow, b2i_n]; omega
    rw [hb]
    have hs : shl .u64 (b2i ((of a).getLsbD j)) ((63 - j : Nat) : Int) = (((if (of a).getLsbD j then 1#64 <<< (63 - j) else 0#64)).toNat : Int) := by
      rw [shl_u, Int.toNat_natCast]
      cases (of a).getLsbD j
      · simp [b2i, of]
      · rfl
    rw [hs, or_u, of_toNat, of_toNat]
    have e := ih (j + 1) (by omega) k (by omega)
    simp only [down, show 63 - (63 - j) = j by omega] at e
    exact e
theorem ref_flip (a : Int) (d : Nat) : ∀ (j : Nat), j + d = 64 → ∀ k, d < k →
    scarabref02_one.l3 k a (upto (fun i => (of a).getLsbD (63 - i)) j).toInt (j : Int) = some (flipw (of a)).toInt := by
  induction d with
  | zero =>
    intro j hj k hk
    obtain ⟨k, rfl⟩ : ∃ m, k = m + 1 := ⟨k - 1, by omega⟩
    obtain rfl : j = 64 := by omega
    rw [scarabref02_one.l3, if_neg (by decide)]; rfl
  | succ d ih =>
    intro j hj k hk
    obtain ⟨k, rfl⟩ : ∃ m, k = m + 1 := ⟨k - 1, by omega⟩
    rw [scarabref02_one.l3, if_pos (by omega), show wrap64 (63 - (j : Int)) = ((63 - j : Nat) : Int) by unfold wrap64; omega, show wrap64 ((j : Int) + 1) = ((j + 1 : Nat) : Int) by unfold wrap64; omega]
    refine bindI (bit_b a (63 - j) (by omega)) (bindI (put_b _ j (by omega) _) ?_)
    have e := ih (j + 1) (by omega) k (by omega)
    simp only [upto] at e
    exact e

/-- What each operation on one word comes to. -/
def isOne (op a r : Int) : Prop := (op = 1 → r = wrap64 (-a)) ∧ (op = 2 → r = (~~~ of a).toInt) ∧ (op = 3 → r = if a < 0 then wrap64 (-a) else a) ∧ (op = 4 → r = ((pop 64 (of a).toNat : Nat) : Int)) ∧
  (op = 5 → ∃ L : Nat, r = 64 - (L : Int) ∧ isLen (of a).toNat L) ∧ (op = 6 → r = ((Lib.ctzFrom 64 (of a).toNat : Nat) : Int)) ∧ (op = 7 → r = (flipw (of a)).toInt) ∧ (op = 8 → r = if a = 0 then 0 else 1) ∧ (op = 9 → r = if a = 0 then 1 else 0) ∧ (10 ≤ op → r = conv op a)
theorem isOne_one {op a r s : Int} (h0 : 1 ≤ op) (h : isOne op a r) (h2 : isOne op a s) : r = s := by
  obtain ⟨a1, a2, a3, a4, a5, a6, a7, a8, a9, a10⟩ := h
  obtain ⟨b1, b2, b3, b4, b5, b6, b7, b8, b9, b10⟩ := h2
  by_cases e : op = 1
  · rw [a1 e, b1 e]
  by_cases e : op = 2
  · rw [a2 e, b2 e]
  by_cases e : op = 3
  · rw [a3 e, b3 e]
  by_cases e : op = 4
  · rw [a4 e, b4 e]
  by_cases e : op = 5
  · obtain ⟨L, h1, h2⟩ := a5 e
    obtain ⟨M, h3, h4⟩ := b5 e
    rw [h1, h3, isLen_one h2 h4]
  by_cases e : op = 6
  · rw [a6 e, b6 e]
  by_cases e : op = 7
  · rw [a7 e, b7 e]
  by_cases e : op = 8
  · rw [a8 e, b8 e]
  by_cases e : op = 9
  · rw [a9 e, b9 e]
  rw [a10 (by omega), b10 (by omega)]
theorem not_i (a : Int) (ha : -9223372036854775808 ≤ a ∧ a < 9223372036854775808) : (~~~ of a).toInt = -1 - a := by
  have e : ~~~ of a = of (-1 - a) := by
    rw [of_sub, show of (-1) = BitVec.allOnes 64 from rfl, BitVec.allOnes_sub_eq_not]
  rw [e, toInt_of (by omega) (by omega)]
theorem word_one_val (op a : Int) (ha : -9223372036854775808 ≤ a ∧ a < 9223372036854775808) (h0 : 1 ≤ op) (h1 : op ≤ 15) (k : Nat) (hk : 64 < k) : ∃ r, word_one.f k op a = some r ∧ isOne op a r := by
  by_cases h : 10 ≤ op
  · refine ⟨_, one_conv op a h h1 k, ?_⟩
    unfold isOne
    refine ⟨?_, ?_, ?_, ?_, ?_, ?_, ?_, ?_, ?_, fun _ => rfl⟩ <;> intro e <;> exact absurd e (by omega)
  unfold word_one.f
  have hcase : op = 1 ∨ op = 2 ∨ op = 3 ∨ op = 4 ∨ op = 5 ∨ op = 6 ∨ op = 7 ∨ op = 8 ∨ op = 9 := by omega
  rcases hcase with rfl | rfl | rfl | rfl | rfl | rfl | rfl | rfl | rfl
  · refine ⟨_, rfl, ?_⟩
    simp [isOne]
  · refine ⟨_, rfl, ?_⟩
    have : Go.bits .xor .i64 (-1) a = (~~~ of a).toInt := by
      rw [xor_i, show of (-1) = BitVec.allOnes 64 from rfl, BitVec.allOnes_xor]
    simp [isOne, this]
  · by_cases h2 : a ≥ 0
    · refine ⟨a, by rw [if_pos rfl, if_pos h2], ?_⟩
      simp [isOne]; intro; omega
    · refine ⟨wrap64 (-a), by rw [if_pos rfl, if_neg h2], ?_⟩
      simp [isOne]; intro; omega
  · refine ⟨((pop 64 (of a).toNat : Nat) : Int), ?_, ?_⟩
    · rw [if_neg (by decide), if_neg (by decide), if_neg (by decide), if_pos rfl, u64_of]
      exact bindI (pops _ (of a).isLt) rfl
    · simp [isOne]
  · obtain ⟨L, h2, h3, h4⟩ := lead64 (of a).toNat (of a).isLt k (by omega)
    refine ⟨64 - (L : Int), ?_, ?_⟩
    · rw [if_neg (by decide), if_neg (by decide), if_neg (by decide), if_neg (by decide), if_pos rfl, u64_of]
      exact bindI h2 rfl
    · simp [isOne]; exact ⟨L, rfl, h3⟩
  · refine ⟨((Lib.ctzFrom 64 (of a).toNat : Nat) : Int), ?_, ?_⟩
    · rw [if_neg (by decide), if_neg (by decide), if_neg (by decide), if_neg (by decide), if_neg (by decide), if_pos rfl, u64_of]
      refine bindI (x := ((Lib.ctzFrom 64 (of a).toNat : Nat) : Int)) ?_ rfl
      have := (of a).isLt
      unfold bits_TrailingZeros64.f
      rw [if_pos (by omega), if_pos (by omega), ctz_eq, Int.toNat_natCast]
    · simp [isOne]
  · refine ⟨(flipw (of a)).toInt, ?_, ?_⟩
    · rw [if_neg (by decide), if_neg (by decide), if_neg (by decide), if_neg (by decide), if_neg (by decide), if_neg (by decide), if_pos rfl]
      exact bindI (flip_loop a 64 0 rfl k (by omega)) rfl
    · simp [isOne]
  · refine ⟨if a = 0 then 0 else 1, ?_, ?_⟩
    · rw [if_neg (by decide), if_neg (by decide), if_neg (by decide), if_neg (by decide), if_neg (by decide), if_neg (by decide), if_neg (by decide), if_pos rfl]
      refine bindI ?_ rfl
      unfold word_yes.f
      by_cases e : a = 0
      · subst e; rfl
      · rw [if_pos (by simpa using e), if_neg e]
    · simp [isOne]
  · refine ⟨if a = 0 then 1 else 0, ?_, ?_⟩
    · rw [if_neg (by decide), if_neg (by decide), if_neg (by decide), if_neg (by decide), if_neg (by decide), if_neg (by decide), if_neg (by decide), if_neg (by decide), if_pos rfl]
      refine bindI ?_ rfl
      unfold word_yes.f
      by_cases e : a = 0
      · subst e; rfl
      · rw [if_neg (by simpa using e), if_neg e]
    · simp [isOne]
theorem ref_one_val (op a : Int) (ha : -9223372036854775808 ≤ a ∧ a < 9223372036854775808) (h0 : 1 ≤ op) (h1 : op ≤ 15) (k : Nat) (hk : 64 < k) : ∃ r, scarabref02_one.f k op a = some r ∧ isOne op a r := by
  by_cases h : 10 ≤ op
  · refine ⟨_, ref_conv op a h h1 k hk, ?_⟩
    unfold isOne
    refine ⟨?_, ?_, ?_, ?_, ?_, ?_, ?_, ?_, ?_, fun _ => rfl⟩ <;> intro e <;> exact absurd e (by omega)
  unfold scarabref02_one.f
  have hcase : op = 1 ∨ op = 2 ∨ op = 3 ∨ op = 4 ∨ op = 5 ∨ op = 6 ∨ op = 7 ∨ op = 8 ∨ op = 9 := by omega
  rcases hcase with rfl | rfl | rfl | rfl | rfl | rfl | rfl | rfl | rfl
  · refine ⟨_, rfl, ?_⟩
    simp [isOne]
  · refine ⟨_, rfl, ?_⟩
    have : wrap64 (-1 - a) = (~~~ of a).toInt := by
      rw [not_i a ha]; unfold wrap64; omega
    simp [isOne, this]
  · by_cases h2 : a < 0
    · refine ⟨wrap64 (-a), by rw [if_neg (by decide), if_neg (by decide), if_pos rfl, if_pos h2], ?_⟩
      simp [isOne]; intro; omega
    · refine ⟨a, by rw [if_neg (by decide), if_neg (by decide), if_pos rfl, if_neg h2], ?_⟩
      simp [isOne]; intro; omega
  · refine ⟨((pop 64 (of a).toNat : Nat) : Int), ?_, ?_⟩
    · rw [if_neg (by decide), if_neg (by decide), if_neg (by decide), if_pos rfl]
      have := ref_pop a 64 0 rfl k hk 0 (by decide)
      rw [Nat.pow_zero, Nat.div_one, Nat.zero_add] at this
      exact this
    · simp [isOne]
  · obtain ⟨L, h2, h3⟩ := ref_lead a 64 (by decide) (of a).isLt k hk
    refine ⟨64 - (L : Int), ?_, ?_⟩
    · rw [if_neg (by decide), if_neg (by decide), if_neg (by decide), if_neg (by decide), if_pos rfl]
      exact h2
    · simp [isOne]; exact ⟨L, rfl, h3⟩
  · refine ⟨((Lib.ctzFrom 64 (of a).toNat : Nat) : Int), ?_, ?_⟩
    · rw [if_neg (by decide), if_neg (by decide), if_neg (by decide), if_neg (by decide), if_neg (by decide), if_pos rfl]
      have := ref_trail a 64 0 rfl k hk
      rw [Nat.pow_zero, Nat.div_one, Nat.zero_add] at this
      exact this
    · simp [isOne]
  · refine ⟨(flipw (of a)).toInt, ?_, ?_⟩
    · rw [if_neg (by decide), if_neg (by decide), if_neg (by decide), if_neg (by decide), if_neg (by decide), if_neg (by decide), if_pos rfl]
      exact ref_flip a 64 0 rfl k hk
    · simp [isOne]
  · refine ⟨if a = 0 then 0 else 1, ?_, ?_⟩
    · rw [if_neg (by decide), if_neg (by decide), if_neg (by decide), if_neg (by decide), if_neg (by decide), if_neg (by decide), if_neg (by decide), if_pos rfl]
      refine bindI ?_ rfl
      unfold scarabref02_yes.f
      by_cases e : a = 0
      · subst e; rfl
      · rw [if_pos (by simpa using e), if_neg e]
    · simp [isOne]
  · refine ⟨if a = 0 then 1 else 0, ?_, ?_⟩
    · rw [if_neg (by decide), if_neg (by decide), if_neg (by decide), if_neg (by decide), if_neg (by decide), if_neg (by decide), if_neg (by decide), if_neg (by decide), if_pos rfl]
      refine bindI ?_ rfl
      unfold scarabref02_yes.f
      by_cases e : a = 0
      · subst e; rfl
      · rw [if_neg (by simpa using e), if_neg e]
    · simp [isOne]
end Go.Proofs.YtckfnbjjghdaoaaDoor.Ones
