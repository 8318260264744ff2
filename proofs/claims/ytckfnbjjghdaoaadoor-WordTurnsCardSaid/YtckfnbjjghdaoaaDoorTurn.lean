/- How many bits are 1 in a word turned, turned about or taken from all ones; noughts at the front and at the end. -/
import Derived.Test.YtckfnbjjghdaoaaDoorTTwos
namespace Go.Proofs.YtckfnbjjghdaoaaDoor.Turn
open Go.RowKit Go.Proofs.YtckfnbjjghdaoaaDoor.T Go.Proofs.YtckfnbjjghdaoaaDoorW.PrintWords Go.Proofs.YtckfnbjjghdaoaaDoor.Bits Go.Proofs.YtckfnbjjghdaoaaDoor.Ops Go.Proofs.YtckfnbjjghdaoaaDoor.RefOps Go.Proofs.YtckfnbjjghdaoaaDoor.Pop Go.Proofs.YtckfnbjjghdaoaaDoor.Ones Go.Proofs.YtckfnbjjghdaoaaDoor.Twos
theorem pop_not (n : Nat) : ∀ y, y < 2 ^ n → pop n y + pop n (2 ^ n - 1 - y) = n := by
  induction n with
  | zero => intro y _; rfl
  | succ n ih =>
    intro y hy
    have h := ih (y / 2) (by rw [Nat.pow_succ] at hy; omega)
    simp only [pop]
    have hp : 0 < 2 ^ n := Nat.pow_pos (by decide)
    rw [Nat.pow_succ] at hy ⊢
    generalize 2 ^ n = p at *
    rw [show (p * 2 - 1 - y) / 2 = p - 1 - y / 2 by omega]
    omega
theorem pop_compl (x : W) : pop 64 x.toNat + pop 64 (~~~x).toNat = 64 := by
  rw [BitVec.toNat_not]
  exact pop_not 64 _ x.isLt
theorem pop_rot (x : W) (n : Nat) (hn : n < 64) : pop 64 (rotw x n).toNat = pop 64 x.toNat := by
  have h1 : (rotw x n).toNat / 2 ^ n = x.toNat % 2 ^ (64 - n) := by
    apply Nat.eq_of_testBit_eq
    intro i
    rw [Nat.testBit_div_two_pow, BitVec.testBit_toNat, Nat.testBit_mod_two_pow, BitVec.testBit_toNat]
    by_cases h : i + n < 64
    · rw [rotw_bit x n hn (i + n) h, show (((i + n : Nat) : Int) - (n : Int)) % 64 = (i : Int) by omega, decide_eq_true (show i < 64 - n by omega)]
      simp
    · rw [BitVec.getLsbD_of_ge _ _ (by omega), decide_eq_false (show ¬ i < 64 - n by omega)]
      simp
  have h2 : (rotw x n).toNat % 2 ^ n = x.toNat / 2 ^ (64 - n) := by
    apply Nat.eq_of_testBit_eq
    intro i
    rw [Nat.testBit_mod_two_pow, BitVec.testBit_toNat, Nat.testBit_div_two_pow, BitVec.testBit_toNat]
    by_cases h : i < n
    · rw [rotw_bit x n hn i (by omega), show (((i : Int) - (n : Int)) % 64).toNat = i + (64 - n) by omega, decide_eq_true h]
      simp
    · rw [BitVec.getLsbD_of_ge x _ (by omega), decide_eq_false h]
      simp
  have e1 := pop_add n (64 - n) (rotw x n).toNat
  have e2 := pop_add (64 - n) n x.toNat
  rw [show n + (64 - n) = 64 by omega, h1, ← pop_mod n, h2, pop_mod] at e1
  rw [show 64 - n + n = 64 by omega, ← pop_mod (64 - n)] at e2
  rw [e1, e2, pop_mod, Nat.add_comm]
theorem rot_back (x : W) (n m : Nat) (hn : n < 64) (hm : m < 64) (h : (n + m) % 64 = 0) : rotw (rotw x n) m = x := by
  apply BitVec.eq_of_getLsbD_eq
  intro i hi
  rw [rotw_bit _ m hm i hi, rotw_bit _ n hn _ (by omega)]
  congr 1; omega
theorem flip_flip (x : W) : flipw (flipw x) = x := by
  apply BitVec.eq_of_getLsbD_eq
  intro i hi
  rw [flipw_bit _ i hi, flipw_bit _ _ (by omega)]
  congr 1; omega
theorem ctz_uniq (n : Nat) : ∀ z c, c ≤ n → (∀ i, i < c → z.testBit i = false) → (c < n → z.testBit c = true) → Lib.ctzFrom n z = c := by
  induction n with
  | zero => intro z c hc _ _; simp only [Lib.ctzFrom]; omega
  | succ n ih =>
    intro z c hc h0 h1
    simp only [Lib.ctzFrom]
    by_cases h : c = 0
    · subst h
      have := h1 (by omega)
      rw [Nat.testBit_zero] at this
      rw [if_pos (by simpa using this)]
    · have := h0 0 (by omega)
      rw [Nat.testBit_zero] at this
      rw [if_neg (by simpa using this)]
      rw [ih (z / 2) (c - 1) (by omega) (fun i hi => ?_) (fun hc => ?_)]
      · omega
      · rw [Nat.testBit_div_two]; exact h0 _ (by omega)
      · rw [Nat.testBit_div_two, show c - 1 + 1 = c by omega]; exact h1 (by omega)
theorem lead_trail (x : W) (L : Nat) (h : isLen x.toNat L) : Lib.ctzFrom 64 (flipw x).toNat = 64 - L := by
  have hL : L ≤ 64 := isLen_le h x.isLt
  refine ctz_uniq 64 _ _ (by omega) (fun i hi => ?_) (fun hc => ?_)
  · rw [BitVec.testBit_toNat, flipw_bit _ _ (by omega), ← BitVec.testBit_toNat]
    exact Nat.testBit_lt_two_pow (Nat.lt_of_lt_of_le h.1 (Nat.pow_le_pow_right (by decide) (by omega)))
  · rw [BitVec.testBit_toNat, flipw_bit _ _ hc, ← BitVec.testBit_toNat, show 63 - (64 - L) = L - 1 by omega, Nat.testBit_eq_decide_div_mod_eq]
    have h1 := h.2 (by omega)
    have h2 := h.1
    have hp : 0 < 2 ^ (L - 1) := Nat.pow_pos (by decide)
    have h3 : x.toNat / 2 ^ (L - 1) = 1 := by
      apply Nat.le_antisymm
      · rw [← Nat.lt_succ_iff, Nat.div_lt_iff_lt_mul hp]
        have : 2 ^ L = 2 * 2 ^ (L - 1) := by rw [← Nat.pow_succ']; congr 1; omega
        show x.toNat < 2 * _
        omega
      · exact (Nat.le_div_iff_mul_le hp).mpr (by omega)
    rw [h3]; rfl
end Go.Proofs.YtckfnbjjghdaoaaDoor.Turn
