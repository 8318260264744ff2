/- The sum of bytes as the reference reckons it: the same register. -/
import Derived.Test.YtkolpnilgpmoiaaZCrc
import Derived.Test.YtkolpnilgpmoiaaZ1
namespace Go.Proofs.Ytkolpnilgpmoiaa.Crc
open Go.RowKit Go.Proofs.Ytkolpnilgpmoiaa.Z Go.Proofs.YtkolpnilgpmoiaaW.PrintWords Go.Proofs.Ytkolpnilgpmoiaa.Bits Go.Proofs.Ytkolpnilgpmoiaa.Codec

theorem low_bit (s : R) : s.getLsbD 0 = decide (Int.tmod (s.toNat : Int) 2 = 1) := by
  rw [← BitVec.testBit_toNat, Nat.testBit_zero, Bool.eq_iff_iff]
  simp only [decide_eq_true_eq]
  rw [Int.tmod_eq_emod_of_nonneg (by omega)]
  omega
theorem half_val (s : R) : ((Int.tdiv (s.toNat : Int) 2) % (4294967296 : Int) : Int) = ((s >>> 1).toNat : Int) := by
  rw [Int.tdiv_eq_ediv_of_nonneg (by omega)]
  have := s.isLt
  rw [BitVec.toNat_ushiftRight, Nat.shiftRight_eq_div_pow]
  omega
theorem step_odd (s : R) (h : Int.tmod (s.toNat : Int) 2 = 1) : Go.bits .xor .u32 ((Int.tdiv (s.toNat : Int) 2) % 4294967296) 3988292384 = ((st s).toNat : Int) := by
  rw [half_val, xor32, o32_nat, st_def, low_bit, decide_eq_true h, if_pos rfl]
  rfl
theorem step_even (s : R) (h : ¬ Int.tmod (s.toNat : Int) 2 = 1) : ((Int.tdiv (s.toNat : Int) 2) % (4294967296 : Int) : Int) = ((st s).toNat : Int) := by
  rw [half_val, st_def, low_bit, decide_eq_false h, if_neg (by decide), BitVec.xor_zero]
theorem ref_inner (l : List Int) (i : Int) (d : Nat) : ∀ (j : Nat) (s : R) (k : Nat), j + d = 8 → scarabref01_Sum.l1 (k + d + 1) l (s.toNat : Int) i (j : Int) = scarabref01_Sum.l0 k l ((sts d s).toNat : Int) (wrap64 (i + 1)) := by
  induction d with
  | zero =>
    intro j s k hj
    rw [scarabref01_Sum.l1, if_neg (by omega)]
    rfl
  | succ d ih =>
    intro j s k hj
    have e := ih (j + 1) (st s) k (by omega)
    rw [show k + (d + 1) + 1 = (k + d + 1) + 1 by omega, scarabref01_Sum.l1, if_pos (by omega)]
    by_cases h : Int.tmod (s.toNat : Int) 2 = 1
    · rw [if_pos h, step_odd s h, show wrap64 ((j : Int) + 1) = ((j + 1 : Nat) : Int) by unfold wrap64; omega]
      exact e
    · rw [if_neg h, step_even s h, show wrap64 ((j : Int) + 1) = ((j + 1 : Nat) : Int) by unfold wrap64; omega]
      exact e
theorem ref_outer (l : List Int) (hl : l.length ≤ 140737488351300) (d : Nat) : ∀ (i : Nat) (k : Nat), i + d = l.length → 10 * d < k →
    scarabref01_Sum.l0 k l ((reg (byt l) (BitVec.allOnes 32) i).toNat : Int) (i : Int) = some (((~~~reg (byt l) (BitVec.allOnes 32) l.length).toNat : Nat) : Int) := by
  induction d with
  | zero =>
    intro i k hi hk
    obtain ⟨k, rfl⟩ : ∃ m, k = m + 1 := ⟨k - 1, by omega⟩
    have : i = l.length := by omega
    subst this
    rw [scarabref01_Sum.l0, if_neg (by omega), BitVec.toNat_not]
    have := (reg (byt l) (BitVec.allOnes 32) l.length).isLt
    congr 1
    omega
  | succ d ih =>
    intro i k hi hk
    obtain ⟨k, rfl⟩ : ∃ m, k = (m + 8 + 1) + 1 := ⟨k - 10, by omega⟩
    rw [scarabref01_Sum.l0, if_pos (by omega), if_pos (by omega), xor32, o32_nat, o32_mod]
    have := ref_inner l (i : Int) 8 0 (reg (byt l) (BitVec.allOnes 32) i ^^^ o32 (rd l (i : Int))) k rfl
    rw [show ((0 : Nat) : Int) = 0 from rfl] at this
    rw [this, show wrap64 ((i : Int) + 1) = ((i + 1 : Nat) : Int) by unfold wrap64; omega]
    exact ih (i + 1) k (by omega) (by omega)
theorem ref_sum_val (l : List Int) (hl : l.length ≤ 140737488351300) (k : Nat) (hk : 10 * l.length < k) : scarabref01_Sum.f k l = some (((~~~reg (byt l) (BitVec.allOnes 32) l.length).toNat : Nat) : Int) := by
  have := ref_outer l hl l.length 0 k (by omega) hk
  unfold scarabref01_Sum.f
  exact this
theorem sum_eq (l : List Int) (hl : l.length ≤ 140737488351300) (k : Nat) (hk : 10 * l.length < k) : octet_Sum.f k l = scarabref01_Sum.f k l := (sum_val l hl k hk).trans (ref_sum_val l hl k hk).symm
end Go.Proofs.Ytkolpnilgpmoiaa.Crc
