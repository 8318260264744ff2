/- How many bits a number takes, and how many noughts stand at its front: what the library's table comes to. -/
import Derived.Test.YtckfnbjjghdaoaaDoorBits
import Derived.Test.YtckfnbjjghdaoaaDoorQ1
namespace Go.Proofs.YtckfnbjjghdaoaaDoor.Len
open Go.RowKit Go.Proofs.YtckfnbjjghdaoaaDoor.Q Go.Proofs.YtckfnbjjghdaoaaDoorW.PrintWords Go.Proofs.YtckfnbjjghdaoaaDoor.Bits

/- How many bits a number takes. -/
def isLen (y L : Nat) : Prop := y < 2 ^ L ∧ (L ≠ 0 → 2 ^ (L - 1) ≤ y)
instance (y L : Nat) : Decidable (isLen y L) := by unfold isLen; exact inferInstance
theorem isLen_one {y L M : Nat} (h : isLen y L) (h2 : isLen y M) : L = M := by
  obtain ⟨a, b⟩ := h
  obtain ⟨c, d⟩ := h2
  by_cases e : L < M
  · have h1 := d (by omega)
    have h2 : 2 ^ L ≤ 2 ^ (M - 1) := Nat.pow_le_pow_right (by decide) (by omega)
    omega
  · by_cases e2 : M < L
    · have h1 := b (by omega)
      have h2 : 2 ^ M ≤ 2 ^ (L - 1) := Nat.pow_le_pow_right (by decide) (by omega)
      omega
    · omega
theorem isLen_up {x s l : Nat} (h : isLen (x / 2 ^ s) l) (h1 : 1 ≤ x / 2 ^ s) : isLen x (l + s) := by
  obtain ⟨a, b⟩ := h
  have hp : 0 < 2 ^ s := Nat.pow_pos (by decide)
  have hl : l ≠ 0 := by intro e; subst e; rw [Nat.pow_zero] at a; omega
  refine ⟨?_, fun _ => ?_⟩
  · rw [Nat.pow_add]; exact (Nat.div_lt_iff_lt_mul hp).mp a
  · rw [show l + s - 1 = (l - 1) + s by omega, Nat.pow_add]
    exact (Nat.le_div_iff_mul_le hp).mp (b hl)
theorem isLen_le {y L n : Nat} (h : isLen y L) (hy : y < 2 ^ n) : L ≤ n := by
  by_cases e : L ≤ n
  · exact e
  · have h1 := h.2 (by omega)
    have h2 : 2 ^ n ≤ 2 ^ (L - 1) := Nat.pow_le_pow_right (by decide) (by omega)
    omega
def lenT : ByteArray := ⟨#[0, 1, 2, 2, 3, 3, 3, 3, 4, 4, 4, 4, 4, 4, 4, 4, 5, 5, 5, 5, 5, 5, 5, 5, 5, 5, 5, 5, 5, 5, 5, 5, 6, 6, 6, 6, 6, 6, 6, 6, 6, 6, 6, 6, 6, 6, 6, 6, 6, 6, 6, 6, 6, 6, 6, 6, 6, 6, 6, 6, 6, 6, 6, 6, 7, 7, 7, 7, 7, 7, 7, 7, 7, 7, 7, 7, 7, 7, 7, 7, 7, 7, 7, 7, 7, 7, 7, 7, 7, 7, 7, 7, 7, 7, 7, 7, 7, 7, 7, 7, 7, 7, 7, 7, 7, 7, 7, 7, 7, 7, 7, 7, 7, 7, 7, 7, 7, 7, 7, 7, 7, 7, 7, 7, 7, 7, 7, 7, 8, 8, 8, 8, 8, 8, 8, 8, 8, 8, 8, 8, 8, 8, 8, 8, 8, 8, 8, 8, 8, 8, 8, 8, 8, 8, 8, 8, 8, 8, 8, 8, 8, 8, 8, 8, 8, 8, 8, 8, 8, 8, 8, 8, 8, 8, 8, 8, 8, 8, 8, 8, 8, 8, 8, 8, 8, 8, 8, 8, 8, 8, 8, 8, 8, 8, 8, 8, 8, 8, 8, 8, 8, 8, 8, 8, 8, 8, 8, 8, 8, 8, 8, 8, 8, 8, 8, 8, 8, 8, 8, 8, 8, 8, 8, 8, 8, 8, 8, 8, 8, 8, 8, 8, 8, 8, 8, 8, 8, 8, 8, 8, 8, 8, 8, 8, 8, 8, 8, 8, 8, 8, 8, 8, 8, 8, 8, 8]⟩
theorem lenT_ok : ∀ b : Fin 256, isLen b.val (bt lenT (b.val : Int)).toNat ∧ 0 ≤ bt lenT (b.val : Int) ∧ bt lenT (b.val : Int) ≤ 8 := by decide +kernel
theorem len_b (x : Nat) (hx : x < 256) : ∃ l : Nat, isLen x l ∧ l ≤ 8 ∧ bt lenT ((x : Int) % 256) = (l : Int) := by
  obtain ⟨h1, h2, h3⟩ := lenT_ok ⟨x, hx⟩
  simp only at h1 h2 h3
  refine ⟨_, h1, by omega, ?_⟩
  rw [show (x : Int) % 256 = (x : Int) by omega]; omega
theorem j0_eq (k : Nat) (x0 x2 : Int) : bits_Len64.j0 (k + 1) x0 x2 = (if x0 ≥ 65536 then (if (x0 / 65536) ≥ 256 then (if 0 ≤ (((x0 / 65536) / 256) % 256) then (if (((x0 / 65536) / 256) % 256) < 256 then (some (wrap64 ((wrap64 ((wrap64 (x2 + 16)) + 8)) + (wrap64 (bt lenT (((x0 / 65536) / 256) % 256)))))) else (none)) else (none)) else (if 0 ≤ ((x0 / 65536) % 256) then (if ((x0 / 65536) % 256) < 256 then (some (wrap64 ((wrap64 (x2 + 16)) + (wrap64 (bt lenT ((x0 / 65536) % 256)))))) else (none)) else (none))) else (if x0 ≥ 256 then (if 0 ≤ ((x0 / 256) % 256) then (if ((x0 / 256) % 256) < 256 then (some (wrap64 ((wrap64 (x2 + 8)) + (wrap64 (bt lenT ((x0 / 256) % 256)))))) else (none)) else (none)) else (if 0 ≤ ((x0) % 256) then (if ((x0) % 256) < 256 then (some (wrap64 (x2 + (wrap64 (bt lenT ((x0) % 256)))))) else (none)) else (none)))) := by
  rw [bits_Len64.j0]; rfl
theorem len32 (x s : Nat) (hx : x < 4294967296) (hs : s ≤ 32) (k : Nat) : ∃ L : Nat, bits_Len64.j0 (k + 1) (x : Int) (s : Int) = some ((L + s : Nat) : Int) ∧ isLen x L ∧ L ≤ 32 := by
  rw [j0_eq]
  by_cases h1 : x ≥ 65536
  · rw [if_pos (by omega)]
    by_cases h2 : x / 65536 ≥ 256
    · obtain ⟨l, hl, hl8, hb⟩ := len_b (x / 65536 / 256) (by omega)
      rw [if_pos (by omega), if_pos (by omega), if_pos (by omega), show (x : Int) / 65536 / 256 = ((x / 65536 / 256 : Nat) : Int) by omega, hb]
      exact ⟨l + 24, congrArg some (by unfold wrap64; omega), isLen_up (by rw [show x / 2 ^ 24 = x / 65536 / 256 by omega]; exact hl) (by omega), by omega⟩
    · obtain ⟨l, hl, hl8, hb⟩ := len_b (x / 65536) (by omega)
      rw [if_neg (by omega), if_pos (by omega), if_pos (by omega), show (x : Int) / 65536 = ((x / 65536 : Nat) : Int) by omega, hb]
      exact ⟨l + 16, congrArg some (by unfold wrap64; omega), isLen_up (by rw [show x / 2 ^ 16 = x / 65536 by omega]; exact hl) (by omega), by omega⟩
  · rw [if_neg (by omega)]
    by_cases h2 : x ≥ 256
    · obtain ⟨l, hl, hl8, hb⟩ := len_b (x / 256) (by omega)
      rw [if_pos (by omega), if_pos (by omega), if_pos (by omega), show (x : Int) / 256 = ((x / 256 : Nat) : Int) by omega, hb]
      exact ⟨l + 8, congrArg some (by unfold wrap64; omega), isLen_up (by rw [show x / 2 ^ 8 = x / 256 by omega]; exact hl) (by omega), by omega⟩
    · obtain ⟨l, hl, hl8, hb⟩ := len_b x (by omega)
      rw [if_neg (by omega), if_pos (by omega), if_pos (by omega), hb]
      exact ⟨l, congrArg some (by unfold wrap64; omega), hl, by omega⟩
theorem len64 (y : Nat) (hy : y < 18446744073709551616) (k : Nat) (hk : 0 < k) : ∃ L : Nat, bits_Len64.f k (y : Int) = some (L : Int) ∧ isLen y L ∧ L ≤ 64 := by
  obtain ⟨k, rfl⟩ : ∃ m, k = m + 1 := ⟨k - 1, by omega⟩
  unfold bits_Len64.f
  by_cases h : y ≥ 4294967296
  · obtain ⟨L, h1, h2, h3⟩ := len32 (y / 4294967296) 32 (by omega) (by decide) k
    rw [if_pos (by omega), show (y : Int) / 4294967296 = ((y / 4294967296 : Nat) : Int) by omega]
    exact ⟨L + 32, h1, isLen_up (by rw [show y / 2 ^ 32 = y / 4294967296 by omega]; exact h2) (by omega), by omega⟩
  · obtain ⟨L, h1, h2, h3⟩ := len32 y 0 (by omega) (by decide) k
    rw [if_neg (by omega)]
    exact ⟨L, h1, h2, by omega⟩
theorem lead64 (y : Nat) (hy : y < 18446744073709551616) (k : Nat) (hk : 0 < k) : ∃ L : Nat, bits_LeadingZeros64.f k (y : Int) = some (64 - (L : Int)) ∧ isLen y L ∧ L ≤ 64 := by
  obtain ⟨L, h1, h2, h3⟩ := len64 y hy k hk
  refine ⟨L, ?_, h2, h3⟩
  unfold bits_LeadingZeros64.f
  refine bindI h1 ?_
  congr 1; unfold wrap64; omega
end Go.Proofs.YtckfnbjjghdaoaaDoor.Len
