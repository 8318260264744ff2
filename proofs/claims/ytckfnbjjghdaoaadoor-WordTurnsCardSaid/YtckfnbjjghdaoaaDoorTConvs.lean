/- Conversions of words: both ways come to the same word. -/
import Derived.Test.YtckfnbjjghdaoaaDoorTRefOps
import Derived.Test.YtckfnbjjghdaoaaDoorT1
import Derived.Test.YtckfnbjjghdaoaaDoorT5
namespace Go.Proofs.YtckfnbjjghdaoaaDoor.RefOps
open Go.RowKit Go.Proofs.YtckfnbjjghdaoaaDoor.T Go.Proofs.YtckfnbjjghdaoaaDoorW.PrintWords Go.Proofs.YtckfnbjjghdaoaaDoor.Bits Go.Proofs.YtckfnbjjghdaoaaDoor.Ops
theorem wrap_u (a : Int) (n : Nat) (hn : n < 64) : (((of a).setWidth n).setWidth 64).toInt = a % 2 ^ n := by
  rw [← set_toNat a n (by omega), BitVec.toInt_eq_toNat_of_lt]
  · rw [BitVec.toNat_setWidth, Nat.mod_eq_of_lt]
    have := ((of a).setWidth n).isLt
    exact Nat.lt_of_lt_of_le this (Nat.pow_le_pow_right (by decide) (by omega))
  · rw [BitVec.toNat_setWidth, Nat.mod_eq_of_lt]
    · have h := ((of a).setWidth n).isLt
      have h2 : 2 ^ n ≤ 2 ^ 63 := Nat.pow_le_pow_right (by decide) (by omega)
      omega
    · have := ((of a).setWidth n).isLt
      exact Nat.lt_of_lt_of_le this (Nat.pow_le_pow_right (by decide) (by omega))
theorem one_conv (op a : Int) (h0 : 10 ≤ op) (h1 : op ≤ 15) (k : Nat) : word_one.f k op a = some (conv op a) := by
  have s8 := wrap_s a 8 (by decide) (by decide)
  have s16 := wrap_s a 16 (by decide) (by decide)
  have s32 := wrap_s a 32 (by decide) (by decide)
  have u8 := wrap_u a 8 (by decide)
  have u16 := wrap_u a 16 (by decide)
  have u32 := wrap_u a 32 (by decide)
  simp only [Int.reducePow, Nat.reduceSub] at s8 s16 s32 u8 u16 u32
  unfold word_one.f conv
  rw [if_neg (by omega), if_neg (by omega), if_neg (by omega), if_neg (by omega), if_neg (by omega), if_neg (by omega), if_neg (by omega), if_neg (by omega), if_neg (by omega)]
  by_cases e : op = 10
  · rw [if_pos e, if_pos e, s8]
    congr 1
    have : IntKind.i8.wrap a = (a + 128) % 256 - 128 := by
      simp [IntKind.wrap, IntKind.bits, IntKind.signed]; split <;> omega
    rw [this]; unfold wrap64; omega
  rw [if_neg e, if_neg e]
  by_cases e : op = 11
  · rw [if_pos e, if_pos e, s16]
    congr 1
    have : IntKind.i16.wrap a = (a + 32768) % 65536 - 32768 := by
      simp [IntKind.wrap, IntKind.bits, IntKind.signed]; split <;> omega
    rw [this]; unfold wrap64; omega
  rw [if_neg e, if_neg e]
  by_cases e : op = 12
  · rw [if_pos e, if_pos e, s32]
    congr 1
    unfold wrap64 wrap32; omega
  rw [if_neg e, if_neg e]
  by_cases e : op = 13
  · rw [if_pos e, if_pos e, u8]
  rw [if_neg e, if_neg e]
  by_cases e : op = 14
  · rw [if_pos e, if_pos e, u16]
    congr 1
    have : IntKind.u16.wrap a = a % 65536 := by
      simp [IntKind.wrap, IntKind.bits, IntKind.signed]
    rw [this]; unfold wrap64; omega
  rw [if_neg e, if_neg e, u32]
theorem ref_conv (op a : Int) (h0 : 10 ≤ op) (h1 : op ≤ 15) (k : Nat) (hk : 64 < k) : scarabref02_one.f k op a = some (conv op a) := by
  have s8 := conv_s a 8 (by decide) (by decide) k hk
  have s16 := conv_s a 16 (by decide) (by decide) k hk
  have s32 := conv_s a 32 (by decide) (by decide) k hk
  have u8 := conv_u a 8 (by decide) (by decide) k hk
  have u16 := conv_u a 16 (by decide) (by decide) k hk
  have u32 := conv_u a 32 (by decide) (by decide) k hk
  unfold scarabref02_one.f conv
  rw [if_neg (by omega), if_neg (by omega), if_neg (by omega), if_neg (by omega), if_neg (by omega), if_neg (by omega), if_neg (by omega), if_neg (by omega), if_neg (by omega)]
  by_cases e : op = 10
  · rw [if_pos e, if_pos e]; exact bindI s8 rfl
  rw [if_neg e, if_neg e]
  by_cases e : op = 11
  · rw [if_pos e, if_pos e]; exact bindI s16 rfl
  rw [if_neg e, if_neg e]
  by_cases e : op = 12
  · rw [if_pos e, if_pos e]; exact bindI s32 rfl
  rw [if_neg e, if_neg e]
  by_cases e : op = 13
  · rw [if_pos e, if_pos e]; exact bindI u8 rfl
  rw [if_neg e, if_neg e]
  by_cases e : op = 14
  · rw [if_pos e, if_pos e]; exact bindI u16 rfl
  rw [if_neg e, if_neg e]; exact bindI u32 rfl
end Go.Proofs.YtckfnbjjghdaoaaDoor.RefOps
