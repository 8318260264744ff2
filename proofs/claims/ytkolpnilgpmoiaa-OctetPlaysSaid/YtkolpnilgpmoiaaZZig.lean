/- Zigzag, as the walk computes it: what its value is. -/
import Derived.Test.YtkolpnilgpmoiaaBits
import Derived.Test.YtkolpnilgpmoiaaZ1
namespace Go.Proofs.Ytkolpnilgpmoiaa.Bits
open Go.RowKit Go.Proofs.Ytkolpnilgpmoiaa.Z Go.Proofs.YtkolpnilgpmoiaaW.PrintWords

theorem zig_val (x : Int) (h0 : -9223372036854775808 ≤ x) (h1 : x < 9223372036854775808) :
    ∃ u, octet_Zig.f x = some u ∧ 0 ≤ u ∧ u < 18446744073709551616 ∧ (0 ≤ x ∧ u = 2 * x ∨ x < 0 ∧ u = -2 * x - 1) := by
  refine ⟨_, rfl, ?_⟩
  rw [xor_u, of_u64, of_u64, of_wrap64]
  by_cases h : 0 ≤ x
  · rw [show x / 9223372036854775808 = 0 by omega, show of 0 = 0#64 from rfl, BitVec.xor_zero, toNat_of (by omega) (by omega)]
    omega
  · rw [show x / 9223372036854775808 = -1 by omega, show of (-1) = BitVec.allOnes 64 by decide, BitVec.xor_allOnes, BitVec.toNat_not]
    have e : ((of (x * 2)).toNat : Int) = x * 2 + 18446744073709551616 := by
      rw [← u64_of]; simp [IntKind.wrap, IntKind.bits, IntKind.signed]; omega
    have := (of (x * 2)).isLt
    omega
end Go.Proofs.Ytkolpnilgpmoiaa.Bits
