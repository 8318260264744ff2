/- Division of two digits by one: Knuth's way with a first guess, as plain numbers. -/
import Derived.Test.YtckfnbjjghdaoaaDoorBits
namespace Go.Proofs.YtckfnbjjghdaoaaDoor.Knuth

/-- What a digit's guess keeps: with u = q * n1 + r, the guess is not below the digit. -/
theorem guess (u d n1 n0 q r Y : Nat) (hY : Y = n1 * 4294967296 + n0) (hu : q * n1 + r = u) :
    q * Y + (4294967296 * r + d) = u * 4294967296 + d + q * n0 := by
  subst hY; subst hu
  rw [Nat.mul_add, Nat.add_mul, ← Nat.mul_assoc]
  omega
theorem first (u d n1 n0 Y : Nat) (hn : 0 < n1) (hd : d < 4294967296) (hY : Y = n1 * 4294967296 + n0) : (u * 4294967296 + d) / Y ≤ u / n1 := by
  have hY0 : 0 < Y := by omega
  rw [Nat.le_div_iff_mul_le hn]
  generalize hQ : (u * 4294967296 + d) / Y = Q
  have h : Q * Y ≤ u * 4294967296 + d := by rw [← hQ]; exact Nat.div_mul_le_self _ _
  subst hY
  rw [Nat.mul_add, ← Nat.mul_assoc] at h
  omega
theorem top (u n1 n0 Y : Nat) (hn : 2147483648 ≤ n1) (hn0 : n0 < 4294967296) (hY : Y = n1 * 4294967296 + n0) (hu : u < Y) : u / n1 ≤ 4294967297 := by
  have h : u < 4294967298 * n1 := by omega
  have := (Nat.div_lt_iff_lt_mul (show 0 < n1 by omega)).mpr h
  omega
theorem digit_lt (u d Y : Nat) (hd : d < 4294967296) (hu : u < Y) : (u * 4294967296 + d) / Y < 4294967296 := by
  rw [Nat.div_lt_iff_lt_mul (by omega)]
  omega
/-- The guess is not below: one step down keeps that. -/
theorem step (u d n1 n0 q r Y : Nat) (hY : Y = n1 * 4294967296 + n0) (hY0 : 0 < Y) (hd : d < 4294967296) (huY : u < Y) (hu : q * n1 + r = u) (h : 4294967296 ≤ q ∨ 4294967296 * r + d < q * n0) :
    (u * 4294967296 + d) / Y < q := by
  rcases h with h | h
  · have := digit_lt u d Y hd huY; omega
  · have g := guess u d n1 n0 q r Y hY hu
    rw [Nat.div_lt_iff_lt_mul hY0]
    omega
/-- At the end the guess is the digit. -/
theorem last (u d n1 n0 q r Y : Nat) (hY : Y = n1 * 4294967296 + n0) (hY0 : 0 < Y) (hu : q * n1 + r = u) (hq : (u * 4294967296 + d) / Y ≤ q) (h : q * n0 ≤ 4294967296 * r + d) :
    (u * 4294967296 + d) / Y = q := by
  have g := guess u d n1 n0 q r Y hY hu
  have : q ≤ (u * 4294967296 + d) / Y := by
    rw [Nat.le_div_iff_mul_le hY0]
    omega
  omega
theorem small (q n0 r d : Nat) (hq : q ≤ 4294967297) (hn0 : n0 < 4294967296) (hr : 4294967296 ≤ r) : q * n0 ≤ 4294967296 * r + d := by
  have h1 : q * n0 ≤ 4294967297 * 4294967295 := Nat.mul_le_mul hq (by omega)
  omega
/-- Two digits, put together. -/
theorem two (N y s Y M un0 : Nat) (hy : 0 < y) (hY : Y = y * 2 ^ s) (hN : N * 2 ^ s = M * 4294967296 + un0) :
    N / y = M / Y * 4294967296 + (M % Y * 4294967296 + un0) / Y ∧ (N % y) * 2 ^ s = (M % Y * 4294967296 + un0) % Y := by
  have hp : 0 < 2 ^ s := Nat.pow_pos (by decide)
  have hY0 : 0 < Y := by rw [hY]; exact Nat.mul_pos hy hp
  have e1 : N / y = N * 2 ^ s / Y := by rw [hY, Nat.mul_div_mul_right _ _ hp]
  have e2 : (N % y) * 2 ^ s = N * 2 ^ s % Y := by rw [hY, Nat.mul_mod_mul_right]
  rw [e1, e2, hN]
  have hM : M * 4294967296 + un0 = (M % Y * 4294967296 + un0) + Y * (M / Y * 4294967296) := by
    have := Nat.mod_add_div M Y
    rw [← Nat.mul_assoc]
    generalize M % Y = a at *
    generalize Y * (M / Y) = b at *
    omega
  constructor
  · rw [hM, Nat.add_mul_div_left _ _ hY0]; omega
  · rw [hM, Nat.add_mul_mod_self_left]
end Go.Proofs.YtckfnbjjghdaoaaDoor.Knuth
