/- How many bits of a word are 1, and how many noughts stand at its front: what the library's short ways come to. -/
import Derived.Test.YtckfnbjjghdaoaaDoorTRefOps
import Derived.Test.YtckfnbjjghdaoaaDoorT1
namespace Go.Proofs.YtckfnbjjghdaoaaDoor.Pop
open Go.RowKit Go.Proofs.YtckfnbjjghdaoaaDoor.T Go.Proofs.YtckfnbjjghdaoaaDoorW.PrintWords Go.Proofs.YtckfnbjjghdaoaaDoor.Bits Go.Proofs.YtckfnbjjghdaoaaDoor.Ops

/-- How many of the n lowest bits are 1. -/
def pop : Nat → Nat → Nat
  | 0, _ => 0
  | n + 1, y => y % 2 + pop n (y / 2)
theorem pop_add (m : Nat) : ∀ (n y : Nat), pop (m + n) y = pop m y + pop n (y / 2 ^ m) := by
  induction m with
  | zero => intro n y; simp [pop]
  | succ m ih =>
    intro n y
    rw [show m + 1 + n = (m + n) + 1 by omega]
    simp only [pop]
    rw [ih n (y / 2), Nat.div_div_eq_div_mul, Nat.pow_succ, Nat.mul_comm 2, Nat.add_assoc]
theorem pop_le (n : Nat) : ∀ y, pop n y ≤ n := by
  induction n with
  | zero => intro y; simp [pop]
  | succ n ih => intro y; simp only [pop]; have := ih (y / 2); omega
theorem pop_mod (n : Nat) : ∀ y, pop n (y % 2 ^ n) = pop n y := by
  induction n with
  | zero => intro y; rfl
  | succ n ih =>
    intro y
    simp only [pop]
    have e1 : y % 2 ^ (n + 1) % 2 = y % 2 := Nat.mod_mod_of_dvd y ⟨2 ^ n, by rw [Nat.pow_succ, Nat.mul_comm]⟩
    have e2 : y % 2 ^ (n + 1) / 2 = y / 2 % 2 ^ n := by
      rw [Nat.pow_succ, Nat.mul_comm, Nat.mod_mul_right_div_self]
    rw [e1, e2, ih]

/-- Lanes of eight bits: a shift and a mask that lets nothing over. -/
theorem lane (b y m M s : Nat) (hb : b < 256) (hm : m < 2 ^ (8 - s)) (hs : s ≤ 8) :
    ((b + 256 * y) / 2 ^ s) &&& (m + 256 * M) = ((b / 2 ^ s) &&& m) + 256 * ((y / 2 ^ s) &&& M) := by
  have hm8 : m < 2 ^ 8 := Nat.lt_of_lt_of_le hm (Nat.pow_le_pow_right (by decide) (by omega))
  have hl : (b / 2 ^ s) &&& m < 2 ^ 8 := Nat.and_lt_two_pow _ hm8
  apply Nat.eq_of_testBit_eq
  intro j
  rw [Nat.testBit_and, Nat.testBit_div_two_pow, show b + 256 * y = 2 ^ 8 * y + b by omega, show m + 256 * M = 2 ^ 8 * M + m by omega,
    show (b / 2 ^ s &&& m) + 256 * (y / 2 ^ s &&& M) = 2 ^ 8 * (y / 2 ^ s &&& M) + (b / 2 ^ s &&& m) by omega,
    Nat.testBit_two_pow_mul_add _ (by omega), Nat.testBit_two_pow_mul_add _ hm8, Nat.testBit_two_pow_mul_add _ hl, Nat.testBit_and, Nat.testBit_and, Nat.testBit_div_two_pow, Nat.testBit_div_two_pow]
  by_cases h : j < 8
  · rw [if_pos h, if_pos h]
    by_cases h2 : j + s < 8
    · rw [if_pos h2]
    · have : m.testBit j = false := Nat.testBit_lt_two_pow (Nat.lt_of_lt_of_le hm (Nat.pow_le_pow_right (by decide) (by omega)))
      rw [this, Bool.and_false, Bool.and_false]
  · rw [if_neg h, if_neg h, if_neg (by omega), show j - 8 + s = j + s - 8 by omega]

/-- Masks of n lanes. -/
def rep (m : Nat) : Nat → Nat
  | 0 => 0
  | n + 1 => m + 256 * rep m n
/-- The sums of bits, lane by lane. -/
def sw1 (n y : Nat) : Nat := ((y / 2 ^ 1) &&& rep 0x55 n) + ((y / 2 ^ 0) &&& rep 0x55 n)
def sw2 (n y : Nat) : Nat := ((sw1 n y / 2 ^ 2) &&& rep 0x33 n) + ((sw1 n y / 2 ^ 0) &&& rep 0x33 n)
def sw3 (n y : Nat) : Nat := ((sw2 n y / 2 ^ 4) &&& rep 0x0f n) + ((sw2 n y / 2 ^ 0) &&& rep 0x0f n)
theorem sw1_lane (n b y : Nat) (hb : b < 256) : sw1 (n + 1) (b + 256 * y) = sw1 1 b + 256 * sw1 n y ∧ sw1 1 b < 256 := by
  have e : ∀ m, rep m 1 = m := fun m => by simp [rep]
  have h1 : (b / 2 ^ 1) &&& 0x55 ≤ 0x55 := Nat.and_le_right
  have h2 : (b / 2 ^ 0) &&& 0x55 ≤ 0x55 := Nat.and_le_right
  unfold sw1
  rw [e]
  refine ⟨?_, by omega⟩
  simp only [rep]
  rw [lane b y 0x55 _ 1 hb (by decide) (by decide), lane b y 0x55 _ 0 hb (by decide) (by decide)]
  omega
theorem sw2_lane (n b y : Nat) (hb : b < 256) : sw2 (n + 1) (b + 256 * y) = sw2 1 b + 256 * sw2 n y ∧ sw2 1 b < 256 := by
  obtain ⟨h, hl⟩ := sw1_lane n b y hb
  have e : ∀ m, rep m 1 = m := fun m => by simp [rep]
  have h1 : (sw1 1 b / 2 ^ 2) &&& 0x33 ≤ 0x33 := Nat.and_le_right
  have h2 : (sw1 1 b / 2 ^ 0) &&& 0x33 ≤ 0x33 := Nat.and_le_right
  unfold sw2
  rw [e, h]
  refine ⟨?_, by omega⟩
  simp only [rep]
  rw [lane _ _ 0x33 _ 2 hl (by decide) (by decide), lane _ _ 0x33 _ 0 hl (by decide) (by decide)]
  omega
theorem sw3_lane (n b y : Nat) (hb : b < 256) : sw3 (n + 1) (b + 256 * y) = sw3 1 b + 256 * sw3 n y ∧ sw3 1 b < 256 := by
  obtain ⟨h, hl⟩ := sw2_lane n b y hb
  have e : ∀ m, rep m 1 = m := fun m => by simp [rep]
  have h1 : (sw2 1 b / 2 ^ 4) &&& 0x0f ≤ 0x0f := Nat.and_le_right
  have h2 : (sw2 1 b / 2 ^ 0) &&& 0x0f ≤ 0x0f := Nat.and_le_right
  unfold sw3
  rw [e, h]
  refine ⟨?_, by omega⟩
  simp only [rep]
  rw [lane _ _ 0x0f _ 4 hl (by decide) (by decide), lane _ _ 0x0f _ 0 hl (by decide) (by decide)]
  omega
theorem sw3_byte : ∀ b : Fin 256, sw3 1 b.val = pop 8 b.val := by decide +kernel
/-- The lanes' sums, as a number to the base 256. -/
def lanes : Nat → Nat → Nat
  | 0, _ => 0
  | n + 1, y => pop 8 y + 256 * lanes n (y / 256)
theorem sw3_lanes (n : Nat) : ∀ y, y < 256 ^ n → sw3 n y = lanes n y := by
  induction n with
  | zero =>
    intro y hy
    have : y = 0 := by simpa using hy
    subst this; rfl
  | succ n ih =>
    intro y hy
    have h := (sw3_lane n (y % 256) (y / 256) (Nat.mod_lt _ (by decide))).1
    rw [Nat.mod_add_div] at h
    rw [h, ih (y / 256) (by rw [Nat.pow_succ] at hy; omega), sw3_byte ⟨y % 256, Nat.mod_lt _ (by decide)⟩]
    simp only [lanes]
    rw [show y % 256 = y % 2 ^ 8 from rfl, pop_mod]

/-- Every half byte of the n lanes is 4 or less. -/
def nib : Nat → Nat → Prop
  | 0, x => x = 0
  | n + 1, x => x % 16 ≤ 4 ∧ x / 16 % 16 ≤ 4 ∧ nib n (x / 256)
theorem nib_low (n x : Nat) (h : nib n x) : x % 16 ≤ 4 := by
  cases n with
  | zero => have : x = 0 := h
            subst this; decide
  | succ n => exact h.1
theorem sw2_byte : ∀ b : Fin 256, sw2 1 b.val % 16 ≤ 4 ∧ sw2 1 b.val / 16 % 16 ≤ 4 := by decide +kernel
theorem nib_sw2 (n : Nat) : ∀ y, y < 256 ^ n → nib n (sw2 n y) := by
  induction n with
  | zero =>
    intro y hy
    have : y = 0 := by simpa using hy
    subst this; exact rfl
  | succ n ih =>
    intro y hy
    have h := sw2_lane n (y % 256) (y / 256) (Nat.mod_lt _ (by decide))
    rw [Nat.mod_add_div] at h
    have hb := sw2_byte ⟨y % 256, Nat.mod_lt _ (by decide)⟩
    have hi := ih (y / 256) (by rw [Nat.pow_succ] at hy; omega)
    simp only at hb
    refine ⟨?_, ?_, ?_⟩
    · rw [h.1]; omega
    · rw [h.1]; omega
    · rw [h.1, show (sw2 1 (y % 256) + 256 * sw2 n (y / 256)) / 256 = sw2 n (y / 256) by omega]; exact hi
theorem fold (n : Nat) : ∀ x, nib n x → (x / 16 + x) &&& rep 0x0f n = ((x / 2 ^ 4) &&& rep 0x0f n) + ((x / 2 ^ 0) &&& rep 0x0f n) := by
  induction n with
  | zero => intro x h; have : x = 0 := h
            subst this; rfl
  | succ n ih =>
    intro x h
    obtain ⟨h1, h2, h3⟩ := h
    have hl := nib_low n _ h3
    have hi := ih _ h3
    obtain ⟨b, hb⟩ : ∃ b, x % 256 = b := ⟨_, rfl⟩
    obtain ⟨y, hy⟩ : ∃ y, x / 256 = y := ⟨_, rfl⟩
    rw [hy] at hl hi
    have e : x = b + 256 * y := by omega
    have e1 : x / 16 + x = (b / 16 + 16 * (y % 16) + b) + 256 * (y / 16 + y) := by omega
    have a15 : ∀ z, z &&& 0x0f = z % 16 := fun z => Nat.and_two_pow_sub_one_eq_mod z 4
    have hc : b / 16 + 16 * (y % 16) + b < 256 := by omega
    rw [e1, e]
    simp only [rep]
    have l0 := lane (b / 16 + 16 * (y % 16) + b) (y / 16 + y) 0x0f (rep 0x0f n) 0 hc (by decide) (by decide)
    rw [Nat.pow_zero, Nat.div_one, Nat.div_one, Nat.div_one] at l0
    rw [l0, lane b y 0x0f _ 4 (by omega) (by decide) (by decide), lane b y 0x0f _ 0 (by omega) (by decide) (by decide), hi]
    have hi4 : b / 16 ≤ 4 := by omega
    have bi4 : b % 16 ≤ 4 := by omega
    clear e e1 h1 h2 h3 hl hi l0 hb hy hc
    simp only [a15, Nat.pow_zero, Nat.div_one, Nat.reducePow]
    have e2 : (b / 16 + 16 * (y % 16) + b) % 16 = b / 16 + b % 16 := by
      obtain ⟨a, ha⟩ : ∃ a, b / 16 = a := ⟨_, rfl⟩
      obtain ⟨r, hr⟩ : ∃ r, b % 16 = r := ⟨_, rfl⟩
      rw [ha, hr, show b = 16 * a + r by omega]
      generalize y % 16 = q
      omega
    rw [e2]
    omega

theorem and_n (x y : Nat) (hx : x < 18446744073709551616) (hy : y < 18446744073709551616) : Go.bits .and .u64 (x : Int) (y : Int) = ((x &&& y : Nat) : Int) := by
  rw [and_u, BitVec.toNat_and]
  have h1 := toNat_of (x := (x : Int)) (by omega) (by omega)
  have h2 := toNat_of (x := (y : Int)) (by omega) (by omega)
  rw [show (of (x : Int)).toNat = x by omega, show (of (y : Int)).toNat = y by omega]
theorem lanes_8 (y : Nat) : ∃ p0 p1 p2 p3 p4 p5 p6 p7 : Nat, p0 ≤ 8 ∧ p1 ≤ 8 ∧ p2 ≤ 8 ∧ p3 ≤ 8 ∧ p4 ≤ 8 ∧ p5 ≤ 8 ∧ p6 ≤ 8 ∧ p7 ≤ 8 ∧ pop 64 y = p0 + p1 + p2 + p3 + p4 + p5 + p6 + p7 ∧
    lanes 8 y = p0 + 256 * (p1 + 256 * (p2 + 256 * (p3 + 256 * (p4 + 256 * (p5 + 256 * (p6 + 256 * p7)))))) := by
  refine ⟨_, _, _, _, _, _, _, _, pop_le 8 y, pop_le 8 (y / 256), pop_le 8 (y / 256 / 256), pop_le 8 (y / 256 / 256 / 256), pop_le 8 (y / 256 / 256 / 256 / 256), pop_le 8 (y / 256 / 256 / 256 / 256 / 256), pop_le 8 (y / 256 / 256 / 256 / 256 / 256 / 256), pop_le 8 (y / 256 / 256 / 256 / 256 / 256 / 256 / 256), ?_, ?_⟩
  · rw [show 64 = 8 + (8 + (8 + (8 + (8 + (8 + (8 + 8)))))) from rfl, pop_add, pop_add, pop_add, pop_add, pop_add, pop_add, pop_add]
    simp only [show (2 : Nat) ^ 8 = 256 from rfl]
    omega
  · simp only [lanes, Nat.mul_zero, Nat.add_zero]
theorem sums (p0 p1 p2 p3 p4 p5 p6 p7 z : Nat) (h0 : p0 ≤ 8) (h1 : p1 ≤ 8) (h2 : p2 ≤ 8) (h3 : p3 ≤ 8) (h4 : p4 ≤ 8) (h5 : p5 ≤ 8) (h6 : p6 ≤ 8) (h7 : p7 ≤ 8)
    (hz : z = p0 + 256 * (p1 + 256 * (p2 + 256 * (p3 + 256 * (p4 + 256 * (p5 + 256 * (p6 + 256 * p7))))))) :
    ∃ z1 z2, z1 = z + z / 256 ∧ z1 < 18446744073709551616 ∧ z2 = z1 + z1 / 65536 ∧ z2 < 4629771061636907073 ∧ (z2 + z2 / 4294967296) % 128 = p0 + p1 + p2 + p3 + p4 + p5 + p6 + p7 := by
  obtain ⟨A6, hA6⟩ : ∃ m, m = p6 + 256 * p7 := ⟨_, rfl⟩
  obtain ⟨A5, hA5⟩ : ∃ m, m = p5 + 256 * A6 := ⟨_, rfl⟩
  obtain ⟨A4, hA4⟩ : ∃ m, m = p4 + 256 * A5 := ⟨_, rfl⟩
  obtain ⟨A3, hA3⟩ : ∃ m, m = p3 + 256 * A4 := ⟨_, rfl⟩
  obtain ⟨A2, hA2⟩ : ∃ m, m = p2 + 256 * A3 := ⟨_, rfl⟩
  obtain ⟨A1, hA1⟩ : ∃ m, m = p1 + 256 * A2 := ⟨_, rfl⟩
  have hz' : z = p0 + 256 * A1 := by rw [hz, hA1, hA2, hA3, hA4, hA5, hA6]
  clear hz
  have l6 : A6 ≤ 2056 := by omega
  have l5 : A5 ≤ 526344 := by omega
  have l4 : A4 ≤ 134744072 := by omega
  have l3 : A3 ≤ 34494482440 := by omega
  have l2 : A2 ≤ 8830587504648 := by omega
  have l1 : A1 ≤ 2260630401189896 := by omega
  have d1 : z / 256 = A1 := by omega
  obtain ⟨B6, hB6⟩ : ∃ m, m = A6 + p7 := ⟨_, rfl⟩
  obtain ⟨B4, hB4⟩ : ∃ m, m = A4 + A5 := ⟨_, rfl⟩
  obtain ⟨B2, hB2⟩ : ∃ m, m = A2 + A3 := ⟨_, rfl⟩
  have g6 : B6 = (p6 + p7) + 256 * p7 := by omega
  have g4 : B4 = (p4 + p5) + 256 * (p5 + p6) + 65536 * B6 := by omega
  have g2 : B2 = (p2 + p3) + 256 * (p3 + p4) + 65536 * B4 := by omega
  have g0 : z + A1 = (p0 + p1) + 256 * (p1 + p2) + 65536 * B2 := by omega
  clear hB6 hB4 hB2 hA1 hA2 hA3 hA4 hA5 hA6 hz'
  refine ⟨z + A1, z + A1 + B2, by rw [d1], by omega, ?_, by omega, ?_⟩
  · have : (z + A1) / 65536 = B2 := by rw [g0]; omega
    rw [this]
  · clear l1 l2 l3 l4 l5 l6 d1
    obtain ⟨q, hq⟩ : ∃ m, z + A1 = m := ⟨_, rfl⟩
    rw [hq] at g0 ⊢
    clear hq
    have e : q + B2 = ((p0 + p1 + (p2 + p3)) + 256 * (p1 + p2 + (p3 + p4)) + 65536 * (p2 + p3 + (p4 + p5)) + 16777216 * (p3 + p4 + (p5 + p6))) + 4294967296 * (B4 + B6) := by omega
    have e2 : (q + B2) / 4294967296 = B4 + B6 := by rw [e]; clear e g0 g2 g4 g6; omega
    rw [e2, e]
    clear e e2 g0 g2
    have e3 : B4 + B6 = (p4 + p5 + (p6 + p7)) + 256 * (p5 + p6 + p7) + 65536 * B6 := by omega
    clear g4 g6
    omega
theorem pops (y : Nat) (hy : y < 18446744073709551616) : bits_OnesCount64.f (y : Int) = some ((pop 64 y : Nat) : Int) := by
  have r1 : rep 0x55 8 = 6148914691236517205 := rfl
  have r2 : rep 0x33 8 = 3689348814741910323 := rfl
  have r3 : rep 0x0f 8 = 1085102592571150095 := rfl
  have b1 : ∀ x, x &&& rep 0x55 8 ≤ 6148914691236517205 := fun x => r1 ▸ Nat.and_le_right
  have b2 : ∀ x, x &&& rep 0x33 8 ≤ 3689348814741910323 := fun x => r2 ▸ Nat.and_le_right
  have b3 : ∀ x, x &&& rep 0x0f 8 ≤ 1085102592571150095 := fun x => r3 ▸ Nat.and_le_right
  have l1 : sw1 8 y < 18446744073709551616 := by
    have := b1 (y / 2 ^ 1); have := b1 (y / 2 ^ 0); unfold sw1; omega
  have l2 : sw2 8 y < 18446744073709551616 := by
    have := b2 (sw1 8 y / 2 ^ 2); have := b2 (sw1 8 y / 2 ^ 0); unfold sw2; omega
  have s1 : IntKind.u64.wrap (Go.bits .and .u64 ((y : Int) / 2) 6148914691236517205 + Go.bits .and .u64 (y : Int) 6148914691236517205) = ((sw1 8 y : Nat) : Int) := by
    have e1 := and_n (y / 2) 6148914691236517205 (by omega) (by decide)
    have e2 := and_n y 6148914691236517205 (by omega) (by decide)
    have e3 : sw1 8 y = (y / 2 &&& 6148914691236517205) + (y &&& 6148914691236517205) := by
      unfold sw1; rw [r1, Nat.pow_one, Nat.pow_zero, Nat.div_one]
    rw [show ((y : Int) / 2) = ((y / 2 : Nat) : Int) by omega, show (6148914691236517205 : Int) = ((6148914691236517205 : Nat) : Int) from rfl, e1, e2, u64_id (by omega) (by omega)]
    omega
  have s2 : IntKind.u64.wrap (Go.bits .and .u64 (((sw1 8 y : Nat) : Int) / 4) 3689348814741910323 + Go.bits .and .u64 ((sw1 8 y : Nat) : Int) 3689348814741910323) = ((sw2 8 y : Nat) : Int) := by
    have e3 : sw2 8 y = (sw1 8 y / 4 &&& 3689348814741910323) + (sw1 8 y &&& 3689348814741910323) := by
      unfold sw2; rw [r2, Nat.pow_zero, Nat.div_one]
    generalize sw1 8 y = z at *
    have e1 := and_n (z / 4) 3689348814741910323 (by omega) (by decide)
    have e2 := and_n z 3689348814741910323 (by omega) (by decide)
    rw [show ((z : Int) / 4) = ((z / 4 : Nat) : Int) by omega, show (3689348814741910323 : Int) = ((3689348814741910323 : Nat) : Int) from rfl, e1, e2, u64_id (by omega) (by omega)]
    omega
  have hb : sw2 8 y ≤ 7378697629483820646 := by
    have := b2 (sw1 8 y / 2 ^ 2); have := b2 (sw1 8 y / 2 ^ 0); unfold sw2; omega
  have s3 : Go.bits .and .u64 (IntKind.u64.wrap (((sw2 8 y : Nat) : Int) / 16 + ((sw2 8 y : Nat) : Int))) 1085102592571150095 = ((lanes 8 y : Nat) : Int) := by
    have f := fold 8 _ (nib_sw2 8 y (by simpa using hy))
    have e3 : sw3 8 y = lanes 8 y := sw3_lanes 8 y (by simpa using hy)
    unfold sw3 at e3
    rw [← f] at e3
    generalize sw2 8 y = z at *
    have e1 := and_n (z / 16 + z) 1085102592571150095 (by omega) (by decide)
    rw [show ((z : Int) / 16 + (z : Int)) = ((z / 16 + z : Nat) : Int) by omega, u64_id (by omega) (by omega), show (1085102592571150095 : Int) = ((1085102592571150095 : Nat) : Int) from rfl, e1, ← r3, e3]
  have fin : ∀ z : Nat, z = lanes 8 y → ∃ z1 z2, z1 = z + z / 256 ∧ z1 < 18446744073709551616 ∧ z2 = z1 + z1 / 65536 ∧ z2 < 4629771061636907073 ∧ (z2 + z2 / 4294967296) % 128 = pop 64 y := by
    intro z hz
    obtain ⟨p0, p1, p2, p3, p4, p5, p6, p7, h0, h1, h2, h3, h4, h5, h6, h7, hp, hl⟩ := lanes_8 y
    rw [hp]
    exact sums p0 p1 p2 p3 p4 p5 p6 p7 z h0 h1 h2 h3 h4 h5 h6 h7 (hz.trans hl)
  obtain ⟨z1, z2, hz1, hb1, hz2, hb2, hr⟩ := fin _ rfl
  unfold bits_OnesCount64.f
  rw [s1, s2, s3]
  clear s1 s2 s3 fin b1 b2 b3 l1 l2 hb
  generalize lanes 8 y = z at *
  have q1 : IntKind.u64.wrap ((z : Int) + (z : Int) / 256) = (z1 : Int) := by rw [u64_id (by omega) (by omega)]; omega
  have q2 : IntKind.u64.wrap ((z1 : Int) + (z1 : Int) / 65536) = (z2 : Int) := by rw [u64_id (by omega) (by omega)]; omega
  obtain ⟨z3, hz3⟩ : ∃ m, z2 + z2 / 4294967296 = m := ⟨_, rfl⟩
  have q3 : IntKind.u64.wrap ((z2 : Int) + (z2 : Int) / 4294967296) = (z3 : Int) := by rw [u64_id (by omega) (by omega)]; omega
  rw [q1, q2, q3, show wrap64 (z3 : Int) = (z3 : Int) by unfold wrap64; omega, and_i]
  rw [hz3] at hr
  congr 1
  rw [show of 127 = BitVec.ofNat 64 127 from rfl, show of (z3 : Int) = BitVec.ofNat 64 z3 from rfl]
  have e7 : (BitVec.ofNat 64 z3 &&& BitVec.ofNat 64 127).toNat = z3 % 128 := by
    rw [BitVec.toNat_and, BitVec.toNat_ofNat, BitVec.toNat_ofNat, show 127 % 2 ^ 64 = 2 ^ 7 - 1 from rfl, Nat.and_two_pow_sub_one_eq_mod, Nat.mod_mod_of_dvd _ (by decide)]
  rw [BitVec.toInt_eq_toNat_of_lt (by rw [e7]; omega), e7, hr]
end Go.Proofs.YtckfnbjjghdaoaaDoor.Pop
