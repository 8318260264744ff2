/- The sum of bytes: a step of the register is linear and loses nothing; what the sum's loops compute, told by the register. -/
import Derived.Test.YtkolpnilgpmoiaaZCodec2
import Derived.Test.YtkolpnilgpmoiaaZ1
namespace Go.Proofs.Ytkolpnilgpmoiaa.Crc
open Go.RowKit Go.Proofs.Ytkolpnilgpmoiaa.Z Go.Proofs.YtkolpnilgpmoiaaW.PrintWords Go.Proofs.Ytkolpnilgpmoiaa.Bits Go.Proofs.Ytkolpnilgpmoiaa.Codec

abbrev R := BitVec 32
def o32 (x : Int) : R := BitVec.ofInt 32 x
theorem u32_of (n : Int) : IntKind.u32.wrap n = ((o32 n).toNat : Int) := by
  rw [IntKind.wrap_u32]
  simp only [o32, BitVec.toNat_ofInt]
  simp; omega
theorem xor32 (x y : Int) : Go.bits .xor .u32 x y = ((o32 x ^^^ o32 y).toNat : Int) := by
  show IntKind.u32.wrap ((o32 x ^^^ o32 y).toNat : Int) = _
  have := (o32 x ^^^ o32 y).isLt
  rw [IntKind.wrap_u32]; omega
theorem and32 (x y : Int) : Go.bits .and .u32 x y = ((o32 x &&& o32 y).toNat : Int) := by
  show IntKind.u32.wrap ((o32 x &&& o32 y).toNat : Int) = _
  have := (o32 x &&& o32 y).isLt
  rw [IntKind.wrap_u32]; omega
theorem o32_nat (x : R) : o32 (x.toNat : Int) = x := by
  apply BitVec.eq_of_toNat_eq; simp [o32]
theorem o32_mod (n : Int) : o32 (n % 4294967296) = o32 n := by
  apply BitVec.eq_of_toNat_eq
  simp only [o32, BitVec.toNat_ofInt]
  simp
theorem o32_neg (n : Int) : o32 (-n) = -o32 n := by simp [o32, BitVec.ofInt_neg]

def poly : R := 0xEDB88320#32
/-- One step of the register. -/
def st (s : R) : R := (s >>> 1) ^^^ (poly &&& -(s &&& 1#32))
theorem mask (s : R) : -(s &&& 1#32) = if s.getLsbD 0 then BitVec.allOnes 32 else 0#32 := by
  have h : s &&& 1#32 = if s.getLsbD 0 then 1#32 else 0#32 := by
    apply BitVec.eq_of_getLsbD_eq
    intro i hi
    rw [BitVec.getLsbD_and]
    by_cases h0 : i = 0
    · subst h0; cases s.getLsbD 0 <;> rfl
    · have : (1#32).getLsbD i = false := by simp [BitVec.getLsbD_one, h0]
      rw [this, Bool.and_false]
      cases s.getLsbD 0
      · simp
      · simp [this]
  rw [h]
  cases s.getLsbD 0 <;> decide
theorem st_def (s : R) : st s = (s >>> 1) ^^^ (if s.getLsbD 0 then poly else 0#32) := by
  unfold st
  rw [mask]
  cases s.getLsbD 0
  · simp
  · rw [if_pos rfl, if_pos rfl, BitVec.and_allOnes]
theorem xlc (a b c : R) : a ^^^ (b ^^^ c) = b ^^^ (a ^^^ c) := by rw [← BitVec.xor_assoc, BitVec.xor_comm a b, BitVec.xor_assoc]
theorem xss (a b : R) : a ^^^ (a ^^^ b) = b := by rw [← BitVec.xor_assoc, BitVec.xor_self, BitVec.zero_xor]
theorem st_xor (a b : R) : st (a ^^^ b) = st a ^^^ st b := by
  rw [st_def, st_def, st_def, BitVec.getLsbD_xor, BitVec.ushiftRight_xor_distrib]
  generalize a >>> 1 = x
  generalize b >>> 1 = y
  generalize poly = p
  cases a.getLsbD 0 <;> cases b.getLsbD 0
  · simp
  · simp [BitVec.xor_assoc]
  · simp only [Bool.xor_false, if_true, Bool.false_eq_true, if_false, BitVec.xor_zero]
    rw [BitVec.xor_assoc, BitVec.xor_assoc, BitVec.xor_comm y p]
  · simp only [Bool.xor_self, if_true, Bool.false_eq_true, if_false, BitVec.xor_zero]
    rw [BitVec.xor_assoc, xlc p y p, BitVec.xor_self, BitVec.xor_zero]
theorem st_zero : st 0#32 = 0#32 := by decide
theorem st_inj0 (s : R) (h : st s = 0#32) : s = 0#32 := by
  rw [st_def] at h
  by_cases h0 : s.getLsbD 0 = true
  · rw [h0] at h
    exfalso
    have : ((s >>> 1) ^^^ (if true = true then poly else 0#32)).getLsbD 31 = true := by
      rw [BitVec.getLsbD_xor, BitVec.getLsbD_ushiftRight, BitVec.getLsbD_of_ge s (1 + 31) (by decide)]
      decide
    rw [h] at this
    simp at this
  · rw [Bool.not_eq_true] at h0
    rw [h0] at h
    simp only [Bool.false_eq_true, if_false, BitVec.xor_zero] at h
    apply BitVec.eq_of_getLsbD_eq
    intro i hi
    rw [BitVec.getLsbD_zero]
    cases i with
    | zero => exact h0
    | succ i =>
      have := congrArg (fun x => BitVec.getLsbD x i) h
      simpa [BitVec.getLsbD_ushiftRight, Nat.add_comm] using this
/-- So many steps. -/
def sts : Nat → R → R
  | 0, s => s
  | n + 1, s => sts n (st s)
theorem sts_xor (n : Nat) : ∀ a b, sts n (a ^^^ b) = sts n a ^^^ sts n b := by
  induction n with
  | zero => intro a b; rfl
  | succ n ih => intro a b; simp only [sts]; rw [st_xor, ih]
theorem sts_add (n m : Nat) : ∀ a, sts (n + m) a = sts m (sts n a) := by
  induction n with
  | zero => intro a; rw [Nat.zero_add]; rfl
  | succ n ih => intro a; rw [Nat.succ_add]; exact ih (st a)
theorem sts_inj0 (n : Nat) : ∀ s, sts n s = 0#32 → s = 0#32 := by
  induction n with
  | zero => intro s h; exact h
  | succ n ih => intro s h; exact st_inj0 s (ih _ h)
theorem sts_zero (n : Nat) : sts n 0#32 = 0#32 := by
  induction n with
  | zero => rfl
  | succ n ih => simp only [sts]; rw [st_zero, ih]
theorem sts_shift (n : Nat) : ∀ (x : R), x.toNat < 2 ^ (32 - n) → n ≤ 32 → sts n (x <<< n) = x := by
  induction n with
  | zero => intro x _ _; simp [sts]
  | succ n ih =>
    intro x hx hn
    have h2 : 2 ^ (32 - n) = 2 * 2 ^ (32 - (n + 1)) := by rw [show 32 - n = (32 - (n + 1)) + 1 by omega, Nat.pow_succ]; omega
    have hst : st (x <<< (n + 1)) = x <<< n := by
      rw [st_def]
      have h0 : (x <<< (n + 1)).getLsbD 0 = false := by simp
      rw [h0]
      simp only [Bool.false_eq_true, if_false, BitVec.xor_zero]
      apply BitVec.eq_of_toNat_eq
      have hp : x.toNat * 2 ^ (n + 1) < 2 ^ 32 := by
        have : 2 ^ 32 = 2 ^ (32 - (n + 1)) * 2 ^ (n + 1) := by rw [← Nat.pow_add]; congr 1; omega
        rw [this]
        exact Nat.mul_lt_mul_of_pos_right hx (Nat.two_pow_pos _)
      have hp2 : x.toNat * 2 ^ n < 2 ^ 32 := Nat.lt_of_le_of_lt (Nat.mul_le_mul_left _ (Nat.pow_le_pow_right (by decide) (by omega))) hp
      rw [BitVec.toNat_ushiftRight, BitVec.toNat_shiftLeft, BitVec.toNat_shiftLeft, Nat.shiftLeft_eq, Nat.shiftLeft_eq, Nat.mod_eq_of_lt hp, Nat.mod_eq_of_lt hp2, Nat.shiftRight_eq_div_pow, Nat.pow_succ, ← Nat.mul_assoc, Nat.pow_one, Nat.mul_div_cancel _ (by decide)]
    simp only [sts]
    rw [hst]
    exact ih x (by omega) (by omega)

/-- A byte taken in. -/
def upd (s b : R) : R := sts 8 (s ^^^ b)
/-- The register behind so many bytes. -/
def reg (f : Nat → R) (s0 : R) : Nat → R
  | 0 => s0
  | t + 1 => upd (reg f s0 t) (f t)
theorem reg_diff (f g : Nat → R) (s0 : R) (t : Nat) : reg f s0 t ^^^ reg g s0 t = reg (fun i => f i ^^^ g i) 0#32 t := by
  induction t with
  | zero => simp [reg]
  | succ t ih =>
    simp only [reg, upd]
    rw [← sts_xor, ← ih]
    congr 1
    rw [BitVec.xor_assoc, BitVec.xor_assoc, xlc (f t)]
theorem reg_congr (f g : Nat → R) (s0 : R) (t : Nat) (h : ∀ i, i < t → f i = g i) : reg f s0 t = reg g s0 t := by
  induction t with
  | zero => rfl
  | succ t ih => simp only [reg]; rw [ih (fun i hi => h i (by omega)), h t (by omega)]

theorem half (s : R) : o32 ((s.toNat : Int) / 2) = s >>> 1 := by
  rw [show (s.toNat : Int) / 2 = ((s.toNat / 2 : Nat) : Int) by omega]
  apply BitVec.eq_of_toNat_eq
  have := s.isLt
  simp [o32, BitVec.toNat_ushiftRight, Nat.shiftRight_eq_div_pow]
  omega
theorem step_val (s : R) : Go.bits .xor .u32 ((s.toNat : Int) / 2) (Go.bits .and .u32 3988292384 ((-(Go.bits .and .u32 (s.toNat : Int) 1)) % 4294967296)) = ((st s).toNat : Int) := by
  rw [xor32, and32, o32_nat, o32_mod, o32_neg, and32, o32_nat, o32_nat, half]
  rfl
theorem inner (l : List Int) (n i : Int) (d : Nat) : ∀ (j : Nat) (s : R) (k : Nat), j + d = 8 → octet_Sum.l1 (k + d + 1) (s.toNat : Int) l n i (j : Int) = octet_Sum.l0 k ((sts d s).toNat : Int) l n (wrap64 (i + 1)) := by
  induction d with
  | zero =>
    intro j s k hj
    rw [octet_Sum.l1, if_neg (by omega)]
    rfl
  | succ d ih =>
    intro j s k hj
    rw [show k + (d + 1) + 1 = (k + d + 1) + 1 by omega, octet_Sum.l1, if_pos (by omega), step_val, show wrap64 ((j : Int) + 1) = ((j + 1 : Nat) : Int) by unfold wrap64; omega]
    exact ih (j + 1) (st s) k (by omega)
def byt (l : List Int) (i : Nat) : R := o32 (rd l (i : Int))
theorem outer (l : List Int) (hl : l.length ≤ 140737488351300) (d : Nat) : ∀ (i : Nat) (k : Nat), i + d = l.length → 10 * d < k →
    octet_Sum.l0 k ((reg (byt l) (BitVec.allOnes 32) i).toNat : Int) l (l.length : Int) (i : Int) = some (((~~~reg (byt l) (BitVec.allOnes 32) l.length).toNat : Nat) : Int) := by
  induction d with
  | zero =>
    intro i k hi hk
    obtain ⟨k, rfl⟩ : ∃ m, k = m + 1 := ⟨k - 1, by omega⟩
    have : i = l.length := by omega
    subst this
    rw [octet_Sum.l0, if_neg (by omega), xor32, o32_nat, show o32 IntKind.u32.max = BitVec.allOnes 32 by decide, BitVec.allOnes_xor]
  | succ d ih =>
    intro i k hi hk
    obtain ⟨k, rfl⟩ : ∃ m, k = (m + 8 + 1) + 1 := ⟨k - 10, by omega⟩
    rw [octet_Sum.l0, if_pos (by omega), if_pos (by omega), if_pos (by omega), xor32, o32_nat, o32_mod]
    have := inner l (l.length : Int) (i : Int) 8 0 (reg (byt l) (BitVec.allOnes 32) i ^^^ o32 (rd l (i : Int))) k rfl
    rw [show ((0 : Nat) : Int) = 0 from rfl] at this
    rw [this, show wrap64 ((i : Int) + 1) = ((i + 1 : Nat) : Int) by unfold wrap64; omega]
    exact ih (i + 1) k (by omega) (by omega)
theorem sum_val (l : List Int) (hl : l.length ≤ 140737488351300) (k : Nat) (hk : 10 * l.length < k) : octet_Sum.f k l = some (((~~~reg (byt l) (BitVec.allOnes 32) l.length).toNat : Nat) : Int) := by
  have := outer l hl l.length 0 k (by omega) hk
  unfold octet_Sum.f
  exact this
end Go.Proofs.Ytkolpnilgpmoiaa.Crc
