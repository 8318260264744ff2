/- THE PURE LAW of OctetBurst: a sum tells what was changed in four neighbouring bytes. No condition. -/
import Derived.Test.YtkolpnilgpmoiaaCrc
import Derived.Test.YtkolpnilgpmoiaaQ2
namespace Go.Proofs.Ytkolpnilgpmoiaa.Pure
open Go.RowKit Go.Proofs.Ytkolpnilgpmoiaa.Q Go.Proofs.YtkolpnilgpmoiaaW.PrintWords Go.Proofs.Ytkolpnilgpmoiaa.Bits Go.Proofs.Ytkolpnilgpmoiaa.Codec Go.Proofs.Ytkolpnilgpmoiaa.Crc

/-- The change: m bytes of T from place a on. -/
def chg (T : Nat) (a m : Nat) (i : Nat) : R := if a ≤ i ∧ i < a + m then BitVec.ofNat 32 (T / 2 ^ (8 * (i - a)) % 256) else 0#32
def word (T m : Nat) : R := BitVec.ofNat 32 (T % 2 ^ (8 * m))

theorem word_bit (T m i : Nat) : (word T m).getLsbD i = (decide (i < 32) && (decide (i < 8 * m) && T.testBit i)) := by
  unfold word
  rw [BitVec.getLsbD_ofNat, Nat.testBit_mod_two_pow]
theorem byte_bit (T q i : Nat) : (BitVec.ofNat 32 (T / 2 ^ q % 256)).getLsbD i = (decide (i < 32) && (decide (i < 8) && T.testBit (q + i))) := by
  rw [BitVec.getLsbD_ofNat, show (256 : Nat) = 2 ^ 8 from rfl, Nat.testBit_mod_two_pow, Nat.testBit_div_two_pow, Nat.add_comm i q]
theorem word_succ (T m : Nat) : word T (m + 1) = word T m ^^^ (BitVec.ofNat 32 (T / 2 ^ (8 * m) % 256)) <<< (8 * m) := by
  apply BitVec.eq_of_getLsbD_eq
  intro i hi
  rw [BitVec.getLsbD_xor, BitVec.getLsbD_shiftLeft, word_bit, word_bit, byte_bit]
  by_cases h : i < 8 * m
  · simp [h, hi]; omega
  · by_cases h2 : i < 8 * (m + 1)
    · have e : 8 * m + (i - 8 * m) = i := by omega
      have e1 : i - 8 * m < 8 := by omega
      have e2 : i - 8 * m < 32 := by omega
      simp [h, hi, h2, e, e1, e2]
    · have e1 : ¬ i - 8 * m < 8 := by omega
      simp [h, h2, e1]

theorem reg_before (T a m : Nat) (t : Nat) (ht : t ≤ a) : reg (chg T a m) 0#32 t = 0#32 := by
  induction t with
  | zero => rfl
  | succ t ih =>
    simp only [reg, upd]
    rw [ih (by omega)]
    unfold chg
    rw [if_neg (by omega), BitVec.xor_zero, sts_zero]
theorem reg_in (T a m : Nat) (hm : m ≤ 4) (j : Nat) (hj : j ≤ m) : reg (chg T a m) 0#32 (a + j) = sts (8 * j) (word T j) := by
  induction j with
  | zero => rw [Nat.add_zero, reg_before T a m a (Nat.le_refl _)]; simp [sts, word, Nat.mod_one]
  | succ j ih =>
    rw [← Nat.add_assoc]
    simp only [reg, upd]
    rw [ih (by omega)]
    have hc : chg T a m (a + j) = BitVec.ofNat 32 (T / 2 ^ (8 * j) % 256) := by
      unfold chg
      rw [if_pos (by omega), show a + j - a = j by omega]
    have hb : (BitVec.ofNat 32 (T / 2 ^ (8 * j) % 256)).toNat < 2 ^ (32 - 8 * j) := by
      have h1 : T / 2 ^ (8 * j) % 256 < 256 := Nat.mod_lt _ (by decide)
      have h2 : 2 ^ 8 ≤ 2 ^ (32 - 8 * j) := Nat.pow_le_pow_right (by decide) (by omega)
      rw [BitVec.toNat_ofNat]
      have := Nat.mod_le (T / 2 ^ (8 * j) % 256) (2 ^ 32)
      simp only [Nat.reducePow] at h2 this ⊢
      omega
    rw [hc]
    conv => lhs; rw [← sts_shift (8 * j) _ hb (by omega), ← sts_xor, ← word_succ T j, ← sts_add]
    congr 1
theorem reg_after (T a m : Nat) (hm : m ≤ 4) (t : Nat) : reg (chg T a m) 0#32 (a + m + t) = sts (8 * m + 8 * t) (word T m) := by
  induction t with
  | zero => exact reg_in T a m hm m (Nat.le_refl _)
  | succ t ih =>
    rw [← Nat.add_assoc]
    simp only [reg, upd]
    rw [ih]
    unfold chg
    rw [if_neg (by omega), BitVec.xor_zero, ← sts_add]
    congr 1
theorem word_zero (T m : Nat) (hm : m ≤ 4) : word T m = 0#32 ↔ T % 2 ^ (8 * m) = 0 := by
  unfold word
  have h1 : T % 2 ^ (8 * m) < 2 ^ (8 * m) := Nat.mod_lt _ (Nat.two_pow_pos _)
  have h2 : 2 ^ (8 * m) ≤ 2 ^ 32 := Nat.pow_le_pow_right (by decide) (by omega)
  constructor
  · intro h
    have := congrArg BitVec.toNat h
    rw [BitVec.toNat_ofNat, Nat.mod_eq_of_lt (by omega)] at this
    simpa using this
  · intro h; rw [h]

/-- Two lists of bytes, alike but for the change. -/
def alike (l c : List Int) (T a m : Nat) : Prop := c.length = l.length ∧ Codec.bytes c ∧ ∀ i, i < l.length → byt l i ^^^ byt c i = chg T a m i

theorem sums (l c : List Int) (T a m : Nat) (hl : l.length ≤ 140737488351232) (hm : m ≤ 4) (ham : a + m ≤ l.length) (h : alike l c T a m) (k : Nat) (hk : 10 * l.length < k) :
    ∃ x y, octet_Sum.f k l = some x ∧ octet_Sum.f k c = some y ∧ (x != y) = decide (T % 2 ^ (8 * m) ≠ 0) := by
  obtain ⟨hlen, _, hd⟩ := h
  refine ⟨_, _, sum_val l (by omega) k hk, sum_val c (by omega) k (by omega), ?_⟩
  have e := reg_diff (byt l) (byt c) (BitVec.allOnes 32) l.length
  rw [reg_congr _ (chg T a m) _ _ hd] at e
  have e2 := reg_after T a m hm (l.length - (a + m))
  rw [show a + m + (l.length - (a + m)) = l.length by omega] at e2
  rw [e2] at e
  rw [hlen]
  generalize reg (byt l) (BitVec.allOnes 32) l.length = p at e ⊢
  generalize reg (byt c) (BitVec.allOnes 32) l.length = q at e ⊢
  have key : p = q ↔ T % 2 ^ (8 * m) = 0 := by
    rw [← word_zero T m hm]
    constructor
    · rintro rfl
      rw [BitVec.xor_self] at e
      exact sts_inj0 _ _ e.symm
    · intro hw
      rw [hw, sts_zero] at e
      have : p ^^^ q ^^^ q = 0#32 ^^^ q := by rw [e]
      rwa [BitVec.xor_assoc, BitVec.xor_self, BitVec.xor_zero, BitVec.zero_xor] at this
  by_cases hz : T % 2 ^ (8 * m) = 0
  · have := key.2 hz
    subst this
    simp [hz]
  · have hne : p ≠ q := fun h => hz (key.1 h)
    have h2 : ¬ ((~~~p).toNat : Int) = ((~~~q).toNat : Int) := by
      intro h3
      apply hne
      have h4 : ~~~p = ~~~q := BitVec.eq_of_toNat_eq (by omega)
      have := congrArg (fun x => ~~~x) h4
      simpa using this
    rw [decide_eq_true hz, bne_iff_ne]
    exact h2
theorem sum_nil (k : Nat) (hk : 0 < k) : octet_Sum.f k [] = some 0 := by
  rw [sum_val [] (by simp) k (by simpa using hk)]
  decide

theorem xor8 (x y : Int) (hx : 0 ≤ x ∧ x < 256) (hy : 0 ≤ y ∧ y < 256) : 0 ≤ Go.bits .xor .u8 x y ∧ Go.bits .xor .u8 x y < 256 ∧ o32 (Go.bits .xor .u8 x y) = o32 x ^^^ o32 y := by
  obtain ⟨x, rfl⟩ := Int.eq_ofNat_of_zero_le hx.1
  obtain ⟨y, rfl⟩ := Int.eq_ofNat_of_zero_le hy.1
  have hxy : x ^^^ y < 256 := Nat.xor_lt_two_pow (n := 8) (by omega) (by omega)
  have e : Go.bits .xor .u8 (x : Int) (y : Int) = ((x ^^^ y : Nat) : Int) := by
    show IntKind.u8.wrap ((BitVec.ofInt 8 (x : Int) ^^^ BitVec.ofInt 8 (y : Int)).toNat : Int) = _
    rw [BitVec.toNat_xor, BitVec.ofInt_natCast, BitVec.ofInt_natCast, BitVec.toNat_ofNat, BitVec.toNat_ofNat, Nat.mod_eq_of_lt (by omega), Nat.mod_eq_of_lt (by omega), IntKind.wrap_u8]
    omega
  rw [e]
  refine ⟨by omega, by omega, ?_⟩
  apply BitVec.eq_of_toNat_eq
  unfold o32
  rw [BitVec.toNat_xor, BitVec.ofInt_natCast, BitVec.ofInt_natCast, BitVec.ofInt_natCast, BitVec.toNat_ofNat, BitVec.toNat_ofNat, BitVec.toNat_ofNat, Nat.mod_eq_of_lt (by omega), Nat.mod_eq_of_lt (by omega), Nat.mod_eq_of_lt (by omega)]

theorem alike_step (l c : List Int) (T a m : Nat) (h : alike l c T a m) (ha : a + m < l.length) :
    alike l (c.set (a + m) (Go.bits .xor .u8 (rd c ((a + m : Nat) : Int)) ((T / 2 ^ (8 * m) % 256 : Nat) : Int))) T a (m + 1) := by
  obtain ⟨hlen, hb, hd⟩ := h
  have hx := xor8 (rd c ((a + m : Nat) : Int)) ((T / 2 ^ (8 * m) % 256 : Nat) : Int) (hb _) (by omega)
  have hrd : ∀ i : Nat, rd (c.set (a + m) (Go.bits .xor .u8 (rd c ((a + m : Nat) : Int)) ((T / 2 ^ (8 * m) % 256 : Nat) : Int))) (i : Int) = if i = a + m then Go.bits .xor .u8 (rd c ((a + m : Nat) : Int)) ((T / 2 ^ (8 * m) % 256 : Nat) : Int) else rd c (i : Int) := by
    intro i
    generalize Go.bits .xor .u8 (rd c ((a + m : Nat) : Int)) ((T / 2 ^ (8 * m) % 256 : Nat) : Int) = v
    unfold rd
    rw [List.getD_eq_getElem?_getD, List.getD_eq_getElem?_getD, Int.toNat_natCast, List.getElem?_set]
    by_cases h : i = a + m
    · subst h
      rw [if_pos rfl, if_pos rfl, if_pos (by omega)]
      rfl
    · rw [if_neg (fun h2 => h h2.symm), if_neg h]
  refine ⟨by simp [hlen], ?_, ?_⟩
  · intro i
    by_cases hi : 0 ≤ i
    · obtain ⟨i, rfl⟩ := Int.eq_ofNat_of_zero_le hi
      rw [hrd]
      split
      · exact ⟨hx.1, hx.2.1⟩
      · exact hb _
    · have := hrd 0
      have e0 : rd (c.set (a + m) (Go.bits .xor .u8 (rd c ((a + m : Nat) : Int)) ((T / 2 ^ (8 * m) % 256 : Nat) : Int))) i = rd (c.set (a + m) (Go.bits .xor .u8 (rd c ((a + m : Nat) : Int)) ((T / 2 ^ (8 * m) % 256 : Nat) : Int))) ((0 : Nat) : Int) := by
        unfold rd; rw [show i.toNat = 0 by omega]; rfl
      rw [e0, this]
      split
      · exact ⟨hx.1, hx.2.1⟩
      · exact hb _
  · intro i hi
    have := hd i hi
    unfold byt at this ⊢
    rw [hrd]
    by_cases h : i = a + m
    · subst h
      rw [if_pos rfl, hx.2.2]
      have e1 : chg T a m (a + m) = 0#32 := by unfold chg; rw [if_neg (by omega)]
      have e2 : chg T a (m + 1) (a + m) = BitVec.ofNat 32 (T / 2 ^ (8 * m) % 256) := by unfold chg; rw [if_pos (by omega), show a + m - a = m by omega]
      rw [e1] at this
      rw [e2, ← BitVec.xor_assoc, this, BitVec.zero_xor]
      unfold o32
      rw [BitVec.ofInt_natCast]
    · rw [if_neg h, this]
      unfold chg
      by_cases h2 : a ≤ i ∧ i < a + m
      · rw [if_pos h2, if_pos (by omega)]
      · rw [if_neg h2, if_neg (by omega)]

theorem burst_end (l c : List Int) (a1 : Int) (T : Nat) (x : Bool) (a m : Nat) (hl : l.length ≤ 140737488351232) (hm : m ≤ 4) (ham : a + m ≤ l.length) (h : alike l c T a m) (hx : x = decide (T % 2 ^ (8 * m) ≠ 0)) (i : Int) (hi : 4 ≤ i) (k : Nat) (hk : 10 * l.length + 1 < k) :
    scarablaw01_OctetBurst.l0 k l a1 T c x i = some true := by
  obtain ⟨k, rfl⟩ : ∃ m, k = m + 1 := ⟨k - 1, by omega⟩
  obtain ⟨p, q, hp, hq, hpq⟩ := sums l c T a m hl hm ham h k (by omega)
  rw [scarablaw01_OctetBurst.l0, if_neg (by omega)]
  refine bindI hp (bindI hq ?_)
  rw [hpq, ← hx, if_pos (by simp)]
  exact bindI (sum_nil k (by omega)) rfl
theorem burst_out (l c : List Int) (a1 : Int) (T : Nat) (hl : l.length ≤ 140737488351232) (h : alike l c T 0 0) (ha : a1 < 0 ∨ a1 > (l.length : Int)) (d : Nat) :
    ∀ (i : Nat), i + d = 4 → ∀ k, 10 * l.length + 20 + d < k → scarablaw01_OctetBurst.l0 k l a1 T c false i = some true := by
  induction d with
  | zero => intro i hi k hk; exact burst_end l c a1 T false 0 0 hl (by decide) (by omega) h (by simp [Nat.mod_one]) _ (by omega) k (by omega)
  | succ d ih =>
    intro i hi k hk
    obtain ⟨k, rfl⟩ : ∃ m, k = m + 1 := ⟨k - 1, by omega⟩
    rw [scarablaw01_OctetBurst.l0, if_pos (by omega), show wrap64 ((i : Int) + 1) = ((i + 1 : Nat) : Int) by unfold wrap64; omega]
    by_cases h1 : a1 < 0
    · rw [if_pos h1]; exact ih (i + 1) (by omega) k (by omega)
    · rw [if_neg h1, h.1, if_pos (by omega)]; exact ih (i + 1) (by omega) k (by omega)

theorem more_bits (T m : Nat) : T % 2 ^ (8 * (m + 1)) ≠ 0 ↔ T % 2 ^ (8 * m) ≠ 0 ∨ T / 2 ^ (8 * m) % 256 ≠ 0 := by
  have e : 2 ^ (8 * (m + 1)) = 2 ^ (8 * m) * 256 := by rw [Nat.mul_add, Nat.pow_add]
  rw [e, Nat.mod_mul]
  have := Nat.two_pow_pos (8 * m)
  constructor
  · intro h
    by_cases h1 : T % 2 ^ (8 * m) = 0
    · right; intro h2; apply h; rw [h1, h2]; rfl
    · exact .inl h1
  · rintro (h | h) h2
    · omega
    · have h3 : 2 ^ (8 * m) * (T / 2 ^ (8 * m) % 256) = 0 := by omega
      rcases Nat.mul_eq_zero.1 h3 with h4 | h4 <;> omega

theorem burst_loop (l : List Int) (T a : Nat) (hl : l.length ≤ 140737488351232) (ha : a ≤ l.length) (d : Nat) :
    ∀ (i m : Nat) (c : List Int) (x : Bool), i + d = 4 → m = min i (l.length - a) → alike l c T a m → x = decide (T % 2 ^ (8 * m) ≠ 0) → ∀ k, 10 * l.length + 20 + d < k → scarablaw01_OctetBurst.l0 k l (a : Int) T c x i = some true := by
  induction d with
  | zero => intro i m c x hi hm h hx k hk; exact burst_end l c (a : Int) T x a m hl (by omega) (by omega) h hx _ (by omega) k (by omega)
  | succ d ih =>
    intro i m c x hi hm h hx k hk
    obtain ⟨k, rfl⟩ : ∃ m, k = m + 1 := ⟨k - 1, by omega⟩
    have e1 : wrap64 ((a : Int) + (i : Int)) = ((a + i : Nat) : Int) := by unfold wrap64; omega
    have e2 : wrap64 ((i : Int) + 1) = ((i + 1 : Nat) : Int) := by unfold wrap64; omega
    have e3 : IntKind.u64.wrap (wrap64 (8 * (i : Int))) = ((8 * i : Nat) : Int) := by
      rw [show wrap64 (8 * (i : Int)) = ((8 * i : Nat) : Int) by unfold wrap64; omega, u64_id (by omega) (by omega)]
    have e4 : shr .u32 (T : Int) ((8 * i : Nat) : Int) = ((T / 2 ^ (8 * i) : Nat) : Int) := by
      unfold shr
      rw [Int.toNat_natCast, Nat.min_eq_left (show 8 * i ≤ IntKind.u32.bits by simp [IntKind.bits]; omega), Int.natCast_ediv, Int.natCast_pow]
      rfl
    rw [scarablaw01_OctetBurst.l0, if_pos (by omega), if_neg (by omega), h.1, if_neg (by omega), e1, e2, e3, e4]
    by_cases h1 : l.length ≤ a + i
    · rw [if_pos (by omega)]
      exact ih (i + 1) m c x (by omega) (by omega) h hx k (by omega)
    · have hmi : m = i := by omega
      subst hmi
      rw [if_neg (by omega), if_pos (by omega), if_pos (by omega), if_pos (by omega), Int.toNat_natCast, show ((T / 2 ^ (8 * m) : Nat) : Int) % 256 = ((T / 2 ^ (8 * m) % 256 : Nat) : Int) by omega]
      refine bindI rfl ?_
      have hal := alike_step l c T a m h (by omega)
      have hmore := more_bits T m
      by_cases hxx : x = true
      · rw [if_pos hxx]
        refine ih (m + 1) (m + 1) _ true (by omega) (by omega) hal ?_ k (by omega)
        rw [hxx] at hx
        symm
        rw [decide_eq_true_iff, hmore]
        left
        simpa using hx.symm
      · rw [if_neg hxx]
        refine ih (m + 1) (m + 1) _ _ (by omega) (by omega) hal ?_ k (by omega)
        have hx0 : T % 2 ^ (8 * m) = 0 := by
          rw [hx] at hxx
          simpa using hxx
        rw [Bool.eq_iff_iff, bne_iff_ne, decide_eq_true_iff, hmore]
        omega

theorem OctetBurst : scarablaw01_OctetBurst.Pure := by
  intro l a T hlm hl8 hlb ha hT
  have hb := bytes_of hlb
  have hl : l.length ≤ 140737488351232 := by omega
  have bT : 0 ≤ T ∧ T < 4294967296 := by
    simp [Lit.wf, IntKind.min, IntKind.max, IntKind.signed, IntKind.bits] at hT; omega
  obtain ⟨T, rfl⟩ := Int.eq_ofNat_of_zero_le bT.1
  have h0 : ∀ a : Nat, alike l l T a 0 := by
    intro a
    refine ⟨rfl, hb, fun i _ => ?_⟩
    rw [BitVec.xor_self]
    unfold chg
    rw [if_neg (by omega)]
  refine ⟨10 * l.length + 30, ?_⟩
  unfold scarablaw01_OctetBurst.f
  refine bindI (own_val l (by omega)) ?_
  by_cases h : a < 0 ∨ a > (l.length : Int)
  · exact burst_out l l a T hl (h0 0) h 4 0 rfl _ (by omega)
  · obtain ⟨a, rfl⟩ := Int.eq_ofNat_of_zero_le (show 0 ≤ a by omega)
    exact burst_loop l T a hl (by omega) 4 0 0 l false rfl (by omega) (h0 a) (by simp [Nat.mod_one]) _ (by omega)
end Go.Proofs.Ytkolpnilgpmoiaa.Pure
