/- Numbers in bytes, seven bits a byte: what Put, Bytes and both Gets compute, told of one list of bytes 'enc' and one reader 'gt'. -/
import Derived.Test.YtkolpnilgpmoiaaZZig
import Derived.Test.YtkolpnilgpmoiaaZ2
import Derived.Test.YtkolpnilgpmoiaaZ1
namespace Go.Proofs.Ytkolpnilgpmoiaa.Codec
open Go.RowKit Go.Proofs.Ytkolpnilgpmoiaa.Z Go.Proofs.YtkolpnilgpmoiaaW.PrintWords Go.Proofs.Ytkolpnilgpmoiaa.Bits

/-- The bytes of a number. -/
def enc : Nat → Nat → List Int
  | 0, x => [(x : Int)]
  | d + 1, x => if x < 128 then [(x : Int)] else ((x % 128 + 128 : Nat) : Int) :: enc d (x / 128)

theorem enc_big (d x : Nat) (h : 128 ≤ x) : enc (d + 1) x = ((x % 128 + 128 : Nat) : Int) :: enc d (x / 128) := by
  simp only [enc]; rw [if_neg (by omega)]
theorem enc_small (d x : Nat) (h : x < 128) : enc d x = [(x : Int)] := by
  cases d with
  | zero => rfl
  | succ d => simp only [enc]; rw [if_pos h]
theorem enc_len (d : Nat) : ∀ x, (enc d x).length ≤ d + 1 := by
  induction d with
  | zero => intro x; simp [enc]
  | succ d ih =>
    intro x
    simp only [enc]
    split
    · simp
    · have := ih (x / 128); simp; omega
theorem enc_pos (d x : Nat) : 0 < (enc d x).length := by
  cases d with
  | zero => simp [enc]
  | succ d => simp only [enc]; split <;> simp

theorem or128 (y : Int) (h0 : 0 ≤ y) (h1 : y < 256) : Go.bits .or .u8 y 128 = y % 128 + 128 := by
  have : ∀ i : Fin 256, Go.bits .or .u8 (i.val : Int) 128 = (i.val : Int) % 128 + 128 := by decide +kernel
  obtain ⟨n, rfl⟩ := Int.eq_ofNat_of_zero_le h0
  exact this ⟨n, by omega⟩
theorem and127 (y : Int) (h0 : 0 ≤ y) (h1 : y < 256) : Go.bits .and .u8 y 127 = y % 128 := by
  have : ∀ i : Fin 256, Go.bits .and .u8 (i.val : Int) 127 = (i.val : Int) % 128 := by decide +kernel
  obtain ⟨n, rfl⟩ := Int.eq_ofNat_of_zero_le h0
  exact this ⟨n, by omega⟩

theorem put_loop (d : Nat) : ∀ (x : Nat) (l : List Int), x < 128 ^ (d + 1) → l.length + d < 140737488355328 → ∀ k, d < k → octet_Put.l0 k x l = some (l ++ enc d x) := by
  induction d with
  | zero =>
    intro x l hx hl k hk
    obtain ⟨k, rfl⟩ : ∃ m, k = m + 1 := ⟨k - 1, by omega⟩
    simp only [octet_Put.l0]
    rw [if_neg (by omega), if_pos (by omega), enc_small 0 x (by omega), Int.emod_eq_of_lt (by omega) (by omega)]
  | succ d ih =>
    intro x l hx hl k hk
    obtain ⟨k, rfl⟩ : ∃ m, k = m + 1 := ⟨k - 1, by omega⟩
    simp only [octet_Put.l0]
    by_cases h : x < 128
    · rw [if_neg (by omega), if_pos (by omega), enc_small _ x h, Int.emod_eq_of_lt (by omega) (by omega)]
    · rw [if_pos (by omega), if_pos (by omega), or128 _ (by omega) (by omega), enc_big d x (by omega), show (x : Int) / 128 = ((x / 128 : Nat) : Int) by omega,
        ih (x / 128) _ (by rw [Nat.pow_succ] at hx; omega) (by simp; omega) k (by omega)]
      simp only [List.append_assoc, List.singleton_append]
      congr 3
      omega
theorem bytes_loop (d : Nat) : ∀ (x : Nat) (l : List Int), x < 128 ^ (d + 1) → x < 18446744073709551616 → l.length + d < 140737488355328 → ∀ k, d < k → scarabref01_Bytes.l0 k x l = some (l ++ enc d x) := by
  induction d with
  | zero =>
    intro x l hx hx2 hl k hk
    obtain ⟨k, rfl⟩ : ∃ m, k = m + 1 := ⟨k - 1, by omega⟩
    simp only [scarabref01_Bytes.l0]
    rw [if_neg (by omega), if_pos (by omega), enc_small 0 x (by omega), Int.emod_eq_of_lt (by omega) (by omega)]
  | succ d ih =>
    intro x l hx hx2 hl k hk
    obtain ⟨k, rfl⟩ : ∃ m, k = m + 1 := ⟨k - 1, by omega⟩
    simp only [scarabref01_Bytes.l0]
    by_cases h : x < 128
    · rw [if_neg (by omega), if_pos (by omega), enc_small _ x h, Int.emod_eq_of_lt (by omega) (by omega)]
    · rw [if_pos (by omega), if_pos (by omega), enc_big d x (by omega), Int.tdiv_eq_ediv_of_nonneg (by omega), Int.tmod_eq_emod_of_nonneg (by omega), show (x : Int) / 128 = ((x / 128 : Nat) : Int) by omega,
        u64_id (by omega) (by omega), ih (x / 128) _ (by rw [Nat.pow_succ] at hx; omega) (by omega) (by simp; omega) k (by omega)]
      simp only [List.append_assoc, List.singleton_append]
      congr 3
      omega

/-- The bytes of a word. -/
def ten (x : Nat) : List Int := enc 9 x
theorem ten_len (x : Nat) : (ten x).length ≤ 10 := enc_len 9 x
theorem put_val (l : List Int) (x : Nat) (hx : x < 18446744073709551616) (hl : l.length ≤ 140737488351300) (k : Nat) (hk : 9 < k) : octet_Put.f k l x = some (l ++ ten x) := by
  unfold octet_Put.f
  have e : wrap64 ((l.length : Int) + 10) = (l.length : Int) + 10 := by unfold wrap64; omega
  rw [e, if_pos (by omega), if_pos (by omega)]
  simp only [Option.bind_some, List.length_nil, List.nil_append]
  rw [if_pos (by omega), put_loop 9 x l (by simp only [Nat.reducePow, Nat.reduceAdd]; omega) (by omega) k hk]
  rfl
theorem bytes_val (x : Nat) (hx : x < 18446744073709551616) (k : Nat) (hk : 9 < k) : scarabref01_Bytes.f k x = some (ten x) := by
  unfold scarabref01_Bytes.f
  rw [bytes_loop 9 x [] (by simp only [Nat.reducePow, Nat.reduceAdd]; omega) hx (by simp) k hk]
  rfl

/-- What a reader of a number tells: round j, what was read so far; f rounds are left. -/
def gt (l : List Int) (at_ : Nat) : Nat → Nat → Int → Int × Int × Int
  | 0, _, _ => (0, 0, 11)
  | f + 1, j, x =>
    if l.length ≤ at_ + j then (0, 0, 10)
    else if j = 9 ∧ 1 < rd l ((at_ + j : Nat) : Int) then (0, 0, 11)
    else if 128 ≤ rd l ((at_ + j : Nat) : Int) then gt l at_ f (j + 1) (x + (rd l ((at_ + j : Nat) : Int) - 128) * 128 ^ j)
    else if rd l ((at_ + j : Nat) : Int) = 0 ∧ 0 < j then (0, 0, 12)
    else (x + rd l ((at_ + j : Nat) : Int) * 128 ^ j, ((at_ + j + 1 : Nat) : Int), 0)

def bytes (l : List Int) : Prop := ∀ i, 0 ≤ rd l i ∧ rd l i < 256
theorem bytes_of {l : List Int} (h : ∀ x ∈ l, (Lit.int .u8 x).wf = true) : bytes l := by
  intro i
  unfold rd
  rw [List.getD_eq_getElem?_getD]
  by_cases hi : i.toNat < l.length
  · rw [List.getElem?_eq_getElem hi]
    have := h _ (List.getElem_mem hi)
    simp [Lit.wf, IntKind.min, IntKind.max, IntKind.signed, IntKind.bits] at this
    simp only [Option.getD_some]
    omega
  · rw [List.getElem?_eq_none (by omega)]
    simp

theorem pow128 (j : Nat) : (128 : Int) ^ j = 2 ^ (7 * j) := by rw [Int.pow_mul]; rfl
theorem pow_nat (j : Nat) : ((2 : Int) ^ j) = ((2 ^ j : Nat) : Int) := by rw [Int.natCast_pow]; rfl

theorem or_high (x c : Int) (j : Nat) (hx0 : 0 ≤ x) (hx : x < 128 ^ j) (hc0 : 0 ≤ c) (hj : c * 128 ^ j < 18446744073709551616) (hj9 : j ≤ 9) :
    Go.bits .or .u64 x (shl .u64 c (7 * (j : Int))) = x + c * 128 ^ j := by
  rw [pow128] at *
  rw [shl_u]
  have e : (7 * (j : Int)).toNat = 7 * j := by omega
  rw [e, or_u, of_toNat]
  obtain ⟨x, rfl⟩ := Int.eq_ofNat_of_zero_le hx0
  obtain ⟨c, rfl⟩ := Int.eq_ofNat_of_zero_le hc0
  rw [pow_nat] at *
  have hx' : x < 2 ^ (7 * j) := by omega
  have hj' : c * 2 ^ (7 * j) < 18446744073709551616 := by
    have : ((c * 2 ^ (7 * j) : Nat) : Int) < 18446744073709551616 := by rw [Int.natCast_mul]; exact hj
    omega
  have h7 : 2 ^ (7 * j) ≤ 2 ^ 63 := Nat.pow_le_pow_right (by decide) (by omega)
  have t1 : (of (x : Int)).toNat = x := by have := toNat_of (x := (x : Int)) (by omega) (by omega); omega
  have hc : c < 18446744073709551616 := by
    have : c * 1 ≤ c * 2 ^ (7 * j) := Nat.mul_le_mul_left _ Nat.one_le_two_pow
    omega
  have t2 : (of (c : Int)).toNat = c := by have := toNat_of (x := (c : Int)) (by omega) (by omega); omega
  have e2 : (of (x : Int) ||| of (c : Int) <<< (7 * j)).toNat = x + c * 2 ^ (7 * j) := by
    rw [BitVec.toNat_or, BitVec.toNat_shiftLeft, t1, t2, Nat.shiftLeft_eq, Nat.mod_eq_of_lt hj', Nat.or_comm, Nat.mul_comm, ← Nat.two_pow_add_eq_or_of_lt hx']
    omega
  rw [e2, Int.natCast_add, Int.natCast_mul]

theorem get_loop (l : List Int) (hb : bytes l) (at_ : Nat) (ha : at_ ≤ l.length) (hl : l.length ≤ 140737488351300) (f : Nat) : ∀ (j : Nat) (x : Int), j + f = 10 → 0 ≤ x → x < 128 ^ j → ∀ k, 2 * f < k →
    octet_Get.l0 k l at_ x j = some (gt l at_ f j x) := by
  induction f with
  | zero =>
    intro j x hj h0 h1 k hk
    obtain ⟨k, rfl⟩ : ∃ m, k = m + 1 := ⟨k - 1, by omega⟩
    simp only [octet_Get.l0, gt]
    rw [if_neg (by omega)]
  | succ f ih =>
    intro j x hj h0 h1 k hk
    obtain ⟨k, rfl⟩ : ∃ m, k = m + 2 := ⟨k - 2, by omega⟩
    have e : wrap64 ((at_ : Int) + (j : Int)) = ((at_ + j : Nat) : Int) := by unfold wrap64; omega
    have hc := hb ((at_ + j : Nat) : Int)
    simp only [octet_Get.l0, gt]
    rw [if_pos (by omega), e]
    by_cases h2 : l.length ≤ at_ + j
    · rw [if_pos (by omega), if_pos h2]
    · rw [if_neg (by omega), if_pos (by omega), if_pos (by omega), if_neg h2]
      generalize rd l ((at_ + j : Nat) : Int) = c at hc ⊢
      have e7 : wrap64 (7 * (j : Int)) = 7 * (j : Int) := by unfold wrap64; omega
      have step : ∀ b : Bool, b = decide (j = 9 ∧ 1 < c) → octet_Get.j2 (k + 1) l at_ x j c j b = some (if j = 9 ∧ 1 < c then (0, 0, 11) else if 128 ≤ c then gt l at_ f (j + 1) (x + (c - 128) * 128 ^ j) else if c = 0 ∧ 0 < j then (0, 0, 12) else (x + c * 128 ^ j, ((at_ + j + 1 : Nat) : Int), 0)) := by
        intro b hbb
        subst hbb
        simp only [octet_Get.j2]
        by_cases h9 : j = 9 ∧ 1 < c
        · rw [decide_eq_true h9, if_pos rfl, if_pos h9]
        · rw [decide_eq_false h9, if_neg (by decide), if_neg h9, e7, if_pos (by omega), and127 c hc.1 hc.2, u64_id (by omega) (by omega)]
          have hp : (128 : Int) ^ j ≤ 9223372036854775808 := by
            rw [pow128, pow_nat]
            have : 2 ^ (7 * j) ≤ 2 ^ 63 := Nat.pow_le_pow_right (by decide) (by omega)
            omega
          have hp0 : (0 : Int) < 128 ^ j := by rw [pow128, pow_nat]; have := Nat.two_pow_pos (7 * j); omega
          have hm : c % 128 * 128 ^ j < 18446744073709551616 := by
            by_cases hj9 : j = 9
            · have hc1 : c ≤ 1 := by omega
              have : c % 128 * 128 ^ j ≤ 1 * 128 ^ j := Int.mul_le_mul_of_nonneg_right (by omega) (by omega)
              omega
            · have hp8 : (128 : Int) ^ j ≤ 72057594037927936 := by
                rw [pow128, pow_nat]
                have : 2 ^ (7 * j) ≤ 2 ^ 56 := Nat.pow_le_pow_right (by decide) (by omega)
                omega
              have : c % 128 * 128 ^ j ≤ 127 * 128 ^ j := Int.mul_le_mul_of_nonneg_right (by omega) (by omega)
              omega
          rw [or_high x (c % 128) j h0 h1 (by omega) hm (by omega)]
          have e1 : wrap64 (wrap64 ((at_ : Int) + (j : Int)) + 1) = ((at_ + j + 1 : Nat) : Int) := by rw [e]; unfold wrap64; omega
          rw [e1]
          by_cases h3 : c < 128
          · rw [if_pos h3, if_neg (show ¬ 128 ≤ c by omega), Int.emod_eq_of_lt hc.1 h3]
            by_cases h4 : c = 0
            · rw [if_pos h4]
              by_cases h5 : 0 < j
              · rw [if_pos (by omega), if_pos ⟨h4, h5⟩]
              · rw [if_neg (by omega), if_neg (fun h => h5 h.2)]
            · rw [if_neg h4, if_neg (fun h => h4 h.1)]
          · rw [if_neg h3, if_pos (by omega), show wrap64 ((j : Int) + 1) = ((j + 1 : Nat) : Int) by unfold wrap64; omega, show c % 128 = c - 128 by omega]
            refine ih (j + 1) _ (by omega) ?_ ?_ k (by omega)
            · have := Int.mul_nonneg (show 0 ≤ c - 128 by omega) (Int.le_of_lt hp0)
              omega
            · rw [Int.pow_succ]
              have : (c - 128) * 128 ^ j ≤ 127 * 128 ^ j := Int.mul_le_mul_of_nonneg_right (by omega) (by omega)
              omega
      by_cases h9 : j = 9
      · rw [if_pos (by omega)]
        exact step _ (by simp [h9])
      · rw [if_neg (by omega)]
        exact step _ (by simp [h9])
theorem get_val (l : List Int) (hb : bytes l) (hl : l.length ≤ 140737488351300) (a : Int) (k : Nat) (hk : 22 < k) :
    octet_Get.f k l a = some (if 0 ≤ a ∧ a ≤ l.length then gt l a.toNat 10 0 0 else (0, 0, 1)) := by
  obtain ⟨k, rfl⟩ : ∃ m, k = m + 1 := ⟨k - 1, by omega⟩
  unfold octet_Get.f
  by_cases h : 0 ≤ a ∧ a ≤ l.length
  · rw [if_neg (by omega), decide_eq_false (by omega), if_pos h]
    simp only [octet_Get.j0]
    rw [if_neg (by decide)]
    obtain ⟨n, rfl⟩ := Int.eq_ofNat_of_zero_le h.1
    rw [Int.toNat_natCast]
    exact get_loop l hb n (by omega) hl 10 0 0 rfl (by decide) (by decide) k (by omega)
  · rw [if_neg h]
    by_cases h2 : a < 0
    · rw [if_pos h2]; simp only [octet_Get.j0]; rw [if_pos trivial]
    · rw [if_neg h2, decide_eq_true (by omega)]; simp only [octet_Get.j0]; rw [if_pos trivial]
end Go.Proofs.Ytkolpnilgpmoiaa.Codec
