/- What the reference's Get computes, told by the bytes; zigzag back. -/
import Derived.Test.YtkolpnilgpmoiaaZCodec2
import Derived.Test.YtkolpnilgpmoiaaZ1
import Derived.Test.YtkolpnilgpmoiaaZ2
namespace Go.Proofs.Ytkolpnilgpmoiaa.Pure
open Go.RowKit Go.Proofs.Ytkolpnilgpmoiaa.Z Go.Proofs.YtkolpnilgpmoiaaW.PrintWords Go.Proofs.Ytkolpnilgpmoiaa.Bits Go.Proofs.Ytkolpnilgpmoiaa.Codec

theorem ref_get_loop (l : List Int) (hb : Codec.bytes l) (at_ : Nat) (ha : at_ ≤ l.length) (hl : l.length ≤ 140737488351300) (f : Nat) : ∀ (j : Nat) (x : Int), j + f = 9 → 0 ≤ x → x < 128 ^ j → ∀ k, 2 * f + 2 < k →
    scarabref01_Get.l0 k l at_ x (128 ^ j) j = some (gt l at_ (f + 1) j x) := by
  have key : ∀ (f j : Nat) (x : Int), j + f = 9 → 0 ≤ x → x < 128 ^ j → ∀ k,
      (∀ c : Int, 128 ≤ c → c < 256 → j < 9 → scarabref01_Get.l0 k l at_ (x + (c - 128) * 128 ^ j) (128 ^ (j + 1)) ((j + 1 : Nat) : Int) = some (gt l at_ f (j + 1) (x + (c - 128) * 128 ^ j))) →
      scarabref01_Get.l0 (k + 2) l at_ x (128 ^ j) j = some (gt l at_ (f + 1) j x) := by
    intro f j x hj h0 h1 k ih
    have e : wrap64 ((at_ : Int) + (j : Int)) = ((at_ + j : Nat) : Int) := by unfold wrap64; omega
    have hc := hb ((at_ + j : Nat) : Int)
    have hp : (128 : Int) ^ j ≤ 9223372036854775808 := by
      rw [pow128, pow_nat]
      have : 2 ^ (7 * j) ≤ 2 ^ 63 := Nat.pow_le_pow_right (by decide) (by omega)
      omega
    have hp0 : (0 : Int) < 128 ^ j := by rw [pow128, pow_nat]; have := Nat.two_pow_pos (7 * j); omega
    rw [scarabref01_Get.l0, gt, e]
    by_cases h2 : l.length ≤ at_ + j
    · rw [if_pos (by omega), if_pos h2]
    rw [if_neg (by omega), if_pos (by omega), if_pos (by omega), if_neg h2]
    generalize rd l ((at_ + j : Nat) : Int) = c at hc ⊢
    have step : ∀ b : Bool, b = decide (j = 9 ∧ 1 < c) → scarabref01_Get.j2 (k + 1) l at_ x (128 ^ j) j c b = some (if j = 9 ∧ 1 < c then (0, 0, 11) else if 128 ≤ c then gt l at_ f (j + 1) (x + (c - 128) * 128 ^ j) else if c = 0 ∧ 0 < j then (0, 0, 12) else (x + c * 128 ^ j, ((at_ + j + 1 : Nat) : Int), 0)) := by
      intro b hbb
      subst hbb
      rw [scarabref01_Get.j2]
      by_cases h9 : j = 9 ∧ 1 < c
      · rw [decide_eq_true h9, if_pos rfl, if_pos h9]
      rw [decide_eq_false h9, if_neg (by decide), if_neg h9]
      by_cases h3 : c ≥ 128
      · have hj9 : j < 9 := by omega
        have hp8 : (128 : Int) ^ j ≤ 72057594037927936 := by
          rw [pow128, pow_nat]
          have : 2 ^ (7 * j) ≤ 2 ^ 56 := Nat.pow_le_pow_right (by decide) (by omega)
          omega
        have hm : (c - 128) * 128 ^ j ≤ 127 * 128 ^ j := Int.mul_le_mul_of_nonneg_right (by omega) (by omega)
        have hm0 := Int.mul_nonneg (show 0 ≤ c - 128 by omega) (Int.le_of_lt hp0)
        rw [if_pos h3, if_pos h3, Int.emod_eq_of_lt (show 0 ≤ c - 128 by omega) (by omega), u64_id (n := (c - 128) * 128 ^ j) (by omega) (by omega), u64_id (n := x + (c - 128) * 128 ^ j) (by omega) (by omega),
          u64_id (n := 128 ^ j * 128) (by omega) (by omega), show wrap64 ((j : Int) + 1) = ((j + 1 : Nat) : Int) by unfold wrap64; omega, ← Int.pow_succ]
        exact ih c h3 hc.2 hj9
      · have hm : c * 128 ^ j ≤ 127 * 128 ^ j := Int.mul_le_mul_of_nonneg_right (by omega) (by omega)
        have hm0 := Int.mul_nonneg hc.1 (Int.le_of_lt hp0)
        have hlt : x + c * 128 ^ j < 18446744073709551616 := by
          by_cases hj9 : j = 9
          · have : c * 128 ^ j ≤ 1 * 128 ^ j := Int.mul_le_mul_of_nonneg_right (by omega) (by omega)
            omega
          · have hp8 : (128 : Int) ^ j ≤ 72057594037927936 := by
              rw [pow128, pow_nat]
              have : 2 ^ (7 * j) ≤ 2 ^ 56 := Nat.pow_le_pow_right (by decide) (by omega)
              omega
            omega
        have e1 : wrap64 (wrap64 ((at_ : Int) + (j : Int)) + 1) = ((at_ + j + 1 : Nat) : Int) := by rw [e]; unfold wrap64; omega
        rw [if_neg h3, if_neg h3, u64_id (n := c) (by omega) (by omega), u64_id (n := c * 128 ^ j) (by omega) (by omega), u64_id (n := x + c * 128 ^ j) (by omega) (by omega), e1]
        by_cases h4 : c = 0
        · rw [if_pos h4]
          by_cases h5 : 0 < j
          · rw [if_pos (by omega), if_pos ⟨h4, h5⟩]
          · rw [if_neg (by omega), if_neg (fun h => h5 h.2)]
        · rw [if_neg h4, if_neg (fun h => h4 h.1)]
    by_cases h9 : j = 9
    · rw [if_pos (by omega)]
      exact step _ (by simp [h9])
    · rw [if_neg (by omega)]
      exact step _ (by simp [h9])
  induction f with
  | zero =>
    intro j x hj h0 h1 k hk
    obtain ⟨k, rfl⟩ : ∃ m, k = m + 2 := ⟨k - 2, by omega⟩
    exact key 0 j x hj h0 h1 k (fun c _ _ h => by omega)
  | succ f ih =>
    intro j x hj h0 h1 k hk
    obtain ⟨k, rfl⟩ : ∃ m, k = m + 2 := ⟨k - 2, by omega⟩
    refine key (f + 1) j x hj h0 h1 k (fun c hc1 hc2 hj9 => ih (j + 1) _ (by omega) ?_ ?_ k (by omega))
    · have hp0 : (0 : Int) < 128 ^ j := by rw [pow128, pow_nat]; have := Nat.two_pow_pos (7 * j); omega
      have := Int.mul_nonneg (show 0 ≤ c - 128 by omega) (Int.le_of_lt hp0)
      omega
    · rw [Int.pow_succ]
      have hp0 : (0 : Int) < 128 ^ j := by rw [pow128, pow_nat]; have := Nat.two_pow_pos (7 * j); omega
      have : (c - 128) * 128 ^ j ≤ 127 * 128 ^ j := Int.mul_le_mul_of_nonneg_right (by omega) (by omega)
      omega

theorem ref_get_val (l : List Int) (hb : Codec.bytes l) (hl : l.length ≤ 140737488351300) (a : Int) (k : Nat) (hk : 22 < k) :
    scarabref01_Get.f k l a = some (if 0 ≤ a ∧ a ≤ l.length then gt l a.toNat 10 0 0 else (0, 0, 1)) := by
  obtain ⟨k, rfl⟩ : ∃ m, k = m + 1 := ⟨k - 1, by omega⟩
  unfold scarabref01_Get.f
  by_cases h : 0 ≤ a ∧ a ≤ l.length
  · rw [if_neg (by omega), decide_eq_false (by omega), if_pos h, scarabref01_Get.j0, if_neg (by decide)]
    obtain ⟨n, rfl⟩ := Int.eq_ofNat_of_zero_le h.1
    rw [Int.toNat_natCast]
    exact ref_get_loop l hb n (by omega) hl 9 0 0 rfl (by decide) (by decide) k (by omega)
  · rw [if_neg h]
    by_cases h2 : a < 0
    · rw [if_pos h2, scarabref01_Get.j0, if_pos rfl]
    · rw [if_neg h2, decide_eq_true (by omega), scarabref01_Get.j0, if_pos rfl]

theorem gt_form (l : List Int) (hb : Codec.bytes l) (at_ : Nat) (v n e : Int) (h : gt l at_ 10 0 0 = (v, n, e)) : (e ≠ 0 ∧ v = 0 ∧ n = 0) ∨ (e = 0 ∧ 0 ≤ v ∧ v < 18446744073709551616) := by
  by_cases he : e = 0
  · subst he
    obtain ⟨y, m, rfl, rfl, hy, _⟩ := gt_once l hb at_ 9 0 0 v n rfl h
    simp only [Nat.reducePow, Nat.reduceMul] at hy
    right
    rw [Int.pow_zero, Int.mul_one, Int.zero_add]
    exact ⟨rfl, by omega, by omega⟩
  · refine .inl ⟨he, ?_⟩
    have : ∀ (f j : Nat) (x : Int), gt l at_ f j x = (v, n, e) → v = 0 ∧ n = 0 := by
      intro f
      induction f with
      | zero => intro j x h; simp [gt] at h; omega
      | succ f ih =>
        intro j x h
        rw [gt] at h
        split at h
        · simp at h; omega
        split at h
        · simp at h; omega
        split at h
        · exact ih _ _ h
        split at h
        · simp at h; omega
        · simp only [Prod.mk.injEq] at h; omega
    exact this _ _ _ h
theorem ref_zag (u : Nat) (hu : u < 18446744073709551616) : scarabref01_Zag.f u = octet_Zag.f u := by
  rw [zag_val u hu]
  unfold scarabref01_Zag.f
  rw [Int.tmod_eq_emod_of_nonneg (by omega), Int.tdiv_eq_ediv_of_nonneg (by omega), show (u : Int) / 2 = ((u / 2 : Nat) : Int) by omega, u64_id (by omega) (by omega), show wrap64 ((u / 2 : Nat) : Int) = ((u / 2 : Nat) : Int) by unfold wrap64; omega]
  by_cases h : u % 2 = 0
  · rw [if_neg (by omega), if_pos h]
  · rw [if_pos (by omega), if_neg h]
    congr 1
    unfold wrap64; omega

end Go.Proofs.Ytkolpnilgpmoiaa.Pure
