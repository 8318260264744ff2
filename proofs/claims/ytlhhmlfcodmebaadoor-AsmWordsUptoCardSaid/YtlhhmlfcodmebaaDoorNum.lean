/- Numbers in digits: what is written is read, and by hand it comes out the same. No condition but that an int64 holds the number. -/
import Derived.Lib.ItoaNum
import Derived.Lib.ItoaLen
import Derived.Lib.ParseIntB
import Derived.Lib.AtoiAll
namespace Go.Proofs.YtlhhmlfcodmebaaDoor.Num
open Go.Lib
theorem dig_toNat (d : Nat) (h : d < 10) : (UInt8.ofNat (48 + d)).toNat = 48 + d := by
  rw [UInt8.toNat_ofNat']
  omega
theorem digs_all (u : Nat) : ∀ c ∈ decDigits u, 48 ≤ c.toNat ∧ c.toNat ≤ 57 := by
  induction u using Nat.strongRecOn with
  | ind u ih =>
    intro c hc
    by_cases h : u < 10
    · rw [decDigits_one h] at hc
      simp only [List.mem_singleton] at hc
      subst hc
      rw [dig_toNat u h]; omega
    · rw [decDigits, dif_neg h] at hc
      rcases List.mem_append.1 hc with hc | hc
      · exact ih (u / 10) (by omega) c hc
      · simp only [List.mem_singleton] at hc
        subst hc
        rw [dig_toNat _ (by omega)]; omega
theorem digs_ne (u : Nat) : decDigits u ≠ [] := by
  intro h
  have := decDigits_length u
  have := nDigits_pos u
  rw [h] at *
  simp at *
  omega
theorem parse_digs (M : Nat) (hM : M < 18446744073709551616) (u : Nat) : ∀ (acc : Nat) (r : List UInt8), acc * 10 ^ nDigits u + u ≤ M → parseUintM M acc (decDigits u ++ r) = parseUintM M (acc * 10 ^ nDigits u + u) r := by
  induction u using Nat.strongRecOn with
  | ind u ih =>
    intro acc r h
    by_cases hu : u < 10
    · rw [decDigits_one hu]
      rw [nDigits_small hu] at h ⊢
      simp only [Nat.pow_one] at h ⊢
      rw [List.singleton_append, parseUintM, dig_toNat u hu, if_pos (by omega), if_neg (by omega), if_neg (by omega)]
      congr 1
      omega
    · have hd : decDigits u = decDigits (u / 10) ++ [UInt8.ofNat (48 + u % 10)] := by rw [decDigits, dif_neg hu]
      have hn := nDigits_big hu
      rw [hn, Nat.pow_succ, ← Nat.mul_assoc] at h ⊢
      generalize hp : acc * 10 ^ nDigits (u / 10) = p at h ⊢
      have hi := ih (u / 10) (by omega) acc ([UInt8.ofNat (48 + u % 10)] ++ r) (by rw [hp]; omega)
      rw [hd, List.append_assoc, hi, hp, List.singleton_append, parseUintM, dig_toNat _ (by omega), if_pos (by omega), if_neg (by omega), if_neg (by omega)]
      congr 1
      omega
theorem parse_dec (u : Nat) (h : u < 18446744073709551616) : parseUintB 64 (decDigits u) = .ok u := by
  unfold parseUintB
  rw [if_neg (digs_ne u)]
  have := parse_digs (2 ^ 64 - 1) (by decide) u 0 [] (by simp; omega)
  rw [List.append_nil] at this
  rw [this, parseUintM]
  simp
theorem parse_neg (r : List UInt8) (u : Nat) (h : parseUintB 64 r = .ok u) (hu : u ≤ 9223372036854775808) : parseIntB 64 (45 :: r) = .ok (-(u : Int)) := by
  unfold parseIntB
  dsimp only
  rw [if_pos (by decide), h]
  dsimp only
  rw [if_neg (fun k => k.1 (by decide)), if_neg (fun k => absurd k.2 (by omega)), if_pos (by decide)]
theorem parse_pos (c : UInt8) (r : List UInt8) (u : Nat) (h : parseUintB 64 (c :: r) = .ok u) (h43 : ¬ c.toNat = 43) (h45 : ¬ c.toNat = 45) (hu : u < 9223372036854775808) : parseIntB 64 (c :: r) = .ok (u : Int) := by
  unfold parseIntB
  dsimp only
  rw [if_neg (by omega), h]
  dsimp only
  rw [if_neg (fun k => absurd k.2 (by omega)), if_neg (fun k => h45 k.1), if_neg h45]
/-- What FormatInt writes ParseInt reads. -/
theorem parse_itoa (x : Int) (h0 : -9223372036854775808 ≤ x) (h1 : x ≤ 9223372036854775807) : parseIntB 64 (itoa x) = .ok x := by
  unfold itoa
  by_cases hx : x < 0
  · rw [if_pos hx, parse_neg _ _ (parse_dec _ (by omega)) (by omega)]
    congr 1
    omega
  · rw [if_neg hx]
    have ha := digs_all x.toNat
    have hp := parse_dec x.toNat (by omega)
    cases hl : decDigits x.toNat with
    | nil => exact absurd hl (digs_ne _)
    | cons c r =>
      have hc := ha c (by rw [hl]; simp)
      rw [hl] at hp
      rw [parse_pos c r _ hp (by omega) (by omega) (by omega)]
      congr 1
      omega
/-- It never begins with "0x". -/
theorem no_hex (x : Int) : ¬ (itoa x).take 2 = [48, 120] := by
  intro h
  unfold itoa at h
  by_cases hx : x < 0
  · rw [if_pos hx] at h
    simp at h
  · rw [if_neg hx] at h
    have : (120 : UInt8) ∈ (decDigits x.toNat).take 2 := by rw [h]; simp
    have := digs_all x.toNat _ (List.mem_of_mem_take this)
    exact absurd this (by decide)
theorem decDigits_len (m : Nat) (h : m < 18446744073709551616) : (decDigits m).length ≤ 20 := by
  rw [decDigits_length]; exact nDigits_le20 m h
/-- Digit by digit, from the end: how far a loop has come. -/
def Far (m u : Nat) (s : List UInt8) : Prop := (u = 0 → s = decDigits m) ∧ (u ≠ 0 → decDigits m = decDigits u ++ s) ∧ u ≤ m
theorem far_start (m : Nat) (h : m ≠ 0) : Far m m [] := ⟨fun k => absurd k h, fun _ => by simp, Nat.le_refl _⟩
theorem far_step (m u : Nat) (s : List UInt8) (hu : u ≠ 0) (h : Far m u s) : Far m (u / 10) (UInt8.ofNat (48 + u % 10) :: s) := by
  obtain ⟨_, h2, h3⟩ := h
  have e := h2 hu
  by_cases h10 : u < 10
  · rw [decDigits_one h10] at e
    refine ⟨fun _ => ?_, fun k => absurd (by omega) k, by omega⟩
    rw [e, Nat.mod_eq_of_lt h10]
    rfl
  · have hd : decDigits u = decDigits (u / 10) ++ [UInt8.ofNat (48 + u % 10)] := by rw [decDigits, dif_neg h10]
    refine ⟨fun k => absurd k (by omega), fun _ => ?_, by omega⟩
    rw [e, hd]
    simp
end Go.Proofs.YtlhhmlfcodmebaaDoor.Num
