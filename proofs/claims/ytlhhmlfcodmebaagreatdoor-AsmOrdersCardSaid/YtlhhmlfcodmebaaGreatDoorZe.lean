/- Several texts of one proof, one behind the other. Numbers in digits: what is written is read, and by hand it comes out the same. No condition but that an int64 holds the number. | The number that a word says, plainly: by reading and writing it again, and as the reference goes, digit by digit. No condition. | The words of a line, plainly: byte by byte, as the reference goes, and as the library's FieldsFunc cuts the part ahead of the first semicolon. No condition. -/
import Derived.Lib.ItoaNum
import Derived.Lib.ItoaLen
import Derived.Lib.ParseIntB
import Derived.Lib.AtoiAll
import Derived.WalkKit
import Derived.Lib.FieldsP
import Derived.Lib.IndexMore
namespace Go.Proofs.YtlhhmlfcodmebaaGreatDoor.Num
set_option linter.unusedVariables false
set_option linter.unusedSimpArgs false
open Go.Lib
theorem dig_toNat (d : Nat) (h : d < 10) : (UInt8.ofNat (48 + d)).toNat = 48 + d := by
  rw [UInt8.toNat_ofNat']
  omega
theorem digs_all (u : Nat) : ∀ c ∈ decDigits u, 48 ≤ c.toNat ∧ c.toNat ≤ 57 := by
  induction u using Nat.strongRecOn with
  | ind u ih =>
    intro c hc
    by_cases h : u < 10
    · rw [decDigits_one h] at hc
      simp only [List.mem_singleton] at hc
      subst hc
      rw [dig_toNat u h]; omega
    · rw [decDigits, dif_neg h] at hc
      rcases List.mem_append.1 hc with hc | hc
      · exact ih (u / 10) (by omega) c hc
      · simp only [List.mem_singleton] at hc
        subst hc
        rw [dig_toNat _ (by omega)]; omega
theorem digs_ne (u : Nat) : decDigits u ≠ [] := by
  intro h
  have := decDigits_length u
  have := nDigits_pos u
  rw [h] at *
  simp at *
  omega
theorem parse_digs (M : Nat) (hM : M < 18446744073709551616) (u : Nat) : ∀ (acc : Nat) (r : List UInt8), acc * 10 ^ nDigits u + u ≤ M → parseUintM M acc (decDigits u ++ r) = parseUintM M (acc * 10 ^ nDigits u + u) r := by
  induction u using Nat.strongRecOn with
  | ind u ih =>
    intro acc r h
    by_cases hu : u < 10
    · rw [decDigits_one hu]
      rw [nDigits_small hu] at h ⊢
      simp only [Nat.pow_one] at h ⊢
      rw [List.singleton_append, parseUintM, dig_toNat u hu, if_pos (by omega), if_neg (by omega), if_neg (by omega)]
      congr 1
      omega
    · have hd : decDigits u = decDigits (u / 10) ++ [UInt8.ofNat (48 + u % 10)] := by rw [decDigits, dif_neg hu]
      have hn := nDigits_big hu
      rw [hn, Nat.pow_succ, ← Nat.mul_assoc] at h ⊢
      generalize hp : acc * 10 ^ nDigits (u / 10) = p at h ⊢
      have hi := ih (u / 10) (by omega) acc ([UInt8.ofNat (48 + u % 10)] ++ r) (by rw [hp]; omega)
      rw [hd, List.append_assoc, hi, hp, List.singleton_append, parseUintM, dig_toNat _ (by omega), if_pos (by omega), if_neg (by omega), if_neg (by omega)]
      congr 1
      omega
theorem parse_dec (u : Nat) (h : u < 18446744073709551616) : parseUintB 64 (decDigits u) = .ok u := by
  unfold parseUintB
  rw [if_neg (digs_ne u)]
  have := parse_digs (2 ^ 64 - 1) (by decide) u 0 [] (by simp; omega)
  rw [List.append_nil] at this
  rw [this, parseUintM]
  simp
theorem parse_neg (r : List UInt8) (u : Nat) (h : parseUintB 64 r = .ok u) (hu : u ≤ 9223372036854775808) : parseIntB 64 (45 :: r) = .ok (-(u : Int)) := by
  unfold parseIntB
  dsimp only
  rw [if_pos (by decide), h]
  dsimp only
  rw [if_neg (fun k => k.1 (by decide)), if_neg (fun k => absurd k.2 (by omega)), if_pos (by decide)]
theorem parse_pos (c : UInt8) (r : List UInt8) (u : Nat) (h : parseUintB 64 (c :: r) = .ok u) (h43 : ¬ c.toNat = 43) (h45 : ¬ c.toNat = 45) (hu : u < 9223372036854775808) : parseIntB 64 (c :: r) = .ok (u : Int) := by
  unfold parseIntB
  dsimp only
  rw [if_neg (by omega), h]
  dsimp only
  rw [if_neg (fun k => absurd k.2 (by omega)), if_neg (fun k => h45 k.1), if_neg h45]
/-- What FormatInt writes ParseInt reads. -/
theorem parse_itoa (x : Int) (h0 : -9223372036854775808 ≤ x) (h1 : x ≤ 9223372036854775807) : parseIntB 64 (itoa x) = .ok x := by
  unfold itoa
  by_cases hx : x < 0
  · rw [if_pos hx, parse_neg _ _ (parse_dec _ (by omega)) (by omega)]
    congr 1
    omega
  · rw [if_neg hx]
    have ha := digs_all x.toNat
    have hp := parse_dec x.toNat (by omega)
    cases hl : decDigits x.toNat with
    | nil => exact absurd hl (digs_ne _)
    | cons c r =>
      have hc := ha c (by rw [hl]; simp)
      rw [hl] at hp
      rw [parse_pos c r _ hp (by omega) (by omega) (by omega)]
      congr 1
      omega
/-- It never begins with "0x". -/
theorem no_hex (x : Int) : ¬ (itoa x).take 2 = [48, 120] := by
  intro h
  unfold itoa at h
  by_cases hx : x < 0
  · rw [if_pos hx] at h
    simp at h
  · rw [if_neg hx] at h
    have : (120 : UInt8) ∈ (decDigits x.toNat).take 2 := by rw [h]; simp
    have := digs_all x.toNat _ (List.mem_of_mem_take this)
    exact absurd this (by decide)
theorem decDigits_len (m : Nat) (h : m < 18446744073709551616) : (decDigits m).length ≤ 20 := by
  rw [decDigits_length]; exact nDigits_le20 m h
/-- Digit by digit, from the end: how far a loop has come. -/
def Far (m u : Nat) (s : List UInt8) : Prop := (u = 0 → s = decDigits m) ∧ (u ≠ 0 → decDigits m = decDigits u ++ s) ∧ u ≤ m
theorem far_start (m : Nat) (h : m ≠ 0) : Far m m [] := ⟨fun k => absurd k h, fun _ => by simp, Nat.le_refl _⟩
theorem far_step (m u : Nat) (s : List UInt8) (hu : u ≠ 0) (h : Far m u s) : Far m (u / 10) (UInt8.ofNat (48 + u % 10) :: s) := by
  obtain ⟨_, h2, h3⟩ := h
  have e := h2 hu
  by_cases h10 : u < 10
  · rw [decDigits_one h10] at e
    refine ⟨fun _ => ?_, fun k => absurd (by omega) k, by omega⟩
    rw [e, Nat.mod_eq_of_lt h10]
    rfl
  · have hd : decDigits u = decDigits (u / 10) ++ [UInt8.ofNat (48 + u % 10)] := by rw [decDigits, dif_neg h10]
    refine ⟨fun k => absurd k (by omega), fun _ => ?_, by omega⟩
    rw [e, hd]
    simp
end Go.Proofs.YtlhhmlfcodmebaaGreatDoor.Num
namespace Go.Proofs.YtlhhmlfcodmebaaGreatDoor.Wd
set_option linter.unusedVariables false
set_option linter.unusedSimpArgs false
open Go.Lib
open Go.Proofs.YtlhhmlfcodmebaaGreatDoor.Num
/-- The number that a word says; (0, false): none. -/
def num (l : List UInt8) : Int × Bool :=
  match parseIntB 64 l with
  | .ok n => if itoa n = l then (n, true) else (0, false)
  | _ => (0, false)
/-- The reference's digits. -/
def digs : Nat → List UInt8 → Option Nat
  | x, [] => some x
  | x, c :: l => if c.toNat < 48 ∨ 57 < c.toNat ∨ 922337203685477580 < x then none else digs (x * 10 + (c.toNat - 48)) l
/-- The reference's end. -/
def sgn (b : Bool) (x : Nat) : Int := if b then IntKind.i64.wrap (-(IntKind.i64.wrap x)) else IntKind.i64.wrap x
def fin (l : List UInt8) (b : Bool) (x : Nat) : Int × Bool := if 9223372036854775808 < x ∨ itoa (sgn b x) ≠ l then (0, false) else (sgn b x, true)
def refNum (l : List UInt8) : Int × Bool :=
  if 20 < l.length then (0, false) else
  match l with
  | 45 :: r => (match digs 0 r with | none => (0, false) | some x => fin l true x)
  | _ => (match digs 0 l with | none => (0, false) | some x => fin l false x)
theorem dec_le19 (u : Nat) (h : u < 10000000000000000000) : nDigits u ≤ 19 := by
  have step : ∀ k u, u < 10 ^ (k + 1) → nDigits u ≤ k + 1 := by
    intro k
    induction k with
    | zero => intro u hu; rw [nDigits_small (by omega)]; exact Nat.le_refl _
    | succ k ih =>
      intro u hu
      by_cases h10 : u < 10
      · rw [nDigits_small h10]; omega
      · rw [nDigits_big h10]
        have := ih (u / 10) (by rw [Nat.pow_succ] at hu; omega)
        omega
  exact step 18 u (by omega)
theorem parse_range {l : List UInt8} {n : Int} (h : parseIntB 64 l = .ok n) : -9223372036854775808 ≤ n ∧ n ≤ 9223372036854775807 := by
  unfold parseIntB at h
  cases l with
  | nil => cases h
  | cons c r =>
    simp only at h
    split at h
    · cases h
    · cases h
    · next u _ =>
      split at h
      · cases h
      · next h1 =>
        split at h
        · cases h
        · next h2 =>
          have e := NumEnd.ok.inj h
          by_cases hc : c.toNat = 45
          · rw [if_pos hc] at e
            have : ¬ 2 ^ (64 - 1) < u := fun k => h2 ⟨hc, k⟩
            omega
          · rw [if_neg hc] at e
            have : ¬ 2 ^ (64 - 1) ≤ u := fun k => h1 ⟨hc, k⟩
            omega
theorem wrap_i64 (x : Int) (h0 : -9223372036854775808 ≤ x) (h1 : x ≤ 9223372036854775807) : IntKind.i64.wrap x = x := by
  unfold IntKind.wrap
  simp only [IntKind.signed, IntKind.bits, Bool.true_and]
  split
  · next hd => have := of_decide_eq_true hd; omega
  · next hd => have : ¬ _ := fun k => hd (decide_eq_true k)
               omega
theorem sgn_i64 (b : Bool) (x : Nat) : -9223372036854775808 ≤ sgn b x ∧ sgn b x ≤ 9223372036854775807 := by
  unfold sgn
  have key : ∀ y : Int, -9223372036854775808 ≤ IntKind.i64.wrap y ∧ IntKind.i64.wrap y ≤ 9223372036854775807 := by
    intro y
    unfold IntKind.wrap
    simp only [IntKind.signed, IntKind.bits, Bool.true_and]
    split
    · next hd => have := of_decide_eq_true hd; omega
    · next hd => have : ¬ _ := fun k => hd (decide_eq_true k)
                 omega
  split <;> exact key _
theorem digs_app (u : Nat) : ∀ (acc : Nat) (r : List UInt8), acc * 10 ^ nDigits u + u ≤ 9223372036854775809 → digs acc (decDigits u ++ r) = digs (acc * 10 ^ nDigits u + u) r := by
  induction u using Nat.strongRecOn with
  | ind u ih =>
    intro acc r h
    by_cases hu : u < 10
    · rw [decDigits_one hu]
      rw [nDigits_small hu] at h ⊢
      simp only [Nat.pow_one] at h ⊢
      rw [List.singleton_append, digs, dig_toNat u hu, if_neg (by omega)]
      congr 1
      omega
    · have hd : decDigits u = decDigits (u / 10) ++ [UInt8.ofNat (48 + u % 10)] := by rw [decDigits, dif_neg hu]
      have hn := nDigits_big hu
      rw [hn, Nat.pow_succ, ← Nat.mul_assoc] at h ⊢
      generalize hp : acc * 10 ^ nDigits (u / 10) = p at h ⊢
      have hi := ih (u / 10) (by omega) acc ([UInt8.ofNat (48 + u % 10)] ++ r) (by rw [hp]; omega)
      rw [hd, List.append_assoc, hi, hp, List.singleton_append, digs, dig_toNat _ (by omega), if_neg (by omega)]
      congr 1
      omega
theorem digs_dec (u : Nat) (h : u ≤ 9223372036854775809) : digs 0 (decDigits u) = some u := by
  have := digs_app u 0 [] (by simp; omega)
  rw [List.append_nil] at this
  rw [this, digs]
  simp
theorem ref_itoa (n : Int) (h0 : -9223372036854775808 ≤ n) (h1 : n ≤ 9223372036854775807) : refNum (itoa n) = (n, true) := by
  by_cases hn : n < 0
  · have e : itoa n = 45 :: decDigits n.natAbs := by unfold itoa; rw [if_pos hn]
    have hlen := decDigits_length n.natAbs
    have h19 : nDigits n.natAbs ≤ 19 := dec_le19 n.natAbs (by omega)
    have hs : sgn true n.natAbs = n := by
      unfold sgn
      rw [if_pos rfl]
      by_cases h63 : n.natAbs = 9223372036854775808
      · rw [h63]
        have e1 : IntKind.i64.wrap ((9223372036854775808 : Nat) : Int) = -9223372036854775808 := by decide
        have e2 : IntKind.i64.wrap (-(-9223372036854775808)) = -9223372036854775808 := by decide
        rw [e1, e2]
        omega
      · rw [wrap_i64 (n.natAbs : Int) (by omega) (by omega), wrap_i64 _ (by omega) (by omega)]
        omega
    unfold refNum
    rw [e, if_neg (by simp; omega)]
    simp only [digs_dec n.natAbs (by omega)]
    unfold fin
    rw [hs, e, if_neg (by simp; omega)]
  · have e : itoa n = decDigits n.toNat := by unfold itoa; rw [if_neg hn]
    have hlen := decDigits_len n.toNat (by omega)
    have hs : sgn false n.toNat = n := by
      unfold sgn
      rw [if_neg (by decide), wrap_i64 _ (by omega) (by omega)]
      omega
    have hall := digs_all n.toNat
    have hd := digs_dec n.toNat (by omega)
    unfold refNum
    rw [e, if_neg (by omega)]
    generalize decDigits n.toNat = l at *
    split
    · have := hall 45 (by simp)
      exact absurd this (by decide)
    · rw [hd]
      simp only
      unfold fin
      rw [hs, e, if_neg (by simp; omega)]
/-- BOTH SAY THE SAME. -/
theorem ref_num (l : List UInt8) : refNum l = num l := by
  have back : ∀ n, -9223372036854775808 ≤ n → n ≤ 9223372036854775807 → itoa n = l → refNum l = (n, true) ∧ num l = (n, true) := by
    intro n h0 h1 e
    refine ⟨by rw [← e]; exact ref_itoa n h0 h1, ?_⟩
    unfold num
    rw [← e, parse_itoa n h0 h1]
    simp
  by_cases hx : ∃ n, -9223372036854775808 ≤ n ∧ n ≤ 9223372036854775807 ∧ itoa n = l
  · obtain ⟨n, h0, h1, e⟩ := hx
    rw [(back n h0 h1 e).1, (back n h0 h1 e).2]
  · have hf : ∀ b x, fin l b x = (0, false) := by
      intro b x
      unfold fin
      rw [if_pos (.inr fun e => hx ⟨_, (sgn_i64 b x).1, (sgn_i64 b x).2, e⟩)]
    have h1 : refNum l = (0, false) := by
      unfold refNum
      split
      · rfl
      · split
        · split
          · rfl
          · exact hf _ _
        · split
          · rfl
          · exact hf _ _
    have h2 : num l = (0, false) := by
      unfold num
      split
      · next n hp =>
        rw [if_neg]
        intro e
        have := parse_range hp
        exact hx ⟨n, this.1, this.2, e⟩
      · rfl
    rw [h1, h2]
end Go.Proofs.YtlhhmlfcodmebaaGreatDoor.Wd
namespace Go.Proofs.YtlhhmlfcodmebaaGreatDoor.Wd
set_option linter.unusedVariables false
set_option linter.unusedSimpArgs false
open Go.Lib
/-- The words of bytes with no semicolon, behind an open word. -/
def spl : List UInt8 → List UInt8 → List (List UInt8)
  | [], w => if w = [] then [] else [w]
  | c :: l, w => if c = 32 ∨ c = 9 then (if w = [] then spl l [] else w :: spl l []) else spl l (w ++ [c])
/-- .. up to a semicolon. -/
def wrd : List UInt8 → List UInt8 → List (List UInt8)
  | [], w => if w = [] then [] else [w]
  | c :: l, w => if c = 59 then (if w = [] then [] else [w]) else if c = 32 ∨ c = 9 then (if w = [] then wrd l [] else w :: wrd l []) else wrd l (w ++ [c])
def cutAt : List UInt8 → List UInt8
  | [] => []
  | c :: l => if c = 59 then [] else c :: cutAt l
theorem wrd_spl : ∀ (l w : List UInt8), wrd l w = spl (cutAt l) w
  | [], w => rfl
  | c :: l, w => by
    by_cases h : c = 59
    · simp [wrd, cutAt, h, spl]
    · simp only [wrd, cutAt, if_neg h, spl, wrd_spl l]
theorem cut_pre : ∀ l : List UInt8, (if 0 ≤ index l [59] then l.take (index l [59]).toNat else l) = cutAt l
  | [] => by decide
  | c :: l => by
    have ih := cut_pre l
    have hg := index_ge l [59]
    unfold index cutAt
    by_cases h : c = 59
    · subst h
      rw [if_pos (by simp [List.isPrefixOf])]
      simp
    · have hp : ¬ ([59] : List UInt8).isPrefixOf (c :: l) = true := by
        simp only [List.isPrefixOf, Bool.and_true, beq_iff_eq]
        exact fun e => h e.symm
      rw [if_neg hp, if_neg h]
      by_cases h1 : index l [59] = -1
      · rw [h1] at ih ⊢
        rw [if_neg (by decide)] at ih
        rw [← ih]
        rfl
      · have hb : ¬ (index l [59] == -1) = true := by simp [h1]
        rw [if_neg hb, if_pos (by omega), ← ih, if_pos (by omega)]
        rw [show (index l [59] + 1).toNat = (index l [59]).toNat + 1 by omega, List.take_succ_cons]
theorem cut_fst (l : List UInt8) : (cut l [59]).1 = cutAt l := by
  rw [← cut_pre]
  unfold cut
  split <;> rfl
theorem cutAt_len : ∀ l : List UInt8, (cutAt l).length ≤ l.length
  | [] => Nat.le_refl _
  | c :: l => by
    unfold cutAt
    split
    · simp
    · have := cutAt_len l
      simp; omega
/-- Blank? -/
def blank (c : Nat) : Bool := decide (c = 32) || decide (c = 9)
theorem decode_low (s : ByteArray) (i : Nat) (h : (s.get! i).toNat < 128) : Utf8.decode s i = ((s.get! i).toNat, 1) := by
  unfold Utf8.decode
  simp only [Nat.add_zero]
  rw [if_pos h]
theorem decode_high (s : ByteArray) (i : Nat) (hi : i < s.size) (h : 128 ≤ (s.get! i).toNat) :
    128 ≤ (Utf8.decode s i).1 ∧ 1 ≤ (Utf8.decode s i).2 ∧ i + (Utf8.decode s i).2 ≤ s.size ∧ ∀ k, 1 ≤ k → k < (Utf8.decode s i).2 → 128 ≤ (s.get! (i + k)).toNat := by
  unfold Utf8.decode
  simp only [Nat.add_zero]
  rw [if_neg (by omega)]
  have e : ∀ k, (decide (i + k < s.size) && (s.get! (i + k)).toNat / 64 == 2) = true → i + k < s.size ∧ 128 ≤ (s.get! (i + k)).toNat := by
    intro k hk
    simp only [Bool.and_eq_true, decide_eq_true_eq, beq_iff_eq] at hk
    exact ⟨hk.1, by omega⟩
  have one : ∀ k, 1 ≤ k → k < 1 → 128 ≤ (s.get! (i + k)).toNat := fun k h1 h2 => by omega
  have r : 128 ≤ Utf8.runeError := by decide
  split
  · next h2 =>
    rw [Bool.and_eq_true] at h2
    have e1 := e 1 h2.2
    split
    · exact ⟨by assumption, by simp, by simp; omega, fun k h1 h2 => by obtain rfl : k = 1 := by simp at h2; omega
                                                                       exact e1.2⟩
    · exact ⟨r, by simp, by simp; omega, by simpa using one⟩
  · split
    · next h2 =>
      rw [Bool.and_eq_true, Bool.and_eq_true] at h2
      have e1 := e 1 h2.1.2
      have e2 := e 2 h2.2
      split
      · next h3 =>
        rw [Bool.and_eq_true, decide_eq_true_eq] at h3
        refine ⟨by have := h3.1; simp only at this ⊢; omega, by simp, by simp; omega, fun k h1 h2 => ?_⟩
        simp at h2
        rcases (show k = 1 ∨ k = 2 by omega) with rfl | rfl
        · exact e1.2
        · exact e2.2
      · exact ⟨r, by simp, by simp; omega, by simpa using one⟩
    · split
      · next h2 =>
        rw [Bool.and_eq_true, Bool.and_eq_true, Bool.and_eq_true] at h2
        have e1 := e 1 h2.1.1.2
        have e2 := e 2 h2.1.2
        have e3 := e 3 h2.2
        split
        · next h3 =>
          rw [Bool.and_eq_true, decide_eq_true_eq] at h3
          refine ⟨by have := h3.1; simp only at this ⊢; omega, by simp, by simp; omega, fun k h1 h2 => ?_⟩
          simp at h2
          rcases (show k = 1 ∨ k = 2 ∨ k = 3 by omega) with rfl | rfl | rfl
          · exact e1.2
          · exact e2.2
          · exact e3.2
        · exact ⟨r, by simp, by simp; omega, by simpa using one⟩
      · exact ⟨r, by simp, by simp; omega, by simpa using one⟩
/-- Bytes that are no blanks are taken at once. -/
theorem spl_run : ∀ (x l w : List UInt8), (∀ c ∈ x, ¬ (c = 32 ∨ c = 9)) → spl (x ++ l) w = spl l (w ++ x)
  | [], l, w, _ => by simp
  | c :: x, l, w, h => by
    have hc := h c (by simp)
    simp only [List.cons_append, spl]
    rw [if_neg hc, spl_run x l _ (fun d hd => h d (by simp [hd]))]
    simp
theorem get_at (s : ByteArray) (i : Nat) (h : i < s.size) : s.data.toList[i]? = some (s.get! i) := by
  have hl : i < s.data.toList.length := by rw [← size_eq]; exact h
  rw [← getD_get!' s i, List.getD, List.getElem?_eq_getElem hl]
  rfl
/-- THE PASS: what the spans give is what the bytes give. -/
theorem spans_spl (s : ByteArray) : ∀ (f pos : Nat) (st : Option Nat) (acc : List (Nat × Nat)), s.size ≤ pos + f → pos ≤ s.size → (∀ a, st = some a → a < pos) →
    (closeSpans s (spansFromP blank s f pos st acc)).map (fun p => pieceU s.data.toList p.1 p.2) = acc.map (fun p => pieceU s.data.toList p.1 p.2) ++ spl (s.data.toList.drop pos) (openPiece s.data.toList st pos) := by
  have stop : ∀ (st : Option Nat) (acc : List (Nat × Nat)), (∀ a, st = some a → a < s.size) → (closeSpans s (acc, st)).map (fun p => pieceU s.data.toList p.1 p.2) = acc.map (fun p => pieceU s.data.toList p.1 p.2) ++ spl (s.data.toList.drop s.size) (openPiece s.data.toList st s.size) := by
    intro st acc hst
    have hd : s.data.toList.drop s.size = [] := List.drop_eq_nil_of_le (by rw [← size_eq]; exact Nat.le_refl _)
    rw [hd]
    cases st with
    | none => simp [closeSpans, openPiece, spl]
    | some a =>
      have := pieceU_ne s.data.toList a s.size (hst a rfl) (by rw [← size_eq]; exact Nat.le_refl _)
      simp [closeSpans, openPiece, spl, this]
  intro f
  induction f with
  | zero =>
    intro pos st acc h hp hst
    obtain rfl : pos = s.size := by omega
    exact stop st acc hst
  | succ f ih =>
    intro pos st acc h hp hst
    by_cases hlt : pos < s.size
    · have hg := get_at s pos hlt
      have hll : pos < s.data.toList.length := by rw [← size_eq]; exact hlt
      have hdrop : s.data.toList.drop pos = s.get! pos :: s.data.toList.drop (pos + 1) := by
        rw [List.drop_eq_getElem_cons hll]
        congr 1
        rw [List.getElem?_eq_getElem hll] at hg
        exact Option.some.inj hg
      simp only [spansFromP, if_pos hlt]
      by_cases hb : (s.get! pos).toNat < 128
      · rw [decode_low s pos hb]
        simp only
        by_cases hs : s.get! pos = 32 ∨ s.get! pos = 9
        · have hbl : blank (s.get! pos).toNat = true := by
            rcases hs with hs | hs <;> rw [hs] <;> decide
          rw [if_pos hbl, hdrop]
          simp only [spl, if_pos hs]
          cases st with
          | none =>
            rw [ih (pos + 1) none acc (by omega) (by omega) (fun a h => by cases h)]
            simp [openPiece]
          | some a =>
            have hpn := pieceU_ne s.data.toList a pos (hst a rfl) (by rw [← size_eq]; omega)
            rw [ih (pos + 1) none (acc ++ [(a, pos)]) (by omega) (by omega) (fun a h => by cases h)]
            simp [openPiece, hpn]
        · have hbl : ¬ blank (s.get! pos).toNat = true := by
            intro hk
            unfold blank at hk
            rw [Bool.or_eq_true, decide_eq_true_eq, decide_eq_true_eq] at hk
            exact hs (hk.imp (fun e => UInt8.toNat_inj.1 (by rw [e]; rfl)) (fun e => UInt8.toNat_inj.1 (by rw [e]; rfl)))
          rw [if_neg hbl, hdrop]
          simp only [spl, if_neg hs]
          have hone : (s.data.toList.drop pos).take 1 = [s.get! pos] := by rw [hdrop]; rfl
          cases st with
          | none =>
            rw [ih (pos + 1) (some pos) acc (by omega) (by omega) (fun a h => by cases h; omega)]
            simp only [openPiece, List.nil_append]
            congr 2
            unfold pieceU
            rw [Nat.add_sub_cancel_left, hone]
          | some a =>
            rw [ih (pos + 1) (some a) acc (by omega) (by omega) (fun b h => by cases h; have := hst a rfl; omega)]
            simp only [openPiece]
            congr 2
            rw [← pieceU_grow _ _ _ _ (Nat.le_of_lt (hst a rfl)), hone]
      · obtain ⟨h1, h2, h3, h4⟩ := decode_high s pos hlt (by omega)
        generalize hd : Utf8.decode s pos = d at h1 h2 h3 h4 ⊢
        obtain ⟨r, n⟩ := d
        simp only at h1 h2 h3 h4 ⊢
        have hbl : ¬ blank r = true := by
          intro hk
          unfold blank at hk
          rw [Bool.or_eq_true, decide_eq_true_eq, decide_eq_true_eq] at hk
          omega
        have hsplit : s.data.toList.drop pos = (s.data.toList.drop pos).take n ++ s.data.toList.drop (pos + n) := by
          rw [← List.drop_drop, List.take_append_drop]
        have hx : ∀ c ∈ (s.data.toList.drop pos).take n, ¬ (c = 32 ∨ c = 9) := by
          intro c hc
          obtain ⟨k, hk, rfl⟩ := List.getElem_of_mem hc
          have hkn : k < n := by
            have := hk
            rw [List.length_take] at this
            omega
          have hge : ((s.data.toList.drop pos).take n)[k]? = some (s.get! (pos + k)) := by
            rw [List.getElem?_take_of_lt hkn, List.getElem?_drop]
            exact get_at s (pos + k) (by omega)
          rw [List.getElem?_eq_getElem hk] at hge
          rw [Option.some.inj hge]
          have hbig : 128 ≤ (s.get! (pos + k)).toNat := by
            by_cases h0 : k = 0
            · subst h0; simp only [Nat.add_zero]; omega
            · exact h4 k (by omega) hkn
          rintro (e | e) <;> rw [e] at hbig <;> exact absurd hbig (by decide)
        rw [if_neg hbl]
        cases st with
        | none =>
          simp only
          rw [ih (pos + n) (some pos) acc (by omega) h3 (fun a h => by cases h; omega), hsplit, spl_run _ _ _ hx]
          simp only [openPiece, List.nil_append]
          congr 2
          unfold pieceU
          rw [Nat.add_sub_cancel_left]
        | some a =>
          simp only
          rw [ih (pos + n) (some a) acc (by omega) h3 (fun b h => by cases h; have := hst a rfl; omega), hsplit, spl_run _ _ _ hx]
          simp only [openPiece]
          congr 2
          rw [← pieceU_grow _ _ _ _ (Nat.le_of_lt (hst a rfl))]
    · obtain rfl : pos = s.size := by omega
      rw [spansFromP_end blank s _ _ _ _ hlt]
      exact stop st acc hst
/-- THE LIBRARY's FIELDS are the words. -/
theorem fields_spl (s : ByteArray) : (goFieldsP blank s).map (·.data.toList) = spl s.data.toList [] := by
  have h := spans_spl s s.size 0 none [] (by omega) (Nat.zero_le _) (fun a h => by cases h)
  simp only [List.map_nil, List.nil_append, openPiece, List.drop_zero] at h
  rw [← h]
  unfold goFieldsP spansOfP
  rw [List.map_map]
  congr 1
  funext p
  simp [pieceU]
/-- THE LIBRARY's FIELDS of the part ahead of a semicolon. -/
theorem fields_wrd (l : List UInt8) : (goFieldsP blank ⟨(cut l [59]).1.toArray⟩).map (·.data.toList) = wrd l [] := by
  rw [fields_spl, cut_fst, wrd_spl]
/-- How many. -/
theorem spl_count : ∀ (l w : List UInt8), (spl l w).length ≤ l.length + 1
  | [], w => by unfold spl; split <;> simp
  | c :: l, w => by
    unfold spl
    have h0 := spl_count l []
    have h1 := spl_count l (w ++ [c])
    split
    · split <;> simp <;> omega
    · simp; omega
theorem wrd_count (l w : List UInt8) : (wrd l w).length ≤ l.length + 1 := by
  rw [wrd_spl]
  have := spl_count (cutAt l) w
  have := cutAt_len l
  omega
end Go.Proofs.YtlhhmlfcodmebaaGreatDoor.Wd
