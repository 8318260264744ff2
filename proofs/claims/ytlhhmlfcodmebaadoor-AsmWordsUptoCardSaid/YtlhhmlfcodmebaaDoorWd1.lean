/- The number that a word says, plainly: by reading and writing it again, and as the reference goes, digit by digit. No condition. -/
import Derived.Test.YtlhhmlfcodmebaaDoorNum
import Derived.WalkKit
namespace Go.Proofs.YtlhhmlfcodmebaaDoor.Wd
open Go.Lib
open Go.Proofs.YtlhhmlfcodmebaaDoor.Num
/-- The number that a word says; (0, false): none. -/
def num (l : List UInt8) : Int × Bool :=
  match parseIntB 64 l with
  | .ok n => if itoa n = l then (n, true) else (0, false)
  | _ => (0, false)
/-- The reference's digits. -/
def digs : Nat → List UInt8 → Option Nat
  | x, [] => some x
  | x, c :: l => if c.toNat < 48 ∨ 57 < c.toNat ∨ 922337203685477580 < x then none else digs (x * 10 + (c.toNat - 48)) l
/-- The reference's end. -/
def sgn (b : Bool) (x : Nat) : Int := if b then IntKind.i64.wrap (-(IntKind.i64.wrap x)) else IntKind.i64.wrap x
def fin (l : List UInt8) (b : Bool) (x : Nat) : Int × Bool := if 9223372036854775808 < x ∨ itoa (sgn b x) ≠ l then (0, false) else (sgn b x, true)
def refNum (l : List UInt8) : Int × Bool :=
  if 20 < l.length then (0, false) else
  match l with
  | 45 :: r => (match digs 0 r with | none => (0, false) | some x => fin l true x)
  | _ => (match digs 0 l with | none => (0, false) | some x => fin l false x)
theorem dec_le19 (u : Nat) (h : u < 10000000000000000000) : nDigits u ≤ 19 := by
  have step : ∀ k u, u < 10 ^ (k + 1) → nDigits u ≤ k + 1 := by
    intro k
    induction k with
    | zero => intro u hu; rw [nDigits_small (by omega)]; exact Nat.le_refl _
    | succ k ih =>
      intro u hu
      by_cases h10 : u < 10
      · rw [nDigits_small h10]; omega
      · rw [nDigits_big h10]
        have := ih (u / 10) (by rw [Nat.pow_succ] at hu; omega)
        omega
  exact step 18 u (by omega)
theorem parse_range {l : List UInt8} {n : Int} (h : parseIntB 64 l = .ok n) : -9223372036854775808 ≤ n ∧ n ≤ 9223372036854775807 := by
  unfold parseIntB at h
  cases l with
  | nil => cases h
  | cons c r =>
    simp only at h
    split at h
    · cases h
    · cases h
    · next u _ =>
      split at h
      · cases h
      · next h1 =>
        split at h
        · cases h
        · next h2 =>
          have e := NumEnd.ok.inj h
          by_cases hc : c.toNat = 45
          · rw [if_pos hc] at e
            have : ¬ 2 ^ (64 - 1) < u := fun k => h2 ⟨hc, k⟩
            omega
          · rw [if_neg hc] at e
            have : ¬ 2 ^ (64 - 1) ≤ u := fun k => h1 ⟨hc, k⟩
            omega
theorem wrap_i64 (x : Int) (h0 : -9223372036854775808 ≤ x) (h1 : x ≤ 9223372036854775807) : IntKind.i64.wrap x = x := by
  unfold IntKind.wrap
  simp only [IntKind.signed, IntKind.bits, Bool.true_and]
  split
  · next hd => have := of_decide_eq_true hd; omega
  · next hd => have : ¬ _ := fun k => hd (decide_eq_true k)
               omega
theorem sgn_i64 (b : Bool) (x : Nat) : -9223372036854775808 ≤ sgn b x ∧ sgn b x ≤ 9223372036854775807 := by
  unfold sgn
  have key : ∀ y : Int, -9223372036854775808 ≤ IntKind.i64.wrap y ∧ IntKind.i64.wrap y ≤ 9223372036854775807 := by
    intro y
    unfold IntKind.wrap
    simp only [IntKind.signed, IntKind.bits, Bool.true_and]
    split
    · next hd => have := of_decide_eq_true hd; omega
    · next hd => have : ¬ _ := fun k => hd (decide_eq_true k)
                 omega
  split <;> exact key _
theorem digs_app (u : Nat) : ∀ (acc : Nat) (r : List UInt8), acc * 10 ^ nDigits u + u ≤ 9223372036854775809 → digs acc (decDigits u ++ r) = digs (acc * 10 ^ nDigits u + u) r := by
  induction u using Nat.strongRecOn with
  | ind u ih =>
    intro acc r h
    by_cases hu : u < 10
    · rw [decDigits_one hu]
      rw [nDigits_small hu] at h ⊢
      simp only [Nat.pow_one] at h ⊢
      rw [List.singleton_append, digs, dig_toNat u hu, if_neg (by omega)]
      congr 1
      omega
    · have hd : decDigits u = decDigits (u / 10) ++ [UInt8.ofNat (48 + u % 10)] := by rw [decDigits, dif_neg hu]
      have hn := nDigits_big hu
      rw [hn, Nat.pow_succ, ← Nat.mul_assoc] at h ⊢
      generalize hp : acc * 10 ^ nDigits (u / 10) = p at h ⊢
      have hi := ih (u / 10) (by omega) acc ([UInt8.ofNat (48 + u % 10)] ++ r) (by rw [hp]; omega)
      rw [hd, List.append_assoc, hi, hp, List.singleton_append, digs, dig_toNat _ (by omega), if_neg (by omega)]
      congr 1
      omega
theorem digs_dec (u : Nat) (h : u ≤ 9223372036854775809) : digs 0 (decDigits u) = some u := by
  have := digs_app u 0 [] (by simp; omega)
  rw [List.append_nil] at this
  rw [this, digs]
  simp
theorem ref_itoa (n : Int) (h0 : -9223372036854775808 ≤ n) (h1 : n ≤ 9223372036854775807) : refNum (itoa n) = (n, true) := by
  by_cases hn : n < 0
  · have e : itoa n = 45 :: decDigits n.natAbs := by unfold itoa; rw [if_pos hn]
    have hlen := decDigits_length n.natAbs
    have h19 : nDigits n.natAbs ≤ 19 := dec_le19 n.natAbs (by omega)
    have hs : sgn true n.natAbs = n := by
      unfold sgn
      rw [if_pos rfl]
      by_cases h63 : n.natAbs = 9223372036854775808
      · rw [h63]
        have e1 : IntKind.i64.wrap ((9223372036854775808 : Nat) : Int) = -9223372036854775808 := by decide
        have e2 : IntKind.i64.wrap (-(-9223372036854775808)) = -9223372036854775808 := by decide
        rw [e1, e2]
        omega
      · rw [wrap_i64 (n.natAbs : Int) (by omega) (by omega), wrap_i64 _ (by omega) (by omega)]
        omega
    unfold refNum
    rw [e, if_neg (by simp; omega)]
    simp only [digs_dec n.natAbs (by omega)]
    unfold fin
    rw [hs, e, if_neg (by simp; omega)]
  · have e : itoa n = decDigits n.toNat := by unfold itoa; rw [if_neg hn]
    have hlen := decDigits_len n.toNat (by omega)
    have hs : sgn false n.toNat = n := by
      unfold sgn
      rw [if_neg (by decide), wrap_i64 _ (by omega) (by omega)]
      omega
    have hall := digs_all n.toNat
    have hd := digs_dec n.toNat (by omega)
    unfold refNum
    rw [e, if_neg (by omega)]
    generalize decDigits n.toNat = l at *
    split
    · have := hall 45 (by simp)
      exact absurd this (by decide)
    · rw [hd]
      simp only
      unfold fin
      rw [hs, e, if_neg (by simp; omega)]
/-- BOTH SAY THE SAME. -/
theorem ref_num (l : List UInt8) : refNum l = num l := by
  have back : ∀ n, -9223372036854775808 ≤ n → n ≤ 9223372036854775807 → itoa n = l → refNum l = (n, true) ∧ num l = (n, true) := by
    intro n h0 h1 e
    refine ⟨by rw [← e]; exact ref_itoa n h0 h1, ?_⟩
    unfold num
    rw [← e, parse_itoa n h0 h1]
    simp
  by_cases hx : ∃ n, -9223372036854775808 ≤ n ∧ n ≤ 9223372036854775807 ∧ itoa n = l
  · obtain ⟨n, h0, h1, e⟩ := hx
    rw [(back n h0 h1 e).1, (back n h0 h1 e).2]
  · have hf : ∀ b x, fin l b x = (0, false) := by
      intro b x
      unfold fin
      rw [if_pos (.inr fun e => hx ⟨_, (sgn_i64 b x).1, (sgn_i64 b x).2, e⟩)]
    have h1 : refNum l = (0, false) := by
      unfold refNum
      split
      · rfl
      · split
        · split
          · rfl
          · exact hf _ _
        · split
          · rfl
          · exact hf _ _
    have h2 : num l = (0, false) := by
      unfold num
      split
      · next n hp =>
        rw [if_neg]
        intro e
        have := parse_range hp
        exact hx ⟨n, this.1, this.2, e⟩
      · rfl
    rw [h1, h2]
end Go.Proofs.YtlhhmlfcodmebaaDoor.Wd
