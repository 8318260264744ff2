/- The reference's division, bit by bit, comes to the same. -/
import Derived.Test.YtckfnbjjghdaoaaDoorDivs
namespace Go.Proofs.YtckfnbjjghdaoaaDoor.Refdiv
open Go.RowKit Go.Proofs.YtckfnbjjghdaoaaDoor.Q Go.Proofs.YtckfnbjjghdaoaaDoorW.PrintWords Go.Proofs.YtckfnbjjghdaoaaDoor.Bits Go.Proofs.YtckfnbjjghdaoaaDoor.Div Go.Proofs.YtckfnbjjghdaoaaDoor.Divs

theorem ref_loop (x0 x2 : Int) (hi lo d : Nat) (hd : 0 < d) (hd2 : d < 18446744073709551616) (hlo : lo < 18446744073709551616) (m : Nat) (hm : m = hi * 18446744073709551616 + lo) (X : Int × Int × Int)
    (hX : X = if 18446744073709551616 ≤ m / d then (0, 0, 24) else out (decide (x0 < 0) != decide (x2 < 0)) (decide (x0 < 0)) ((m / d : Nat) : Int) ((m % d : Nat) : Int)) (n : Nat) : n ≤ 128 →
    ∀ k, n + 2 < k → ∀ (P q r : Nat) (over : Bool), P = m / 2 ^ n → q = P / d % 18446744073709551616 → r = P % d → over = decide (18446744073709551616 ≤ P / d) →
    scarabref02_Divide.l0 k x0 x2 (hi : Int) (lo : Int) (d : Int) (q : Int) (r : Int) over ((n : Int) - 1) = some X := by
  induction n with
  | zero =>
    intro _ k hk P q r over hP hq hr ho
    rw [show ((0 : Nat) : Int) - 1 = -1 from rfl, ref_fin _ _ _ _ _ _ _ _ k hk, hX]
    rw [Nat.pow_zero, Nat.div_one] at hP
    subst hP
    by_cases h : 18446744073709551616 ≤ P / d
    · rw [decide_eq_true h] at ho
      rw [if_pos ho, if_pos h]
    · rw [decide_eq_false h] at ho
      rw [ho, if_neg (show ¬ false = true by decide), if_neg h, hq, hr, Nat.mod_eq_of_lt (Nat.lt_of_not_le h)]
  | succ n ih =>
    intro hn k hk P q r over hP hq hr ho
    obtain ⟨k, rfl⟩ : ∃ j, k = j + 1 := ⟨k - 1, by omega⟩
    obtain ⟨b, hb⟩ : ∃ b, b = m / 2 ^ n % 2 := ⟨_, rfl⟩
    have hb2 : b < 2 := by rw [hb]; exact Nat.mod_lt _ (by decide)
    have hP' : 2 * P + b = m / 2 ^ n := by
      rw [hb, hP, Nat.pow_succ, ← Nat.div_div_eq_div_mul]
      exact Nat.div_add_mod _ 2
    have hmore := more P d b hd hb2
    have hrd : r < d := by rw [hr]; exact Nat.mod_lt _ hd
    rw [← hr] at hmore
    obtain ⟨Q, hQ⟩ : ∃ Q, P / d = Q := ⟨_, rfl⟩
    rw [hQ] at hmore hq ho
    have w1 : IntKind.u64.wrap (IntKind.u64.wrap ((q : Int) * 2) + 1) = (((2 * Q + 1) % 18446744073709551616 : Nat) : Int) := by rw [u64_mod, u64_mod, hq]; omega
    have w2 : IntKind.u64.wrap ((q : Int) * 2) = (((2 * Q) % 18446744073709551616 : Nat) : Int) := by rw [u64_mod, hq]; omega
    have bitH : ∀ x : Int, x = ((n + 1 : Nat) : Int) - 1 → x > 63 → Go.bits .and .u64 (shr .u64 (hi : Int) (IntKind.u64.wrap (wrap64 (x - 64)))) 1 = (b : Int) := by
      intro x hx h
      rw [show IntKind.u64.wrap (wrap64 (x - 64)) = ((n - 64 : Nat) : Int) by rw [u64_mod]; unfold wrap64; omega, bit_of hi (n - 64) (by omega), hb, hm, pair_bit hi lo n hlo, if_pos (by omega)]
    have bitL : ∀ x : Int, x = ((n + 1 : Nat) : Int) - 1 → ¬ x > 63 → Go.bits .and .u64 (shr .u64 (lo : Int) (IntKind.u64.wrap (Int.tmod x 64))) 1 = (b : Int) := by
      intro x hx h
      rw [Int.tmod_eq_emod_of_nonneg (by omega), show IntKind.u64.wrap (x % 64) = ((n : Nat) : Int) by rw [u64_mod]; omega, bit_of lo n (by omega), hb, hm, pair_bit hi lo n hlo, if_neg (by omega)]
    obtain ⟨x, hx⟩ : ∃ x, x = ((n + 1 : Nat) : Int) - 1 := ⟨_, rfl⟩
    rw [← hx]
    have hx1 : wrap64 (x - 1) = (n : Int) - 1 := by unfold wrap64; omega
    have go1 : d ≤ 2 * r + b → ∀ o, o = decide (18446744073709551616 ≤ 2 * Q + 1) →
        scarabref02_Divide.l0 k x0 x2 (hi : Int) (lo : Int) (d : Int) (((2 * Q + 1) % 18446744073709551616 : Nat) : Int) (IntKind.u64.wrap (IntKind.u64.wrap (IntKind.u64.wrap ((r : Int) * 2) + (b : Int)) - (d : Int))) o ((n : Int) - 1) = some X := by
      intro h o hoo
      have hh := hmore.1 h
      have w3 : IntKind.u64.wrap (IntKind.u64.wrap (IntKind.u64.wrap ((r : Int) * 2) + (b : Int)) - (d : Int)) = ((2 * r + b - d : Nat) : Int) := by rw [u64_mod, u64_mod, u64_mod]; omega
      rw [w3]
      exact ih (by omega) k (by omega) (2 * P + b) _ _ o hP' (by rw [hh.1]) (by rw [hh.2]) (by rw [hh.1]; exact hoo)
    have go0 : 2 * r + b < d → ∀ o, o = decide (18446744073709551616 ≤ 2 * Q) →
        scarabref02_Divide.l0 k x0 x2 (hi : Int) (lo : Int) (d : Int) (((2 * Q) % 18446744073709551616 : Nat) : Int) (IntKind.u64.wrap (IntKind.u64.wrap ((r : Int) * 2) + (b : Int))) o ((n : Int) - 1) = some X := by
      intro h o hoo
      have hh := hmore.2 h
      have w3 : IntKind.u64.wrap (IntKind.u64.wrap ((r : Int) * 2) + (b : Int)) = ((2 * r + b : Nat) : Int) := by rw [u64_mod, u64_mod]; omega
      rw [w3]
      exact ih (by omega) k (by omega) (2 * P + b) _ _ o hP' (by rw [hh.1]) (by rw [hh.2]) (by rw [hh.1]; exact hoo)
    -- the remainder's three ways, whatever the flag
    have ways : ∀ o, (18446744073709551616 ≤ 2 * Q ↔ o = true) →
        (if ((r : Int) / 9223372036854775808) = 1 then (scarabref02_Divide.l0 k x0 x2 (hi : Int) (lo : Int) (d : Int) (((2 * Q + 1) % 18446744073709551616 : Nat) : Int) (IntKind.u64.wrap ((IntKind.u64.wrap ((IntKind.u64.wrap ((r : Int) * 2)) + (b : Int))) - (d : Int))) o ((n : Int) - 1)) else (if (IntKind.u64.wrap ((IntKind.u64.wrap ((r : Int) * 2)) + (b : Int))) ≥ (d : Int) then (scarabref02_Divide.l0 k x0 x2 (hi : Int) (lo : Int) (d : Int) (((2 * Q + 1) % 18446744073709551616 : Nat) : Int) (IntKind.u64.wrap ((IntKind.u64.wrap ((IntKind.u64.wrap ((r : Int) * 2)) + (b : Int))) - (d : Int))) o ((n : Int) - 1)) else (scarabref02_Divide.l0 k x0 x2 (hi : Int) (lo : Int) (d : Int) (((2 * Q) % 18446744073709551616 : Nat) : Int) (IntKind.u64.wrap ((IntKind.u64.wrap ((r : Int) * 2)) + (b : Int))) o ((n : Int) - 1)))) = some X := by
      intro o hoo
      have o1 : o = decide (18446744073709551616 ≤ 2 * Q + 1) := by
        cases o
        · rw [decide_eq_false]; intro h; have := hoo.mp (by omega); exact absurd this (by decide)
        · rw [decide_eq_true]; have := hoo.mpr rfl; omega
      have o0 : o = decide (18446744073709551616 ≤ 2 * Q) := by
        cases o
        · rw [decide_eq_false]; intro h; have := hoo.mp h; exact absurd this (by decide)
        · rw [decide_eq_true]; exact hoo.mpr rfl
      by_cases c1 : (r : Int) / 9223372036854775808 = 1
      · rw [if_pos c1]; exact go1 (by omega) o o1
      · rw [if_neg c1]
        have w3 : IntKind.u64.wrap (IntKind.u64.wrap ((r : Int) * 2) + (b : Int)) = ((2 * r + b : Nat) : Int) := by rw [u64_mod, u64_mod]; omega
        by_cases c2 : d ≤ 2 * r + b
        · rw [if_pos (by rw [w3]; omega)]; exact go1 c2 o o1
        · rw [if_neg (by rw [w3]; omega)]; exact go0 (by omega) o o0
    have flags : ∀ (f : Bool → Option (Int × Int × Int)), (∀ o, (18446744073709551616 ≤ 2 * Q ↔ o = true) → f o = some X) → (if over = true then f true else (if ((q : Int) / 9223372036854775808) = 1 then f true else f false)) = some X := by
      intro f hf
      by_cases c : over = true
      · rw [if_pos c]
        rw [c] at ho
        have := of_decide_eq_true ho.symm
        exact hf true ⟨fun _ => rfl, fun _ => by omega⟩
      · rw [if_neg c]
        have hno : ¬ 18446744073709551616 ≤ Q := by
          intro h; rw [decide_eq_true h] at ho; exact c ho
        by_cases c2 : (q : Int) / 9223372036854775808 = 1
        · rw [if_pos c2]; exact hf true ⟨fun _ => rfl, fun _ => by omega⟩
        · rw [if_neg c2]; exact hf false ⟨fun h => by omega, fun h => absurd h (by decide)⟩
    rw [scarabref02_Divide.l0, if_pos (by omega)]
    rw [if_pos (show (0 : Int) ≤ IntKind.u64.wrap (Int.tmod x 64) from u64_nonneg _)]
    by_cases hh : x > 63
    · rw [if_pos hh, if_pos (u64_nonneg _), bitH x hx hh, w1, w2, hx1]
      exact flags (fun o => (if ((r : Int) / 9223372036854775808) = 1 then (scarabref02_Divide.l0 k x0 x2 (hi : Int) (lo : Int) (d : Int) (((2 * Q + 1) % 18446744073709551616 : Nat) : Int) (IntKind.u64.wrap ((IntKind.u64.wrap ((IntKind.u64.wrap ((r : Int) * 2)) + (b : Int))) - (d : Int))) o ((n : Int) - 1)) else (if (IntKind.u64.wrap ((IntKind.u64.wrap ((r : Int) * 2)) + (b : Int))) ≥ (d : Int) then (scarabref02_Divide.l0 k x0 x2 (hi : Int) (lo : Int) (d : Int) (((2 * Q + 1) % 18446744073709551616 : Nat) : Int) (IntKind.u64.wrap ((IntKind.u64.wrap ((IntKind.u64.wrap ((r : Int) * 2)) + (b : Int))) - (d : Int))) o ((n : Int) - 1)) else (scarabref02_Divide.l0 k x0 x2 (hi : Int) (lo : Int) (d : Int) (((2 * Q) % 18446744073709551616 : Nat) : Int) (IntKind.u64.wrap ((IntKind.u64.wrap ((r : Int) * 2)) + (b : Int))) o ((n : Int) - 1))))) ways
    · rw [if_neg hh, bitL x hx hh, w1, w2, hx1]
      exact flags (fun o => (if ((r : Int) / 9223372036854775808) = 1 then (scarabref02_Divide.l0 k x0 x2 (hi : Int) (lo : Int) (d : Int) (((2 * Q + 1) % 18446744073709551616 : Nat) : Int) (IntKind.u64.wrap ((IntKind.u64.wrap ((IntKind.u64.wrap ((r : Int) * 2)) + (b : Int))) - (d : Int))) o ((n : Int) - 1)) else (if (IntKind.u64.wrap ((IntKind.u64.wrap ((r : Int) * 2)) + (b : Int))) ≥ (d : Int) then (scarabref02_Divide.l0 k x0 x2 (hi : Int) (lo : Int) (d : Int) (((2 * Q + 1) % 18446744073709551616 : Nat) : Int) (IntKind.u64.wrap ((IntKind.u64.wrap ((IntKind.u64.wrap ((r : Int) * 2)) + (b : Int))) - (d : Int))) o ((n : Int) - 1)) else (scarabref02_Divide.l0 k x0 x2 (hi : Int) (lo : Int) (d : Int) (((2 * Q) % 18446744073709551616 : Nat) : Int) (IntKind.u64.wrap ((IntKind.u64.wrap ((r : Int) * 2)) + (b : Int))) o ((n : Int) - 1))))) ways
end Go.Proofs.YtckfnbjjghdaoaaDoor.Refdiv
