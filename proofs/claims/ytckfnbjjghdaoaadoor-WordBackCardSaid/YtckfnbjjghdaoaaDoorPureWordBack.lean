/- THE PURE LAW of WordBack: a whole product, divided by one of its words, is the other. No condition. -/
import Derived.Test.YtckfnbjjghdaoaaDoorDivval
import Derived.Test.YtckfnbjjghdaoaaDoorRing
import Derived.Test.YtckfnbjjghdaoaaDoorWide
import Derived.Test.YtckfnbjjghdaoaaDoorQ15
namespace Go.Proofs.YtckfnbjjghdaoaaDoor.Pure
open Go.RowKit Go.Proofs.YtckfnbjjghdaoaaDoor.Q Go.Proofs.YtckfnbjjghdaoaaDoorW.PrintWords Go.Proofs.YtckfnbjjghdaoaaDoor.Bits Go.Proofs.YtckfnbjjghdaoaaDoor.Ops Go.Proofs.YtckfnbjjghdaoaaDoor.Divs
theorem whole_eq (neg na : Bool) (m d q r : Nat) (h1 : m / d = q) (h2 : m % d = r) (h : q < 18446744073709551616) : whole neg na m d = out neg na (q : Int) (r : Int) := by
  unfold whole
  rw [h1, h2, if_neg (Nat.not_le.mpr h)]
theorem out_neg (na : Bool) (q : Int) (h : q ≤ 9223372036854775808) : out true na q 0 = (wrap64 (-(wrap64 q)), 0, 0) := by
  have z : wrap64 0 = 0 := by decide +kernel
  have z2 : wrap64 (-0) = 0 := by decide +kernel
  unfold out
  rw [if_neg (show ¬ (q > 9223372036854775808 ∨ (q = 9223372036854775808 ∧ true = false)) from fun e => e.elim (fun e => by omega) (fun e => absurd e.2 (by decide))), if_pos rfl, z, z2]
  cases na <;> rfl
theorem out_pos (na : Bool) (q : Int) (h : q < 9223372036854775808) : out false na q 0 = (wrap64 q, 0, 0) := by
  have z : wrap64 0 = 0 := by decide +kernel
  have z2 : wrap64 (-0) = 0 := by decide +kernel
  unfold out
  rw [if_neg (show ¬ (q > 9223372036854775808 ∨ (q = 9223372036854775808 ∧ false = false)) from fun e => e.elim (fun e => by omega) (fun e => by have := e.1; omega)), if_neg (show ¬ false = true by decide), z, z2]
  cases na <;> rfl
theorem out_back (neg na : Bool) (a : Int) (ha : -9223372036854775808 ≤ a ∧ a < 9223372036854775808) (h : a ≠ 0 → neg = decide (a < 0)) : out neg na ((a.natAbs : Nat) : Int) ((0 : Nat) : Int) = (a, 0, 0) := by
  rw [show ((0 : Nat) : Int) = 0 from rfl]
  cases neg
  · have h0 : ¬ a < 0 := fun e => absurd (h (by omega)) (by rw [decide_eq_true e]; decide)
    rw [out_pos na _ (by omega), show wrap64 ((a.natAbs : Nat) : Int) = a by unfold wrap64; omega]
  · have h0 : a ≤ 0 := by
      by_cases e : a ≤ 0
      · exact e
      · have := h (by omega)
        rw [decide_eq_false (by omega)] at this
        exact absurd this (by decide)
    rw [out_neg na _ (by omega), show wrap64 (-(wrap64 ((a.natAbs : Nat) : Int))) = a by unfold wrap64; omega]
theorem sign_back (a b : Int) (hz : b ≠ 0) (h : a ≠ 0) : ((decide (a * b / 18446744073709551616 < 0)) != decide (b < 0)) = decide (a < 0) := by
  have hs : a * b / 18446744073709551616 < 0 ↔ a * b < 0 := by
    generalize a * b = c at *
    omega
  rw [decide_eq_decide.mpr hs]
  by_cases ha0 : a < 0 <;> by_cases hb0 : b < 0
  · have : ¬ a * b < 0 := by have := Int.mul_pos_of_neg_of_neg ha0 hb0; omega
    rw [decide_eq_false this, decide_eq_true hb0, decide_eq_true ha0]; rfl
  · have : a * b < 0 := Int.mul_neg_of_neg_of_pos ha0 (by omega)
    rw [decide_eq_true this, decide_eq_false hb0, decide_eq_true ha0]; rfl
  · have : a * b < 0 := Int.mul_neg_of_pos_of_neg (by omega) hb0
    rw [decide_eq_true this, decide_eq_true hb0, decide_eq_false ha0]; rfl
  · have : ¬ a * b < 0 := by have := Int.mul_nonneg (show 0 ≤ a by omega) (show 0 ≤ b by omega); omega
    rw [decide_eq_false this, decide_eq_false hb0, decide_eq_false ha0]; rfl
theorem size_back (c : Int) (m : Nat) (hm : (m : Int) = (if c / 18446744073709551616 < 0 then -(c / 18446744073709551616 * 18446744073709551616 + c % 18446744073709551616) else c / 18446744073709551616 * 18446744073709551616 + c % 18446744073709551616)) : m = c.natAbs := by
  by_cases h : c / 18446744073709551616 < 0
  · rw [if_pos h] at hm; omega
  · rw [if_neg h] at hm; omega
theorem back_val (a b : Int) (ha : -9223372036854775808 ≤ a ∧ a < 9223372036854775808) (hb : -9223372036854775808 ≤ b ∧ b < 9223372036854775808) (hz : b ≠ 0) (k : Nat) (hk : 160 < k) :
    word_Divide.f k (a * b / 18446744073709551616) (a * b % 18446744073709551616) b = some (a, 0, 0) := by
  have hP := Wide.half_bound a b ha hb
  obtain ⟨m, hm, g1, _⟩ := Divval.both (a * b / 18446744073709551616) (a * b % 18446744073709551616) b (by omega) (by omega) hb hz k hk
  have hm2 : m = a.natAbs * b.natAbs := by rw [← Int.natAbs_mul]; exact size_back _ m hm
  have hbp : 0 < b.natAbs := by omega
  have d1 : m / b.natAbs = a.natAbs := by rw [hm2, Nat.mul_div_cancel _ hbp]
  have d2 : m % b.natAbs = 0 := by rw [hm2, Nat.mul_mod_left]
  rw [g1, whole_eq _ _ m _ _ _ d1 d2 (by omega), out_back _ _ a ha (sign_back a b hz)]
theorem did36 (a b : Int) (ha : -9223372036854775808 ≤ a ∧ a < 9223372036854775808) (hb : -9223372036854775808 ≤ b ∧ b < 9223372036854775808) (k : Nat) (hk : 5 ≤ k) : scarablaw02_did.f k 36 a b = some (a * b / 18446744073709551616, true) := by
  unfold scarablaw02_did.f
  rw [apply_two 36 a b (by decide) (by decide) (by decide) (by decide) (by decide) k hk]
  refine bindI (bindI (x := a * b / 18446744073709551616) ?_ rfl) rfl
  unfold word_two.f
  exact bindI (Wide.wide_val a b ha hb) rfl
theorem WordBack : scarablaw02_WordBack.Pure := by
  intro a b wa wb
  have ha := wf_i64 wa
  have hb := wf_i64 wb
  refine ⟨202, ?_⟩
  have hP := Wide.half_bound a b ha hb
  have ew : IntKind.u64.wrap (wrap64 (a * b)) = a * b % 18446744073709551616 := by
    rw [Div.u64_mod]; unfold wrap64; omega
  unfold scarablaw02_WordBack.f
  refine bindI (speaks 202 (by decide)) ?_
  rw [if_pos rfl]
  refine bindI (Wide.wide_val a b ha hb) (bindI (did36 a b ha hb 202 (by decide)) (bindI (did18 a b 202 (by decide)) ?_))
  have en : (a * b % 18446744073709551616 != a * b % 18446744073709551616) = false := by simp
  dsimp only
  rw [if_pos rfl, if_pos rfl, if_pos rfl, ew, en, show (202 : Nat) = 201 + 1 from rfl, scarablaw02_WordBack.j0, if_neg (show ¬ false = true by decide)]
  by_cases hz : b = 0
  · refine bindI (x := (0, 0, 20)) ?_ ?_
    · unfold word_Divide.f; rw [if_pos hz]
    · rw [if_pos hz, if_pos rfl, if_pos rfl]; rfl
  · refine bindI (back_val a b ha hb hz 201 (by decide)) ?_
    rw [if_neg hz, if_pos rfl, if_pos rfl]; rfl
end Go.Proofs.YtckfnbjjghdaoaaDoor.Pure
