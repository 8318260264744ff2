/- ClockOrder, walked: turned about it is turned; what is below what is below is below; a tick is above. No condition. -/
import Derived.Test.YtfhdmknplpgiiaaDoorW8
import Derived.Test.YtfhdmknplpgiiaaDoorArr6
namespace Go.Proofs.YtfhdmknplpgiiaaDoor.Ck
open Go.ChangeShapes Go.WideShapes Go.RowKit
theorem order_trans (a b c : C6) (h : cmp a b = -1 ∧ cmp b c = -1) : cmp a c = -1 := by
  have h1 := (cmp_neg a b).1 h.1
  have h2 := (cmp_neg b c).1 h.2
  refine (cmp_neg a c).2 ⟨fun e => ?_, le_trans h1.2 h2.2⟩
  subst e
  exact h1.1 (le_antisymm h1.2 h2.2)
theorem tick3_above (a : C6) : cmp a (tick a 3) = -1 := by
  refine (cmp_neg _ _).2 ⟨fun e => ?_, ?_⟩
  · have := congrArg C6.d e
    simp only [tick] at this
    omega
  · rw [le_iff]; simp only [tick]; omega
theorem tick3_right {a : C6} (ha : R a) (hd : ¬ a.nth 3 = 1073741824) : R (tick a 3) := by
  unfold R at *
  rw [right_iff] at *
  simp only [C6.nth] at hd
  simp only [tick]
  omega
theorem zero_right : R zero := by unfold R; decide
set_option maxHeartbeats 3200000 in
set_option maxRecDepth 100000 in
theorem order_under (a b c : C6) (w : World) (ha : R a) (hb : R b) (hc : R c) (hd : ¬ a.nth 3 = 1073741824) : Calls Tryd.prog 4 #[a.v, b.v, c.v] w fun e w' => e = .returned (.bool true) ∧ Below w.heap.size w w' := by
  have hB : ∀ x y W, R x → R y → Calls Tryd.prog 9 #[x.v, y.v] W fun e w' => e = .returned (.int .i64 0) ∧ Below W.heap.size W w' ∧ w'.heap.size = W.heap.size + 4 := fun x y W hx hy => bad_ok x y W hx hy
  have hC : ∀ x y W, R x → R y → Calls Tryd.prog 13 #[x.v, y.v] W fun e w' => e = .returned (.tuple #[.int .i64 (cmp x y), .int .i64 0]) ∧ Below W.heap.size W w' := fun x y W hx hy => cmp_ok x y W hx hy
  have hT : ∀ W : World, Calls Tryd.prog 14 #[a.v, .int .i64 3] W fun e w' => e = .returned (.tuple #[(tick a 3).v, .int .i64 0]) ∧ Below W.heap.size W w' := fun W => tick_ok a 3 (by omega) W ha hd
  have rt := tick3_right ha hd
  have q1 := tick3_above a
  have hQ := fun (W : World) => eq6_run a b W
  have hg := guard23
  have q0 : eq6 a b = (cmp a b == 0) := by rw [Bool.eq_iff_iff, eq6_iff, beq_iff_eq, cmp_zero]
  have g1 : -1 ≤ cmp a b ∧ cmp a b ≤ 2 := by rcases cmp_range a b with h | h | h | h <;> omega
  obtain ⟨g1, g2⟩ := g1
  have k1 := Lib.hid (cmp_flip a b)
  have k2 : Hid ((cmp a b = -1 ∧ cmp b c = -1) → cmp a c = -1) := Lib.hid (order_trans a b c)
  simp only [C6.v] at hB hC hT hQ ⊢
  have hB' := Lib.hid hB
  have hC' := Lib.hid hC
  have hT' := Lib.hid hT
  clear hB hC hT hd
  have acc := Below.refl w.heap.size w
  go_enter Tryd.func4, Tryd.ntmps4
  go_wp2_with (first
    | (go_at_call 9; ((with_reducible refine (hB'.out _ _ _ (by assumption) (by assumption)).mono ?_); rintro e w1 ⟨rfl, hb1, hs1⟩; replace acc := acc_step (B := w.heap.size) (w := w) (by repeat (first | (with_reducible exact acc) | (with_reducible refine Below.drew ?_) | (with_reducible refine Below.alloc ?_ (by first | omega | (simp <;> omega)) _))) (by first | omega | (simp <;> omega)) hb1; obtain ⟨hc1, hf1⟩ := bcell hb1; clear hb1; (try simp at hs1); (try simp at hc1); (try simp at hf1)))
    | (go_at_call 13; ((with_reducible refine (hC'.out _ _ _ (by assumption) (by assumption)).mono ?_); rintro e w1 ⟨rfl, hb1⟩; replace acc := acc_step (B := w.heap.size) (w := w) (by repeat (first | (with_reducible exact acc) | (with_reducible refine Below.drew ?_) | (with_reducible refine Below.alloc ?_ (by first | omega | (simp <;> omega)) _))) (by first | omega | (simp <;> omega)) hb1; obtain ⟨hc1, hf1⟩ := bcell hb1; have hs1 := hb1.size; clear hb1 hf1; (try simp at hs1); (try simp at hc1); have e0 := fun o => hc1 (w.heap.size) o (by omega); have e1 := fun o => hc1 (w.heap.size + 1) o (by omega); have e2 := fun o => hc1 (w.heap.size + 1 + 1) o (by omega); clear hc1; have l0 : w.heap.size < w1.heap.size := (by omega); have l1 : w.heap.size + 1 < w1.heap.size := (by omega); have l2 : w.heap.size + 1 + 1 < w1.heap.size := (by omega)))
    | (go_at_call 14; ((with_reducible refine (hT'.out _).mono ?_); rintro e w1 ⟨rfl, hb1⟩; replace acc := acc_step (B := w.heap.size) (w := w) (by repeat (first | (with_reducible exact acc) | (with_reducible refine Below.drew ?_) | (with_reducible refine Below.alloc ?_ (by first | omega | (simp <;> omega)) _))) (by first | omega | (simp <;> omega)) hb1; obtain ⟨hc1, hf1⟩ := bcell hb1; have hs1 := hb1.size; clear hb1 hf1; (try simp at hs1); (try simp at hc1); have e0 := fun o => hc1 (w.heap.size) o (by omega); have e1 := fun o => hc1 (w.heap.size + 1) o (by omega); have e2 := fun o => hc1 (w.heap.size + 1 + 1) o (by omega); clear hc1; have l0 : w.heap.size < w1.heap.size := (by omega); have l1 : w.heap.size + 1 < w1.heap.size := (by omega); have l2 : w.heap.size + 1 + 1 < w1.heap.size := (by omega))))
  all_goals
    have k1' := k1.out
    have k2' := k2.out
    go_ret
    first
      | exact ⟨rfl, (by repeat (first | (with_reducible exact acc) | (with_reducible refine Below.drew ?_) | (with_reducible refine Below.alloc ?_ (by first | omega | (simp <;> omega)) _)))⟩
      | (exfalso; omega)
      | exact ⟨by
          have hz : (cmp a b != 2) = true := by simp; omega
          show Ending.returned (.bool (cmp a b != 2)) = _
          rw [hz], (by repeat (first | (with_reducible exact acc) | (with_reducible refine Below.drew ?_) | (with_reducible refine Below.alloc ?_ (by first | omega | (simp <;> omega)) _)))⟩
set_option maxHeartbeats 3200000 in
set_option maxRecDepth 100000 in
theorem order_top (a b c : C6) (w : World) (ha : R a) (hb : R b) (hc : R c) (hd : a.nth 3 = 1073741824) : Calls Tryd.prog 4 #[a.v, b.v, c.v] w fun e w' => e = .returned (.bool true) ∧ Below w.heap.size w w' := by
  have hB : ∀ x y W, R x → R y → Calls Tryd.prog 9 #[x.v, y.v] W fun e w' => e = .returned (.int .i64 0) ∧ Below W.heap.size W w' ∧ w'.heap.size = W.heap.size + 4 := fun x y W hx hy => bad_ok x y W hx hy
  have hC : ∀ x y W, R x → R y → Calls Tryd.prog 13 #[x.v, y.v] W fun e w' => e = .returned (.tuple #[.int .i64 (cmp x y), .int .i64 0]) ∧ Below W.heap.size W w' := fun x y W hx hy => cmp_ok x y W hx hy
  have hT : ∀ W : World, Calls Tryd.prog 14 #[a.v, .int .i64 3] W fun e w' => e = .returned (.tuple #[(zero).v, .int .i64 2]) ∧ Below W.heap.size W w' := fun W => tick_long a 3 (by omega) W ha hd
  have rt := zero_right
  have hQ := fun (W : World) => eq6_run a b W
  have hg := guard23
  have q0 : eq6 a b = (cmp a b == 0) := by rw [Bool.eq_iff_iff, eq6_iff, beq_iff_eq, cmp_zero]
  have g1 : -1 ≤ cmp a b ∧ cmp a b ≤ 2 := by rcases cmp_range a b with h | h | h | h <;> omega
  obtain ⟨g1, g2⟩ := g1
  have k1 := Lib.hid (cmp_flip a b)
  have k2 : Hid ((cmp a b = -1 ∧ cmp b c = -1) → cmp a c = -1) := Lib.hid (order_trans a b c)
  simp only [C6.v] at hB hC hT hQ ⊢
  have hB' := Lib.hid hB
  have hC' := Lib.hid hC
  have hT' := Lib.hid hT
  clear hB hC hT hd
  have acc := Below.refl w.heap.size w
  go_enter Tryd.func4, Tryd.ntmps4
  go_wp2_with (first
    | (go_at_call 9; ((with_reducible refine (hB'.out _ _ _ (by assumption) (by assumption)).mono ?_); rintro e w1 ⟨rfl, hb1, hs1⟩; replace acc := acc_step (B := w.heap.size) (w := w) (by repeat (first | (with_reducible exact acc) | (with_reducible refine Below.drew ?_) | (with_reducible refine Below.alloc ?_ (by first | omega | (simp <;> omega)) _))) (by first | omega | (simp <;> omega)) hb1; obtain ⟨hc1, hf1⟩ := bcell hb1; clear hb1; (try simp at hs1); (try simp at hc1); (try simp at hf1)))
    | (go_at_call 13; ((with_reducible refine (hC'.out _ _ _ (by assumption) (by assumption)).mono ?_); rintro e w1 ⟨rfl, hb1⟩; replace acc := acc_step (B := w.heap.size) (w := w) (by repeat (first | (with_reducible exact acc) | (with_reducible refine Below.drew ?_) | (with_reducible refine Below.alloc ?_ (by first | omega | (simp <;> omega)) _))) (by first | omega | (simp <;> omega)) hb1; obtain ⟨hc1, hf1⟩ := bcell hb1; have hs1 := hb1.size; clear hb1 hf1; (try simp at hs1); (try simp at hc1); have e0 := fun o => hc1 (w.heap.size) o (by omega); have e1 := fun o => hc1 (w.heap.size + 1) o (by omega); have e2 := fun o => hc1 (w.heap.size + 1 + 1) o (by omega); clear hc1; have l0 : w.heap.size < w1.heap.size := (by omega); have l1 : w.heap.size + 1 < w1.heap.size := (by omega); have l2 : w.heap.size + 1 + 1 < w1.heap.size := (by omega)))
    | (go_at_call 14; ((with_reducible refine (hT'.out _).mono ?_); rintro e w1 ⟨rfl, hb1⟩; replace acc := acc_step (B := w.heap.size) (w := w) (by repeat (first | (with_reducible exact acc) | (with_reducible refine Below.drew ?_) | (with_reducible refine Below.alloc ?_ (by first | omega | (simp <;> omega)) _))) (by first | omega | (simp <;> omega)) hb1; obtain ⟨hc1, hf1⟩ := bcell hb1; have hs1 := hb1.size; clear hb1 hf1; (try simp at hs1); (try simp at hc1); have e0 := fun o => hc1 (w.heap.size) o (by omega); have e1 := fun o => hc1 (w.heap.size + 1) o (by omega); have e2 := fun o => hc1 (w.heap.size + 1 + 1) o (by omega); clear hc1; have l0 : w.heap.size < w1.heap.size := (by omega); have l1 : w.heap.size + 1 < w1.heap.size := (by omega); have l2 : w.heap.size + 1 + 1 < w1.heap.size := (by omega))))
  all_goals
    have k1' := k1.out
    have k2' := k2.out
    go_ret
    first
      | exact ⟨rfl, (by repeat (first | (with_reducible exact acc) | (with_reducible refine Below.drew ?_) | (with_reducible refine Below.alloc ?_ (by first | omega | (simp <;> omega)) _)))⟩
      | (exfalso; omega)
      | exact ⟨by
          have hz : (cmp a b != 2) = true := by simp; omega
          show Ending.returned (.bool (cmp a b != 2)) = _
          rw [hz], (by repeat (first | (with_reducible exact acc) | (with_reducible refine Below.drew ?_) | (with_reducible refine Below.alloc ?_ (by first | omega | (simp <;> omega)) _)))⟩
theorem order_right (a b c : C6) (w : World) (ha : R a) (hb : R b) (hc : R c) : Calls Tryd.prog 4 #[a.v, b.v, c.v] w fun e w' => e = .returned (.bool true) ∧ Below w.heap.size w w' := by
  by_cases hd : a.nth 3 = 1073741824
  · exact order_top a b c w ha hb hc hd
  · exact order_under a b c w ha hb hc hd
set_option maxHeartbeats 3200000 in
set_option maxRecDepth 100000 in
theorem order_wrong (a b c : C6) (w : World) (h : ¬ (R a ∧ R b ∧ R c)) : Calls Tryd.prog 4 #[a.v, b.v, c.v] w fun e w' => e = .returned (.bool true) ∧ Below w.heap.size w w' := by
  have acc := Below.refl w.heap.size w
  have hS' := Lib.hid (fun (W : World) => small_walk W)
  by_cases hab : R a ∧ R b
  · have hcc : ¬ (R c ∧ R c) := fun hc => h ⟨hab.1, hab.2, hc.1⟩
    have hB := fun (W : World) => bad_ok a b W hab.1 hab.2
    have hN := fun (W : World) => bad_no c c W hcc
    simp only [C6.v] at hB hN ⊢
    have hB' := Lib.hid hB
    have hN' := Lib.hid hN
    clear hB hN hcc hab h
    go_enter Tryd.func4, Tryd.ntmps4
    go_wp2_with (first
      | (go_at_call 9; first | ((with_reducible refine (hB'.out _).mono ?_); rintro e w1 ⟨rfl, hb1, hs1⟩; replace acc := acc_step (B := w.heap.size) (w := w) (by repeat (first | (with_reducible exact acc) | (with_reducible refine Below.drew ?_) | (with_reducible refine Below.alloc ?_ (by first | omega | (simp <;> omega)) _))) (by first | omega | (simp <;> omega)) hb1; obtain ⟨hc1, hf1⟩ := bcell hb1; clear hb1; (try simp at hs1); (try simp at hc1); (try simp at hf1)) | ((with_reducible refine (hN'.out _).mono ?_); rintro e w1 ⟨rfl, hb1⟩; replace acc := acc_step (B := w.heap.size) (w := w) (by repeat (first | (with_reducible exact acc) | (with_reducible refine Below.drew ?_) | (with_reducible refine Below.alloc ?_ (by first | omega | (simp <;> omega)) _))) (by first | omega | (simp <;> omega)) hb1; obtain ⟨hc1, hf1⟩ := bcell hb1; have hs1 := hb1.size; clear hb1; (try simp at hs1); (try simp at hc1); (try simp at hf1)))
      | (go_at_call 10; ((with_reducible refine (hS'.out _).mono ?_); rintro e w1 ⟨rfl, hb1⟩; replace acc := acc_step (B := w.heap.size) (w := w) (by repeat (first | (with_reducible exact acc) | (with_reducible refine Below.drew ?_) | (with_reducible refine Below.alloc ?_ (by first | omega | (simp <;> omega)) _))) (by first | omega | (simp <;> omega)) hb1; obtain ⟨hc1, hf1⟩ := bcell hb1; have hs1 := hb1.size; clear hb1; (try simp at hs1); (try simp at hc1); (try simp at hf1))))
    go_ret
    exact ⟨rfl, acc⟩
  · have hN := fun (W : World) => bad_no a b W hab
    simp only [C6.v] at hN ⊢
    have hN' := Lib.hid hN
    clear hN hab h
    go_enter Tryd.func4, Tryd.ntmps4
    go_wp2_with (first
      | (go_at_call 9; ((with_reducible refine (hN'.out _).mono ?_); rintro e w1 ⟨rfl, hb1⟩; replace acc := acc_step (B := w.heap.size) (w := w) (by repeat (first | (with_reducible exact acc) | (with_reducible refine Below.drew ?_) | (with_reducible refine Below.alloc ?_ (by first | omega | (simp <;> omega)) _))) (by first | omega | (simp <;> omega)) hb1; obtain ⟨hc1, hf1⟩ := bcell hb1; have hs1 := hb1.size; clear hb1; (try simp at hs1); (try simp at hc1); (try simp at hf1)))
      | (go_at_call 10; ((with_reducible refine (hS'.out _).mono ?_); rintro e w1 ⟨rfl, hb1⟩; replace acc := acc_step (B := w.heap.size) (w := w) (by repeat (first | (with_reducible exact acc) | (with_reducible refine Below.drew ?_) | (with_reducible refine Below.alloc ?_ (by first | omega | (simp <;> omega)) _))) (by first | omega | (simp <;> omega)) hb1; obtain ⟨hc1, hf1⟩ := bcell hb1; have hs1 := hb1.size; clear hb1; (try simp at hs1); (try simp at hc1); (try simp at hf1))))
    go_ret
    exact ⟨rfl, acc⟩
theorem order_walk (a b c : C6) (w : World) (_ : wf6 a) (_ : wf6 b) (_ : wf6 c) : Calls Tryd.prog 4 #[a.v, b.v, c.v] w fun e w' => e = .returned (.bool true) ∧ Below w.heap.size w w' := by
  by_cases h : R a ∧ R b ∧ R c
  · exact order_right a b c w h.1 h.2.1 h.2.2
  · exact order_wrong a b c w h
end Go.Proofs.YtfhdmknplpgiiaaDoor.Ck
