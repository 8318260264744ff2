/- ClockLeast, walked: Join is the least that is not below either, Meet the greatest that is not above. No condition. -/
import Derived.Test.YtfhdmknplpgiiaaDoorW8
import Derived.Test.YtfhdmknplpgiiaaDoorArr6
namespace Go.Proofs.YtfhdmknplpgiiaaDoor.Ck
open Go.ChangeShapes Go.WideShapes Go.RowKit
set_option maxHeartbeats 3200000 in
set_option maxRecDepth 100000 in
theorem least_right (a b c : C6) (w : World) (ha : R a) (hb : R b) (hc : R c) : Calls Tryd.prog 6 #[a.v, b.v, c.v] w fun e w' => e = .returned (.bool true) ∧ Below w.heap.size w w' := by
  have rj : R (join a b) := right_join ha hb
  have rm : R (meet a b) := right_meet ha hb
  have hB : ∀ x y W, R x → R y → Calls Tryd.prog 9 #[x.v, y.v] W fun e w' => e = .returned (.int .i64 0) ∧ Below W.heap.size W w' ∧ w'.heap.size = W.heap.size + 4 := fun x y W hx hy => bad_ok x y W hx hy
  have hJ : ∀ x y W, R x → R y → Calls Tryd.prog 11 #[x.v, y.v] W fun e w' => e = .returned (.tuple #[(join x y).v, .int .i64 0]) ∧ Below W.heap.size W w' ∧ w'.heap.size = W.heap.size + 11 := fun x y W hx hy => join_ok x y W hx hy
  have hM : ∀ x y W, R x → R y → Calls Tryd.prog 12 #[x.v, y.v] W fun e w' => e = .returned (.tuple #[(meet x y).v, .int .i64 0]) ∧ Below W.heap.size W w' ∧ w'.heap.size = W.heap.size + 11 := fun x y W hx hy => meet_ok x y W hx hy
  have hC : ∀ x y W, R x → R y → Calls Tryd.prog 13 #[x.v, y.v] W fun e w' => e = .returned (.tuple #[.int .i64 (cmp x y), .int .i64 0]) ∧ Below W.heap.size W w' := fun x y W hx hy => cmp_ok x y W hx hy
  have hS' := Lib.hid (fun (W : World) => small_walk W)
  simp only [C6.v] at hB hJ hM hC ⊢
  have hB' := Lib.hid hB
  have hJ' := Lib.hid hJ
  have hM' := Lib.hid hM
  have hC' := Lib.hid hC
  clear hB hJ hM hC
  have acc := Below.refl w.heap.size w
  have f1 : ¬ 0 < cmp a (join a b) := by have := (cmp_le a (join a b)).2 (le_join_l a b); omega
  have f2 : ¬ 0 < cmp b (join a b) := by have := (cmp_le b (join a b)).2 (le_join_r a b); omega
  have m1 := (cmp_ge a (meet a b)).2 (meet_le_l a b)
  have m2 := (cmp_ge b (meet a b)).2 (meet_le_r a b)
  have f3 : ¬ cmp a (meet a b) < 0 := by omega
  have f4 : (cmp a (meet a b) == 2) = false := by simp; omega
  have f5 : ¬ cmp b (meet a b) < 0 := by omega
  have f6 : (cmp b (meet a b) == 2) = false := by simp; omega
  have k1' : cmp a c ≤ 0 ∧ cmp b c ≤ 0 → cmp (join a b) c ≤ 0 := fun h => (cmp_le _ _).2 (join_le ((cmp_le a c).1 h.1) ((cmp_le b c).1 h.2))
  have k2' : (cmp a c = 0 ∨ cmp a c = 1) ∧ (cmp b c = 0 ∨ cmp b c = 1) → (cmp (meet a b) c = 0 ∨ cmp (meet a b) c = 1) := fun h => (cmp_ge _ _).2 (le_meet ((cmp_ge a c).1 h.1) ((cmp_ge b c).1 h.2))
  have k1 := Lib.hid k1'
  have k2 := Lib.hid k2'
  clear k1' k2' m1 m2
  go_enter Tryd.func6, Tryd.ntmps6
  go_wp2_with (first
    | (go_at_call 9; ((with_reducible refine (hB'.out _ _ _ (by assumption) (by assumption)).mono ?_); rintro e w1 ⟨rfl, hb1, hs1⟩; replace acc := acc_step (B := w.heap.size) (w := w) (by repeat (first | (with_reducible exact acc) | (with_reducible refine Below.drew ?_) | (with_reducible refine Below.alloc ?_ (by first | omega | (simp <;> omega)) _))) (by first | omega | (simp <;> omega)) hb1; obtain ⟨hc1, hf1⟩ := bcell hb1; clear hb1; (try simp at hs1); (try simp at hc1); (try simp at hf1)))
    | (go_at_call 11; ((with_reducible refine (hJ'.out _ _ _ (by assumption) (by assumption)).mono ?_); rintro e w1 ⟨rfl, hb1, hs1⟩; replace acc := acc_step (B := w.heap.size) (w := w) (by repeat (first | (with_reducible exact acc) | (with_reducible refine Below.drew ?_) | (with_reducible refine Below.alloc ?_ (by first | omega | (simp <;> omega)) _))) (by first | omega | (simp <;> omega)) hb1; obtain ⟨hc1, hf1⟩ := bcell hb1; clear hb1; (try simp at hs1); (try simp at hc1); (try simp at hf1)))
    | (go_at_call 12; ((with_reducible refine (hM'.out _ _ _ (by assumption) (by assumption)).mono ?_); rintro e w1 ⟨rfl, hb1, hs1⟩; replace acc := acc_step (B := w.heap.size) (w := w) (by repeat (first | (with_reducible exact acc) | (with_reducible refine Below.drew ?_) | (with_reducible refine Below.alloc ?_ (by first | omega | (simp <;> omega)) _))) (by first | omega | (simp <;> omega)) hb1; obtain ⟨hc1, hf1⟩ := bcell hb1; clear hb1; (try simp at hs1); (try simp at hc1); (try simp at hf1)))
    | (go_at_call 13; ((with_reducible refine (hC'.out _ _ _ (by assumption) (by assumption)).mono ?_); rintro e w1 ⟨rfl, hb1⟩; replace acc := acc_step (B := w.heap.size) (w := w) (by repeat (first | (with_reducible exact acc) | (with_reducible refine Below.drew ?_) | (with_reducible refine Below.alloc ?_ (by first | omega | (simp <;> omega)) _))) (by first | omega | (simp <;> omega)) hb1; obtain ⟨hc1, hf1⟩ := bcell hb1; have hs1 := hb1.size; clear hb1 hf1; (try simp at hs1); (try simp at hc1); have e0 := fun o => hc1 (w.heap.size) o (by omega); have e1 := fun o => hc1 (w.heap.size + 1) o (by omega); have e2 := fun o => hc1 (w.heap.size + 1 + 1) o (by omega); have e3 := fun o => hc1 (w.heap.size + 1 + 1 + 1 + 4 + 4 + 11) o (by omega); have e4 := fun o => hc1 (w.heap.size + 1 + 1 + 1 + 4 + 4 + 11 + 1 + 11) o (by omega); clear hc1))
    | (go_at_call 10; ((with_reducible refine (hS'.out _).mono ?_); rintro e w1 ⟨rfl, hb1⟩; replace acc := acc_step (B := w.heap.size) (w := w) (by repeat (first | (with_reducible exact acc) | (with_reducible refine Below.drew ?_) | (with_reducible refine Below.alloc ?_ (by first | omega | (simp <;> omega)) _))) (by first | omega | (simp <;> omega)) hb1; obtain ⟨hc1, hf1⟩ := bcell hb1; have hs1 := hb1.size; clear hb1; (try simp at hs1); (try simp at hc1); (try simp at hf1))))
  all_goals
    have k1' := k1.out
    have k2' := k2.out
    go_ret
    first
      | exact ⟨rfl, (by repeat (first | (with_reducible exact acc) | (with_reducible refine Below.drew ?_) | (with_reducible refine Below.alloc ?_ (by first | omega | (simp <;> omega)) _)))⟩
      | (exfalso; omega)
set_option maxHeartbeats 3200000 in
set_option maxRecDepth 100000 in
theorem least_wrong (a b c : C6) (w : World) (h : ¬ (R a ∧ R b ∧ R c)) : Calls Tryd.prog 6 #[a.v, b.v, c.v] w fun e w' => e = .returned (.bool true) ∧ Below w.heap.size w w' := by
  have acc := Below.refl w.heap.size w
  have hS' := Lib.hid (fun (W : World) => small_walk W)
  by_cases hab : R a ∧ R b
  · have hcc : ¬ (R c ∧ R c) := fun hc => h ⟨hab.1, hab.2, hc.1⟩
    have hB := fun (W : World) => bad_ok a b W hab.1 hab.2
    have hN := fun (W : World) => bad_no c c W hcc
    simp only [C6.v] at hB hN ⊢
    have hB' := Lib.hid hB
    have hN' := Lib.hid hN
    clear hB hN hcc hab h
    go_enter Tryd.func6, Tryd.ntmps6
    go_wp2_with (first
      | (go_at_call 9; first | ((with_reducible refine (hB'.out _).mono ?_); rintro e w1 ⟨rfl, hb1, hs1⟩; replace acc := acc_step (B := w.heap.size) (w := w) (by repeat (first | (with_reducible exact acc) | (with_reducible refine Below.drew ?_) | (with_reducible refine Below.alloc ?_ (by first | omega | (simp <;> omega)) _))) (by first | omega | (simp <;> omega)) hb1; obtain ⟨hc1, hf1⟩ := bcell hb1; clear hb1; (try simp at hs1); (try simp at hc1); (try simp at hf1)) | ((with_reducible refine (hN'.out _).mono ?_); rintro e w1 ⟨rfl, hb1⟩; replace acc := acc_step (B := w.heap.size) (w := w) (by repeat (first | (with_reducible exact acc) | (with_reducible refine Below.drew ?_) | (with_reducible refine Below.alloc ?_ (by first | omega | (simp <;> omega)) _))) (by first | omega | (simp <;> omega)) hb1; obtain ⟨hc1, hf1⟩ := bcell hb1; have hs1 := hb1.size; clear hb1; (try simp at hs1); (try simp at hc1); (try simp at hf1)))
      | (go_at_call 10; ((with_reducible refine (hS'.out _).mono ?_); rintro e w1 ⟨rfl, hb1⟩; replace acc := acc_step (B := w.heap.size) (w := w) (by repeat (first | (with_reducible exact acc) | (with_reducible refine Below.drew ?_) | (with_reducible refine Below.alloc ?_ (by first | omega | (simp <;> omega)) _))) (by first | omega | (simp <;> omega)) hb1; obtain ⟨hc1, hf1⟩ := bcell hb1; have hs1 := hb1.size; clear hb1; (try simp at hs1); (try simp at hc1); (try simp at hf1))))
    go_ret
    exact ⟨rfl, acc⟩
  · have hN := fun (W : World) => bad_no a b W hab
    simp only [C6.v] at hN ⊢
    have hN' := Lib.hid hN
    clear hN hab h
    go_enter Tryd.func6, Tryd.ntmps6
    go_wp2_with (first
      | (go_at_call 9; ((with_reducible refine (hN'.out _).mono ?_); rintro e w1 ⟨rfl, hb1⟩; replace acc := acc_step (B := w.heap.size) (w := w) (by repeat (first | (with_reducible exact acc) | (with_reducible refine Below.drew ?_) | (with_reducible refine Below.alloc ?_ (by first | omega | (simp <;> omega)) _))) (by first | omega | (simp <;> omega)) hb1; obtain ⟨hc1, hf1⟩ := bcell hb1; have hs1 := hb1.size; clear hb1; (try simp at hs1); (try simp at hc1); (try simp at hf1)))
      | (go_at_call 10; ((with_reducible refine (hS'.out _).mono ?_); rintro e w1 ⟨rfl, hb1⟩; replace acc := acc_step (B := w.heap.size) (w := w) (by repeat (first | (with_reducible exact acc) | (with_reducible refine Below.drew ?_) | (with_reducible refine Below.alloc ?_ (by first | omega | (simp <;> omega)) _))) (by first | omega | (simp <;> omega)) hb1; obtain ⟨hc1, hf1⟩ := bcell hb1; have hs1 := hb1.size; clear hb1; (try simp at hs1); (try simp at hc1); (try simp at hf1))))
    go_ret
    exact ⟨rfl, acc⟩
theorem least_walk (a b c : C6) (w : World) (_ : wf6 a) (_ : wf6 b) (_ : wf6 c) : Calls Tryd.prog 6 #[a.v, b.v, c.v] w fun e w' => e = .returned (.bool true) ∧ Below w.heap.size w w' := by
  by_cases h : R a ∧ R b ∧ R c
  · exact least_right a b c w h.1 h.2.1 h.2.2
  · exact least_wrong a b c w h
end Go.Proofs.YtfhdmknplpgiiaaDoor.Ck
