/- Several texts of one proof, one behind the other. word.Apply: there is what it gives, of every operation, ints, whatever the world that holds the table of math/bits. | word.Apply as the walks of the state ask for it. The condition: the table of math/bits lies in the world. -/
import Derived.Test.YtbcdeanmjhcgeaaDoorZg
import Derived.Test.YtbcdeanmjhcgeaaDoorZL1
import Derived.Test.YtbcdeanmjhcgeaaDoorZA2
import Derived.Test.YtbcdeanmjhcgeaaDoorZA3
namespace Go.Proofs.YtbcdeanmjhcgeaaDoor.Alu
set_option linter.unusedVariables false
set_option linter.unusedSimpArgs false
open Go.RowKit
set_option linter.unusedVariables false
set_option linter.unusedSimpArgs false
set_option maxHeartbeats 4000000 in
set_option maxRecDepth 100000 in
theorem arity_walk (k : Int) (h1 : 1 ≤ k) (h2 : k ≤ 36) (W : World) : Calls Tryd.prog 88 #[.int .i64 k] W fun e w' => e = .returned (.int .i64 (if k ≤ 15 then 1 else 2)) ∧ w' = W := by
  have d1 : decide (1 ≤ k) = true := by simpa using h1
  have d2 : decide (k ≤ 36) = true := by simpa using h2
  by_cases c : k ≤ 15
  · rw [if_pos c]
    have d3 : decide (k ≤ 15) = true := by simpa using c
    clear c h1 h2
    go_enter Tryd.func88, Tryd.ntmps88
    go_wp2
    go_ret
    exact ⟨rfl, rfl⟩
  · rw [if_neg c]
    have d3 : decide (k ≤ 15) = false := by simpa using c
    have d4 : decide (15 < k) = true := by simp; omega
    clear c h1 h2
    go_enter Tryd.func88, Tryd.ntmps88
    go_wp2
    go_ret
    exact ⟨rfl, rfl⟩
set_option maxHeartbeats 4000000 in
set_option maxRecDepth 100000 in
theorem ap_one (k a b : Int) (h1 : 1 ≤ k) (h2 : k ≤ 15) {x : Int} (W : World) (cx : Calls Tryd.prog 89 #[.int .i64 k, .int .i64 a] W fun e w' => e = .returned (.int .i64 x) ∧ w' = W) :
    Calls Tryd.prog 69 #[.int .i64 k, .int .i64 a, .int .i64 b] W fun e w' => e = .returned (.tuple #[.int .i64 x, .int .i64 0]) ∧ w' = W := by
  have cA := Lib.hid (fun W => arity_walk k h1 (by omega) W)
  rw [if_pos h2] at cA
  clear h1 h2
  go_enter Tryd.func69, Tryd.ntmps69
  refine opq (fun Q hQ => ?_)
  repeat (first
    | (refine wp_block ?_; refine opq (fun Q' hQ' => ?_))
    | (refine wp_seq ?_; refine opq (fun Q' hQ' => ?_))
    | (refine wp_cond_true rfl ?_)
    | (refine wp_cond_false rfl ?_)
    | (refine wp_exit ?_)
    | (refine wp_skip ?_)
    | (refine wp_ret ?_)
    | (refine opq_out (by assumption) ?_; simp only [Exit.then, Exit.inBlock, Nat.reduceEqDiff, reduceIte])
    | (refine is_region ?_; go_wp2_with (first | (go_at_call 89; ((with_reducible refine (cx).mono ?_); rintro e w' ⟨rfl, rfl⟩)) | (go_at_call 88; ((with_reducible refine (cA.out _).mono ?_); rintro e w' ⟨rfl, rfl⟩)))))
  refine opq_out hQ ?_
  refine bodyPost_ret (results_tmp2 rfl _ _ _) rfl ?_
  exact ⟨rfl, rfl⟩
set_option maxHeartbeats 4000000 in
set_option maxRecDepth 100000 in
theorem ap_lo (k a b : Int) (h1 : 16 ≤ k) (h2 : k ≤ 36) (n1 : k ≠ 19) (n2 : k ≠ 20) (n3 : k < 25) {x : Int} (W : World) (cx : Calls Tryd.prog 92 #[.int .i64 k, .int .i64 a, .int .i64 b] W fun e w' => e = .returned (.int .i64 x) ∧ w' = W) :
    Calls Tryd.prog 69 #[.int .i64 k, .int .i64 a, .int .i64 b] W fun e w' => e = .returned (.tuple #[.int .i64 x, .int .i64 0]) ∧ w' = W := by
  have cA := Lib.hid (fun W => arity_walk k (by omega) h2 W)
  rw [if_neg (by omega)] at cA
  have d1 : (k == 19) = false := by simpa using n1
  have d2 : (k == 20) = false := by simpa using n2
  have d3 : decide (25 ≤ k) = false := by simpa using n3
  clear n1 n2 n3 h1 h2
  go_enter Tryd.func69, Tryd.ntmps69
  refine opq (fun Q hQ => ?_)
  repeat (first
    | (refine wp_block ?_; refine opq (fun Q' hQ' => ?_))
    | (refine wp_seq ?_; refine opq (fun Q' hQ' => ?_))
    | (refine wp_cond_true rfl ?_)
    | (refine wp_cond_false rfl ?_)
    | (refine wp_exit ?_)
    | (refine wp_skip ?_)
    | (refine wp_ret ?_)
    | (refine opq_out (by assumption) ?_; simp only [Exit.then, Exit.inBlock, Nat.reduceEqDiff, reduceIte])
    | (refine is_region ?_; go_wp2_with (first | (go_at_call 92; ((with_reducible refine (cx).mono ?_); rintro e w' ⟨rfl, rfl⟩)) | (go_at_call 88; ((with_reducible refine (cA.out _).mono ?_); rintro e w' ⟨rfl, rfl⟩)))))
  refine opq_out hQ ?_
  refine bodyPost_ret (results_tmp2 rfl _ _ _) rfl ?_
  exact ⟨rfl, rfl⟩
set_option maxHeartbeats 4000000 in
set_option maxRecDepth 100000 in
theorem ap_hi (k a b : Int) (h1 : 16 ≤ k) (h2 : k ≤ 36) (n1 : k ≠ 19) (n2 : k ≠ 20) (n3 : 27 < k) {x : Int} (W : World) (cx : Calls Tryd.prog 92 #[.int .i64 k, .int .i64 a, .int .i64 b] W fun e w' => e = .returned (.int .i64 x) ∧ w' = W) :
    Calls Tryd.prog 69 #[.int .i64 k, .int .i64 a, .int .i64 b] W fun e w' => e = .returned (.tuple #[.int .i64 x, .int .i64 0]) ∧ w' = W := by
  have cA := Lib.hid (fun W => arity_walk k (by omega) h2 W)
  rw [if_neg (by omega)] at cA
  have d1 : (k == 19) = false := by simpa using n1
  have d2 : (k == 20) = false := by simpa using n2
  have d3 : decide (25 ≤ k) = true := by simp; omega
  have d4 : decide (k ≤ 27) = false := by simpa using n3
  clear n1 n2 n3 h1 h2
  go_enter Tryd.func69, Tryd.ntmps69
  refine opq (fun Q hQ => ?_)
  repeat (first
    | (refine wp_block ?_; refine opq (fun Q' hQ' => ?_))
    | (refine wp_seq ?_; refine opq (fun Q' hQ' => ?_))
    | (refine wp_cond_true rfl ?_)
    | (refine wp_cond_false rfl ?_)
    | (refine wp_exit ?_)
    | (refine wp_skip ?_)
    | (refine wp_ret ?_)
    | (refine opq_out (by assumption) ?_; simp only [Exit.then, Exit.inBlock, Nat.reduceEqDiff, reduceIte])
    | (refine is_region ?_; go_wp2_with (first | (go_at_call 92; ((with_reducible refine (cx).mono ?_); rintro e w' ⟨rfl, rfl⟩)) | (go_at_call 88; ((with_reducible refine (cA.out _).mono ?_); rintro e w' ⟨rfl, rfl⟩)))))
  refine opq_out hQ ?_
  refine bodyPost_ret (results_tmp2 rfl _ _ _) rfl ?_
  exact ⟨rfl, rfl⟩
set_option maxHeartbeats 4000000 in
set_option maxRecDepth 100000 in
theorem ap_19 (k a b : Int) {y : Int} {x : Int} (W : World) (cx : Calls Tryd.prog 90 #[.int .i64 19, .int .i64 a, .int .i64 b] W fun e w' => e = .returned (.tuple #[.int .i64 x, .int .i64 y]) ∧ w' = W) :
    Calls Tryd.prog 69 #[.int .i64 19, .int .i64 a, .int .i64 b] W fun e w' => e = .returned (.tuple #[.int .i64 x, .int .i64 y]) ∧ w' = W := by
  have cA := Lib.hid (fun W => arity_walk 19 (by omega) (by omega) W)
  rw [if_neg (by omega)] at cA
  go_enter Tryd.func69, Tryd.ntmps69
  refine opq (fun Q hQ => ?_)
  repeat (first
    | (refine wp_block ?_; refine opq (fun Q' hQ' => ?_))
    | (refine wp_seq ?_; refine opq (fun Q' hQ' => ?_))
    | (refine wp_cond_true rfl ?_)
    | (refine wp_cond_false rfl ?_)
    | (refine wp_exit ?_)
    | (refine wp_skip ?_)
    | (refine wp_ret ?_)
    | (refine opq_out (by assumption) ?_; simp only [Exit.then, Exit.inBlock, Nat.reduceEqDiff, reduceIte])
    | (refine is_region ?_; go_wp2_with (first | (go_at_call 90; ((with_reducible refine (cx).mono ?_); rintro e w' ⟨rfl, rfl⟩)) | (go_at_call 88; ((with_reducible refine (cA.out _).mono ?_); rintro e w' ⟨rfl, rfl⟩)))))
  refine opq_out hQ ?_
  refine bodyPost_ret (results_tmp2 rfl _ _ _) rfl ?_
  exact ⟨rfl, rfl⟩
set_option maxHeartbeats 4000000 in
set_option maxRecDepth 100000 in
theorem ap_20 (k a b : Int) {y : Int} {x : Int} (W : World) (cx : Calls Tryd.prog 90 #[.int .i64 20, .int .i64 a, .int .i64 b] W fun e w' => e = .returned (.tuple #[.int .i64 x, .int .i64 y]) ∧ w' = W) :
    Calls Tryd.prog 69 #[.int .i64 20, .int .i64 a, .int .i64 b] W fun e w' => e = .returned (.tuple #[.int .i64 x, .int .i64 y]) ∧ w' = W := by
  have cA := Lib.hid (fun W => arity_walk 20 (by omega) (by omega) W)
  rw [if_neg (by omega)] at cA
  go_enter Tryd.func69, Tryd.ntmps69
  refine opq (fun Q hQ => ?_)
  repeat (first
    | (refine wp_block ?_; refine opq (fun Q' hQ' => ?_))
    | (refine wp_seq ?_; refine opq (fun Q' hQ' => ?_))
    | (refine wp_cond_true rfl ?_)
    | (refine wp_cond_false rfl ?_)
    | (refine wp_exit ?_)
    | (refine wp_skip ?_)
    | (refine wp_ret ?_)
    | (refine opq_out (by assumption) ?_; simp only [Exit.then, Exit.inBlock, Nat.reduceEqDiff, reduceIte])
    | (refine is_region ?_; go_wp2_with (first | (go_at_call 90; ((with_reducible refine (cx).mono ?_); rintro e w' ⟨rfl, rfl⟩)) | (go_at_call 88; ((with_reducible refine (cA.out _).mono ?_); rintro e w' ⟨rfl, rfl⟩)))))
  refine opq_out hQ ?_
  refine bodyPost_ret (results_tmp2 rfl _ _ _) rfl ?_
  exact ⟨rfl, rfl⟩
set_option maxHeartbeats 4000000 in
set_option maxRecDepth 100000 in
theorem ap_25 (k a b : Int) {y : Int} {x : Int} (W : World) (cx : Calls Tryd.prog 91 #[.int .i64 25, .int .i64 a, .int .i64 b] W fun e w' => e = .returned (.tuple #[.int .i64 x, .int .i64 y]) ∧ w' = W) :
    Calls Tryd.prog 69 #[.int .i64 25, .int .i64 a, .int .i64 b] W fun e w' => e = .returned (.tuple #[.int .i64 x, .int .i64 y]) ∧ w' = W := by
  have cA := Lib.hid (fun W => arity_walk 25 (by omega) (by omega) W)
  rw [if_neg (by omega)] at cA
  go_enter Tryd.func69, Tryd.ntmps69
  refine opq (fun Q hQ => ?_)
  repeat (first
    | (refine wp_block ?_; refine opq (fun Q' hQ' => ?_))
    | (refine wp_seq ?_; refine opq (fun Q' hQ' => ?_))
    | (refine wp_cond_true rfl ?_)
    | (refine wp_cond_false rfl ?_)
    | (refine wp_exit ?_)
    | (refine wp_skip ?_)
    | (refine wp_ret ?_)
    | (refine opq_out (by assumption) ?_; simp only [Exit.then, Exit.inBlock, Nat.reduceEqDiff, reduceIte])
    | (refine is_region ?_; go_wp2_with (first | (go_at_call 91; ((with_reducible refine (cx).mono ?_); rintro e w' ⟨rfl, rfl⟩)) | (go_at_call 88; ((with_reducible refine (cA.out _).mono ?_); rintro e w' ⟨rfl, rfl⟩)))))
  refine opq_out hQ ?_
  refine bodyPost_ret (results_tmp2 rfl _ _ _) rfl ?_
  exact ⟨rfl, rfl⟩
set_option maxHeartbeats 4000000 in
set_option maxRecDepth 100000 in
theorem ap_26 (k a b : Int) {y : Int} {x : Int} (W : World) (cx : Calls Tryd.prog 91 #[.int .i64 26, .int .i64 a, .int .i64 b] W fun e w' => e = .returned (.tuple #[.int .i64 x, .int .i64 y]) ∧ w' = W) :
    Calls Tryd.prog 69 #[.int .i64 26, .int .i64 a, .int .i64 b] W fun e w' => e = .returned (.tuple #[.int .i64 x, .int .i64 y]) ∧ w' = W := by
  have cA := Lib.hid (fun W => arity_walk 26 (by omega) (by omega) W)
  rw [if_neg (by omega)] at cA
  go_enter Tryd.func69, Tryd.ntmps69
  refine opq (fun Q hQ => ?_)
  repeat (first
    | (refine wp_block ?_; refine opq (fun Q' hQ' => ?_))
    | (refine wp_seq ?_; refine opq (fun Q' hQ' => ?_))
    | (refine wp_cond_true rfl ?_)
    | (refine wp_cond_false rfl ?_)
    | (refine wp_exit ?_)
    | (refine wp_skip ?_)
    | (refine wp_ret ?_)
    | (refine opq_out (by assumption) ?_; simp only [Exit.then, Exit.inBlock, Nat.reduceEqDiff, reduceIte])
    | (refine is_region ?_; go_wp2_with (first | (go_at_call 91; ((with_reducible refine (cx).mono ?_); rintro e w' ⟨rfl, rfl⟩)) | (go_at_call 88; ((with_reducible refine (cA.out _).mono ?_); rintro e w' ⟨rfl, rfl⟩)))))
  refine opq_out hQ ?_
  refine bodyPost_ret (results_tmp2 rfl _ _ _) rfl ?_
  exact ⟨rfl, rfl⟩
set_option maxHeartbeats 4000000 in
set_option maxRecDepth 100000 in
theorem ap_27 (k a b : Int) {y : Int} {x : Int} (W : World) (cx : Calls Tryd.prog 91 #[.int .i64 27, .int .i64 a, .int .i64 b] W fun e w' => e = .returned (.tuple #[.int .i64 x, .int .i64 y]) ∧ w' = W) :
    Calls Tryd.prog 69 #[.int .i64 27, .int .i64 a, .int .i64 b] W fun e w' => e = .returned (.tuple #[.int .i64 x, .int .i64 y]) ∧ w' = W := by
  have cA := Lib.hid (fun W => arity_walk 27 (by omega) (by omega) W)
  rw [if_neg (by omega)] at cA
  go_enter Tryd.func69, Tryd.ntmps69
  refine opq (fun Q hQ => ?_)
  repeat (first
    | (refine wp_block ?_; refine opq (fun Q' hQ' => ?_))
    | (refine wp_seq ?_; refine opq (fun Q' hQ' => ?_))
    | (refine wp_cond_true rfl ?_)
    | (refine wp_cond_false rfl ?_)
    | (refine wp_exit ?_)
    | (refine wp_skip ?_)
    | (refine wp_ret ?_)
    | (refine opq_out (by assumption) ?_; simp only [Exit.then, Exit.inBlock, Nat.reduceEqDiff, reduceIte])
    | (refine is_region ?_; go_wp2_with (first | (go_at_call 91; ((with_reducible refine (cx).mono ?_); rintro e w' ⟨rfl, rfl⟩)) | (go_at_call 88; ((with_reducible refine (cA.out _).mono ?_); rintro e w' ⟨rfl, rfl⟩)))))
  refine opq_out hQ ?_
  refine bodyPost_ret (results_tmp2 rfl _ _ _) rfl ?_
  exact ⟨rfl, rfl⟩
theorem i6_0 : I6 0 := by unfold I6; omega
theorem i6_20 : I6 20 := by unfold I6; omega
theorem i6_21 : I6 21 := by unfold I6; omega
theorem gives_one (k a b : Int) (h1 : 1 ≤ k) (h2 : k ≤ 15) (h : I6 a) : ∃ x y : Int, (∀ W, Tab W → Calls Tryd.prog 69 #[.int .i64 k, .int .i64 a, .int .i64 b] W fun e w' => e = .returned (.tuple #[.int .i64 x, .int .i64 y]) ∧ w' = W) ∧ I6 x ∧ I6 y ∧ (y = 20 → k = 19 ∨ k = 20) ∧ (y = 21 → 25 ≤ k ∧ k ≤ 27) := by
  obtain ⟨x, cx, hx⟩ := one_ex k a h1 h2 h
  exact ⟨x, 0, fun W hT => ap_one k a b h1 h2 W (cx W hT), hx, i6_0, by omega, by omega⟩
theorem gives_16 (a b : Int) (h : I6 a) (h' : I6 b) : ∃ x y : Int, (∀ W, Tab W → Calls Tryd.prog 69 #[.int .i64 16, .int .i64 a, .int .i64 b] W fun e w' => e = .returned (.tuple #[.int .i64 x, .int .i64 y]) ∧ w' = W) ∧ I6 x ∧ I6 y ∧ (y = 20 → (16 : Int) = 19 ∨ (16 : Int) = 20) ∧ (y = 21 → 25 ≤ (16 : Int) ∧ (16 : Int) ≤ 27) := by
  obtain ⟨x, cx, hx⟩ := two_16 a b h h'
  exact ⟨x, 0, fun W hT => ap_lo 16 a b (by omega) (by omega) (by omega) (by omega) (by omega) W (cx W), hx, i6_0, by omega, by omega⟩
theorem gives_17 (a b : Int) (h : I6 a) (h' : I6 b) : ∃ x y : Int, (∀ W, Tab W → Calls Tryd.prog 69 #[.int .i64 17, .int .i64 a, .int .i64 b] W fun e w' => e = .returned (.tuple #[.int .i64 x, .int .i64 y]) ∧ w' = W) ∧ I6 x ∧ I6 y ∧ (y = 20 → (17 : Int) = 19 ∨ (17 : Int) = 20) ∧ (y = 21 → 25 ≤ (17 : Int) ∧ (17 : Int) ≤ 27) := by
  obtain ⟨x, cx, hx⟩ := two_17 a b h h'
  exact ⟨x, 0, fun W hT => ap_lo 17 a b (by omega) (by omega) (by omega) (by omega) (by omega) W (cx W), hx, i6_0, by omega, by omega⟩
theorem gives_18 (a b : Int) (h : I6 a) (h' : I6 b) : ∃ x y : Int, (∀ W, Tab W → Calls Tryd.prog 69 #[.int .i64 18, .int .i64 a, .int .i64 b] W fun e w' => e = .returned (.tuple #[.int .i64 x, .int .i64 y]) ∧ w' = W) ∧ I6 x ∧ I6 y ∧ (y = 20 → (18 : Int) = 19 ∨ (18 : Int) = 20) ∧ (y = 21 → 25 ≤ (18 : Int) ∧ (18 : Int) ≤ 27) := by
  obtain ⟨x, cx, hx⟩ := two_18 a b h h'
  exact ⟨x, 0, fun W hT => ap_lo 18 a b (by omega) (by omega) (by omega) (by omega) (by omega) W (cx W), hx, i6_0, by omega, by omega⟩
theorem gives_21 (a b : Int) (h : I6 a) (h' : I6 b) : ∃ x y : Int, (∀ W, Tab W → Calls Tryd.prog 69 #[.int .i64 21, .int .i64 a, .int .i64 b] W fun e w' => e = .returned (.tuple #[.int .i64 x, .int .i64 y]) ∧ w' = W) ∧ I6 x ∧ I6 y ∧ (y = 20 → (21 : Int) = 19 ∨ (21 : Int) = 20) ∧ (y = 21 → 25 ≤ (21 : Int) ∧ (21 : Int) ≤ 27) := by
  obtain ⟨x, cx, hx⟩ := two_21 a b h h'
  exact ⟨x, 0, fun W hT => ap_lo 21 a b (by omega) (by omega) (by omega) (by omega) (by omega) W (cx W), hx, i6_0, by omega, by omega⟩
theorem gives_22 (a b : Int) (h : I6 a) (h' : I6 b) : ∃ x y : Int, (∀ W, Tab W → Calls Tryd.prog 69 #[.int .i64 22, .int .i64 a, .int .i64 b] W fun e w' => e = .returned (.tuple #[.int .i64 x, .int .i64 y]) ∧ w' = W) ∧ I6 x ∧ I6 y ∧ (y = 20 → (22 : Int) = 19 ∨ (22 : Int) = 20) ∧ (y = 21 → 25 ≤ (22 : Int) ∧ (22 : Int) ≤ 27) := by
  obtain ⟨x, cx, hx⟩ := two_22 a b h h'
  exact ⟨x, 0, fun W hT => ap_lo 22 a b (by omega) (by omega) (by omega) (by omega) (by omega) W (cx W), hx, i6_0, by omega, by omega⟩
theorem gives_23 (a b : Int) (h : I6 a) (h' : I6 b) : ∃ x y : Int, (∀ W, Tab W → Calls Tryd.prog 69 #[.int .i64 23, .int .i64 a, .int .i64 b] W fun e w' => e = .returned (.tuple #[.int .i64 x, .int .i64 y]) ∧ w' = W) ∧ I6 x ∧ I6 y ∧ (y = 20 → (23 : Int) = 19 ∨ (23 : Int) = 20) ∧ (y = 21 → 25 ≤ (23 : Int) ∧ (23 : Int) ≤ 27) := by
  obtain ⟨x, cx, hx⟩ := two_23 a b h h'
  exact ⟨x, 0, fun W hT => ap_lo 23 a b (by omega) (by omega) (by omega) (by omega) (by omega) W (cx W), hx, i6_0, by omega, by omega⟩
theorem gives_24 (a b : Int) (h : I6 a) (h' : I6 b) : ∃ x y : Int, (∀ W, Tab W → Calls Tryd.prog 69 #[.int .i64 24, .int .i64 a, .int .i64 b] W fun e w' => e = .returned (.tuple #[.int .i64 x, .int .i64 y]) ∧ w' = W) ∧ I6 x ∧ I6 y ∧ (y = 20 → (24 : Int) = 19 ∨ (24 : Int) = 20) ∧ (y = 21 → 25 ≤ (24 : Int) ∧ (24 : Int) ≤ 27) := by
  obtain ⟨x, cx, hx⟩ := two_24 a b h h'
  exact ⟨x, 0, fun W hT => ap_lo 24 a b (by omega) (by omega) (by omega) (by omega) (by omega) W (cx W), hx, i6_0, by omega, by omega⟩
theorem gives_28 (a b : Int) (h : I6 a) (h' : I6 b) : ∃ x y : Int, (∀ W, Tab W → Calls Tryd.prog 69 #[.int .i64 28, .int .i64 a, .int .i64 b] W fun e w' => e = .returned (.tuple #[.int .i64 x, .int .i64 y]) ∧ w' = W) ∧ I6 x ∧ I6 y ∧ (y = 20 → (28 : Int) = 19 ∨ (28 : Int) = 20) ∧ (y = 21 → 25 ≤ (28 : Int) ∧ (28 : Int) ≤ 27) := by
  obtain ⟨x, cx, hx⟩ := two_28 a b h h'
  exact ⟨x, 0, fun W hT => ap_hi 28 a b (by omega) (by omega) (by omega) (by omega) (by omega) W (cx W), hx, i6_0, by omega, by omega⟩
theorem gives_34 (a b : Int) (h : I6 a) (h' : I6 b) : ∃ x y : Int, (∀ W, Tab W → Calls Tryd.prog 69 #[.int .i64 34, .int .i64 a, .int .i64 b] W fun e w' => e = .returned (.tuple #[.int .i64 x, .int .i64 y]) ∧ w' = W) ∧ I6 x ∧ I6 y ∧ (y = 20 → (34 : Int) = 19 ∨ (34 : Int) = 20) ∧ (y = 21 → 25 ≤ (34 : Int) ∧ (34 : Int) ≤ 27) := by
  obtain ⟨x, cx, hx⟩ := two_34 a b h h'
  exact ⟨x, 0, fun W hT => ap_hi 34 a b (by omega) (by omega) (by omega) (by omega) (by omega) W (cx W), hx, i6_0, by omega, by omega⟩
theorem gives_35 (a b : Int) (h : I6 a) (h' : I6 b) : ∃ x y : Int, (∀ W, Tab W → Calls Tryd.prog 69 #[.int .i64 35, .int .i64 a, .int .i64 b] W fun e w' => e = .returned (.tuple #[.int .i64 x, .int .i64 y]) ∧ w' = W) ∧ I6 x ∧ I6 y ∧ (y = 20 → (35 : Int) = 19 ∨ (35 : Int) = 20) ∧ (y = 21 → 25 ≤ (35 : Int) ∧ (35 : Int) ≤ 27) := by
  obtain ⟨x, cx, hx⟩ := two_35 a b h h'
  exact ⟨x, 0, fun W hT => ap_hi 35 a b (by omega) (by omega) (by omega) (by omega) (by omega) W (cx W), hx, i6_0, by omega, by omega⟩
theorem gives_36 (a b : Int) (h : I6 a) (h' : I6 b) : ∃ x y : Int, (∀ W, Tab W → Calls Tryd.prog 69 #[.int .i64 36, .int .i64 a, .int .i64 b] W fun e w' => e = .returned (.tuple #[.int .i64 x, .int .i64 y]) ∧ w' = W) ∧ I6 x ∧ I6 y ∧ (y = 20 → (36 : Int) = 19 ∨ (36 : Int) = 20) ∧ (y = 21 → 25 ≤ (36 : Int) ∧ (36 : Int) ≤ 27) := by
  obtain ⟨x, cx, hx⟩ := two_36 a b h h'
  exact ⟨x, 0, fun W hT => ap_hi 36 a b (by omega) (by omega) (by omega) (by omega) (by omega) W (cx W), hx, i6_0, by omega, by omega⟩
theorem gives_29 (a b : Int) (h : I6 a) (h' : I6 b) : ∃ x y : Int, (∀ W, Tab W → Calls Tryd.prog 69 #[.int .i64 29, .int .i64 a, .int .i64 b] W fun e w' => e = .returned (.tuple #[.int .i64 x, .int .i64 y]) ∧ w' = W) ∧ I6 x ∧ I6 y ∧ (y = 20 → (29 : Int) = 19 ∨ (29 : Int) = 20) ∧ (y = 21 → 25 ≤ (29 : Int) ∧ (29 : Int) ≤ 27) := by
  by_cases c : a = b
  · obtain ⟨x, cx, hx⟩ := two_29a a b h h' c
    exact ⟨x, 0, fun W hT => ap_hi 29 a b (by omega) (by omega) (by omega) (by omega) (by omega) W (cx W), hx, i6_0, by omega, by omega⟩
  · obtain ⟨x, cx, hx⟩ := two_29b a b h h' c
    exact ⟨x, 0, fun W hT => ap_hi 29 a b (by omega) (by omega) (by omega) (by omega) (by omega) W (cx W), hx, i6_0, by omega, by omega⟩
theorem gives_30 (a b : Int) (h : I6 a) (h' : I6 b) : ∃ x y : Int, (∀ W, Tab W → Calls Tryd.prog 69 #[.int .i64 30, .int .i64 a, .int .i64 b] W fun e w' => e = .returned (.tuple #[.int .i64 x, .int .i64 y]) ∧ w' = W) ∧ I6 x ∧ I6 y ∧ (y = 20 → (30 : Int) = 19 ∨ (30 : Int) = 20) ∧ (y = 21 → 25 ≤ (30 : Int) ∧ (30 : Int) ≤ 27) := by
  by_cases c : a = b
  · obtain ⟨x, cx, hx⟩ := two_30a a b h h' c
    exact ⟨x, 0, fun W hT => ap_hi 30 a b (by omega) (by omega) (by omega) (by omega) (by omega) W (cx W), hx, i6_0, by omega, by omega⟩
  · obtain ⟨x, cx, hx⟩ := two_30b a b h h' c
    exact ⟨x, 0, fun W hT => ap_hi 30 a b (by omega) (by omega) (by omega) (by omega) (by omega) W (cx W), hx, i6_0, by omega, by omega⟩
theorem gives_31 (a b : Int) (h : I6 a) (h' : I6 b) : ∃ x y : Int, (∀ W, Tab W → Calls Tryd.prog 69 #[.int .i64 31, .int .i64 a, .int .i64 b] W fun e w' => e = .returned (.tuple #[.int .i64 x, .int .i64 y]) ∧ w' = W) ∧ I6 x ∧ I6 y ∧ (y = 20 → (31 : Int) = 19 ∨ (31 : Int) = 20) ∧ (y = 21 → 25 ≤ (31 : Int) ∧ (31 : Int) ≤ 27) := by
  by_cases c : a < b
  · obtain ⟨x, cx, hx⟩ := two_31a a b h h' c
    exact ⟨x, 0, fun W hT => ap_hi 31 a b (by omega) (by omega) (by omega) (by omega) (by omega) W (cx W), hx, i6_0, by omega, by omega⟩
  · obtain ⟨x, cx, hx⟩ := two_31b a b h h' c
    exact ⟨x, 0, fun W hT => ap_hi 31 a b (by omega) (by omega) (by omega) (by omega) (by omega) W (cx W), hx, i6_0, by omega, by omega⟩
theorem gives_32 (a b : Int) (h : I6 a) (h' : I6 b) : ∃ x y : Int, (∀ W, Tab W → Calls Tryd.prog 69 #[.int .i64 32, .int .i64 a, .int .i64 b] W fun e w' => e = .returned (.tuple #[.int .i64 x, .int .i64 y]) ∧ w' = W) ∧ I6 x ∧ I6 y ∧ (y = 20 → (32 : Int) = 19 ∨ (32 : Int) = 20) ∧ (y = 21 → 25 ≤ (32 : Int) ∧ (32 : Int) ≤ 27) := by
  by_cases c : a ≤ b
  · obtain ⟨x, cx, hx⟩ := two_32a a b h h' c
    exact ⟨x, 0, fun W hT => ap_hi 32 a b (by omega) (by omega) (by omega) (by omega) (by omega) W (cx W), hx, i6_0, by omega, by omega⟩
  · obtain ⟨x, cx, hx⟩ := two_32b a b h h' c
    exact ⟨x, 0, fun W hT => ap_hi 32 a b (by omega) (by omega) (by omega) (by omega) (by omega) W (cx W), hx, i6_0, by omega, by omega⟩
theorem gives_33 (a b : Int) (h : I6 a) (h' : I6 b) : ∃ x y : Int, (∀ W, Tab W → Calls Tryd.prog 69 #[.int .i64 33, .int .i64 a, .int .i64 b] W fun e w' => e = .returned (.tuple #[.int .i64 x, .int .i64 y]) ∧ w' = W) ∧ I6 x ∧ I6 y ∧ (y = 20 → (33 : Int) = 19 ∨ (33 : Int) = 20) ∧ (y = 21 → 25 ≤ (33 : Int) ∧ (33 : Int) ≤ 27) := by
  by_cases c : IntKind.u64.wrap a < IntKind.u64.wrap b
  · obtain ⟨x, cx, hx⟩ := two_33a a b h h' c
    exact ⟨x, 0, fun W hT => ap_hi 33 a b (by omega) (by omega) (by omega) (by omega) (by omega) W (cx W), hx, i6_0, by omega, by omega⟩
  · obtain ⟨x, cx, hx⟩ := two_33b a b h h' c
    exact ⟨x, 0, fun W hT => ap_hi 33 a b (by omega) (by omega) (by omega) (by omega) (by omega) W (cx W), hx, i6_0, by omega, by omega⟩
theorem gives_19 (a b : Int) (h : I6 a) (h' : I6 b) : ∃ x y : Int, (∀ W, Tab W → Calls Tryd.prog 69 #[.int .i64 19, .int .i64 a, .int .i64 b] W fun e w' => e = .returned (.tuple #[.int .i64 x, .int .i64 y]) ∧ w' = W) ∧ I6 x ∧ I6 y ∧ (y = 20 → (19 : Int) = 19 ∨ (19 : Int) = 20) ∧ (y = 21 → 25 ≤ (19 : Int) ∧ (19 : Int) ≤ 27) := by
  by_cases c : b = 0
  · obtain ⟨x, cx, hx⟩ := div_19a a b h h' c
    exact ⟨x, 20, fun W hT => ap_19 0 a b W (cx W), hx, i6_20, by omega, by omega⟩
  by_cases c' : b = -1
  · obtain ⟨x, cx, hx⟩ := div_19b a b h h' c'
    exact ⟨x, 0, fun W hT => ap_19 0 a b W (cx W), hx, i6_0, by omega, by omega⟩
  · obtain ⟨x, cx, hx⟩ := div_19c a b h h' ⟨c, c'⟩
    exact ⟨x, 0, fun W hT => ap_19 0 a b W (cx W), hx, i6_0, by omega, by omega⟩
theorem gives_20 (a b : Int) (h : I6 a) (h' : I6 b) : ∃ x y : Int, (∀ W, Tab W → Calls Tryd.prog 69 #[.int .i64 20, .int .i64 a, .int .i64 b] W fun e w' => e = .returned (.tuple #[.int .i64 x, .int .i64 y]) ∧ w' = W) ∧ I6 x ∧ I6 y ∧ (y = 20 → (20 : Int) = 19 ∨ (20 : Int) = 20) ∧ (y = 21 → 25 ≤ (20 : Int) ∧ (20 : Int) ≤ 27) := by
  by_cases c : b = 0
  · obtain ⟨x, cx, hx⟩ := div_20a a b h h' c
    exact ⟨x, 20, fun W hT => ap_20 0 a b W (cx W), hx, i6_20, by omega, by omega⟩
  by_cases c' : b = -1
  · obtain ⟨x, cx, hx⟩ := div_20b a b h h' c'
    exact ⟨x, 0, fun W hT => ap_20 0 a b W (cx W), hx, i6_0, by omega, by omega⟩
  · obtain ⟨x, cx, hx⟩ := div_20c a b h h' ⟨c, c'⟩
    exact ⟨x, 0, fun W hT => ap_20 0 a b W (cx W), hx, i6_0, by omega, by omega⟩
theorem gives_25 (a b : Int) (h : I6 a) (h' : I6 b) : ∃ x y : Int, (∀ W, Tab W → Calls Tryd.prog 69 #[.int .i64 25, .int .i64 a, .int .i64 b] W fun e w' => e = .returned (.tuple #[.int .i64 x, .int .i64 y]) ∧ w' = W) ∧ I6 x ∧ I6 y ∧ (y = 20 → (25 : Int) = 19 ∨ (25 : Int) = 20) ∧ (y = 21 → 25 ≤ (25 : Int) ∧ (25 : Int) ≤ 27) := by
  by_cases c : b < 0
  · obtain ⟨x, cx, hx⟩ := shf_25a a b h h' c
    exact ⟨x, 21, fun W hT => ap_25 0 a b W (cx W), hx, i6_21, by omega, by omega⟩
  · obtain ⟨x, cx, hx⟩ := shf_25b a b h h' (by omega)
    exact ⟨x, 0, fun W hT => ap_25 0 a b W (cx W), hx, i6_0, by omega, by omega⟩
theorem gives_26 (a b : Int) (h : I6 a) (h' : I6 b) : ∃ x y : Int, (∀ W, Tab W → Calls Tryd.prog 69 #[.int .i64 26, .int .i64 a, .int .i64 b] W fun e w' => e = .returned (.tuple #[.int .i64 x, .int .i64 y]) ∧ w' = W) ∧ I6 x ∧ I6 y ∧ (y = 20 → (26 : Int) = 19 ∨ (26 : Int) = 20) ∧ (y = 21 → 25 ≤ (26 : Int) ∧ (26 : Int) ≤ 27) := by
  by_cases c : b < 0
  · obtain ⟨x, cx, hx⟩ := shf_26a a b h h' c
    exact ⟨x, 21, fun W hT => ap_26 0 a b W (cx W), hx, i6_21, by omega, by omega⟩
  · obtain ⟨x, cx, hx⟩ := shf_26b a b h h' (by omega)
    exact ⟨x, 0, fun W hT => ap_26 0 a b W (cx W), hx, i6_0, by omega, by omega⟩
theorem gives_27 (a b : Int) (h : I6 a) (h' : I6 b) : ∃ x y : Int, (∀ W, Tab W → Calls Tryd.prog 69 #[.int .i64 27, .int .i64 a, .int .i64 b] W fun e w' => e = .returned (.tuple #[.int .i64 x, .int .i64 y]) ∧ w' = W) ∧ I6 x ∧ I6 y ∧ (y = 20 → (27 : Int) = 19 ∨ (27 : Int) = 20) ∧ (y = 21 → 25 ≤ (27 : Int) ∧ (27 : Int) ≤ 27) := by
  by_cases c : b < 0
  · obtain ⟨x, cx, hx⟩ := shf_27a a b h h' c
    exact ⟨x, 21, fun W hT => ap_27 0 a b W (cx W), hx, i6_21, by omega, by omega⟩
  · obtain ⟨x, cx, hx⟩ := shf_27b a b h h' (by omega)
    exact ⟨x, 0, fun W hT => ap_27 0 a b W (cx W), hx, i6_0, by omega, by omega⟩
theorem gives (k a b : Int) (h1 : 1 ≤ k) (h2 : k ≤ 36) (h : I6 a) (h' : I6 b) : ∃ x y : Int, (∀ W, Tab W → Calls Tryd.prog 69 #[.int .i64 k, .int .i64 a, .int .i64 b] W fun e w' => e = .returned (.tuple #[.int .i64 x, .int .i64 y]) ∧ w' = W) ∧ I6 x ∧ I6 y ∧ (y = 20 → k = 19 ∨ k = 20) ∧ (y = 21 → 25 ≤ k ∧ k ≤ 27) := by
  by_cases c : k ≤ 15
  · exact gives_one k a b h1 c h
  obtain rfl | rfl | rfl | rfl | rfl | rfl | rfl | rfl | rfl | rfl | rfl | rfl | rfl | rfl | rfl | rfl | rfl | rfl | rfl | rfl | rfl : k = 16 ∨ k = 17 ∨ k = 18 ∨ k = 19 ∨ k = 20 ∨ k = 21 ∨ k = 22 ∨ k = 23 ∨ k = 24 ∨ k = 25 ∨ k = 26 ∨ k = 27 ∨ k = 28 ∨ k = 29 ∨ k = 30 ∨ k = 31 ∨ k = 32 ∨ k = 33 ∨ k = 34 ∨ k = 35 ∨ k = 36 := by omega
  · exact gives_16 a b h h'
  · exact gives_17 a b h h'
  · exact gives_18 a b h h'
  · exact gives_19 a b h h'
  · exact gives_20 a b h h'
  · exact gives_21 a b h h'
  · exact gives_22 a b h h'
  · exact gives_23 a b h h'
  · exact gives_24 a b h h'
  · exact gives_25 a b h h'
  · exact gives_26 a b h h'
  · exact gives_27 a b h h'
  · exact gives_28 a b h h'
  · exact gives_29 a b h h'
  · exact gives_30 a b h h'
  · exact gives_31 a b h h'
  · exact gives_32 a b h h'
  · exact gives_33 a b h h'
  · exact gives_34 a b h h'
  · exact gives_35 a b h h'
  · exact gives_36 a b h h'
end Go.Proofs.YtbcdeanmjhcgeaaDoor.Alu
namespace Go.Proofs.YtbcdeanmjhcgeaaDoor.Pg
set_option linter.unusedVariables false
set_option linter.unusedSimpArgs false
open Go.RowKit
open Go.Proofs.YtbcdeanmjhcgeaaDoor.Alu (Tab I6 gives)
theorem apply_ex : ∃ A : Int → Int → Int → Int × Int, AluOk A ∧ AluWhy A ∧ ∀ w, Tab w → AppW A w := by
  have key : ∀ k a b : Int, ∃ r : Int × Int, I64 r.1 ∧ I64 r.2 ∧ (r.2 = 20 → k = 19 ∨ k = 20) ∧ (r.2 = 21 → 25 ≤ k ∧ k ≤ 27) ∧
      (1 ≤ k → k ≤ 36 → I64 a → I64 b → ∀ W, Tab W → Calls Tryd.prog 69 #[.int .i64 k, .int .i64 a, .int .i64 b] W fun e w' => e = .returned (.tuple #[.int .i64 r.1, .int .i64 r.2]) ∧ w' = W) := by
    intro k a b
    by_cases h : (1 ≤ k ∧ k ≤ 36) ∧ I64 a ∧ I64 b
    · obtain ⟨⟨h1, h2⟩, h3, h4⟩ := h
      obtain ⟨x, y, c, hx, hy, e1, e2⟩ := gives k a b h1 h2 h3 h4
      exact ⟨(x, y), hx, hy, e1, e2, fun _ _ _ _ => c⟩
    · exact ⟨(0, 0), ⟨by decide, by decide⟩, ⟨by decide, by decide⟩, fun e => absurd e (by decide), fun e => absurd e (by decide), fun h1 h2 h3 h4 => absurd ⟨⟨h1, h2⟩, h3, h4⟩ h⟩
  refine ⟨fun k a b => (key k a b).choose, fun k a b => ⟨(key k a b).choose_spec.1, (key k a b).choose_spec.2.1⟩, fun k a b => ⟨(key k a b).choose_spec.2.2.1, (key k a b).choose_spec.2.2.2.1⟩, ?_⟩
  intro w hT W hW k a b h1 h2 h3 h4
  refine ((key k a b).choose_spec.2.2.2.2 h1 h2 h3 h4 W (hT.below hW)).mono ?_
  rintro e w' ⟨rfl, rfl⟩
  exact ⟨rfl, Below.refl _ _⟩
end Go.Proofs.YtbcdeanmjhcgeaaDoor.Pg
