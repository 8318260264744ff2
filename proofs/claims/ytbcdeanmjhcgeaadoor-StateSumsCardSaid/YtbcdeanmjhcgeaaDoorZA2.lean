/- word.one: of each operation of one number there is a value, an int. The condition: the table of math/bits lies in the world. -/
import Derived.Test.YtbcdeanmjhcgeaaDoorZi
namespace Go.Proofs.YtbcdeanmjhcgeaaDoor.Alu
set_option linter.unusedVariables false
set_option linter.unusedSimpArgs false
open Go.RowKit
set_option linter.unusedVariables false
set_option linter.unusedSimpArgs false
set_option maxHeartbeats 4000000 in
set_option maxRecDepth 100000 in
theorem one_1 (a : Int) (h : I6 a) : ∃ x, (∀ W, Tab W → Calls Tryd.prog 89 #[.int .i64 1, .int .i64 a] W fun e w' => e = .returned (.int .i64 x) ∧ w' = W) ∧ I6 x := by
  apply Exists.intro
  refine ⟨fun W hT => ?_, ?_⟩
  · go_enter Tryd.func89, Tryd.ntmps89
    refine opq (fun Q hQ => ?_)
    repeat (first
      | (refine wp_block ?_; refine opq (fun Q' hQ' => ?_))
      | (refine wp_seq ?_; refine opq (fun Q' hQ' => ?_))
      | (refine wp_cond_true rfl ?_)
      | (refine wp_cond_false rfl ?_)
      | (refine wp_exit ?_)
      | (refine wp_skip ?_)
      | (refine wp_ret ?_)
      | (refine opq_out (by assumption) ?_; simp only [Exit.then, Exit.inBlock, Nat.reduceEqDiff, reduceIte])
      | (refine is_region ?_; go_wp2))
    refine opq_out hQ ?_
    refine bodyPost_ret (results_tmp rfl _ _ _) rfl ?_
    exact ⟨rfl, rfl⟩
  · first | exact i6_wrap _ | exact i6_bits _ _ _ | exact i6_kw _ | (unfold I6 at *; split <;> omega) | (unfold I6 at *; omega)
set_option maxHeartbeats 4000000 in
set_option maxRecDepth 100000 in
theorem one_2 (a : Int) (h : I6 a) : ∃ x, (∀ W, Tab W → Calls Tryd.prog 89 #[.int .i64 2, .int .i64 a] W fun e w' => e = .returned (.int .i64 x) ∧ w' = W) ∧ I6 x := by
  apply Exists.intro
  refine ⟨fun W hT => ?_, ?_⟩
  · go_enter Tryd.func89, Tryd.ntmps89
    refine opq (fun Q hQ => ?_)
    repeat (first
      | (refine wp_block ?_; refine opq (fun Q' hQ' => ?_))
      | (refine wp_seq ?_; refine opq (fun Q' hQ' => ?_))
      | (refine wp_cond_true rfl ?_)
      | (refine wp_cond_false rfl ?_)
      | (refine wp_exit ?_)
      | (refine wp_skip ?_)
      | (refine wp_ret ?_)
      | (refine opq_out (by assumption) ?_; simp only [Exit.then, Exit.inBlock, Nat.reduceEqDiff, reduceIte])
      | (refine is_region ?_; go_wp2))
    refine opq_out hQ ?_
    refine bodyPost_ret (results_tmp rfl _ _ _) rfl ?_
    exact ⟨rfl, rfl⟩
  · first | exact i6_wrap _ | exact i6_bits _ _ _ | exact i6_kw _ | (unfold I6 at *; split <;> omega) | (unfold I6 at *; omega)
set_option maxHeartbeats 4000000 in
set_option maxRecDepth 100000 in
theorem one_3 (a : Int) (h : I6 a) : ∃ x, (∀ W, Tab W → Calls Tryd.prog 89 #[.int .i64 3, .int .i64 a] W fun e w' => e = .returned (.int .i64 x) ∧ w' = W) ∧ I6 x := by
  by_cases c : 0 ≤ a
  · have d : decide (0 ≤ a) = true := by simpa using c
    apply Exists.intro
    refine ⟨fun W hT => ?_, ?_⟩
    · go_enter Tryd.func89, Tryd.ntmps89
      refine opq (fun Q hQ => ?_)
      repeat (first
        | (refine wp_block ?_; refine opq (fun Q' hQ' => ?_))
        | (refine wp_seq ?_; refine opq (fun Q' hQ' => ?_))
        | (refine wp_cond_true rfl ?_)
        | (refine wp_cond_false rfl ?_)
        | (refine wp_exit ?_)
        | (refine wp_skip ?_)
        | (refine wp_ret ?_)
        | (refine opq_out (by assumption) ?_; simp only [Exit.then, Exit.inBlock, Nat.reduceEqDiff, reduceIte])
        | (refine is_region ?_; go_wp2))
      refine opq_out hQ ?_
      refine bodyPost_ret (results_tmp rfl _ _ _) rfl ?_
      exact ⟨rfl, rfl⟩
    · first | exact i6_wrap _ | exact i6_bits _ _ _ | exact i6_kw _ | (unfold I6 at *; split <;> omega) | (unfold I6 at *; omega)
  · have d : decide (0 ≤ a) = false := by simpa using c
    clear c
    apply Exists.intro
    refine ⟨fun W hT => ?_, ?_⟩
    · go_enter Tryd.func89, Tryd.ntmps89
      refine opq (fun Q hQ => ?_)
      repeat (first
        | (refine wp_block ?_; refine opq (fun Q' hQ' => ?_))
        | (refine wp_seq ?_; refine opq (fun Q' hQ' => ?_))
        | (refine wp_cond_true rfl ?_)
        | (refine wp_cond_false rfl ?_)
        | (refine wp_exit ?_)
        | (refine wp_skip ?_)
        | (refine wp_ret ?_)
        | (refine opq_out (by assumption) ?_; simp only [Exit.then, Exit.inBlock, Nat.reduceEqDiff, reduceIte])
        | (refine is_region ?_; go_wp2))
      refine opq_out hQ ?_
      refine bodyPost_ret (results_tmp rfl _ _ _) rfl ?_
      exact ⟨rfl, rfl⟩
    · first | exact i6_wrap _ | exact i6_bits _ _ _ | exact i6_kw _ | (unfold I6 at *; split <;> omega) | (unfold I6 at *; omega)
set_option maxHeartbeats 4000000 in
set_option maxRecDepth 100000 in
theorem one_4 (a : Int) (h : I6 a) : ∃ x, (∀ W, Tab W → Calls Tryd.prog 89 #[.int .i64 4, .int .i64 a] W fun e w' => e = .returned (.int .i64 x) ∧ w' = W) ∧ I6 x := by
  obtain ⟨x, cx, hx⟩ := ones_ex (IntKind.u64.wrap a) (u6_wrap a)
  apply Exists.intro
  refine ⟨fun W hT => ?_, ?_⟩
  · go_enter Tryd.func89, Tryd.ntmps89
    refine opq (fun Q hQ => ?_)
    repeat (first
      | (refine wp_block ?_; refine opq (fun Q' hQ' => ?_))
      | (refine wp_seq ?_; refine opq (fun Q' hQ' => ?_))
      | (refine wp_cond_true rfl ?_)
      | (refine wp_cond_false rfl ?_)
      | (refine wp_exit ?_)
      | (refine wp_skip ?_)
      | (refine wp_ret ?_)
      | (refine opq_out (by assumption) ?_; simp only [Exit.then, Exit.inBlock, Nat.reduceEqDiff, reduceIte])
      | (refine is_region ?_; go_wp2_with (first | (go_at_call 105; ((with_reducible refine (cx _).mono ?_); rintro e w' ⟨rfl, rfl⟩)))))
    refine opq_out hQ ?_
    refine bodyPost_ret (results_tmp rfl _ _ _) rfl ?_
    exact ⟨rfl, rfl⟩
  · first | exact i6_wrap _ | exact i6_bits _ _ _ | exact i6_kw _ | (unfold I6 at *; split <;> omega) | (unfold I6 at *; omega)
set_option maxHeartbeats 4000000 in
set_option maxRecDepth 100000 in
theorem one_5 (a : Int) (h : I6 a) : ∃ x, (∀ W, Tab W → Calls Tryd.prog 89 #[.int .i64 5, .int .i64 a] W fun e w' => e = .returned (.int .i64 x) ∧ w' = W) ∧ I6 x := by
  have cx := fun W => Tryd.bits_LeadingZeros64 (IntKind.u64.wrap a) W (u6_wrap a).1 (u6_wrap a).2
  have hx := Any.bitLen_le64 (IntKind.u64.wrap a) (u6_wrap a).1 (u6_wrap a).2
  apply Exists.intro
  refine ⟨fun W hT => ?_, ?_⟩
  · go_enter Tryd.func89, Tryd.ntmps89
    refine opq (fun Q hQ => ?_)
    repeat (first
      | (refine wp_block ?_; refine opq (fun Q' hQ' => ?_))
      | (refine wp_seq ?_; refine opq (fun Q' hQ' => ?_))
      | (refine wp_cond_true rfl ?_)
      | (refine wp_cond_false rfl ?_)
      | (refine wp_exit ?_)
      | (refine wp_skip ?_)
      | (refine wp_ret ?_)
      | (refine opq_out (by assumption) ?_; simp only [Exit.then, Exit.inBlock, Nat.reduceEqDiff, reduceIte])
      | (refine is_region ?_; go_wp2_with (first | (go_at_call 106; ((with_reducible refine (cx _).mono ?_); rintro e w' ⟨rfl, rfl⟩)))))
    refine opq_out hQ ?_
    refine bodyPost_ret (results_tmp rfl _ _ _) rfl ?_
    exact ⟨rfl, rfl⟩
  · first | exact i6_wrap _ | exact i6_bits _ _ _ | exact i6_kw _ | (unfold I6 at *; split <;> omega) | (unfold I6 at *; omega)
set_option maxHeartbeats 4000000 in
set_option maxRecDepth 100000 in
theorem one_6 (a : Int) (h : I6 a) : ∃ x, (∀ W, Tab W → Calls Tryd.prog 89 #[.int .i64 6, .int .i64 a] W fun e w' => e = .returned (.int .i64 x) ∧ w' = W) ∧ I6 x := by
  have hu := u6_wrap a
  unfold U6 at hu
  have cx := fun W hT => trail_walk (IntKind.u64.wrap a).toNat (by omega) W hT
  rw [Int.toNat_of_nonneg hu.1] at cx
  have hx := ctz_le (IntKind.u64.wrap a).toNat (by omega)
  apply Exists.intro
  refine ⟨fun W hT => ?_, ?_⟩
  · go_enter Tryd.func89, Tryd.ntmps89
    refine opq (fun Q hQ => ?_)
    repeat (first
      | (refine wp_block ?_; refine opq (fun Q' hQ' => ?_))
      | (refine wp_seq ?_; refine opq (fun Q' hQ' => ?_))
      | (refine wp_cond_true rfl ?_)
      | (refine wp_cond_false rfl ?_)
      | (refine wp_exit ?_)
      | (refine wp_skip ?_)
      | (refine wp_ret ?_)
      | (refine opq_out (by assumption) ?_; simp only [Exit.then, Exit.inBlock, Nat.reduceEqDiff, reduceIte])
      | (refine is_region ?_; go_wp2_with (first | (go_at_call 103; ((with_reducible refine (cx _ hT).mono ?_); rintro e w' ⟨rfl, rfl⟩)))))
    refine opq_out hQ ?_
    refine bodyPost_ret (results_tmp rfl _ _ _) rfl ?_
    exact ⟨rfl, rfl⟩
  · first | exact i6_wrap _ | exact i6_bits _ _ _ | exact i6_kw _ | (unfold I6 at *; split <;> omega) | (unfold I6 at *; omega)
set_option maxHeartbeats 4000000 in
set_option maxRecDepth 100000 in
theorem one_7 (a : Int) (h : I6 a) : ∃ x, (∀ W, Tab W → Calls Tryd.prog 89 #[.int .i64 7, .int .i64 a] W fun e w' => e = .returned (.int .i64 x) ∧ w' = W) ∧ I6 x := by
  apply Exists.intro
  refine ⟨fun W hT => ?_, ?_⟩
  · go_enter Tryd.func89, Tryd.ntmps89
    refine opq (fun Q hQ => ?_)
    repeat (first
      | (refine wp_block ?_; refine opq (fun Q' hQ' => ?_))
      | (refine wp_seq ?_; refine opq (fun Q' hQ' => ?_))
      | (refine wp_cond_true rfl ?_)
      | (refine wp_cond_false rfl ?_)
      | (refine wp_exit ?_)
      | (refine wp_skip ?_)
      | (refine wp_ret ?_)
      | (refine opq_out (by assumption) ?_; simp only [Exit.then, Exit.inBlock, Nat.reduceEqDiff, reduceIte])
      | (refine is_region ?_; go_wp2_with (first | (go_at_call 107; ((with_reducible refine (flip_walk a _).mono ?_); rintro e w' ⟨rfl, rfl⟩)))))
    refine opq_out hQ ?_
    refine bodyPost_ret (results_tmp rfl _ _ _) rfl ?_
    exact ⟨rfl, rfl⟩
  · first | exact i6_wrap _ | exact i6_bits _ _ _ | exact i6_kw _ | (unfold I6 at *; split <;> omega) | (unfold I6 at *; omega)
set_option maxHeartbeats 4000000 in
set_option maxRecDepth 100000 in
theorem one_8 (a : Int) (h : I6 a) : ∃ x, (∀ W, Tab W → Calls Tryd.prog 89 #[.int .i64 8, .int .i64 a] W fun e w' => e = .returned (.int .i64 x) ∧ w' = W) ∧ I6 x := by
  by_cases c : a = 0
  · subst c
    apply Exists.intro
    refine ⟨fun W hT => ?_, ?_⟩
    · go_enter Tryd.func89, Tryd.ntmps89
      refine opq (fun Q hQ => ?_)
      repeat (first
        | (refine wp_block ?_; refine opq (fun Q' hQ' => ?_))
        | (refine wp_seq ?_; refine opq (fun Q' hQ' => ?_))
        | (refine wp_cond_true rfl ?_)
        | (refine wp_cond_false rfl ?_)
        | (refine wp_exit ?_)
        | (refine wp_skip ?_)
        | (refine wp_ret ?_)
        | (refine opq_out (by assumption) ?_; simp only [Exit.then, Exit.inBlock, Nat.reduceEqDiff, reduceIte])
        | (refine is_region ?_; go_wp2_with (first | (go_at_call 108; ((with_reducible refine (yes_walk _ _).mono ?_); rintro e w' ⟨rfl, rfl⟩)))))
      refine opq_out hQ ?_
      refine bodyPost_ret (results_tmp rfl _ _ _) rfl ?_
      exact ⟨rfl, rfl⟩
    · first | exact i6_wrap _ | exact i6_bits _ _ _ | exact i6_kw _ | (unfold I6 at *; split <;> omega) | (unfold I6 at *; omega)
  · have d : (a == 0) = false := by simpa using c
    apply Exists.intro
    refine ⟨fun W hT => ?_, ?_⟩
    · go_enter Tryd.func89, Tryd.ntmps89
      refine opq (fun Q hQ => ?_)
      repeat (first
        | (refine wp_block ?_; refine opq (fun Q' hQ' => ?_))
        | (refine wp_seq ?_; refine opq (fun Q' hQ' => ?_))
        | (refine wp_cond_true rfl ?_)
        | (refine wp_cond_false rfl ?_)
        | (refine wp_exit ?_)
        | (refine wp_skip ?_)
        | (refine wp_ret ?_)
        | (refine opq_out (by assumption) ?_; simp only [Exit.then, Exit.inBlock, Nat.reduceEqDiff, reduceIte])
        | (refine is_region ?_; go_wp2_with (first | (go_at_call 108; ((with_reducible refine (yes_walk _ _).mono ?_); rintro e w' ⟨rfl, rfl⟩)))))
      refine opq_out hQ ?_
      refine bodyPost_ret (results_tmp rfl _ _ _) rfl ?_
      exact ⟨rfl, rfl⟩
    · first | exact i6_wrap _ | exact i6_bits _ _ _ | exact i6_kw _ | (unfold I6 at *; split <;> omega) | (unfold I6 at *; omega)
set_option maxHeartbeats 4000000 in
set_option maxRecDepth 100000 in
theorem one_9 (a : Int) (h : I6 a) : ∃ x, (∀ W, Tab W → Calls Tryd.prog 89 #[.int .i64 9, .int .i64 a] W fun e w' => e = .returned (.int .i64 x) ∧ w' = W) ∧ I6 x := by
  by_cases c : a = 0
  · subst c
    apply Exists.intro
    refine ⟨fun W hT => ?_, ?_⟩
    · go_enter Tryd.func89, Tryd.ntmps89
      refine opq (fun Q hQ => ?_)
      repeat (first
        | (refine wp_block ?_; refine opq (fun Q' hQ' => ?_))
        | (refine wp_seq ?_; refine opq (fun Q' hQ' => ?_))
        | (refine wp_cond_true rfl ?_)
        | (refine wp_cond_false rfl ?_)
        | (refine wp_exit ?_)
        | (refine wp_skip ?_)
        | (refine wp_ret ?_)
        | (refine opq_out (by assumption) ?_; simp only [Exit.then, Exit.inBlock, Nat.reduceEqDiff, reduceIte])
        | (refine is_region ?_; go_wp2_with (first | (go_at_call 108; ((with_reducible refine (yes_walk _ _).mono ?_); rintro e w' ⟨rfl, rfl⟩)))))
      refine opq_out hQ ?_
      refine bodyPost_ret (results_tmp rfl _ _ _) rfl ?_
      exact ⟨rfl, rfl⟩
    · first | exact i6_wrap _ | exact i6_bits _ _ _ | exact i6_kw _ | (unfold I6 at *; split <;> omega) | (unfold I6 at *; omega)
  · have d : (a == 0) = false := by simpa using c
    apply Exists.intro
    refine ⟨fun W hT => ?_, ?_⟩
    · go_enter Tryd.func89, Tryd.ntmps89
      refine opq (fun Q hQ => ?_)
      repeat (first
        | (refine wp_block ?_; refine opq (fun Q' hQ' => ?_))
        | (refine wp_seq ?_; refine opq (fun Q' hQ' => ?_))
        | (refine wp_cond_true rfl ?_)
        | (refine wp_cond_false rfl ?_)
        | (refine wp_exit ?_)
        | (refine wp_skip ?_)
        | (refine wp_ret ?_)
        | (refine opq_out (by assumption) ?_; simp only [Exit.then, Exit.inBlock, Nat.reduceEqDiff, reduceIte])
        | (refine is_region ?_; go_wp2_with (first | (go_at_call 108; ((with_reducible refine (yes_walk _ _).mono ?_); rintro e w' ⟨rfl, rfl⟩)))))
      refine opq_out hQ ?_
      refine bodyPost_ret (results_tmp rfl _ _ _) rfl ?_
      exact ⟨rfl, rfl⟩
    · first | exact i6_wrap _ | exact i6_bits _ _ _ | exact i6_kw _ | (unfold I6 at *; split <;> omega) | (unfold I6 at *; omega)
set_option maxHeartbeats 4000000 in
set_option maxRecDepth 100000 in
theorem one_10 (a : Int) (h : I6 a) : ∃ x, (∀ W, Tab W → Calls Tryd.prog 89 #[.int .i64 10, .int .i64 a] W fun e w' => e = .returned (.int .i64 x) ∧ w' = W) ∧ I6 x := by
  apply Exists.intro
  refine ⟨fun W hT => ?_, ?_⟩
  · go_enter Tryd.func89, Tryd.ntmps89
    refine opq (fun Q hQ => ?_)
    repeat (first
      | (refine wp_block ?_; refine opq (fun Q' hQ' => ?_))
      | (refine wp_seq ?_; refine opq (fun Q' hQ' => ?_))
      | (refine wp_cond_true rfl ?_)
      | (refine wp_cond_false rfl ?_)
      | (refine wp_exit ?_)
      | (refine wp_skip ?_)
      | (refine wp_ret ?_)
      | (refine opq_out (by assumption) ?_; simp only [Exit.then, Exit.inBlock, Nat.reduceEqDiff, reduceIte])
      | (refine is_region ?_; go_wp2))
    refine opq_out hQ ?_
    refine bodyPost_ret (results_tmp rfl _ _ _) rfl ?_
    exact ⟨rfl, rfl⟩
  · first | exact i6_wrap _ | exact i6_bits _ _ _ | exact i6_kw _ | (unfold I6 at *; split <;> omega) | (unfold I6 at *; omega)
set_option maxHeartbeats 4000000 in
set_option maxRecDepth 100000 in
theorem one_11 (a : Int) (h : I6 a) : ∃ x, (∀ W, Tab W → Calls Tryd.prog 89 #[.int .i64 11, .int .i64 a] W fun e w' => e = .returned (.int .i64 x) ∧ w' = W) ∧ I6 x := by
  apply Exists.intro
  refine ⟨fun W hT => ?_, ?_⟩
  · go_enter Tryd.func89, Tryd.ntmps89
    refine opq (fun Q hQ => ?_)
    repeat (first
      | (refine wp_block ?_; refine opq (fun Q' hQ' => ?_))
      | (refine wp_seq ?_; refine opq (fun Q' hQ' => ?_))
      | (refine wp_cond_true rfl ?_)
      | (refine wp_cond_false rfl ?_)
      | (refine wp_exit ?_)
      | (refine wp_skip ?_)
      | (refine wp_ret ?_)
      | (refine opq_out (by assumption) ?_; simp only [Exit.then, Exit.inBlock, Nat.reduceEqDiff, reduceIte])
      | (refine is_region ?_; go_wp2))
    refine opq_out hQ ?_
    refine bodyPost_ret (results_tmp rfl _ _ _) rfl ?_
    exact ⟨rfl, rfl⟩
  · first | exact i6_wrap _ | exact i6_bits _ _ _ | exact i6_kw _ | (unfold I6 at *; split <;> omega) | (unfold I6 at *; omega)
set_option maxHeartbeats 4000000 in
set_option maxRecDepth 100000 in
theorem one_12 (a : Int) (h : I6 a) : ∃ x, (∀ W, Tab W → Calls Tryd.prog 89 #[.int .i64 12, .int .i64 a] W fun e w' => e = .returned (.int .i64 x) ∧ w' = W) ∧ I6 x := by
  apply Exists.intro
  refine ⟨fun W hT => ?_, ?_⟩
  · go_enter Tryd.func89, Tryd.ntmps89
    refine opq (fun Q hQ => ?_)
    repeat (first
      | (refine wp_block ?_; refine opq (fun Q' hQ' => ?_))
      | (refine wp_seq ?_; refine opq (fun Q' hQ' => ?_))
      | (refine wp_cond_true rfl ?_)
      | (refine wp_cond_false rfl ?_)
      | (refine wp_exit ?_)
      | (refine wp_skip ?_)
      | (refine wp_ret ?_)
      | (refine opq_out (by assumption) ?_; simp only [Exit.then, Exit.inBlock, Nat.reduceEqDiff, reduceIte])
      | (refine is_region ?_; go_wp2))
    refine opq_out hQ ?_
    refine bodyPost_ret (results_tmp rfl _ _ _) rfl ?_
    exact ⟨rfl, rfl⟩
  · first | exact i6_wrap _ | exact i6_bits _ _ _ | exact i6_kw _ | (unfold I6 at *; split <;> omega) | (unfold I6 at *; omega)
set_option maxHeartbeats 4000000 in
set_option maxRecDepth 100000 in
theorem one_13 (a : Int) (h : I6 a) : ∃ x, (∀ W, Tab W → Calls Tryd.prog 89 #[.int .i64 13, .int .i64 a] W fun e w' => e = .returned (.int .i64 x) ∧ w' = W) ∧ I6 x := by
  apply Exists.intro
  refine ⟨fun W hT => ?_, ?_⟩
  · go_enter Tryd.func89, Tryd.ntmps89
    refine opq (fun Q hQ => ?_)
    repeat (first
      | (refine wp_block ?_; refine opq (fun Q' hQ' => ?_))
      | (refine wp_seq ?_; refine opq (fun Q' hQ' => ?_))
      | (refine wp_cond_true rfl ?_)
      | (refine wp_cond_false rfl ?_)
      | (refine wp_exit ?_)
      | (refine wp_skip ?_)
      | (refine wp_ret ?_)
      | (refine opq_out (by assumption) ?_; simp only [Exit.then, Exit.inBlock, Nat.reduceEqDiff, reduceIte])
      | (refine is_region ?_; go_wp2))
    refine opq_out hQ ?_
    refine bodyPost_ret (results_tmp rfl _ _ _) rfl ?_
    exact ⟨rfl, rfl⟩
  · first | exact i6_wrap _ | exact i6_bits _ _ _ | exact i6_kw _ | (unfold I6 at *; split <;> omega) | (unfold I6 at *; omega)
set_option maxHeartbeats 4000000 in
set_option maxRecDepth 100000 in
theorem one_14 (a : Int) (h : I6 a) : ∃ x, (∀ W, Tab W → Calls Tryd.prog 89 #[.int .i64 14, .int .i64 a] W fun e w' => e = .returned (.int .i64 x) ∧ w' = W) ∧ I6 x := by
  apply Exists.intro
  refine ⟨fun W hT => ?_, ?_⟩
  · go_enter Tryd.func89, Tryd.ntmps89
    refine opq (fun Q hQ => ?_)
    repeat (first
      | (refine wp_block ?_; refine opq (fun Q' hQ' => ?_))
      | (refine wp_seq ?_; refine opq (fun Q' hQ' => ?_))
      | (refine wp_cond_true rfl ?_)
      | (refine wp_cond_false rfl ?_)
      | (refine wp_exit ?_)
      | (refine wp_skip ?_)
      | (refine wp_ret ?_)
      | (refine opq_out (by assumption) ?_; simp only [Exit.then, Exit.inBlock, Nat.reduceEqDiff, reduceIte])
      | (refine is_region ?_; go_wp2))
    refine opq_out hQ ?_
    refine bodyPost_ret (results_tmp rfl _ _ _) rfl ?_
    exact ⟨rfl, rfl⟩
  · first | exact i6_wrap _ | exact i6_bits _ _ _ | exact i6_kw _ | (unfold I6 at *; split <;> omega) | (unfold I6 at *; omega)
set_option maxHeartbeats 4000000 in
set_option maxRecDepth 100000 in
theorem one_15 (a : Int) (h : I6 a) : ∃ x, (∀ W, Tab W → Calls Tryd.prog 89 #[.int .i64 15, .int .i64 a] W fun e w' => e = .returned (.int .i64 x) ∧ w' = W) ∧ I6 x := by
  apply Exists.intro
  refine ⟨fun W hT => ?_, ?_⟩
  · go_enter Tryd.func89, Tryd.ntmps89
    refine opq (fun Q hQ => ?_)
    repeat (first
      | (refine wp_block ?_; refine opq (fun Q' hQ' => ?_))
      | (refine wp_seq ?_; refine opq (fun Q' hQ' => ?_))
      | (refine wp_cond_true rfl ?_)
      | (refine wp_cond_false rfl ?_)
      | (refine wp_exit ?_)
      | (refine wp_skip ?_)
      | (refine wp_ret ?_)
      | (refine opq_out (by assumption) ?_; simp only [Exit.then, Exit.inBlock, Nat.reduceEqDiff, reduceIte])
      | (refine is_region ?_; go_wp2))
    refine opq_out hQ ?_
    refine bodyPost_ret (results_tmp rfl _ _ _) rfl ?_
    exact ⟨rfl, rfl⟩
  · first | exact i6_wrap _ | exact i6_bits _ _ _ | exact i6_kw _ | (unfold I6 at *; split <;> omega) | (unfold I6 at *; omega)
theorem one_ex (k a : Int) (h1 : 1 ≤ k) (h2 : k ≤ 15) (h : I6 a) : ∃ x, (∀ W, Tab W → Calls Tryd.prog 89 #[.int .i64 k, .int .i64 a] W fun e w' => e = .returned (.int .i64 x) ∧ w' = W) ∧ I6 x := by
  obtain rfl | rfl | rfl | rfl | rfl | rfl | rfl | rfl | rfl | rfl | rfl | rfl | rfl | rfl | rfl : k = 1 ∨ k = 2 ∨ k = 3 ∨ k = 4 ∨ k = 5 ∨ k = 6 ∨ k = 7 ∨ k = 8 ∨ k = 9 ∨ k = 10 ∨ k = 11 ∨ k = 12 ∨ k = 13 ∨ k = 14 ∨ k = 15 := by omega
  · exact one_1 a h
  · exact one_2 a h
  · exact one_3 a h
  · exact one_4 a h
  · exact one_5 a h
  · exact one_6 a h
  · exact one_7 a h
  · exact one_8 a h
  · exact one_9 a h
  · exact one_10 a h
  · exact one_11 a h
  · exact one_12 a h
  · exact one_13 a h
  · exact one_14 a h
  · exact one_15 a h
end Go.Proofs.YtbcdeanmjhcgeaaDoor.Alu
