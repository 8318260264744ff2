/- scarabref02.one, walked, operation by operation: it gives what it gives told plainly. No condition. -/
import Derived.Test.YtbcdeanmjhcgeaaDoorZAR1
namespace Go.Proofs.YtbcdeanmjhcgeaaDoor.Alu
set_option linter.unusedVariables false
set_option linter.unusedSimpArgs false
open Go.RowKit
set_option linter.unusedVariables false
set_option linter.unusedSimpArgs false
set_option maxHeartbeats 4000000 in
set_option maxRecDepth 100000 in
theorem rone_1 {a r : Int} {m : Nat} (h : Wd.scarabref02_one.f m 1 a = some r) (W : World) : Calls Tryd.prog 71 #[.int .i64 1, .int .i64 a] W fun e w' => e = .returned (.int .i64 r) ∧ w' = W := by
  simp only [Wd.scarabref02_one.f, Int.reduceEq, if_true, if_false] at h
  obtain rfl := Option.some.inj h
  clear h
  go_enter Tryd.func71, Tryd.ntmps71
  refine opq (fun Q hQ => ?_)
  repeat (first
    | (refine wp_block ?_; refine opq (fun Q' hQ' => ?_))
    | (refine wp_seq ?_; refine opq (fun Q' hQ' => ?_))
    | (refine wp_cond_true rfl ?_)
    | (refine wp_cond_false rfl ?_)
    | (refine wp_exit ?_)
    | (refine wp_skip ?_)
    | (refine wp_ret ?_)
    | (refine opq_out (by assumption) ?_; simp only [Exit.then, Exit.inBlock, Nat.reduceEqDiff, reduceIte])
    | (refine is_region ?_; go_wp2))
  refine opq_out hQ ?_
  refine bodyPost_ret (results_tmp rfl _ _ _) rfl ?_
  exact ⟨rfl, rfl⟩
set_option maxHeartbeats 4000000 in
set_option maxRecDepth 100000 in
theorem rone_2 {a r : Int} {m : Nat} (h : Wd.scarabref02_one.f m 2 a = some r) (W : World) : Calls Tryd.prog 71 #[.int .i64 2, .int .i64 a] W fun e w' => e = .returned (.int .i64 r) ∧ w' = W := by
  simp only [Wd.scarabref02_one.f, Int.reduceEq, if_true, if_false] at h
  obtain rfl := Option.some.inj h
  clear h
  go_enter Tryd.func71, Tryd.ntmps71
  refine opq (fun Q hQ => ?_)
  repeat (first
    | (refine wp_block ?_; refine opq (fun Q' hQ' => ?_))
    | (refine wp_seq ?_; refine opq (fun Q' hQ' => ?_))
    | (refine wp_cond_true rfl ?_)
    | (refine wp_cond_false rfl ?_)
    | (refine wp_exit ?_)
    | (refine wp_skip ?_)
    | (refine wp_ret ?_)
    | (refine opq_out (by assumption) ?_; simp only [Exit.then, Exit.inBlock, Nat.reduceEqDiff, reduceIte])
    | (refine is_region ?_; go_wp2))
  refine opq_out hQ ?_
  refine bodyPost_ret (results_tmp rfl _ _ _) rfl ?_
  exact ⟨rfl, rfl⟩
set_option maxHeartbeats 4000000 in
set_option maxRecDepth 100000 in
theorem rone_3 {a r : Int} {m : Nat} (h : Wd.scarabref02_one.f m 3 a = some r) (W : World) : Calls Tryd.prog 71 #[.int .i64 3, .int .i64 a] W fun e w' => e = .returned (.int .i64 r) ∧ w' = W := by
  simp only [Wd.scarabref02_one.f, Int.reduceEq, if_true, if_false] at h
  by_cases c : a < 0
  · rw [if_pos c] at h
    obtain rfl := Option.some.inj h
    have d : decide (a < 0) = true := by simpa using c
    clear c h
    go_enter Tryd.func71, Tryd.ntmps71
    refine opq (fun Q hQ => ?_)
    repeat (first
      | (refine wp_block ?_; refine opq (fun Q' hQ' => ?_))
      | (refine wp_seq ?_; refine opq (fun Q' hQ' => ?_))
      | (refine wp_cond_true rfl ?_)
      | (refine wp_cond_false rfl ?_)
      | (refine wp_exit ?_)
      | (refine wp_skip ?_)
      | (refine wp_ret ?_)
      | (refine opq_out (by assumption) ?_; simp only [Exit.then, Exit.inBlock, Nat.reduceEqDiff, reduceIte])
      | (refine is_region ?_; go_wp2))
    refine opq_out hQ ?_
    refine bodyPost_ret (results_tmp rfl _ _ _) rfl ?_
    exact ⟨rfl, rfl⟩
  · rw [if_neg c] at h
    obtain rfl := Option.some.inj h
    have d : decide (a < 0) = false := by simpa using c
    clear c h
    go_enter Tryd.func71, Tryd.ntmps71
    refine opq (fun Q hQ => ?_)
    repeat (first
      | (refine wp_block ?_; refine opq (fun Q' hQ' => ?_))
      | (refine wp_seq ?_; refine opq (fun Q' hQ' => ?_))
      | (refine wp_cond_true rfl ?_)
      | (refine wp_cond_false rfl ?_)
      | (refine wp_exit ?_)
      | (refine wp_skip ?_)
      | (refine wp_ret ?_)
      | (refine opq_out (by assumption) ?_; simp only [Exit.then, Exit.inBlock, Nat.reduceEqDiff, reduceIte])
      | (refine is_region ?_; go_wp2))
    refine opq_out hQ ?_
    refine bodyPost_ret (results_tmp rfl _ _ _) rfl ?_
    exact ⟨rfl, rfl⟩
set_option maxHeartbeats 4000000 in
set_option maxRecDepth 100000 in
theorem rone_8 {a r : Int} {m : Nat} (h : Wd.scarabref02_one.f m 8 a = some r) (W : World) : Calls Tryd.prog 71 #[.int .i64 8, .int .i64 a] W fun e w' => e = .returned (.int .i64 r) ∧ w' = W := by
  simp only [Wd.scarabref02_one.f, Int.reduceEq, if_true, if_false] at h
  by_cases c : a = 0
  · subst c
    have h : Wd.scarabref02_yes.f false = some r := by simpa using h
    go_enter Tryd.func71, Tryd.ntmps71
    refine opq (fun Q hQ => ?_)
    repeat (first
      | (refine wp_block ?_; refine opq (fun Q' hQ' => ?_))
      | (refine wp_seq ?_; refine opq (fun Q' hQ' => ?_))
      | (refine wp_cond_true rfl ?_)
      | (refine wp_cond_false rfl ?_)
      | (refine wp_exit ?_)
      | (refine wp_skip ?_)
      | (refine wp_ret ?_)
      | (refine opq_out (by assumption) ?_; simp only [Exit.then, Exit.inBlock, Nat.reduceEqDiff, reduceIte])
      | (refine is_region ?_; go_wp2_with (first | (go_at_call 95; ((with_reducible refine (ryes_walk h _).mono ?_); rintro e w' ⟨rfl, rfl⟩)))))
    refine opq_out hQ ?_
    refine bodyPost_ret (results_tmp rfl _ _ _) rfl ?_
    exact ⟨rfl, rfl⟩
  · have e1 : (a == 0) = false := by simpa using c
    have e2 : (a != 0) = true := by simpa using c
    have h : Wd.scarabref02_yes.f true = some r := by simpa [e1, e2, c] using h
    clear c
    go_enter Tryd.func71, Tryd.ntmps71
    refine opq (fun Q hQ => ?_)
    repeat (first
      | (refine wp_block ?_; refine opq (fun Q' hQ' => ?_))
      | (refine wp_seq ?_; refine opq (fun Q' hQ' => ?_))
      | (refine wp_cond_true rfl ?_)
      | (refine wp_cond_false rfl ?_)
      | (refine wp_exit ?_)
      | (refine wp_skip ?_)
      | (refine wp_ret ?_)
      | (refine opq_out (by assumption) ?_; simp only [Exit.then, Exit.inBlock, Nat.reduceEqDiff, reduceIte])
      | (refine is_region ?_; go_wp2_with (first | (go_at_call 95; ((with_reducible refine (ryes_walk h _).mono ?_); rintro e w' ⟨rfl, rfl⟩)))))
    refine opq_out hQ ?_
    refine bodyPost_ret (results_tmp rfl _ _ _) rfl ?_
    exact ⟨rfl, rfl⟩
set_option maxHeartbeats 4000000 in
set_option maxRecDepth 100000 in
theorem rone_9 {a r : Int} {m : Nat} (h : Wd.scarabref02_one.f m 9 a = some r) (W : World) : Calls Tryd.prog 71 #[.int .i64 9, .int .i64 a] W fun e w' => e = .returned (.int .i64 r) ∧ w' = W := by
  simp only [Wd.scarabref02_one.f, Int.reduceEq, if_true, if_false] at h
  by_cases c : a = 0
  · subst c
    have h : Wd.scarabref02_yes.f true = some r := by simpa using h
    go_enter Tryd.func71, Tryd.ntmps71
    refine opq (fun Q hQ => ?_)
    repeat (first
      | (refine wp_block ?_; refine opq (fun Q' hQ' => ?_))
      | (refine wp_seq ?_; refine opq (fun Q' hQ' => ?_))
      | (refine wp_cond_true rfl ?_)
      | (refine wp_cond_false rfl ?_)
      | (refine wp_exit ?_)
      | (refine wp_skip ?_)
      | (refine wp_ret ?_)
      | (refine opq_out (by assumption) ?_; simp only [Exit.then, Exit.inBlock, Nat.reduceEqDiff, reduceIte])
      | (refine is_region ?_; go_wp2_with (first | (go_at_call 95; ((with_reducible refine (ryes_walk h _).mono ?_); rintro e w' ⟨rfl, rfl⟩)))))
    refine opq_out hQ ?_
    refine bodyPost_ret (results_tmp rfl _ _ _) rfl ?_
    exact ⟨rfl, rfl⟩
  · have e1 : (a == 0) = false := by simpa using c
    have e2 : (a != 0) = true := by simpa using c
    have h : Wd.scarabref02_yes.f false = some r := by simpa [e1, e2, c] using h
    clear c
    go_enter Tryd.func71, Tryd.ntmps71
    refine opq (fun Q hQ => ?_)
    repeat (first
      | (refine wp_block ?_; refine opq (fun Q' hQ' => ?_))
      | (refine wp_seq ?_; refine opq (fun Q' hQ' => ?_))
      | (refine wp_cond_true rfl ?_)
      | (refine wp_cond_false rfl ?_)
      | (refine wp_exit ?_)
      | (refine wp_skip ?_)
      | (refine wp_ret ?_)
      | (refine opq_out (by assumption) ?_; simp only [Exit.then, Exit.inBlock, Nat.reduceEqDiff, reduceIte])
      | (refine is_region ?_; go_wp2_with (first | (go_at_call 95; ((with_reducible refine (ryes_walk h _).mono ?_); rintro e w' ⟨rfl, rfl⟩)))))
    refine opq_out hQ ?_
    refine bodyPost_ret (results_tmp rfl _ _ _) rfl ?_
    exact ⟨rfl, rfl⟩
set_option maxHeartbeats 4000000 in
set_option maxRecDepth 100000 in
theorem rone_10 {a r : Int} {m : Nat} (h : Wd.scarabref02_one.f m 10 a = some r) (W : World) : Calls Tryd.prog 71 #[.int .i64 10, .int .i64 a] W fun e w' => e = .returned (.int .i64 r) ∧ w' = W := by
  simp only [Wd.scarabref02_one.f, Int.reduceEq, if_true, if_false] at h
  have h : Wd.scarabref02_converted.f m a 8 true = some r := by simpa using h
  go_enter Tryd.func71, Tryd.ntmps71
  refine opq (fun Q hQ => ?_)
  repeat (first
    | (refine wp_block ?_; refine opq (fun Q' hQ' => ?_))
    | (refine wp_seq ?_; refine opq (fun Q' hQ' => ?_))
    | (refine wp_cond_true rfl ?_)
    | (refine wp_cond_false rfl ?_)
    | (refine wp_exit ?_)
    | (refine wp_skip ?_)
    | (refine wp_ret ?_)
    | (refine opq_out (by assumption) ?_; simp only [Exit.then, Exit.inBlock, Nat.reduceEqDiff, reduceIte])
    | (refine is_region ?_; go_wp2_with (first | (go_at_call 96; ((with_reducible refine (conv_walk h _).mono ?_); rintro e w' ⟨rfl, rfl⟩)))))
  refine opq_out hQ ?_
  refine bodyPost_ret (results_tmp rfl _ _ _) rfl ?_
  exact ⟨rfl, rfl⟩
set_option maxHeartbeats 4000000 in
set_option maxRecDepth 100000 in
theorem rone_11 {a r : Int} {m : Nat} (h : Wd.scarabref02_one.f m 11 a = some r) (W : World) : Calls Tryd.prog 71 #[.int .i64 11, .int .i64 a] W fun e w' => e = .returned (.int .i64 r) ∧ w' = W := by
  simp only [Wd.scarabref02_one.f, Int.reduceEq, if_true, if_false] at h
  have h : Wd.scarabref02_converted.f m a 16 true = some r := by simpa using h
  go_enter Tryd.func71, Tryd.ntmps71
  refine opq (fun Q hQ => ?_)
  repeat (first
    | (refine wp_block ?_; refine opq (fun Q' hQ' => ?_))
    | (refine wp_seq ?_; refine opq (fun Q' hQ' => ?_))
    | (refine wp_cond_true rfl ?_)
    | (refine wp_cond_false rfl ?_)
    | (refine wp_exit ?_)
    | (refine wp_skip ?_)
    | (refine wp_ret ?_)
    | (refine opq_out (by assumption) ?_; simp only [Exit.then, Exit.inBlock, Nat.reduceEqDiff, reduceIte])
    | (refine is_region ?_; go_wp2_with (first | (go_at_call 96; ((with_reducible refine (conv_walk h _).mono ?_); rintro e w' ⟨rfl, rfl⟩)))))
  refine opq_out hQ ?_
  refine bodyPost_ret (results_tmp rfl _ _ _) rfl ?_
  exact ⟨rfl, rfl⟩
set_option maxHeartbeats 4000000 in
set_option maxRecDepth 100000 in
theorem rone_12 {a r : Int} {m : Nat} (h : Wd.scarabref02_one.f m 12 a = some r) (W : World) : Calls Tryd.prog 71 #[.int .i64 12, .int .i64 a] W fun e w' => e = .returned (.int .i64 r) ∧ w' = W := by
  simp only [Wd.scarabref02_one.f, Int.reduceEq, if_true, if_false] at h
  have h : Wd.scarabref02_converted.f m a 32 true = some r := by simpa using h
  go_enter Tryd.func71, Tryd.ntmps71
  refine opq (fun Q hQ => ?_)
  repeat (first
    | (refine wp_block ?_; refine opq (fun Q' hQ' => ?_))
    | (refine wp_seq ?_; refine opq (fun Q' hQ' => ?_))
    | (refine wp_cond_true rfl ?_)
    | (refine wp_cond_false rfl ?_)
    | (refine wp_exit ?_)
    | (refine wp_skip ?_)
    | (refine wp_ret ?_)
    | (refine opq_out (by assumption) ?_; simp only [Exit.then, Exit.inBlock, Nat.reduceEqDiff, reduceIte])
    | (refine is_region ?_; go_wp2_with (first | (go_at_call 96; ((with_reducible refine (conv_walk h _).mono ?_); rintro e w' ⟨rfl, rfl⟩)))))
  refine opq_out hQ ?_
  refine bodyPost_ret (results_tmp rfl _ _ _) rfl ?_
  exact ⟨rfl, rfl⟩
set_option maxHeartbeats 4000000 in
set_option maxRecDepth 100000 in
theorem rone_13 {a r : Int} {m : Nat} (h : Wd.scarabref02_one.f m 13 a = some r) (W : World) : Calls Tryd.prog 71 #[.int .i64 13, .int .i64 a] W fun e w' => e = .returned (.int .i64 r) ∧ w' = W := by
  simp only [Wd.scarabref02_one.f, Int.reduceEq, if_true, if_false] at h
  have h : Wd.scarabref02_converted.f m a 8 false = some r := by simpa using h
  go_enter Tryd.func71, Tryd.ntmps71
  refine opq (fun Q hQ => ?_)
  repeat (first
    | (refine wp_block ?_; refine opq (fun Q' hQ' => ?_))
    | (refine wp_seq ?_; refine opq (fun Q' hQ' => ?_))
    | (refine wp_cond_true rfl ?_)
    | (refine wp_cond_false rfl ?_)
    | (refine wp_exit ?_)
    | (refine wp_skip ?_)
    | (refine wp_ret ?_)
    | (refine opq_out (by assumption) ?_; simp only [Exit.then, Exit.inBlock, Nat.reduceEqDiff, reduceIte])
    | (refine is_region ?_; go_wp2_with (first | (go_at_call 96; ((with_reducible refine (conv_walk h _).mono ?_); rintro e w' ⟨rfl, rfl⟩)))))
  refine opq_out hQ ?_
  refine bodyPost_ret (results_tmp rfl _ _ _) rfl ?_
  exact ⟨rfl, rfl⟩
set_option maxHeartbeats 4000000 in
set_option maxRecDepth 100000 in
theorem rone_14 {a r : Int} {m : Nat} (h : Wd.scarabref02_one.f m 14 a = some r) (W : World) : Calls Tryd.prog 71 #[.int .i64 14, .int .i64 a] W fun e w' => e = .returned (.int .i64 r) ∧ w' = W := by
  simp only [Wd.scarabref02_one.f, Int.reduceEq, if_true, if_false] at h
  have h : Wd.scarabref02_converted.f m a 16 false = some r := by simpa using h
  go_enter Tryd.func71, Tryd.ntmps71
  refine opq (fun Q hQ => ?_)
  repeat (first
    | (refine wp_block ?_; refine opq (fun Q' hQ' => ?_))
    | (refine wp_seq ?_; refine opq (fun Q' hQ' => ?_))
    | (refine wp_cond_true rfl ?_)
    | (refine wp_cond_false rfl ?_)
    | (refine wp_exit ?_)
    | (refine wp_skip ?_)
    | (refine wp_ret ?_)
    | (refine opq_out (by assumption) ?_; simp only [Exit.then, Exit.inBlock, Nat.reduceEqDiff, reduceIte])
    | (refine is_region ?_; go_wp2_with (first | (go_at_call 96; ((with_reducible refine (conv_walk h _).mono ?_); rintro e w' ⟨rfl, rfl⟩)))))
  refine opq_out hQ ?_
  refine bodyPost_ret (results_tmp rfl _ _ _) rfl ?_
  exact ⟨rfl, rfl⟩
set_option maxHeartbeats 4000000 in
set_option maxRecDepth 100000 in
theorem rone_15 {a r : Int} {m : Nat} (h : Wd.scarabref02_one.f m 15 a = some r) (W : World) : Calls Tryd.prog 71 #[.int .i64 15, .int .i64 a] W fun e w' => e = .returned (.int .i64 r) ∧ w' = W := by
  simp only [Wd.scarabref02_one.f, Int.reduceEq, if_true, if_false] at h
  have h : Wd.scarabref02_converted.f m a 32 false = some r := by simpa using h
  go_enter Tryd.func71, Tryd.ntmps71
  refine opq (fun Q hQ => ?_)
  repeat (first
    | (refine wp_block ?_; refine opq (fun Q' hQ' => ?_))
    | (refine wp_seq ?_; refine opq (fun Q' hQ' => ?_))
    | (refine wp_cond_true rfl ?_)
    | (refine wp_cond_false rfl ?_)
    | (refine wp_exit ?_)
    | (refine wp_skip ?_)
    | (refine wp_ret ?_)
    | (refine opq_out (by assumption) ?_; simp only [Exit.then, Exit.inBlock, Nat.reduceEqDiff, reduceIte])
    | (refine is_region ?_; go_wp2_with (first | (go_at_call 96; ((with_reducible refine (conv_walk h _).mono ?_); rintro e w' ⟨rfl, rfl⟩)))))
  refine opq_out hQ ?_
  refine bodyPost_ret (results_tmp rfl _ _ _) rfl ?_
  exact ⟨rfl, rfl⟩
set_option maxHeartbeats 4000000 in
set_option maxRecDepth 100000 in
theorem rone_4 {a r : Int} {m : Nat} (h : Wd.scarabref02_one.f m 4 a = some r) (W : World) : Calls Tryd.prog 71 #[.int .i64 4, .int .i64 a] W fun e w' => e = .returned (.int .i64 r) ∧ w' = W := by
  simp only [Wd.scarabref02_one.f, Int.reduceEq, if_true, if_false] at h
  have h : Wd.scarabref02_one.l0 m a 0 0 = some r := by simpa using h
  go_enter Tryd.func71, Tryd.ntmps71
  refine opq (fun Q hQ => ?_)
  repeat (first
    | (refine wp_block ?_; refine opq (fun Q' hQ' => ?_))
    | (refine wp_seq ?_; refine opq (fun Q' hQ' => ?_))
    | (refine wp_cond_true rfl ?_)
    | (refine wp_cond_false rfl ?_)
    | (refine wp_exit ?_)
    | (refine wp_skip ?_)
    | (refine wp_ret ?_)
    | (refine opq_out (by assumption) ?_; simp only [Exit.then, Exit.inBlock, Nat.reduceEqDiff, reduceIte])
    | (refine is_region ?_; go_wp2))
  go_loopw [5, 6] (fun x i wr => ∃ (q : Nat) (u j : Int), x = .int .i64 u ∧ i = .int .i64 j ∧ 0 ≤ j ∧ j ≤ 64 ∧ Wd.scarabref02_one.l0 q a u j = some r ∧ wr = W) (fun _ i _ => 64 - (intOf i).toNat)
  case atStart => exact ⟨m, 0, 0, rfl, rfl, by omega, by omega, h, rfl⟩
  case round =>
    obtain ⟨q, u, j, rfl, rfl, hj0, hj1, hl, rfl⟩ := hrel
    cases q with
    | zero => simp [Wd.scarabref02_one.l0] at hl
    | succ q =>
      unfold Wd.scarabref02_one.l0 at hl
      by_cases c : j < 64
      · rw [if_pos c] at hl
        have d : decide (j < 64) = true := by simpa using c
        rw [show wrap64 (j + 1) = j + 1 by unfold wrap64; omega] at hl
        obtain ⟨t, ht, hl⟩ := Option.bind_eq_some_iff.1 hl
        go_wp2_with (first | ((go_at_call 93; ((with_reducible refine (bit_walk ht _).mono ?_); rintro e w' ⟨rfl, rfl⟩))))
        go_roundw
        case rel => exact ⟨q, wrap64 (u + t), j + 1, by first | rfl | go_num, by first | rfl | go_num, by omega, by omega, hl, trivial⟩
        case measure => simp [intOf]; omega
      · rw [if_neg c] at hl
        obtain rfl := Option.some.inj hl
        have d : decide (j < 64) = false := by simpa using c
        clear c hl
        go_wp2
        repeat (first
          | (refine wp_block ?_; refine opq (fun Q' hQ' => ?_))
          | (refine wp_seq ?_; refine opq (fun Q' hQ' => ?_))
          | (refine wp_cond_true rfl ?_)
          | (refine wp_cond_false rfl ?_)
          | (refine wp_exit ?_)
          | (refine wp_skip ?_)
          | (refine wp_ret ?_)
          | (refine opq_out (by assumption) ?_; simp only [Exit.then, Exit.inBlock, Nat.reduceEqDiff, reduceIte])
          | (refine is_region ?_; go_wp2))
        refine opq_out hQ ?_
        refine bodyPost_ret (results_tmp rfl _ _ _) rfl ?_
        exact ⟨rfl, rfl⟩
set_option maxHeartbeats 4000000 in
set_option maxRecDepth 100000 in
theorem rone_5 {a r : Int} {m : Nat} (h : Wd.scarabref02_one.f m 5 a = some r) (W : World) : Calls Tryd.prog 71 #[.int .i64 5, .int .i64 a] W fun e w' => e = .returned (.int .i64 r) ∧ w' = W := by
  simp only [Wd.scarabref02_one.f, Int.reduceEq, if_true, if_false] at h
  have h : Wd.scarabref02_one.l1 m a 0 63 = some r := by simpa using h
  go_enter Tryd.func71, Tryd.ntmps71
  refine opq (fun Q hQ => ?_)
  repeat (first
    | (refine wp_block ?_; refine opq (fun Q' hQ' => ?_))
    | (refine wp_seq ?_; refine opq (fun Q' hQ' => ?_))
    | (refine wp_cond_true rfl ?_)
    | (refine wp_cond_false rfl ?_)
    | (refine wp_exit ?_)
    | (refine wp_skip ?_)
    | (refine wp_ret ?_)
    | (refine opq_out (by assumption) ?_; simp only [Exit.then, Exit.inBlock, Nat.reduceEqDiff, reduceIte])
    | (refine is_region ?_; go_wp2))
  go_loopw [7, 8] (fun x i wr => ∃ (q : Nat) (u j : Int), x = .int .i64 u ∧ i = .int .i64 j ∧ -1 ≤ j ∧ j ≤ 63 ∧ Wd.scarabref02_one.l1 q a u j = some r ∧ wr = W) (fun _ i _ => (intOf i + 1).toNat)
  case atStart => exact ⟨m, 0, 63, rfl, rfl, by omega, by omega, h, rfl⟩
  case round =>
    obtain ⟨q, u, j, rfl, rfl, hj0, hj1, hl, rfl⟩ := hrel
    cases q with
    | zero => simp [Wd.scarabref02_one.l1] at hl
    | succ q =>
      unfold Wd.scarabref02_one.l1 at hl
      by_cases c : j ≥ 0
      · rw [if_pos c] at hl
        have d : decide (0 ≤ j) = true := by simpa using c
        rw [show wrap64 (j - 1) = j - 1 by unfold wrap64; omega] at hl
        obtain ⟨t, ht, hl⟩ := Option.bind_eq_some_iff.1 hl
        by_cases ct : t = 0
        · rw [if_pos ct] at hl
          subst ct
          go_wp2_with (first | ((go_at_call 93; ((with_reducible refine (bit_walk ht _).mono ?_); rintro e w' ⟨rfl, rfl⟩))))
          go_roundw
          case rel => exact ⟨q, wrap64 (u + 1), j - 1, by first | rfl | go_num, by first | rfl | go_num, by omega, by omega, hl, trivial⟩
          case measure => simp [intOf]; omega
        · rw [if_neg ct] at hl
          obtain rfl := Option.some.inj hl
          have d3 : (t == 0) = false := by simpa using ct
          clear ct hl
          go_wp2_with (first | ((go_at_call 93; ((with_reducible refine (bit_walk ht _).mono ?_); rintro e w' ⟨rfl, rfl⟩))))
          repeat (first
            | (refine wp_block ?_; refine opq (fun Q' hQ' => ?_))
            | (refine wp_seq ?_; refine opq (fun Q' hQ' => ?_))
            | (refine wp_cond_true rfl ?_)
            | (refine wp_cond_false rfl ?_)
            | (refine wp_exit ?_)
            | (refine wp_skip ?_)
            | (refine wp_ret ?_)
            | (refine opq_out (by assumption) ?_; simp only [Exit.then, Exit.inBlock, Nat.reduceEqDiff, reduceIte])
            | (refine is_region ?_; go_wp2))
          refine opq_out hQ ?_
          refine bodyPost_ret (results_tmp rfl _ _ _) rfl ?_
          exact ⟨rfl, rfl⟩
      · rw [if_neg c] at hl
        obtain rfl := Option.some.inj hl
        have d : decide (0 ≤ j) = false := by simpa using c
        clear c hl
        go_wp2
        repeat (first
          | (refine wp_block ?_; refine opq (fun Q' hQ' => ?_))
          | (refine wp_seq ?_; refine opq (fun Q' hQ' => ?_))
          | (refine wp_cond_true rfl ?_)
          | (refine wp_cond_false rfl ?_)
          | (refine wp_exit ?_)
          | (refine wp_skip ?_)
          | (refine wp_ret ?_)
          | (refine opq_out (by assumption) ?_; simp only [Exit.then, Exit.inBlock, Nat.reduceEqDiff, reduceIte])
          | (refine is_region ?_; go_wp2))
        refine opq_out hQ ?_
        refine bodyPost_ret (results_tmp rfl _ _ _) rfl ?_
        exact ⟨rfl, rfl⟩
set_option maxHeartbeats 4000000 in
set_option maxRecDepth 100000 in
theorem rone_6 {a r : Int} {m : Nat} (h : Wd.scarabref02_one.f m 6 a = some r) (W : World) : Calls Tryd.prog 71 #[.int .i64 6, .int .i64 a] W fun e w' => e = .returned (.int .i64 r) ∧ w' = W := by
  simp only [Wd.scarabref02_one.f, Int.reduceEq, if_true, if_false] at h
  have h : Wd.scarabref02_one.l2 m a 0 0 = some r := by simpa using h
  go_enter Tryd.func71, Tryd.ntmps71
  refine opq (fun Q hQ => ?_)
  repeat (first
    | (refine wp_block ?_; refine opq (fun Q' hQ' => ?_))
    | (refine wp_seq ?_; refine opq (fun Q' hQ' => ?_))
    | (refine wp_cond_true rfl ?_)
    | (refine wp_cond_false rfl ?_)
    | (refine wp_exit ?_)
    | (refine wp_skip ?_)
    | (refine wp_ret ?_)
    | (refine opq_out (by assumption) ?_; simp only [Exit.then, Exit.inBlock, Nat.reduceEqDiff, reduceIte])
    | (refine is_region ?_; go_wp2))
  go_loopw [9, 10] (fun x i wr => ∃ (q : Nat) (u j : Int), x = .int .i64 u ∧ i = .int .i64 j ∧ 0 ≤ j ∧ j ≤ 64 ∧ Wd.scarabref02_one.l2 q a u j = some r ∧ wr = W) (fun _ i _ => 64 - (intOf i).toNat)
  case atStart => exact ⟨m, 0, 0, rfl, rfl, by omega, by omega, h, rfl⟩
  case round =>
    obtain ⟨q, u, j, rfl, rfl, hj0, hj1, hl, rfl⟩ := hrel
    cases q with
    | zero => simp [Wd.scarabref02_one.l2] at hl
    | succ q =>
      unfold Wd.scarabref02_one.l2 at hl
      by_cases c : j < 64
      · rw [if_pos c] at hl
        have d : decide (j < 64) = true := by simpa using c
        rw [show wrap64 (j + 1) = j + 1 by unfold wrap64; omega] at hl
        obtain ⟨t, ht, hl⟩ := Option.bind_eq_some_iff.1 hl
        by_cases ct : t = 0
        · rw [if_pos ct] at hl
          subst ct
          go_wp2_with (first | ((go_at_call 93; ((with_reducible refine (bit_walk ht _).mono ?_); rintro e w' ⟨rfl, rfl⟩))))
          go_roundw
          case rel => exact ⟨q, wrap64 (u + 1), j + 1, by first | rfl | go_num, by first | rfl | go_num, by omega, by omega, hl, trivial⟩
          case measure => simp [intOf]; omega
        · rw [if_neg ct] at hl
          obtain rfl := Option.some.inj hl
          have d3 : (t == 0) = false := by simpa using ct
          clear ct hl
          go_wp2_with (first | ((go_at_call 93; ((with_reducible refine (bit_walk ht _).mono ?_); rintro e w' ⟨rfl, rfl⟩))))
          repeat (first
            | (refine wp_block ?_; refine opq (fun Q' hQ' => ?_))
            | (refine wp_seq ?_; refine opq (fun Q' hQ' => ?_))
            | (refine wp_cond_true rfl ?_)
            | (refine wp_cond_false rfl ?_)
            | (refine wp_exit ?_)
            | (refine wp_skip ?_)
            | (refine wp_ret ?_)
            | (refine opq_out (by assumption) ?_; simp only [Exit.then, Exit.inBlock, Nat.reduceEqDiff, reduceIte])
            | (refine is_region ?_; go_wp2))
          refine opq_out hQ ?_
          refine bodyPost_ret (results_tmp rfl _ _ _) rfl ?_
          exact ⟨rfl, rfl⟩
      · rw [if_neg c] at hl
        obtain rfl := Option.some.inj hl
        have d : decide (j < 64) = false := by simpa using c
        clear c hl
        go_wp2
        repeat (first
          | (refine wp_block ?_; refine opq (fun Q' hQ' => ?_))
          | (refine wp_seq ?_; refine opq (fun Q' hQ' => ?_))
          | (refine wp_cond_true rfl ?_)
          | (refine wp_cond_false rfl ?_)
          | (refine wp_exit ?_)
          | (refine wp_skip ?_)
          | (refine wp_ret ?_)
          | (refine opq_out (by assumption) ?_; simp only [Exit.then, Exit.inBlock, Nat.reduceEqDiff, reduceIte])
          | (refine is_region ?_; go_wp2))
        refine opq_out hQ ?_
        refine bodyPost_ret (results_tmp rfl _ _ _) rfl ?_
        exact ⟨rfl, rfl⟩
set_option maxHeartbeats 4000000 in
set_option maxRecDepth 100000 in
theorem rone_7 {a r : Int} {m : Nat} (h : Wd.scarabref02_one.f m 7 a = some r) (W : World) : Calls Tryd.prog 71 #[.int .i64 7, .int .i64 a] W fun e w' => e = .returned (.int .i64 r) ∧ w' = W := by
  simp only [Wd.scarabref02_one.f, Int.reduceEq, if_true, if_false] at h
  have h : Wd.scarabref02_one.l3 m a 0 0 = some r := by simpa using h
  go_enter Tryd.func71, Tryd.ntmps71
  refine opq (fun Q hQ => ?_)
  repeat (first
    | (refine wp_block ?_; refine opq (fun Q' hQ' => ?_))
    | (refine wp_seq ?_; refine opq (fun Q' hQ' => ?_))
    | (refine wp_cond_true rfl ?_)
    | (refine wp_cond_false rfl ?_)
    | (refine wp_exit ?_)
    | (refine wp_skip ?_)
    | (refine wp_ret ?_)
    | (refine opq_out (by assumption) ?_; simp only [Exit.then, Exit.inBlock, Nat.reduceEqDiff, reduceIte])
    | (refine is_region ?_; go_wp2))
  go_loopw [11, 12] (fun x i wr => ∃ (q : Nat) (u j : Int), x = .int .i64 u ∧ i = .int .i64 j ∧ 0 ≤ j ∧ j ≤ 64 ∧ Wd.scarabref02_one.l3 q a u j = some r ∧ wr = W) (fun _ i _ => 64 - (intOf i).toNat)
  case atStart => exact ⟨m, 0, 0, rfl, rfl, by omega, by omega, h, rfl⟩
  case round =>
    obtain ⟨q, u, j, rfl, rfl, hj0, hj1, hl, rfl⟩ := hrel
    cases q with
    | zero => simp [Wd.scarabref02_one.l3] at hl
    | succ q =>
      unfold Wd.scarabref02_one.l3 at hl
      by_cases c : j < 64
      · rw [if_pos c] at hl
        have d : decide (j < 64) = true := by simpa using c
        rw [show wrap64 (j + 1) = j + 1 by unfold wrap64; omega, show wrap64 (63 - j) = 63 - j by unfold wrap64; omega] at hl
        obtain ⟨t, ht, hl⟩ := Option.bind_eq_some_iff.1 hl
        obtain ⟨t', ht', hl⟩ := Option.bind_eq_some_iff.1 hl
        go_wp2_with (first | ((go_at_call 93; ((with_reducible refine (bit_walk ht _).mono ?_); rintro e w' ⟨rfl, rfl⟩))) | ((go_at_call 94; ((with_reducible refine (put_walk ht' _).mono ?_); rintro e w' ⟨rfl, rfl⟩))))
        go_roundw
        case rel => exact ⟨q, t', j + 1, by first | rfl | go_num, by first | rfl | go_num, by omega, by omega, hl, trivial⟩
        case measure => simp [intOf]; omega
      · rw [if_neg c] at hl
        obtain rfl := Option.some.inj hl
        have d : decide (j < 64) = false := by simpa using c
        clear c hl
        go_wp2
        repeat (first
          | (refine wp_block ?_; refine opq (fun Q' hQ' => ?_))
          | (refine wp_seq ?_; refine opq (fun Q' hQ' => ?_))
          | (refine wp_cond_true rfl ?_)
          | (refine wp_cond_false rfl ?_)
          | (refine wp_exit ?_)
          | (refine wp_skip ?_)
          | (refine wp_ret ?_)
          | (refine opq_out (by assumption) ?_; simp only [Exit.then, Exit.inBlock, Nat.reduceEqDiff, reduceIte])
          | (refine is_region ?_; go_wp2))
        refine opq_out hQ ?_
        refine bodyPost_ret (results_tmp rfl _ _ _) rfl ?_
        exact ⟨rfl, rfl⟩
theorem rone_walk {k a r : Int} {m : Nat} (h1 : 1 ≤ k) (h2 : k ≤ 15) (h : Wd.scarabref02_one.f m k a = some r) (W : World) : Calls Tryd.prog 71 #[.int .i64 k, .int .i64 a] W fun e w' => e = .returned (.int .i64 r) ∧ w' = W := by
  obtain rfl | rfl | rfl | rfl | rfl | rfl | rfl | rfl | rfl | rfl | rfl | rfl | rfl | rfl | rfl : k = 1 ∨ k = 2 ∨ k = 3 ∨ k = 4 ∨ k = 5 ∨ k = 6 ∨ k = 7 ∨ k = 8 ∨ k = 9 ∨ k = 10 ∨ k = 11 ∨ k = 12 ∨ k = 13 ∨ k = 14 ∨ k = 15 := by omega
  · exact rone_1 h W
  · exact rone_2 h W
  · exact rone_3 h W
  · exact rone_4 h W
  · exact rone_5 h W
  · exact rone_6 h W
  · exact rone_7 h W
  · exact rone_8 h W
  · exact rone_9 h W
  · exact rone_10 h W
  · exact rone_11 h W
  · exact rone_12 h W
  · exact rone_13 h W
  · exact rone_14 h W
  · exact rone_15 h W
end Go.Proofs.YtbcdeanmjhcgeaaDoor.Alu
