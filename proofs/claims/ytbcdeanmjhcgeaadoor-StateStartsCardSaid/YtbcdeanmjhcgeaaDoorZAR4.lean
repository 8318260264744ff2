/- scarabref02.held, two, Apply, walked: each gives what it gives told plainly. No condition. -/
import Derived.Test.YtbcdeanmjhcgeaaDoorZAR2
import Derived.Test.YtbcdeanmjhcgeaaDoorZAR3
namespace Go.Proofs.YtbcdeanmjhcgeaaDoor.Alu
set_option linter.unusedVariables false
set_option linter.unusedSimpArgs false
open Go.RowKit
set_option linter.unusedVariables false
set_option linter.unusedSimpArgs false
set_option maxHeartbeats 4000000 in
set_option maxRecDepth 100000 in
theorem held_29 {a b r : Int} {m : Nat} (h : Wd.scarabref02_held.f m 29 a b = some r) (W : World) : Calls Tryd.prog 101 #[.int .i64 29, .int .i64 a, .int .i64 b] W fun e w' => e = .returned (.int .i64 r) ∧ w' = W := by
  simp only [Wd.scarabref02_held.f, Int.reduceEq, if_true, if_false] at h
  obtain ⟨t, ht, h⟩ := Option.bind_eq_some_iff.1 h
  obtain rfl := Option.some.inj h
  clear h
  by_cases c : a = b
  · have d : (a == b) = true := by simpa using c
    have d2 : (a != b) = false := by simpa using c
    rw [d] at ht
    clear c
    go_enter Tryd.func101, Tryd.ntmps101
    refine opq (fun Q hQ => ?_)
    repeat (first
      | (refine wp_block ?_; refine opq (fun Q' hQ' => ?_))
      | (refine wp_seq ?_; refine opq (fun Q' hQ' => ?_))
      | (refine wp_cond_true rfl ?_)
      | (refine wp_cond_false rfl ?_)
      | (refine wp_exit ?_)
      | (refine wp_skip ?_)
      | (refine wp_ret ?_)
      | (refine opq_out (by assumption) ?_; simp only [Exit.then, Exit.inBlock, Nat.reduceEqDiff, reduceIte])
      | (refine is_region ?_; go_wp2_with (first | (go_at_call 95; ((with_reducible refine (ryes_walk ht _).mono ?_); rintro e w' ⟨rfl, rfl⟩)))))
    refine opq_out hQ ?_
    refine bodyPost_ret (results_tmp rfl _ _ _) rfl ?_
    exact ⟨rfl, rfl⟩
  · have d : (a == b) = false := by simpa using c
    have d2 : (a != b) = true := by simpa using c
    rw [d] at ht
    clear c
    go_enter Tryd.func101, Tryd.ntmps101
    refine opq (fun Q hQ => ?_)
    repeat (first
      | (refine wp_block ?_; refine opq (fun Q' hQ' => ?_))
      | (refine wp_seq ?_; refine opq (fun Q' hQ' => ?_))
      | (refine wp_cond_true rfl ?_)
      | (refine wp_cond_false rfl ?_)
      | (refine wp_exit ?_)
      | (refine wp_skip ?_)
      | (refine wp_ret ?_)
      | (refine opq_out (by assumption) ?_; simp only [Exit.then, Exit.inBlock, Nat.reduceEqDiff, reduceIte])
      | (refine is_region ?_; go_wp2_with (first | (go_at_call 95; ((with_reducible refine (ryes_walk ht _).mono ?_); rintro e w' ⟨rfl, rfl⟩)))))
    refine opq_out hQ ?_
    refine bodyPost_ret (results_tmp rfl _ _ _) rfl ?_
    exact ⟨rfl, rfl⟩
set_option maxHeartbeats 4000000 in
set_option maxRecDepth 100000 in
theorem held_30 {a b r : Int} {m : Nat} (h : Wd.scarabref02_held.f m 30 a b = some r) (W : World) : Calls Tryd.prog 101 #[.int .i64 30, .int .i64 a, .int .i64 b] W fun e w' => e = .returned (.int .i64 r) ∧ w' = W := by
  simp only [Wd.scarabref02_held.f, Int.reduceEq, if_true, if_false] at h
  obtain ⟨t, ht, h⟩ := Option.bind_eq_some_iff.1 h
  obtain rfl := Option.some.inj h
  clear h
  by_cases c : a = b
  · have d : (a != b) = false := by simpa using c
    have d2 : (a == b) = true := by simpa using c
    rw [d] at ht
    clear c
    go_enter Tryd.func101, Tryd.ntmps101
    refine opq (fun Q hQ => ?_)
    repeat (first
      | (refine wp_block ?_; refine opq (fun Q' hQ' => ?_))
      | (refine wp_seq ?_; refine opq (fun Q' hQ' => ?_))
      | (refine wp_cond_true rfl ?_)
      | (refine wp_cond_false rfl ?_)
      | (refine wp_exit ?_)
      | (refine wp_skip ?_)
      | (refine wp_ret ?_)
      | (refine opq_out (by assumption) ?_; simp only [Exit.then, Exit.inBlock, Nat.reduceEqDiff, reduceIte])
      | (refine is_region ?_; go_wp2_with (first | (go_at_call 95; ((with_reducible refine (ryes_walk ht _).mono ?_); rintro e w' ⟨rfl, rfl⟩)))))
    refine opq_out hQ ?_
    refine bodyPost_ret (results_tmp rfl _ _ _) rfl ?_
    exact ⟨rfl, rfl⟩
  · have d : (a != b) = true := by simpa using c
    have d2 : (a == b) = false := by simpa using c
    rw [d] at ht
    clear c
    go_enter Tryd.func101, Tryd.ntmps101
    refine opq (fun Q hQ => ?_)
    repeat (first
      | (refine wp_block ?_; refine opq (fun Q' hQ' => ?_))
      | (refine wp_seq ?_; refine opq (fun Q' hQ' => ?_))
      | (refine wp_cond_true rfl ?_)
      | (refine wp_cond_false rfl ?_)
      | (refine wp_exit ?_)
      | (refine wp_skip ?_)
      | (refine wp_ret ?_)
      | (refine opq_out (by assumption) ?_; simp only [Exit.then, Exit.inBlock, Nat.reduceEqDiff, reduceIte])
      | (refine is_region ?_; go_wp2_with (first | (go_at_call 95; ((with_reducible refine (ryes_walk ht _).mono ?_); rintro e w' ⟨rfl, rfl⟩)))))
    refine opq_out hQ ?_
    refine bodyPost_ret (results_tmp rfl _ _ _) rfl ?_
    exact ⟨rfl, rfl⟩
set_option maxHeartbeats 4000000 in
set_option maxRecDepth 100000 in
theorem held_31 {a b r : Int} {m : Nat} (h : Wd.scarabref02_held.f m 31 a b = some r) (W : World) : Calls Tryd.prog 101 #[.int .i64 31, .int .i64 a, .int .i64 b] W fun e w' => e = .returned (.int .i64 r) ∧ w' = W := by
  simp only [Wd.scarabref02_held.f, Int.reduceEq, if_true, if_false] at h
  obtain ⟨t, ht, h⟩ := Option.bind_eq_some_iff.1 h
  obtain rfl := Option.some.inj h
  clear h
  by_cases c : a < b
  · have d : (decide (a < b)) = true := by simpa using c
    rw [d] at ht
    clear c
    go_enter Tryd.func101, Tryd.ntmps101
    refine opq (fun Q hQ => ?_)
    repeat (first
      | (refine wp_block ?_; refine opq (fun Q' hQ' => ?_))
      | (refine wp_seq ?_; refine opq (fun Q' hQ' => ?_))
      | (refine wp_cond_true rfl ?_)
      | (refine wp_cond_false rfl ?_)
      | (refine wp_exit ?_)
      | (refine wp_skip ?_)
      | (refine wp_ret ?_)
      | (refine opq_out (by assumption) ?_; simp only [Exit.then, Exit.inBlock, Nat.reduceEqDiff, reduceIte])
      | (refine is_region ?_; go_wp2_with (first | (go_at_call 95; ((with_reducible refine (ryes_walk ht _).mono ?_); rintro e w' ⟨rfl, rfl⟩)))))
    refine opq_out hQ ?_
    refine bodyPost_ret (results_tmp rfl _ _ _) rfl ?_
    exact ⟨rfl, rfl⟩
  · have d : (decide (a < b)) = false := by simpa using c
    rw [d] at ht
    clear c
    go_enter Tryd.func101, Tryd.ntmps101
    refine opq (fun Q hQ => ?_)
    repeat (first
      | (refine wp_block ?_; refine opq (fun Q' hQ' => ?_))
      | (refine wp_seq ?_; refine opq (fun Q' hQ' => ?_))
      | (refine wp_cond_true rfl ?_)
      | (refine wp_cond_false rfl ?_)
      | (refine wp_exit ?_)
      | (refine wp_skip ?_)
      | (refine wp_ret ?_)
      | (refine opq_out (by assumption) ?_; simp only [Exit.then, Exit.inBlock, Nat.reduceEqDiff, reduceIte])
      | (refine is_region ?_; go_wp2_with (first | (go_at_call 95; ((with_reducible refine (ryes_walk ht _).mono ?_); rintro e w' ⟨rfl, rfl⟩)))))
    refine opq_out hQ ?_
    refine bodyPost_ret (results_tmp rfl _ _ _) rfl ?_
    exact ⟨rfl, rfl⟩
set_option maxHeartbeats 4000000 in
set_option maxRecDepth 100000 in
theorem held_32 {a b r : Int} {m : Nat} (h : Wd.scarabref02_held.f m 32 a b = some r) (W : World) : Calls Tryd.prog 101 #[.int .i64 32, .int .i64 a, .int .i64 b] W fun e w' => e = .returned (.int .i64 r) ∧ w' = W := by
  simp only [Wd.scarabref02_held.f, Int.reduceEq, if_true, if_false] at h
  obtain ⟨t, ht, h⟩ := Option.bind_eq_some_iff.1 h
  obtain rfl := Option.some.inj h
  clear h
  by_cases c : a ≤ b
  · have d : (decide (a ≤ b)) = true := by simpa using c
    rw [d] at ht
    clear c
    go_enter Tryd.func101, Tryd.ntmps101
    refine opq (fun Q hQ => ?_)
    repeat (first
      | (refine wp_block ?_; refine opq (fun Q' hQ' => ?_))
      | (refine wp_seq ?_; refine opq (fun Q' hQ' => ?_))
      | (refine wp_cond_true rfl ?_)
      | (refine wp_cond_false rfl ?_)
      | (refine wp_exit ?_)
      | (refine wp_skip ?_)
      | (refine wp_ret ?_)
      | (refine opq_out (by assumption) ?_; simp only [Exit.then, Exit.inBlock, Nat.reduceEqDiff, reduceIte])
      | (refine is_region ?_; go_wp2_with (first | (go_at_call 95; ((with_reducible refine (ryes_walk ht _).mono ?_); rintro e w' ⟨rfl, rfl⟩)))))
    refine opq_out hQ ?_
    refine bodyPost_ret (results_tmp rfl _ _ _) rfl ?_
    exact ⟨rfl, rfl⟩
  · have d : (decide (a ≤ b)) = false := by simpa using c
    rw [d] at ht
    clear c
    go_enter Tryd.func101, Tryd.ntmps101
    refine opq (fun Q hQ => ?_)
    repeat (first
      | (refine wp_block ?_; refine opq (fun Q' hQ' => ?_))
      | (refine wp_seq ?_; refine opq (fun Q' hQ' => ?_))
      | (refine wp_cond_true rfl ?_)
      | (refine wp_cond_false rfl ?_)
      | (refine wp_exit ?_)
      | (refine wp_skip ?_)
      | (refine wp_ret ?_)
      | (refine opq_out (by assumption) ?_; simp only [Exit.then, Exit.inBlock, Nat.reduceEqDiff, reduceIte])
      | (refine is_region ?_; go_wp2_with (first | (go_at_call 95; ((with_reducible refine (ryes_walk ht _).mono ?_); rintro e w' ⟨rfl, rfl⟩)))))
    refine opq_out hQ ?_
    refine bodyPost_ret (results_tmp rfl _ _ _) rfl ?_
    exact ⟨rfl, rfl⟩
set_option maxHeartbeats 4000000 in
set_option maxRecDepth 100000 in
theorem held_33 {a b r : Int} {m : Nat} (h : Wd.scarabref02_held.f m 33 a b = some r) (W : World) : Calls Tryd.prog 101 #[.int .i64 33, .int .i64 a, .int .i64 b] W fun e w' => e = .returned (.int .i64 r) ∧ w' = W := by
  simp only [Wd.scarabref02_held.f, Int.reduceEq, if_true, if_false] at h
  obtain ⟨t, ht, h⟩ := Option.bind_eq_some_iff.1 h
  obtain rfl := Option.some.inj h
  clear h
  by_cases c : IntKind.u64.wrap a < IntKind.u64.wrap b
  · have d : (decide (IntKind.u64.wrap a < IntKind.u64.wrap b)) = true := by simpa using c
    rw [d] at ht
    clear c
    go_enter Tryd.func101, Tryd.ntmps101
    refine opq (fun Q hQ => ?_)
    repeat (first
      | (refine wp_block ?_; refine opq (fun Q' hQ' => ?_))
      | (refine wp_seq ?_; refine opq (fun Q' hQ' => ?_))
      | (refine wp_cond_true rfl ?_)
      | (refine wp_cond_false rfl ?_)
      | (refine wp_exit ?_)
      | (refine wp_skip ?_)
      | (refine wp_ret ?_)
      | (refine opq_out (by assumption) ?_; simp only [Exit.then, Exit.inBlock, Nat.reduceEqDiff, reduceIte])
      | (refine is_region ?_; go_wp2_with (first | (go_at_call 95; ((with_reducible refine (ryes_walk ht _).mono ?_); rintro e w' ⟨rfl, rfl⟩)))))
    refine opq_out hQ ?_
    refine bodyPost_ret (results_tmp rfl _ _ _) rfl ?_
    exact ⟨rfl, rfl⟩
  · have d : (decide (IntKind.u64.wrap a < IntKind.u64.wrap b)) = false := by simpa using c
    rw [d] at ht
    clear c
    go_enter Tryd.func101, Tryd.ntmps101
    refine opq (fun Q hQ => ?_)
    repeat (first
      | (refine wp_block ?_; refine opq (fun Q' hQ' => ?_))
      | (refine wp_seq ?_; refine opq (fun Q' hQ' => ?_))
      | (refine wp_cond_true rfl ?_)
      | (refine wp_cond_false rfl ?_)
      | (refine wp_exit ?_)
      | (refine wp_skip ?_)
      | (refine wp_ret ?_)
      | (refine opq_out (by assumption) ?_; simp only [Exit.then, Exit.inBlock, Nat.reduceEqDiff, reduceIte])
      | (refine is_region ?_; go_wp2_with (first | (go_at_call 95; ((with_reducible refine (ryes_walk ht _).mono ?_); rintro e w' ⟨rfl, rfl⟩)))))
    refine opq_out hQ ?_
    refine bodyPost_ret (results_tmp rfl _ _ _) rfl ?_
    exact ⟨rfl, rfl⟩
set_option maxHeartbeats 4000000 in
set_option maxRecDepth 100000 in
theorem held_34 {a b r : Int} {m : Nat} (h : Wd.scarabref02_held.f m 34 a b = some r) (W : World) : Calls Tryd.prog 101 #[.int .i64 34, .int .i64 a, .int .i64 b] W fun e w' => e = .returned (.int .i64 r) ∧ w' = W := by
  simp only [Wd.scarabref02_held.f, Int.reduceEq, if_true, if_false] at h
  by_cases c : b < a
  · rw [if_pos c] at h
    obtain rfl := Option.some.inj h
    have d : decide (b < a) = true := by simpa using c
    clear c h
    go_enter Tryd.func101, Tryd.ntmps101
    refine opq (fun Q hQ => ?_)
    repeat (first
      | (refine wp_block ?_; refine opq (fun Q' hQ' => ?_))
      | (refine wp_seq ?_; refine opq (fun Q' hQ' => ?_))
      | (refine wp_cond_true rfl ?_)
      | (refine wp_cond_false rfl ?_)
      | (refine wp_exit ?_)
      | (refine wp_skip ?_)
      | (refine wp_ret ?_)
      | (refine opq_out (by assumption) ?_; simp only [Exit.then, Exit.inBlock, Nat.reduceEqDiff, reduceIte])
      | (refine is_region ?_; go_wp2))
    refine opq_out hQ ?_
    refine bodyPost_ret (results_tmp rfl _ _ _) rfl ?_
    exact ⟨rfl, rfl⟩
  · rw [if_neg c] at h
    obtain rfl := Option.some.inj h
    have d : decide (b < a) = false := by simpa using c
    clear c h
    go_enter Tryd.func101, Tryd.ntmps101
    refine opq (fun Q hQ => ?_)
    repeat (first
      | (refine wp_block ?_; refine opq (fun Q' hQ' => ?_))
      | (refine wp_seq ?_; refine opq (fun Q' hQ' => ?_))
      | (refine wp_cond_true rfl ?_)
      | (refine wp_cond_false rfl ?_)
      | (refine wp_exit ?_)
      | (refine wp_skip ?_)
      | (refine wp_ret ?_)
      | (refine opq_out (by assumption) ?_; simp only [Exit.then, Exit.inBlock, Nat.reduceEqDiff, reduceIte])
      | (refine is_region ?_; go_wp2))
    refine opq_out hQ ?_
    refine bodyPost_ret (results_tmp rfl _ _ _) rfl ?_
    exact ⟨rfl, rfl⟩
set_option maxHeartbeats 4000000 in
set_option maxRecDepth 100000 in
theorem held_35 {a b r : Int} {m : Nat} (h : Wd.scarabref02_held.f m 35 a b = some r) (W : World) : Calls Tryd.prog 101 #[.int .i64 35, .int .i64 a, .int .i64 b] W fun e w' => e = .returned (.int .i64 r) ∧ w' = W := by
  simp only [Wd.scarabref02_held.f, Int.reduceEq, if_true, if_false] at h
  by_cases c : b > a
  · rw [if_pos c] at h
    obtain rfl := Option.some.inj h
    have d : decide (a < b) = true := by simpa using c
    clear c h
    go_enter Tryd.func101, Tryd.ntmps101
    refine opq (fun Q hQ => ?_)
    repeat (first
      | (refine wp_block ?_; refine opq (fun Q' hQ' => ?_))
      | (refine wp_seq ?_; refine opq (fun Q' hQ' => ?_))
      | (refine wp_cond_true rfl ?_)
      | (refine wp_cond_false rfl ?_)
      | (refine wp_exit ?_)
      | (refine wp_skip ?_)
      | (refine wp_ret ?_)
      | (refine opq_out (by assumption) ?_; simp only [Exit.then, Exit.inBlock, Nat.reduceEqDiff, reduceIte])
      | (refine is_region ?_; go_wp2))
    refine opq_out hQ ?_
    refine bodyPost_ret (results_tmp rfl _ _ _) rfl ?_
    exact ⟨rfl, rfl⟩
  · rw [if_neg c] at h
    obtain rfl := Option.some.inj h
    have d : decide (a < b) = false := by simpa using c
    clear c h
    go_enter Tryd.func101, Tryd.ntmps101
    refine opq (fun Q hQ => ?_)
    repeat (first
      | (refine wp_block ?_; refine opq (fun Q' hQ' => ?_))
      | (refine wp_seq ?_; refine opq (fun Q' hQ' => ?_))
      | (refine wp_cond_true rfl ?_)
      | (refine wp_cond_false rfl ?_)
      | (refine wp_exit ?_)
      | (refine wp_skip ?_)
      | (refine wp_ret ?_)
      | (refine opq_out (by assumption) ?_; simp only [Exit.then, Exit.inBlock, Nat.reduceEqDiff, reduceIte])
      | (refine is_region ?_; go_wp2))
    refine opq_out hQ ?_
    refine bodyPost_ret (results_tmp rfl _ _ _) rfl ?_
    exact ⟨rfl, rfl⟩
set_option maxHeartbeats 4000000 in
set_option maxRecDepth 100000 in
theorem held_36 {a b r : Int} {m : Nat} (h : Wd.scarabref02_held.f m 36 a b = some r) (W : World) : Calls Tryd.prog 101 #[.int .i64 36, .int .i64 a, .int .i64 b] W fun e w' => e = .returned (.int .i64 r) ∧ w' = W := by
  simp only [Wd.scarabref02_held.f, Int.reduceEq, if_true, if_false] at h
  obtain ⟨t, ht, h⟩ := Option.bind_eq_some_iff.1 h
  obtain rfl := Option.some.inj h
  clear h
  go_enter Tryd.func101, Tryd.ntmps101
  refine opq (fun Q hQ => ?_)
  repeat (first
    | (refine wp_block ?_; refine opq (fun Q' hQ' => ?_))
    | (refine wp_seq ?_; refine opq (fun Q' hQ' => ?_))
    | (refine wp_cond_true rfl ?_)
    | (refine wp_cond_false rfl ?_)
    | (refine wp_exit ?_)
    | (refine wp_skip ?_)
    | (refine wp_ret ?_)
    | (refine opq_out (by assumption) ?_; simp only [Exit.then, Exit.inBlock, Nat.reduceEqDiff, reduceIte])
    | (refine is_region ?_; go_wp2_with (first | (go_at_call 97; ((with_reducible refine (rwide_walk ht _).mono ?_); rintro e w' ⟨rfl, rfl⟩)))))
  refine opq_out hQ ?_
  refine bodyPost_ret (results_tmp rfl _ _ _) rfl ?_
  exact ⟨rfl, rfl⟩
set_option maxHeartbeats 4000000 in
set_option maxRecDepth 100000 in
theorem rtwo_16 {a b : Int} {r : Int × Int} {q : Nat} (h : Wd.scarabref02_two.f (q + 4) 16 a b = some r) (W : World) : Calls Tryd.prog 72 #[.int .i64 16, .int .i64 a, .int .i64 b] W fun e w' => e = .returned (.tuple #[.int .i64 r.1, .int .i64 r.2]) ∧ w' = W := by
  simp only [Wd.scarabref02_two.f, Wd.scarabref02_two.j0, Wd.scarabref02_two.j1, Wd.scarabref02_two.j2, Int.reduceEq, Int.reduceBEq, Bool.false_eq_true, if_true, if_false] at h
  obtain rfl := Option.some.inj h
  clear h
  go_enter Tryd.func72, Tryd.ntmps72
  refine opq (fun Q hQ => ?_)
  repeat (first
    | (refine wp_block ?_; refine opq (fun Q' hQ' => ?_))
    | (refine wp_seq ?_; refine opq (fun Q' hQ' => ?_))
    | (refine wp_cond_true rfl ?_)
    | (refine wp_cond_false rfl ?_)
    | (refine wp_exit ?_)
    | (refine wp_skip ?_)
    | (refine wp_ret ?_)
    | (refine opq_out (by assumption) ?_; simp only [Exit.then, Exit.inBlock, Nat.reduceEqDiff, reduceIte])
    | (refine is_region ?_; go_wp2))
  refine opq_out hQ ?_
  refine bodyPost_ret (results_tmp2 rfl _ _ _) rfl ?_
  exact ⟨rfl, rfl⟩
set_option maxHeartbeats 4000000 in
set_option maxRecDepth 100000 in
theorem rtwo_17 {a b : Int} {r : Int × Int} {q : Nat} (h : Wd.scarabref02_two.f (q + 4) 17 a b = some r) (W : World) : Calls Tryd.prog 72 #[.int .i64 17, .int .i64 a, .int .i64 b] W fun e w' => e = .returned (.tuple #[.int .i64 r.1, .int .i64 r.2]) ∧ w' = W := by
  simp only [Wd.scarabref02_two.f, Wd.scarabref02_two.j0, Wd.scarabref02_two.j1, Wd.scarabref02_two.j2, Int.reduceEq, Int.reduceBEq, Bool.false_eq_true, if_true, if_false] at h
  obtain rfl := Option.some.inj h
  clear h
  go_enter Tryd.func72, Tryd.ntmps72
  refine opq (fun Q hQ => ?_)
  repeat (first
    | (refine wp_block ?_; refine opq (fun Q' hQ' => ?_))
    | (refine wp_seq ?_; refine opq (fun Q' hQ' => ?_))
    | (refine wp_cond_true rfl ?_)
    | (refine wp_cond_false rfl ?_)
    | (refine wp_exit ?_)
    | (refine wp_skip ?_)
    | (refine wp_ret ?_)
    | (refine opq_out (by assumption) ?_; simp only [Exit.then, Exit.inBlock, Nat.reduceEqDiff, reduceIte])
    | (refine is_region ?_; go_wp2))
  refine opq_out hQ ?_
  refine bodyPost_ret (results_tmp2 rfl _ _ _) rfl ?_
  exact ⟨rfl, rfl⟩
set_option maxHeartbeats 4000000 in
set_option maxRecDepth 100000 in
theorem rtwo_18 {a b : Int} {r : Int × Int} {q : Nat} (h : Wd.scarabref02_two.f (q + 4) 18 a b = some r) (W : World) : Calls Tryd.prog 72 #[.int .i64 18, .int .i64 a, .int .i64 b] W fun e w' => e = .returned (.tuple #[.int .i64 r.1, .int .i64 r.2]) ∧ w' = W := by
  simp only [Wd.scarabref02_two.f, Wd.scarabref02_two.j0, Wd.scarabref02_two.j1, Wd.scarabref02_two.j2, Int.reduceEq, Int.reduceBEq, Bool.false_eq_true, if_true, if_false] at h
  obtain ⟨t, ht, h⟩ := Option.bind_eq_some_iff.1 h
  obtain rfl := Option.some.inj h
  clear h
  go_enter Tryd.func72, Tryd.ntmps72
  refine opq (fun Q hQ => ?_)
  repeat (first
    | (refine wp_block ?_; refine opq (fun Q' hQ' => ?_))
    | (refine wp_seq ?_; refine opq (fun Q' hQ' => ?_))
    | (refine wp_cond_true rfl ?_)
    | (refine wp_cond_false rfl ?_)
    | (refine wp_exit ?_)
    | (refine wp_skip ?_)
    | (refine wp_ret ?_)
    | (refine opq_out (by assumption) ?_; simp only [Exit.then, Exit.inBlock, Nat.reduceEqDiff, reduceIte])
    | (refine is_region ?_; go_wp2_with (first | (go_at_call 97; ((with_reducible refine (rwide_walk ht _).mono ?_); rintro e w' ⟨rfl, rfl⟩)))))
  refine opq_out hQ ?_
  refine bodyPost_ret (results_tmp2 rfl _ _ _) rfl ?_
  exact ⟨rfl, rfl⟩
set_option maxHeartbeats 4000000 in
set_option maxRecDepth 100000 in
theorem rtwo_19a {a b : Int} {r : Int × Int} {q : Nat} (c : b = 0) (h : Wd.scarabref02_two.f (q + 4) 19 a b = some r) (W : World) : Calls Tryd.prog 72 #[.int .i64 19, .int .i64 a, .int .i64 b] W fun e w' => e = .returned (.tuple #[.int .i64 r.1, .int .i64 r.2]) ∧ w' = W := by
  simp only [Wd.scarabref02_two.f, Wd.scarabref02_two.j0, Wd.scarabref02_two.j1, Wd.scarabref02_two.j2, Int.reduceEq, Int.reduceBEq, Bool.false_eq_true, if_true, if_false] at h
  subst c
  simp only [if_true] at h
  obtain rfl := Option.some.inj h
  clear h
  go_enter Tryd.func72, Tryd.ntmps72
  refine opq (fun Q hQ => ?_)
  repeat (first
    | (refine wp_block ?_; refine opq (fun Q' hQ' => ?_))
    | (refine wp_seq ?_; refine opq (fun Q' hQ' => ?_))
    | (refine wp_cond_true rfl ?_)
    | (refine wp_cond_false rfl ?_)
    | (refine wp_exit ?_)
    | (refine wp_skip ?_)
    | (refine wp_ret ?_)
    | (refine opq_out (by assumption) ?_; simp only [Exit.then, Exit.inBlock, Nat.reduceEqDiff, reduceIte])
    | (refine is_region ?_; go_wp2))
  refine opq_out hQ ?_
  refine bodyPost_ret (results_tmp2 rfl _ _ _) rfl ?_
  exact ⟨rfl, rfl⟩
set_option maxHeartbeats 4000000 in
set_option maxRecDepth 100000 in
theorem rtwo_19b {a b : Int} {r : Int × Int} {q : Nat} (c : b = -1) (h : Wd.scarabref02_two.f (q + 4) 19 a b = some r) (W : World) : Calls Tryd.prog 72 #[.int .i64 19, .int .i64 a, .int .i64 b] W fun e w' => e = .returned (.tuple #[.int .i64 r.1, .int .i64 r.2]) ∧ w' = W := by
  simp only [Wd.scarabref02_two.f, Wd.scarabref02_two.j0, Wd.scarabref02_two.j1, Wd.scarabref02_two.j2, Int.reduceEq, Int.reduceBEq, Bool.false_eq_true, if_true, if_false] at h
  subst c
  simp only [Int.reduceNeg, Int.reduceEq, if_true, if_false] at h
  obtain rfl := Option.some.inj h
  clear h
  go_enter Tryd.func72, Tryd.ntmps72
  refine opq (fun Q hQ => ?_)
  repeat (first
    | (refine wp_block ?_; refine opq (fun Q' hQ' => ?_))
    | (refine wp_seq ?_; refine opq (fun Q' hQ' => ?_))
    | (refine wp_cond_true rfl ?_)
    | (refine wp_cond_false rfl ?_)
    | (refine wp_exit ?_)
    | (refine wp_skip ?_)
    | (refine wp_ret ?_)
    | (refine opq_out (by assumption) ?_; simp only [Exit.then, Exit.inBlock, Nat.reduceEqDiff, reduceIte])
    | (refine is_region ?_; go_wp2))
  refine opq_out hQ ?_
  refine bodyPost_ret (results_tmp2 rfl _ _ _) rfl ?_
  exact ⟨rfl, rfl⟩
set_option maxHeartbeats 4000000 in
set_option maxRecDepth 100000 in
theorem rtwo_19c {a b : Int} {r : Int × Int} {q : Nat} (c : b ≠ 0 ∧ b ≠ -1) (h : Wd.scarabref02_two.f (q + 4) 19 a b = some r) (W : World) : Calls Tryd.prog 72 #[.int .i64 19, .int .i64 a, .int .i64 b] W fun e w' => e = .returned (.tuple #[.int .i64 r.1, .int .i64 r.2]) ∧ w' = W := by
  simp only [Wd.scarabref02_two.f, Wd.scarabref02_two.j0, Wd.scarabref02_two.j1, Wd.scarabref02_two.j2, Int.reduceEq, Int.reduceBEq, Bool.false_eq_true, if_true, if_false] at h
  rw [if_neg c.1, if_neg c.2] at h
  obtain rfl := Option.some.inj h
  clear h
  have d1 : (b == 0) = false := by simpa using c.1
  have d2 : (b == -1) = false := by simpa using c.2
  have d3 : b ≠ 0 := c.1
  clear c
  go_enter Tryd.func72, Tryd.ntmps72
  refine opq (fun Q hQ => ?_)
  repeat (first
    | (refine wp_block ?_; refine opq (fun Q' hQ' => ?_))
    | (refine wp_seq ?_; refine opq (fun Q' hQ' => ?_))
    | (refine wp_cond_true rfl ?_)
    | (refine wp_cond_false rfl ?_)
    | (refine wp_exit ?_)
    | (refine wp_skip ?_)
    | (refine wp_ret ?_)
    | (refine opq_out (by assumption) ?_; simp only [Exit.then, Exit.inBlock, Nat.reduceEqDiff, reduceIte])
    | (refine is_region ?_; go_wp2))
  refine opq_out hQ ?_
  refine bodyPost_ret (results_tmp2 rfl _ _ _) rfl ?_
  exact ⟨rfl, rfl⟩
set_option maxHeartbeats 4000000 in
set_option maxRecDepth 100000 in
theorem rtwo_20a {a b : Int} {r : Int × Int} {q : Nat} (c : b = 0) (h : Wd.scarabref02_two.f (q + 4) 20 a b = some r) (W : World) : Calls Tryd.prog 72 #[.int .i64 20, .int .i64 a, .int .i64 b] W fun e w' => e = .returned (.tuple #[.int .i64 r.1, .int .i64 r.2]) ∧ w' = W := by
  simp only [Wd.scarabref02_two.f, Wd.scarabref02_two.j0, Wd.scarabref02_two.j1, Wd.scarabref02_two.j2, Int.reduceEq, Int.reduceBEq, Bool.false_eq_true, if_true, if_false] at h
  subst c
  simp only [if_true] at h
  obtain rfl := Option.some.inj h
  clear h
  go_enter Tryd.func72, Tryd.ntmps72
  refine opq (fun Q hQ => ?_)
  repeat (first
    | (refine wp_block ?_; refine opq (fun Q' hQ' => ?_))
    | (refine wp_seq ?_; refine opq (fun Q' hQ' => ?_))
    | (refine wp_cond_true rfl ?_)
    | (refine wp_cond_false rfl ?_)
    | (refine wp_exit ?_)
    | (refine wp_skip ?_)
    | (refine wp_ret ?_)
    | (refine opq_out (by assumption) ?_; simp only [Exit.then, Exit.inBlock, Nat.reduceEqDiff, reduceIte])
    | (refine is_region ?_; go_wp2))
  refine opq_out hQ ?_
  refine bodyPost_ret (results_tmp2 rfl _ _ _) rfl ?_
  exact ⟨rfl, rfl⟩
set_option maxHeartbeats 4000000 in
set_option maxRecDepth 100000 in
theorem rtwo_20b {a b : Int} {r : Int × Int} {q : Nat} (c : b = -1) (h : Wd.scarabref02_two.f (q + 4) 20 a b = some r) (W : World) : Calls Tryd.prog 72 #[.int .i64 20, .int .i64 a, .int .i64 b] W fun e w' => e = .returned (.tuple #[.int .i64 r.1, .int .i64 r.2]) ∧ w' = W := by
  simp only [Wd.scarabref02_two.f, Wd.scarabref02_two.j0, Wd.scarabref02_two.j1, Wd.scarabref02_two.j2, Int.reduceEq, Int.reduceBEq, Bool.false_eq_true, if_true, if_false] at h
  subst c
  simp only [Int.reduceNeg, Int.reduceEq, if_true, if_false] at h
  obtain rfl := Option.some.inj h
  clear h
  go_enter Tryd.func72, Tryd.ntmps72
  refine opq (fun Q hQ => ?_)
  repeat (first
    | (refine wp_block ?_; refine opq (fun Q' hQ' => ?_))
    | (refine wp_seq ?_; refine opq (fun Q' hQ' => ?_))
    | (refine wp_cond_true rfl ?_)
    | (refine wp_cond_false rfl ?_)
    | (refine wp_exit ?_)
    | (refine wp_skip ?_)
    | (refine wp_ret ?_)
    | (refine opq_out (by assumption) ?_; simp only [Exit.then, Exit.inBlock, Nat.reduceEqDiff, reduceIte])
    | (refine is_region ?_; go_wp2))
  refine opq_out hQ ?_
  refine bodyPost_ret (results_tmp2 rfl _ _ _) rfl ?_
  exact ⟨rfl, rfl⟩
set_option maxHeartbeats 4000000 in
set_option maxRecDepth 100000 in
theorem rtwo_20c {a b : Int} {r : Int × Int} {q : Nat} (c : b ≠ 0 ∧ b ≠ -1) (h : Wd.scarabref02_two.f (q + 4) 20 a b = some r) (W : World) : Calls Tryd.prog 72 #[.int .i64 20, .int .i64 a, .int .i64 b] W fun e w' => e = .returned (.tuple #[.int .i64 r.1, .int .i64 r.2]) ∧ w' = W := by
  simp only [Wd.scarabref02_two.f, Wd.scarabref02_two.j0, Wd.scarabref02_two.j1, Wd.scarabref02_two.j2, Int.reduceEq, Int.reduceBEq, Bool.false_eq_true, if_true, if_false] at h
  rw [if_neg c.1, if_neg c.2] at h
  obtain rfl := Option.some.inj h
  clear h
  have d1 : (b == 0) = false := by simpa using c.1
  have d2 : (b == -1) = false := by simpa using c.2
  have d3 : b ≠ 0 := c.1
  clear c
  go_enter Tryd.func72, Tryd.ntmps72
  refine opq (fun Q hQ => ?_)
  repeat (first
    | (refine wp_block ?_; refine opq (fun Q' hQ' => ?_))
    | (refine wp_seq ?_; refine opq (fun Q' hQ' => ?_))
    | (refine wp_cond_true rfl ?_)
    | (refine wp_cond_false rfl ?_)
    | (refine wp_exit ?_)
    | (refine wp_skip ?_)
    | (refine wp_ret ?_)
    | (refine opq_out (by assumption) ?_; simp only [Exit.then, Exit.inBlock, Nat.reduceEqDiff, reduceIte])
    | (refine is_region ?_; go_wp2))
  refine opq_out hQ ?_
  refine bodyPost_ret (results_tmp2 rfl _ _ _) rfl ?_
  exact ⟨rfl, rfl⟩
set_option maxHeartbeats 4000000 in
set_option maxRecDepth 100000 in
theorem rtwo_21 {a b : Int} {r : Int × Int} {q : Nat} (h : Wd.scarabref02_two.f (q + 4) 21 a b = some r) (W : World) : Calls Tryd.prog 72 #[.int .i64 21, .int .i64 a, .int .i64 b] W fun e w' => e = .returned (.tuple #[.int .i64 r.1, .int .i64 r.2]) ∧ w' = W := by
  simp only [Wd.scarabref02_two.f, Wd.scarabref02_two.j0, Wd.scarabref02_two.j1, Wd.scarabref02_two.j2, Int.reduceEq, Int.reduceBEq, Bool.false_eq_true, if_true, if_false] at h
  obtain ⟨t, ht, h⟩ := Option.bind_eq_some_iff.1 h
  obtain rfl := Option.some.inj h
  clear h
  go_enter Tryd.func72, Tryd.ntmps72
  refine opq (fun Q hQ => ?_)
  repeat (first
    | (refine wp_block ?_; refine opq (fun Q' hQ' => ?_))
    | (refine wp_seq ?_; refine opq (fun Q' hQ' => ?_))
    | (refine wp_cond_true rfl ?_)
    | (refine wp_cond_false rfl ?_)
    | (refine wp_exit ?_)
    | (refine wp_skip ?_)
    | (refine wp_ret ?_)
    | (refine opq_out (by assumption) ?_; simp only [Exit.then, Exit.inBlock, Nat.reduceEqDiff, reduceIte])
    | (refine is_region ?_; go_wp2_with (first | (go_at_call 98; ((with_reducible refine (rbits_21 ht _).mono ?_); rintro e w' ⟨rfl, rfl⟩)))))
  refine opq_out hQ ?_
  refine bodyPost_ret (results_tmp2 rfl _ _ _) rfl ?_
  exact ⟨rfl, rfl⟩
set_option maxHeartbeats 4000000 in
set_option maxRecDepth 100000 in
theorem rtwo_22 {a b : Int} {r : Int × Int} {q : Nat} (h : Wd.scarabref02_two.f (q + 4) 22 a b = some r) (W : World) : Calls Tryd.prog 72 #[.int .i64 22, .int .i64 a, .int .i64 b] W fun e w' => e = .returned (.tuple #[.int .i64 r.1, .int .i64 r.2]) ∧ w' = W := by
  simp only [Wd.scarabref02_two.f, Wd.scarabref02_two.j0, Wd.scarabref02_two.j1, Wd.scarabref02_two.j2, Int.reduceEq, Int.reduceBEq, Bool.false_eq_true, if_true, if_false] at h
  obtain ⟨t, ht, h⟩ := Option.bind_eq_some_iff.1 h
  obtain rfl := Option.some.inj h
  clear h
  go_enter Tryd.func72, Tryd.ntmps72
  refine opq (fun Q hQ => ?_)
  repeat (first
    | (refine wp_block ?_; refine opq (fun Q' hQ' => ?_))
    | (refine wp_seq ?_; refine opq (fun Q' hQ' => ?_))
    | (refine wp_cond_true rfl ?_)
    | (refine wp_cond_false rfl ?_)
    | (refine wp_exit ?_)
    | (refine wp_skip ?_)
    | (refine wp_ret ?_)
    | (refine opq_out (by assumption) ?_; simp only [Exit.then, Exit.inBlock, Nat.reduceEqDiff, reduceIte])
    | (refine is_region ?_; go_wp2_with (first | (go_at_call 98; ((with_reducible refine (rbits_22 ht _).mono ?_); rintro e w' ⟨rfl, rfl⟩)))))
  refine opq_out hQ ?_
  refine bodyPost_ret (results_tmp2 rfl _ _ _) rfl ?_
  exact ⟨rfl, rfl⟩
set_option maxHeartbeats 4000000 in
set_option maxRecDepth 100000 in
theorem rtwo_23 {a b : Int} {r : Int × Int} {q : Nat} (h : Wd.scarabref02_two.f (q + 4) 23 a b = some r) (W : World) : Calls Tryd.prog 72 #[.int .i64 23, .int .i64 a, .int .i64 b] W fun e w' => e = .returned (.tuple #[.int .i64 r.1, .int .i64 r.2]) ∧ w' = W := by
  simp only [Wd.scarabref02_two.f, Wd.scarabref02_two.j0, Wd.scarabref02_two.j1, Wd.scarabref02_two.j2, Int.reduceEq, Int.reduceBEq, Bool.false_eq_true, if_true, if_false] at h
  obtain ⟨t, ht, h⟩ := Option.bind_eq_some_iff.1 h
  obtain rfl := Option.some.inj h
  clear h
  go_enter Tryd.func72, Tryd.ntmps72
  refine opq (fun Q hQ => ?_)
  repeat (first
    | (refine wp_block ?_; refine opq (fun Q' hQ' => ?_))
    | (refine wp_seq ?_; refine opq (fun Q' hQ' => ?_))
    | (refine wp_cond_true rfl ?_)
    | (refine wp_cond_false rfl ?_)
    | (refine wp_exit ?_)
    | (refine wp_skip ?_)
    | (refine wp_ret ?_)
    | (refine opq_out (by assumption) ?_; simp only [Exit.then, Exit.inBlock, Nat.reduceEqDiff, reduceIte])
    | (refine is_region ?_; go_wp2_with (first | (go_at_call 98; ((with_reducible refine (rbits_23 ht _).mono ?_); rintro e w' ⟨rfl, rfl⟩)))))
  refine opq_out hQ ?_
  refine bodyPost_ret (results_tmp2 rfl _ _ _) rfl ?_
  exact ⟨rfl, rfl⟩
set_option maxHeartbeats 4000000 in
set_option maxRecDepth 100000 in
theorem rtwo_24 {a b : Int} {r : Int × Int} {q : Nat} (h : Wd.scarabref02_two.f (q + 4) 24 a b = some r) (W : World) : Calls Tryd.prog 72 #[.int .i64 24, .int .i64 a, .int .i64 b] W fun e w' => e = .returned (.tuple #[.int .i64 r.1, .int .i64 r.2]) ∧ w' = W := by
  simp only [Wd.scarabref02_two.f, Wd.scarabref02_two.j0, Wd.scarabref02_two.j1, Wd.scarabref02_two.j2, Int.reduceEq, Int.reduceBEq, Bool.false_eq_true, if_true, if_false] at h
  obtain ⟨t, ht, h⟩ := Option.bind_eq_some_iff.1 h
  obtain rfl := Option.some.inj h
  clear h
  go_enter Tryd.func72, Tryd.ntmps72
  refine opq (fun Q hQ => ?_)
  repeat (first
    | (refine wp_block ?_; refine opq (fun Q' hQ' => ?_))
    | (refine wp_seq ?_; refine opq (fun Q' hQ' => ?_))
    | (refine wp_cond_true rfl ?_)
    | (refine wp_cond_false rfl ?_)
    | (refine wp_exit ?_)
    | (refine wp_skip ?_)
    | (refine wp_ret ?_)
    | (refine opq_out (by assumption) ?_; simp only [Exit.then, Exit.inBlock, Nat.reduceEqDiff, reduceIte])
    | (refine is_region ?_; go_wp2_with (first | (go_at_call 98; ((with_reducible refine (rbits_24 ht _).mono ?_); rintro e w' ⟨rfl, rfl⟩)))))
  refine opq_out hQ ?_
  refine bodyPost_ret (results_tmp2 rfl _ _ _) rfl ?_
  exact ⟨rfl, rfl⟩
set_option maxHeartbeats 4000000 in
set_option maxRecDepth 100000 in
theorem rtwo_25a {a b : Int} {r : Int × Int} {q : Nat} (c : b < 0) (h : Wd.scarabref02_two.f (q + 4) 25 a b = some r) (W : World) : Calls Tryd.prog 72 #[.int .i64 25, .int .i64 a, .int .i64 b] W fun e w' => e = .returned (.tuple #[.int .i64 r.1, .int .i64 r.2]) ∧ w' = W := by
  simp only [Wd.scarabref02_two.f, Wd.scarabref02_two.j0, Wd.scarabref02_two.j1, Wd.scarabref02_two.j2, Int.reduceEq, Int.reduceBEq, Bool.false_eq_true, if_true, if_false] at h
  rw [if_pos c] at h
  obtain rfl := Option.some.inj h
  clear h
  have d : decide (b < 0) = true := by simpa using c
  clear c
  go_enter Tryd.func72, Tryd.ntmps72
  refine opq (fun Q hQ => ?_)
  repeat (first
    | (refine wp_block ?_; refine opq (fun Q' hQ' => ?_))
    | (refine wp_seq ?_; refine opq (fun Q' hQ' => ?_))
    | (refine wp_cond_true rfl ?_)
    | (refine wp_cond_false rfl ?_)
    | (refine wp_exit ?_)
    | (refine wp_skip ?_)
    | (refine wp_ret ?_)
    | (refine opq_out (by assumption) ?_; simp only [Exit.then, Exit.inBlock, Nat.reduceEqDiff, reduceIte])
    | (refine is_region ?_; go_wp2))
  refine opq_out hQ ?_
  refine bodyPost_ret (results_tmp2 rfl _ _ _) rfl ?_
  exact ⟨rfl, rfl⟩
set_option maxHeartbeats 4000000 in
set_option maxRecDepth 100000 in
theorem rtwo_25b {a b : Int} {r : Int × Int} {q : Nat} (c : ¬ b < 0) (h : Wd.scarabref02_two.f (q + 4) 25 a b = some r) (W : World) : Calls Tryd.prog 72 #[.int .i64 25, .int .i64 a, .int .i64 b] W fun e w' => e = .returned (.tuple #[.int .i64 r.1, .int .i64 r.2]) ∧ w' = W := by
  simp only [Wd.scarabref02_two.f, Wd.scarabref02_two.j0, Wd.scarabref02_two.j1, Wd.scarabref02_two.j2, Int.reduceEq, Int.reduceBEq, Bool.false_eq_true, if_true, if_false] at h
  rw [if_neg c] at h
  have d : decide (b < 0) = false := by simpa using c
  clear c
  obtain ⟨t, ht, h⟩ := Option.bind_eq_some_iff.1 h
  obtain ⟨z, hz, h⟩ := Option.bind_eq_some_iff.1 h
  obtain rfl := Option.some.inj h
  clear h
  go_enter Tryd.func72, Tryd.ntmps72
  refine opq (fun Q hQ => ?_)
  repeat (first
    | (refine wp_block ?_; refine opq (fun Q' hQ' => ?_))
    | (refine wp_seq ?_; refine opq (fun Q' hQ' => ?_))
    | (refine wp_cond_true rfl ?_)
    | (refine wp_cond_false rfl ?_)
    | (refine wp_exit ?_)
    | (refine wp_skip ?_)
    | (refine wp_ret ?_)
    | (refine opq_out (by assumption) ?_; simp only [Exit.then, Exit.inBlock, Nat.reduceEqDiff, reduceIte])
    | (refine is_region ?_; go_wp2_with (first | (go_at_call 100; ((with_reducible refine (few_walk ht _).mono ?_); rintro e w' ⟨rfl, rfl⟩)) | (go_at_call 99; ((with_reducible refine (shd_walk hz _).mono ?_); rintro e w' ⟨rfl, rfl⟩)))))
  refine opq_out hQ ?_
  refine bodyPost_ret (results_tmp2 rfl _ _ _) rfl ?_
  exact ⟨rfl, rfl⟩
set_option maxHeartbeats 4000000 in
set_option maxRecDepth 100000 in
theorem rtwo_26a {a b : Int} {r : Int × Int} {q : Nat} (c : b < 0) (h : Wd.scarabref02_two.f (q + 4) 26 a b = some r) (W : World) : Calls Tryd.prog 72 #[.int .i64 26, .int .i64 a, .int .i64 b] W fun e w' => e = .returned (.tuple #[.int .i64 r.1, .int .i64 r.2]) ∧ w' = W := by
  simp only [Wd.scarabref02_two.f, Wd.scarabref02_two.j0, Wd.scarabref02_two.j1, Wd.scarabref02_two.j2, Int.reduceEq, Int.reduceBEq, Bool.false_eq_true, if_true, if_false] at h
  rw [if_pos c] at h
  obtain rfl := Option.some.inj h
  clear h
  have d : decide (b < 0) = true := by simpa using c
  clear c
  go_enter Tryd.func72, Tryd.ntmps72
  refine opq (fun Q hQ => ?_)
  repeat (first
    | (refine wp_block ?_; refine opq (fun Q' hQ' => ?_))
    | (refine wp_seq ?_; refine opq (fun Q' hQ' => ?_))
    | (refine wp_cond_true rfl ?_)
    | (refine wp_cond_false rfl ?_)
    | (refine wp_exit ?_)
    | (refine wp_skip ?_)
    | (refine wp_ret ?_)
    | (refine opq_out (by assumption) ?_; simp only [Exit.then, Exit.inBlock, Nat.reduceEqDiff, reduceIte])
    | (refine is_region ?_; go_wp2))
  refine opq_out hQ ?_
  refine bodyPost_ret (results_tmp2 rfl _ _ _) rfl ?_
  exact ⟨rfl, rfl⟩
set_option maxHeartbeats 4000000 in
set_option maxRecDepth 100000 in
theorem rtwo_26b {a b : Int} {r : Int × Int} {q : Nat} (c : ¬ b < 0) (h : Wd.scarabref02_two.f (q + 4) 26 a b = some r) (W : World) : Calls Tryd.prog 72 #[.int .i64 26, .int .i64 a, .int .i64 b] W fun e w' => e = .returned (.tuple #[.int .i64 r.1, .int .i64 r.2]) ∧ w' = W := by
  simp only [Wd.scarabref02_two.f, Wd.scarabref02_two.j0, Wd.scarabref02_two.j1, Wd.scarabref02_two.j2, Int.reduceEq, Int.reduceBEq, Bool.false_eq_true, if_true, if_false] at h
  rw [if_neg c] at h
  have d : decide (b < 0) = false := by simpa using c
  clear c
  obtain ⟨t, ht, h⟩ := Option.bind_eq_some_iff.1 h
  obtain ⟨y, hy, h⟩ := Option.bind_eq_some_iff.1 h
  obtain ⟨z, hz, h⟩ := Option.bind_eq_some_iff.1 h
  obtain rfl := Option.some.inj h
  clear h
  go_enter Tryd.func72, Tryd.ntmps72
  refine opq (fun Q hQ => ?_)
  repeat (first
    | (refine wp_block ?_; refine opq (fun Q' hQ' => ?_))
    | (refine wp_seq ?_; refine opq (fun Q' hQ' => ?_))
    | (refine wp_cond_true rfl ?_)
    | (refine wp_cond_false rfl ?_)
    | (refine wp_exit ?_)
    | (refine wp_skip ?_)
    | (refine wp_ret ?_)
    | (refine opq_out (by assumption) ?_; simp only [Exit.then, Exit.inBlock, Nat.reduceEqDiff, reduceIte])
    | (refine is_region ?_; go_wp2_with (first | (go_at_call 100; ((with_reducible refine (few_walk ht _).mono ?_); rintro e w' ⟨rfl, rfl⟩)) | (go_at_call 99; ((with_reducible refine (shd_walk hz _).mono ?_); rintro e w' ⟨rfl, rfl⟩)) | (go_at_call 93; ((with_reducible refine (bit_walk hy _).mono ?_); rintro e w' ⟨rfl, rfl⟩)))))
  refine opq_out hQ ?_
  refine bodyPost_ret (results_tmp2 rfl _ _ _) rfl ?_
  exact ⟨rfl, rfl⟩
set_option maxHeartbeats 4000000 in
set_option maxRecDepth 100000 in
theorem rtwo_27a {a b : Int} {r : Int × Int} {q : Nat} (c : b < 0) (h : Wd.scarabref02_two.f (q + 4) 27 a b = some r) (W : World) : Calls Tryd.prog 72 #[.int .i64 27, .int .i64 a, .int .i64 b] W fun e w' => e = .returned (.tuple #[.int .i64 r.1, .int .i64 r.2]) ∧ w' = W := by
  simp only [Wd.scarabref02_two.f, Wd.scarabref02_two.j0, Wd.scarabref02_two.j1, Wd.scarabref02_two.j2, Int.reduceEq, Int.reduceBEq, Bool.false_eq_true, if_true, if_false] at h
  rw [if_pos c] at h
  obtain rfl := Option.some.inj h
  clear h
  have d : decide (b < 0) = true := by simpa using c
  clear c
  go_enter Tryd.func72, Tryd.ntmps72
  refine opq (fun Q hQ => ?_)
  repeat (first
    | (refine wp_block ?_; refine opq (fun Q' hQ' => ?_))
    | (refine wp_seq ?_; refine opq (fun Q' hQ' => ?_))
    | (refine wp_cond_true rfl ?_)
    | (refine wp_cond_false rfl ?_)
    | (refine wp_exit ?_)
    | (refine wp_skip ?_)
    | (refine wp_ret ?_)
    | (refine opq_out (by assumption) ?_; simp only [Exit.then, Exit.inBlock, Nat.reduceEqDiff, reduceIte])
    | (refine is_region ?_; go_wp2))
  refine opq_out hQ ?_
  refine bodyPost_ret (results_tmp2 rfl _ _ _) rfl ?_
  exact ⟨rfl, rfl⟩
set_option maxHeartbeats 4000000 in
set_option maxRecDepth 100000 in
theorem rtwo_27b {a b : Int} {r : Int × Int} {q : Nat} (c : ¬ b < 0) (h : Wd.scarabref02_two.f (q + 4) 27 a b = some r) (W : World) : Calls Tryd.prog 72 #[.int .i64 27, .int .i64 a, .int .i64 b] W fun e w' => e = .returned (.tuple #[.int .i64 r.1, .int .i64 r.2]) ∧ w' = W := by
  simp only [Wd.scarabref02_two.f, Wd.scarabref02_two.j0, Wd.scarabref02_two.j1, Wd.scarabref02_two.j2, Int.reduceEq, Int.reduceBEq, Bool.false_eq_true, if_true, if_false] at h
  rw [if_neg c] at h
  have d : decide (b < 0) = false := by simpa using c
  clear c
  obtain ⟨t, ht, h⟩ := Option.bind_eq_some_iff.1 h
  obtain ⟨z, hz, h⟩ := Option.bind_eq_some_iff.1 h
  obtain rfl := Option.some.inj h
  clear h
  go_enter Tryd.func72, Tryd.ntmps72
  refine opq (fun Q hQ => ?_)
  repeat (first
    | (refine wp_block ?_; refine opq (fun Q' hQ' => ?_))
    | (refine wp_seq ?_; refine opq (fun Q' hQ' => ?_))
    | (refine wp_cond_true rfl ?_)
    | (refine wp_cond_false rfl ?_)
    | (refine wp_exit ?_)
    | (refine wp_skip ?_)
    | (refine wp_ret ?_)
    | (refine opq_out (by assumption) ?_; simp only [Exit.then, Exit.inBlock, Nat.reduceEqDiff, reduceIte])
    | (refine is_region ?_; go_wp2_with (first | (go_at_call 100; ((with_reducible refine (few_walk ht _).mono ?_); rintro e w' ⟨rfl, rfl⟩)) | (go_at_call 99; ((with_reducible refine (shd_walk hz _).mono ?_); rintro e w' ⟨rfl, rfl⟩)))))
  refine opq_out hQ ?_
  refine bodyPost_ret (results_tmp2 rfl _ _ _) rfl ?_
  exact ⟨rfl, rfl⟩
set_option maxHeartbeats 4000000 in
set_option maxRecDepth 100000 in
theorem rtwo_28 {a b : Int} {r : Int × Int} {q : Nat} (h : Wd.scarabref02_two.f (q + 4) 28 a b = some r) (W : World) : Calls Tryd.prog 72 #[.int .i64 28, .int .i64 a, .int .i64 b] W fun e w' => e = .returned (.tuple #[.int .i64 r.1, .int .i64 r.2]) ∧ w' = W := by
  simp only [Wd.scarabref02_two.f, Wd.scarabref02_two.j0, Wd.scarabref02_two.j1, Wd.scarabref02_two.j2, Int.reduceEq, Int.reduceBEq, Bool.false_eq_true, if_true, if_false] at h
  go_enter Tryd.func72, Tryd.ntmps72
  refine opq (fun Q hQ => ?_)
  repeat (first
    | (refine wp_block ?_; refine opq (fun Q' hQ' => ?_))
    | (refine wp_seq ?_; refine opq (fun Q' hQ' => ?_))
    | (refine wp_cond_true rfl ?_)
    | (refine wp_cond_false rfl ?_)
    | (refine wp_exit ?_)
    | (refine wp_skip ?_)
    | (refine wp_ret ?_)
    | (refine opq_out (by assumption) ?_; simp only [Exit.then, Exit.inBlock, Nat.reduceEqDiff, reduceIte])
    | (refine is_region ?_; go_wp2))
  go_loopw [10, 11] (fun x i wr => ∃ (p : Nat) (u j : Int), x = .int .i64 u ∧ i = .int .i64 j ∧ 0 ≤ j ∧ j ≤ 64 ∧ Wd.scarabref02_two.l0 p a b u j = some r ∧ wr = W) (fun _ i _ => 64 - (intOf i).toNat)
  case atStart => exact ⟨_, 0, 0, rfl, rfl, by omega, by omega, h, rfl⟩
  case round =>
    obtain ⟨p, u, j, rfl, rfl, hj0, hj1, hl, rfl⟩ := hrel
    cases p with
    | zero => simp [Wd.scarabref02_two.l0] at hl
    | succ p =>
      unfold Wd.scarabref02_two.l0 at hl
      by_cases c : j < 64
      · rw [if_pos c] at hl
        have d : decide (j < 64) = true := by simpa using c
        rw [show wrap64 (j + 1) = j + 1 by unfold wrap64; omega] at hl
        obtain ⟨t, ht, hl⟩ := Option.bind_eq_some_iff.1 hl
        obtain ⟨t', ht', hl⟩ := Option.bind_eq_some_iff.1 hl
        go_wp2_with (first | (go_at_call 93; ((with_reducible refine (bit_walk ht _).mono ?_); rintro e w' ⟨rfl, rfl⟩)) | (go_at_call 94; ((with_reducible refine (put_walk ht' _).mono ?_); rintro e w' ⟨rfl, rfl⟩)))
        go_roundw
        case rel => exact ⟨p, t', j + 1, rfl, by first | rfl | go_num, by omega, by omega, hl, trivial⟩
        case measure => simp [intOf]; omega
      · rw [if_neg c] at hl
        obtain rfl := Option.some.inj hl
        have d : decide (j < 64) = false := by simpa using c
        clear c hl
        go_wp2
        repeat (first
          | (refine wp_block ?_; refine opq (fun Q' hQ' => ?_))
          | (refine wp_seq ?_; refine opq (fun Q' hQ' => ?_))
          | (refine wp_cond_true rfl ?_)
          | (refine wp_cond_false rfl ?_)
          | (refine wp_exit ?_)
          | (refine wp_skip ?_)
          | (refine wp_ret ?_)
          | (refine opq_out (by assumption) ?_; simp only [Exit.then, Exit.inBlock, Nat.reduceEqDiff, reduceIte])
          | (refine is_region ?_; go_wp2))
        refine opq_out hQ ?_
        refine bodyPost_ret (results_tmp2 rfl _ _ _) rfl ?_
        exact ⟨rfl, rfl⟩
set_option maxHeartbeats 4000000 in
set_option maxRecDepth 100000 in
theorem rtwo_29 {a b : Int} {r : Int × Int} {q : Nat} (h : Wd.scarabref02_two.f (q + 4) 29 a b = some r) (W : World) : Calls Tryd.prog 72 #[.int .i64 29, .int .i64 a, .int .i64 b] W fun e w' => e = .returned (.tuple #[.int .i64 r.1, .int .i64 r.2]) ∧ w' = W := by
  simp only [Wd.scarabref02_two.f, Wd.scarabref02_two.j0, Wd.scarabref02_two.j1, Wd.scarabref02_two.j2, Int.reduceEq, Int.reduceBEq, Bool.false_eq_true, if_true, if_false] at h
  obtain ⟨t, ht, h⟩ := Option.bind_eq_some_iff.1 h
  obtain rfl := Option.some.inj h
  clear h
  go_enter Tryd.func72, Tryd.ntmps72
  refine opq (fun Q hQ => ?_)
  repeat (first
    | (refine wp_block ?_; refine opq (fun Q' hQ' => ?_))
    | (refine wp_seq ?_; refine opq (fun Q' hQ' => ?_))
    | (refine wp_cond_true rfl ?_)
    | (refine wp_cond_false rfl ?_)
    | (refine wp_exit ?_)
    | (refine wp_skip ?_)
    | (refine wp_ret ?_)
    | (refine opq_out (by assumption) ?_; simp only [Exit.then, Exit.inBlock, Nat.reduceEqDiff, reduceIte])
    | (refine is_region ?_; go_wp2_with (first | (go_at_call 101; ((with_reducible refine (held_29 ht _).mono ?_); rintro e w' ⟨rfl, rfl⟩)))))
  refine opq_out hQ ?_
  refine bodyPost_ret (results_tmp2 rfl _ _ _) rfl ?_
  exact ⟨rfl, rfl⟩
set_option maxHeartbeats 4000000 in
set_option maxRecDepth 100000 in
theorem rtwo_30 {a b : Int} {r : Int × Int} {q : Nat} (h : Wd.scarabref02_two.f (q + 4) 30 a b = some r) (W : World) : Calls Tryd.prog 72 #[.int .i64 30, .int .i64 a, .int .i64 b] W fun e w' => e = .returned (.tuple #[.int .i64 r.1, .int .i64 r.2]) ∧ w' = W := by
  simp only [Wd.scarabref02_two.f, Wd.scarabref02_two.j0, Wd.scarabref02_two.j1, Wd.scarabref02_two.j2, Int.reduceEq, Int.reduceBEq, Bool.false_eq_true, if_true, if_false] at h
  obtain ⟨t, ht, h⟩ := Option.bind_eq_some_iff.1 h
  obtain rfl := Option.some.inj h
  clear h
  go_enter Tryd.func72, Tryd.ntmps72
  refine opq (fun Q hQ => ?_)
  repeat (first
    | (refine wp_block ?_; refine opq (fun Q' hQ' => ?_))
    | (refine wp_seq ?_; refine opq (fun Q' hQ' => ?_))
    | (refine wp_cond_true rfl ?_)
    | (refine wp_cond_false rfl ?_)
    | (refine wp_exit ?_)
    | (refine wp_skip ?_)
    | (refine wp_ret ?_)
    | (refine opq_out (by assumption) ?_; simp only [Exit.then, Exit.inBlock, Nat.reduceEqDiff, reduceIte])
    | (refine is_region ?_; go_wp2_with (first | (go_at_call 101; ((with_reducible refine (held_30 ht _).mono ?_); rintro e w' ⟨rfl, rfl⟩)))))
  refine opq_out hQ ?_
  refine bodyPost_ret (results_tmp2 rfl _ _ _) rfl ?_
  exact ⟨rfl, rfl⟩
set_option maxHeartbeats 4000000 in
set_option maxRecDepth 100000 in
theorem rtwo_31 {a b : Int} {r : Int × Int} {q : Nat} (h : Wd.scarabref02_two.f (q + 4) 31 a b = some r) (W : World) : Calls Tryd.prog 72 #[.int .i64 31, .int .i64 a, .int .i64 b] W fun e w' => e = .returned (.tuple #[.int .i64 r.1, .int .i64 r.2]) ∧ w' = W := by
  simp only [Wd.scarabref02_two.f, Wd.scarabref02_two.j0, Wd.scarabref02_two.j1, Wd.scarabref02_two.j2, Int.reduceEq, Int.reduceBEq, Bool.false_eq_true, if_true, if_false] at h
  obtain ⟨t, ht, h⟩ := Option.bind_eq_some_iff.1 h
  obtain rfl := Option.some.inj h
  clear h
  go_enter Tryd.func72, Tryd.ntmps72
  refine opq (fun Q hQ => ?_)
  repeat (first
    | (refine wp_block ?_; refine opq (fun Q' hQ' => ?_))
    | (refine wp_seq ?_; refine opq (fun Q' hQ' => ?_))
    | (refine wp_cond_true rfl ?_)
    | (refine wp_cond_false rfl ?_)
    | (refine wp_exit ?_)
    | (refine wp_skip ?_)
    | (refine wp_ret ?_)
    | (refine opq_out (by assumption) ?_; simp only [Exit.then, Exit.inBlock, Nat.reduceEqDiff, reduceIte])
    | (refine is_region ?_; go_wp2_with (first | (go_at_call 101; ((with_reducible refine (held_31 ht _).mono ?_); rintro e w' ⟨rfl, rfl⟩)))))
  refine opq_out hQ ?_
  refine bodyPost_ret (results_tmp2 rfl _ _ _) rfl ?_
  exact ⟨rfl, rfl⟩
set_option maxHeartbeats 4000000 in
set_option maxRecDepth 100000 in
theorem rtwo_32 {a b : Int} {r : Int × Int} {q : Nat} (h : Wd.scarabref02_two.f (q + 4) 32 a b = some r) (W : World) : Calls Tryd.prog 72 #[.int .i64 32, .int .i64 a, .int .i64 b] W fun e w' => e = .returned (.tuple #[.int .i64 r.1, .int .i64 r.2]) ∧ w' = W := by
  simp only [Wd.scarabref02_two.f, Wd.scarabref02_two.j0, Wd.scarabref02_two.j1, Wd.scarabref02_two.j2, Int.reduceEq, Int.reduceBEq, Bool.false_eq_true, if_true, if_false] at h
  obtain ⟨t, ht, h⟩ := Option.bind_eq_some_iff.1 h
  obtain rfl := Option.some.inj h
  clear h
  go_enter Tryd.func72, Tryd.ntmps72
  refine opq (fun Q hQ => ?_)
  repeat (first
    | (refine wp_block ?_; refine opq (fun Q' hQ' => ?_))
    | (refine wp_seq ?_; refine opq (fun Q' hQ' => ?_))
    | (refine wp_cond_true rfl ?_)
    | (refine wp_cond_false rfl ?_)
    | (refine wp_exit ?_)
    | (refine wp_skip ?_)
    | (refine wp_ret ?_)
    | (refine opq_out (by assumption) ?_; simp only [Exit.then, Exit.inBlock, Nat.reduceEqDiff, reduceIte])
    | (refine is_region ?_; go_wp2_with (first | (go_at_call 101; ((with_reducible refine (held_32 ht _).mono ?_); rintro e w' ⟨rfl, rfl⟩)))))
  refine opq_out hQ ?_
  refine bodyPost_ret (results_tmp2 rfl _ _ _) rfl ?_
  exact ⟨rfl, rfl⟩
set_option maxHeartbeats 4000000 in
set_option maxRecDepth 100000 in
theorem rtwo_33 {a b : Int} {r : Int × Int} {q : Nat} (h : Wd.scarabref02_two.f (q + 4) 33 a b = some r) (W : World) : Calls Tryd.prog 72 #[.int .i64 33, .int .i64 a, .int .i64 b] W fun e w' => e = .returned (.tuple #[.int .i64 r.1, .int .i64 r.2]) ∧ w' = W := by
  simp only [Wd.scarabref02_two.f, Wd.scarabref02_two.j0, Wd.scarabref02_two.j1, Wd.scarabref02_two.j2, Int.reduceEq, Int.reduceBEq, Bool.false_eq_true, if_true, if_false] at h
  obtain ⟨t, ht, h⟩ := Option.bind_eq_some_iff.1 h
  obtain rfl := Option.some.inj h
  clear h
  go_enter Tryd.func72, Tryd.ntmps72
  refine opq (fun Q hQ => ?_)
  repeat (first
    | (refine wp_block ?_; refine opq (fun Q' hQ' => ?_))
    | (refine wp_seq ?_; refine opq (fun Q' hQ' => ?_))
    | (refine wp_cond_true rfl ?_)
    | (refine wp_cond_false rfl ?_)
    | (refine wp_exit ?_)
    | (refine wp_skip ?_)
    | (refine wp_ret ?_)
    | (refine opq_out (by assumption) ?_; simp only [Exit.then, Exit.inBlock, Nat.reduceEqDiff, reduceIte])
    | (refine is_region ?_; go_wp2_with (first | (go_at_call 101; ((with_reducible refine (held_33 ht _).mono ?_); rintro e w' ⟨rfl, rfl⟩)))))
  refine opq_out hQ ?_
  refine bodyPost_ret (results_tmp2 rfl _ _ _) rfl ?_
  exact ⟨rfl, rfl⟩
set_option maxHeartbeats 4000000 in
set_option maxRecDepth 100000 in
theorem rtwo_34 {a b : Int} {r : Int × Int} {q : Nat} (h : Wd.scarabref02_two.f (q + 4) 34 a b = some r) (W : World) : Calls Tryd.prog 72 #[.int .i64 34, .int .i64 a, .int .i64 b] W fun e w' => e = .returned (.tuple #[.int .i64 r.1, .int .i64 r.2]) ∧ w' = W := by
  simp only [Wd.scarabref02_two.f, Wd.scarabref02_two.j0, Wd.scarabref02_two.j1, Wd.scarabref02_two.j2, Int.reduceEq, Int.reduceBEq, Bool.false_eq_true, if_true, if_false] at h
  obtain ⟨t, ht, h⟩ := Option.bind_eq_some_iff.1 h
  obtain rfl := Option.some.inj h
  clear h
  go_enter Tryd.func72, Tryd.ntmps72
  refine opq (fun Q hQ => ?_)
  repeat (first
    | (refine wp_block ?_; refine opq (fun Q' hQ' => ?_))
    | (refine wp_seq ?_; refine opq (fun Q' hQ' => ?_))
    | (refine wp_cond_true rfl ?_)
    | (refine wp_cond_false rfl ?_)
    | (refine wp_exit ?_)
    | (refine wp_skip ?_)
    | (refine wp_ret ?_)
    | (refine opq_out (by assumption) ?_; simp only [Exit.then, Exit.inBlock, Nat.reduceEqDiff, reduceIte])
    | (refine is_region ?_; go_wp2_with (first | (go_at_call 101; ((with_reducible refine (held_34 ht _).mono ?_); rintro e w' ⟨rfl, rfl⟩)))))
  refine opq_out hQ ?_
  refine bodyPost_ret (results_tmp2 rfl _ _ _) rfl ?_
  exact ⟨rfl, rfl⟩
set_option maxHeartbeats 4000000 in
set_option maxRecDepth 100000 in
theorem rtwo_35 {a b : Int} {r : Int × Int} {q : Nat} (h : Wd.scarabref02_two.f (q + 4) 35 a b = some r) (W : World) : Calls Tryd.prog 72 #[.int .i64 35, .int .i64 a, .int .i64 b] W fun e w' => e = .returned (.tuple #[.int .i64 r.1, .int .i64 r.2]) ∧ w' = W := by
  simp only [Wd.scarabref02_two.f, Wd.scarabref02_two.j0, Wd.scarabref02_two.j1, Wd.scarabref02_two.j2, Int.reduceEq, Int.reduceBEq, Bool.false_eq_true, if_true, if_false] at h
  obtain ⟨t, ht, h⟩ := Option.bind_eq_some_iff.1 h
  obtain rfl := Option.some.inj h
  clear h
  go_enter Tryd.func72, Tryd.ntmps72
  refine opq (fun Q hQ => ?_)
  repeat (first
    | (refine wp_block ?_; refine opq (fun Q' hQ' => ?_))
    | (refine wp_seq ?_; refine opq (fun Q' hQ' => ?_))
    | (refine wp_cond_true rfl ?_)
    | (refine wp_cond_false rfl ?_)
    | (refine wp_exit ?_)
    | (refine wp_skip ?_)
    | (refine wp_ret ?_)
    | (refine opq_out (by assumption) ?_; simp only [Exit.then, Exit.inBlock, Nat.reduceEqDiff, reduceIte])
    | (refine is_region ?_; go_wp2_with (first | (go_at_call 101; ((with_reducible refine (held_35 ht _).mono ?_); rintro e w' ⟨rfl, rfl⟩)))))
  refine opq_out hQ ?_
  refine bodyPost_ret (results_tmp2 rfl _ _ _) rfl ?_
  exact ⟨rfl, rfl⟩
set_option maxHeartbeats 4000000 in
set_option maxRecDepth 100000 in
theorem rtwo_36 {a b : Int} {r : Int × Int} {q : Nat} (h : Wd.scarabref02_two.f (q + 4) 36 a b = some r) (W : World) : Calls Tryd.prog 72 #[.int .i64 36, .int .i64 a, .int .i64 b] W fun e w' => e = .returned (.tuple #[.int .i64 r.1, .int .i64 r.2]) ∧ w' = W := by
  simp only [Wd.scarabref02_two.f, Wd.scarabref02_two.j0, Wd.scarabref02_two.j1, Wd.scarabref02_two.j2, Int.reduceEq, Int.reduceBEq, Bool.false_eq_true, if_true, if_false] at h
  obtain ⟨t, ht, h⟩ := Option.bind_eq_some_iff.1 h
  obtain rfl := Option.some.inj h
  clear h
  go_enter Tryd.func72, Tryd.ntmps72
  refine opq (fun Q hQ => ?_)
  repeat (first
    | (refine wp_block ?_; refine opq (fun Q' hQ' => ?_))
    | (refine wp_seq ?_; refine opq (fun Q' hQ' => ?_))
    | (refine wp_cond_true rfl ?_)
    | (refine wp_cond_false rfl ?_)
    | (refine wp_exit ?_)
    | (refine wp_skip ?_)
    | (refine wp_ret ?_)
    | (refine opq_out (by assumption) ?_; simp only [Exit.then, Exit.inBlock, Nat.reduceEqDiff, reduceIte])
    | (refine is_region ?_; go_wp2_with (first | (go_at_call 101; ((with_reducible refine (held_36 ht _).mono ?_); rintro e w' ⟨rfl, rfl⟩)))))
  refine opq_out hQ ?_
  refine bodyPost_ret (results_tmp2 rfl _ _ _) rfl ?_
  exact ⟨rfl, rfl⟩
theorem rtwo_walk {k a b : Int} {r : Int × Int} {q : Nat} (h1 : 16 ≤ k) (h2 : k ≤ 36) (h : Wd.scarabref02_two.f (q + 4) k a b = some r) (W : World) : Calls Tryd.prog 72 #[.int .i64 k, .int .i64 a, .int .i64 b] W fun e w' => e = .returned (.tuple #[.int .i64 r.1, .int .i64 r.2]) ∧ w' = W := by
  obtain rfl | rfl | rfl | rfl | rfl | rfl | rfl | rfl | rfl | rfl | rfl | rfl | rfl | rfl | rfl | rfl | rfl | rfl | rfl | rfl | rfl : k = 16 ∨ k = 17 ∨ k = 18 ∨ k = 19 ∨ k = 20 ∨ k = 21 ∨ k = 22 ∨ k = 23 ∨ k = 24 ∨ k = 25 ∨ k = 26 ∨ k = 27 ∨ k = 28 ∨ k = 29 ∨ k = 30 ∨ k = 31 ∨ k = 32 ∨ k = 33 ∨ k = 34 ∨ k = 35 ∨ k = 36 := by omega
  · exact rtwo_16 h W
  · exact rtwo_17 h W
  · exact rtwo_18 h W
  · by_cases c : b = 0
    · exact rtwo_19a c h W
    by_cases c' : b = -1
    · exact rtwo_19b c' h W
    · exact rtwo_19c ⟨c, c'⟩ h W
  · by_cases c : b = 0
    · exact rtwo_20a c h W
    by_cases c' : b = -1
    · exact rtwo_20b c' h W
    · exact rtwo_20c ⟨c, c'⟩ h W
  · exact rtwo_21 h W
  · exact rtwo_22 h W
  · exact rtwo_23 h W
  · exact rtwo_24 h W
  · by_cases c : b < 0
    · exact rtwo_25a c h W
    · exact rtwo_25b c h W
  · by_cases c : b < 0
    · exact rtwo_26a c h W
    · exact rtwo_26b c h W
  · by_cases c : b < 0
    · exact rtwo_27a c h W
    · exact rtwo_27b c h W
  · exact rtwo_28 h W
  · exact rtwo_29 h W
  · exact rtwo_30 h W
  · exact rtwo_31 h W
  · exact rtwo_32 h W
  · exact rtwo_33 h W
  · exact rtwo_34 h W
  · exact rtwo_35 h W
  · exact rtwo_36 h W
end Go.Proofs.YtbcdeanmjhcgeaaDoor.Alu
