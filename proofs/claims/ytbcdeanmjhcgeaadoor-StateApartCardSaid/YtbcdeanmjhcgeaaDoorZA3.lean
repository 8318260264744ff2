/- word.two, word.divided, word.shifted: of each operation of two numbers there is a value, an int. No condition. -/
import Derived.Test.YtbcdeanmjhcgeaaDoorZi
namespace Go.Proofs.YtbcdeanmjhcgeaaDoor.Alu
set_option linter.unusedVariables false
set_option linter.unusedSimpArgs false
open Go.RowKit
set_option linter.unusedVariables false
set_option linter.unusedSimpArgs false
theorem i6_tmod (a : Int) {b : Int} (h : I6 b) (h0 : b ≠ 0) : I6 (a.tmod b) := by
  have h1 := Int.natAbs_tmod a b
  have h2 : a.natAbs % b.natAbs < b.natAbs := Nat.mod_lt _ (by omega)
  unfold I6 at *
  omega
set_option maxHeartbeats 4000000 in
set_option maxRecDepth 100000 in
theorem two_16 (a b : Int) (h : I6 a) (h' : I6 b) : ∃ x, (∀ W, Calls Tryd.prog 92 #[.int .i64 16, .int .i64 a, .int .i64 b] W fun e w' => e = .returned (.int .i64 x) ∧ w' = W) ∧ I6 x := by
  apply Exists.intro
  refine ⟨fun W => ?_, ?_⟩
  · go_enter Tryd.func92, Tryd.ntmps92
    refine opq (fun Q hQ => ?_)
    repeat (first
      | (refine wp_block ?_; refine opq (fun Q' hQ' => ?_))
      | (refine wp_seq ?_; refine opq (fun Q' hQ' => ?_))
      | (refine wp_cond_true rfl ?_)
      | (refine wp_cond_false rfl ?_)
      | (refine wp_exit ?_)
      | (refine wp_skip ?_)
      | (refine wp_ret ?_)
      | (refine opq_out (by assumption) ?_; simp only [Exit.then, Exit.inBlock, Nat.reduceEqDiff, reduceIte])
      | (refine is_region ?_; go_wp2))
    refine opq_out hQ ?_
    refine bodyPost_ret (results_tmp rfl _ _ _) rfl ?_
    exact ⟨rfl, rfl⟩
  · first | exact i6_wrap _ | exact i6_bits _ _ _ | exact i6_kw _ | exact i6_shl _ _ | exact i6_shr _ h | exact i6_tmod _ h' (by assumption) | (unfold I6 at *; split <;> omega) | (unfold I6 at *; omega)
set_option maxHeartbeats 4000000 in
set_option maxRecDepth 100000 in
theorem two_17 (a b : Int) (h : I6 a) (h' : I6 b) : ∃ x, (∀ W, Calls Tryd.prog 92 #[.int .i64 17, .int .i64 a, .int .i64 b] W fun e w' => e = .returned (.int .i64 x) ∧ w' = W) ∧ I6 x := by
  apply Exists.intro
  refine ⟨fun W => ?_, ?_⟩
  · go_enter Tryd.func92, Tryd.ntmps92
    refine opq (fun Q hQ => ?_)
    repeat (first
      | (refine wp_block ?_; refine opq (fun Q' hQ' => ?_))
      | (refine wp_seq ?_; refine opq (fun Q' hQ' => ?_))
      | (refine wp_cond_true rfl ?_)
      | (refine wp_cond_false rfl ?_)
      | (refine wp_exit ?_)
      | (refine wp_skip ?_)
      | (refine wp_ret ?_)
      | (refine opq_out (by assumption) ?_; simp only [Exit.then, Exit.inBlock, Nat.reduceEqDiff, reduceIte])
      | (refine is_region ?_; go_wp2))
    refine opq_out hQ ?_
    refine bodyPost_ret (results_tmp rfl _ _ _) rfl ?_
    exact ⟨rfl, rfl⟩
  · first | exact i6_wrap _ | exact i6_bits _ _ _ | exact i6_kw _ | exact i6_shl _ _ | exact i6_shr _ h | exact i6_tmod _ h' (by assumption) | (unfold I6 at *; split <;> omega) | (unfold I6 at *; omega)
set_option maxHeartbeats 4000000 in
set_option maxRecDepth 100000 in
theorem two_18 (a b : Int) (h : I6 a) (h' : I6 b) : ∃ x, (∀ W, Calls Tryd.prog 92 #[.int .i64 18, .int .i64 a, .int .i64 b] W fun e w' => e = .returned (.int .i64 x) ∧ w' = W) ∧ I6 x := by
  apply Exists.intro
  refine ⟨fun W => ?_, ?_⟩
  · go_enter Tryd.func92, Tryd.ntmps92
    refine opq (fun Q hQ => ?_)
    repeat (first
      | (refine wp_block ?_; refine opq (fun Q' hQ' => ?_))
      | (refine wp_seq ?_; refine opq (fun Q' hQ' => ?_))
      | (refine wp_cond_true rfl ?_)
      | (refine wp_cond_false rfl ?_)
      | (refine wp_exit ?_)
      | (refine wp_skip ?_)
      | (refine wp_ret ?_)
      | (refine opq_out (by assumption) ?_; simp only [Exit.then, Exit.inBlock, Nat.reduceEqDiff, reduceIte])
      | (refine is_region ?_; go_wp2))
    refine opq_out hQ ?_
    refine bodyPost_ret (results_tmp rfl _ _ _) rfl ?_
    exact ⟨rfl, rfl⟩
  · first | exact i6_wrap _ | exact i6_bits _ _ _ | exact i6_kw _ | exact i6_shl _ _ | exact i6_shr _ h | exact i6_tmod _ h' (by assumption) | (unfold I6 at *; split <;> omega) | (unfold I6 at *; omega)
set_option maxHeartbeats 4000000 in
set_option maxRecDepth 100000 in
theorem two_21 (a b : Int) (h : I6 a) (h' : I6 b) : ∃ x, (∀ W, Calls Tryd.prog 92 #[.int .i64 21, .int .i64 a, .int .i64 b] W fun e w' => e = .returned (.int .i64 x) ∧ w' = W) ∧ I6 x := by
  apply Exists.intro
  refine ⟨fun W => ?_, ?_⟩
  · go_enter Tryd.func92, Tryd.ntmps92
    refine opq (fun Q hQ => ?_)
    repeat (first
      | (refine wp_block ?_; refine opq (fun Q' hQ' => ?_))
      | (refine wp_seq ?_; refine opq (fun Q' hQ' => ?_))
      | (refine wp_cond_true rfl ?_)
      | (refine wp_cond_false rfl ?_)
      | (refine wp_exit ?_)
      | (refine wp_skip ?_)
      | (refine wp_ret ?_)
      | (refine opq_out (by assumption) ?_; simp only [Exit.then, Exit.inBlock, Nat.reduceEqDiff, reduceIte])
      | (refine is_region ?_; go_wp2))
    refine opq_out hQ ?_
    refine bodyPost_ret (results_tmp rfl _ _ _) rfl ?_
    exact ⟨rfl, rfl⟩
  · first | exact i6_wrap _ | exact i6_bits _ _ _ | exact i6_kw _ | exact i6_shl _ _ | exact i6_shr _ h | exact i6_tmod _ h' (by assumption) | (unfold I6 at *; split <;> omega) | (unfold I6 at *; omega)
set_option maxHeartbeats 4000000 in
set_option maxRecDepth 100000 in
theorem two_22 (a b : Int) (h : I6 a) (h' : I6 b) : ∃ x, (∀ W, Calls Tryd.prog 92 #[.int .i64 22, .int .i64 a, .int .i64 b] W fun e w' => e = .returned (.int .i64 x) ∧ w' = W) ∧ I6 x := by
  apply Exists.intro
  refine ⟨fun W => ?_, ?_⟩
  · go_enter Tryd.func92, Tryd.ntmps92
    refine opq (fun Q hQ => ?_)
    repeat (first
      | (refine wp_block ?_; refine opq (fun Q' hQ' => ?_))
      | (refine wp_seq ?_; refine opq (fun Q' hQ' => ?_))
      | (refine wp_cond_true rfl ?_)
      | (refine wp_cond_false rfl ?_)
      | (refine wp_exit ?_)
      | (refine wp_skip ?_)
      | (refine wp_ret ?_)
      | (refine opq_out (by assumption) ?_; simp only [Exit.then, Exit.inBlock, Nat.reduceEqDiff, reduceIte])
      | (refine is_region ?_; go_wp2))
    refine opq_out hQ ?_
    refine bodyPost_ret (results_tmp rfl _ _ _) rfl ?_
    exact ⟨rfl, rfl⟩
  · first | exact i6_wrap _ | exact i6_bits _ _ _ | exact i6_kw _ | exact i6_shl _ _ | exact i6_shr _ h | exact i6_tmod _ h' (by assumption) | (unfold I6 at *; split <;> omega) | (unfold I6 at *; omega)
set_option maxHeartbeats 4000000 in
set_option maxRecDepth 100000 in
theorem two_23 (a b : Int) (h : I6 a) (h' : I6 b) : ∃ x, (∀ W, Calls Tryd.prog 92 #[.int .i64 23, .int .i64 a, .int .i64 b] W fun e w' => e = .returned (.int .i64 x) ∧ w' = W) ∧ I6 x := by
  apply Exists.intro
  refine ⟨fun W => ?_, ?_⟩
  · go_enter Tryd.func92, Tryd.ntmps92
    refine opq (fun Q hQ => ?_)
    repeat (first
      | (refine wp_block ?_; refine opq (fun Q' hQ' => ?_))
      | (refine wp_seq ?_; refine opq (fun Q' hQ' => ?_))
      | (refine wp_cond_true rfl ?_)
      | (refine wp_cond_false rfl ?_)
      | (refine wp_exit ?_)
      | (refine wp_skip ?_)
      | (refine wp_ret ?_)
      | (refine opq_out (by assumption) ?_; simp only [Exit.then, Exit.inBlock, Nat.reduceEqDiff, reduceIte])
      | (refine is_region ?_; go_wp2))
    refine opq_out hQ ?_
    refine bodyPost_ret (results_tmp rfl _ _ _) rfl ?_
    exact ⟨rfl, rfl⟩
  · first | exact i6_wrap _ | exact i6_bits _ _ _ | exact i6_kw _ | exact i6_shl _ _ | exact i6_shr _ h | exact i6_tmod _ h' (by assumption) | (unfold I6 at *; split <;> omega) | (unfold I6 at *; omega)
set_option maxHeartbeats 4000000 in
set_option maxRecDepth 100000 in
theorem two_24 (a b : Int) (h : I6 a) (h' : I6 b) : ∃ x, (∀ W, Calls Tryd.prog 92 #[.int .i64 24, .int .i64 a, .int .i64 b] W fun e w' => e = .returned (.int .i64 x) ∧ w' = W) ∧ I6 x := by
  apply Exists.intro
  refine ⟨fun W => ?_, ?_⟩
  · go_enter Tryd.func92, Tryd.ntmps92
    refine opq (fun Q hQ => ?_)
    repeat (first
      | (refine wp_block ?_; refine opq (fun Q' hQ' => ?_))
      | (refine wp_seq ?_; refine opq (fun Q' hQ' => ?_))
      | (refine wp_cond_true rfl ?_)
      | (refine wp_cond_false rfl ?_)
      | (refine wp_exit ?_)
      | (refine wp_skip ?_)
      | (refine wp_ret ?_)
      | (refine opq_out (by assumption) ?_; simp only [Exit.then, Exit.inBlock, Nat.reduceEqDiff, reduceIte])
      | (refine is_region ?_; go_wp2))
    refine opq_out hQ ?_
    refine bodyPost_ret (results_tmp rfl _ _ _) rfl ?_
    exact ⟨rfl, rfl⟩
  · first | exact i6_wrap _ | exact i6_bits _ _ _ | exact i6_kw _ | exact i6_shl _ _ | exact i6_shr _ h | exact i6_tmod _ h' (by assumption) | (unfold I6 at *; split <;> omega) | (unfold I6 at *; omega)
set_option maxHeartbeats 4000000 in
set_option maxRecDepth 100000 in
theorem two_34 (a b : Int) (h : I6 a) (h' : I6 b) : ∃ x, (∀ W, Calls Tryd.prog 92 #[.int .i64 34, .int .i64 a, .int .i64 b] W fun e w' => e = .returned (.int .i64 x) ∧ w' = W) ∧ I6 x := by
  apply Exists.intro
  refine ⟨fun W => ?_, ?_⟩
  · go_enter Tryd.func92, Tryd.ntmps92
    refine opq (fun Q hQ => ?_)
    repeat (first
      | (refine wp_block ?_; refine opq (fun Q' hQ' => ?_))
      | (refine wp_seq ?_; refine opq (fun Q' hQ' => ?_))
      | (refine wp_cond_true rfl ?_)
      | (refine wp_cond_false rfl ?_)
      | (refine wp_exit ?_)
      | (refine wp_skip ?_)
      | (refine wp_ret ?_)
      | (refine opq_out (by assumption) ?_; simp only [Exit.then, Exit.inBlock, Nat.reduceEqDiff, reduceIte])
      | (refine is_region ?_; go_wp2))
    refine opq_out hQ ?_
    refine bodyPost_ret (results_tmp rfl _ _ _) rfl ?_
    exact ⟨rfl, rfl⟩
  · first | exact i6_wrap _ | exact i6_bits _ _ _ | exact i6_kw _ | exact i6_shl _ _ | exact i6_shr _ h | exact i6_tmod _ h' (by assumption) | (unfold I6 at *; split <;> omega) | (unfold I6 at *; omega)
set_option maxHeartbeats 4000000 in
set_option maxRecDepth 100000 in
theorem two_35 (a b : Int) (h : I6 a) (h' : I6 b) : ∃ x, (∀ W, Calls Tryd.prog 92 #[.int .i64 35, .int .i64 a, .int .i64 b] W fun e w' => e = .returned (.int .i64 x) ∧ w' = W) ∧ I6 x := by
  apply Exists.intro
  refine ⟨fun W => ?_, ?_⟩
  · go_enter Tryd.func92, Tryd.ntmps92
    refine opq (fun Q hQ => ?_)
    repeat (first
      | (refine wp_block ?_; refine opq (fun Q' hQ' => ?_))
      | (refine wp_seq ?_; refine opq (fun Q' hQ' => ?_))
      | (refine wp_cond_true rfl ?_)
      | (refine wp_cond_false rfl ?_)
      | (refine wp_exit ?_)
      | (refine wp_skip ?_)
      | (refine wp_ret ?_)
      | (refine opq_out (by assumption) ?_; simp only [Exit.then, Exit.inBlock, Nat.reduceEqDiff, reduceIte])
      | (refine is_region ?_; go_wp2))
    refine opq_out hQ ?_
    refine bodyPost_ret (results_tmp rfl _ _ _) rfl ?_
    exact ⟨rfl, rfl⟩
  · first | exact i6_wrap _ | exact i6_bits _ _ _ | exact i6_kw _ | exact i6_shl _ _ | exact i6_shr _ h | exact i6_tmod _ h' (by assumption) | (unfold I6 at *; split <;> omega) | (unfold I6 at *; omega)
set_option maxHeartbeats 4000000 in
set_option maxRecDepth 100000 in
theorem two_28 (a b : Int) (h : I6 a) (h' : I6 b) : ∃ x, (∀ W, Calls Tryd.prog 92 #[.int .i64 28, .int .i64 a, .int .i64 b] W fun e w' => e = .returned (.int .i64 x) ∧ w' = W) ∧ I6 x := by
  obtain ⟨x, cx, hx⟩ := rotl_ex (IntKind.u64.wrap a) (bits .and .i64 b 63) (u6_wrap a)
  apply Exists.intro
  refine ⟨fun W => ?_, ?_⟩
  · go_enter Tryd.func92, Tryd.ntmps92
    refine opq (fun Q hQ => ?_)
    repeat (first
      | (refine wp_block ?_; refine opq (fun Q' hQ' => ?_))
      | (refine wp_seq ?_; refine opq (fun Q' hQ' => ?_))
      | (refine wp_cond_true rfl ?_)
      | (refine wp_cond_false rfl ?_)
      | (refine wp_exit ?_)
      | (refine wp_skip ?_)
      | (refine wp_ret ?_)
      | (refine opq_out (by assumption) ?_; simp only [Exit.then, Exit.inBlock, Nat.reduceEqDiff, reduceIte])
      | (refine is_region ?_; go_wp2_with (first | (go_at_call 109; ((with_reducible refine (cx _).mono ?_); rintro e w' ⟨rfl, rfl⟩)))))
    refine opq_out hQ ?_
    refine bodyPost_ret (results_tmp rfl _ _ _) rfl ?_
    exact ⟨rfl, rfl⟩
  · first | exact i6_wrap _ | exact i6_bits _ _ _ | exact i6_kw _ | exact i6_shl _ _ | exact i6_shr _ h | exact i6_tmod _ h' (by assumption) | (unfold I6 at *; split <;> omega) | (unfold I6 at *; omega)
set_option maxHeartbeats 4000000 in
set_option maxRecDepth 100000 in
theorem two_29a (a b : Int) (h : I6 a) (h' : I6 b) (c : a = b) : ∃ x, (∀ W, Calls Tryd.prog 92 #[.int .i64 29, .int .i64 a, .int .i64 b] W fun e w' => e = .returned (.int .i64 x) ∧ w' = W) ∧ I6 x := by
  have d : (a == b) = true := by simpa using c
  clear c
  apply Exists.intro
  refine ⟨fun W => ?_, ?_⟩
  · go_enter Tryd.func92, Tryd.ntmps92
    refine opq (fun Q hQ => ?_)
    repeat (first
      | (refine wp_block ?_; refine opq (fun Q' hQ' => ?_))
      | (refine wp_seq ?_; refine opq (fun Q' hQ' => ?_))
      | (refine wp_cond_true rfl ?_)
      | (refine wp_cond_false rfl ?_)
      | (refine wp_exit ?_)
      | (refine wp_skip ?_)
      | (refine wp_ret ?_)
      | (refine opq_out (by assumption) ?_; simp only [Exit.then, Exit.inBlock, Nat.reduceEqDiff, reduceIte])
      | (refine is_region ?_; go_wp2_with (first | (go_at_call 108; ((with_reducible refine (yes_walk _ _).mono ?_); rintro e w' ⟨rfl, rfl⟩)))))
    refine opq_out hQ ?_
    refine bodyPost_ret (results_tmp rfl _ _ _) rfl ?_
    exact ⟨rfl, rfl⟩
  · first | exact i6_wrap _ | exact i6_bits _ _ _ | exact i6_kw _ | exact i6_shl _ _ | exact i6_shr _ h | exact i6_tmod _ h' (by assumption) | (unfold I6 at *; split <;> omega) | (unfold I6 at *; omega)
set_option maxHeartbeats 4000000 in
set_option maxRecDepth 100000 in
theorem two_29b (a b : Int) (h : I6 a) (h' : I6 b) (c : ¬ a = b) : ∃ x, (∀ W, Calls Tryd.prog 92 #[.int .i64 29, .int .i64 a, .int .i64 b] W fun e w' => e = .returned (.int .i64 x) ∧ w' = W) ∧ I6 x := by
  have d : (a == b) = false := by simpa using c
  clear c
  apply Exists.intro
  refine ⟨fun W => ?_, ?_⟩
  · go_enter Tryd.func92, Tryd.ntmps92
    refine opq (fun Q hQ => ?_)
    repeat (first
      | (refine wp_block ?_; refine opq (fun Q' hQ' => ?_))
      | (refine wp_seq ?_; refine opq (fun Q' hQ' => ?_))
      | (refine wp_cond_true rfl ?_)
      | (refine wp_cond_false rfl ?_)
      | (refine wp_exit ?_)
      | (refine wp_skip ?_)
      | (refine wp_ret ?_)
      | (refine opq_out (by assumption) ?_; simp only [Exit.then, Exit.inBlock, Nat.reduceEqDiff, reduceIte])
      | (refine is_region ?_; go_wp2_with (first | (go_at_call 108; ((with_reducible refine (yes_walk _ _).mono ?_); rintro e w' ⟨rfl, rfl⟩)))))
    refine opq_out hQ ?_
    refine bodyPost_ret (results_tmp rfl _ _ _) rfl ?_
    exact ⟨rfl, rfl⟩
  · first | exact i6_wrap _ | exact i6_bits _ _ _ | exact i6_kw _ | exact i6_shl _ _ | exact i6_shr _ h | exact i6_tmod _ h' (by assumption) | (unfold I6 at *; split <;> omega) | (unfold I6 at *; omega)
set_option maxHeartbeats 4000000 in
set_option maxRecDepth 100000 in
theorem two_31a (a b : Int) (h : I6 a) (h' : I6 b) (c : a < b) : ∃ x, (∀ W, Calls Tryd.prog 92 #[.int .i64 31, .int .i64 a, .int .i64 b] W fun e w' => e = .returned (.int .i64 x) ∧ w' = W) ∧ I6 x := by
  have d : (decide (a < b)) = true := by simpa using c
  clear c
  apply Exists.intro
  refine ⟨fun W => ?_, ?_⟩
  · go_enter Tryd.func92, Tryd.ntmps92
    refine opq (fun Q hQ => ?_)
    repeat (first
      | (refine wp_block ?_; refine opq (fun Q' hQ' => ?_))
      | (refine wp_seq ?_; refine opq (fun Q' hQ' => ?_))
      | (refine wp_cond_true rfl ?_)
      | (refine wp_cond_false rfl ?_)
      | (refine wp_exit ?_)
      | (refine wp_skip ?_)
      | (refine wp_ret ?_)
      | (refine opq_out (by assumption) ?_; simp only [Exit.then, Exit.inBlock, Nat.reduceEqDiff, reduceIte])
      | (refine is_region ?_; go_wp2_with (first | (go_at_call 108; ((with_reducible refine (yes_walk _ _).mono ?_); rintro e w' ⟨rfl, rfl⟩)))))
    refine opq_out hQ ?_
    refine bodyPost_ret (results_tmp rfl _ _ _) rfl ?_
    exact ⟨rfl, rfl⟩
  · first | exact i6_wrap _ | exact i6_bits _ _ _ | exact i6_kw _ | exact i6_shl _ _ | exact i6_shr _ h | exact i6_tmod _ h' (by assumption) | (unfold I6 at *; split <;> omega) | (unfold I6 at *; omega)
set_option maxHeartbeats 4000000 in
set_option maxRecDepth 100000 in
theorem two_31b (a b : Int) (h : I6 a) (h' : I6 b) (c : ¬ a < b) : ∃ x, (∀ W, Calls Tryd.prog 92 #[.int .i64 31, .int .i64 a, .int .i64 b] W fun e w' => e = .returned (.int .i64 x) ∧ w' = W) ∧ I6 x := by
  have d : (decide (a < b)) = false := by simpa using c
  clear c
  apply Exists.intro
  refine ⟨fun W => ?_, ?_⟩
  · go_enter Tryd.func92, Tryd.ntmps92
    refine opq (fun Q hQ => ?_)
    repeat (first
      | (refine wp_block ?_; refine opq (fun Q' hQ' => ?_))
      | (refine wp_seq ?_; refine opq (fun Q' hQ' => ?_))
      | (refine wp_cond_true rfl ?_)
      | (refine wp_cond_false rfl ?_)
      | (refine wp_exit ?_)
      | (refine wp_skip ?_)
      | (refine wp_ret ?_)
      | (refine opq_out (by assumption) ?_; simp only [Exit.then, Exit.inBlock, Nat.reduceEqDiff, reduceIte])
      | (refine is_region ?_; go_wp2_with (first | (go_at_call 108; ((with_reducible refine (yes_walk _ _).mono ?_); rintro e w' ⟨rfl, rfl⟩)))))
    refine opq_out hQ ?_
    refine bodyPost_ret (results_tmp rfl _ _ _) rfl ?_
    exact ⟨rfl, rfl⟩
  · first | exact i6_wrap _ | exact i6_bits _ _ _ | exact i6_kw _ | exact i6_shl _ _ | exact i6_shr _ h | exact i6_tmod _ h' (by assumption) | (unfold I6 at *; split <;> omega) | (unfold I6 at *; omega)
set_option maxHeartbeats 4000000 in
set_option maxRecDepth 100000 in
theorem two_32a (a b : Int) (h : I6 a) (h' : I6 b) (c : a ≤ b) : ∃ x, (∀ W, Calls Tryd.prog 92 #[.int .i64 32, .int .i64 a, .int .i64 b] W fun e w' => e = .returned (.int .i64 x) ∧ w' = W) ∧ I6 x := by
  have d : (decide (a ≤ b)) = true := by simpa using c
  clear c
  apply Exists.intro
  refine ⟨fun W => ?_, ?_⟩
  · go_enter Tryd.func92, Tryd.ntmps92
    refine opq (fun Q hQ => ?_)
    repeat (first
      | (refine wp_block ?_; refine opq (fun Q' hQ' => ?_))
      | (refine wp_seq ?_; refine opq (fun Q' hQ' => ?_))
      | (refine wp_cond_true rfl ?_)
      | (refine wp_cond_false rfl ?_)
      | (refine wp_exit ?_)
      | (refine wp_skip ?_)
      | (refine wp_ret ?_)
      | (refine opq_out (by assumption) ?_; simp only [Exit.then, Exit.inBlock, Nat.reduceEqDiff, reduceIte])
      | (refine is_region ?_; go_wp2_with (first | (go_at_call 108; ((with_reducible refine (yes_walk _ _).mono ?_); rintro e w' ⟨rfl, rfl⟩)))))
    refine opq_out hQ ?_
    refine bodyPost_ret (results_tmp rfl _ _ _) rfl ?_
    exact ⟨rfl, rfl⟩
  · first | exact i6_wrap _ | exact i6_bits _ _ _ | exact i6_kw _ | exact i6_shl _ _ | exact i6_shr _ h | exact i6_tmod _ h' (by assumption) | (unfold I6 at *; split <;> omega) | (unfold I6 at *; omega)
set_option maxHeartbeats 4000000 in
set_option maxRecDepth 100000 in
theorem two_32b (a b : Int) (h : I6 a) (h' : I6 b) (c : ¬ a ≤ b) : ∃ x, (∀ W, Calls Tryd.prog 92 #[.int .i64 32, .int .i64 a, .int .i64 b] W fun e w' => e = .returned (.int .i64 x) ∧ w' = W) ∧ I6 x := by
  have d : (decide (a ≤ b)) = false := by simpa using c
  clear c
  apply Exists.intro
  refine ⟨fun W => ?_, ?_⟩
  · go_enter Tryd.func92, Tryd.ntmps92
    refine opq (fun Q hQ => ?_)
    repeat (first
      | (refine wp_block ?_; refine opq (fun Q' hQ' => ?_))
      | (refine wp_seq ?_; refine opq (fun Q' hQ' => ?_))
      | (refine wp_cond_true rfl ?_)
      | (refine wp_cond_false rfl ?_)
      | (refine wp_exit ?_)
      | (refine wp_skip ?_)
      | (refine wp_ret ?_)
      | (refine opq_out (by assumption) ?_; simp only [Exit.then, Exit.inBlock, Nat.reduceEqDiff, reduceIte])
      | (refine is_region ?_; go_wp2_with (first | (go_at_call 108; ((with_reducible refine (yes_walk _ _).mono ?_); rintro e w' ⟨rfl, rfl⟩)))))
    refine opq_out hQ ?_
    refine bodyPost_ret (results_tmp rfl _ _ _) rfl ?_
    exact ⟨rfl, rfl⟩
  · first | exact i6_wrap _ | exact i6_bits _ _ _ | exact i6_kw _ | exact i6_shl _ _ | exact i6_shr _ h | exact i6_tmod _ h' (by assumption) | (unfold I6 at *; split <;> omega) | (unfold I6 at *; omega)
set_option maxHeartbeats 4000000 in
set_option maxRecDepth 100000 in
theorem two_33a (a b : Int) (h : I6 a) (h' : I6 b) (c : IntKind.u64.wrap a < IntKind.u64.wrap b) : ∃ x, (∀ W, Calls Tryd.prog 92 #[.int .i64 33, .int .i64 a, .int .i64 b] W fun e w' => e = .returned (.int .i64 x) ∧ w' = W) ∧ I6 x := by
  have d : (decide (IntKind.u64.wrap a < IntKind.u64.wrap b)) = true := by simpa using c
  clear c
  apply Exists.intro
  refine ⟨fun W => ?_, ?_⟩
  · go_enter Tryd.func92, Tryd.ntmps92
    refine opq (fun Q hQ => ?_)
    repeat (first
      | (refine wp_block ?_; refine opq (fun Q' hQ' => ?_))
      | (refine wp_seq ?_; refine opq (fun Q' hQ' => ?_))
      | (refine wp_cond_true rfl ?_)
      | (refine wp_cond_false rfl ?_)
      | (refine wp_exit ?_)
      | (refine wp_skip ?_)
      | (refine wp_ret ?_)
      | (refine opq_out (by assumption) ?_; simp only [Exit.then, Exit.inBlock, Nat.reduceEqDiff, reduceIte])
      | (refine is_region ?_; go_wp2_with (first | (go_at_call 108; ((with_reducible refine (yes_walk _ _).mono ?_); rintro e w' ⟨rfl, rfl⟩)))))
    refine opq_out hQ ?_
    refine bodyPost_ret (results_tmp rfl _ _ _) rfl ?_
    exact ⟨rfl, rfl⟩
  · first | exact i6_wrap _ | exact i6_bits _ _ _ | exact i6_kw _ | exact i6_shl _ _ | exact i6_shr _ h | exact i6_tmod _ h' (by assumption) | (unfold I6 at *; split <;> omega) | (unfold I6 at *; omega)
set_option maxHeartbeats 4000000 in
set_option maxRecDepth 100000 in
theorem two_33b (a b : Int) (h : I6 a) (h' : I6 b) (c : ¬ IntKind.u64.wrap a < IntKind.u64.wrap b) : ∃ x, (∀ W, Calls Tryd.prog 92 #[.int .i64 33, .int .i64 a, .int .i64 b] W fun e w' => e = .returned (.int .i64 x) ∧ w' = W) ∧ I6 x := by
  have d : (decide (IntKind.u64.wrap a < IntKind.u64.wrap b)) = false := by simpa using c
  clear c
  apply Exists.intro
  refine ⟨fun W => ?_, ?_⟩
  · go_enter Tryd.func92, Tryd.ntmps92
    refine opq (fun Q hQ => ?_)
    repeat (first
      | (refine wp_block ?_; refine opq (fun Q' hQ' => ?_))
      | (refine wp_seq ?_; refine opq (fun Q' hQ' => ?_))
      | (refine wp_cond_true rfl ?_)
      | (refine wp_cond_false rfl ?_)
      | (refine wp_exit ?_)
      | (refine wp_skip ?_)
      | (refine wp_ret ?_)
      | (refine opq_out (by assumption) ?_; simp only [Exit.then, Exit.inBlock, Nat.reduceEqDiff, reduceIte])
      | (refine is_region ?_; go_wp2_with (first | (go_at_call 108; ((with_reducible refine (yes_walk _ _).mono ?_); rintro e w' ⟨rfl, rfl⟩)))))
    refine opq_out hQ ?_
    refine bodyPost_ret (results_tmp rfl _ _ _) rfl ?_
    exact ⟨rfl, rfl⟩
  · first | exact i6_wrap _ | exact i6_bits _ _ _ | exact i6_kw _ | exact i6_shl _ _ | exact i6_shr _ h | exact i6_tmod _ h' (by assumption) | (unfold I6 at *; split <;> omega) | (unfold I6 at *; omega)
set_option maxHeartbeats 4000000 in
set_option maxRecDepth 100000 in
theorem two_30a (a b : Int) (h : I6 a) (h' : I6 b) (c : a = b) : ∃ x, (∀ W, Calls Tryd.prog 92 #[.int .i64 30, .int .i64 a, .int .i64 b] W fun e w' => e = .returned (.int .i64 x) ∧ w' = W) ∧ I6 x := by
  have d : (a != b) = false := by simpa using c
  have d2 : (a == b) = true := by simpa using c
  clear c
  apply Exists.intro
  refine ⟨fun W => ?_, ?_⟩
  · go_enter Tryd.func92, Tryd.ntmps92
    refine opq (fun Q hQ => ?_)
    repeat (first
      | (refine wp_block ?_; refine opq (fun Q' hQ' => ?_))
      | (refine wp_seq ?_; refine opq (fun Q' hQ' => ?_))
      | (refine wp_cond_true rfl ?_)
      | (refine wp_cond_false rfl ?_)
      | (refine wp_exit ?_)
      | (refine wp_skip ?_)
      | (refine wp_ret ?_)
      | (refine opq_out (by assumption) ?_; simp only [Exit.then, Exit.inBlock, Nat.reduceEqDiff, reduceIte])
      | (refine is_region ?_; go_wp2_with (first | (go_at_call 108; ((with_reducible refine (yes_walk _ _).mono ?_); rintro e w' ⟨rfl, rfl⟩)))))
    refine opq_out hQ ?_
    refine bodyPost_ret (results_tmp rfl _ _ _) rfl ?_
    exact ⟨rfl, rfl⟩
  · first | exact i6_wrap _ | exact i6_bits _ _ _ | exact i6_kw _ | exact i6_shl _ _ | exact i6_shr _ h | exact i6_tmod _ h' (by assumption) | (unfold I6 at *; split <;> omega) | (unfold I6 at *; omega)
set_option maxHeartbeats 4000000 in
set_option maxRecDepth 100000 in
theorem two_30b (a b : Int) (h : I6 a) (h' : I6 b) (c : ¬ a = b) : ∃ x, (∀ W, Calls Tryd.prog 92 #[.int .i64 30, .int .i64 a, .int .i64 b] W fun e w' => e = .returned (.int .i64 x) ∧ w' = W) ∧ I6 x := by
  have d : (a != b) = true := by simpa using c
  have d2 : (a == b) = false := by simpa using c
  clear c
  apply Exists.intro
  refine ⟨fun W => ?_, ?_⟩
  · go_enter Tryd.func92, Tryd.ntmps92
    refine opq (fun Q hQ => ?_)
    repeat (first
      | (refine wp_block ?_; refine opq (fun Q' hQ' => ?_))
      | (refine wp_seq ?_; refine opq (fun Q' hQ' => ?_))
      | (refine wp_cond_true rfl ?_)
      | (refine wp_cond_false rfl ?_)
      | (refine wp_exit ?_)
      | (refine wp_skip ?_)
      | (refine wp_ret ?_)
      | (refine opq_out (by assumption) ?_; simp only [Exit.then, Exit.inBlock, Nat.reduceEqDiff, reduceIte])
      | (refine is_region ?_; go_wp2_with (first | (go_at_call 108; ((with_reducible refine (yes_walk _ _).mono ?_); rintro e w' ⟨rfl, rfl⟩)))))
    refine opq_out hQ ?_
    refine bodyPost_ret (results_tmp rfl _ _ _) rfl ?_
    exact ⟨rfl, rfl⟩
  · first | exact i6_wrap _ | exact i6_bits _ _ _ | exact i6_kw _ | exact i6_shl _ _ | exact i6_shr _ h | exact i6_tmod _ h' (by assumption) | (unfold I6 at *; split <;> omega) | (unfold I6 at *; omega)
set_option maxHeartbeats 4000000 in
set_option maxRecDepth 100000 in
theorem two_36 (a b : Int) (h : I6 a) (h' : I6 b) : ∃ x, (∀ W, Calls Tryd.prog 92 #[.int .i64 36, .int .i64 a, .int .i64 b] W fun e w' => e = .returned (.int .i64 x) ∧ w' = W) ∧ I6 x := by
  apply Exists.intro
  refine ⟨fun W => ?_, ?_⟩
  · go_enter Tryd.func92, Tryd.ntmps92
    refine opq (fun Q hQ => ?_)
    repeat (first
      | (refine wp_block ?_; refine opq (fun Q' hQ' => ?_))
      | (refine wp_seq ?_; refine opq (fun Q' hQ' => ?_))
      | (refine wp_cond_true rfl ?_)
      | (refine wp_cond_false rfl ?_)
      | (refine wp_exit ?_)
      | (refine wp_skip ?_)
      | (refine wp_ret ?_)
      | (refine opq_out (by assumption) ?_; simp only [Exit.then, Exit.inBlock, Nat.reduceEqDiff, reduceIte])
      | (refine is_region ?_; go_wp2_with (first | (go_at_call 110; ((with_reducible refine (wide_walk a b _).mono ?_); rintro e w' ⟨rfl, rfl⟩)))))
    refine opq_out hQ ?_
    refine bodyPost_ret (results_tmp rfl _ _ _) rfl ?_
    exact ⟨rfl, rfl⟩
  · first | exact i6_wrap _ | exact i6_bits _ _ _ | exact i6_kw _ | exact i6_shl _ _ | exact i6_shr _ h | exact i6_tmod _ h' (by assumption) | (unfold I6 at *; split <;> omega) | (unfold I6 at *; omega)
set_option maxHeartbeats 4000000 in
set_option maxRecDepth 100000 in
theorem div_19a (a b : Int) (h : I6 a) (h' : I6 b) (c : b = 0) : ∃ x, (∀ W, Calls Tryd.prog 90 #[.int .i64 19, .int .i64 a, .int .i64 b] W fun e w' => e = .returned (.tuple #[.int .i64 x, .int .i64 20]) ∧ w' = W) ∧ I6 x := by
  subst c
  apply Exists.intro
  refine ⟨fun W => ?_, ?_⟩
  · go_enter Tryd.func90, Tryd.ntmps90
    refine opq (fun Q hQ => ?_)
    repeat (first
      | (refine wp_block ?_; refine opq (fun Q' hQ' => ?_))
      | (refine wp_seq ?_; refine opq (fun Q' hQ' => ?_))
      | (refine wp_cond_true rfl ?_)
      | (refine wp_cond_false rfl ?_)
      | (refine wp_exit ?_)
      | (refine wp_skip ?_)
      | (refine wp_ret ?_)
      | (refine opq_out (by assumption) ?_; simp only [Exit.then, Exit.inBlock, Nat.reduceEqDiff, reduceIte])
      | (refine is_region ?_; go_wp2))
    refine opq_out hQ ?_
    refine bodyPost_ret (results_tmp2 rfl _ _ _) rfl ?_
    exact ⟨rfl, rfl⟩
  · first | exact i6_wrap _ | exact i6_bits _ _ _ | exact i6_kw _ | exact i6_shl _ _ | exact i6_shr _ h | exact i6_tmod _ h' (by assumption) | (unfold I6 at *; split <;> omega) | (unfold I6 at *; omega)
set_option maxHeartbeats 4000000 in
set_option maxRecDepth 100000 in
theorem div_19b (a b : Int) (h : I6 a) (h' : I6 b) (c : b = -1) : ∃ x, (∀ W, Calls Tryd.prog 90 #[.int .i64 19, .int .i64 a, .int .i64 b] W fun e w' => e = .returned (.tuple #[.int .i64 x, .int .i64 0]) ∧ w' = W) ∧ I6 x := by
  subst c
  apply Exists.intro
  refine ⟨fun W => ?_, ?_⟩
  · go_enter Tryd.func90, Tryd.ntmps90
    refine opq (fun Q hQ => ?_)
    repeat (first
      | (refine wp_block ?_; refine opq (fun Q' hQ' => ?_))
      | (refine wp_seq ?_; refine opq (fun Q' hQ' => ?_))
      | (refine wp_cond_true rfl ?_)
      | (refine wp_cond_false rfl ?_)
      | (refine wp_exit ?_)
      | (refine wp_skip ?_)
      | (refine wp_ret ?_)
      | (refine opq_out (by assumption) ?_; simp only [Exit.then, Exit.inBlock, Nat.reduceEqDiff, reduceIte])
      | (refine is_region ?_; go_wp2))
    refine opq_out hQ ?_
    refine bodyPost_ret (results_tmp2 rfl _ _ _) rfl ?_
    exact ⟨rfl, rfl⟩
  · first | exact i6_wrap _ | exact i6_bits _ _ _ | exact i6_kw _ | exact i6_shl _ _ | exact i6_shr _ h | exact i6_tmod _ h' (by assumption) | (unfold I6 at *; split <;> omega) | (unfold I6 at *; omega)
set_option maxHeartbeats 4000000 in
set_option maxRecDepth 100000 in
theorem div_19c (a b : Int) (h : I6 a) (h' : I6 b) (c : b ≠ 0 ∧ b ≠ -1) : ∃ x, (∀ W, Calls Tryd.prog 90 #[.int .i64 19, .int .i64 a, .int .i64 b] W fun e w' => e = .returned (.tuple #[.int .i64 x, .int .i64 0]) ∧ w' = W) ∧ I6 x := by
  have d1 : (b == 0) = false := by simpa using c.1
  have d2 : (b == -1) = false := by simpa using c.2
  have d3 : b ≠ 0 := c.1
  clear c
  apply Exists.intro
  refine ⟨fun W => ?_, ?_⟩
  · go_enter Tryd.func90, Tryd.ntmps90
    refine opq (fun Q hQ => ?_)
    repeat (first
      | (refine wp_block ?_; refine opq (fun Q' hQ' => ?_))
      | (refine wp_seq ?_; refine opq (fun Q' hQ' => ?_))
      | (refine wp_cond_true rfl ?_)
      | (refine wp_cond_false rfl ?_)
      | (refine wp_exit ?_)
      | (refine wp_skip ?_)
      | (refine wp_ret ?_)
      | (refine opq_out (by assumption) ?_; simp only [Exit.then, Exit.inBlock, Nat.reduceEqDiff, reduceIte])
      | (refine is_region ?_; go_wp2))
    refine opq_out hQ ?_
    refine bodyPost_ret (results_tmp2 rfl _ _ _) rfl ?_
    exact ⟨rfl, rfl⟩
  · first | exact i6_wrap _ | exact i6_bits _ _ _ | exact i6_kw _ | exact i6_shl _ _ | exact i6_shr _ h | exact i6_tmod _ h' (by assumption) | (unfold I6 at *; split <;> omega) | (unfold I6 at *; omega)
set_option maxHeartbeats 4000000 in
set_option maxRecDepth 100000 in
theorem div_20a (a b : Int) (h : I6 a) (h' : I6 b) (c : b = 0) : ∃ x, (∀ W, Calls Tryd.prog 90 #[.int .i64 20, .int .i64 a, .int .i64 b] W fun e w' => e = .returned (.tuple #[.int .i64 x, .int .i64 20]) ∧ w' = W) ∧ I6 x := by
  subst c
  apply Exists.intro
  refine ⟨fun W => ?_, ?_⟩
  · go_enter Tryd.func90, Tryd.ntmps90
    refine opq (fun Q hQ => ?_)
    repeat (first
      | (refine wp_block ?_; refine opq (fun Q' hQ' => ?_))
      | (refine wp_seq ?_; refine opq (fun Q' hQ' => ?_))
      | (refine wp_cond_true rfl ?_)
      | (refine wp_cond_false rfl ?_)
      | (refine wp_exit ?_)
      | (refine wp_skip ?_)
      | (refine wp_ret ?_)
      | (refine opq_out (by assumption) ?_; simp only [Exit.then, Exit.inBlock, Nat.reduceEqDiff, reduceIte])
      | (refine is_region ?_; go_wp2))
    refine opq_out hQ ?_
    refine bodyPost_ret (results_tmp2 rfl _ _ _) rfl ?_
    exact ⟨rfl, rfl⟩
  · first | exact i6_wrap _ | exact i6_bits _ _ _ | exact i6_kw _ | exact i6_shl _ _ | exact i6_shr _ h | exact i6_tmod _ h' (by assumption) | (unfold I6 at *; split <;> omega) | (unfold I6 at *; omega)
set_option maxHeartbeats 4000000 in
set_option maxRecDepth 100000 in
theorem div_20b (a b : Int) (h : I6 a) (h' : I6 b) (c : b = -1) : ∃ x, (∀ W, Calls Tryd.prog 90 #[.int .i64 20, .int .i64 a, .int .i64 b] W fun e w' => e = .returned (.tuple #[.int .i64 x, .int .i64 0]) ∧ w' = W) ∧ I6 x := by
  subst c
  apply Exists.intro
  refine ⟨fun W => ?_, ?_⟩
  · go_enter Tryd.func90, Tryd.ntmps90
    refine opq (fun Q hQ => ?_)
    repeat (first
      | (refine wp_block ?_; refine opq (fun Q' hQ' => ?_))
      | (refine wp_seq ?_; refine opq (fun Q' hQ' => ?_))
      | (refine wp_cond_true rfl ?_)
      | (refine wp_cond_false rfl ?_)
      | (refine wp_exit ?_)
      | (refine wp_skip ?_)
      | (refine wp_ret ?_)
      | (refine opq_out (by assumption) ?_; simp only [Exit.then, Exit.inBlock, Nat.reduceEqDiff, reduceIte])
      | (refine is_region ?_; go_wp2))
    refine opq_out hQ ?_
    refine bodyPost_ret (results_tmp2 rfl _ _ _) rfl ?_
    exact ⟨rfl, rfl⟩
  · first | exact i6_wrap _ | exact i6_bits _ _ _ | exact i6_kw _ | exact i6_shl _ _ | exact i6_shr _ h | exact i6_tmod _ h' (by assumption) | (unfold I6 at *; split <;> omega) | (unfold I6 at *; omega)
set_option maxHeartbeats 4000000 in
set_option maxRecDepth 100000 in
theorem div_20c (a b : Int) (h : I6 a) (h' : I6 b) (c : b ≠ 0 ∧ b ≠ -1) : ∃ x, (∀ W, Calls Tryd.prog 90 #[.int .i64 20, .int .i64 a, .int .i64 b] W fun e w' => e = .returned (.tuple #[.int .i64 x, .int .i64 0]) ∧ w' = W) ∧ I6 x := by
  have d1 : (b == 0) = false := by simpa using c.1
  have d2 : (b == -1) = false := by simpa using c.2
  have d3 : b ≠ 0 := c.1
  clear c
  apply Exists.intro
  refine ⟨fun W => ?_, ?_⟩
  · go_enter Tryd.func90, Tryd.ntmps90
    refine opq (fun Q hQ => ?_)
    repeat (first
      | (refine wp_block ?_; refine opq (fun Q' hQ' => ?_))
      | (refine wp_seq ?_; refine opq (fun Q' hQ' => ?_))
      | (refine wp_cond_true rfl ?_)
      | (refine wp_cond_false rfl ?_)
      | (refine wp_exit ?_)
      | (refine wp_skip ?_)
      | (refine wp_ret ?_)
      | (refine opq_out (by assumption) ?_; simp only [Exit.then, Exit.inBlock, Nat.reduceEqDiff, reduceIte])
      | (refine is_region ?_; go_wp2))
    refine opq_out hQ ?_
    refine bodyPost_ret (results_tmp2 rfl _ _ _) rfl ?_
    exact ⟨rfl, rfl⟩
  · first | exact i6_wrap _ | exact i6_bits _ _ _ | exact i6_kw _ | exact i6_shl _ _ | exact i6_shr _ h | exact i6_tmod _ h' (by assumption) | (unfold I6 at *; split <;> omega) | (unfold I6 at *; omega)
set_option maxHeartbeats 4000000 in
set_option maxRecDepth 100000 in
theorem shf_25a (a b : Int) (h : I6 a) (h' : I6 b) (c : b < 0) : ∃ x, (∀ W, Calls Tryd.prog 91 #[.int .i64 25, .int .i64 a, .int .i64 b] W fun e w' => e = .returned (.tuple #[.int .i64 x, .int .i64 21]) ∧ w' = W) ∧ I6 x := by
  have d : decide (b < 0) = true := by simpa using c
  clear c
  apply Exists.intro
  refine ⟨fun W => ?_, ?_⟩
  · go_enter Tryd.func91, Tryd.ntmps91
    refine opq (fun Q hQ => ?_)
    repeat (first
      | (refine wp_block ?_; refine opq (fun Q' hQ' => ?_))
      | (refine wp_seq ?_; refine opq (fun Q' hQ' => ?_))
      | (refine wp_cond_true rfl ?_)
      | (refine wp_cond_false rfl ?_)
      | (refine wp_exit ?_)
      | (refine wp_skip ?_)
      | (refine wp_ret ?_)
      | (refine opq_out (by assumption) ?_; simp only [Exit.then, Exit.inBlock, Nat.reduceEqDiff, reduceIte])
      | (refine is_region ?_; go_wp2))
    refine opq_out hQ ?_
    refine bodyPost_ret (results_tmp2 rfl _ _ _) rfl ?_
    exact ⟨rfl, rfl⟩
  · first | exact i6_wrap _ | exact i6_bits _ _ _ | exact i6_kw _ | exact i6_shl _ _ | exact i6_shr _ h | exact i6_tmod _ h' (by assumption) | (unfold I6 at *; split <;> omega) | (unfold I6 at *; omega)
set_option maxHeartbeats 4000000 in
set_option maxRecDepth 100000 in
theorem shf_25b (a b : Int) (h : I6 a) (h' : I6 b) (c : 0 ≤ b) : ∃ x, (∀ W, Calls Tryd.prog 91 #[.int .i64 25, .int .i64 a, .int .i64 b] W fun e w' => e = .returned (.tuple #[.int .i64 x, .int .i64 0]) ∧ w' = W) ∧ I6 x := by
  have d : decide (b < 0) = false := by simpa using c
  clear c
  have n0 := (u6_wrap b).1
  have s1 := fun k x yk => shl_eq (k := k) (x := x) (yk := yk) n0
  have s2 := fun k x yk => shr_eq (k := k) (x := x) (yk := yk) n0
  apply Exists.intro
  refine ⟨fun W => ?_, ?_⟩
  · go_enter Tryd.func91, Tryd.ntmps91
    refine opq (fun Q hQ => ?_)
    repeat (first
      | (refine wp_block ?_; refine opq (fun Q' hQ' => ?_))
      | (refine wp_seq ?_; refine opq (fun Q' hQ' => ?_))
      | (refine wp_cond_true rfl ?_)
      | (refine wp_cond_false rfl ?_)
      | (refine wp_exit ?_)
      | (refine wp_skip ?_)
      | (refine wp_ret ?_)
      | (refine opq_out (by assumption) ?_; simp only [Exit.then, Exit.inBlock, Nat.reduceEqDiff, reduceIte])
      | (refine is_region ?_; go_wp2))
    refine opq_out hQ ?_
    refine bodyPost_ret (results_tmp2 rfl _ _ _) rfl ?_
    exact ⟨rfl, rfl⟩
  · first | exact i6_wrap _ | exact i6_bits _ _ _ | exact i6_kw _ | exact i6_shl _ _ | exact i6_shr _ h | exact i6_tmod _ h' (by assumption) | (unfold I6 at *; split <;> omega) | (unfold I6 at *; omega)
set_option maxHeartbeats 4000000 in
set_option maxRecDepth 100000 in
theorem shf_26a (a b : Int) (h : I6 a) (h' : I6 b) (c : b < 0) : ∃ x, (∀ W, Calls Tryd.prog 91 #[.int .i64 26, .int .i64 a, .int .i64 b] W fun e w' => e = .returned (.tuple #[.int .i64 x, .int .i64 21]) ∧ w' = W) ∧ I6 x := by
  have d : decide (b < 0) = true := by simpa using c
  clear c
  apply Exists.intro
  refine ⟨fun W => ?_, ?_⟩
  · go_enter Tryd.func91, Tryd.ntmps91
    refine opq (fun Q hQ => ?_)
    repeat (first
      | (refine wp_block ?_; refine opq (fun Q' hQ' => ?_))
      | (refine wp_seq ?_; refine opq (fun Q' hQ' => ?_))
      | (refine wp_cond_true rfl ?_)
      | (refine wp_cond_false rfl ?_)
      | (refine wp_exit ?_)
      | (refine wp_skip ?_)
      | (refine wp_ret ?_)
      | (refine opq_out (by assumption) ?_; simp only [Exit.then, Exit.inBlock, Nat.reduceEqDiff, reduceIte])
      | (refine is_region ?_; go_wp2))
    refine opq_out hQ ?_
    refine bodyPost_ret (results_tmp2 rfl _ _ _) rfl ?_
    exact ⟨rfl, rfl⟩
  · first | exact i6_wrap _ | exact i6_bits _ _ _ | exact i6_kw _ | exact i6_shl _ _ | exact i6_shr _ h | exact i6_tmod _ h' (by assumption) | (unfold I6 at *; split <;> omega) | (unfold I6 at *; omega)
set_option maxHeartbeats 4000000 in
set_option maxRecDepth 100000 in
theorem shf_26b (a b : Int) (h : I6 a) (h' : I6 b) (c : 0 ≤ b) : ∃ x, (∀ W, Calls Tryd.prog 91 #[.int .i64 26, .int .i64 a, .int .i64 b] W fun e w' => e = .returned (.tuple #[.int .i64 x, .int .i64 0]) ∧ w' = W) ∧ I6 x := by
  have d : decide (b < 0) = false := by simpa using c
  clear c
  have n0 := (u6_wrap b).1
  have s1 := fun k x yk => shl_eq (k := k) (x := x) (yk := yk) n0
  have s2 := fun k x yk => shr_eq (k := k) (x := x) (yk := yk) n0
  apply Exists.intro
  refine ⟨fun W => ?_, ?_⟩
  · go_enter Tryd.func91, Tryd.ntmps91
    refine opq (fun Q hQ => ?_)
    repeat (first
      | (refine wp_block ?_; refine opq (fun Q' hQ' => ?_))
      | (refine wp_seq ?_; refine opq (fun Q' hQ' => ?_))
      | (refine wp_cond_true rfl ?_)
      | (refine wp_cond_false rfl ?_)
      | (refine wp_exit ?_)
      | (refine wp_skip ?_)
      | (refine wp_ret ?_)
      | (refine opq_out (by assumption) ?_; simp only [Exit.then, Exit.inBlock, Nat.reduceEqDiff, reduceIte])
      | (refine is_region ?_; go_wp2))
    refine opq_out hQ ?_
    refine bodyPost_ret (results_tmp2 rfl _ _ _) rfl ?_
    exact ⟨rfl, rfl⟩
  · first | exact i6_wrap _ | exact i6_bits _ _ _ | exact i6_kw _ | exact i6_shl _ _ | exact i6_shr _ h | exact i6_tmod _ h' (by assumption) | (unfold I6 at *; split <;> omega) | (unfold I6 at *; omega)
set_option maxHeartbeats 4000000 in
set_option maxRecDepth 100000 in
theorem shf_27a (a b : Int) (h : I6 a) (h' : I6 b) (c : b < 0) : ∃ x, (∀ W, Calls Tryd.prog 91 #[.int .i64 27, .int .i64 a, .int .i64 b] W fun e w' => e = .returned (.tuple #[.int .i64 x, .int .i64 21]) ∧ w' = W) ∧ I6 x := by
  have d : decide (b < 0) = true := by simpa using c
  clear c
  apply Exists.intro
  refine ⟨fun W => ?_, ?_⟩
  · go_enter Tryd.func91, Tryd.ntmps91
    refine opq (fun Q hQ => ?_)
    repeat (first
      | (refine wp_block ?_; refine opq (fun Q' hQ' => ?_))
      | (refine wp_seq ?_; refine opq (fun Q' hQ' => ?_))
      | (refine wp_cond_true rfl ?_)
      | (refine wp_cond_false rfl ?_)
      | (refine wp_exit ?_)
      | (refine wp_skip ?_)
      | (refine wp_ret ?_)
      | (refine opq_out (by assumption) ?_; simp only [Exit.then, Exit.inBlock, Nat.reduceEqDiff, reduceIte])
      | (refine is_region ?_; go_wp2))
    refine opq_out hQ ?_
    refine bodyPost_ret (results_tmp2 rfl _ _ _) rfl ?_
    exact ⟨rfl, rfl⟩
  · first | exact i6_wrap _ | exact i6_bits _ _ _ | exact i6_kw _ | exact i6_shl _ _ | exact i6_shr _ h | exact i6_tmod _ h' (by assumption) | (unfold I6 at *; split <;> omega) | (unfold I6 at *; omega)
set_option maxHeartbeats 4000000 in
set_option maxRecDepth 100000 in
theorem shf_27b (a b : Int) (h : I6 a) (h' : I6 b) (c : 0 ≤ b) : ∃ x, (∀ W, Calls Tryd.prog 91 #[.int .i64 27, .int .i64 a, .int .i64 b] W fun e w' => e = .returned (.tuple #[.int .i64 x, .int .i64 0]) ∧ w' = W) ∧ I6 x := by
  have d : decide (b < 0) = false := by simpa using c
  clear c
  have n0 := (u6_wrap b).1
  have s1 := fun k x yk => shl_eq (k := k) (x := x) (yk := yk) n0
  have s2 := fun k x yk => shr_eq (k := k) (x := x) (yk := yk) n0
  apply Exists.intro
  refine ⟨fun W => ?_, ?_⟩
  · go_enter Tryd.func91, Tryd.ntmps91
    refine opq (fun Q hQ => ?_)
    repeat (first
      | (refine wp_block ?_; refine opq (fun Q' hQ' => ?_))
      | (refine wp_seq ?_; refine opq (fun Q' hQ' => ?_))
      | (refine wp_cond_true rfl ?_)
      | (refine wp_cond_false rfl ?_)
      | (refine wp_exit ?_)
      | (refine wp_skip ?_)
      | (refine wp_ret ?_)
      | (refine opq_out (by assumption) ?_; simp only [Exit.then, Exit.inBlock, Nat.reduceEqDiff, reduceIte])
      | (refine is_region ?_; go_wp2))
    refine opq_out hQ ?_
    refine bodyPost_ret (results_tmp2 rfl _ _ _) rfl ?_
    exact ⟨rfl, rfl⟩
  · first | exact i6_wrap _ | exact i6_bits _ _ _ | exact i6_kw _ | exact i6_shl _ _ | exact i6_shr _ h | exact i6_tmod _ h' (by assumption) | (unfold I6 at *; split <;> omega) | (unfold I6 at *; omega)
end Go.Proofs.YtbcdeanmjhcgeaaDoor.Alu
