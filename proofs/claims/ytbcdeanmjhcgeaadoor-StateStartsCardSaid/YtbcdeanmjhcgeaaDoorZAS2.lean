/- word.one, two, divided, shifted, walked: each gives what it gives told plainly, an int. The condition of one: the table of math/bits lies in the world. -/
import Derived.Test.YtbcdeanmjhcgeaaDoorZAS1
namespace Go.Proofs.YtbcdeanmjhcgeaaDoor.Alu
set_option linter.unusedVariables false
set_option linter.unusedSimpArgs false
open Go.RowKit
set_option linter.unusedVariables false
set_option linter.unusedSimpArgs false
theorem i6_tmod' (a : Int) {b : Int} (h : I6 b) (h0 : b ≠ 0) : I6 (a.tmod b) := by
  have h1 := Int.natAbs_tmod a b
  have h2 : a.natAbs % b.natAbs < b.natAbs := Nat.mod_lt _ (by omega)
  unfold I6 at *
  omega
theorem i6_shr' {x : Int} (y : Int) (h : I6 x) : I6 (Wd.shr .i64 x y) := by
  have := i6_shr y h
  unfold shrv at this
  rw [Int.fdiv_eq_ediv_of_nonneg _ (Int.le_of_lt (Int.pow_pos (by omega)))] at this
  exact this
set_option maxHeartbeats 4000000 in
set_option maxRecDepth 100000 in
theorem sone_1 {a r : Int} {m : Nat} (hm : 0 < m) (ha : I6 a) (h : Wd.word_one.f m 1 a = some r) : (∀ W, Tab W → Calls Tryd.prog 89 #[.int .i64 1, .int .i64 a] W fun e w' => e = .returned (.int .i64 r) ∧ w' = W) ∧ I6 r := by
  simp only [Wd.word_one.f, Int.reduceEq, if_true, if_false] at h
  obtain rfl := Option.some.inj h
  clear h
  refine ⟨fun W hT => ?_, ?_⟩
  · go_enter Tryd.func89, Tryd.ntmps89
    refine opq (fun Q hQ => ?_)
    repeat (first
      | (refine wp_block ?_; refine opq (fun Q' hQ' => ?_))
      | (refine wp_seq ?_; refine opq (fun Q' hQ' => ?_))
      | (refine wp_cond_true rfl ?_)
      | (refine wp_cond_false rfl ?_)
      | (refine wp_exit ?_)
      | (refine wp_skip ?_)
      | (refine wp_ret ?_)
      | (refine opq_out (by assumption) ?_; simp only [Exit.then, Exit.inBlock, Nat.reduceEqDiff, reduceIte])
      | (refine is_region ?_; go_wp2))
    refine opq_out hQ ?_
    refine bodyPost_ret (results_tmp rfl _ _ _) rfl ?_
    exact ⟨rfl, rfl⟩
  · first | exact i6_wrap _ | exact i6_bits _ _ _ | exact i6_kw _ | exact i6_shr' _ ha | exact i6_tmod' _ hb (by assumption) | assumption | (unfold I6 at *; omega) | (unfold I6 Wd.mn at *; split <;> omega) | (unfold I6 Wd.mx at *; split <;> omega)
set_option maxHeartbeats 4000000 in
set_option maxRecDepth 100000 in
theorem sone_2 {a r : Int} {m : Nat} (hm : 0 < m) (ha : I6 a) (h : Wd.word_one.f m 2 a = some r) : (∀ W, Tab W → Calls Tryd.prog 89 #[.int .i64 2, .int .i64 a] W fun e w' => e = .returned (.int .i64 r) ∧ w' = W) ∧ I6 r := by
  simp only [Wd.word_one.f, Int.reduceEq, if_true, if_false] at h
  obtain rfl := Option.some.inj h
  clear h
  refine ⟨fun W hT => ?_, ?_⟩
  · go_enter Tryd.func89, Tryd.ntmps89
    refine opq (fun Q hQ => ?_)
    repeat (first
      | (refine wp_block ?_; refine opq (fun Q' hQ' => ?_))
      | (refine wp_seq ?_; refine opq (fun Q' hQ' => ?_))
      | (refine wp_cond_true rfl ?_)
      | (refine wp_cond_false rfl ?_)
      | (refine wp_exit ?_)
      | (refine wp_skip ?_)
      | (refine wp_ret ?_)
      | (refine opq_out (by assumption) ?_; simp only [Exit.then, Exit.inBlock, Nat.reduceEqDiff, reduceIte])
      | (refine is_region ?_; go_wp2))
    refine opq_out hQ ?_
    refine bodyPost_ret (results_tmp rfl _ _ _) rfl ?_
    exact ⟨rfl, rfl⟩
  · first | exact i6_wrap _ | exact i6_bits _ _ _ | exact i6_kw _ | exact i6_shr' _ ha | exact i6_tmod' _ hb (by assumption) | assumption | (unfold I6 at *; omega) | (unfold I6 Wd.mn at *; split <;> omega) | (unfold I6 Wd.mx at *; split <;> omega)
set_option maxHeartbeats 4000000 in
set_option maxRecDepth 100000 in
theorem sone_10 {a r : Int} {m : Nat} (hm : 0 < m) (ha : I6 a) (h : Wd.word_one.f m 10 a = some r) : (∀ W, Tab W → Calls Tryd.prog 89 #[.int .i64 10, .int .i64 a] W fun e w' => e = .returned (.int .i64 r) ∧ w' = W) ∧ I6 r := by
  simp only [Wd.word_one.f, Int.reduceEq, if_true, if_false] at h
  obtain rfl := Option.some.inj h
  clear h
  refine ⟨fun W hT => ?_, ?_⟩
  · go_enter Tryd.func89, Tryd.ntmps89
    refine opq (fun Q hQ => ?_)
    repeat (first
      | (refine wp_block ?_; refine opq (fun Q' hQ' => ?_))
      | (refine wp_seq ?_; refine opq (fun Q' hQ' => ?_))
      | (refine wp_cond_true rfl ?_)
      | (refine wp_cond_false rfl ?_)
      | (refine wp_exit ?_)
      | (refine wp_skip ?_)
      | (refine wp_ret ?_)
      | (refine opq_out (by assumption) ?_; simp only [Exit.then, Exit.inBlock, Nat.reduceEqDiff, reduceIte])
      | (refine is_region ?_; go_wp2))
    refine opq_out hQ ?_
    refine bodyPost_ret (results_tmp rfl _ _ _) rfl ?_
    exact ⟨rfl, rfl⟩
  · first | exact i6_wrap _ | exact i6_bits _ _ _ | exact i6_kw _ | exact i6_shr' _ ha | exact i6_tmod' _ hb (by assumption) | assumption | (unfold I6 at *; omega) | (unfold I6 Wd.mn at *; split <;> omega) | (unfold I6 Wd.mx at *; split <;> omega)
set_option maxHeartbeats 4000000 in
set_option maxRecDepth 100000 in
theorem sone_11 {a r : Int} {m : Nat} (hm : 0 < m) (ha : I6 a) (h : Wd.word_one.f m 11 a = some r) : (∀ W, Tab W → Calls Tryd.prog 89 #[.int .i64 11, .int .i64 a] W fun e w' => e = .returned (.int .i64 r) ∧ w' = W) ∧ I6 r := by
  simp only [Wd.word_one.f, Int.reduceEq, if_true, if_false] at h
  obtain rfl := Option.some.inj h
  clear h
  refine ⟨fun W hT => ?_, ?_⟩
  · go_enter Tryd.func89, Tryd.ntmps89
    refine opq (fun Q hQ => ?_)
    repeat (first
      | (refine wp_block ?_; refine opq (fun Q' hQ' => ?_))
      | (refine wp_seq ?_; refine opq (fun Q' hQ' => ?_))
      | (refine wp_cond_true rfl ?_)
      | (refine wp_cond_false rfl ?_)
      | (refine wp_exit ?_)
      | (refine wp_skip ?_)
      | (refine wp_ret ?_)
      | (refine opq_out (by assumption) ?_; simp only [Exit.then, Exit.inBlock, Nat.reduceEqDiff, reduceIte])
      | (refine is_region ?_; go_wp2))
    refine opq_out hQ ?_
    refine bodyPost_ret (results_tmp rfl _ _ _) rfl ?_
    exact ⟨rfl, rfl⟩
  · first | exact i6_wrap _ | exact i6_bits _ _ _ | exact i6_kw _ | exact i6_shr' _ ha | exact i6_tmod' _ hb (by assumption) | assumption | (unfold I6 at *; omega) | (unfold I6 Wd.mn at *; split <;> omega) | (unfold I6 Wd.mx at *; split <;> omega)
set_option maxHeartbeats 4000000 in
set_option maxRecDepth 100000 in
theorem sone_12 {a r : Int} {m : Nat} (hm : 0 < m) (ha : I6 a) (h : Wd.word_one.f m 12 a = some r) : (∀ W, Tab W → Calls Tryd.prog 89 #[.int .i64 12, .int .i64 a] W fun e w' => e = .returned (.int .i64 r) ∧ w' = W) ∧ I6 r := by
  simp only [Wd.word_one.f, Int.reduceEq, if_true, if_false] at h
  obtain rfl := Option.some.inj h
  clear h
  refine ⟨fun W hT => ?_, ?_⟩
  · go_enter Tryd.func89, Tryd.ntmps89
    refine opq (fun Q hQ => ?_)
    repeat (first
      | (refine wp_block ?_; refine opq (fun Q' hQ' => ?_))
      | (refine wp_seq ?_; refine opq (fun Q' hQ' => ?_))
      | (refine wp_cond_true rfl ?_)
      | (refine wp_cond_false rfl ?_)
      | (refine wp_exit ?_)
      | (refine wp_skip ?_)
      | (refine wp_ret ?_)
      | (refine opq_out (by assumption) ?_; simp only [Exit.then, Exit.inBlock, Nat.reduceEqDiff, reduceIte])
      | (refine is_region ?_; go_wp2))
    refine opq_out hQ ?_
    refine bodyPost_ret (results_tmp rfl _ _ _) rfl ?_
    exact ⟨rfl, rfl⟩
  · first | exact i6_wrap _ | exact i6_bits _ _ _ | exact i6_kw _ | exact i6_shr' _ ha | exact i6_tmod' _ hb (by assumption) | assumption | (unfold I6 at *; omega) | (unfold I6 Wd.mn at *; split <;> omega) | (unfold I6 Wd.mx at *; split <;> omega)
set_option maxHeartbeats 4000000 in
set_option maxRecDepth 100000 in
theorem sone_13 {a r : Int} {m : Nat} (hm : 0 < m) (ha : I6 a) (h : Wd.word_one.f m 13 a = some r) : (∀ W, Tab W → Calls Tryd.prog 89 #[.int .i64 13, .int .i64 a] W fun e w' => e = .returned (.int .i64 r) ∧ w' = W) ∧ I6 r := by
  simp only [Wd.word_one.f, Int.reduceEq, if_true, if_false] at h
  obtain rfl := Option.some.inj h
  clear h
  refine ⟨fun W hT => ?_, ?_⟩
  · go_enter Tryd.func89, Tryd.ntmps89
    refine opq (fun Q hQ => ?_)
    repeat (first
      | (refine wp_block ?_; refine opq (fun Q' hQ' => ?_))
      | (refine wp_seq ?_; refine opq (fun Q' hQ' => ?_))
      | (refine wp_cond_true rfl ?_)
      | (refine wp_cond_false rfl ?_)
      | (refine wp_exit ?_)
      | (refine wp_skip ?_)
      | (refine wp_ret ?_)
      | (refine opq_out (by assumption) ?_; simp only [Exit.then, Exit.inBlock, Nat.reduceEqDiff, reduceIte])
      | (refine is_region ?_; go_wp2))
    refine opq_out hQ ?_
    refine bodyPost_ret (results_tmp rfl _ _ _) rfl ?_
    exact ⟨rfl, rfl⟩
  · first | exact i6_wrap _ | exact i6_bits _ _ _ | exact i6_kw _ | exact i6_shr' _ ha | exact i6_tmod' _ hb (by assumption) | assumption | (unfold I6 at *; omega) | (unfold I6 Wd.mn at *; split <;> omega) | (unfold I6 Wd.mx at *; split <;> omega)
set_option maxHeartbeats 4000000 in
set_option maxRecDepth 100000 in
theorem sone_14 {a r : Int} {m : Nat} (hm : 0 < m) (ha : I6 a) (h : Wd.word_one.f m 14 a = some r) : (∀ W, Tab W → Calls Tryd.prog 89 #[.int .i64 14, .int .i64 a] W fun e w' => e = .returned (.int .i64 r) ∧ w' = W) ∧ I6 r := by
  simp only [Wd.word_one.f, Int.reduceEq, if_true, if_false] at h
  obtain rfl := Option.some.inj h
  clear h
  refine ⟨fun W hT => ?_, ?_⟩
  · go_enter Tryd.func89, Tryd.ntmps89
    refine opq (fun Q hQ => ?_)
    repeat (first
      | (refine wp_block ?_; refine opq (fun Q' hQ' => ?_))
      | (refine wp_seq ?_; refine opq (fun Q' hQ' => ?_))
      | (refine wp_cond_true rfl ?_)
      | (refine wp_cond_false rfl ?_)
      | (refine wp_exit ?_)
      | (refine wp_skip ?_)
      | (refine wp_ret ?_)
      | (refine opq_out (by assumption) ?_; simp only [Exit.then, Exit.inBlock, Nat.reduceEqDiff, reduceIte])
      | (refine is_region ?_; go_wp2))
    refine opq_out hQ ?_
    refine bodyPost_ret (results_tmp rfl _ _ _) rfl ?_
    exact ⟨rfl, rfl⟩
  · first | exact i6_wrap _ | exact i6_bits _ _ _ | exact i6_kw _ | exact i6_shr' _ ha | exact i6_tmod' _ hb (by assumption) | assumption | (unfold I6 at *; omega) | (unfold I6 Wd.mn at *; split <;> omega) | (unfold I6 Wd.mx at *; split <;> omega)
set_option maxHeartbeats 4000000 in
set_option maxRecDepth 100000 in
theorem sone_15 {a r : Int} {m : Nat} (hm : 0 < m) (ha : I6 a) (h : Wd.word_one.f m 15 a = some r) : (∀ W, Tab W → Calls Tryd.prog 89 #[.int .i64 15, .int .i64 a] W fun e w' => e = .returned (.int .i64 r) ∧ w' = W) ∧ I6 r := by
  simp only [Wd.word_one.f, Int.reduceEq, if_true, if_false] at h
  obtain rfl := Option.some.inj h
  clear h
  refine ⟨fun W hT => ?_, ?_⟩
  · go_enter Tryd.func89, Tryd.ntmps89
    refine opq (fun Q hQ => ?_)
    repeat (first
      | (refine wp_block ?_; refine opq (fun Q' hQ' => ?_))
      | (refine wp_seq ?_; refine opq (fun Q' hQ' => ?_))
      | (refine wp_cond_true rfl ?_)
      | (refine wp_cond_false rfl ?_)
      | (refine wp_exit ?_)
      | (refine wp_skip ?_)
      | (refine wp_ret ?_)
      | (refine opq_out (by assumption) ?_; simp only [Exit.then, Exit.inBlock, Nat.reduceEqDiff, reduceIte])
      | (refine is_region ?_; go_wp2))
    refine opq_out hQ ?_
    refine bodyPost_ret (results_tmp rfl _ _ _) rfl ?_
    exact ⟨rfl, rfl⟩
  · first | exact i6_wrap _ | exact i6_bits _ _ _ | exact i6_kw _ | exact i6_shr' _ ha | exact i6_tmod' _ hb (by assumption) | assumption | (unfold I6 at *; omega) | (unfold I6 Wd.mn at *; split <;> omega) | (unfold I6 Wd.mx at *; split <;> omega)
set_option maxHeartbeats 4000000 in
set_option maxRecDepth 100000 in
theorem sone_3 {a r : Int} {m : Nat} (hm : 0 < m) (ha : I6 a) (h : Wd.word_one.f m 3 a = some r) : (∀ W, Tab W → Calls Tryd.prog 89 #[.int .i64 3, .int .i64 a] W fun e w' => e = .returned (.int .i64 r) ∧ w' = W) ∧ I6 r := by
  simp only [Wd.word_one.f, Int.reduceEq, if_true, if_false] at h
  by_cases c : a ≥ 0
  · rw [if_pos c] at h
    obtain rfl := Option.some.inj h
    clear h
    have d : decide (0 ≤ a) = true := by simpa using c
    clear c
    refine ⟨fun W hT => ?_, ?_⟩
    · go_enter Tryd.func89, Tryd.ntmps89
      refine opq (fun Q hQ => ?_)
      repeat (first
        | (refine wp_block ?_; refine opq (fun Q' hQ' => ?_))
        | (refine wp_seq ?_; refine opq (fun Q' hQ' => ?_))
        | (refine wp_cond_true rfl ?_)
        | (refine wp_cond_false rfl ?_)
        | (refine wp_exit ?_)
        | (refine wp_skip ?_)
        | (refine wp_ret ?_)
        | (refine opq_out (by assumption) ?_; simp only [Exit.then, Exit.inBlock, Nat.reduceEqDiff, reduceIte])
        | (refine is_region ?_; go_wp2))
      refine opq_out hQ ?_
      refine bodyPost_ret (results_tmp rfl _ _ _) rfl ?_
      exact ⟨rfl, rfl⟩
    · first | exact i6_wrap _ | exact i6_bits _ _ _ | exact i6_kw _ | exact i6_shr' _ ha | exact i6_tmod' _ hb (by assumption) | assumption | (unfold I6 at *; omega) | (unfold I6 Wd.mn at *; split <;> omega) | (unfold I6 Wd.mx at *; split <;> omega)
  · rw [if_neg c] at h
    obtain rfl := Option.some.inj h
    clear h
    have d : decide (0 ≤ a) = false := by simpa using c
    clear c
    refine ⟨fun W hT => ?_, ?_⟩
    · go_enter Tryd.func89, Tryd.ntmps89
      refine opq (fun Q hQ => ?_)
      repeat (first
        | (refine wp_block ?_; refine opq (fun Q' hQ' => ?_))
        | (refine wp_seq ?_; refine opq (fun Q' hQ' => ?_))
        | (refine wp_cond_true rfl ?_)
        | (refine wp_cond_false rfl ?_)
        | (refine wp_exit ?_)
        | (refine wp_skip ?_)
        | (refine wp_ret ?_)
        | (refine opq_out (by assumption) ?_; simp only [Exit.then, Exit.inBlock, Nat.reduceEqDiff, reduceIte])
        | (refine is_region ?_; go_wp2))
      refine opq_out hQ ?_
      refine bodyPost_ret (results_tmp rfl _ _ _) rfl ?_
      exact ⟨rfl, rfl⟩
    · first | exact i6_wrap _ | exact i6_bits _ _ _ | exact i6_kw _ | exact i6_shr' _ ha | exact i6_tmod' _ hb (by assumption) | assumption | (unfold I6 at *; omega) | (unfold I6 Wd.mn at *; split <;> omega) | (unfold I6 Wd.mx at *; split <;> omega)
set_option maxHeartbeats 4000000 in
set_option maxRecDepth 100000 in
theorem sone_4 {a r : Int} {m : Nat} (hm : 0 < m) (ha : I6 a) (h : Wd.word_one.f m 4 a = some r) : (∀ W, Tab W → Calls Tryd.prog 89 #[.int .i64 4, .int .i64 a] W fun e w' => e = .returned (.int .i64 r) ∧ w' = W) ∧ I6 r := by
  simp only [Wd.word_one.f, Int.reduceEq, if_true, if_false] at h
  obtain ⟨t, ht, h⟩ := Option.bind_eq_some_iff.1 h
  obtain rfl := Option.some.inj h
  clear h
  refine ⟨fun W hT => ?_, ?_⟩
  · go_enter Tryd.func89, Tryd.ntmps89
    refine opq (fun Q hQ => ?_)
    repeat (first
      | (refine wp_block ?_; refine opq (fun Q' hQ' => ?_))
      | (refine wp_seq ?_; refine opq (fun Q' hQ' => ?_))
      | (refine wp_cond_true rfl ?_)
      | (refine wp_cond_false rfl ?_)
      | (refine wp_exit ?_)
      | (refine wp_skip ?_)
      | (refine wp_ret ?_)
      | (refine opq_out (by assumption) ?_; simp only [Exit.then, Exit.inBlock, Nat.reduceEqDiff, reduceIte])
      | (refine is_region ?_; go_wp2_with (first | (go_at_call 105; ((with_reducible refine (sones_walk ht _).mono ?_); rintro e w' ⟨rfl, rfl⟩)))))
    refine opq_out hQ ?_
    refine bodyPost_ret (results_tmp rfl _ _ _) rfl ?_
    exact ⟨rfl, rfl⟩
  · exact i6_ones ht
set_option maxHeartbeats 4000000 in
set_option maxRecDepth 100000 in
theorem sone_5 {a r : Int} {m : Nat} (hm : 0 < m) (ha : I6 a) (h : Wd.word_one.f m 5 a = some r) : (∀ W, Tab W → Calls Tryd.prog 89 #[.int .i64 5, .int .i64 a] W fun e w' => e = .returned (.int .i64 r) ∧ w' = W) ∧ I6 r := by
  simp only [Wd.word_one.f, Int.reduceEq, if_true, if_false] at h
  obtain ⟨t, ht, h⟩ := Option.bind_eq_some_iff.1 h
  obtain rfl := Option.some.inj h
  clear h
  refine ⟨fun W hT => ?_, ?_⟩
  · go_enter Tryd.func89, Tryd.ntmps89
    refine opq (fun Q hQ => ?_)
    repeat (first
      | (refine wp_block ?_; refine opq (fun Q' hQ' => ?_))
      | (refine wp_seq ?_; refine opq (fun Q' hQ' => ?_))
      | (refine wp_cond_true rfl ?_)
      | (refine wp_cond_false rfl ?_)
      | (refine wp_exit ?_)
      | (refine wp_skip ?_)
      | (refine wp_ret ?_)
      | (refine opq_out (by assumption) ?_; simp only [Exit.then, Exit.inBlock, Nat.reduceEqDiff, reduceIte])
      | (refine is_region ?_; go_wp2_with (first | (go_at_call 106; ((with_reducible refine (slead_walk hm (u6_wrap a) ht _).mono ?_); rintro e w' ⟨rfl, rfl⟩)))))
    refine opq_out hQ ?_
    refine bodyPost_ret (results_tmp rfl _ _ _) rfl ?_
    exact ⟨rfl, rfl⟩
  · exact i6_lead hm (u6_wrap a) ht
set_option maxHeartbeats 4000000 in
set_option maxRecDepth 100000 in
theorem sone_6 {a r : Int} {m : Nat} (hm : 0 < m) (ha : I6 a) (h : Wd.word_one.f m 6 a = some r) : (∀ W, Tab W → Calls Tryd.prog 89 #[.int .i64 6, .int .i64 a] W fun e w' => e = .returned (.int .i64 r) ∧ w' = W) ∧ I6 r := by
  simp only [Wd.word_one.f, Int.reduceEq, if_true, if_false] at h
  obtain ⟨t, ht, h⟩ := Option.bind_eq_some_iff.1 h
  obtain rfl := Option.some.inj h
  clear h
  refine ⟨fun W hT => ?_, ?_⟩
  · go_enter Tryd.func89, Tryd.ntmps89
    refine opq (fun Q hQ => ?_)
    repeat (first
      | (refine wp_block ?_; refine opq (fun Q' hQ' => ?_))
      | (refine wp_seq ?_; refine opq (fun Q' hQ' => ?_))
      | (refine wp_cond_true rfl ?_)
      | (refine wp_cond_false rfl ?_)
      | (refine wp_exit ?_)
      | (refine wp_skip ?_)
      | (refine wp_ret ?_)
      | (refine opq_out (by assumption) ?_; simp only [Exit.then, Exit.inBlock, Nat.reduceEqDiff, reduceIte])
      | (refine is_region ?_; go_wp2_with (first | (go_at_call 103; ((with_reducible refine (strail_walk ht _ hT).mono ?_); rintro e w' ⟨rfl, rfl⟩)))))
    refine opq_out hQ ?_
    refine bodyPost_ret (results_tmp rfl _ _ _) rfl ?_
    exact ⟨rfl, rfl⟩
  · exact i6_trail ht
set_option maxHeartbeats 4000000 in
set_option maxRecDepth 100000 in
theorem sone_7 {a r : Int} {m : Nat} (hm : 0 < m) (ha : I6 a) (h : Wd.word_one.f m 7 a = some r) : (∀ W, Tab W → Calls Tryd.prog 89 #[.int .i64 7, .int .i64 a] W fun e w' => e = .returned (.int .i64 r) ∧ w' = W) ∧ I6 r := by
  simp only [Wd.word_one.f, Int.reduceEq, if_true, if_false] at h
  obtain ⟨t, ht, h⟩ := Option.bind_eq_some_iff.1 h
  obtain rfl := Option.some.inj h
  clear h
  refine ⟨fun W hT => ?_, ?_⟩
  · go_enter Tryd.func89, Tryd.ntmps89
    refine opq (fun Q hQ => ?_)
    repeat (first
      | (refine wp_block ?_; refine opq (fun Q' hQ' => ?_))
      | (refine wp_seq ?_; refine opq (fun Q' hQ' => ?_))
      | (refine wp_cond_true rfl ?_)
      | (refine wp_cond_false rfl ?_)
      | (refine wp_exit ?_)
      | (refine wp_skip ?_)
      | (refine wp_ret ?_)
      | (refine opq_out (by assumption) ?_; simp only [Exit.then, Exit.inBlock, Nat.reduceEqDiff, reduceIte])
      | (refine is_region ?_; go_wp2_with (first | (go_at_call 107; ((with_reducible refine (sflip_walk ht _).mono ?_); rintro e w' ⟨rfl, rfl⟩)))))
    refine opq_out hQ ?_
    refine bodyPost_ret (results_tmp rfl _ _ _) rfl ?_
    exact ⟨rfl, rfl⟩
  · exact i6_flip ht
set_option maxHeartbeats 4000000 in
set_option maxRecDepth 100000 in
theorem sone_8 {a r : Int} {m : Nat} (hm : 0 < m) (ha : I6 a) (h : Wd.word_one.f m 8 a = some r) : (∀ W, Tab W → Calls Tryd.prog 89 #[.int .i64 8, .int .i64 a] W fun e w' => e = .returned (.int .i64 r) ∧ w' = W) ∧ I6 r := by
  simp only [Wd.word_one.f, Int.reduceEq, if_true, if_false] at h
  obtain ⟨t, ht, h⟩ := Option.bind_eq_some_iff.1 h
  obtain rfl := Option.some.inj h
  clear h
  have hi := i6_yes ht
  by_cases c : a = 0
  · subst c
    have ht : Wd.word_yes.f false = some _ := ht
    refine ⟨fun W hT => ?_, ?_⟩
    · go_enter Tryd.func89, Tryd.ntmps89
      refine opq (fun Q hQ => ?_)
      repeat (first
        | (refine wp_block ?_; refine opq (fun Q' hQ' => ?_))
        | (refine wp_seq ?_; refine opq (fun Q' hQ' => ?_))
        | (refine wp_cond_true rfl ?_)
        | (refine wp_cond_false rfl ?_)
        | (refine wp_exit ?_)
        | (refine wp_skip ?_)
        | (refine wp_ret ?_)
        | (refine opq_out (by assumption) ?_; simp only [Exit.then, Exit.inBlock, Nat.reduceEqDiff, reduceIte])
        | (refine is_region ?_; go_wp2_with (first | (go_at_call 108; ((with_reducible refine (syes_walk ht _).mono ?_); rintro e w' ⟨rfl, rfl⟩)))))
      refine opq_out hQ ?_
      refine bodyPost_ret (results_tmp rfl _ _ _) rfl ?_
      exact ⟨rfl, rfl⟩
    · exact hi
  · have e1 : (a == 0) = false := by simpa using c
    have e2 : (a != 0) = true := by simpa using c
    rw [e2] at ht
    clear c
    refine ⟨fun W hT => ?_, ?_⟩
    · go_enter Tryd.func89, Tryd.ntmps89
      refine opq (fun Q hQ => ?_)
      repeat (first
        | (refine wp_block ?_; refine opq (fun Q' hQ' => ?_))
        | (refine wp_seq ?_; refine opq (fun Q' hQ' => ?_))
        | (refine wp_cond_true rfl ?_)
        | (refine wp_cond_false rfl ?_)
        | (refine wp_exit ?_)
        | (refine wp_skip ?_)
        | (refine wp_ret ?_)
        | (refine opq_out (by assumption) ?_; simp only [Exit.then, Exit.inBlock, Nat.reduceEqDiff, reduceIte])
        | (refine is_region ?_; go_wp2_with (first | (go_at_call 108; ((with_reducible refine (syes_walk ht _).mono ?_); rintro e w' ⟨rfl, rfl⟩)))))
      refine opq_out hQ ?_
      refine bodyPost_ret (results_tmp rfl _ _ _) rfl ?_
      exact ⟨rfl, rfl⟩
    · exact hi
set_option maxHeartbeats 4000000 in
set_option maxRecDepth 100000 in
theorem sone_9 {a r : Int} {m : Nat} (hm : 0 < m) (ha : I6 a) (h : Wd.word_one.f m 9 a = some r) : (∀ W, Tab W → Calls Tryd.prog 89 #[.int .i64 9, .int .i64 a] W fun e w' => e = .returned (.int .i64 r) ∧ w' = W) ∧ I6 r := by
  simp only [Wd.word_one.f, Int.reduceEq, if_true, if_false] at h
  obtain ⟨t, ht, h⟩ := Option.bind_eq_some_iff.1 h
  obtain rfl := Option.some.inj h
  clear h
  have hi := i6_yes ht
  by_cases c : a = 0
  · subst c
    have ht : Wd.word_yes.f true = some _ := ht
    refine ⟨fun W hT => ?_, ?_⟩
    · go_enter Tryd.func89, Tryd.ntmps89
      refine opq (fun Q hQ => ?_)
      repeat (first
        | (refine wp_block ?_; refine opq (fun Q' hQ' => ?_))
        | (refine wp_seq ?_; refine opq (fun Q' hQ' => ?_))
        | (refine wp_cond_true rfl ?_)
        | (refine wp_cond_false rfl ?_)
        | (refine wp_exit ?_)
        | (refine wp_skip ?_)
        | (refine wp_ret ?_)
        | (refine opq_out (by assumption) ?_; simp only [Exit.then, Exit.inBlock, Nat.reduceEqDiff, reduceIte])
        | (refine is_region ?_; go_wp2_with (first | (go_at_call 108; ((with_reducible refine (syes_walk ht _).mono ?_); rintro e w' ⟨rfl, rfl⟩)))))
      refine opq_out hQ ?_
      refine bodyPost_ret (results_tmp rfl _ _ _) rfl ?_
      exact ⟨rfl, rfl⟩
    · exact hi
  · have e1 : (a == 0) = false := by simpa using c
    have e2 : (a != 0) = true := by simpa using c
    rw [e1] at ht
    clear c
    refine ⟨fun W hT => ?_, ?_⟩
    · go_enter Tryd.func89, Tryd.ntmps89
      refine opq (fun Q hQ => ?_)
      repeat (first
        | (refine wp_block ?_; refine opq (fun Q' hQ' => ?_))
        | (refine wp_seq ?_; refine opq (fun Q' hQ' => ?_))
        | (refine wp_cond_true rfl ?_)
        | (refine wp_cond_false rfl ?_)
        | (refine wp_exit ?_)
        | (refine wp_skip ?_)
        | (refine wp_ret ?_)
        | (refine opq_out (by assumption) ?_; simp only [Exit.then, Exit.inBlock, Nat.reduceEqDiff, reduceIte])
        | (refine is_region ?_; go_wp2_with (first | (go_at_call 108; ((with_reducible refine (syes_walk ht _).mono ?_); rintro e w' ⟨rfl, rfl⟩)))))
      refine opq_out hQ ?_
      refine bodyPost_ret (results_tmp rfl _ _ _) rfl ?_
      exact ⟨rfl, rfl⟩
    · exact hi
set_option maxHeartbeats 4000000 in
set_option maxRecDepth 100000 in
theorem stwo_16 {a b : Int} {r : Int} (ha : I6 a) (hb : I6 b) (h : Wd.word_two.f 16 a b = some r) : (∀ W, Tab W → Calls Tryd.prog 92 #[.int .i64 16, .int .i64 a, .int .i64 b] W fun e w' => e = .returned (.int .i64 r) ∧ w' = W) ∧ I6 r := by
  simp only [Wd.word_two.f, Int.reduceEq, if_true, if_false] at h
  obtain rfl := Option.some.inj h
  clear h
  refine ⟨fun W hT => ?_, ?_⟩
  · go_enter Tryd.func92, Tryd.ntmps92
    refine opq (fun Q hQ => ?_)
    repeat (first
      | (refine wp_block ?_; refine opq (fun Q' hQ' => ?_))
      | (refine wp_seq ?_; refine opq (fun Q' hQ' => ?_))
      | (refine wp_cond_true rfl ?_)
      | (refine wp_cond_false rfl ?_)
      | (refine wp_exit ?_)
      | (refine wp_skip ?_)
      | (refine wp_ret ?_)
      | (refine opq_out (by assumption) ?_; simp only [Exit.then, Exit.inBlock, Nat.reduceEqDiff, reduceIte])
      | (refine is_region ?_; go_wp2))
    refine opq_out hQ ?_
    refine bodyPost_ret (results_tmp rfl _ _ _) rfl ?_
    exact ⟨rfl, rfl⟩
  · first | exact i6_wrap _ | exact i6_bits _ _ _ | exact i6_kw _ | exact i6_shr' _ ha | exact i6_tmod' _ hb (by assumption) | assumption | (unfold I6 at *; omega) | (unfold I6 Wd.mn at *; split <;> omega) | (unfold I6 Wd.mx at *; split <;> omega)
set_option maxHeartbeats 4000000 in
set_option maxRecDepth 100000 in
theorem stwo_17 {a b : Int} {r : Int} (ha : I6 a) (hb : I6 b) (h : Wd.word_two.f 17 a b = some r) : (∀ W, Tab W → Calls Tryd.prog 92 #[.int .i64 17, .int .i64 a, .int .i64 b] W fun e w' => e = .returned (.int .i64 r) ∧ w' = W) ∧ I6 r := by
  simp only [Wd.word_two.f, Int.reduceEq, if_true, if_false] at h
  obtain rfl := Option.some.inj h
  clear h
  refine ⟨fun W hT => ?_, ?_⟩
  · go_enter Tryd.func92, Tryd.ntmps92
    refine opq (fun Q hQ => ?_)
    repeat (first
      | (refine wp_block ?_; refine opq (fun Q' hQ' => ?_))
      | (refine wp_seq ?_; refine opq (fun Q' hQ' => ?_))
      | (refine wp_cond_true rfl ?_)
      | (refine wp_cond_false rfl ?_)
      | (refine wp_exit ?_)
      | (refine wp_skip ?_)
      | (refine wp_ret ?_)
      | (refine opq_out (by assumption) ?_; simp only [Exit.then, Exit.inBlock, Nat.reduceEqDiff, reduceIte])
      | (refine is_region ?_; go_wp2))
    refine opq_out hQ ?_
    refine bodyPost_ret (results_tmp rfl _ _ _) rfl ?_
    exact ⟨rfl, rfl⟩
  · first | exact i6_wrap _ | exact i6_bits _ _ _ | exact i6_kw _ | exact i6_shr' _ ha | exact i6_tmod' _ hb (by assumption) | assumption | (unfold I6 at *; omega) | (unfold I6 Wd.mn at *; split <;> omega) | (unfold I6 Wd.mx at *; split <;> omega)
set_option maxHeartbeats 4000000 in
set_option maxRecDepth 100000 in
theorem stwo_18 {a b : Int} {r : Int} (ha : I6 a) (hb : I6 b) (h : Wd.word_two.f 18 a b = some r) : (∀ W, Tab W → Calls Tryd.prog 92 #[.int .i64 18, .int .i64 a, .int .i64 b] W fun e w' => e = .returned (.int .i64 r) ∧ w' = W) ∧ I6 r := by
  simp only [Wd.word_two.f, Int.reduceEq, if_true, if_false] at h
  obtain rfl := Option.some.inj h
  clear h
  refine ⟨fun W hT => ?_, ?_⟩
  · go_enter Tryd.func92, Tryd.ntmps92
    refine opq (fun Q hQ => ?_)
    repeat (first
      | (refine wp_block ?_; refine opq (fun Q' hQ' => ?_))
      | (refine wp_seq ?_; refine opq (fun Q' hQ' => ?_))
      | (refine wp_cond_true rfl ?_)
      | (refine wp_cond_false rfl ?_)
      | (refine wp_exit ?_)
      | (refine wp_skip ?_)
      | (refine wp_ret ?_)
      | (refine opq_out (by assumption) ?_; simp only [Exit.then, Exit.inBlock, Nat.reduceEqDiff, reduceIte])
      | (refine is_region ?_; go_wp2))
    refine opq_out hQ ?_
    refine bodyPost_ret (results_tmp rfl _ _ _) rfl ?_
    exact ⟨rfl, rfl⟩
  · first | exact i6_wrap _ | exact i6_bits _ _ _ | exact i6_kw _ | exact i6_shr' _ ha | exact i6_tmod' _ hb (by assumption) | assumption | (unfold I6 at *; omega) | (unfold I6 Wd.mn at *; split <;> omega) | (unfold I6 Wd.mx at *; split <;> omega)
set_option maxHeartbeats 4000000 in
set_option maxRecDepth 100000 in
theorem stwo_21 {a b : Int} {r : Int} (ha : I6 a) (hb : I6 b) (h : Wd.word_two.f 21 a b = some r) : (∀ W, Tab W → Calls Tryd.prog 92 #[.int .i64 21, .int .i64 a, .int .i64 b] W fun e w' => e = .returned (.int .i64 r) ∧ w' = W) ∧ I6 r := by
  simp only [Wd.word_two.f, Int.reduceEq, if_true, if_false] at h
  obtain rfl := Option.some.inj h
  clear h
  refine ⟨fun W hT => ?_, ?_⟩
  · go_enter Tryd.func92, Tryd.ntmps92
    refine opq (fun Q hQ => ?_)
    repeat (first
      | (refine wp_block ?_; refine opq (fun Q' hQ' => ?_))
      | (refine wp_seq ?_; refine opq (fun Q' hQ' => ?_))
      | (refine wp_cond_true rfl ?_)
      | (refine wp_cond_false rfl ?_)
      | (refine wp_exit ?_)
      | (refine wp_skip ?_)
      | (refine wp_ret ?_)
      | (refine opq_out (by assumption) ?_; simp only [Exit.then, Exit.inBlock, Nat.reduceEqDiff, reduceIte])
      | (refine is_region ?_; go_wp2))
    refine opq_out hQ ?_
    refine bodyPost_ret (results_tmp rfl _ _ _) rfl ?_
    exact ⟨rfl, rfl⟩
  · first | exact i6_wrap _ | exact i6_bits _ _ _ | exact i6_kw _ | exact i6_shr' _ ha | exact i6_tmod' _ hb (by assumption) | assumption | (unfold I6 at *; omega) | (unfold I6 Wd.mn at *; split <;> omega) | (unfold I6 Wd.mx at *; split <;> omega)
set_option maxHeartbeats 4000000 in
set_option maxRecDepth 100000 in
theorem stwo_22 {a b : Int} {r : Int} (ha : I6 a) (hb : I6 b) (h : Wd.word_two.f 22 a b = some r) : (∀ W, Tab W → Calls Tryd.prog 92 #[.int .i64 22, .int .i64 a, .int .i64 b] W fun e w' => e = .returned (.int .i64 r) ∧ w' = W) ∧ I6 r := by
  simp only [Wd.word_two.f, Int.reduceEq, if_true, if_false] at h
  obtain rfl := Option.some.inj h
  clear h
  refine ⟨fun W hT => ?_, ?_⟩
  · go_enter Tryd.func92, Tryd.ntmps92
    refine opq (fun Q hQ => ?_)
    repeat (first
      | (refine wp_block ?_; refine opq (fun Q' hQ' => ?_))
      | (refine wp_seq ?_; refine opq (fun Q' hQ' => ?_))
      | (refine wp_cond_true rfl ?_)
      | (refine wp_cond_false rfl ?_)
      | (refine wp_exit ?_)
      | (refine wp_skip ?_)
      | (refine wp_ret ?_)
      | (refine opq_out (by assumption) ?_; simp only [Exit.then, Exit.inBlock, Nat.reduceEqDiff, reduceIte])
      | (refine is_region ?_; go_wp2))
    refine opq_out hQ ?_
    refine bodyPost_ret (results_tmp rfl _ _ _) rfl ?_
    exact ⟨rfl, rfl⟩
  · first | exact i6_wrap _ | exact i6_bits _ _ _ | exact i6_kw _ | exact i6_shr' _ ha | exact i6_tmod' _ hb (by assumption) | assumption | (unfold I6 at *; omega) | (unfold I6 Wd.mn at *; split <;> omega) | (unfold I6 Wd.mx at *; split <;> omega)
set_option maxHeartbeats 4000000 in
set_option maxRecDepth 100000 in
theorem stwo_23 {a b : Int} {r : Int} (ha : I6 a) (hb : I6 b) (h : Wd.word_two.f 23 a b = some r) : (∀ W, Tab W → Calls Tryd.prog 92 #[.int .i64 23, .int .i64 a, .int .i64 b] W fun e w' => e = .returned (.int .i64 r) ∧ w' = W) ∧ I6 r := by
  simp only [Wd.word_two.f, Int.reduceEq, if_true, if_false] at h
  obtain rfl := Option.some.inj h
  clear h
  refine ⟨fun W hT => ?_, ?_⟩
  · go_enter Tryd.func92, Tryd.ntmps92
    refine opq (fun Q hQ => ?_)
    repeat (first
      | (refine wp_block ?_; refine opq (fun Q' hQ' => ?_))
      | (refine wp_seq ?_; refine opq (fun Q' hQ' => ?_))
      | (refine wp_cond_true rfl ?_)
      | (refine wp_cond_false rfl ?_)
      | (refine wp_exit ?_)
      | (refine wp_skip ?_)
      | (refine wp_ret ?_)
      | (refine opq_out (by assumption) ?_; simp only [Exit.then, Exit.inBlock, Nat.reduceEqDiff, reduceIte])
      | (refine is_region ?_; go_wp2))
    refine opq_out hQ ?_
    refine bodyPost_ret (results_tmp rfl _ _ _) rfl ?_
    exact ⟨rfl, rfl⟩
  · first | exact i6_wrap _ | exact i6_bits _ _ _ | exact i6_kw _ | exact i6_shr' _ ha | exact i6_tmod' _ hb (by assumption) | assumption | (unfold I6 at *; omega) | (unfold I6 Wd.mn at *; split <;> omega) | (unfold I6 Wd.mx at *; split <;> omega)
set_option maxHeartbeats 4000000 in
set_option maxRecDepth 100000 in
theorem stwo_24 {a b : Int} {r : Int} (ha : I6 a) (hb : I6 b) (h : Wd.word_two.f 24 a b = some r) : (∀ W, Tab W → Calls Tryd.prog 92 #[.int .i64 24, .int .i64 a, .int .i64 b] W fun e w' => e = .returned (.int .i64 r) ∧ w' = W) ∧ I6 r := by
  simp only [Wd.word_two.f, Int.reduceEq, if_true, if_false] at h
  obtain rfl := Option.some.inj h
  clear h
  refine ⟨fun W hT => ?_, ?_⟩
  · go_enter Tryd.func92, Tryd.ntmps92
    refine opq (fun Q hQ => ?_)
    repeat (first
      | (refine wp_block ?_; refine opq (fun Q' hQ' => ?_))
      | (refine wp_seq ?_; refine opq (fun Q' hQ' => ?_))
      | (refine wp_cond_true rfl ?_)
      | (refine wp_cond_false rfl ?_)
      | (refine wp_exit ?_)
      | (refine wp_skip ?_)
      | (refine wp_ret ?_)
      | (refine opq_out (by assumption) ?_; simp only [Exit.then, Exit.inBlock, Nat.reduceEqDiff, reduceIte])
      | (refine is_region ?_; go_wp2))
    refine opq_out hQ ?_
    refine bodyPost_ret (results_tmp rfl _ _ _) rfl ?_
    exact ⟨rfl, rfl⟩
  · first | exact i6_wrap _ | exact i6_bits _ _ _ | exact i6_kw _ | exact i6_shr' _ ha | exact i6_tmod' _ hb (by assumption) | assumption | (unfold I6 at *; omega) | (unfold I6 Wd.mn at *; split <;> omega) | (unfold I6 Wd.mx at *; split <;> omega)
set_option maxHeartbeats 4000000 in
set_option maxRecDepth 100000 in
theorem stwo_28 {a b : Int} {r : Int} (ha : I6 a) (hb : I6 b) (h : Wd.word_two.f 28 a b = some r) : (∀ W, Tab W → Calls Tryd.prog 92 #[.int .i64 28, .int .i64 a, .int .i64 b] W fun e w' => e = .returned (.int .i64 r) ∧ w' = W) ∧ I6 r := by
  simp only [Wd.word_two.f, Int.reduceEq, if_true, if_false] at h
  obtain ⟨t, ht, h⟩ := Option.bind_eq_some_iff.1 h
  obtain rfl := Option.some.inj h
  clear h
  refine ⟨fun W hT => ?_, ?_⟩
  · go_enter Tryd.func92, Tryd.ntmps92
    refine opq (fun Q hQ => ?_)
    repeat (first
      | (refine wp_block ?_; refine opq (fun Q' hQ' => ?_))
      | (refine wp_seq ?_; refine opq (fun Q' hQ' => ?_))
      | (refine wp_cond_true rfl ?_)
      | (refine wp_cond_false rfl ?_)
      | (refine wp_exit ?_)
      | (refine wp_skip ?_)
      | (refine wp_ret ?_)
      | (refine opq_out (by assumption) ?_; simp only [Exit.then, Exit.inBlock, Nat.reduceEqDiff, reduceIte])
      | (refine is_region ?_; go_wp2_with (first | (go_at_call 109; ((with_reducible refine (srotl_walk ht _).mono ?_); rintro e w' ⟨rfl, rfl⟩)))))
    refine opq_out hQ ?_
    refine bodyPost_ret (results_tmp rfl _ _ _) rfl ?_
    exact ⟨rfl, rfl⟩
  · first | exact i6_wrap _ | exact i6_bits _ _ _ | exact i6_kw _ | exact i6_shr' _ ha | exact i6_tmod' _ hb (by assumption) | assumption | (unfold I6 at *; omega) | (unfold I6 Wd.mn at *; split <;> omega) | (unfold I6 Wd.mx at *; split <;> omega)
set_option maxHeartbeats 4000000 in
set_option maxRecDepth 100000 in
theorem stwo_29 {a b : Int} {r : Int} (ha : I6 a) (hb : I6 b) (h : Wd.word_two.f 29 a b = some r) : (∀ W, Tab W → Calls Tryd.prog 92 #[.int .i64 29, .int .i64 a, .int .i64 b] W fun e w' => e = .returned (.int .i64 r) ∧ w' = W) ∧ I6 r := by
  simp only [Wd.word_two.f, Int.reduceEq, if_true, if_false] at h
  obtain ⟨t, ht, h⟩ := Option.bind_eq_some_iff.1 h
  obtain rfl := Option.some.inj h
  clear h
  have hi := i6_yes ht
  by_cases c : a = b
  · have d : (a == b) = true := by simpa using c
    have d2 : (a != b) = false := by simpa using c
    rw [d] at ht
    clear c
    refine ⟨fun W hT => ?_, ?_⟩
    · go_enter Tryd.func92, Tryd.ntmps92
      refine opq (fun Q hQ => ?_)
      repeat (first
        | (refine wp_block ?_; refine opq (fun Q' hQ' => ?_))
        | (refine wp_seq ?_; refine opq (fun Q' hQ' => ?_))
        | (refine wp_cond_true rfl ?_)
        | (refine wp_cond_false rfl ?_)
        | (refine wp_exit ?_)
        | (refine wp_skip ?_)
        | (refine wp_ret ?_)
        | (refine opq_out (by assumption) ?_; simp only [Exit.then, Exit.inBlock, Nat.reduceEqDiff, reduceIte])
        | (refine is_region ?_; go_wp2_with (first | (go_at_call 108; ((with_reducible refine (syes_walk ht _).mono ?_); rintro e w' ⟨rfl, rfl⟩)))))
      refine opq_out hQ ?_
      refine bodyPost_ret (results_tmp rfl _ _ _) rfl ?_
      exact ⟨rfl, rfl⟩
    · exact hi
  · have d : (a == b) = false := by simpa using c
    have d2 : (a != b) = true := by simpa using c
    rw [d] at ht
    clear c
    refine ⟨fun W hT => ?_, ?_⟩
    · go_enter Tryd.func92, Tryd.ntmps92
      refine opq (fun Q hQ => ?_)
      repeat (first
        | (refine wp_block ?_; refine opq (fun Q' hQ' => ?_))
        | (refine wp_seq ?_; refine opq (fun Q' hQ' => ?_))
        | (refine wp_cond_true rfl ?_)
        | (refine wp_cond_false rfl ?_)
        | (refine wp_exit ?_)
        | (refine wp_skip ?_)
        | (refine wp_ret ?_)
        | (refine opq_out (by assumption) ?_; simp only [Exit.then, Exit.inBlock, Nat.reduceEqDiff, reduceIte])
        | (refine is_region ?_; go_wp2_with (first | (go_at_call 108; ((with_reducible refine (syes_walk ht _).mono ?_); rintro e w' ⟨rfl, rfl⟩)))))
      refine opq_out hQ ?_
      refine bodyPost_ret (results_tmp rfl _ _ _) rfl ?_
      exact ⟨rfl, rfl⟩
    · exact hi
set_option maxHeartbeats 4000000 in
set_option maxRecDepth 100000 in
theorem stwo_30 {a b : Int} {r : Int} (ha : I6 a) (hb : I6 b) (h : Wd.word_two.f 30 a b = some r) : (∀ W, Tab W → Calls Tryd.prog 92 #[.int .i64 30, .int .i64 a, .int .i64 b] W fun e w' => e = .returned (.int .i64 r) ∧ w' = W) ∧ I6 r := by
  simp only [Wd.word_two.f, Int.reduceEq, if_true, if_false] at h
  obtain ⟨t, ht, h⟩ := Option.bind_eq_some_iff.1 h
  obtain rfl := Option.some.inj h
  clear h
  have hi := i6_yes ht
  by_cases c : a = b
  · have d : (a != b) = false := by simpa using c
    have d2 : (a == b) = true := by simpa using c
    rw [d] at ht
    clear c
    refine ⟨fun W hT => ?_, ?_⟩
    · go_enter Tryd.func92, Tryd.ntmps92
      refine opq (fun Q hQ => ?_)
      repeat (first
        | (refine wp_block ?_; refine opq (fun Q' hQ' => ?_))
        | (refine wp_seq ?_; refine opq (fun Q' hQ' => ?_))
        | (refine wp_cond_true rfl ?_)
        | (refine wp_cond_false rfl ?_)
        | (refine wp_exit ?_)
        | (refine wp_skip ?_)
        | (refine wp_ret ?_)
        | (refine opq_out (by assumption) ?_; simp only [Exit.then, Exit.inBlock, Nat.reduceEqDiff, reduceIte])
        | (refine is_region ?_; go_wp2_with (first | (go_at_call 108; ((with_reducible refine (syes_walk ht _).mono ?_); rintro e w' ⟨rfl, rfl⟩)))))
      refine opq_out hQ ?_
      refine bodyPost_ret (results_tmp rfl _ _ _) rfl ?_
      exact ⟨rfl, rfl⟩
    · exact hi
  · have d : (a != b) = true := by simpa using c
    have d2 : (a == b) = false := by simpa using c
    rw [d] at ht
    clear c
    refine ⟨fun W hT => ?_, ?_⟩
    · go_enter Tryd.func92, Tryd.ntmps92
      refine opq (fun Q hQ => ?_)
      repeat (first
        | (refine wp_block ?_; refine opq (fun Q' hQ' => ?_))
        | (refine wp_seq ?_; refine opq (fun Q' hQ' => ?_))
        | (refine wp_cond_true rfl ?_)
        | (refine wp_cond_false rfl ?_)
        | (refine wp_exit ?_)
        | (refine wp_skip ?_)
        | (refine wp_ret ?_)
        | (refine opq_out (by assumption) ?_; simp only [Exit.then, Exit.inBlock, Nat.reduceEqDiff, reduceIte])
        | (refine is_region ?_; go_wp2_with (first | (go_at_call 108; ((with_reducible refine (syes_walk ht _).mono ?_); rintro e w' ⟨rfl, rfl⟩)))))
      refine opq_out hQ ?_
      refine bodyPost_ret (results_tmp rfl _ _ _) rfl ?_
      exact ⟨rfl, rfl⟩
    · exact hi
set_option maxHeartbeats 4000000 in
set_option maxRecDepth 100000 in
theorem stwo_31 {a b : Int} {r : Int} (ha : I6 a) (hb : I6 b) (h : Wd.word_two.f 31 a b = some r) : (∀ W, Tab W → Calls Tryd.prog 92 #[.int .i64 31, .int .i64 a, .int .i64 b] W fun e w' => e = .returned (.int .i64 r) ∧ w' = W) ∧ I6 r := by
  simp only [Wd.word_two.f, Int.reduceEq, if_true, if_false] at h
  obtain ⟨t, ht, h⟩ := Option.bind_eq_some_iff.1 h
  obtain rfl := Option.some.inj h
  clear h
  have hi := i6_yes ht
  by_cases c : a < b
  · have d : (decide (a < b)) = true := by simpa using c
    rw [d] at ht
    clear c
    refine ⟨fun W hT => ?_, ?_⟩
    · go_enter Tryd.func92, Tryd.ntmps92
      refine opq (fun Q hQ => ?_)
      repeat (first
        | (refine wp_block ?_; refine opq (fun Q' hQ' => ?_))
        | (refine wp_seq ?_; refine opq (fun Q' hQ' => ?_))
        | (refine wp_cond_true rfl ?_)
        | (refine wp_cond_false rfl ?_)
        | (refine wp_exit ?_)
        | (refine wp_skip ?_)
        | (refine wp_ret ?_)
        | (refine opq_out (by assumption) ?_; simp only [Exit.then, Exit.inBlock, Nat.reduceEqDiff, reduceIte])
        | (refine is_region ?_; go_wp2_with (first | (go_at_call 108; ((with_reducible refine (syes_walk ht _).mono ?_); rintro e w' ⟨rfl, rfl⟩)))))
      refine opq_out hQ ?_
      refine bodyPost_ret (results_tmp rfl _ _ _) rfl ?_
      exact ⟨rfl, rfl⟩
    · exact hi
  · have d : (decide (a < b)) = false := by simpa using c
    rw [d] at ht
    clear c
    refine ⟨fun W hT => ?_, ?_⟩
    · go_enter Tryd.func92, Tryd.ntmps92
      refine opq (fun Q hQ => ?_)
      repeat (first
        | (refine wp_block ?_; refine opq (fun Q' hQ' => ?_))
        | (refine wp_seq ?_; refine opq (fun Q' hQ' => ?_))
        | (refine wp_cond_true rfl ?_)
        | (refine wp_cond_false rfl ?_)
        | (refine wp_exit ?_)
        | (refine wp_skip ?_)
        | (refine wp_ret ?_)
        | (refine opq_out (by assumption) ?_; simp only [Exit.then, Exit.inBlock, Nat.reduceEqDiff, reduceIte])
        | (refine is_region ?_; go_wp2_with (first | (go_at_call 108; ((with_reducible refine (syes_walk ht _).mono ?_); rintro e w' ⟨rfl, rfl⟩)))))
      refine opq_out hQ ?_
      refine bodyPost_ret (results_tmp rfl _ _ _) rfl ?_
      exact ⟨rfl, rfl⟩
    · exact hi
set_option maxHeartbeats 4000000 in
set_option maxRecDepth 100000 in
theorem stwo_32 {a b : Int} {r : Int} (ha : I6 a) (hb : I6 b) (h : Wd.word_two.f 32 a b = some r) : (∀ W, Tab W → Calls Tryd.prog 92 #[.int .i64 32, .int .i64 a, .int .i64 b] W fun e w' => e = .returned (.int .i64 r) ∧ w' = W) ∧ I6 r := by
  simp only [Wd.word_two.f, Int.reduceEq, if_true, if_false] at h
  obtain ⟨t, ht, h⟩ := Option.bind_eq_some_iff.1 h
  obtain rfl := Option.some.inj h
  clear h
  have hi := i6_yes ht
  by_cases c : a ≤ b
  · have d : (decide (a ≤ b)) = true := by simpa using c
    rw [d] at ht
    clear c
    refine ⟨fun W hT => ?_, ?_⟩
    · go_enter Tryd.func92, Tryd.ntmps92
      refine opq (fun Q hQ => ?_)
      repeat (first
        | (refine wp_block ?_; refine opq (fun Q' hQ' => ?_))
        | (refine wp_seq ?_; refine opq (fun Q' hQ' => ?_))
        | (refine wp_cond_true rfl ?_)
        | (refine wp_cond_false rfl ?_)
        | (refine wp_exit ?_)
        | (refine wp_skip ?_)
        | (refine wp_ret ?_)
        | (refine opq_out (by assumption) ?_; simp only [Exit.then, Exit.inBlock, Nat.reduceEqDiff, reduceIte])
        | (refine is_region ?_; go_wp2_with (first | (go_at_call 108; ((with_reducible refine (syes_walk ht _).mono ?_); rintro e w' ⟨rfl, rfl⟩)))))
      refine opq_out hQ ?_
      refine bodyPost_ret (results_tmp rfl _ _ _) rfl ?_
      exact ⟨rfl, rfl⟩
    · exact hi
  · have d : (decide (a ≤ b)) = false := by simpa using c
    rw [d] at ht
    clear c
    refine ⟨fun W hT => ?_, ?_⟩
    · go_enter Tryd.func92, Tryd.ntmps92
      refine opq (fun Q hQ => ?_)
      repeat (first
        | (refine wp_block ?_; refine opq (fun Q' hQ' => ?_))
        | (refine wp_seq ?_; refine opq (fun Q' hQ' => ?_))
        | (refine wp_cond_true rfl ?_)
        | (refine wp_cond_false rfl ?_)
        | (refine wp_exit ?_)
        | (refine wp_skip ?_)
        | (refine wp_ret ?_)
        | (refine opq_out (by assumption) ?_; simp only [Exit.then, Exit.inBlock, Nat.reduceEqDiff, reduceIte])
        | (refine is_region ?_; go_wp2_with (first | (go_at_call 108; ((with_reducible refine (syes_walk ht _).mono ?_); rintro e w' ⟨rfl, rfl⟩)))))
      refine opq_out hQ ?_
      refine bodyPost_ret (results_tmp rfl _ _ _) rfl ?_
      exact ⟨rfl, rfl⟩
    · exact hi
set_option maxHeartbeats 4000000 in
set_option maxRecDepth 100000 in
theorem stwo_33 {a b : Int} {r : Int} (ha : I6 a) (hb : I6 b) (h : Wd.word_two.f 33 a b = some r) : (∀ W, Tab W → Calls Tryd.prog 92 #[.int .i64 33, .int .i64 a, .int .i64 b] W fun e w' => e = .returned (.int .i64 r) ∧ w' = W) ∧ I6 r := by
  simp only [Wd.word_two.f, Int.reduceEq, if_true, if_false] at h
  obtain ⟨t, ht, h⟩ := Option.bind_eq_some_iff.1 h
  obtain rfl := Option.some.inj h
  clear h
  have hi := i6_yes ht
  by_cases c : IntKind.u64.wrap a < IntKind.u64.wrap b
  · have d : (decide (IntKind.u64.wrap a < IntKind.u64.wrap b)) = true := by simpa using c
    rw [d] at ht
    clear c
    refine ⟨fun W hT => ?_, ?_⟩
    · go_enter Tryd.func92, Tryd.ntmps92
      refine opq (fun Q hQ => ?_)
      repeat (first
        | (refine wp_block ?_; refine opq (fun Q' hQ' => ?_))
        | (refine wp_seq ?_; refine opq (fun Q' hQ' => ?_))
        | (refine wp_cond_true rfl ?_)
        | (refine wp_cond_false rfl ?_)
        | (refine wp_exit ?_)
        | (refine wp_skip ?_)
        | (refine wp_ret ?_)
        | (refine opq_out (by assumption) ?_; simp only [Exit.then, Exit.inBlock, Nat.reduceEqDiff, reduceIte])
        | (refine is_region ?_; go_wp2_with (first | (go_at_call 108; ((with_reducible refine (syes_walk ht _).mono ?_); rintro e w' ⟨rfl, rfl⟩)))))
      refine opq_out hQ ?_
      refine bodyPost_ret (results_tmp rfl _ _ _) rfl ?_
      exact ⟨rfl, rfl⟩
    · exact hi
  · have d : (decide (IntKind.u64.wrap a < IntKind.u64.wrap b)) = false := by simpa using c
    rw [d] at ht
    clear c
    refine ⟨fun W hT => ?_, ?_⟩
    · go_enter Tryd.func92, Tryd.ntmps92
      refine opq (fun Q hQ => ?_)
      repeat (first
        | (refine wp_block ?_; refine opq (fun Q' hQ' => ?_))
        | (refine wp_seq ?_; refine opq (fun Q' hQ' => ?_))
        | (refine wp_cond_true rfl ?_)
        | (refine wp_cond_false rfl ?_)
        | (refine wp_exit ?_)
        | (refine wp_skip ?_)
        | (refine wp_ret ?_)
        | (refine opq_out (by assumption) ?_; simp only [Exit.then, Exit.inBlock, Nat.reduceEqDiff, reduceIte])
        | (refine is_region ?_; go_wp2_with (first | (go_at_call 108; ((with_reducible refine (syes_walk ht _).mono ?_); rintro e w' ⟨rfl, rfl⟩)))))
      refine opq_out hQ ?_
      refine bodyPost_ret (results_tmp rfl _ _ _) rfl ?_
      exact ⟨rfl, rfl⟩
    · exact hi
set_option maxHeartbeats 4000000 in
set_option maxRecDepth 100000 in
theorem stwo_34 {a b : Int} {r : Int} (ha : I6 a) (hb : I6 b) (h : Wd.word_two.f 34 a b = some r) : (∀ W, Tab W → Calls Tryd.prog 92 #[.int .i64 34, .int .i64 a, .int .i64 b] W fun e w' => e = .returned (.int .i64 r) ∧ w' = W) ∧ I6 r := by
  simp only [Wd.word_two.f, Int.reduceEq, if_true, if_false] at h
  obtain rfl := Option.some.inj h
  clear h
  have e : Wd.mn a b = min a b := by unfold Wd.mn; split <;> omega
  rw [e]
  refine ⟨fun W hT => ?_, ?_⟩
  · go_enter Tryd.func92, Tryd.ntmps92
    refine opq (fun Q hQ => ?_)
    repeat (first
      | (refine wp_block ?_; refine opq (fun Q' hQ' => ?_))
      | (refine wp_seq ?_; refine opq (fun Q' hQ' => ?_))
      | (refine wp_cond_true rfl ?_)
      | (refine wp_cond_false rfl ?_)
      | (refine wp_exit ?_)
      | (refine wp_skip ?_)
      | (refine wp_ret ?_)
      | (refine opq_out (by assumption) ?_; simp only [Exit.then, Exit.inBlock, Nat.reduceEqDiff, reduceIte])
      | (refine is_region ?_; go_wp2))
    refine opq_out hQ ?_
    refine bodyPost_ret (results_tmp rfl _ _ _) rfl ?_
    exact ⟨rfl, rfl⟩
  · first | exact i6_wrap _ | exact i6_bits _ _ _ | exact i6_kw _ | exact i6_shr' _ ha | exact i6_tmod' _ hb (by assumption) | assumption | (unfold I6 at *; omega) | (unfold I6 Wd.mn at *; split <;> omega) | (unfold I6 Wd.mx at *; split <;> omega)
set_option maxHeartbeats 4000000 in
set_option maxRecDepth 100000 in
theorem stwo_35 {a b : Int} {r : Int} (ha : I6 a) (hb : I6 b) (h : Wd.word_two.f 35 a b = some r) : (∀ W, Tab W → Calls Tryd.prog 92 #[.int .i64 35, .int .i64 a, .int .i64 b] W fun e w' => e = .returned (.int .i64 r) ∧ w' = W) ∧ I6 r := by
  simp only [Wd.word_two.f, Int.reduceEq, if_true, if_false] at h
  obtain rfl := Option.some.inj h
  clear h
  have e : Wd.mx a b = max a b := by unfold Wd.mx; split <;> omega
  rw [e]
  refine ⟨fun W hT => ?_, ?_⟩
  · go_enter Tryd.func92, Tryd.ntmps92
    refine opq (fun Q hQ => ?_)
    repeat (first
      | (refine wp_block ?_; refine opq (fun Q' hQ' => ?_))
      | (refine wp_seq ?_; refine opq (fun Q' hQ' => ?_))
      | (refine wp_cond_true rfl ?_)
      | (refine wp_cond_false rfl ?_)
      | (refine wp_exit ?_)
      | (refine wp_skip ?_)
      | (refine wp_ret ?_)
      | (refine opq_out (by assumption) ?_; simp only [Exit.then, Exit.inBlock, Nat.reduceEqDiff, reduceIte])
      | (refine is_region ?_; go_wp2))
    refine opq_out hQ ?_
    refine bodyPost_ret (results_tmp rfl _ _ _) rfl ?_
    exact ⟨rfl, rfl⟩
  · first | exact i6_wrap _ | exact i6_bits _ _ _ | exact i6_kw _ | exact i6_shr' _ ha | exact i6_tmod' _ hb (by assumption) | assumption | (unfold I6 at *; omega) | (unfold I6 Wd.mn at *; split <;> omega) | (unfold I6 Wd.mx at *; split <;> omega)
set_option maxHeartbeats 4000000 in
set_option maxRecDepth 100000 in
theorem stwo_36 {a b : Int} {r : Int} (ha : I6 a) (hb : I6 b) (h : Wd.word_two.f 36 a b = some r) : (∀ W, Tab W → Calls Tryd.prog 92 #[.int .i64 36, .int .i64 a, .int .i64 b] W fun e w' => e = .returned (.int .i64 r) ∧ w' = W) ∧ I6 r := by
  simp only [Wd.word_two.f, Int.reduceEq, if_true, if_false] at h
  obtain ⟨t, ht, h⟩ := Option.bind_eq_some_iff.1 h
  obtain rfl := Option.some.inj h
  clear h
  refine ⟨fun W hT => ?_, ?_⟩
  · go_enter Tryd.func92, Tryd.ntmps92
    refine opq (fun Q hQ => ?_)
    repeat (first
      | (refine wp_block ?_; refine opq (fun Q' hQ' => ?_))
      | (refine wp_seq ?_; refine opq (fun Q' hQ' => ?_))
      | (refine wp_cond_true rfl ?_)
      | (refine wp_cond_false rfl ?_)
      | (refine wp_exit ?_)
      | (refine wp_skip ?_)
      | (refine wp_ret ?_)
      | (refine opq_out (by assumption) ?_; simp only [Exit.then, Exit.inBlock, Nat.reduceEqDiff, reduceIte])
      | (refine is_region ?_; go_wp2_with (first | (go_at_call 110; ((with_reducible refine (swide_walk ht _).mono ?_); rintro e w' ⟨rfl, rfl⟩)))))
    refine opq_out hQ ?_
    refine bodyPost_ret (results_tmp rfl _ _ _) rfl ?_
    exact ⟨rfl, rfl⟩
  · exact i6_wide ht
set_option maxHeartbeats 4000000 in
set_option maxRecDepth 100000 in
theorem sdiv_19a {a b : Int} {r : Int × Int} {m : Nat} (ha : I6 a) (hb : I6 b) (c : b = 0) (h : Wd.word_divided.f (m + 1) 19 a b = some r) : (∀ W, Tab W → Calls Tryd.prog 90 #[.int .i64 19, .int .i64 a, .int .i64 b] W fun e w' => e = .returned (.tuple #[.int .i64 r.1, .int .i64 r.2]) ∧ w' = W) ∧ (I6 r.1 ∧ (r.2 = 20 ∨ r.2 = 0)) := by
  simp only [Wd.word_divided.f, Wd.word_divided.j0, Int.reduceEq, if_true, if_false] at h
  rw [if_pos c] at h
  obtain rfl := Option.some.inj h
  clear h
  subst c
  refine ⟨fun W hT => ?_, ?_⟩
  · go_enter Tryd.func90, Tryd.ntmps90
    refine opq (fun Q hQ => ?_)
    repeat (first
      | (refine wp_block ?_; refine opq (fun Q' hQ' => ?_))
      | (refine wp_seq ?_; refine opq (fun Q' hQ' => ?_))
      | (refine wp_cond_true rfl ?_)
      | (refine wp_cond_false rfl ?_)
      | (refine wp_exit ?_)
      | (refine wp_skip ?_)
      | (refine wp_ret ?_)
      | (refine opq_out (by assumption) ?_; simp only [Exit.then, Exit.inBlock, Nat.reduceEqDiff, reduceIte])
      | (refine is_region ?_; go_wp2))
    refine opq_out hQ ?_
    refine bodyPost_ret (results_tmp2 rfl _ _ _) rfl ?_
    exact ⟨rfl, rfl⟩
  · exact ⟨by unfold I6; simp, .inl rfl⟩
set_option maxHeartbeats 4000000 in
set_option maxRecDepth 100000 in
theorem sdiv_19b {a b : Int} {r : Int × Int} {m : Nat} (ha : I6 a) (hb : I6 b) (c : b = -1) (h : Wd.word_divided.f (m + 1) 19 a b = some r) : (∀ W, Tab W → Calls Tryd.prog 90 #[.int .i64 19, .int .i64 a, .int .i64 b] W fun e w' => e = .returned (.tuple #[.int .i64 r.1, .int .i64 r.2]) ∧ w' = W) ∧ (I6 r.1 ∧ (r.2 = 20 ∨ r.2 = 0)) := by
  simp only [Wd.word_divided.f, Wd.word_divided.j0, Int.reduceEq, if_true, if_false] at h
  subst c
  simp at h
  subst h
  refine ⟨fun W hT => ?_, ?_⟩
  · go_enter Tryd.func90, Tryd.ntmps90
    refine opq (fun Q hQ => ?_)
    repeat (first
      | (refine wp_block ?_; refine opq (fun Q' hQ' => ?_))
      | (refine wp_seq ?_; refine opq (fun Q' hQ' => ?_))
      | (refine wp_cond_true rfl ?_)
      | (refine wp_cond_false rfl ?_)
      | (refine wp_exit ?_)
      | (refine wp_skip ?_)
      | (refine wp_ret ?_)
      | (refine opq_out (by assumption) ?_; simp only [Exit.then, Exit.inBlock, Nat.reduceEqDiff, reduceIte])
      | (refine is_region ?_; go_wp2))
    refine opq_out hQ ?_
    refine bodyPost_ret (results_tmp2 rfl _ _ _) rfl ?_
    exact ⟨rfl, rfl⟩
  · exact ⟨by first | exact i6_wrap _ | (unfold I6; simp), .inr rfl⟩
set_option maxHeartbeats 4000000 in
set_option maxRecDepth 100000 in
theorem sdiv_19c {a b : Int} {r : Int × Int} {m : Nat} (ha : I6 a) (hb : I6 b) (c : b ≠ 0 ∧ b ≠ -1) (h : Wd.word_divided.f (m + 1) 19 a b = some r) : (∀ W, Tab W → Calls Tryd.prog 90 #[.int .i64 19, .int .i64 a, .int .i64 b] W fun e w' => e = .returned (.tuple #[.int .i64 r.1, .int .i64 r.2]) ∧ w' = W) ∧ (I6 r.1 ∧ (r.2 = 20 ∨ r.2 = 0)) := by
  simp only [Wd.word_divided.f, Wd.word_divided.j0, Int.reduceEq, if_true, if_false] at h
  have d1 : (b == 0) = false := by simpa using c.1
  have d2 : (b == -1) = false := by simpa using c.2
  have d3 : b ≠ 0 := c.1
  simp [c.1, c.2, d2] at h
  subst h
  clear c
  refine ⟨fun W hT => ?_, ?_⟩
  · go_enter Tryd.func90, Tryd.ntmps90
    refine opq (fun Q hQ => ?_)
    repeat (first
      | (refine wp_block ?_; refine opq (fun Q' hQ' => ?_))
      | (refine wp_seq ?_; refine opq (fun Q' hQ' => ?_))
      | (refine wp_cond_true rfl ?_)
      | (refine wp_cond_false rfl ?_)
      | (refine wp_exit ?_)
      | (refine wp_skip ?_)
      | (refine wp_ret ?_)
      | (refine opq_out (by assumption) ?_; simp only [Exit.then, Exit.inBlock, Nat.reduceEqDiff, reduceIte])
      | (refine is_region ?_; go_wp2))
    refine opq_out hQ ?_
    refine bodyPost_ret (results_tmp2 rfl _ _ _) rfl ?_
    exact ⟨rfl, rfl⟩
  · exact ⟨by first | exact i6_wrap _ | exact i6_tmod' _ hb d3, .inr rfl⟩
set_option maxHeartbeats 4000000 in
set_option maxRecDepth 100000 in
theorem sdiv_20a {a b : Int} {r : Int × Int} {m : Nat} (ha : I6 a) (hb : I6 b) (c : b = 0) (h : Wd.word_divided.f (m + 1) 20 a b = some r) : (∀ W, Tab W → Calls Tryd.prog 90 #[.int .i64 20, .int .i64 a, .int .i64 b] W fun e w' => e = .returned (.tuple #[.int .i64 r.1, .int .i64 r.2]) ∧ w' = W) ∧ (I6 r.1 ∧ (r.2 = 20 ∨ r.2 = 0)) := by
  simp only [Wd.word_divided.f, Wd.word_divided.j0, Int.reduceEq, if_true, if_false] at h
  rw [if_pos c] at h
  obtain rfl := Option.some.inj h
  clear h
  subst c
  refine ⟨fun W hT => ?_, ?_⟩
  · go_enter Tryd.func90, Tryd.ntmps90
    refine opq (fun Q hQ => ?_)
    repeat (first
      | (refine wp_block ?_; refine opq (fun Q' hQ' => ?_))
      | (refine wp_seq ?_; refine opq (fun Q' hQ' => ?_))
      | (refine wp_cond_true rfl ?_)
      | (refine wp_cond_false rfl ?_)
      | (refine wp_exit ?_)
      | (refine wp_skip ?_)
      | (refine wp_ret ?_)
      | (refine opq_out (by assumption) ?_; simp only [Exit.then, Exit.inBlock, Nat.reduceEqDiff, reduceIte])
      | (refine is_region ?_; go_wp2))
    refine opq_out hQ ?_
    refine bodyPost_ret (results_tmp2 rfl _ _ _) rfl ?_
    exact ⟨rfl, rfl⟩
  · exact ⟨by unfold I6; simp, .inl rfl⟩
set_option maxHeartbeats 4000000 in
set_option maxRecDepth 100000 in
theorem sdiv_20b {a b : Int} {r : Int × Int} {m : Nat} (ha : I6 a) (hb : I6 b) (c : b = -1) (h : Wd.word_divided.f (m + 1) 20 a b = some r) : (∀ W, Tab W → Calls Tryd.prog 90 #[.int .i64 20, .int .i64 a, .int .i64 b] W fun e w' => e = .returned (.tuple #[.int .i64 r.1, .int .i64 r.2]) ∧ w' = W) ∧ (I6 r.1 ∧ (r.2 = 20 ∨ r.2 = 0)) := by
  simp only [Wd.word_divided.f, Wd.word_divided.j0, Int.reduceEq, if_true, if_false] at h
  subst c
  simp at h
  subst h
  refine ⟨fun W hT => ?_, ?_⟩
  · go_enter Tryd.func90, Tryd.ntmps90
    refine opq (fun Q hQ => ?_)
    repeat (first
      | (refine wp_block ?_; refine opq (fun Q' hQ' => ?_))
      | (refine wp_seq ?_; refine opq (fun Q' hQ' => ?_))
      | (refine wp_cond_true rfl ?_)
      | (refine wp_cond_false rfl ?_)
      | (refine wp_exit ?_)
      | (refine wp_skip ?_)
      | (refine wp_ret ?_)
      | (refine opq_out (by assumption) ?_; simp only [Exit.then, Exit.inBlock, Nat.reduceEqDiff, reduceIte])
      | (refine is_region ?_; go_wp2))
    refine opq_out hQ ?_
    refine bodyPost_ret (results_tmp2 rfl _ _ _) rfl ?_
    exact ⟨rfl, rfl⟩
  · exact ⟨by first | exact i6_wrap _ | (unfold I6; simp), .inr rfl⟩
set_option maxHeartbeats 4000000 in
set_option maxRecDepth 100000 in
theorem sdiv_20c {a b : Int} {r : Int × Int} {m : Nat} (ha : I6 a) (hb : I6 b) (c : b ≠ 0 ∧ b ≠ -1) (h : Wd.word_divided.f (m + 1) 20 a b = some r) : (∀ W, Tab W → Calls Tryd.prog 90 #[.int .i64 20, .int .i64 a, .int .i64 b] W fun e w' => e = .returned (.tuple #[.int .i64 r.1, .int .i64 r.2]) ∧ w' = W) ∧ (I6 r.1 ∧ (r.2 = 20 ∨ r.2 = 0)) := by
  simp only [Wd.word_divided.f, Wd.word_divided.j0, Int.reduceEq, if_true, if_false] at h
  have d1 : (b == 0) = false := by simpa using c.1
  have d2 : (b == -1) = false := by simpa using c.2
  have d3 : b ≠ 0 := c.1
  simp [c.1, c.2, d2] at h
  subst h
  clear c
  refine ⟨fun W hT => ?_, ?_⟩
  · go_enter Tryd.func90, Tryd.ntmps90
    refine opq (fun Q hQ => ?_)
    repeat (first
      | (refine wp_block ?_; refine opq (fun Q' hQ' => ?_))
      | (refine wp_seq ?_; refine opq (fun Q' hQ' => ?_))
      | (refine wp_cond_true rfl ?_)
      | (refine wp_cond_false rfl ?_)
      | (refine wp_exit ?_)
      | (refine wp_skip ?_)
      | (refine wp_ret ?_)
      | (refine opq_out (by assumption) ?_; simp only [Exit.then, Exit.inBlock, Nat.reduceEqDiff, reduceIte])
      | (refine is_region ?_; go_wp2))
    refine opq_out hQ ?_
    refine bodyPost_ret (results_tmp2 rfl _ _ _) rfl ?_
    exact ⟨rfl, rfl⟩
  · exact ⟨by first | exact i6_wrap _ | exact i6_tmod' _ hb d3, .inr rfl⟩
set_option maxHeartbeats 4000000 in
set_option maxRecDepth 100000 in
theorem sshf_25a {a b : Int} {r : Int × Int} (ha : I6 a) (hb : I6 b) (c : b < 0) (h : Wd.word_shifted.f 25 a b = some r) : (∀ W, Tab W → Calls Tryd.prog 91 #[.int .i64 25, .int .i64 a, .int .i64 b] W fun e w' => e = .returned (.tuple #[.int .i64 r.1, .int .i64 r.2]) ∧ w' = W) ∧ (I6 r.1 ∧ (r.2 = 21 ∨ r.2 = 0)) := by
  simp only [Wd.word_shifted.f, Int.reduceEq, if_true, if_false] at h
  rw [if_pos c] at h
  obtain rfl := Option.some.inj h
  clear h
  have d : decide (b < 0) = true := by simpa using c
  clear c
  refine ⟨fun W hT => ?_, ?_⟩
  · go_enter Tryd.func91, Tryd.ntmps91
    refine opq (fun Q hQ => ?_)
    repeat (first
      | (refine wp_block ?_; refine opq (fun Q' hQ' => ?_))
      | (refine wp_seq ?_; refine opq (fun Q' hQ' => ?_))
      | (refine wp_cond_true rfl ?_)
      | (refine wp_cond_false rfl ?_)
      | (refine wp_exit ?_)
      | (refine wp_skip ?_)
      | (refine wp_ret ?_)
      | (refine opq_out (by assumption) ?_; simp only [Exit.then, Exit.inBlock, Nat.reduceEqDiff, reduceIte])
      | (refine is_region ?_; go_wp2))
    refine opq_out hQ ?_
    refine bodyPost_ret (results_tmp2 rfl _ _ _) rfl ?_
    exact ⟨rfl, rfl⟩
  · exact ⟨by unfold I6; simp, .inl rfl⟩
set_option maxHeartbeats 4000000 in
set_option maxRecDepth 100000 in
theorem sshf_25b {a b : Int} {r : Int × Int} (ha : I6 a) (hb : I6 b) (c : ¬ b < 0) (h : Wd.word_shifted.f 25 a b = some r) : (∀ W, Tab W → Calls Tryd.prog 91 #[.int .i64 25, .int .i64 a, .int .i64 b] W fun e w' => e = .returned (.tuple #[.int .i64 r.1, .int .i64 r.2]) ∧ w' = W) ∧ (I6 r.1 ∧ (r.2 = 21 ∨ r.2 = 0)) := by
  simp only [Wd.word_shifted.f, Int.reduceEq, if_true, if_false] at h
  have n0 := (u6_wrap b).1
  rw [if_neg c, if_pos n0] at h
  obtain rfl := Option.some.inj h
  clear h
  have d : decide (b < 0) = false := by simpa using c
  clear c
  have s1 := fun k x yk => shl_w (k := k) (x := x) (yk := yk) n0
  have s2 := fun k x yk => shr_w (k := k) (x := x) (yk := yk) n0
  refine ⟨fun W hT => ?_, ?_⟩
  · go_enter Tryd.func91, Tryd.ntmps91
    refine opq (fun Q hQ => ?_)
    repeat (first
      | (refine wp_block ?_; refine opq (fun Q' hQ' => ?_))
      | (refine wp_seq ?_; refine opq (fun Q' hQ' => ?_))
      | (refine wp_cond_true rfl ?_)
      | (refine wp_cond_false rfl ?_)
      | (refine wp_exit ?_)
      | (refine wp_skip ?_)
      | (refine wp_ret ?_)
      | (refine opq_out (by assumption) ?_; simp only [Exit.then, Exit.inBlock, Nat.reduceEqDiff, reduceIte])
      | (refine is_region ?_; go_wp2))
    refine opq_out hQ ?_
    refine bodyPost_ret (results_tmp2 rfl _ _ _) rfl ?_
    exact ⟨rfl, rfl⟩
  · exact ⟨by first | exact i6_wrap _ | exact i6_kw _ | exact i6_shr' _ ha, .inr rfl⟩
set_option maxHeartbeats 4000000 in
set_option maxRecDepth 100000 in
theorem sshf_26a {a b : Int} {r : Int × Int} (ha : I6 a) (hb : I6 b) (c : b < 0) (h : Wd.word_shifted.f 26 a b = some r) : (∀ W, Tab W → Calls Tryd.prog 91 #[.int .i64 26, .int .i64 a, .int .i64 b] W fun e w' => e = .returned (.tuple #[.int .i64 r.1, .int .i64 r.2]) ∧ w' = W) ∧ (I6 r.1 ∧ (r.2 = 21 ∨ r.2 = 0)) := by
  simp only [Wd.word_shifted.f, Int.reduceEq, if_true, if_false] at h
  rw [if_pos c] at h
  obtain rfl := Option.some.inj h
  clear h
  have d : decide (b < 0) = true := by simpa using c
  clear c
  refine ⟨fun W hT => ?_, ?_⟩
  · go_enter Tryd.func91, Tryd.ntmps91
    refine opq (fun Q hQ => ?_)
    repeat (first
      | (refine wp_block ?_; refine opq (fun Q' hQ' => ?_))
      | (refine wp_seq ?_; refine opq (fun Q' hQ' => ?_))
      | (refine wp_cond_true rfl ?_)
      | (refine wp_cond_false rfl ?_)
      | (refine wp_exit ?_)
      | (refine wp_skip ?_)
      | (refine wp_ret ?_)
      | (refine opq_out (by assumption) ?_; simp only [Exit.then, Exit.inBlock, Nat.reduceEqDiff, reduceIte])
      | (refine is_region ?_; go_wp2))
    refine opq_out hQ ?_
    refine bodyPost_ret (results_tmp2 rfl _ _ _) rfl ?_
    exact ⟨rfl, rfl⟩
  · exact ⟨by unfold I6; simp, .inl rfl⟩
set_option maxHeartbeats 4000000 in
set_option maxRecDepth 100000 in
theorem sshf_26b {a b : Int} {r : Int × Int} (ha : I6 a) (hb : I6 b) (c : ¬ b < 0) (h : Wd.word_shifted.f 26 a b = some r) : (∀ W, Tab W → Calls Tryd.prog 91 #[.int .i64 26, .int .i64 a, .int .i64 b] W fun e w' => e = .returned (.tuple #[.int .i64 r.1, .int .i64 r.2]) ∧ w' = W) ∧ (I6 r.1 ∧ (r.2 = 21 ∨ r.2 = 0)) := by
  simp only [Wd.word_shifted.f, Int.reduceEq, if_true, if_false] at h
  have n0 := (u6_wrap b).1
  rw [if_neg c, if_pos n0] at h
  obtain rfl := Option.some.inj h
  clear h
  have d : decide (b < 0) = false := by simpa using c
  clear c
  have s1 := fun k x yk => shl_w (k := k) (x := x) (yk := yk) n0
  have s2 := fun k x yk => shr_w (k := k) (x := x) (yk := yk) n0
  refine ⟨fun W hT => ?_, ?_⟩
  · go_enter Tryd.func91, Tryd.ntmps91
    refine opq (fun Q hQ => ?_)
    repeat (first
      | (refine wp_block ?_; refine opq (fun Q' hQ' => ?_))
      | (refine wp_seq ?_; refine opq (fun Q' hQ' => ?_))
      | (refine wp_cond_true rfl ?_)
      | (refine wp_cond_false rfl ?_)
      | (refine wp_exit ?_)
      | (refine wp_skip ?_)
      | (refine wp_ret ?_)
      | (refine opq_out (by assumption) ?_; simp only [Exit.then, Exit.inBlock, Nat.reduceEqDiff, reduceIte])
      | (refine is_region ?_; go_wp2))
    refine opq_out hQ ?_
    refine bodyPost_ret (results_tmp2 rfl _ _ _) rfl ?_
    exact ⟨rfl, rfl⟩
  · exact ⟨by first | exact i6_wrap _ | exact i6_kw _ | exact i6_shr' _ ha, .inr rfl⟩
set_option maxHeartbeats 4000000 in
set_option maxRecDepth 100000 in
theorem sshf_27a {a b : Int} {r : Int × Int} (ha : I6 a) (hb : I6 b) (c : b < 0) (h : Wd.word_shifted.f 27 a b = some r) : (∀ W, Tab W → Calls Tryd.prog 91 #[.int .i64 27, .int .i64 a, .int .i64 b] W fun e w' => e = .returned (.tuple #[.int .i64 r.1, .int .i64 r.2]) ∧ w' = W) ∧ (I6 r.1 ∧ (r.2 = 21 ∨ r.2 = 0)) := by
  simp only [Wd.word_shifted.f, Int.reduceEq, if_true, if_false] at h
  rw [if_pos c] at h
  obtain rfl := Option.some.inj h
  clear h
  have d : decide (b < 0) = true := by simpa using c
  clear c
  refine ⟨fun W hT => ?_, ?_⟩
  · go_enter Tryd.func91, Tryd.ntmps91
    refine opq (fun Q hQ => ?_)
    repeat (first
      | (refine wp_block ?_; refine opq (fun Q' hQ' => ?_))
      | (refine wp_seq ?_; refine opq (fun Q' hQ' => ?_))
      | (refine wp_cond_true rfl ?_)
      | (refine wp_cond_false rfl ?_)
      | (refine wp_exit ?_)
      | (refine wp_skip ?_)
      | (refine wp_ret ?_)
      | (refine opq_out (by assumption) ?_; simp only [Exit.then, Exit.inBlock, Nat.reduceEqDiff, reduceIte])
      | (refine is_region ?_; go_wp2))
    refine opq_out hQ ?_
    refine bodyPost_ret (results_tmp2 rfl _ _ _) rfl ?_
    exact ⟨rfl, rfl⟩
  · exact ⟨by unfold I6; simp, .inl rfl⟩
set_option maxHeartbeats 4000000 in
set_option maxRecDepth 100000 in
theorem sshf_27b {a b : Int} {r : Int × Int} (ha : I6 a) (hb : I6 b) (c : ¬ b < 0) (h : Wd.word_shifted.f 27 a b = some r) : (∀ W, Tab W → Calls Tryd.prog 91 #[.int .i64 27, .int .i64 a, .int .i64 b] W fun e w' => e = .returned (.tuple #[.int .i64 r.1, .int .i64 r.2]) ∧ w' = W) ∧ (I6 r.1 ∧ (r.2 = 21 ∨ r.2 = 0)) := by
  simp only [Wd.word_shifted.f, Int.reduceEq, if_true, if_false] at h
  have n0 := (u6_wrap b).1
  rw [if_neg c, if_pos n0] at h
  obtain rfl := Option.some.inj h
  clear h
  have d : decide (b < 0) = false := by simpa using c
  clear c
  have s1 := fun k x yk => shl_w (k := k) (x := x) (yk := yk) n0
  have s2 := fun k x yk => shr_w (k := k) (x := x) (yk := yk) n0
  refine ⟨fun W hT => ?_, ?_⟩
  · go_enter Tryd.func91, Tryd.ntmps91
    refine opq (fun Q hQ => ?_)
    repeat (first
      | (refine wp_block ?_; refine opq (fun Q' hQ' => ?_))
      | (refine wp_seq ?_; refine opq (fun Q' hQ' => ?_))
      | (refine wp_cond_true rfl ?_)
      | (refine wp_cond_false rfl ?_)
      | (refine wp_exit ?_)
      | (refine wp_skip ?_)
      | (refine wp_ret ?_)
      | (refine opq_out (by assumption) ?_; simp only [Exit.then, Exit.inBlock, Nat.reduceEqDiff, reduceIte])
      | (refine is_region ?_; go_wp2))
    refine opq_out hQ ?_
    refine bodyPost_ret (results_tmp2 rfl _ _ _) rfl ?_
    exact ⟨rfl, rfl⟩
  · exact ⟨by first | exact i6_wrap _ | exact i6_kw _ | exact i6_shr' _ ha, .inr rfl⟩
end Go.Proofs.YtbcdeanmjhcgeaaDoor.Alu
