/- word.Apply, walked: it gives what it gives told plainly, ints. The condition: the table of math/bits lies in the world. -/
import Derived.Test.YtbcdeanmjhcgeaaDoorZAS2
import Derived.Test.YtbcdeanmjhcgeaaDoorZAR5
namespace Go.Proofs.YtbcdeanmjhcgeaaDoor.Alu
set_option linter.unusedVariables false
set_option linter.unusedSimpArgs false
open Go.RowKit
set_option linter.unusedVariables false
set_option linter.unusedSimpArgs false
set_option maxHeartbeats 4000000 in
set_option maxRecDepth 100000 in
theorem arity_walk (k : Int) (h1 : 1 ≤ k) (h2 : k ≤ 36) (W : World) : Calls Tryd.prog 88 #[.int .i64 k] W fun e w' => e = .returned (.int .i64 (if k ≤ 15 then 1 else 2)) ∧ w' = W := by
  have d1 : decide (1 ≤ k) = true := by simpa using h1
  have d2 : decide (k ≤ 36) = true := by simpa using h2
  by_cases c : k ≤ 15
  · rw [if_pos c]
    have d3 : decide (k ≤ 15) = true := by simpa using c
    clear c h1 h2
    go_enter Tryd.func88, Tryd.ntmps88
    go_wp2
    go_ret
    exact ⟨rfl, rfl⟩
  · rw [if_neg c]
    have d3 : decide (k ≤ 15) = false := by simpa using c
    have d4 : decide (15 < k) = true := by simp; omega
    clear c h1 h2
    go_enter Tryd.func88, Tryd.ntmps88
    go_wp2
    go_ret
    exact ⟨rfl, rfl⟩
set_option maxHeartbeats 4000000 in
set_option maxRecDepth 100000 in
theorem ap_one (k a b : Int) (h1 : 1 ≤ k) (h2 : k ≤ 15) {x : Int} (W : World) (cx : Calls Tryd.prog 89 #[.int .i64 k, .int .i64 a] W fun e w' => e = .returned (.int .i64 x) ∧ w' = W) :
    Calls Tryd.prog 69 #[.int .i64 k, .int .i64 a, .int .i64 b] W fun e w' => e = .returned (.tuple #[.int .i64 x, .int .i64 0]) ∧ w' = W := by
  have cA := Lib.hid (fun W => arity_walk k h1 (by omega) W)
  rw [if_pos h2] at cA
  clear h1 h2
  go_enter Tryd.func69, Tryd.ntmps69
  refine opq (fun Q hQ => ?_)
  repeat (first
    | (refine wp_block ?_; refine opq (fun Q' hQ' => ?_))
    | (refine wp_seq ?_; refine opq (fun Q' hQ' => ?_))
    | (refine wp_cond_true rfl ?_)
    | (refine wp_cond_false rfl ?_)
    | (refine wp_exit ?_)
    | (refine wp_skip ?_)
    | (refine wp_ret ?_)
    | (refine opq_out (by assumption) ?_; simp only [Exit.then, Exit.inBlock, Nat.reduceEqDiff, reduceIte])
    | (refine is_region ?_; go_wp2_with (first | (go_at_call 89; ((with_reducible refine (cx).mono ?_); rintro e w' ⟨rfl, rfl⟩)) | (go_at_call 88; ((with_reducible refine (cA.out _).mono ?_); rintro e w' ⟨rfl, rfl⟩)))))
  refine opq_out hQ ?_
  refine bodyPost_ret (results_tmp2 rfl _ _ _) rfl ?_
  exact ⟨rfl, rfl⟩
set_option maxHeartbeats 4000000 in
set_option maxRecDepth 100000 in
theorem ap_lo (k a b : Int) (h1 : 16 ≤ k) (h2 : k ≤ 36) (n1 : k ≠ 19) (n2 : k ≠ 20) (n3 : k < 25) {x : Int} (W : World) (cx : Calls Tryd.prog 92 #[.int .i64 k, .int .i64 a, .int .i64 b] W fun e w' => e = .returned (.int .i64 x) ∧ w' = W) :
    Calls Tryd.prog 69 #[.int .i64 k, .int .i64 a, .int .i64 b] W fun e w' => e = .returned (.tuple #[.int .i64 x, .int .i64 0]) ∧ w' = W := by
  have cA := Lib.hid (fun W => arity_walk k (by omega) h2 W)
  rw [if_neg (by omega)] at cA
  have d1 : (k == 19) = false := by simpa using n1
  have d2 : (k == 20) = false := by simpa using n2
  have d3 : decide (25 ≤ k) = false := by simpa using n3
  clear n1 n2 n3 h1 h2
  go_enter Tryd.func69, Tryd.ntmps69
  refine opq (fun Q hQ => ?_)
  repeat (first
    | (refine wp_block ?_; refine opq (fun Q' hQ' => ?_))
    | (refine wp_seq ?_; refine opq (fun Q' hQ' => ?_))
    | (refine wp_cond_true rfl ?_)
    | (refine wp_cond_false rfl ?_)
    | (refine wp_exit ?_)
    | (refine wp_skip ?_)
    | (refine wp_ret ?_)
    | (refine opq_out (by assumption) ?_; simp only [Exit.then, Exit.inBlock, Nat.reduceEqDiff, reduceIte])
    | (refine is_region ?_; go_wp2_with (first | (go_at_call 92; ((with_reducible refine (cx).mono ?_); rintro e w' ⟨rfl, rfl⟩)) | (go_at_call 88; ((with_reducible refine (cA.out _).mono ?_); rintro e w' ⟨rfl, rfl⟩)))))
  refine opq_out hQ ?_
  refine bodyPost_ret (results_tmp2 rfl _ _ _) rfl ?_
  exact ⟨rfl, rfl⟩
set_option maxHeartbeats 4000000 in
set_option maxRecDepth 100000 in
theorem ap_hi (k a b : Int) (h1 : 16 ≤ k) (h2 : k ≤ 36) (n1 : k ≠ 19) (n2 : k ≠ 20) (n3 : 27 < k) {x : Int} (W : World) (cx : Calls Tryd.prog 92 #[.int .i64 k, .int .i64 a, .int .i64 b] W fun e w' => e = .returned (.int .i64 x) ∧ w' = W) :
    Calls Tryd.prog 69 #[.int .i64 k, .int .i64 a, .int .i64 b] W fun e w' => e = .returned (.tuple #[.int .i64 x, .int .i64 0]) ∧ w' = W := by
  have cA := Lib.hid (fun W => arity_walk k (by omega) h2 W)
  rw [if_neg (by omega)] at cA
  have d1 : (k == 19) = false := by simpa using n1
  have d2 : (k == 20) = false := by simpa using n2
  have d3 : decide (25 ≤ k) = true := by simp; omega
  have d4 : decide (k ≤ 27) = false := by simpa using n3
  clear n1 n2 n3 h1 h2
  go_enter Tryd.func69, Tryd.ntmps69
  refine opq (fun Q hQ => ?_)
  repeat (first
    | (refine wp_block ?_; refine opq (fun Q' hQ' => ?_))
    | (refine wp_seq ?_; refine opq (fun Q' hQ' => ?_))
    | (refine wp_cond_true rfl ?_)
    | (refine wp_cond_false rfl ?_)
    | (refine wp_exit ?_)
    | (refine wp_skip ?_)
    | (refine wp_ret ?_)
    | (refine opq_out (by assumption) ?_; simp only [Exit.then, Exit.inBlock, Nat.reduceEqDiff, reduceIte])
    | (refine is_region ?_; go_wp2_with (first | (go_at_call 92; ((with_reducible refine (cx).mono ?_); rintro e w' ⟨rfl, rfl⟩)) | (go_at_call 88; ((with_reducible refine (cA.out _).mono ?_); rintro e w' ⟨rfl, rfl⟩)))))
  refine opq_out hQ ?_
  refine bodyPost_ret (results_tmp2 rfl _ _ _) rfl ?_
  exact ⟨rfl, rfl⟩
set_option maxHeartbeats 4000000 in
set_option maxRecDepth 100000 in
theorem ap_19 (k a b : Int) {y : Int} {x : Int} (W : World) (cx : Calls Tryd.prog 90 #[.int .i64 19, .int .i64 a, .int .i64 b] W fun e w' => e = .returned (.tuple #[.int .i64 x, .int .i64 y]) ∧ w' = W) :
    Calls Tryd.prog 69 #[.int .i64 19, .int .i64 a, .int .i64 b] W fun e w' => e = .returned (.tuple #[.int .i64 x, .int .i64 y]) ∧ w' = W := by
  have cA := Lib.hid (fun W => arity_walk 19 (by omega) (by omega) W)
  rw [if_neg (by omega)] at cA
  go_enter Tryd.func69, Tryd.ntmps69
  refine opq (fun Q hQ => ?_)
  repeat (first
    | (refine wp_block ?_; refine opq (fun Q' hQ' => ?_))
    | (refine wp_seq ?_; refine opq (fun Q' hQ' => ?_))
    | (refine wp_cond_true rfl ?_)
    | (refine wp_cond_false rfl ?_)
    | (refine wp_exit ?_)
    | (refine wp_skip ?_)
    | (refine wp_ret ?_)
    | (refine opq_out (by assumption) ?_; simp only [Exit.then, Exit.inBlock, Nat.reduceEqDiff, reduceIte])
    | (refine is_region ?_; go_wp2_with (first | (go_at_call 90; ((with_reducible refine (cx).mono ?_); rintro e w' ⟨rfl, rfl⟩)) | (go_at_call 88; ((with_reducible refine (cA.out _).mono ?_); rintro e w' ⟨rfl, rfl⟩)))))
  refine opq_out hQ ?_
  refine bodyPost_ret (results_tmp2 rfl _ _ _) rfl ?_
  exact ⟨rfl, rfl⟩
set_option maxHeartbeats 4000000 in
set_option maxRecDepth 100000 in
theorem ap_20 (k a b : Int) {y : Int} {x : Int} (W : World) (cx : Calls Tryd.prog 90 #[.int .i64 20, .int .i64 a, .int .i64 b] W fun e w' => e = .returned (.tuple #[.int .i64 x, .int .i64 y]) ∧ w' = W) :
    Calls Tryd.prog 69 #[.int .i64 20, .int .i64 a, .int .i64 b] W fun e w' => e = .returned (.tuple #[.int .i64 x, .int .i64 y]) ∧ w' = W := by
  have cA := Lib.hid (fun W => arity_walk 20 (by omega) (by omega) W)
  rw [if_neg (by omega)] at cA
  go_enter Tryd.func69, Tryd.ntmps69
  refine opq (fun Q hQ => ?_)
  repeat (first
    | (refine wp_block ?_; refine opq (fun Q' hQ' => ?_))
    | (refine wp_seq ?_; refine opq (fun Q' hQ' => ?_))
    | (refine wp_cond_true rfl ?_)
    | (refine wp_cond_false rfl ?_)
    | (refine wp_exit ?_)
    | (refine wp_skip ?_)
    | (refine wp_ret ?_)
    | (refine opq_out (by assumption) ?_; simp only [Exit.then, Exit.inBlock, Nat.reduceEqDiff, reduceIte])
    | (refine is_region ?_; go_wp2_with (first | (go_at_call 90; ((with_reducible refine (cx).mono ?_); rintro e w' ⟨rfl, rfl⟩)) | (go_at_call 88; ((with_reducible refine (cA.out _).mono ?_); rintro e w' ⟨rfl, rfl⟩)))))
  refine opq_out hQ ?_
  refine bodyPost_ret (results_tmp2 rfl _ _ _) rfl ?_
  exact ⟨rfl, rfl⟩
set_option maxHeartbeats 4000000 in
set_option maxRecDepth 100000 in
theorem ap_25 (k a b : Int) {y : Int} {x : Int} (W : World) (cx : Calls Tryd.prog 91 #[.int .i64 25, .int .i64 a, .int .i64 b] W fun e w' => e = .returned (.tuple #[.int .i64 x, .int .i64 y]) ∧ w' = W) :
    Calls Tryd.prog 69 #[.int .i64 25, .int .i64 a, .int .i64 b] W fun e w' => e = .returned (.tuple #[.int .i64 x, .int .i64 y]) ∧ w' = W := by
  have cA := Lib.hid (fun W => arity_walk 25 (by omega) (by omega) W)
  rw [if_neg (by omega)] at cA
  go_enter Tryd.func69, Tryd.ntmps69
  refine opq (fun Q hQ => ?_)
  repeat (first
    | (refine wp_block ?_; refine opq (fun Q' hQ' => ?_))
    | (refine wp_seq ?_; refine opq (fun Q' hQ' => ?_))
    | (refine wp_cond_true rfl ?_)
    | (refine wp_cond_false rfl ?_)
    | (refine wp_exit ?_)
    | (refine wp_skip ?_)
    | (refine wp_ret ?_)
    | (refine opq_out (by assumption) ?_; simp only [Exit.then, Exit.inBlock, Nat.reduceEqDiff, reduceIte])
    | (refine is_region ?_; go_wp2_with (first | (go_at_call 91; ((with_reducible refine (cx).mono ?_); rintro e w' ⟨rfl, rfl⟩)) | (go_at_call 88; ((with_reducible refine (cA.out _).mono ?_); rintro e w' ⟨rfl, rfl⟩)))))
  refine opq_out hQ ?_
  refine bodyPost_ret (results_tmp2 rfl _ _ _) rfl ?_
  exact ⟨rfl, rfl⟩
set_option maxHeartbeats 4000000 in
set_option maxRecDepth 100000 in
theorem ap_26 (k a b : Int) {y : Int} {x : Int} (W : World) (cx : Calls Tryd.prog 91 #[.int .i64 26, .int .i64 a, .int .i64 b] W fun e w' => e = .returned (.tuple #[.int .i64 x, .int .i64 y]) ∧ w' = W) :
    Calls Tryd.prog 69 #[.int .i64 26, .int .i64 a, .int .i64 b] W fun e w' => e = .returned (.tuple #[.int .i64 x, .int .i64 y]) ∧ w' = W := by
  have cA := Lib.hid (fun W => arity_walk 26 (by omega) (by omega) W)
  rw [if_neg (by omega)] at cA
  go_enter Tryd.func69, Tryd.ntmps69
  refine opq (fun Q hQ => ?_)
  repeat (first
    | (refine wp_block ?_; refine opq (fun Q' hQ' => ?_))
    | (refine wp_seq ?_; refine opq (fun Q' hQ' => ?_))
    | (refine wp_cond_true rfl ?_)
    | (refine wp_cond_false rfl ?_)
    | (refine wp_exit ?_)
    | (refine wp_skip ?_)
    | (refine wp_ret ?_)
    | (refine opq_out (by assumption) ?_; simp only [Exit.then, Exit.inBlock, Nat.reduceEqDiff, reduceIte])
    | (refine is_region ?_; go_wp2_with (first | (go_at_call 91; ((with_reducible refine (cx).mono ?_); rintro e w' ⟨rfl, rfl⟩)) | (go_at_call 88; ((with_reducible refine (cA.out _).mono ?_); rintro e w' ⟨rfl, rfl⟩)))))
  refine opq_out hQ ?_
  refine bodyPost_ret (results_tmp2 rfl _ _ _) rfl ?_
  exact ⟨rfl, rfl⟩
set_option maxHeartbeats 4000000 in
set_option maxRecDepth 100000 in
theorem ap_27 (k a b : Int) {y : Int} {x : Int} (W : World) (cx : Calls Tryd.prog 91 #[.int .i64 27, .int .i64 a, .int .i64 b] W fun e w' => e = .returned (.tuple #[.int .i64 x, .int .i64 y]) ∧ w' = W) :
    Calls Tryd.prog 69 #[.int .i64 27, .int .i64 a, .int .i64 b] W fun e w' => e = .returned (.tuple #[.int .i64 x, .int .i64 y]) ∧ w' = W := by
  have cA := Lib.hid (fun W => arity_walk 27 (by omega) (by omega) W)
  rw [if_neg (by omega)] at cA
  go_enter Tryd.func69, Tryd.ntmps69
  refine opq (fun Q hQ => ?_)
  repeat (first
    | (refine wp_block ?_; refine opq (fun Q' hQ' => ?_))
    | (refine wp_seq ?_; refine opq (fun Q' hQ' => ?_))
    | (refine wp_cond_true rfl ?_)
    | (refine wp_cond_false rfl ?_)
    | (refine wp_exit ?_)
    | (refine wp_skip ?_)
    | (refine wp_ret ?_)
    | (refine opq_out (by assumption) ?_; simp only [Exit.then, Exit.inBlock, Nat.reduceEqDiff, reduceIte])
    | (refine is_region ?_; go_wp2_with (first | (go_at_call 91; ((with_reducible refine (cx).mono ?_); rintro e w' ⟨rfl, rfl⟩)) | (go_at_call 88; ((with_reducible refine (cA.out _).mono ?_); rintro e w' ⟨rfl, rfl⟩)))))
  refine opq_out hQ ?_
  refine bodyPost_ret (results_tmp2 rfl _ _ _) rfl ?_
  exact ⟨rfl, rfl⟩
theorem i6_0 : I6 0 := by unfold I6; omega
theorem i6_20 : I6 20 := by unfold I6; omega
theorem i6_21 : I6 21 := by unfold I6; omega
/-- What is said of word.Apply's value. -/
def Said (k a b x y : Int) : Prop := (∀ W, Tab W → Calls Tryd.prog 69 #[.int .i64 k, .int .i64 a, .int .i64 b] W fun e w' => e = .returned (.tuple #[.int .i64 x, .int .i64 y]) ∧ w' = W) ∧ I6 x ∧ I6 y ∧ (y = 20 → k = 19 ∨ k = 20) ∧ (y = 21 → 25 ≤ k ∧ k ≤ 27)
theorem stwo_walk {k a b r : Int} (h1 : 16 ≤ k) (h2 : k ≤ 36) (n1 : k ≠ 19) (n2 : k ≠ 20) (n3 : k < 25 ∨ 27 < k) (ha : I6 a) (hb : I6 b) (h : Wd.word_two.f k a b = some r) : (∀ W, Tab W → Calls Tryd.prog 92 #[.int .i64 k, .int .i64 a, .int .i64 b] W fun e w' => e = .returned (.int .i64 r) ∧ w' = W) ∧ I6 r := by
  obtain rfl | rfl | rfl | rfl | rfl | rfl | rfl | rfl | rfl | rfl | rfl | rfl | rfl | rfl | rfl | rfl : k = 16 ∨ k = 17 ∨ k = 18 ∨ k = 21 ∨ k = 22 ∨ k = 23 ∨ k = 24 ∨ k = 28 ∨ k = 29 ∨ k = 30 ∨ k = 31 ∨ k = 32 ∨ k = 33 ∨ k = 34 ∨ k = 35 ∨ k = 36 := by omega
  · exact stwo_16 ha hb h
  · exact stwo_17 ha hb h
  · exact stwo_18 ha hb h
  · exact stwo_21 ha hb h
  · exact stwo_22 ha hb h
  · exact stwo_23 ha hb h
  · exact stwo_24 ha hb h
  · exact stwo_28 ha hb h
  · exact stwo_29 ha hb h
  · exact stwo_30 ha hb h
  · exact stwo_31 ha hb h
  · exact stwo_32 ha hb h
  · exact stwo_33 ha hb h
  · exact stwo_34 ha hb h
  · exact stwo_35 ha hb h
  · exact stwo_36 ha hb h
theorem sone_walk {k a r : Int} {m : Nat} (hm : 0 < m) (h1 : 1 ≤ k) (h2 : k ≤ 15) (ha : I6 a) (h : Wd.word_one.f m k a = some r) : (∀ W, Tab W → Calls Tryd.prog 89 #[.int .i64 k, .int .i64 a] W fun e w' => e = .returned (.int .i64 r) ∧ w' = W) ∧ I6 r := by
  obtain rfl | rfl | rfl | rfl | rfl | rfl | rfl | rfl | rfl | rfl | rfl | rfl | rfl | rfl | rfl : k = 1 ∨ k = 2 ∨ k = 3 ∨ k = 4 ∨ k = 5 ∨ k = 6 ∨ k = 7 ∨ k = 8 ∨ k = 9 ∨ k = 10 ∨ k = 11 ∨ k = 12 ∨ k = 13 ∨ k = 14 ∨ k = 15 := by omega
  · exact sone_1 hm ha h
  · exact sone_2 hm ha h
  · exact sone_3 hm ha h
  · exact sone_4 hm ha h
  · exact sone_5 hm ha h
  · exact sone_6 hm ha h
  · exact sone_7 hm ha h
  · exact sone_8 hm ha h
  · exact sone_9 hm ha h
  · exact sone_10 hm ha h
  · exact sone_11 hm ha h
  · exact sone_12 hm ha h
  · exact sone_13 hm ha h
  · exact sone_14 hm ha h
  · exact sone_15 hm ha h
theorem sapply {k a b x y : Int} {m : Nat} (h1 : 1 ≤ k) (h2 : k ≤ 36) (ha : I6 a) (hb : I6 b) (h : Wd.word_Apply.f (m + 6) k a b = some (x, y)) : Said k a b x y := by
  by_cases c : k ≤ 15
  · rw [Ops.apply_one k a b h1 c _ (by omega)] at h
    obtain ⟨t, ht, h⟩ := Option.bind_eq_some_iff.1 h
    obtain ⟨rfl, rfl⟩ := Prod.mk.inj (Option.some.inj h)
    obtain ⟨cx, hx⟩ := sone_walk (by omega) h1 c ha ht
    exact ⟨fun W hT => ap_one k a b h1 c W (cx W hT), hx, i6_0, by omega, by omega⟩
  by_cases c1 : k = 19 ∨ k = 20
  · rw [Ops.apply_div k a b c1 _ (by omega)] at h
    obtain ⟨t, ht, h⟩ := Option.bind_eq_some_iff.1 h
    obtain ⟨rfl, rfl⟩ := Prod.mk.inj (Option.some.inj h)
    rw [show m + 6 - 1 = (m + 4) + 1 by omega] at ht
    rcases c1 with rfl | rfl
    · have key : (∀ W, Tab W → Calls Tryd.prog 90 #[.int .i64 19, .int .i64 a, .int .i64 b] W fun e w' => e = .returned (.tuple #[.int .i64 t.1, .int .i64 t.2]) ∧ w' = W) ∧ (I6 t.1 ∧ (t.2 = 20 ∨ t.2 = 0)) := by
        by_cases z : b = 0
        · exact sdiv_19a ha hb z ht
        by_cases z' : b = -1
        · exact sdiv_19b ha hb z' ht
        · exact sdiv_19c ha hb ⟨z, z'⟩ ht
      obtain ⟨cx, hx, hy⟩ := key
      exact ⟨fun W hT => ap_19 0 a b W (cx W hT), hx, by rcases hy with e | e <;> rw [e]; exact i6_20; exact i6_0, by omega, by omega⟩
    · have key : (∀ W, Tab W → Calls Tryd.prog 90 #[.int .i64 20, .int .i64 a, .int .i64 b] W fun e w' => e = .returned (.tuple #[.int .i64 t.1, .int .i64 t.2]) ∧ w' = W) ∧ (I6 t.1 ∧ (t.2 = 20 ∨ t.2 = 0)) := by
        by_cases z : b = 0
        · exact sdiv_20a ha hb z ht
        by_cases z' : b = -1
        · exact sdiv_20b ha hb z' ht
        · exact sdiv_20c ha hb ⟨z, z'⟩ ht
      obtain ⟨cx, hx, hy⟩ := key
      exact ⟨fun W hT => ap_20 0 a b W (cx W hT), hx, by rcases hy with e | e <;> rw [e]; exact i6_20; exact i6_0, by omega, by omega⟩
  by_cases c2 : 25 ≤ k ∧ k ≤ 27
  · rw [Ops.apply_shift k a b c2.1 c2.2 _ (by omega)] at h
    obtain ⟨t, ht, h⟩ := Option.bind_eq_some_iff.1 h
    obtain ⟨rfl, rfl⟩ := Prod.mk.inj (Option.some.inj h)
    obtain rfl | rfl | rfl : k = 25 ∨ k = 26 ∨ k = 27 := by omega
    · have key : (∀ W, Tab W → Calls Tryd.prog 91 #[.int .i64 25, .int .i64 a, .int .i64 b] W fun e w' => e = .returned (.tuple #[.int .i64 t.1, .int .i64 t.2]) ∧ w' = W) ∧ (I6 t.1 ∧ (t.2 = 21 ∨ t.2 = 0)) := by
        by_cases z : b < 0
        · exact sshf_25a ha hb z ht
        · exact sshf_25b ha hb z ht
      obtain ⟨cx, hx, hy⟩ := key
      exact ⟨fun W hT => ap_25 0 a b W (cx W hT), hx, by rcases hy with e | e <;> rw [e]; exact i6_21; exact i6_0, by omega, by omega⟩
    · have key : (∀ W, Tab W → Calls Tryd.prog 91 #[.int .i64 26, .int .i64 a, .int .i64 b] W fun e w' => e = .returned (.tuple #[.int .i64 t.1, .int .i64 t.2]) ∧ w' = W) ∧ (I6 t.1 ∧ (t.2 = 21 ∨ t.2 = 0)) := by
        by_cases z : b < 0
        · exact sshf_26a ha hb z ht
        · exact sshf_26b ha hb z ht
      obtain ⟨cx, hx, hy⟩ := key
      exact ⟨fun W hT => ap_26 0 a b W (cx W hT), hx, by rcases hy with e | e <;> rw [e]; exact i6_21; exact i6_0, by omega, by omega⟩
    · have key : (∀ W, Tab W → Calls Tryd.prog 91 #[.int .i64 27, .int .i64 a, .int .i64 b] W fun e w' => e = .returned (.tuple #[.int .i64 t.1, .int .i64 t.2]) ∧ w' = W) ∧ (I6 t.1 ∧ (t.2 = 21 ∨ t.2 = 0)) := by
        by_cases z : b < 0
        · exact sshf_27a ha hb z ht
        · exact sshf_27b ha hb z ht
      obtain ⟨cx, hx, hy⟩ := key
      exact ⟨fun W hT => ap_27 0 a b W (cx W hT), hx, by rcases hy with e | e <;> rw [e]; exact i6_21; exact i6_0, by omega, by omega⟩
  · rw [Ops.apply_two k a b (by omega) h2 (by omega) (by omega) (by omega) _ (by omega)] at h
    obtain ⟨t, ht, h⟩ := Option.bind_eq_some_iff.1 h
    obtain ⟨rfl, rfl⟩ := Prod.mk.inj (Option.some.inj h)
    obtain ⟨cx, hx⟩ := stwo_walk (by omega) h2 (by omega) (by omega) (by omega) ha hb ht
    refine ⟨fun W hT => ?_, hx, i6_0, by omega, by omega⟩
    by_cases c3 : k < 25
    · exact ap_lo k a b (by omega) h2 (by omega) (by omega) c3 W (cx W hT)
    · exact ap_hi k a b (by omega) h2 (by omega) (by omega) (by omega) W (cx W hT)
end Go.Proofs.YtbcdeanmjhcgeaaDoor.Alu
