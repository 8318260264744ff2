/- scarabref02's small functions, walked: each gives what it gives told plainly. No condition. -/
import Derived.Test.YtbcdeanmjhcgeaaDoorZi
import Derived.Test.YtbcdeanmjhcgeaaDoorZl
namespace Go.Proofs.YtbcdeanmjhcgeaaDoor.Alu
set_option linter.unusedVariables false
set_option linter.unusedSimpArgs false
open Go.RowKit
set_option linter.unusedVariables false
set_option linter.unusedSimpArgs false
theorem shl_w {k yk : IntKind} {x y : Int} (h : 0 ≤ y) : Op.shift .shl k x yk y = pure (.int k (Wd.shl k x y)) := shl_eq h
theorem shr_w {k yk : IntKind} {x y : Int} (h : 0 ≤ y) : Op.shift .shr k x yk y = pure (.int k (Wd.shr k x y)) := by
  rw [shr_eq h]
  unfold shrv Wd.shr
  rw [Int.fdiv_eq_ediv_of_nonneg _ (Int.le_of_lt (Int.pow_pos (by omega)))]
theorem bit_walk {a k r : Int} (h : Wd.scarabref02_bit.f a k = some r) (W : World) : Calls Tryd.prog 93 #[.int .i64 a, .int .i64 k] W fun e w' => e = .returned (.int .i64 r) ∧ w' = W := by
  unfold Wd.scarabref02_bit.f at h
  rw [if_pos (u6_wrap k).1] at h
  obtain rfl := Option.some.inj h
  have s2 := fun x yk => shr_w (k := .u64) (x := x) (yk := yk) (u6_wrap k).1
  clear h
  go_enter Tryd.func93, Tryd.ntmps93
  go_wp2
  refine bodyPost_ret (results_tmp rfl _ _ _) rfl ?_
  exact ⟨rfl, rfl⟩
theorem put_walk {a k v r : Int} (h : Wd.scarabref02_put.f a k v = some r) (W : World) : Calls Tryd.prog 94 #[.int .i64 a, .int .i64 k, .int .i64 v] W fun e w' => e = .returned (.int .i64 r) ∧ w' = W := by
  unfold Wd.scarabref02_put.f at h
  rw [if_pos (u6_wrap k).1] at h
  obtain rfl := Option.some.inj h
  have s2 := fun x yk => shl_w (k := .u64) (x := x) (yk := yk) (u6_wrap k).1
  clear h
  go_enter Tryd.func94, Tryd.ntmps94
  go_wp2
  refine bodyPost_ret (results_tmp rfl _ _ _) rfl ?_
  exact ⟨rfl, rfl⟩
theorem ryes_walk {b : Bool} {r : Int} (h : Wd.scarabref02_yes.f b = some r) (W : World) : Calls Tryd.prog 95 #[.bool b] W fun e w' => e = .returned (.int .i64 r) ∧ w' = W := by
  cases b
  all_goals
    obtain rfl := Option.some.inj h
    go_enter Tryd.func95, Tryd.ntmps95
    go_wp2
    refine bodyPost_ret (results_tmp rfl _ _ _) rfl ?_
    exact ⟨rfl, rfl⟩
theorem few_walk {b r : Int} (h : Wd.scarabref02_few.f b = some r) (W : World) : Calls Tryd.prog 100 #[.int .i64 b] W fun e w' => e = .returned (.int .i64 r) ∧ w' = W := by
  unfold Wd.scarabref02_few.f at h
  by_cases c : b > 64
  · rw [if_pos c] at h
    obtain rfl := Option.some.inj h
    have d : decide (64 < b) = true := by simpa using c
    clear c h
    go_enter Tryd.func100, Tryd.ntmps100
    go_wp2
    refine bodyPost_ret (results_tmp rfl _ _ _) rfl ?_
    exact ⟨rfl, rfl⟩
  · rw [if_neg c] at h
    obtain rfl := Option.some.inj h
    have d : decide (64 < b) = false := by simpa using c
    clear c h
    go_enter Tryd.func100, Tryd.ntmps100
    go_wp2
    refine bodyPost_ret (results_tmp rfl _ _ _) rfl ?_
    exact ⟨rfl, rfl⟩
set_option maxHeartbeats 4000000 in
set_option maxRecDepth 100000 in
theorem conv_walk {n a r : Int} {m : Nat} {s : Bool} (h : Wd.scarabref02_converted.f m a n s = some r) (W : World) : Calls Tryd.prog 96 #[.int .i64 a, .int .i64 n, .bool s] W fun e w' => e = .returned (.int .i64 r) ∧ w' = W := by
  unfold Wd.scarabref02_converted.f at h
  go_enter Tryd.func96, Tryd.ntmps96
  go_wp2
  go_loopw [7, 8] (fun x i wr => ∃ (q : Nat) (u j : Int), x = .int .i64 u ∧ i = .int .i64 j ∧ 0 ≤ j ∧ j ≤ 64 ∧ Wd.scarabref02_converted.l0 q a n s u j = some r ∧ wr = W) (fun _ i _ => 64 - (intOf i).toNat)
  case atStart => exact ⟨m, 0, 0, rfl, rfl, by omega, by omega, h, rfl⟩
  case round =>
    obtain ⟨q, u, j, rfl, rfl, hj0, hj1, hl, rfl⟩ := hrel
    cases q with
    | zero => simp [Wd.scarabref02_converted.l0] at hl
    | succ q =>
      unfold Wd.scarabref02_converted.l0 at hl
      by_cases c : j < 64
      · rw [if_pos c] at hl
        have d : decide (j < 64) = true := by simpa using c
        rw [show wrap64 (j + 1) = j + 1 by unfold wrap64; omega] at hl
        by_cases c2 : j < n
        · rw [if_pos c2] at hl
          have d2 : decide (j < n) = true := by simpa using c2
          obtain ⟨t, ht, hl⟩ := Option.bind_eq_some_iff.1 hl
          obtain ⟨t', ht', hl⟩ := Option.bind_eq_some_iff.1 hl
          go_wp2_with (first | ((go_at_call 93; ((with_reducible refine (bit_walk ht _).mono ?_); rintro e w' ⟨rfl, rfl⟩))) | ((go_at_call 94; ((with_reducible refine (put_walk ht' _).mono ?_); rintro e w' ⟨rfl, rfl⟩))))
          go_roundw
          case rel => exact ⟨q, t', j + 1, rfl, by first | rfl | go_num, by omega, by omega, hl, trivial⟩
          case measure => simp [intOf]; omega
        · rw [if_neg c2] at hl
          have d2 : decide (j < n) = false := by simpa using c2
          clear c2
          cases s with
          | true =>
            simp only [if_true] at hl
            obtain ⟨t, ht, hl⟩ := Option.bind_eq_some_iff.1 hl
            obtain ⟨t', ht', hl⟩ := Option.bind_eq_some_iff.1 hl
            go_wp2_with (first | ((go_at_call 93; ((with_reducible refine (bit_walk ht _).mono ?_); rintro e w' ⟨rfl, rfl⟩))) | ((go_at_call 94; ((with_reducible refine (put_walk ht' _).mono ?_); rintro e w' ⟨rfl, rfl⟩))))
            go_roundw
            case rel => exact ⟨q, t', j + 1, rfl, by first | rfl | go_num, by omega, by omega, hl, trivial⟩
            case measure => simp [intOf]; omega
          | false =>
            simp only [Bool.false_eq_true, if_false] at hl
            obtain ⟨t', ht', hl⟩ := Option.bind_eq_some_iff.1 hl
            go_wp2_with (first | ((go_at_call 94; ((with_reducible refine (put_walk ht' _).mono ?_); rintro e w' ⟨rfl, rfl⟩))))
            go_roundw
            case rel => exact ⟨q, t', j + 1, rfl, by first | rfl | go_num, by omega, by omega, hl, trivial⟩
            case measure => simp [intOf]; omega
      · rw [if_neg c] at hl
        obtain rfl := Option.some.inj hl
        have d : decide (j < 64) = false := by simpa using c
        clear c hl
        go_wp2
        refine bodyPost_ret (results_tmp rfl _ _ _) rfl ?_
        exact ⟨rfl, rfl⟩
end Go.Proofs.YtbcdeanmjhcgeaaDoor.Alu
