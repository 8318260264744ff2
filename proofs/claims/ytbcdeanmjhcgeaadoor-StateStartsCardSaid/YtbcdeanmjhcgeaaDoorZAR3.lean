/- scarabref02.shifted, bits, Wide, walked: each gives what it gives told plainly. No condition. -/
import Derived.Test.YtbcdeanmjhcgeaaDoorZAR1
namespace Go.Proofs.YtbcdeanmjhcgeaaDoor.Alu
set_option linter.unusedVariables false
set_option linter.unusedSimpArgs false
open Go.RowKit
set_option linter.unusedVariables false
set_option linter.unusedSimpArgs false
set_option maxHeartbeats 4000000 in
set_option maxRecDepth 100000 in
theorem shd_walk {a n f r : Int} {m : Nat} (h : Wd.scarabref02_shifted.f m a n f = some r) (W : World) : Calls Tryd.prog 99 #[.int .i64 a, .int .i64 n, .int .i64 f] W fun e w' => e = .returned (.int .i64 r) ∧ w' = W := by
  unfold Wd.scarabref02_shifted.f at h
  go_enter Tryd.func99, Tryd.ntmps99
  go_wp2
  go_loopw [7, 8] (fun x i wr => ∃ (q : Nat) (u j : Int), x = .int .i64 u ∧ i = .int .i64 j ∧ 0 ≤ j ∧ j ≤ 64 ∧ Wd.scarabref02_shifted.l0 q a n f u j = some r ∧ wr = W) (fun _ i _ => 64 - (intOf i).toNat)
  case atStart => exact ⟨m, 0, 0, rfl, rfl, by omega, by omega, h, rfl⟩
  case round =>
    obtain ⟨q, u, j, rfl, rfl, hj0, hj1, hl, rfl⟩ := hrel
    cases q with
    | zero => simp [Wd.scarabref02_shifted.l0] at hl
    | succ q =>
      unfold Wd.scarabref02_shifted.l0 at hl
      by_cases c : j < 64
      · rw [if_pos c] at hl
        have d : decide (j < 64) = true := by simpa using c
        cases q with
        | zero => simp [Wd.scarabref02_shifted.j1] at hl
        | succ q =>
          by_cases c1 : wrap64 (j - n) ≥ 0
          · rw [if_pos c1] at hl
            have d1 : decide (0 ≤ wrap64 (j - n)) = true := by simpa using c1
            unfold Wd.scarabref02_shifted.j1 at hl
            by_cases c2 : wrap64 (j - n) < 64
            · have d2 : decide (wrap64 (j - n) < 64) = true := by simpa using c2
              rw [d2, if_pos rfl] at hl
              rw [show wrap64 (j + 1) = j + 1 by unfold wrap64; omega] at hl
              clear c1 c2
              obtain ⟨t, ht, hl⟩ := Option.bind_eq_some_iff.1 hl
              obtain ⟨t', ht', hl⟩ := Option.bind_eq_some_iff.1 hl
              go_wp2_with (first | ((go_at_call 93; ((with_reducible refine (bit_walk ht _).mono ?_); rintro e w' ⟨rfl, rfl⟩))) | ((go_at_call 94; ((with_reducible refine (put_walk ht' _).mono ?_); rintro e w' ⟨rfl, rfl⟩))))
              go_roundw
              case rel => exact ⟨q, t', j + 1, by first | rfl | go_num, by first | rfl | go_num, by omega, by omega, hl, trivial⟩
              case measure => simp [intOf]; omega
            · have d2 : decide (wrap64 (j - n) < 64) = false := by simpa using c2
              rw [d2, if_neg (by simp)] at hl
              rw [show wrap64 (j + 1) = j + 1 by unfold wrap64; omega] at hl
              clear c1 c2
              obtain ⟨t', ht', hl⟩ := Option.bind_eq_some_iff.1 hl
              go_wp2_with (first | ((go_at_call 94; ((with_reducible refine (put_walk ht' _).mono ?_); rintro e w' ⟨rfl, rfl⟩))))
              go_roundw
              case rel => exact ⟨q, t', j + 1, by first | rfl | go_num, by first | rfl | go_num, by omega, by omega, hl, trivial⟩
              case measure => simp [intOf]; omega
          · rw [if_neg c1] at hl
            have d1 : decide (0 ≤ wrap64 (j - n)) = false := by simpa using c1
            unfold Wd.scarabref02_shifted.j1 at hl
            rw [if_neg (by simp)] at hl
            rw [show wrap64 (j + 1) = j + 1 by unfold wrap64; omega] at hl
            clear c1
            obtain ⟨t', ht', hl⟩ := Option.bind_eq_some_iff.1 hl
            go_wp2_with (first | ((go_at_call 94; ((with_reducible refine (put_walk ht' _).mono ?_); rintro e w' ⟨rfl, rfl⟩))))
            go_roundw
            case rel => exact ⟨q, t', j + 1, by first | rfl | go_num, by first | rfl | go_num, by omega, by omega, hl, trivial⟩
            case measure => simp [intOf]; omega
      · rw [if_neg c] at hl
        obtain rfl := Option.some.inj hl
        have d : decide (j < 64) = false := by simpa using c
        clear c hl
        go_wp2
        refine bodyPost_ret (results_tmp rfl _ _ _) rfl ?_
        exact ⟨rfl, rfl⟩
set_option maxHeartbeats 4000000 in
set_option maxRecDepth 100000 in
theorem rbits_21 {a b r : Int} {m : Nat} (h : Wd.scarabref02_bits.f m 21 a b = some r) (W : World) : Calls Tryd.prog 98 #[.int .i64 21, .int .i64 a, .int .i64 b] W fun e w' => e = .returned (.int .i64 r) ∧ w' = W := by
  unfold Wd.scarabref02_bits.f at h
  go_enter Tryd.func98, Tryd.ntmps98
  go_wp2
  go_loopw [7, 8] (fun x i wr => ∃ (q : Nat) (u j : Int), x = .int .i64 u ∧ i = .int .i64 j ∧ 0 ≤ j ∧ j ≤ 64 ∧ Wd.scarabref02_bits.l0 q 21 a b u j = some r ∧ wr = W) (fun _ i _ => 64 - (intOf i).toNat)
  case atStart => exact ⟨m, 0, 0, rfl, rfl, by omega, by omega, h, rfl⟩
  case round =>
    obtain ⟨q, u, j, rfl, rfl, hj0, hj1, hl, rfl⟩ := hrel
    cases q with
    | zero => simp [Wd.scarabref02_bits.l0] at hl
    | succ q =>
      unfold Wd.scarabref02_bits.l0 at hl
      by_cases c : j < 64
      · rw [if_pos c] at hl
        have d : decide (j < 64) = true := by simpa using c
        obtain ⟨t, ht, hk⟩ := Option.bind_eq_some_iff.1 hl
        clear hl
        obtain ⟨t', ht', hl⟩ := Option.bind_eq_some_iff.1 hk
        clear hk
        simp only [Int.reduceEq, if_true, if_false] at hl
        rw [show wrap64 (j + 1) = j + 1 by unfold wrap64; omega] at hl
        obtain ⟨y, hy, hl⟩ := Option.bind_eq_some_iff.1 hl
        obtain ⟨p, hp, hl⟩ := Option.bind_eq_some_iff.1 hl
        go_wp2_with (first | ((go_at_call 93; ((with_reducible refine (bit_walk ht _).mono ?_); rintro e w' ⟨rfl, rfl⟩))) | ((go_at_call 93; ((with_reducible refine (bit_walk ht' _).mono ?_); rintro e w' ⟨rfl, rfl⟩))) | ((go_at_call 95; ((with_reducible refine (ryes_walk hy _).mono ?_); rintro e w' ⟨rfl, rfl⟩))) | ((go_at_call 94; ((with_reducible refine (put_walk hp _).mono ?_); rintro e w' ⟨rfl, rfl⟩))))
        go_roundw
        case rel => exact ⟨q, p, j + 1, by first | rfl | go_num, by first | rfl | go_num, by omega, by omega, hl, trivial⟩
        case measure => simp [intOf]; omega
      · rw [if_neg c] at hl
        obtain rfl := Option.some.inj hl
        have d : decide (j < 64) = false := by simpa using c
        clear c hl
        go_wp2
        refine bodyPost_ret (results_tmp rfl _ _ _) rfl ?_
        exact ⟨rfl, rfl⟩
set_option maxHeartbeats 4000000 in
set_option maxRecDepth 100000 in
theorem rbits_22 {a b r : Int} {m : Nat} (h : Wd.scarabref02_bits.f m 22 a b = some r) (W : World) : Calls Tryd.prog 98 #[.int .i64 22, .int .i64 a, .int .i64 b] W fun e w' => e = .returned (.int .i64 r) ∧ w' = W := by
  unfold Wd.scarabref02_bits.f at h
  go_enter Tryd.func98, Tryd.ntmps98
  go_wp2
  go_loopw [7, 8] (fun x i wr => ∃ (q : Nat) (u j : Int), x = .int .i64 u ∧ i = .int .i64 j ∧ 0 ≤ j ∧ j ≤ 64 ∧ Wd.scarabref02_bits.l0 q 22 a b u j = some r ∧ wr = W) (fun _ i _ => 64 - (intOf i).toNat)
  case atStart => exact ⟨m, 0, 0, rfl, rfl, by omega, by omega, h, rfl⟩
  case round =>
    obtain ⟨q, u, j, rfl, rfl, hj0, hj1, hl, rfl⟩ := hrel
    cases q with
    | zero => simp [Wd.scarabref02_bits.l0] at hl
    | succ q =>
      unfold Wd.scarabref02_bits.l0 at hl
      by_cases c : j < 64
      · rw [if_pos c] at hl
        have d : decide (j < 64) = true := by simpa using c
        obtain ⟨t, ht, hk⟩ := Option.bind_eq_some_iff.1 hl
        clear hl
        obtain ⟨t', ht', hl⟩ := Option.bind_eq_some_iff.1 hk
        clear hk
        simp only [Int.reduceEq, if_true, if_false] at hl
        rw [show wrap64 (j + 1) = j + 1 by unfold wrap64; omega] at hl
        obtain ⟨y, hy, hl⟩ := Option.bind_eq_some_iff.1 hl
        obtain ⟨p, hp, hl⟩ := Option.bind_eq_some_iff.1 hl
        go_wp2_with (first | ((go_at_call 93; ((with_reducible refine (bit_walk ht _).mono ?_); rintro e w' ⟨rfl, rfl⟩))) | ((go_at_call 93; ((with_reducible refine (bit_walk ht' _).mono ?_); rintro e w' ⟨rfl, rfl⟩))) | ((go_at_call 95; ((with_reducible refine (ryes_walk hy _).mono ?_); rintro e w' ⟨rfl, rfl⟩))) | ((go_at_call 94; ((with_reducible refine (put_walk hp _).mono ?_); rintro e w' ⟨rfl, rfl⟩))))
        go_roundw
        case rel => exact ⟨q, p, j + 1, by first | rfl | go_num, by first | rfl | go_num, by omega, by omega, hl, trivial⟩
        case measure => simp [intOf]; omega
      · rw [if_neg c] at hl
        obtain rfl := Option.some.inj hl
        have d : decide (j < 64) = false := by simpa using c
        clear c hl
        go_wp2
        refine bodyPost_ret (results_tmp rfl _ _ _) rfl ?_
        exact ⟨rfl, rfl⟩
set_option maxHeartbeats 4000000 in
set_option maxRecDepth 100000 in
theorem rbits_23 {a b r : Int} {m : Nat} (h : Wd.scarabref02_bits.f m 23 a b = some r) (W : World) : Calls Tryd.prog 98 #[.int .i64 23, .int .i64 a, .int .i64 b] W fun e w' => e = .returned (.int .i64 r) ∧ w' = W := by
  unfold Wd.scarabref02_bits.f at h
  go_enter Tryd.func98, Tryd.ntmps98
  go_wp2
  go_loopw [7, 8] (fun x i wr => ∃ (q : Nat) (u j : Int), x = .int .i64 u ∧ i = .int .i64 j ∧ 0 ≤ j ∧ j ≤ 64 ∧ Wd.scarabref02_bits.l0 q 23 a b u j = some r ∧ wr = W) (fun _ i _ => 64 - (intOf i).toNat)
  case atStart => exact ⟨m, 0, 0, rfl, rfl, by omega, by omega, h, rfl⟩
  case round =>
    obtain ⟨q, u, j, rfl, rfl, hj0, hj1, hl, rfl⟩ := hrel
    cases q with
    | zero => simp [Wd.scarabref02_bits.l0] at hl
    | succ q =>
      unfold Wd.scarabref02_bits.l0 at hl
      by_cases c : j < 64
      · rw [if_pos c] at hl
        have d : decide (j < 64) = true := by simpa using c
        obtain ⟨t, ht, hk⟩ := Option.bind_eq_some_iff.1 hl
        clear hl
        obtain ⟨t', ht', hl⟩ := Option.bind_eq_some_iff.1 hk
        clear hk
        simp only [Int.reduceEq, if_true, if_false] at hl
        rw [show wrap64 (j + 1) = j + 1 by unfold wrap64; omega] at hl
        obtain ⟨y, hy, hl⟩ := Option.bind_eq_some_iff.1 hl
        obtain ⟨p, hp, hl⟩ := Option.bind_eq_some_iff.1 hl
        go_wp2_with (first | ((go_at_call 93; ((with_reducible refine (bit_walk ht _).mono ?_); rintro e w' ⟨rfl, rfl⟩))) | ((go_at_call 93; ((with_reducible refine (bit_walk ht' _).mono ?_); rintro e w' ⟨rfl, rfl⟩))) | ((go_at_call 95; ((with_reducible refine (ryes_walk hy _).mono ?_); rintro e w' ⟨rfl, rfl⟩))) | ((go_at_call 94; ((with_reducible refine (put_walk hp _).mono ?_); rintro e w' ⟨rfl, rfl⟩))))
        go_roundw
        case rel => exact ⟨q, p, j + 1, by first | rfl | go_num, by first | rfl | go_num, by omega, by omega, hl, trivial⟩
        case measure => simp [intOf]; omega
      · rw [if_neg c] at hl
        obtain rfl := Option.some.inj hl
        have d : decide (j < 64) = false := by simpa using c
        clear c hl
        go_wp2
        refine bodyPost_ret (results_tmp rfl _ _ _) rfl ?_
        exact ⟨rfl, rfl⟩
set_option maxHeartbeats 4000000 in
set_option maxRecDepth 100000 in
theorem rbits_24 {a b r : Int} {m : Nat} (h : Wd.scarabref02_bits.f m 24 a b = some r) (W : World) : Calls Tryd.prog 98 #[.int .i64 24, .int .i64 a, .int .i64 b] W fun e w' => e = .returned (.int .i64 r) ∧ w' = W := by
  unfold Wd.scarabref02_bits.f at h
  go_enter Tryd.func98, Tryd.ntmps98
  go_wp2
  go_loopw [7, 8] (fun x i wr => ∃ (q : Nat) (u j : Int), x = .int .i64 u ∧ i = .int .i64 j ∧ 0 ≤ j ∧ j ≤ 64 ∧ Wd.scarabref02_bits.l0 q 24 a b u j = some r ∧ wr = W) (fun _ i _ => 64 - (intOf i).toNat)
  case atStart => exact ⟨m, 0, 0, rfl, rfl, by omega, by omega, h, rfl⟩
  case round =>
    obtain ⟨q, u, j, rfl, rfl, hj0, hj1, hl, rfl⟩ := hrel
    cases q with
    | zero => simp [Wd.scarabref02_bits.l0] at hl
    | succ q =>
      unfold Wd.scarabref02_bits.l0 at hl
      by_cases c : j < 64
      · rw [if_pos c] at hl
        have d : decide (j < 64) = true := by simpa using c
        obtain ⟨t, ht, hk⟩ := Option.bind_eq_some_iff.1 hl
        clear hl
        obtain ⟨t', ht', hl⟩ := Option.bind_eq_some_iff.1 hk
        clear hk
        simp only [Int.reduceEq, if_true, if_false] at hl
        skip
        by_cases c1 : t = 1
        · rw [if_pos c1] at hl
          rw [show wrap64 (j + 1) = j + 1 by unfold wrap64; omega] at hl
          have d1 : (t == 1) = true := by simpa using c1
          clear c1
          obtain ⟨y, hy, hl⟩ := Option.bind_eq_some_iff.1 hl
          obtain ⟨p, hp, hl⟩ := Option.bind_eq_some_iff.1 hl
          go_wp2_with (first | ((go_at_call 93; ((with_reducible refine (bit_walk ht _).mono ?_); rintro e w' ⟨rfl, rfl⟩))) | ((go_at_call 93; ((with_reducible refine (bit_walk ht' _).mono ?_); rintro e w' ⟨rfl, rfl⟩))) | ((go_at_call 95; ((with_reducible refine (ryes_walk hy _).mono ?_); rintro e w' ⟨rfl, rfl⟩))) | ((go_at_call 94; ((with_reducible refine (put_walk hp _).mono ?_); rintro e w' ⟨rfl, rfl⟩))))
          go_roundw
          case rel => exact ⟨q, p, j + 1, by first | rfl | go_num, by first | rfl | go_num, by omega, by omega, hl, trivial⟩
          case measure => simp [intOf]; omega
        · rw [if_neg c1] at hl
          rw [show wrap64 (j + 1) = j + 1 by unfold wrap64; omega] at hl
          have d1 : (t == 1) = false := by simpa using c1
          clear c1
          obtain ⟨y, hy, hl⟩ := Option.bind_eq_some_iff.1 hl
          obtain ⟨p, hp, hl⟩ := Option.bind_eq_some_iff.1 hl
          go_wp2_with (first | ((go_at_call 93; ((with_reducible refine (bit_walk ht _).mono ?_); rintro e w' ⟨rfl, rfl⟩))) | ((go_at_call 93; ((with_reducible refine (bit_walk ht' _).mono ?_); rintro e w' ⟨rfl, rfl⟩))) | ((go_at_call 95; ((with_reducible refine (ryes_walk hy _).mono ?_); rintro e w' ⟨rfl, rfl⟩))) | ((go_at_call 94; ((with_reducible refine (put_walk hp _).mono ?_); rintro e w' ⟨rfl, rfl⟩))))
          go_roundw
          case rel => exact ⟨q, p, j + 1, by first | rfl | go_num, by first | rfl | go_num, by omega, by omega, hl, trivial⟩
          case measure => simp [intOf]; omega
      · rw [if_neg c] at hl
        obtain rfl := Option.some.inj hl
        have d : decide (j < 64) = false := by simpa using c
        clear c hl
        go_wp2
        refine bodyPost_ret (results_tmp rfl _ _ _) rfl ?_
        exact ⟨rfl, rfl⟩
set_option maxHeartbeats 4000000 in
set_option maxRecDepth 100000 in
theorem rwide_walk {a b : Int} {r : Int × Int} {m : Nat} (h : Wd.scarabref02_Wide.f m a b = some r) (W : World) : Calls Tryd.prog 97 #[.int .i64 a, .int .i64 b] W fun e w' => e = .returned (.tuple #[.int .i64 r.1, .int .u64 r.2]) ∧ w' = W := by
  unfold Wd.scarabref02_Wide.f at h
  go_enter Tryd.func97, Tryd.ntmps97
  go_wp2
  go_loopw [6, 7, 8] (fun x y i wr => ∃ (q : Nat) (u v j : Int), x = .int .i64 u ∧ y = .int .u64 v ∧ i = .int .i64 j ∧ -1 ≤ j ∧ j ≤ 63 ∧ Wd.scarabref02_Wide.l0 q a b u v j = some r ∧ wr = W) (fun _ _ i _ => (intOf i + 1).toNat)
  case atStart => exact ⟨m, 0, 0, 63, rfl, rfl, rfl, by omega, by omega, h, rfl⟩
  case round =>
    obtain ⟨q, u, v, j, rfl, rfl, rfl, hj0, hj1, hl, rfl⟩ := hrel
    cases q with
    | zero => simp [Wd.scarabref02_Wide.l0] at hl
    | succ q =>
      unfold Wd.scarabref02_Wide.l0 at hl
      by_cases c : j ≥ 0
      · rw [if_pos c] at hl
        have d : decide (0 ≤ j) = true := by simpa using c
        rw [show wrap64 (j - 1) = j - 1 by unfold wrap64; omega] at hl
        obtain ⟨t, ht, hl⟩ := Option.bind_eq_some_iff.1 hl
        by_cases ct : t = 0
        · rw [if_pos ct] at hl
          subst ct
          go_wp2_with (first | ((go_at_call 93; ((with_reducible refine (bit_walk ht _).mono ?_); rintro e w' ⟨rfl, rfl⟩))))
          go_roundw
          case rel => exact ⟨q, _, _, j - 1, rfl, rfl, by first | rfl | go_num, by omega, by omega, hl, trivial⟩
          case measure => simp [intOf]; omega
        · rw [if_neg ct] at hl
          have d3 : (t == 0) = false := by simpa using ct
          clear ct
          by_cases c6 : j = 63
          · rw [if_pos c6] at hl
            have d6 : (j == 63) = true := by simpa using c6
            clear c6
            by_cases c7 : IntKind.u64.wrap (v * 2) < IntKind.u64.wrap a
            · rw [if_pos c7] at hl
              have d7 : decide (IntKind.u64.wrap (v * 2) < IntKind.u64.wrap a) = true := by simpa using c7
              clear c7
              go_wp2_with (first | ((go_at_call 93; ((with_reducible refine (bit_walk ht _).mono ?_); rintro e w' ⟨rfl, rfl⟩))))
              go_roundw
              case rel => exact ⟨q, _, _, j - 1, rfl, rfl, by first | rfl | go_num, by omega, by omega, hl, trivial⟩
              case measure => simp [intOf]; omega
            · rw [if_neg c7] at hl
              have d7 : decide (IntKind.u64.wrap (v * 2) < IntKind.u64.wrap a) = false := by simpa using c7
              clear c7
              go_wp2_with (first | ((go_at_call 93; ((with_reducible refine (bit_walk ht _).mono ?_); rintro e w' ⟨rfl, rfl⟩))))
              go_roundw
              case rel => exact ⟨q, _, _, j - 1, rfl, rfl, by first | rfl | go_num, by omega, by omega, hl, trivial⟩
              case measure => simp [intOf]; omega
          · rw [if_neg c6] at hl
            have d6 : (j == 63) = false := by simpa using c6
            clear c6
            by_cases c7 : IntKind.u64.wrap (IntKind.u64.wrap (v * 2) + IntKind.u64.wrap a) < IntKind.u64.wrap (v * 2)
            · rw [if_pos c7] at hl
              have d7 : decide (IntKind.u64.wrap (IntKind.u64.wrap (v * 2) + IntKind.u64.wrap a) < IntKind.u64.wrap (v * 2)) = true := by simpa using c7
              clear c7
              go_wp2_with (first | ((go_at_call 93; ((with_reducible refine (bit_walk ht _).mono ?_); rintro e w' ⟨rfl, rfl⟩))))
              go_roundw
              case rel => exact ⟨q, _, _, j - 1, rfl, rfl, by first | rfl | go_num, by omega, by omega, hl, trivial⟩
              case measure => simp [intOf]; omega
            · rw [if_neg c7] at hl
              have d7 : decide (IntKind.u64.wrap (IntKind.u64.wrap (v * 2) + IntKind.u64.wrap a) < IntKind.u64.wrap (v * 2)) = false := by simpa using c7
              clear c7
              go_wp2_with (first | ((go_at_call 93; ((with_reducible refine (bit_walk ht _).mono ?_); rintro e w' ⟨rfl, rfl⟩))))
              go_roundw
              case rel => exact ⟨q, _, _, j - 1, rfl, rfl, by first | rfl | go_num, by omega, by omega, hl, trivial⟩
              case measure => simp [intOf]; omega
      · rw [if_neg c] at hl
        obtain rfl := Option.some.inj hl
        have d : decide (0 ≤ j) = false := by simpa using c
        clear c hl
        go_wp2
        refine bodyPost_ret (results_tmp2 rfl _ _ _) rfl ?_
        exact ⟨rfl, rfl⟩
end Go.Proofs.YtbcdeanmjhcgeaaDoor.Alu
