/- The library's functions and the small ones of word, walked: each gives what it gives told plainly. The condition of one: the table of math/bits lies in the world. -/
import Derived.Test.YtbcdeanmjhcgeaaDoorZl
import Derived.Test.YtbcdeanmjhcgeaaDoorZAR1
namespace Go.Proofs.YtbcdeanmjhcgeaaDoor.Alu
set_option linter.unusedVariables false
set_option linter.unusedSimpArgs false
open Go.RowKit
set_option linter.unusedVariables false
set_option linter.unusedSimpArgs false
set_option maxHeartbeats 4000000 in
set_option maxRecDepth 100000 in
theorem sones_walk {u r : Int} (h : Wd.bits_OnesCount64.f u = some r) (W : World) : Calls Tryd.prog 105 #[.int .u64 u] W fun e w' => e = .returned (.int .i64 r) ∧ w' = W := by
  unfold Wd.bits_OnesCount64.f at h
  obtain rfl := Option.some.inj h
  clear h
  go_enter Tryd.func105, Tryd.ntmps105
  go_wp2
  refine bodyPost_ret (results_tmp rfl _ _ _) rfl ?_
  exact ⟨rfl, rfl⟩
theorem i6_ones {u r : Int} (h : Wd.bits_OnesCount64.f u = some r) : I6 r := by
  unfold Wd.bits_OnesCount64.f at h
  obtain rfl := Option.some.inj h
  exact i6_bits _ _ _
theorem isLen_aux : ∀ (f x : Nat), x < 2 ^ f → Ones.isLen x (Lib.bitLenAux f x)
  | 0, x, h => by have : x = 0 := by simp at h; exact h
                  subst this; exact ⟨by simp [Lib.bitLenAux], fun h => absurd rfl h⟩
  | f + 1, x, h => by
    unfold Lib.bitLenAux
    by_cases c : x = 0
    · rw [if_pos c]; subst c; exact ⟨by simp, fun h => absurd rfl h⟩
    · rw [if_neg c]
      obtain ⟨h1, h2⟩ := isLen_aux f (x / 2) (by rw [Nat.pow_succ] at h; omega)
      generalize Lib.bitLenAux f (x / 2) = L at *
      refine ⟨by rw [Nat.add_comm, Nat.pow_succ]; omega, fun _ => ?_⟩
      rw [Nat.add_comm, Nat.add_sub_cancel]
      cases L with
      | zero => simp; omega
      | succ L => have := h2 (by omega); rw [Nat.add_sub_cancel] at this; rw [Nat.pow_succ]; omega
theorem slead_walk {u r : Int} {k : Nat} (hk : 0 < k) (hu : U6 u) (h : Wd.bits_LeadingZeros64.f k u = some r) (W : World) : Calls Tryd.prog 106 #[.int .u64 u] W fun e w' => e = .returned (.int .i64 r) ∧ w' = W := by
  obtain ⟨y, rfl⟩ : ∃ y : Nat, u = y := ⟨u.toNat, by have := hu.1; omega⟩
  have hy : y < 18446744073709551616 := by have := hu.2; omega
  obtain ⟨L, hL, hl, _⟩ := Ones.lead64 y hy k hk
  rw [hL] at h
  obtain rfl := Option.some.inj h
  have e := Ones.isLen_one hl (isLen_aux 64 y (by simpa using hy))
  have := Tryd.bits_LeadingZeros64 (y : Int) W hu.1 hu.2
  rw [Int.toNat_natCast, show Lib.bitLen y = L from e.symm] at this
  exact this
theorem i6_lead {u r : Int} {k : Nat} (hk : 0 < k) (hu : U6 u) (h : Wd.bits_LeadingZeros64.f k u = some r) : I6 r := by
  obtain ⟨y, rfl⟩ : ∃ y : Nat, u = y := ⟨u.toNat, by have := hu.1; omega⟩
  obtain ⟨L, hL, _, h64⟩ := Ones.lead64 y (by have := hu.2; omega) k hk
  rw [hL] at h
  obtain rfl := Option.some.inj h
  unfold I6; omega
theorem strail_walk {u r : Int} (h : Wd.bits_TrailingZeros64.f u = some r) (W : World) (hT : Tab W) : Calls Tryd.prog 103 #[.int .u64 u] W fun e w' => e = .returned (.int .i64 r) ∧ w' = W := by
  unfold Wd.bits_TrailingZeros64.f at h
  by_cases c0 : 0 ≤ u
  · rw [if_pos c0] at h
    by_cases c1 : u < 18446744073709551616
    · rw [if_pos c1] at h
      obtain rfl := Option.some.inj h
      obtain ⟨y, rfl⟩ : ∃ y : Nat, u = y := ⟨u.toNat, by omega⟩
      rw [Int.toNat_natCast]
      exact trail_walk y (by omega) W hT
    · rw [if_neg c1] at h; cases h
  · rw [if_neg c0] at h; cases h
theorem i6_trail {u r : Int} (h : Wd.bits_TrailingZeros64.f u = some r) : I6 r := by
  unfold Wd.bits_TrailingZeros64.f at h
  by_cases c0 : 0 ≤ u
  · rw [if_pos c0] at h
    by_cases c1 : u < 18446744073709551616
    · rw [if_pos c1] at h
      obtain rfl := Option.some.inj h
      have := ctz_le u.toNat (by omega)
      unfold I6; omega
    · rw [if_neg c1] at h; cases h
  · rw [if_neg c0] at h; cases h
theorem srotl_walk {u n r : Int} (h : Wd.bits_RotateLeft64.f u n = some r) (W : World) : Calls Tryd.prog 109 #[.int .u64 u, .int .i64 n] W fun e w' => e = .returned (.int .u64 r) ∧ w' = W := by
  have h1 := (u6_bits .and (IntKind.u64.wrap n) 63).1
  have h2 := (u6_wrap (64 - bits .and .u64 (IntKind.u64.wrap n) 63)).1
  unfold Wd.bits_RotateLeft64.f at h
  rw [if_pos h1, if_pos h2] at h
  obtain rfl := Option.some.inj h
  have s1 := fun x yk => shl_w (k := .u64) (x := x) (yk := yk) h1
  have s2 := fun x yk => shr_w (k := .u64) (x := x) (yk := yk) h2
  clear h
  go_enter Tryd.func109, Tryd.ntmps109
  go_wp2
  refine bodyPost_ret (results_tmp rfl _ _ _) rfl ?_
  exact ⟨rfl, rfl⟩
theorem syes_walk {b : Bool} {r : Int} (h : Wd.word_yes.f b = some r) (W : World) : Calls Tryd.prog 108 #[.bool b] W fun e w' => e = .returned (.int .i64 r) ∧ w' = W := by
  cases b
  all_goals
    obtain rfl := Option.some.inj h
    exact yes_walk _ W
theorem i6_yes {b : Bool} {r : Int} (h : Wd.word_yes.f b = some r) : I6 r := by
  cases b
  all_goals
    obtain rfl := Option.some.inj h
    unfold I6; omega
set_option maxHeartbeats 4000000 in
set_option maxRecDepth 100000 in
theorem sflip_walk {a r : Int} {m : Nat} (h : Wd.word_flip.f m a = some r) (W : World) : Calls Tryd.prog 107 #[.int .i64 a] W fun e w' => e = .returned (.int .i64 r) ∧ w' = W := by
  unfold Wd.word_flip.f at h
  go_enter Tryd.func107, Tryd.ntmps107
  go_wp2
  go_loopw [3, 5] (fun x i wr => ∃ (q : Nat) (u j : Int), x = .int .u64 u ∧ i = .int .i64 j ∧ 0 ≤ j ∧ j ≤ 64 ∧ Wd.word_flip.l0 q a u j = some r ∧ wr = W) (fun _ i _ => 64 - (intOf i).toNat)
  case atStart => exact ⟨m, 0, 0, rfl, rfl, by omega, by omega, h, rfl⟩
  case round =>
    obtain ⟨q, u, j, rfl, rfl, hj0, hj1, hl, rfl⟩ := hrel
    cases q with
    | zero => simp [Wd.word_flip.l0] at hl
    | succ q =>
      unfold Wd.word_flip.l0 at hl
      by_cases c : j < 64
      · have w1 : wrap64 (j + 1) = j + 1 := by unfold wrap64; omega
        have w2 : wrap64 (63 - j) = 63 - j := by unfold wrap64; omega
        rw [if_pos c, if_pos hj0, w1, w2, if_pos (by omega)] at hl
        have d : decide (j < 64) = true := by simpa using c
        have s1 := fun x yk => shr_w (k := .u64) (x := x) (yk := yk) hj0
        have s2 := fun x yk => shl_w (k := .u64) (x := x) (yk := yk) (show (0 : Int) ≤ 63 - j by omega)
        obtain ⟨j, rfl⟩ : ∃ k : Nat, j = k := ⟨j.toNat, by omega⟩
        have e1 : ∀ x, Wd.shr .u64 x (j : Int) = x / 2 ^ j := fun x => by unfold Wd.shr; rw [Int.toNat_natCast, show min j IntKind.u64.bits = j from Nat.min_eq_left (by simp [IntKind.bits]; omega)]
        have e2 : ∀ x, Wd.shl .u64 x (63 - (j : Int)) = IntKind.u64.wrap (x * 2 ^ (63 - j)) := fun x => by unfold Wd.shl; rw [show (63 - (j : Int)).toNat = 63 - j by omega, show min (63 - j) IntKind.u64.bits = 63 - j from Nat.min_eq_left (by simp [IntKind.bits]; omega)]
        rw [e1, e2] at hl
        clear w1 w2
        go_wp2
        go_roundw
        case rel => exact ⟨q, _, (j : Int) + 1, rfl, by first | rfl | go_num, by omega, by omega, by first | exact hl | (simp only [e1, e2]; exact hl), trivial⟩
        case measure => simp [intOf]; omega
      · rw [if_neg c] at hl
        obtain rfl := Option.some.inj hl
        have d : decide (j < 64) = false := by simpa using c
        clear c hl
        go_wp2
        refine bodyPost_ret (results_tmp rfl _ _ _) rfl ?_
        exact ⟨rfl, rfl⟩
set_option maxHeartbeats 4000000 in
set_option maxRecDepth 100000 in
theorem swide_walk {a b : Int} {r : Int × Int} (h : Wd.word_Wide.f a b = some r) (W : World) : Calls Tryd.prog 110 #[.int .i64 a, .int .i64 b] W fun e w' => e = .returned (.tuple #[.int .i64 r.1, .int .u64 r.2]) ∧ w' = W := by
  have ha := u6_wrap a; have hb := u6_wrap b
  unfold U6 at ha hb
  have ea : ((IntKind.u64.wrap a).toNat : Int) = IntKind.u64.wrap a := by omega
  have eb : ((IntKind.u64.wrap b).toNat : Int) = IntKind.u64.wrap b := by omega
  have cM := Tryd.bits_Mul64 (IntKind.u64.wrap a).toNat (IntKind.u64.wrap b).toNat (by omega) (by omega) W
  have t1 : (((IntKind.u64.wrap a).toNat * (IntKind.u64.wrap b).toNat / 18446744073709551616 : Nat) : Int) = IntKind.u64.wrap a * IntKind.u64.wrap b / 18446744073709551616 := by rw [Int.natCast_ediv, Int.natCast_mul, ea, eb]; rfl
  have t2 : (((IntKind.u64.wrap a).toNat * (IntKind.u64.wrap b).toNat % 18446744073709551616 : Nat) : Int) = IntKind.u64.wrap a * IntKind.u64.wrap b % 18446744073709551616 := by rw [Int.natCast_emod, Int.natCast_mul, ea, eb]; rfl
  rw [t1, t2, ea, eb] at cM
  clear t1 t2
  unfold Wd.word_Wide.f at h
  rw [Wide.mul64 _ _ (by omega) (by omega)] at h
  simp only [Option.bind_some] at h
  generalize IntKind.u64.wrap a * IntKind.u64.wrap b / 18446744073709551616 = hi at *
  generalize IntKind.u64.wrap a * IntKind.u64.wrap b % 18446744073709551616 = lo at *
  replace cM := Lib.hid cM
  clear ha hb ea eb
  by_cases c1 : a < 0 <;> by_cases c2 : b < 0 <;> simp only [c1, c2, if_true, if_false] at h
  all_goals
    obtain rfl := Option.some.inj h
    clear h
    go_enter Tryd.func110, Tryd.ntmps110
    go_wp2_with (first | (go_at_call 111; ((with_reducible refine (cM.out).mono ?_); rintro e w' ⟨rfl, rfl⟩)))
    refine bodyPost_ret (results_tmp2 rfl _ _ _) rfl ?_
    exact ⟨rfl, rfl⟩
theorem i6_flip {a r : Int} {m : Nat} (h : Wd.word_flip.f m a = some r) : I6 r := by
  unfold Wd.word_flip.f at h
  have : ∀ (q : Nat) (u j : Int), Wd.word_flip.l0 q a u j = some r → I6 r := by
    intro q
    induction q with
    | zero => intro u j h; simp [Wd.word_flip.l0] at h
    | succ q ih =>
      intro u j h
      unfold Wd.word_flip.l0 at h
      split at h
      · split at h
        · split at h
          · exact ih _ _ h
          · cases h
        · cases h
      · obtain rfl := Option.some.inj h; exact i6_wrap _
  exact this _ _ _ h
theorem i6_wide {a b : Int} {r : Int × Int} (h : Wd.word_Wide.f a b = some r) : I6 r.1 := by
  unfold Wd.word_Wide.f at h
  obtain ⟨t, _, h⟩ := Option.bind_eq_some_iff.1 h
  split at h <;> split at h <;> (obtain rfl := Option.some.inj h; exact i6_wrap _)
end Go.Proofs.YtbcdeanmjhcgeaaDoor.Alu
