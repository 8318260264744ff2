-- This session's own text, made by its own run of the tools (wip/tools/pr.sh).
import Derived.Test.YtckfnbjjghdaoaaDoorT0
namespace Go.Proofs.YtckfnbjjghdaoaaDoor.T
open Go.RowKit Go.Proofs.YtckfnbjjghdaoaaDoorW.PrintWords Go.Proofs.YtckfnbjjghdaoaaDoorW.PrintLast Go.Proofs.YtckfnbjjghdaoaaDoorW.PrintMore
attribute [local go_sem] max2_int min2_int max_two min_two max_three min_three max_four min_four   -- for this text's walks alone
set_option linter.unusedVariables false
set_option linter.unusedSimpArgs false

/-! ### word_Arity: function 28 -/
def word_Arity.j0 : Nat → Int → Bool → Option (Int)
  | 0, _, _ => none
  | k + 1, x0, x3 => if x3 = true then (some 1) else (if x0 > 15 then (if x0 ≤ 36 then (some 2) else (some 0)) else (some 0))
def word_Arity.f (k : Nat) (a0 : Int) : Option (Int) := if a0 ≥ 1 then (word_Arity.j0 k a0 (decide (a0 ≤ 15))) else (word_Arity.j0 k a0 false)
theorem word_Arity.mono_l : ∀ k, (∀ y0 y1, LeO (word_Arity.j0 k y0 y1) (word_Arity.j0 (k + 1) y0 y1))
  | 0 => fun _ _ r h => by simp [word_Arity.j0] at h
  | k + 1 => by
    have ih0 := word_Arity.mono_l k
    · intro y0 y1
      unfold word_Arity.j0
      repeat' first
      | (with_reducible exact ih0 _ _)
      | (with_reducible exact LeO.refl _)
      | (with_reducible exact LeO.none _)
      | (with_reducible refine LeO.ite ?_ ?_)
      | (with_reducible refine LeO.bind ?_ (fun _ => ?_))
      | exact ih0 _ _
      | exact LeO.none _
      | refine LeO.ite ?_ ?_
      | refine LeO.bind ?_ (fun _ => ?_)
theorem word_Arity.mono : ∀ a0 k, LeO (word_Arity.f k a0) (word_Arity.f (k + 1) a0) := by
  intro a0 k
  have ih0 := word_Arity.mono_l k
  unfold word_Arity.f
  repeat' first
      | (with_reducible exact ih0 _ _)
      | (with_reducible exact LeO.refl _)
      | (with_reducible exact LeO.none _)
      | (with_reducible refine LeO.ite ?_ ?_)
      | (with_reducible refine LeO.bind ?_ (fun _ => ?_))
      | exact ih0 _ _
      | exact LeO.none _
      | refine LeO.ite ?_ ?_
      | refine LeO.bind ?_ (fun _ => ?_)
set_option maxHeartbeats 8000000 in
set_option maxRecDepth 100000 in
theorem word_Arity.calls (k : Nat) (a0 : Int) (r : Int) (w : World) (h : word_Arity.f k a0 = some r) :
    Calls Tryd.prog 28 #[.int .i64 a0] w fun e w' => e = .returned (.int .i64 r) ∧ Drawn0 w w' := by
  have H : (if a0 ≥ 1 then (word_Arity.j0 k a0 (decide (a0 ≤ 15))) else (word_Arity.j0 k a0 false)) = some r := h
  clear h
  have HC2 := Aside0.mk H
  clear H
  go_enter Tryd.func28, Tryd.ntmps28
  go_upto_region 1 with (fail)
  go_cut [3] (fun v3 wc => ∃ (kq : Nat) (x3_1 : Bool), v3 = .bool x3_1 ∧ Aside0 (word_Arity.j0 kq a0 x3_1 = some r) ∧ Aside0 (kq ≤ k) ∧ Drawn0 w wc)
  case first =>
    have H := HC2.out
    clear HC2
    by_cases c3 : a0 ≥ 1
    · rw [if_pos c3] at H
      have c3b0 : decide (1 ≤ a0) = true := decide_eq_true c3
      clear c3
      (first | rw [c3b0] | (simp only [i64_w, i32_w]; rw [c3b0]) | skip)
      have H' := Aside0.mk H
      clear H
      go_wp2
      go_meet
      case rel => exact ⟨_, (decide (a0 ≤ 15)), (by first | rfl | (simp; done) | (simp [*]; done)), H', ⟨by first | omega | exact Nat.le_refl _⟩, by repeat (first | exact Drawn0.refl _ | apply Drawn0.step)⟩
    · rw [if_neg c3] at H
      have c3b0 : decide (1 ≤ a0) = false := decide_eq_false c3
      clear c3
      (first | rw [c3b0] | (simp only [i64_w, i32_w]; rw [c3b0]) | skip)
      have H' := Aside0.mk H
      clear H
      go_wp2
      go_meet
      case rel => exact ⟨_, (false), (by first | rfl | (simp; done) | (simp [*]; done)), H', ⟨by first | omega | exact Nat.le_refl _⟩, by repeat (first | exact Drawn0.refl _ | apply Drawn0.step)⟩
  case rest =>
    clear HC2
    try clear c2
    try clear p2
    try clear c3
    try clear c3b0
    obtain ⟨kq, x3_1, rfl, HA, HJ1, ⟨mc1, rfl⟩⟩ := hcut
    cases kq with
    | zero => exact absurd HA.out (by simp [word_Arity.j0])
    | succ kj1 =>
      have H := HA.out
      clear HA
      simp only [word_Arity.j0] at H
      by_cases c4 : x3_1 = true
      · subst c4
        have H1 : (some 1) = some r := by rw [if_pos rfl] at H; exact H
        clear H
        have H := H1
        clear H1
        obtain rfl := Option.some.inj H
        go_wp2
        go_ret
        exact ⟨by first | rfl | (simp; done) | (simp [*]; done), by repeat (first | exact Drawn0.refl _ | apply Drawn0.step)⟩
      · replace c4 := Bool.eq_false_iff.mpr c4
        subst c4
        have H1 : (if a0 > 15 then (if a0 ≤ 36 then (some 2) else (some 0)) else (some 0)) = some r := by rw [if_neg (show ¬ (false = true) by decide)] at H; exact H
        clear H
        have H := H1
        clear H1
        by_cases c5 : a0 > 15
        · rw [if_pos c5] at H
          have c5b0 : decide (15 < a0) = true := decide_eq_true c5
          clear c5
          by_cases c6 : a0 ≤ 36
          · rw [if_pos c6] at H
            have c6b0 : decide (a0 ≤ 36) = true := decide_eq_true c6
            clear c6
            obtain rfl := Option.some.inj H
            go_wp2
            go_ret
            exact ⟨by first | rfl | (simp; done) | (simp [*]; done), by repeat (first | exact Drawn0.refl _ | apply Drawn0.step)⟩
          · rw [if_neg c6] at H
            have c6b0 : decide (a0 ≤ 36) = false := decide_eq_false c6
            clear c6
            obtain rfl := Option.some.inj H
            go_wp2
            go_ret
            exact ⟨by first | rfl | (simp; done) | (simp [*]; done), by repeat (first | exact Drawn0.refl _ | apply Drawn0.step)⟩
        · rw [if_neg c5] at H
          have c5b0 : decide (15 < a0) = false := decide_eq_false c5
          clear c5
          obtain rfl := Option.some.inj H
          go_wp2
          go_ret
          exact ⟨by first | rfl | (simp; done) | (simp [*]; done), by repeat (first | exact Drawn0.refl _ | apply Drawn0.step)⟩

/-! ### bits_OnesCount64: function 57 -/
def bits_OnesCount64.f (a0 : Int) : Option (Int) := some (Go.bits .and .i64 (wrap64 (IntKind.u64.wrap ((IntKind.u64.wrap ((IntKind.u64.wrap ((Go.bits .and .u64 (IntKind.u64.wrap (((IntKind.u64.wrap ((Go.bits .and .u64 ((IntKind.u64.wrap ((Go.bits .and .u64 (a0 / 2) 6148914691236517205) + (Go.bits .and .u64 a0 6148914691236517205))) / 4) 3689348814741910323) + (Go.bits .and .u64 (IntKind.u64.wrap ((Go.bits .and .u64 (a0 / 2) 6148914691236517205) + (Go.bits .and .u64 a0 6148914691236517205))) 3689348814741910323))) / 16) + (IntKind.u64.wrap ((Go.bits .and .u64 ((IntKind.u64.wrap ((Go.bits .and .u64 (a0 / 2) 6148914691236517205) + (Go.bits .and .u64 a0 6148914691236517205))) / 4) 3689348814741910323) + (Go.bits .and .u64 (IntKind.u64.wrap ((Go.bits .and .u64 (a0 / 2) 6148914691236517205) + (Go.bits .and .u64 a0 6148914691236517205))) 3689348814741910323))))) 1085102592571150095) + ((Go.bits .and .u64 (IntKind.u64.wrap (((IntKind.u64.wrap ((Go.bits .and .u64 ((IntKind.u64.wrap ((Go.bits .and .u64 (a0 / 2) 6148914691236517205) + (Go.bits .and .u64 a0 6148914691236517205))) / 4) 3689348814741910323) + (Go.bits .and .u64 (IntKind.u64.wrap ((Go.bits .and .u64 (a0 / 2) 6148914691236517205) + (Go.bits .and .u64 a0 6148914691236517205))) 3689348814741910323))) / 16) + (IntKind.u64.wrap ((Go.bits .and .u64 ((IntKind.u64.wrap ((Go.bits .and .u64 (a0 / 2) 6148914691236517205) + (Go.bits .and .u64 a0 6148914691236517205))) / 4) 3689348814741910323) + (Go.bits .and .u64 (IntKind.u64.wrap ((Go.bits .and .u64 (a0 / 2) 6148914691236517205) + (Go.bits .and .u64 a0 6148914691236517205))) 3689348814741910323))))) 1085102592571150095) / 256))) + ((IntKind.u64.wrap ((Go.bits .and .u64 (IntKind.u64.wrap (((IntKind.u64.wrap ((Go.bits .and .u64 ((IntKind.u64.wrap ((Go.bits .and .u64 (a0 / 2) 6148914691236517205) + (Go.bits .and .u64 a0 6148914691236517205))) / 4) 3689348814741910323) + (Go.bits .and .u64 (IntKind.u64.wrap ((Go.bits .and .u64 (a0 / 2) 6148914691236517205) + (Go.bits .and .u64 a0 6148914691236517205))) 3689348814741910323))) / 16) + (IntKind.u64.wrap ((Go.bits .and .u64 ((IntKind.u64.wrap ((Go.bits .and .u64 (a0 / 2) 6148914691236517205) + (Go.bits .and .u64 a0 6148914691236517205))) / 4) 3689348814741910323) + (Go.bits .and .u64 (IntKind.u64.wrap ((Go.bits .and .u64 (a0 / 2) 6148914691236517205) + (Go.bits .and .u64 a0 6148914691236517205))) 3689348814741910323))))) 1085102592571150095) + ((Go.bits .and .u64 (IntKind.u64.wrap (((IntKind.u64.wrap ((Go.bits .and .u64 ((IntKind.u64.wrap ((Go.bits .and .u64 (a0 / 2) 6148914691236517205) + (Go.bits .and .u64 a0 6148914691236517205))) / 4) 3689348814741910323) + (Go.bits .and .u64 (IntKind.u64.wrap ((Go.bits .and .u64 (a0 / 2) 6148914691236517205) + (Go.bits .and .u64 a0 6148914691236517205))) 3689348814741910323))) / 16) + (IntKind.u64.wrap ((Go.bits .and .u64 ((IntKind.u64.wrap ((Go.bits .and .u64 (a0 / 2) 6148914691236517205) + (Go.bits .and .u64 a0 6148914691236517205))) / 4) 3689348814741910323) + (Go.bits .and .u64 (IntKind.u64.wrap ((Go.bits .and .u64 (a0 / 2) 6148914691236517205) + (Go.bits .and .u64 a0 6148914691236517205))) 3689348814741910323))))) 1085102592571150095) / 256))) / 65536))) + ((IntKind.u64.wrap ((IntKind.u64.wrap ((Go.bits .and .u64 (IntKind.u64.wrap (((IntKind.u64.wrap ((Go.bits .and .u64 ((IntKind.u64.wrap ((Go.bits .and .u64 (a0 / 2) 6148914691236517205) + (Go.bits .and .u64 a0 6148914691236517205))) / 4) 3689348814741910323) + (Go.bits .and .u64 (IntKind.u64.wrap ((Go.bits .and .u64 (a0 / 2) 6148914691236517205) + (Go.bits .and .u64 a0 6148914691236517205))) 3689348814741910323))) / 16) + (IntKind.u64.wrap ((Go.bits .and .u64 ((IntKind.u64.wrap ((Go.bits .and .u64 (a0 / 2) 6148914691236517205) + (Go.bits .and .u64 a0 6148914691236517205))) / 4) 3689348814741910323) + (Go.bits .and .u64 (IntKind.u64.wrap ((Go.bits .and .u64 (a0 / 2) 6148914691236517205) + (Go.bits .and .u64 a0 6148914691236517205))) 3689348814741910323))))) 1085102592571150095) + ((Go.bits .and .u64 (IntKind.u64.wrap (((IntKind.u64.wrap ((Go.bits .and .u64 ((IntKind.u64.wrap ((Go.bits .and .u64 (a0 / 2) 6148914691236517205) + (Go.bits .and .u64 a0 6148914691236517205))) / 4) 3689348814741910323) + (Go.bits .and .u64 (IntKind.u64.wrap ((Go.bits .and .u64 (a0 / 2) 6148914691236517205) + (Go.bits .and .u64 a0 6148914691236517205))) 3689348814741910323))) / 16) + (IntKind.u64.wrap ((Go.bits .and .u64 ((IntKind.u64.wrap ((Go.bits .and .u64 (a0 / 2) 6148914691236517205) + (Go.bits .and .u64 a0 6148914691236517205))) / 4) 3689348814741910323) + (Go.bits .and .u64 (IntKind.u64.wrap ((Go.bits .and .u64 (a0 / 2) 6148914691236517205) + (Go.bits .and .u64 a0 6148914691236517205))) 3689348814741910323))))) 1085102592571150095) / 256))) + ((IntKind.u64.wrap ((Go.bits .and .u64 (IntKind.u64.wrap (((IntKind.u64.wrap ((Go.bits .and .u64 ((IntKind.u64.wrap ((Go.bits .and .u64 (a0 / 2) 6148914691236517205) + (Go.bits .and .u64 a0 6148914691236517205))) / 4) 3689348814741910323) + (Go.bits .and .u64 (IntKind.u64.wrap ((Go.bits .and .u64 (a0 / 2) 6148914691236517205) + (Go.bits .and .u64 a0 6148914691236517205))) 3689348814741910323))) / 16) + (IntKind.u64.wrap ((Go.bits .and .u64 ((IntKind.u64.wrap ((Go.bits .and .u64 (a0 / 2) 6148914691236517205) + (Go.bits .and .u64 a0 6148914691236517205))) / 4) 3689348814741910323) + (Go.bits .and .u64 (IntKind.u64.wrap ((Go.bits .and .u64 (a0 / 2) 6148914691236517205) + (Go.bits .and .u64 a0 6148914691236517205))) 3689348814741910323))))) 1085102592571150095) + ((Go.bits .and .u64 (IntKind.u64.wrap (((IntKind.u64.wrap ((Go.bits .and .u64 ((IntKind.u64.wrap ((Go.bits .and .u64 (a0 / 2) 6148914691236517205) + (Go.bits .and .u64 a0 6148914691236517205))) / 4) 3689348814741910323) + (Go.bits .and .u64 (IntKind.u64.wrap ((Go.bits .and .u64 (a0 / 2) 6148914691236517205) + (Go.bits .and .u64 a0 6148914691236517205))) 3689348814741910323))) / 16) + (IntKind.u64.wrap ((Go.bits .and .u64 ((IntKind.u64.wrap ((Go.bits .and .u64 (a0 / 2) 6148914691236517205) + (Go.bits .and .u64 a0 6148914691236517205))) / 4) 3689348814741910323) + (Go.bits .and .u64 (IntKind.u64.wrap ((Go.bits .and .u64 (a0 / 2) 6148914691236517205) + (Go.bits .and .u64 a0 6148914691236517205))) 3689348814741910323))))) 1085102592571150095) / 256))) / 65536))) / 4294967296)))) 127)
set_option maxHeartbeats 8000000 in
set_option maxRecDepth 100000 in
theorem bits_OnesCount64.calls (a0 : Int) (r : Int) (w : World) (h : bits_OnesCount64.f a0 = some r) :
    Calls Tryd.prog 57 #[.int .u64 a0] w fun e w' => e = .returned (.int .i64 r) ∧ Drawn0 w w' := by
  have H : (some (Go.bits .and .i64 (wrap64 (IntKind.u64.wrap ((IntKind.u64.wrap ((IntKind.u64.wrap ((Go.bits .and .u64 (IntKind.u64.wrap (((IntKind.u64.wrap ((Go.bits .and .u64 ((IntKind.u64.wrap ((Go.bits .and .u64 (a0 / 2) 6148914691236517205) + (Go.bits .and .u64 a0 6148914691236517205))) / 4) 3689348814741910323) + (Go.bits .and .u64 (IntKind.u64.wrap ((Go.bits .and .u64 (a0 / 2) 6148914691236517205) + (Go.bits .and .u64 a0 6148914691236517205))) 3689348814741910323))) / 16) + (IntKind.u64.wrap ((Go.bits .and .u64 ((IntKind.u64.wrap ((Go.bits .and .u64 (a0 / 2) 6148914691236517205) + (Go.bits .and .u64 a0 6148914691236517205))) / 4) 3689348814741910323) + (Go.bits .and .u64 (IntKind.u64.wrap ((Go.bits .and .u64 (a0 / 2) 6148914691236517205) + (Go.bits .and .u64 a0 6148914691236517205))) 3689348814741910323))))) 1085102592571150095) + ((Go.bits .and .u64 (IntKind.u64.wrap (((IntKind.u64.wrap ((Go.bits .and .u64 ((IntKind.u64.wrap ((Go.bits .and .u64 (a0 / 2) 6148914691236517205) + (Go.bits .and .u64 a0 6148914691236517205))) / 4) 3689348814741910323) + (Go.bits .and .u64 (IntKind.u64.wrap ((Go.bits .and .u64 (a0 / 2) 6148914691236517205) + (Go.bits .and .u64 a0 6148914691236517205))) 3689348814741910323))) / 16) + (IntKind.u64.wrap ((Go.bits .and .u64 ((IntKind.u64.wrap ((Go.bits .and .u64 (a0 / 2) 6148914691236517205) + (Go.bits .and .u64 a0 6148914691236517205))) / 4) 3689348814741910323) + (Go.bits .and .u64 (IntKind.u64.wrap ((Go.bits .and .u64 (a0 / 2) 6148914691236517205) + (Go.bits .and .u64 a0 6148914691236517205))) 3689348814741910323))))) 1085102592571150095) / 256))) + ((IntKind.u64.wrap ((Go.bits .and .u64 (IntKind.u64.wrap (((IntKind.u64.wrap ((Go.bits .and .u64 ((IntKind.u64.wrap ((Go.bits .and .u64 (a0 / 2) 6148914691236517205) + (Go.bits .and .u64 a0 6148914691236517205))) / 4) 3689348814741910323) + (Go.bits .and .u64 (IntKind.u64.wrap ((Go.bits .and .u64 (a0 / 2) 6148914691236517205) + (Go.bits .and .u64 a0 6148914691236517205))) 3689348814741910323))) / 16) + (IntKind.u64.wrap ((Go.bits .and .u64 ((IntKind.u64.wrap ((Go.bits .and .u64 (a0 / 2) 6148914691236517205) + (Go.bits .and .u64 a0 6148914691236517205))) / 4) 3689348814741910323) + (Go.bits .and .u64 (IntKind.u64.wrap ((Go.bits .and .u64 (a0 / 2) 6148914691236517205) + (Go.bits .and .u64 a0 6148914691236517205))) 3689348814741910323))))) 1085102592571150095) + ((Go.bits .and .u64 (IntKind.u64.wrap (((IntKind.u64.wrap ((Go.bits .and .u64 ((IntKind.u64.wrap ((Go.bits .and .u64 (a0 / 2) 6148914691236517205) + (Go.bits .and .u64 a0 6148914691236517205))) / 4) 3689348814741910323) + (Go.bits .and .u64 (IntKind.u64.wrap ((Go.bits .and .u64 (a0 / 2) 6148914691236517205) + (Go.bits .and .u64 a0 6148914691236517205))) 3689348814741910323))) / 16) + (IntKind.u64.wrap ((Go.bits .and .u64 ((IntKind.u64.wrap ((Go.bits .and .u64 (a0 / 2) 6148914691236517205) + (Go.bits .and .u64 a0 6148914691236517205))) / 4) 3689348814741910323) + (Go.bits .and .u64 (IntKind.u64.wrap ((Go.bits .and .u64 (a0 / 2) 6148914691236517205) + (Go.bits .and .u64 a0 6148914691236517205))) 3689348814741910323))))) 1085102592571150095) / 256))) / 65536))) + ((IntKind.u64.wrap ((IntKind.u64.wrap ((Go.bits .and .u64 (IntKind.u64.wrap (((IntKind.u64.wrap ((Go.bits .and .u64 ((IntKind.u64.wrap ((Go.bits .and .u64 (a0 / 2) 6148914691236517205) + (Go.bits .and .u64 a0 6148914691236517205))) / 4) 3689348814741910323) + (Go.bits .and .u64 (IntKind.u64.wrap ((Go.bits .and .u64 (a0 / 2) 6148914691236517205) + (Go.bits .and .u64 a0 6148914691236517205))) 3689348814741910323))) / 16) + (IntKind.u64.wrap ((Go.bits .and .u64 ((IntKind.u64.wrap ((Go.bits .and .u64 (a0 / 2) 6148914691236517205) + (Go.bits .and .u64 a0 6148914691236517205))) / 4) 3689348814741910323) + (Go.bits .and .u64 (IntKind.u64.wrap ((Go.bits .and .u64 (a0 / 2) 6148914691236517205) + (Go.bits .and .u64 a0 6148914691236517205))) 3689348814741910323))))) 1085102592571150095) + ((Go.bits .and .u64 (IntKind.u64.wrap (((IntKind.u64.wrap ((Go.bits .and .u64 ((IntKind.u64.wrap ((Go.bits .and .u64 (a0 / 2) 6148914691236517205) + (Go.bits .and .u64 a0 6148914691236517205))) / 4) 3689348814741910323) + (Go.bits .and .u64 (IntKind.u64.wrap ((Go.bits .and .u64 (a0 / 2) 6148914691236517205) + (Go.bits .and .u64 a0 6148914691236517205))) 3689348814741910323))) / 16) + (IntKind.u64.wrap ((Go.bits .and .u64 ((IntKind.u64.wrap ((Go.bits .and .u64 (a0 / 2) 6148914691236517205) + (Go.bits .and .u64 a0 6148914691236517205))) / 4) 3689348814741910323) + (Go.bits .and .u64 (IntKind.u64.wrap ((Go.bits .and .u64 (a0 / 2) 6148914691236517205) + (Go.bits .and .u64 a0 6148914691236517205))) 3689348814741910323))))) 1085102592571150095) / 256))) + ((IntKind.u64.wrap ((Go.bits .and .u64 (IntKind.u64.wrap (((IntKind.u64.wrap ((Go.bits .and .u64 ((IntKind.u64.wrap ((Go.bits .and .u64 (a0 / 2) 6148914691236517205) + (Go.bits .and .u64 a0 6148914691236517205))) / 4) 3689348814741910323) + (Go.bits .and .u64 (IntKind.u64.wrap ((Go.bits .and .u64 (a0 / 2) 6148914691236517205) + (Go.bits .and .u64 a0 6148914691236517205))) 3689348814741910323))) / 16) + (IntKind.u64.wrap ((Go.bits .and .u64 ((IntKind.u64.wrap ((Go.bits .and .u64 (a0 / 2) 6148914691236517205) + (Go.bits .and .u64 a0 6148914691236517205))) / 4) 3689348814741910323) + (Go.bits .and .u64 (IntKind.u64.wrap ((Go.bits .and .u64 (a0 / 2) 6148914691236517205) + (Go.bits .and .u64 a0 6148914691236517205))) 3689348814741910323))))) 1085102592571150095) + ((Go.bits .and .u64 (IntKind.u64.wrap (((IntKind.u64.wrap ((Go.bits .and .u64 ((IntKind.u64.wrap ((Go.bits .and .u64 (a0 / 2) 6148914691236517205) + (Go.bits .and .u64 a0 6148914691236517205))) / 4) 3689348814741910323) + (Go.bits .and .u64 (IntKind.u64.wrap ((Go.bits .and .u64 (a0 / 2) 6148914691236517205) + (Go.bits .and .u64 a0 6148914691236517205))) 3689348814741910323))) / 16) + (IntKind.u64.wrap ((Go.bits .and .u64 ((IntKind.u64.wrap ((Go.bits .and .u64 (a0 / 2) 6148914691236517205) + (Go.bits .and .u64 a0 6148914691236517205))) / 4) 3689348814741910323) + (Go.bits .and .u64 (IntKind.u64.wrap ((Go.bits .and .u64 (a0 / 2) 6148914691236517205) + (Go.bits .and .u64 a0 6148914691236517205))) 3689348814741910323))))) 1085102592571150095) / 256))) / 65536))) / 4294967296)))) 127)) = some r := h
  clear h
  obtain rfl := Option.some.inj H
  go_enter Tryd.func57, Tryd.ntmps57
  go_wp2
  go_ret
  exact ⟨by first | rfl | (simp; done) | (simp [*]; done), by repeat (first | exact Drawn0.refl _ | apply Drawn0.step)⟩

/-! ### bits_Len64: function 71 -/
def bits_Len64.j0 : Nat → Int → Int → Option (Int)
  | 0, _, _ => none
  | k + 1, x0, x2 => if x0 ≥ 65536 then (if (x0 / 65536) ≥ 256 then (if 0 ≤ (((x0 / 65536) / 256) % 256) then (if (((x0 / 65536) / 256) % 256) < 256 then (some (wrap64 ((wrap64 ((wrap64 (x2 + 16)) + 8)) + (wrap64 (bt (⟨#[0, 1, 2, 2, 3, 3, 3, 3, 4, 4, 4, 4, 4, 4, 4, 4, 5, 5, 5, 5, 5, 5, 5, 5, 5, 5, 5, 5, 5, 5, 5, 5, 6, 6, 6, 6, 6, 6, 6, 6, 6, 6, 6, 6, 6, 6, 6, 6, 6, 6, 6, 6, 6, 6, 6, 6, 6, 6, 6, 6, 6, 6, 6, 6, 7, 7, 7, 7, 7, 7, 7, 7, 7, 7, 7, 7, 7, 7, 7, 7, 7, 7, 7, 7, 7, 7, 7, 7, 7, 7, 7, 7, 7, 7, 7, 7, 7, 7, 7, 7, 7, 7, 7, 7, 7, 7, 7, 7, 7, 7, 7, 7, 7, 7, 7, 7, 7, 7, 7, 7, 7, 7, 7, 7, 7, 7, 7, 7, 8, 8, 8, 8, 8, 8, 8, 8, 8, 8, 8, 8, 8, 8, 8, 8, 8, 8, 8, 8, 8, 8, 8, 8, 8, 8, 8, 8, 8, 8, 8, 8, 8, 8, 8, 8, 8, 8, 8, 8, 8, 8, 8, 8, 8, 8, 8, 8, 8, 8, 8, 8, 8, 8, 8, 8, 8, 8, 8, 8, 8, 8, 8, 8, 8, 8, 8, 8, 8, 8, 8, 8, 8, 8, 8, 8, 8, 8, 8, 8, 8, 8, 8, 8, 8, 8, 8, 8, 8, 8, 8, 8, 8, 8, 8, 8, 8, 8, 8, 8, 8, 8, 8, 8, 8, 8, 8, 8, 8, 8, 8, 8, 8, 8, 8, 8, 8, 8, 8, 8, 8, 8, 8, 8, 8, 8, 8, 8]⟩ : ByteArray) (((x0 / 65536) / 256) % 256)))))) else (none)) else (none)) else (if 0 ≤ ((x0 / 65536) % 256) then (if ((x0 / 65536) % 256) < 256 then (some (wrap64 ((wrap64 (x2 + 16)) + (wrap64 (bt (⟨#[0, 1, 2, 2, 3, 3, 3, 3, 4, 4, 4, 4, 4, 4, 4, 4, 5, 5, 5, 5, 5, 5, 5, 5, 5, 5, 5, 5, 5, 5, 5, 5, 6, 6, 6, 6, 6, 6, 6, 6, 6, 6, 6, 6, 6, 6, 6, 6, 6, 6, 6, 6, 6, 6, 6, 6, 6, 6, 6, 6, 6, 6, 6, 6, 7, 7, 7, 7, 7, 7, 7, 7, 7, 7, 7, 7, 7, 7, 7, 7, 7, 7, 7, 7, 7, 7, 7, 7, 7, 7, 7, 7, 7, 7, 7, 7, 7, 7, 7, 7, 7, 7, 7, 7, 7, 7, 7, 7, 7, 7, 7, 7, 7, 7, 7, 7, 7, 7, 7, 7, 7, 7, 7, 7, 7, 7, 7, 7, 8, 8, 8, 8, 8, 8, 8, 8, 8, 8, 8, 8, 8, 8, 8, 8, 8, 8, 8, 8, 8, 8, 8, 8, 8, 8, 8, 8, 8, 8, 8, 8, 8, 8, 8, 8, 8, 8, 8, 8, 8, 8, 8, 8, 8, 8, 8, 8, 8, 8, 8, 8, 8, 8, 8, 8, 8, 8, 8, 8, 8, 8, 8, 8, 8, 8, 8, 8, 8, 8, 8, 8, 8, 8, 8, 8, 8, 8, 8, 8, 8, 8, 8, 8, 8, 8, 8, 8, 8, 8, 8, 8, 8, 8, 8, 8, 8, 8, 8, 8, 8, 8, 8, 8, 8, 8, 8, 8, 8, 8, 8, 8, 8, 8, 8, 8, 8, 8, 8, 8, 8, 8, 8, 8, 8, 8, 8, 8]⟩ : ByteArray) ((x0 / 65536) % 256)))))) else (none)) else (none))) else (if x0 ≥ 256 then (if 0 ≤ ((x0 / 256) % 256) then (if ((x0 / 256) % 256) < 256 then (some (wrap64 ((wrap64 (x2 + 8)) + (wrap64 (bt (⟨#[0, 1, 2, 2, 3, 3, 3, 3, 4, 4, 4, 4, 4, 4, 4, 4, 5, 5, 5, 5, 5, 5, 5, 5, 5, 5, 5, 5, 5, 5, 5, 5, 6, 6, 6, 6, 6, 6, 6, 6, 6, 6, 6, 6, 6, 6, 6, 6, 6, 6, 6, 6, 6, 6, 6, 6, 6, 6, 6, 6, 6, 6, 6, 6, 7, 7, 7, 7, 7, 7, 7, 7, 7, 7, 7, 7, 7, 7, 7, 7, 7, 7, 7, 7, 7, 7, 7, 7, 7, 7, 7, 7, 7, 7, 7, 7, 7, 7, 7, 7, 7, 7, 7, 7, 7, 7, 7, 7, 7, 7, 7, 7, 7, 7, 7, 7, 7, 7, 7, 7, 7, 7, 7, 7, 7, 7, 7, 7, 8, 8, 8, 8, 8, 8, 8, 8, 8, 8, 8, 8, 8, 8, 8, 8, 8, 8, 8, 8, 8, 8, 8, 8, 8, 8, 8, 8, 8, 8, 8, 8, 8, 8, 8, 8, 8, 8, 8, 8, 8, 8, 8, 8, 8, 8, 8, 8, 8, 8, 8, 8, 8, 8, 8, 8, 8, 8, 8, 8, 8, 8, 8, 8, 8, 8, 8, 8, 8, 8, 8, 8, 8, 8, 8, 8, 8, 8, 8, 8, 8, 8, 8, 8, 8, 8, 8, 8, 8, 8, 8, 8, 8, 8, 8, 8, 8, 8, 8, 8, 8, 8, 8, 8, 8, 8, 8, 8, 8, 8, 8, 8, 8, 8, 8, 8, 8, 8, 8, 8, 8, 8, 8, 8, 8, 8, 8, 8]⟩ : ByteArray) ((x0 / 256) % 256)))))) else (none)) else (none)) else (if 0 ≤ ((x0) % 256) then (if ((x0) % 256) < 256 then (some (wrap64 (x2 + (wrap64 (bt (⟨#[0, 1, 2, 2, 3, 3, 3, 3, 4, 4, 4, 4, 4, 4, 4, 4, 5, 5, 5, 5, 5, 5, 5, 5, 5, 5, 5, 5, 5, 5, 5, 5, 6, 6, 6, 6, 6, 6, 6, 6, 6, 6, 6, 6, 6, 6, 6, 6, 6, 6, 6, 6, 6, 6, 6, 6, 6, 6, 6, 6, 6, 6, 6, 6, 7, 7, 7, 7, 7, 7, 7, 7, 7, 7, 7, 7, 7, 7, 7, 7, 7, 7, 7, 7, 7, 7, 7, 7, 7, 7, 7, 7, 7, 7, 7, 7, 7, 7, 7, 7, 7, 7, 7, 7, 7, 7, 7, 7, 7, 7, 7, 7, 7, 7, 7, 7, 7, 7, 7, 7, 7, 7, 7, 7, 7, 7, 7, 7, 8, 8, 8, 8, 8, 8, 8, 8, 8, 8, 8, 8, 8, 8, 8, 8, 8, 8, 8, 8, 8, 8, 8, 8, 8, 8, 8, 8, 8, 8, 8, 8, 8, 8, 8, 8, 8, 8, 8, 8, 8, 8, 8, 8, 8, 8, 8, 8, 8, 8, 8, 8, 8, 8, 8, 8, 8, 8, 8, 8, 8, 8, 8, 8, 8, 8, 8, 8, 8, 8, 8, 8, 8, 8, 8, 8, 8, 8, 8, 8, 8, 8, 8, 8, 8, 8, 8, 8, 8, 8, 8, 8, 8, 8, 8, 8, 8, 8, 8, 8, 8, 8, 8, 8, 8, 8, 8, 8, 8, 8, 8, 8, 8, 8, 8, 8, 8, 8, 8, 8, 8, 8, 8, 8, 8, 8, 8, 8]⟩ : ByteArray) ((x0) % 256)))))) else (none)) else (none)))
def bits_Len64.f (k : Nat) (a0 : Int) : Option (Int) := if a0 ≥ 4294967296 then (bits_Len64.j0 k (a0 / 4294967296) 32) else (bits_Len64.j0 k a0 0)
theorem bits_Len64.mono_l : ∀ k, (∀ y0 y1, LeO (bits_Len64.j0 k y0 y1) (bits_Len64.j0 (k + 1) y0 y1))
  | 0 => fun _ _ r h => by simp [bits_Len64.j0] at h
  | k + 1 => by
    have ih0 := bits_Len64.mono_l k
    · intro y0 y1
      unfold bits_Len64.j0
      repeat' first
      | (with_reducible exact ih0 _ _)
      | (with_reducible exact LeO.refl _)
      | (with_reducible exact LeO.none _)
      | (with_reducible refine LeO.ite ?_ ?_)
      | (with_reducible refine LeO.bind ?_ (fun _ => ?_))
      | exact ih0 _ _
      | exact LeO.none _
      | refine LeO.ite ?_ ?_
      | refine LeO.bind ?_ (fun _ => ?_)
theorem bits_Len64.mono : ∀ a0 k, LeO (bits_Len64.f k a0) (bits_Len64.f (k + 1) a0) := by
  intro a0 k
  have ih0 := bits_Len64.mono_l k
  unfold bits_Len64.f
  repeat' first
      | (with_reducible exact ih0 _ _)
      | (with_reducible exact LeO.refl _)
      | (with_reducible exact LeO.none _)
      | (with_reducible refine LeO.ite ?_ ?_)
      | (with_reducible refine LeO.bind ?_ (fun _ => ?_))
      | exact ih0 _ _
      | exact LeO.none _
      | refine LeO.ite ?_ ?_
      | refine LeO.bind ?_ (fun _ => ?_)
set_option maxHeartbeats 8000000 in
set_option maxRecDepth 100000 in
theorem bits_Len64.calls (k : Nat) (a0 : Int) (r : Int) (w : World) (h : bits_Len64.f k a0 = some r) :
    Calls Tryd.prog 71 #[.int .u64 a0] w fun e w' => e = .returned (.int .i64 r) ∧ Drawn0 w w' := by
  have H : (if a0 ≥ 4294967296 then (bits_Len64.j0 k (a0 / 4294967296) 32) else (bits_Len64.j0 k a0 0)) = some r := h
  clear h
  have HC2 := Aside0.mk H
  clear H
  go_enter Tryd.func71, Tryd.ntmps71
  go_upto_if 4 with (fail)
  go_cut [0, 2] (fun v0 v2 wc => ∃ (kq : Nat) (x0_1 : Int) (x2_1 : Int), v0 = .int .u64 x0_1 ∧ v2 = .int .i64 x2_1 ∧ Aside0 (bits_Len64.j0 kq x0_1 x2_1 = some r) ∧ Aside0 (kq ≤ k) ∧ Drawn0 w wc)
  case first =>
    have H := HC2.out
    clear HC2
    by_cases c3 : a0 ≥ 4294967296
    · rw [if_pos c3] at H
      have c3b0 : decide (4294967296 ≤ a0) = true := decide_eq_true c3
      clear c3
      (first | rw [c3b0] | (simp only [i64_w, i32_w]; rw [c3b0]) | skip)
      have H' := Aside0.mk H
      clear H
      go_wp2
      go_meet
      case rel => exact ⟨_, (a0 / 4294967296), (32), (by first | rfl | (simp; done) | (simp [*]; done)), (by first | rfl | (simp; done) | (simp [*]; done)), H', ⟨by first | omega | exact Nat.le_refl _⟩, by repeat (first | exact Drawn0.refl _ | apply Drawn0.step)⟩
    · rw [if_neg c3] at H
      have c3b0 : decide (4294967296 ≤ a0) = false := decide_eq_false c3
      clear c3
      (first | rw [c3b0] | (simp only [i64_w, i32_w]; rw [c3b0]) | skip)
      have H' := Aside0.mk H
      clear H
      go_wp2
      go_meet
      case rel => exact ⟨_, (a0), (0), (by first | rfl | (simp; done) | (simp [*]; done)), (by first | rfl | (simp; done) | (simp [*]; done)), H', ⟨by first | omega | exact Nat.le_refl _⟩, by repeat (first | exact Drawn0.refl _ | apply Drawn0.step)⟩
  case rest =>
    clear HC2
    try clear p2
    try clear c3
    try clear c3b0
    obtain ⟨kq, x0_1, x2_1, rfl, rfl, HA, HJ1, ⟨mc1, rfl⟩⟩ := hcut
    cases kq with
    | zero => exact absurd HA.out (by simp [bits_Len64.j0])
    | succ kj1 =>
      have H := HA.out
      clear HA
      simp only [bits_Len64.j0] at H
      by_cases c4 : x0_1 ≥ 65536
      · rw [if_pos c4] at H
        have c4b0 : decide (65536 ≤ x0_1) = true := decide_eq_true c4
        clear c4
        by_cases c5 : (x0_1 / 65536) ≥ 256
        · rw [if_pos c5] at H
          have c5b0 : decide (256 ≤ (x0_1 / 65536)) = true := decide_eq_true c5
          clear c5
          obtain ⟨ji6, hji6⟩ : ∃ j_ : Int, (((x0_1 / 65536) / 256) % 256) = j_ := ⟨_, rfl⟩
          replace H : (if 0 ≤ (ji6) then (if (ji6) < 256 then (some (wrap64 ((wrap64 ((wrap64 (x2_1 + 16)) + 8)) + (wrap64 (bt (⟨#[0, 1, 2, 2, 3, 3, 3, 3, 4, 4, 4, 4, 4, 4, 4, 4, 5, 5, 5, 5, 5, 5, 5, 5, 5, 5, 5, 5, 5, 5, 5, 5, 6, 6, 6, 6, 6, 6, 6, 6, 6, 6, 6, 6, 6, 6, 6, 6, 6, 6, 6, 6, 6, 6, 6, 6, 6, 6, 6, 6, 6, 6, 6, 6, 7, 7, 7, 7, 7, 7, 7, 7, 7, 7, 7, 7, 7, 7, 7, 7, 7, 7, 7, 7, 7, 7, 7, 7, 7, 7, 7, 7, 7, 7, 7, 7, 7, 7, 7, 7, 7, 7, 7, 7, 7, 7, 7, 7, 7, 7, 7, 7, 7, 7, 7, 7, 7, 7, 7, 7, 7, 7, 7, 7, 7, 7, 7, 7, 8, 8, 8, 8, 8, 8, 8, 8, 8, 8, 8, 8, 8, 8, 8, 8, 8, 8, 8, 8, 8, 8, 8, 8, 8, 8, 8, 8, 8, 8, 8, 8, 8, 8, 8, 8, 8, 8, 8, 8, 8, 8, 8, 8, 8, 8, 8, 8, 8, 8, 8, 8, 8, 8, 8, 8, 8, 8, 8, 8, 8, 8, 8, 8, 8, 8, 8, 8, 8, 8, 8, 8, 8, 8, 8, 8, 8, 8, 8, 8, 8, 8, 8, 8, 8, 8, 8, 8, 8, 8, 8, 8, 8, 8, 8, 8, 8, 8, 8, 8, 8, 8, 8, 8, 8, 8, 8, 8, 8, 8, 8, 8, 8, 8, 8, 8, 8, 8, 8, 8, 8, 8, 8, 8, 8, 8, 8, 8]⟩ : ByteArray) (ji6)))))) else (none)) else (none)) = some r := by first | (rw [hji6] at H; exact H) | (simp only [hji6] at H ⊢; exact H)
          by_cases c7 : 0 ≤ (ji6)
          · rw [if_pos c7] at H
            have c7b0 : decide (0 ≤ (ji6)) = true := decide_eq_true c7
            clear c7
            by_cases c8 : (ji6) < 256
            · rw [if_pos c8] at H
              have c8b0 : decide ((ji6) < 256) = true := decide_eq_true c8
              clear c8
              obtain rfl := Option.some.inj H
              have p9 : 0 ≤ ((ji6) : Int) := of_decide_eq_true (by first | (with_reducible assumption) | assumption)
              have q9 : (ji6) < (256 : Int) := of_decide_eq_true (by first | (with_reducible assumption) | assumption)
              have hx9 := bt_at (⟨#[0, 1, 2, 2, 3, 3, 3, 3, 4, 4, 4, 4, 4, 4, 4, 4, 5, 5, 5, 5, 5, 5, 5, 5, 5, 5, 5, 5, 5, 5, 5, 5, 6, 6, 6, 6, 6, 6, 6, 6, 6, 6, 6, 6, 6, 6, 6, 6, 6, 6, 6, 6, 6, 6, 6, 6, 6, 6, 6, 6, 6, 6, 6, 6, 7, 7, 7, 7, 7, 7, 7, 7, 7, 7, 7, 7, 7, 7, 7, 7, 7, 7, 7, 7, 7, 7, 7, 7, 7, 7, 7, 7, 7, 7, 7, 7, 7, 7, 7, 7, 7, 7, 7, 7, 7, 7, 7, 7, 7, 7, 7, 7, 7, 7, 7, 7, 7, 7, 7, 7, 7, 7, 7, 7, 7, 7, 7, 7, 8, 8, 8, 8, 8, 8, 8, 8, 8, 8, 8, 8, 8, 8, 8, 8, 8, 8, 8, 8, 8, 8, 8, 8, 8, 8, 8, 8, 8, 8, 8, 8, 8, 8, 8, 8, 8, 8, 8, 8, 8, 8, 8, 8, 8, 8, 8, 8, 8, 8, 8, 8, 8, 8, 8, 8, 8, 8, 8, 8, 8, 8, 8, 8, 8, 8, 8, 8, 8, 8, 8, 8, 8, 8, 8, 8, 8, 8, 8, 8, 8, 8, 8, 8, 8, 8, 8, 8, 8, 8, 8, 8, 8, 8, 8, 8, 8, 8, 8, 8, 8, 8, 8, 8, 8, 8, 8, 8, 8, 8, 8, 8, 8, 8, 8, 8, 8, 8, 8, 8, 8, 8, 8, 8, 8, 8, 8, 8]⟩ : ByteArray) (ji6)
              replace p9 := eq_true p9
              replace q9 := eq_true q9
              go_wp2
              go_ret
              exact ⟨by first | rfl | (simp; done) | (simp only [← hji6] <;> (first | rfl | simp)) | (simp [*]; done), by repeat (first | exact Drawn0.refl _ | apply Drawn0.step)⟩
            · rw [if_neg c8] at H
              exact absurd H (by simp)
          · rw [if_neg c7] at H
            exact absurd H (by simp)
        · rw [if_neg c5] at H
          have c5b0 : decide (256 ≤ (x0_1 / 65536)) = false := decide_eq_false c5
          clear c5
          obtain ⟨ji10, hji10⟩ : ∃ j_ : Int, ((x0_1 / 65536) % 256) = j_ := ⟨_, rfl⟩
          replace H : (if 0 ≤ (ji10) then (if (ji10) < 256 then (some (wrap64 ((wrap64 (x2_1 + 16)) + (wrap64 (bt (⟨#[0, 1, 2, 2, 3, 3, 3, 3, 4, 4, 4, 4, 4, 4, 4, 4, 5, 5, 5, 5, 5, 5, 5, 5, 5, 5, 5, 5, 5, 5, 5, 5, 6, 6, 6, 6, 6, 6, 6, 6, 6, 6, 6, 6, 6, 6, 6, 6, 6, 6, 6, 6, 6, 6, 6, 6, 6, 6, 6, 6, 6, 6, 6, 6, 7, 7, 7, 7, 7, 7, 7, 7, 7, 7, 7, 7, 7, 7, 7, 7, 7, 7, 7, 7, 7, 7, 7, 7, 7, 7, 7, 7, 7, 7, 7, 7, 7, 7, 7, 7, 7, 7, 7, 7, 7, 7, 7, 7, 7, 7, 7, 7, 7, 7, 7, 7, 7, 7, 7, 7, 7, 7, 7, 7, 7, 7, 7, 7, 8, 8, 8, 8, 8, 8, 8, 8, 8, 8, 8, 8, 8, 8, 8, 8, 8, 8, 8, 8, 8, 8, 8, 8, 8, 8, 8, 8, 8, 8, 8, 8, 8, 8, 8, 8, 8, 8, 8, 8, 8, 8, 8, 8, 8, 8, 8, 8, 8, 8, 8, 8, 8, 8, 8, 8, 8, 8, 8, 8, 8, 8, 8, 8, 8, 8, 8, 8, 8, 8, 8, 8, 8, 8, 8, 8, 8, 8, 8, 8, 8, 8, 8, 8, 8, 8, 8, 8, 8, 8, 8, 8, 8, 8, 8, 8, 8, 8, 8, 8, 8, 8, 8, 8, 8, 8, 8, 8, 8, 8, 8, 8, 8, 8, 8, 8, 8, 8, 8, 8, 8, 8, 8, 8, 8, 8, 8, 8]⟩ : ByteArray) (ji10)))))) else (none)) else (none)) = some r := by first | (rw [hji10] at H; exact H) | (simp only [hji10] at H ⊢; exact H)
          by_cases c11 : 0 ≤ (ji10)
          · rw [if_pos c11] at H
            have c11b0 : decide (0 ≤ (ji10)) = true := decide_eq_true c11
            clear c11
            by_cases c12 : (ji10) < 256
            · rw [if_pos c12] at H
              have c12b0 : decide ((ji10) < 256) = true := decide_eq_true c12
              clear c12
              obtain rfl := Option.some.inj H
              have p13 : 0 ≤ ((ji10) : Int) := of_decide_eq_true (by first | (with_reducible assumption) | assumption)
              have q13 : (ji10) < (256 : Int) := of_decide_eq_true (by first | (with_reducible assumption) | assumption)
              have hx13 := bt_at (⟨#[0, 1, 2, 2, 3, 3, 3, 3, 4, 4, 4, 4, 4, 4, 4, 4, 5, 5, 5, 5, 5, 5, 5, 5, 5, 5, 5, 5, 5, 5, 5, 5, 6, 6, 6, 6, 6, 6, 6, 6, 6, 6, 6, 6, 6, 6, 6, 6, 6, 6, 6, 6, 6, 6, 6, 6, 6, 6, 6, 6, 6, 6, 6, 6, 7, 7, 7, 7, 7, 7, 7, 7, 7, 7, 7, 7, 7, 7, 7, 7, 7, 7, 7, 7, 7, 7, 7, 7, 7, 7, 7, 7, 7, 7, 7, 7, 7, 7, 7, 7, 7, 7, 7, 7, 7, 7, 7, 7, 7, 7, 7, 7, 7, 7, 7, 7, 7, 7, 7, 7, 7, 7, 7, 7, 7, 7, 7, 7, 8, 8, 8, 8, 8, 8, 8, 8, 8, 8, 8, 8, 8, 8, 8, 8, 8, 8, 8, 8, 8, 8, 8, 8, 8, 8, 8, 8, 8, 8, 8, 8, 8, 8, 8, 8, 8, 8, 8, 8, 8, 8, 8, 8, 8, 8, 8, 8, 8, 8, 8, 8, 8, 8, 8, 8, 8, 8, 8, 8, 8, 8, 8, 8, 8, 8, 8, 8, 8, 8, 8, 8, 8, 8, 8, 8, 8, 8, 8, 8, 8, 8, 8, 8, 8, 8, 8, 8, 8, 8, 8, 8, 8, 8, 8, 8, 8, 8, 8, 8, 8, 8, 8, 8, 8, 8, 8, 8, 8, 8, 8, 8, 8, 8, 8, 8, 8, 8, 8, 8, 8, 8, 8, 8, 8, 8, 8, 8]⟩ : ByteArray) (ji10)
              replace p13 := eq_true p13
              replace q13 := eq_true q13
              go_wp2
              go_ret
              exact ⟨by first | rfl | (simp; done) | (simp only [← hji10] <;> (first | rfl | simp)) | (simp [*]; done), by repeat (first | exact Drawn0.refl _ | apply Drawn0.step)⟩
            · rw [if_neg c12] at H
              exact absurd H (by simp)
          · rw [if_neg c11] at H
            exact absurd H (by simp)
      · rw [if_neg c4] at H
        have c4b0 : decide (65536 ≤ x0_1) = false := decide_eq_false c4
        clear c4
        by_cases c14 : x0_1 ≥ 256
        · rw [if_pos c14] at H
          have c14b0 : decide (256 ≤ x0_1) = true := decide_eq_true c14
          clear c14
          obtain ⟨ji15, hji15⟩ : ∃ j_ : Int, ((x0_1 / 256) % 256) = j_ := ⟨_, rfl⟩
          replace H : (if 0 ≤ (ji15) then (if (ji15) < 256 then (some (wrap64 ((wrap64 (x2_1 + 8)) + (wrap64 (bt (⟨#[0, 1, 2, 2, 3, 3, 3, 3, 4, 4, 4, 4, 4, 4, 4, 4, 5, 5, 5, 5, 5, 5, 5, 5, 5, 5, 5, 5, 5, 5, 5, 5, 6, 6, 6, 6, 6, 6, 6, 6, 6, 6, 6, 6, 6, 6, 6, 6, 6, 6, 6, 6, 6, 6, 6, 6, 6, 6, 6, 6, 6, 6, 6, 6, 7, 7, 7, 7, 7, 7, 7, 7, 7, 7, 7, 7, 7, 7, 7, 7, 7, 7, 7, 7, 7, 7, 7, 7, 7, 7, 7, 7, 7, 7, 7, 7, 7, 7, 7, 7, 7, 7, 7, 7, 7, 7, 7, 7, 7, 7, 7, 7, 7, 7, 7, 7, 7, 7, 7, 7, 7, 7, 7, 7, 7, 7, 7, 7, 8, 8, 8, 8, 8, 8, 8, 8, 8, 8, 8, 8, 8, 8, 8, 8, 8, 8, 8, 8, 8, 8, 8, 8, 8, 8, 8, 8, 8, 8, 8, 8, 8, 8, 8, 8, 8, 8, 8, 8, 8, 8, 8, 8, 8, 8, 8, 8, 8, 8, 8, 8, 8, 8, 8, 8, 8, 8, 8, 8, 8, 8, 8, 8, 8, 8, 8, 8, 8, 8, 8, 8, 8, 8, 8, 8, 8, 8, 8, 8, 8, 8, 8, 8, 8, 8, 8, 8, 8, 8, 8, 8, 8, 8, 8, 8, 8, 8, 8, 8, 8, 8, 8, 8, 8, 8, 8, 8, 8, 8, 8, 8, 8, 8, 8, 8, 8, 8, 8, 8, 8, 8, 8, 8, 8, 8, 8, 8]⟩ : ByteArray) (ji15)))))) else (none)) else (none)) = some r := by first | (rw [hji15] at H; exact H) | (simp only [hji15] at H ⊢; exact H)
          by_cases c16 : 0 ≤ (ji15)
          · rw [if_pos c16] at H
            have c16b0 : decide (0 ≤ (ji15)) = true := decide_eq_true c16
            clear c16
            by_cases c17 : (ji15) < 256
            · rw [if_pos c17] at H
              have c17b0 : decide ((ji15) < 256) = true := decide_eq_true c17
              clear c17
              obtain rfl := Option.some.inj H
              have p18 : 0 ≤ ((ji15) : Int) := of_decide_eq_true (by first | (with_reducible assumption) | assumption)
              have q18 : (ji15) < (256 : Int) := of_decide_eq_true (by first | (with_reducible assumption) | assumption)
              have hx18 := bt_at (⟨#[0, 1, 2, 2, 3, 3, 3, 3, 4, 4, 4, 4, 4, 4, 4, 4, 5, 5, 5, 5, 5, 5, 5, 5, 5, 5, 5, 5, 5, 5, 5, 5, 6, 6, 6, 6, 6, 6, 6, 6, 6, 6, 6, 6, 6, 6, 6, 6, 6, 6, 6, 6, 6, 6, 6, 6, 6, 6, 6, 6, 6, 6, 6, 6, 7, 7, 7, 7, 7, 7, 7, 7, 7, 7, 7, 7, 7, 7, 7, 7, 7, 7, 7, 7, 7, 7, 7, 7, 7, 7, 7, 7, 7, 7, 7, 7, 7, 7, 7, 7, 7, 7, 7, 7, 7, 7, 7, 7, 7, 7, 7, 7, 7, 7, 7, 7, 7, 7, 7, 7, 7, 7, 7, 7, 7, 7, 7, 7, 8, 8, 8, 8, 8, 8, 8, 8, 8, 8, 8, 8, 8, 8, 8, 8, 8, 8, 8, 8, 8, 8, 8, 8, 8, 8, 8, 8, 8, 8, 8, 8, 8, 8, 8, 8, 8, 8, 8, 8, 8, 8, 8, 8, 8, 8, 8, 8, 8, 8, 8, 8, 8, 8, 8, 8, 8, 8, 8, 8, 8, 8, 8, 8, 8, 8, 8, 8, 8, 8, 8, 8, 8, 8, 8, 8, 8, 8, 8, 8, 8, 8, 8, 8, 8, 8, 8, 8, 8, 8, 8, 8, 8, 8, 8, 8, 8, 8, 8, 8, 8, 8, 8, 8, 8, 8, 8, 8, 8, 8, 8, 8, 8, 8, 8, 8, 8, 8, 8, 8, 8, 8, 8, 8, 8, 8, 8, 8]⟩ : ByteArray) (ji15)
              replace p18 := eq_true p18
              replace q18 := eq_true q18
              go_wp2
              go_ret
              exact ⟨by first | rfl | (simp; done) | (simp only [← hji15] <;> (first | rfl | simp)) | (simp [*]; done), by repeat (first | exact Drawn0.refl _ | apply Drawn0.step)⟩
            · rw [if_neg c17] at H
              exact absurd H (by simp)
          · rw [if_neg c16] at H
            exact absurd H (by simp)
        · rw [if_neg c14] at H
          have c14b0 : decide (256 ≤ x0_1) = false := decide_eq_false c14
          clear c14
          obtain ⟨ji19, hji19⟩ : ∃ j_ : Int, ((x0_1) % 256) = j_ := ⟨_, rfl⟩
          replace H : (if 0 ≤ (ji19) then (if (ji19) < 256 then (some (wrap64 (x2_1 + (wrap64 (bt (⟨#[0, 1, 2, 2, 3, 3, 3, 3, 4, 4, 4, 4, 4, 4, 4, 4, 5, 5, 5, 5, 5, 5, 5, 5, 5, 5, 5, 5, 5, 5, 5, 5, 6, 6, 6, 6, 6, 6, 6, 6, 6, 6, 6, 6, 6, 6, 6, 6, 6, 6, 6, 6, 6, 6, 6, 6, 6, 6, 6, 6, 6, 6, 6, 6, 7, 7, 7, 7, 7, 7, 7, 7, 7, 7, 7, 7, 7, 7, 7, 7, 7, 7, 7, 7, 7, 7, 7, 7, 7, 7, 7, 7, 7, 7, 7, 7, 7, 7, 7, 7, 7, 7, 7, 7, 7, 7, 7, 7, 7, 7, 7, 7, 7, 7, 7, 7, 7, 7, 7, 7, 7, 7, 7, 7, 7, 7, 7, 7, 8, 8, 8, 8, 8, 8, 8, 8, 8, 8, 8, 8, 8, 8, 8, 8, 8, 8, 8, 8, 8, 8, 8, 8, 8, 8, 8, 8, 8, 8, 8, 8, 8, 8, 8, 8, 8, 8, 8, 8, 8, 8, 8, 8, 8, 8, 8, 8, 8, 8, 8, 8, 8, 8, 8, 8, 8, 8, 8, 8, 8, 8, 8, 8, 8, 8, 8, 8, 8, 8, 8, 8, 8, 8, 8, 8, 8, 8, 8, 8, 8, 8, 8, 8, 8, 8, 8, 8, 8, 8, 8, 8, 8, 8, 8, 8, 8, 8, 8, 8, 8, 8, 8, 8, 8, 8, 8, 8, 8, 8, 8, 8, 8, 8, 8, 8, 8, 8, 8, 8, 8, 8, 8, 8, 8, 8, 8, 8]⟩ : ByteArray) (ji19)))))) else (none)) else (none)) = some r := by first | (rw [hji19] at H; exact H) | (simp only [hji19] at H ⊢; exact H)
          by_cases c20 : 0 ≤ (ji19)
          · rw [if_pos c20] at H
            have c20b0 : decide (0 ≤ (ji19)) = true := decide_eq_true c20
            clear c20
            by_cases c21 : (ji19) < 256
            · rw [if_pos c21] at H
              have c21b0 : decide ((ji19) < 256) = true := decide_eq_true c21
              clear c21
              obtain rfl := Option.some.inj H
              have p22 : 0 ≤ ((ji19) : Int) := of_decide_eq_true (by first | (with_reducible assumption) | assumption)
              have q22 : (ji19) < (256 : Int) := of_decide_eq_true (by first | (with_reducible assumption) | assumption)
              have hx22 := bt_at (⟨#[0, 1, 2, 2, 3, 3, 3, 3, 4, 4, 4, 4, 4, 4, 4, 4, 5, 5, 5, 5, 5, 5, 5, 5, 5, 5, 5, 5, 5, 5, 5, 5, 6, 6, 6, 6, 6, 6, 6, 6, 6, 6, 6, 6, 6, 6, 6, 6, 6, 6, 6, 6, 6, 6, 6, 6, 6, 6, 6, 6, 6, 6, 6, 6, 7, 7, 7, 7, 7, 7, 7, 7, 7, 7, 7, 7, 7, 7, 7, 7, 7, 7, 7, 7, 7, 7, 7, 7, 7, 7, 7, 7, 7, 7, 7, 7, 7, 7, 7, 7, 7, 7, 7, 7, 7, 7, 7, 7, 7, 7, 7, 7, 7, 7, 7, 7, 7, 7, 7, 7, 7, 7, 7, 7, 7, 7, 7, 7, 8, 8, 8, 8, 8, 8, 8, 8, 8, 8, 8, 8, 8, 8, 8, 8, 8, 8, 8, 8, 8, 8, 8, 8, 8, 8, 8, 8, 8, 8, 8, 8, 8, 8, 8, 8, 8, 8, 8, 8, 8, 8, 8, 8, 8, 8, 8, 8, 8, 8, 8, 8, 8, 8, 8, 8, 8, 8, 8, 8, 8, 8, 8, 8, 8, 8, 8, 8, 8, 8, 8, 8, 8, 8, 8, 8, 8, 8, 8, 8, 8, 8, 8, 8, 8, 8, 8, 8, 8, 8, 8, 8, 8, 8, 8, 8, 8, 8, 8, 8, 8, 8, 8, 8, 8, 8, 8, 8, 8, 8, 8, 8, 8, 8, 8, 8, 8, 8, 8, 8, 8, 8, 8, 8, 8, 8, 8, 8]⟩ : ByteArray) (ji19)
              replace p22 := eq_true p22
              replace q22 := eq_true q22
              go_wp2
              go_ret
              exact ⟨by first | rfl | (simp; done) | (simp only [← hji19] <;> (first | rfl | simp)) | (simp [*]; done), by repeat (first | exact Drawn0.refl _ | apply Drawn0.step)⟩
            · rw [if_neg c21] at H
              exact absurd H (by simp)
          · rw [if_neg c20] at H
            exact absurd H (by simp)

/-! ### bits_LeadingZeros64: function 58 -/
def bits_LeadingZeros64.f (k : Nat) (a0 : Int) : Option (Int) := (bits_Len64.f k a0).bind fun t101 => (some (wrap64 (64 - t101)))
theorem bits_LeadingZeros64.mono : ∀ a0 k, LeO (bits_LeadingZeros64.f k a0) (bits_LeadingZeros64.f (k + 1) a0) := by
  intro a0 k
  unfold bits_LeadingZeros64.f
  repeat' first
      | (with_reducible exact bits_Len64.mono _ _)
      | (with_reducible exact LeO.refl _)
      | (with_reducible exact LeO.none _)
      | (with_reducible refine LeO.ite ?_ ?_)
      | (with_reducible refine LeO.bind ?_ (fun _ => ?_))
      | exact bits_Len64.mono _ _
      | exact LeO.none _
      | refine LeO.ite ?_ ?_
      | refine LeO.bind ?_ (fun _ => ?_)
set_option maxHeartbeats 8000000 in
set_option maxRecDepth 100000 in
theorem bits_LeadingZeros64.calls (k : Nat) (a0 : Int) (r : Int) (w : World) (h : bits_LeadingZeros64.f k a0 = some r) :
    Calls Tryd.prog 58 #[.int .u64 a0] w fun e w' => e = .returned (.int .i64 r) ∧ Drawn0 w w' := by
  have H : ((bits_Len64.f k a0).bind fun t101 => (some (wrap64 (64 - t101)))) = some r := h
  clear h
  replace H := Option.bind_eq_some_iff.mp H
  obtain ⟨t101, A20, H⟩ := H
  replace H : (some (wrap64 (64 - t101))) = some r := H
  have A2 := Aside0.mk A20
  clear A20
  obtain rfl := Option.some.inj H
  go_enter Tryd.func58, Tryd.ntmps58
  go_wp2_with (first | ((with_reducible refine gate_callee (f := 71) rfl ?_); refine goesL_ (some 4) rfl rfl Tryd.func71 (by kernel_rfl) rfl #[.int .u64 a0] rfl (by (try simp only [List.map_toArray, List.map_cons, List.map_nil]); first | done | rfl | (simp only [List.length_drop, List.length_take]; rfl)) ?_; (with_reducible refine (bits_Len64.calls k a0 t101 _ A2.out).mono ?_); rintro e w' ⟨rfl, ⟨nd, rfl⟩⟩; refine ⟨_, rfl, ?_⟩))
  go_ret
  exact ⟨by first | rfl | (simp; done) | (simp [*]; done), by repeat (first | exact Drawn0.refl _ | apply Drawn0.step)⟩


/-! ### bits_TrailingZeros64: function 59 -/
-- TAB
/-- How many noughts stand at the end. -/
def bits_TrailingZeros64.f (a0 : Int) : Option Int := if 0 ≤ a0 then (if a0 < 18446744073709551616 then some ((Lib.ctz 64 a0.toNat : Nat) : Int) else none) else none
set_option maxHeartbeats 1000000 in
theorem bits_TrailingZeros64.core (x k idx : Nat) (w : World) (hx0 : ((x : Int) == 0) = false)
    (key : IntKind.u64.wrap (Go.bits BinOp.and IntKind.u64 (x : Int) (IntKind.u64.wrap (-(x : Int))) * 285870213051353865) / 288230376151711744 = (idx : Int))
    (hi : idx < 64) (hk : k < 64) (hcell : w.cell? ⟨2, idx, none⟩ = some (.int .u8 k)) :
    Calls Tryd.prog 59 #[.int .u64 x] w fun e w' => e = .returned (.int .i64 k) ∧ w' = w := by
  go_enter Tryd.func59, Tryd.ntmps59
  go_wp2_with (simp only [key])
  go_ret
  exact ⟨rfl, rfl⟩
theorem bits_TrailingZeros64.zero (w : World) : Calls Tryd.prog 59 #[.int .u64 0] w fun e w' => e = .returned (.int .i64 64) ∧ w' = w := by
  go_enter Tryd.func59, Tryd.ntmps59
  go_wp2
  go_ret
  exact ⟨rfl, rfl⟩
theorem bits_TrailingZeros64.key (x a : Nat) (hx : x < 18446744073709551616) (hx0 : x ≠ 0) (hlow : x &&& (18446744073709551616 - x) = a) :
    IntKind.u64.wrap (Go.bits BinOp.and IntKind.u64 (x : Int) (IntKind.u64.wrap (-(x : Int))) * 285870213051353865) / 288230376151711744 = ((a * 285870213051353865 % 18446744073709551616 / 288230376151711744 : Nat) : Int) := by
  have wu : ∀ n : Int, IntKind.u64.wrap n = n % 18446744073709551616 := fun n => by simp [IntKind.wrap, IntKind.signed, IntKind.bits]
  have e1 : IntKind.u64.wrap (-(x : Int)) = ((18446744073709551616 - x : Nat) : Int) := by rw [wu]; omega
  have e2 : Go.bits BinOp.and IntKind.u64 (x : Int) ((18446744073709551616 - x : Nat) : Int) = ((x &&& (18446744073709551616 - x) : Nat) : Int) :=
    (bits_nat .u64 64 (Nat.le_refl _) (fun n h0 h1 => by rw [wu]; simp only [Int.reducePow] at h1; omega) x (18446744073709551616 - x) (by simpa using hx) (by simp only [Nat.reducePow]; omega)).1
  rw [e1, e2, hlow, wu]
  omega
theorem bits_TrailingZeros64.calls (a0 : Int) (r : Int) (w : World) [Tab.TabOK w] (h : bits_TrailingZeros64.f a0 = some r) :
    Calls Tryd.prog 59 #[.int .u64 a0] w fun e w' => e = .returned (.int .i64 r) ∧ Drawn0 w w' := by
  unfold bits_TrailingZeros64.f at h
  by_cases h0 : 0 ≤ a0
  · rw [if_pos h0] at h
    by_cases h1 : a0 < 18446744073709551616
    · rw [if_pos h1] at h
      obtain ⟨x, rfl⟩ := Int.eq_ofNat_of_zero_le h0
      rw [Int.toNat_natCast] at h
      obtain rfl := Option.some.inj h
      have hx : x < 18446744073709551616 := by omega
      have fin : ∀ k : Nat, (Calls Tryd.prog 59 #[.int .u64 x] w fun e w' => e = .returned (.int .i64 k) ∧ w' = w) → Calls Tryd.prog 59 #[.int .u64 x] w fun e w' => e = .returned (.int .i64 k) ∧ Drawn0 w w' := by
        intro k hc
        refine hc.mono ?_
        rintro e w' ⟨rfl, rfl⟩
        exact ⟨rfl, Drawn0.refl _⟩
      apply fin
      by_cases hx0 : x = 0
      · subst hx0
        exact bits_TrailingZeros64.zero w
      · obtain ⟨hlow, hk⟩ := Lib.lowest_bit 64 x hx0 hx
        obtain ⟨hi, htab⟩ := Lib.deBruijn64_at _ hk
        have hcell := Tab.TabOK.tab (w := w) _ hi
        rw [htab] at hcell
        exact bits_TrailingZeros64.core x _ _ w (by simp; omega) (bits_TrailingZeros64.key x _ hx hx0 hlow) hi hk hcell
    · rw [if_neg h1] at h; cases h
  · rw [if_neg h0] at h; cases h

/-! ### word_flip: function 60 -/
def word_flip.l0 : Nat → Int → Int → Int → Option (Int)
  | 0, _, _, _ => none
  | k + 1, x0, x3, x5 => if x5 < 64 then (if 0 ≤ x5 then (if 0 ≤ (wrap64 (63 - x5)) then (word_flip.l0 k x0 (Go.bits .or .u64 x3 (shl .u64 (Go.bits .and .u64 (shr .u64 (IntKind.u64.wrap (x0)) x5) 1) (wrap64 (63 - x5)))) (wrap64 (x5 + 1))) else (none)) else (none)) else (some (wrap64 (x3)))
def word_flip.f (k : Nat) (a0 : Int) : Option (Int) := word_flip.l0 k a0 0 0
theorem word_flip.mono_l : ∀ k, (∀ y0 y1 y2, LeO (word_flip.l0 k y0 y1 y2) (word_flip.l0 (k + 1) y0 y1 y2))
  | 0 => fun _ _ _ r h => by simp [word_flip.l0] at h
  | k + 1 => by
    have ih0 := word_flip.mono_l k
    · intro y0 y1 y2
      unfold word_flip.l0
      repeat' first
      | (with_reducible exact ih0 _ _ _)
      | (with_reducible exact LeO.refl _)
      | (with_reducible exact LeO.none _)
      | (with_reducible refine LeO.ite ?_ ?_)
      | (with_reducible refine LeO.bind ?_ (fun _ => ?_))
      | exact ih0 _ _ _
      | exact LeO.none _
      | refine LeO.ite ?_ ?_
      | refine LeO.bind ?_ (fun _ => ?_)
theorem word_flip.mono : ∀ a0 k, LeO (word_flip.f k a0) (word_flip.f (k + 1) a0) := by
  intro a0 k
  have ih0 := word_flip.mono_l k
  unfold word_flip.f
  repeat' first
      | (with_reducible exact ih0 _ _ _)
      | (with_reducible exact LeO.refl _)
      | (with_reducible exact LeO.none _)
      | (with_reducible refine LeO.ite ?_ ?_)
      | (with_reducible refine LeO.bind ?_ (fun _ => ?_))
      | exact ih0 _ _ _
      | exact LeO.none _
      | refine LeO.ite ?_ ?_
      | refine LeO.bind ?_ (fun _ => ?_)
set_option maxHeartbeats 8000000 in
set_option maxRecDepth 100000 in
theorem word_flip.calls (k : Nat) (a0 : Int) (r : Int) (w : World) (h : word_flip.f k a0 = some r) :
    Calls Tryd.prog 60 #[.int .i64 a0] w fun e w' => e = .returned (.int .i64 r) ∧ Drawn0 w w' := by
  have H : (word_flip.l0 k a0 0 0) = some r := h
  clear h
  have H' := Aside0.mk H
  clear H
  go_enter Tryd.func60, Tryd.ntmps60
  go_wp2
  go_loopg [3, 5] k (fun kq v3 v5 w' => ∃ (x3_1 : Int) (x5_1 : Int), v3 = .int .u64 x3_1 ∧ v5 = .int .i64 x5_1 ∧ Aside0 (word_flip.l0 kq a0 x3_1 x5_1 = some r) ∧ Aside0 (kq ≤ k) ∧ Drawn0 w w')
  case atStart => exact ⟨(0), (0), (by first | rfl | (simp; done) | (simp [*]; done)), (by first | rfl | (simp; done) | (simp [*]; done)), H', ⟨Nat.le_refl _⟩, by repeat (first | exact Drawn0.refl _ | apply Drawn0.step)⟩
  case round =>
    clear H'
    obtain ⟨x3_1, x5_1, rfl, rfl, HA, HK1, ⟨m1, rfl⟩⟩ := hrel
    cases gk with
    | zero => exact absurd HA.out (by simp [word_flip.l0])
    | succ k1 =>
      have H := HA.out
      clear HA
      simp only [word_flip.l0] at H
      by_cases c2 : x5_1 < 64
      · rw [if_pos c2] at H
        have c2b0 : decide (x5_1 < 64) = true := decide_eq_true c2
        clear c2
        by_cases c3 : 0 ≤ x5_1
        · rw [if_pos c3] at H
          have c3b0 := eq_true c3
          have c3b1 : decide (0 ≤ x5_1) = true := decide_eq_true c3
          clear c3
          obtain ⟨ji4, hji4⟩ : ∃ j_ : Int, (shr .u64 (IntKind.u64.wrap (a0)) x5_1) = j_ := ⟨_, rfl⟩
          replace H : (if 0 ≤ (wrap64 (63 - x5_1)) then (word_flip.l0 k1 a0 (Go.bits .or .u64 x3_1 (shl .u64 (Go.bits .and .u64 (ji4) 1) (wrap64 (63 - x5_1)))) (wrap64 (x5_1 + 1))) else (none)) = some r := by first | (rw [hji4] at H; exact H) | (simp only [hji4] at H ⊢; exact H)
          have hji4_ : ((IntKind.u64.wrap (a0)) / 2 ^ min x5_1.toNat 64) = ji4 := hji4
          have hji4z : x5_1 ≤ 64 → ((IntKind.u64.wrap (a0)) / 2 ^ x5_1.toNat) = ji4 := shr_small hji4
          obtain ⟨ji5, hji5⟩ : ∃ j_ : Int, (wrap64 (63 - x5_1)) = j_ := ⟨_, rfl⟩
          replace H : (if 0 ≤ (ji5) then (word_flip.l0 k1 a0 (Go.bits .or .u64 x3_1 (shl .u64 (Go.bits .and .u64 (ji4) 1) (ji5))) (wrap64 (x5_1 + 1))) else (none)) = some r := by first | (rw [hji5] at H; exact H) | (simp only [hji5] at H ⊢; exact H)
          have hji5w : (IntKind.i64.wrap (63 - x5_1)) = ji5 := (i64_w _).trans hji5
          by_cases c6 : 0 ≤ (ji5)
          · rw [if_pos c6] at H
            have c6b0 := eq_true c6
            have c6b1 : decide (0 ≤ (ji5)) = true := decide_eq_true c6
            clear c6
            obtain ⟨ji7, hji7⟩ : ∃ j_ : Int, (shl .u64 (Go.bits .and .u64 (ji4) 1) (ji5)) = j_ := ⟨_, rfl⟩
            replace H : (word_flip.l0 k1 a0 (Go.bits .or .u64 x3_1 (ji7)) (wrap64 (x5_1 + 1))) = some r := by first | (rw [hji7] at H; exact H) | (simp only [hji7] at H ⊢; exact H)
            have hji7_ : (IntKind.u64.wrap ((Go.bits .and .u64 (ji4) 1) * 2 ^ min (ji5).toNat 64)) = ji7 := hji7
            have hji7z : (ji5) ≤ 64 → (IntKind.u64.wrap ((Go.bits .and .u64 (ji4) 1) * 2 ^ (ji5).toNat)) = ji7 := shl_small hji7
            have H' := Aside0.mk H
            clear H
            go_wp2
            go_roundg k1
            case measure => have := HK1.out; omega
            case rel => exact ⟨(Go.bits .or .u64 x3_1 (ji7)), (wrap64 (x5_1 + 1)), (by first | rfl | (simp; done) | (simp only [← hji7] <;> (first | rfl | simp)) | (simp [*]; done)), (by first | rfl | (simp; done) | (simp [*]; done)), H', ⟨by have := HK1.out; omega⟩, by repeat (first | exact Drawn0.refl _ | apply Drawn0.step)⟩
          · rw [if_neg c6] at H
            exact absurd H (by simp)
        · rw [if_neg c3] at H
          exact absurd H (by simp)
      · rw [if_neg c2] at H
        have c2b0 : decide (x5_1 < 64) = false := decide_eq_false c2
        clear c2
        obtain rfl := Option.some.inj H
        go_wp2
        go_ret
        exact ⟨by first | rfl | (simp; done) | (simp [*]; done), by repeat (first | exact Drawn0.refl _ | apply Drawn0.step)⟩

/-! ### word_yes: function 61 -/
def word_yes.f (a0 : Bool) : Option (Int) := if a0 = true then (some 1) else (some 0)
set_option maxHeartbeats 8000000 in
set_option maxRecDepth 100000 in
theorem word_yes.calls (a0 : Bool) (r : Int) (w : World) (h : word_yes.f a0 = some r) :
    Calls Tryd.prog 61 #[.bool a0] w fun e w' => e = .returned (.int .i64 r) ∧ Drawn0 w w' := by
  have H : (if a0 = true then (some 1) else (some 0)) = some r := h
  clear h
  by_cases c2 : a0 = true
  · subst c2
    have H1 : (some 1) = some r := by rw [if_pos rfl] at H; exact H
    clear H
    have H := H1
    clear H1
    obtain rfl := Option.some.inj H
    go_enter Tryd.func61, Tryd.ntmps61
    go_wp2
    go_ret
    exact ⟨by first | rfl | (simp; done) | (simp [*]; done), by repeat (first | exact Drawn0.refl _ | apply Drawn0.step)⟩
  · replace c2 := Bool.eq_false_iff.mpr c2
    subst c2
    have H1 : (some 0) = some r := by rw [if_neg (show ¬ (false = true) by decide)] at H; exact H
    clear H
    have H := H1
    clear H1
    obtain rfl := Option.some.inj H
    go_enter Tryd.func61, Tryd.ntmps61
    go_wp2
    go_ret
    exact ⟨by first | rfl | (simp; done) | (simp [*]; done), by repeat (first | exact Drawn0.refl _ | apply Drawn0.step)⟩

/-! ### word_one: function 43 -/
def word_one.f (k : Nat) (a0 : Int) (a1 : Int) : Option (Int) := if a0 = 3 then (if a1 ≥ 0 then (some a1) else (some (wrap64 (-a1)))) else (if a0 = 1 then (some (wrap64 (-a1))) else (if a0 = 2 then (some (Go.bits .xor .i64 (-1) a1)) else (if a0 = 4 then ((bits_OnesCount64.f (IntKind.u64.wrap (a1))).bind fun t102 => (some t102)) else (if a0 = 5 then ((bits_LeadingZeros64.f k (IntKind.u64.wrap (a1))).bind fun t103 => (some t103)) else (if a0 = 6 then ((bits_TrailingZeros64.f (IntKind.u64.wrap (a1))).bind fun t107 => (some t107)) else (if a0 = 7 then ((word_flip.f k a1).bind fun t104 => (some t104)) else (if a0 = 8 then ((word_yes.f (a1 != 0)).bind fun t105 => (some t105)) else (if a0 = 9 then ((word_yes.f (a1 == 0)).bind fun t106 => (some t106)) else (if a0 = 10 then (some (wrap64 (IntKind.i8.wrap (a1)))) else (if a0 = 11 then (some (wrap64 (IntKind.i16.wrap (a1)))) else (if a0 = 12 then (some (wrap64 (wrap32 (a1)))) else (if a0 = 13 then (some ((a1) % 256)) else (if a0 = 14 then (some (wrap64 (IntKind.u16.wrap (a1)))) else (some ((a1) % 4294967296)))))))))))))))
theorem word_one.mono : ∀ a0 a1 k, LeO (word_one.f k a0 a1) (word_one.f (k + 1) a0 a1) := by
  intro a0 a1 k
  unfold word_one.f
  repeat' first
      | (with_reducible exact bits_LeadingZeros64.mono _ _)
      | (with_reducible exact word_flip.mono _ _)
      | (with_reducible exact LeO.refl _)
      | (with_reducible exact LeO.none _)
      | (with_reducible refine LeO.ite ?_ ?_)
      | (with_reducible refine LeO.bind ?_ (fun _ => ?_))
      | exact bits_LeadingZeros64.mono _ _
      | exact word_flip.mono _ _
      | exact LeO.none _
      | refine LeO.ite ?_ ?_
      | refine LeO.bind ?_ (fun _ => ?_)
set_option maxHeartbeats 8000000 in
set_option maxRecDepth 100000 in
theorem word_one.calls_0 (k : Nat) (a0 : Int) (a1 : Int) (r : Int) (w : World) [Tab.TabOK w] (h : word_one.f k a0 a1 = some r) (c3 : a0 = 3) (c4 : a1 ≥ 0) :
    Calls Tryd.prog 43 #[.int .i64 a0, .int .i64 a1] w fun e w' => e = .returned (.int .i64 r) ∧ Drawn0 w w' := by
  have H : (if a0 = 3 then (if a1 ≥ 0 then (some a1) else (some (wrap64 (-a1)))) else (if a0 = 1 then (some (wrap64 (-a1))) else (if a0 = 2 then (some (Go.bits .xor .i64 (-1) a1)) else (if a0 = 4 then ((bits_OnesCount64.f (IntKind.u64.wrap (a1))).bind fun t102 => (some t102)) else (if a0 = 5 then ((bits_LeadingZeros64.f k (IntKind.u64.wrap (a1))).bind fun t103 => (some t103)) else (if a0 = 6 then ((bits_TrailingZeros64.f (IntKind.u64.wrap (a1))).bind fun t107 => (some t107)) else (if a0 = 7 then ((word_flip.f k a1).bind fun t104 => (some t104)) else (if a0 = 8 then ((word_yes.f (a1 != 0)).bind fun t105 => (some t105)) else (if a0 = 9 then ((word_yes.f (a1 == 0)).bind fun t106 => (some t106)) else (if a0 = 10 then (some (wrap64 (IntKind.i8.wrap (a1)))) else (if a0 = 11 then (some (wrap64 (IntKind.i16.wrap (a1)))) else (if a0 = 12 then (some (wrap64 (wrap32 (a1)))) else (if a0 = 13 then (some ((a1) % 256)) else (if a0 = 14 then (some (wrap64 (IntKind.u16.wrap (a1)))) else (some ((a1) % 4294967296)))))))))))))))) = some r := h
  clear h
  rw [if_pos c3] at H
  have c3b0 : (a0 == 3) = true := beq_iff_eq.mpr c3
  have c3b1 : (a0 != 3) = false := bne_eq_false_iff_eq.mpr c3
  clear c3
  rw [if_pos c4] at H
  have c4b0 : decide (0 ≤ a1) = true := decide_eq_true c4
  clear c4
  obtain rfl := Option.some.inj H
  go_enter Tryd.func43, Tryd.ntmps43
  go_wp2
  go_ret
  exact ⟨by first | rfl | (simp; done) | (simp [*]; done), by repeat (first | exact Drawn0.refl _ | apply Drawn0.step)⟩
set_option maxHeartbeats 8000000 in
set_option maxRecDepth 100000 in
theorem word_one.calls_1 (k : Nat) (a0 : Int) (a1 : Int) (r : Int) (w : World) [Tab.TabOK w] (h : word_one.f k a0 a1 = some r) (c3 : a0 = 3) (c4 : ¬ (a1 ≥ 0)) :
    Calls Tryd.prog 43 #[.int .i64 a0, .int .i64 a1] w fun e w' => e = .returned (.int .i64 r) ∧ Drawn0 w w' := by
  have H : (if a0 = 3 then (if a1 ≥ 0 then (some a1) else (some (wrap64 (-a1)))) else (if a0 = 1 then (some (wrap64 (-a1))) else (if a0 = 2 then (some (Go.bits .xor .i64 (-1) a1)) else (if a0 = 4 then ((bits_OnesCount64.f (IntKind.u64.wrap (a1))).bind fun t102 => (some t102)) else (if a0 = 5 then ((bits_LeadingZeros64.f k (IntKind.u64.wrap (a1))).bind fun t103 => (some t103)) else (if a0 = 6 then ((bits_TrailingZeros64.f (IntKind.u64.wrap (a1))).bind fun t107 => (some t107)) else (if a0 = 7 then ((word_flip.f k a1).bind fun t104 => (some t104)) else (if a0 = 8 then ((word_yes.f (a1 != 0)).bind fun t105 => (some t105)) else (if a0 = 9 then ((word_yes.f (a1 == 0)).bind fun t106 => (some t106)) else (if a0 = 10 then (some (wrap64 (IntKind.i8.wrap (a1)))) else (if a0 = 11 then (some (wrap64 (IntKind.i16.wrap (a1)))) else (if a0 = 12 then (some (wrap64 (wrap32 (a1)))) else (if a0 = 13 then (some ((a1) % 256)) else (if a0 = 14 then (some (wrap64 (IntKind.u16.wrap (a1)))) else (some ((a1) % 4294967296)))))))))))))))) = some r := h
  clear h
  rw [if_pos c3] at H
  have c3b0 : (a0 == 3) = true := beq_iff_eq.mpr c3
  have c3b1 : (a0 != 3) = false := bne_eq_false_iff_eq.mpr c3
  clear c3
  rw [if_neg c4] at H
  have c4b0 : decide (0 ≤ a1) = false := decide_eq_false c4
  clear c4
  obtain rfl := Option.some.inj H
  go_enter Tryd.func43, Tryd.ntmps43
  go_wp2
  go_ret
  exact ⟨by first | rfl | (simp; done) | (simp [*]; done), by repeat (first | exact Drawn0.refl _ | apply Drawn0.step)⟩
set_option maxHeartbeats 8000000 in
set_option maxRecDepth 100000 in
theorem word_one.calls_2 (k : Nat) (a0 : Int) (a1 : Int) (r : Int) (w : World) [Tab.TabOK w] (h : word_one.f k a0 a1 = some r) (c3 : ¬ (a0 = 3)) (c5 : a0 = 1) :
    Calls Tryd.prog 43 #[.int .i64 a0, .int .i64 a1] w fun e w' => e = .returned (.int .i64 r) ∧ Drawn0 w w' := by
  have H : (if a0 = 3 then (if a1 ≥ 0 then (some a1) else (some (wrap64 (-a1)))) else (if a0 = 1 then (some (wrap64 (-a1))) else (if a0 = 2 then (some (Go.bits .xor .i64 (-1) a1)) else (if a0 = 4 then ((bits_OnesCount64.f (IntKind.u64.wrap (a1))).bind fun t102 => (some t102)) else (if a0 = 5 then ((bits_LeadingZeros64.f k (IntKind.u64.wrap (a1))).bind fun t103 => (some t103)) else (if a0 = 6 then ((bits_TrailingZeros64.f (IntKind.u64.wrap (a1))).bind fun t107 => (some t107)) else (if a0 = 7 then ((word_flip.f k a1).bind fun t104 => (some t104)) else (if a0 = 8 then ((word_yes.f (a1 != 0)).bind fun t105 => (some t105)) else (if a0 = 9 then ((word_yes.f (a1 == 0)).bind fun t106 => (some t106)) else (if a0 = 10 then (some (wrap64 (IntKind.i8.wrap (a1)))) else (if a0 = 11 then (some (wrap64 (IntKind.i16.wrap (a1)))) else (if a0 = 12 then (some (wrap64 (wrap32 (a1)))) else (if a0 = 13 then (some ((a1) % 256)) else (if a0 = 14 then (some (wrap64 (IntKind.u16.wrap (a1)))) else (some ((a1) % 4294967296)))))))))))))))) = some r := h
  clear h
  rw [if_neg c3] at H
  have c3b0 : (a0 == 3) = false := beq_eq_false_iff_ne.mpr c3
  have c3b1 : (a0 != 3) = true := bne_iff_ne.mpr c3
  rw [if_pos c5] at H
  have c5b0 : (a0 == 1) = true := beq_iff_eq.mpr c5
  have c5b1 : (a0 != 1) = false := bne_eq_false_iff_eq.mpr c5
  clear c5
  obtain rfl := Option.some.inj H
  go_enter Tryd.func43, Tryd.ntmps43
  go_wp2
  go_ret
  exact ⟨by first | rfl | (simp; done) | (simp [*]; done), by repeat (first | exact Drawn0.refl _ | apply Drawn0.step)⟩
set_option maxHeartbeats 8000000 in
set_option maxRecDepth 100000 in
theorem word_one.calls_3 (k : Nat) (a0 : Int) (a1 : Int) (r : Int) (w : World) [Tab.TabOK w] (h : word_one.f k a0 a1 = some r) (c3 : ¬ (a0 = 3)) (c5 : ¬ (a0 = 1)) (c6 : a0 = 2) :
    Calls Tryd.prog 43 #[.int .i64 a0, .int .i64 a1] w fun e w' => e = .returned (.int .i64 r) ∧ Drawn0 w w' := by
  have H : (if a0 = 3 then (if a1 ≥ 0 then (some a1) else (some (wrap64 (-a1)))) else (if a0 = 1 then (some (wrap64 (-a1))) else (if a0 = 2 then (some (Go.bits .xor .i64 (-1) a1)) else (if a0 = 4 then ((bits_OnesCount64.f (IntKind.u64.wrap (a1))).bind fun t102 => (some t102)) else (if a0 = 5 then ((bits_LeadingZeros64.f k (IntKind.u64.wrap (a1))).bind fun t103 => (some t103)) else (if a0 = 6 then ((bits_TrailingZeros64.f (IntKind.u64.wrap (a1))).bind fun t107 => (some t107)) else (if a0 = 7 then ((word_flip.f k a1).bind fun t104 => (some t104)) else (if a0 = 8 then ((word_yes.f (a1 != 0)).bind fun t105 => (some t105)) else (if a0 = 9 then ((word_yes.f (a1 == 0)).bind fun t106 => (some t106)) else (if a0 = 10 then (some (wrap64 (IntKind.i8.wrap (a1)))) else (if a0 = 11 then (some (wrap64 (IntKind.i16.wrap (a1)))) else (if a0 = 12 then (some (wrap64 (wrap32 (a1)))) else (if a0 = 13 then (some ((a1) % 256)) else (if a0 = 14 then (some (wrap64 (IntKind.u16.wrap (a1)))) else (some ((a1) % 4294967296)))))))))))))))) = some r := h
  clear h
  rw [if_neg c3] at H
  have c3b0 : (a0 == 3) = false := beq_eq_false_iff_ne.mpr c3
  have c3b1 : (a0 != 3) = true := bne_iff_ne.mpr c3
  rw [if_neg c5] at H
  have c5b0 : (a0 == 1) = false := beq_eq_false_iff_ne.mpr c5
  have c5b1 : (a0 != 1) = true := bne_iff_ne.mpr c5
  rw [if_pos c6] at H
  have c6b0 : (a0 == 2) = true := beq_iff_eq.mpr c6
  have c6b1 : (a0 != 2) = false := bne_eq_false_iff_eq.mpr c6
  clear c6
  obtain rfl := Option.some.inj H
  go_enter Tryd.func43, Tryd.ntmps43
  go_wp2
  go_ret
  exact ⟨by first | rfl | (simp; done) | (simp [*]; done), by repeat (first | exact Drawn0.refl _ | apply Drawn0.step)⟩
set_option maxHeartbeats 8000000 in
set_option maxRecDepth 100000 in
theorem word_one.calls_4 (k : Nat) (a0 : Int) (a1 : Int) (r : Int) (w : World) [Tab.TabOK w] (h : word_one.f k a0 a1 = some r) (c3 : ¬ (a0 = 3)) (c5 : ¬ (a0 = 1)) (c6 : ¬ (a0 = 2)) (c7 : a0 = 4) :
    Calls Tryd.prog 43 #[.int .i64 a0, .int .i64 a1] w fun e w' => e = .returned (.int .i64 r) ∧ Drawn0 w w' := by
  have H : (if a0 = 3 then (if a1 ≥ 0 then (some a1) else (some (wrap64 (-a1)))) else (if a0 = 1 then (some (wrap64 (-a1))) else (if a0 = 2 then (some (Go.bits .xor .i64 (-1) a1)) else (if a0 = 4 then ((bits_OnesCount64.f (IntKind.u64.wrap (a1))).bind fun t102 => (some t102)) else (if a0 = 5 then ((bits_LeadingZeros64.f k (IntKind.u64.wrap (a1))).bind fun t103 => (some t103)) else (if a0 = 6 then ((bits_TrailingZeros64.f (IntKind.u64.wrap (a1))).bind fun t107 => (some t107)) else (if a0 = 7 then ((word_flip.f k a1).bind fun t104 => (some t104)) else (if a0 = 8 then ((word_yes.f (a1 != 0)).bind fun t105 => (some t105)) else (if a0 = 9 then ((word_yes.f (a1 == 0)).bind fun t106 => (some t106)) else (if a0 = 10 then (some (wrap64 (IntKind.i8.wrap (a1)))) else (if a0 = 11 then (some (wrap64 (IntKind.i16.wrap (a1)))) else (if a0 = 12 then (some (wrap64 (wrap32 (a1)))) else (if a0 = 13 then (some ((a1) % 256)) else (if a0 = 14 then (some (wrap64 (IntKind.u16.wrap (a1)))) else (some ((a1) % 4294967296)))))))))))))))) = some r := h
  clear h
  rw [if_neg c3] at H
  have c3b0 : (a0 == 3) = false := beq_eq_false_iff_ne.mpr c3
  have c3b1 : (a0 != 3) = true := bne_iff_ne.mpr c3
  rw [if_neg c5] at H
  have c5b0 : (a0 == 1) = false := beq_eq_false_iff_ne.mpr c5
  have c5b1 : (a0 != 1) = true := bne_iff_ne.mpr c5
  rw [if_neg c6] at H
  have c6b0 : (a0 == 2) = false := beq_eq_false_iff_ne.mpr c6
  have c6b1 : (a0 != 2) = true := bne_iff_ne.mpr c6
  rw [if_pos c7] at H
  have c7b0 : (a0 == 4) = true := beq_iff_eq.mpr c7
  have c7b1 : (a0 != 4) = false := bne_eq_false_iff_eq.mpr c7
  clear c7
  replace H := Option.bind_eq_some_iff.mp H
  obtain ⟨t102, A80, H⟩ := H
  replace H : (some t102) = some r := H
  have A8 := Aside0.mk A80
  clear A80
  obtain rfl := Option.some.inj H
  go_enter Tryd.func43, Tryd.ntmps43
  go_wp2_with (first | ((with_reducible refine gate_callee (f := 57) rfl ?_); refine goesL_ (some 43) rfl rfl Tryd.func57 (by kernel_rfl) rfl #[.int .u64 (IntKind.u64.wrap (a1))] rfl (by (try simp only [List.map_toArray, List.map_cons, List.map_nil]); first | done | rfl | (simp only [List.length_drop, List.length_take]; rfl)) ?_; (with_reducible refine (bits_OnesCount64.calls (IntKind.u64.wrap (a1)) t102 _ A8.out).mono ?_); rintro e w' ⟨rfl, ⟨nd, rfl⟩⟩; refine ⟨_, rfl, ?_⟩))
  go_ret
  exact ⟨by first | rfl | (simp; done) | (simp [*]; done), by repeat (first | exact Drawn0.refl _ | apply Drawn0.step)⟩
set_option maxHeartbeats 8000000 in
set_option maxRecDepth 100000 in
theorem word_one.calls_5 (k : Nat) (a0 : Int) (a1 : Int) (r : Int) (w : World) [Tab.TabOK w] (h : word_one.f k a0 a1 = some r) (c3 : ¬ (a0 = 3)) (c5 : ¬ (a0 = 1)) (c6 : ¬ (a0 = 2)) (c7 : ¬ (a0 = 4)) (c9 : a0 = 5) :
    Calls Tryd.prog 43 #[.int .i64 a0, .int .i64 a1] w fun e w' => e = .returned (.int .i64 r) ∧ Drawn0 w w' := by
  have H : (if a0 = 3 then (if a1 ≥ 0 then (some a1) else (some (wrap64 (-a1)))) else (if a0 = 1 then (some (wrap64 (-a1))) else (if a0 = 2 then (some (Go.bits .xor .i64 (-1) a1)) else (if a0 = 4 then ((bits_OnesCount64.f (IntKind.u64.wrap (a1))).bind fun t102 => (some t102)) else (if a0 = 5 then ((bits_LeadingZeros64.f k (IntKind.u64.wrap (a1))).bind fun t103 => (some t103)) else (if a0 = 6 then ((bits_TrailingZeros64.f (IntKind.u64.wrap (a1))).bind fun t107 => (some t107)) else (if a0 = 7 then ((word_flip.f k a1).bind fun t104 => (some t104)) else (if a0 = 8 then ((word_yes.f (a1 != 0)).bind fun t105 => (some t105)) else (if a0 = 9 then ((word_yes.f (a1 == 0)).bind fun t106 => (some t106)) else (if a0 = 10 then (some (wrap64 (IntKind.i8.wrap (a1)))) else (if a0 = 11 then (some (wrap64 (IntKind.i16.wrap (a1)))) else (if a0 = 12 then (some (wrap64 (wrap32 (a1)))) else (if a0 = 13 then (some ((a1) % 256)) else (if a0 = 14 then (some (wrap64 (IntKind.u16.wrap (a1)))) else (some ((a1) % 4294967296)))))))))))))))) = some r := h
  clear h
  rw [if_neg c3] at H
  have c3b0 : (a0 == 3) = false := beq_eq_false_iff_ne.mpr c3
  have c3b1 : (a0 != 3) = true := bne_iff_ne.mpr c3
  rw [if_neg c5] at H
  have c5b0 : (a0 == 1) = false := beq_eq_false_iff_ne.mpr c5
  have c5b1 : (a0 != 1) = true := bne_iff_ne.mpr c5
  rw [if_neg c6] at H
  have c6b0 : (a0 == 2) = false := beq_eq_false_iff_ne.mpr c6
  have c6b1 : (a0 != 2) = true := bne_iff_ne.mpr c6
  rw [if_neg c7] at H
  have c7b0 : (a0 == 4) = false := beq_eq_false_iff_ne.mpr c7
  have c7b1 : (a0 != 4) = true := bne_iff_ne.mpr c7
  rw [if_pos c9] at H
  have c9b0 : (a0 == 5) = true := beq_iff_eq.mpr c9
  have c9b1 : (a0 != 5) = false := bne_eq_false_iff_eq.mpr c9
  clear c9
  replace H := Option.bind_eq_some_iff.mp H
  obtain ⟨t103, A100, H⟩ := H
  replace H : (some t103) = some r := H
  have A10 := Aside0.mk A100
  clear A100
  obtain rfl := Option.some.inj H
  go_enter Tryd.func43, Tryd.ntmps43
  go_wp2_with (first | ((with_reducible refine gate_callee (f := 58) rfl ?_); refine goesL_ (some 46) rfl rfl Tryd.func58 (by kernel_rfl) rfl #[.int .u64 (IntKind.u64.wrap (a1))] rfl (by (try simp only [List.map_toArray, List.map_cons, List.map_nil]); first | done | rfl | (simp only [List.length_drop, List.length_take]; rfl)) ?_; (with_reducible refine (bits_LeadingZeros64.calls k (IntKind.u64.wrap (a1)) t103 _ A10.out).mono ?_); rintro e w' ⟨rfl, ⟨nd, rfl⟩⟩; refine ⟨_, rfl, ?_⟩))
  go_ret
  exact ⟨by first | rfl | (simp; done) | (simp [*]; done), by repeat (first | exact Drawn0.refl _ | apply Drawn0.step)⟩
set_option maxHeartbeats 8000000 in
set_option maxRecDepth 100000 in
theorem word_one.calls_6 (k : Nat) (a0 : Int) (a1 : Int) (r : Int) (w : World) [Tab.TabOK w] (h : word_one.f k a0 a1 = some r) (c3 : ¬ (a0 = 3)) (c5 : ¬ (a0 = 1)) (c6 : ¬ (a0 = 2)) (c7 : ¬ (a0 = 4)) (c9 : ¬ (a0 = 5)) (c11 : a0 = 6) :
    Calls Tryd.prog 43 #[.int .i64 a0, .int .i64 a1] w fun e w' => e = .returned (.int .i64 r) ∧ Drawn0 w w' := by
  have H : (if a0 = 3 then (if a1 ≥ 0 then (some a1) else (some (wrap64 (-a1)))) else (if a0 = 1 then (some (wrap64 (-a1))) else (if a0 = 2 then (some (Go.bits .xor .i64 (-1) a1)) else (if a0 = 4 then ((bits_OnesCount64.f (IntKind.u64.wrap (a1))).bind fun t102 => (some t102)) else (if a0 = 5 then ((bits_LeadingZeros64.f k (IntKind.u64.wrap (a1))).bind fun t103 => (some t103)) else (if a0 = 6 then ((bits_TrailingZeros64.f (IntKind.u64.wrap (a1))).bind fun t107 => (some t107)) else (if a0 = 7 then ((word_flip.f k a1).bind fun t104 => (some t104)) else (if a0 = 8 then ((word_yes.f (a1 != 0)).bind fun t105 => (some t105)) else (if a0 = 9 then ((word_yes.f (a1 == 0)).bind fun t106 => (some t106)) else (if a0 = 10 then (some (wrap64 (IntKind.i8.wrap (a1)))) else (if a0 = 11 then (some (wrap64 (IntKind.i16.wrap (a1)))) else (if a0 = 12 then (some (wrap64 (wrap32 (a1)))) else (if a0 = 13 then (some ((a1) % 256)) else (if a0 = 14 then (some (wrap64 (IntKind.u16.wrap (a1)))) else (some ((a1) % 4294967296)))))))))))))))) = some r := h
  clear h
  rw [if_neg c3] at H
  have c3b0 : (a0 == 3) = false := beq_eq_false_iff_ne.mpr c3
  have c3b1 : (a0 != 3) = true := bne_iff_ne.mpr c3
  rw [if_neg c5] at H
  have c5b0 : (a0 == 1) = false := beq_eq_false_iff_ne.mpr c5
  have c5b1 : (a0 != 1) = true := bne_iff_ne.mpr c5
  rw [if_neg c6] at H
  have c6b0 : (a0 == 2) = false := beq_eq_false_iff_ne.mpr c6
  have c6b1 : (a0 != 2) = true := bne_iff_ne.mpr c6
  rw [if_neg c7] at H
  have c7b0 : (a0 == 4) = false := beq_eq_false_iff_ne.mpr c7
  have c7b1 : (a0 != 4) = true := bne_iff_ne.mpr c7
  rw [if_neg c9] at H
  have c9b0 : (a0 == 5) = false := beq_eq_false_iff_ne.mpr c9
  have c9b1 : (a0 != 5) = true := bne_iff_ne.mpr c9
  rw [if_pos c11] at H
  have c11b0 : (a0 == 6) = true := beq_iff_eq.mpr c11
  have c11b1 : (a0 != 6) = false := bne_eq_false_iff_eq.mpr c11
  clear c11
  replace H := Option.bind_eq_some_iff.mp H
  obtain ⟨t107, A120, H⟩ := H
  replace H : (some t107) = some r := H
  have A12 := Aside0.mk A120
  clear A120
  obtain rfl := Option.some.inj H
  go_enter Tryd.func43, Tryd.ntmps43
  go_wp2_with (first | ((with_reducible refine gate_callee (f := 59) rfl ?_); refine goesL_ (some 49) rfl rfl Tryd.func59 (by kernel_rfl) rfl #[.int .u64 (IntKind.u64.wrap (a1))] rfl (by (try simp only [List.map_toArray, List.map_cons, List.map_nil]); first | done | rfl | (simp only [List.length_drop, List.length_take]; rfl)) ?_; (with_reducible refine (bits_TrailingZeros64.calls (IntKind.u64.wrap (a1)) t107 _ A12.out).mono ?_); rintro e w' ⟨rfl, ⟨nd, rfl⟩⟩; refine ⟨_, rfl, ?_⟩))
  go_ret
  exact ⟨by first | rfl | (simp; done) | (simp [*]; done), by repeat (first | exact Drawn0.refl _ | apply Drawn0.step)⟩
set_option maxHeartbeats 8000000 in
set_option maxRecDepth 100000 in
theorem word_one.calls_7 (k : Nat) (a0 : Int) (a1 : Int) (r : Int) (w : World) [Tab.TabOK w] (h : word_one.f k a0 a1 = some r) (c3 : ¬ (a0 = 3)) (c5 : ¬ (a0 = 1)) (c6 : ¬ (a0 = 2)) (c7 : ¬ (a0 = 4)) (c9 : ¬ (a0 = 5)) (c11 : ¬ (a0 = 6)) (c13 : a0 = 7) :
    Calls Tryd.prog 43 #[.int .i64 a0, .int .i64 a1] w fun e w' => e = .returned (.int .i64 r) ∧ Drawn0 w w' := by
  have H : (if a0 = 3 then (if a1 ≥ 0 then (some a1) else (some (wrap64 (-a1)))) else (if a0 = 1 then (some (wrap64 (-a1))) else (if a0 = 2 then (some (Go.bits .xor .i64 (-1) a1)) else (if a0 = 4 then ((bits_OnesCount64.f (IntKind.u64.wrap (a1))).bind fun t102 => (some t102)) else (if a0 = 5 then ((bits_LeadingZeros64.f k (IntKind.u64.wrap (a1))).bind fun t103 => (some t103)) else (if a0 = 6 then ((bits_TrailingZeros64.f (IntKind.u64.wrap (a1))).bind fun t107 => (some t107)) else (if a0 = 7 then ((word_flip.f k a1).bind fun t104 => (some t104)) else (if a0 = 8 then ((word_yes.f (a1 != 0)).bind fun t105 => (some t105)) else (if a0 = 9 then ((word_yes.f (a1 == 0)).bind fun t106 => (some t106)) else (if a0 = 10 then (some (wrap64 (IntKind.i8.wrap (a1)))) else (if a0 = 11 then (some (wrap64 (IntKind.i16.wrap (a1)))) else (if a0 = 12 then (some (wrap64 (wrap32 (a1)))) else (if a0 = 13 then (some ((a1) % 256)) else (if a0 = 14 then (some (wrap64 (IntKind.u16.wrap (a1)))) else (some ((a1) % 4294967296)))))))))))))))) = some r := h
  clear h
  rw [if_neg c3] at H
  have c3b0 : (a0 == 3) = false := beq_eq_false_iff_ne.mpr c3
  have c3b1 : (a0 != 3) = true := bne_iff_ne.mpr c3
  rw [if_neg c5] at H
  have c5b0 : (a0 == 1) = false := beq_eq_false_iff_ne.mpr c5
  have c5b1 : (a0 != 1) = true := bne_iff_ne.mpr c5
  rw [if_neg c6] at H
  have c6b0 : (a0 == 2) = false := beq_eq_false_iff_ne.mpr c6
  have c6b1 : (a0 != 2) = true := bne_iff_ne.mpr c6
  rw [if_neg c7] at H
  have c7b0 : (a0 == 4) = false := beq_eq_false_iff_ne.mpr c7
  have c7b1 : (a0 != 4) = true := bne_iff_ne.mpr c7
  rw [if_neg c9] at H
  have c9b0 : (a0 == 5) = false := beq_eq_false_iff_ne.mpr c9
  have c9b1 : (a0 != 5) = true := bne_iff_ne.mpr c9
  rw [if_neg c11] at H
  have c11b0 : (a0 == 6) = false := beq_eq_false_iff_ne.mpr c11
  have c11b1 : (a0 != 6) = true := bne_iff_ne.mpr c11
  rw [if_pos c13] at H
  have c13b0 : (a0 == 7) = true := beq_iff_eq.mpr c13
  have c13b1 : (a0 != 7) = false := bne_eq_false_iff_eq.mpr c13
  clear c13
  replace H := Option.bind_eq_some_iff.mp H
  obtain ⟨t104, A140, H⟩ := H
  replace H : (some t104) = some r := H
  have A14 := Aside0.mk A140
  clear A140
  obtain rfl := Option.some.inj H
  go_enter Tryd.func43, Tryd.ntmps43
  go_wp2_with (first | ((with_reducible refine gate_callee (f := 60) rfl ?_); refine goesL_ (some 51) rfl rfl Tryd.func60 (by kernel_rfl) rfl #[.int .i64 a1] rfl (by (try simp only [List.map_toArray, List.map_cons, List.map_nil]); first | done | rfl | (simp only [List.length_drop, List.length_take]; rfl)) ?_; (with_reducible refine (word_flip.calls k a1 t104 _ A14.out).mono ?_); rintro e w' ⟨rfl, ⟨nd, rfl⟩⟩; refine ⟨_, rfl, ?_⟩))
  go_ret
  exact ⟨by first | rfl | (simp; done) | (simp [*]; done), by repeat (first | exact Drawn0.refl _ | apply Drawn0.step)⟩
set_option maxHeartbeats 8000000 in
set_option maxRecDepth 100000 in
theorem word_one.calls_8 (k : Nat) (a0 : Int) (a1 : Int) (r : Int) (w : World) [Tab.TabOK w] (h : word_one.f k a0 a1 = some r) (c3 : ¬ (a0 = 3)) (c5 : ¬ (a0 = 1)) (c6 : ¬ (a0 = 2)) (c7 : ¬ (a0 = 4)) (c9 : ¬ (a0 = 5)) (c11 : ¬ (a0 = 6)) (c13 : ¬ (a0 = 7)) (c15 : a0 = 8) :
    Calls Tryd.prog 43 #[.int .i64 a0, .int .i64 a1] w fun e w' => e = .returned (.int .i64 r) ∧ Drawn0 w w' := by
  have H : (if a0 = 3 then (if a1 ≥ 0 then (some a1) else (some (wrap64 (-a1)))) else (if a0 = 1 then (some (wrap64 (-a1))) else (if a0 = 2 then (some (Go.bits .xor .i64 (-1) a1)) else (if a0 = 4 then ((bits_OnesCount64.f (IntKind.u64.wrap (a1))).bind fun t102 => (some t102)) else (if a0 = 5 then ((bits_LeadingZeros64.f k (IntKind.u64.wrap (a1))).bind fun t103 => (some t103)) else (if a0 = 6 then ((bits_TrailingZeros64.f (IntKind.u64.wrap (a1))).bind fun t107 => (some t107)) else (if a0 = 7 then ((word_flip.f k a1).bind fun t104 => (some t104)) else (if a0 = 8 then ((word_yes.f (a1 != 0)).bind fun t105 => (some t105)) else (if a0 = 9 then ((word_yes.f (a1 == 0)).bind fun t106 => (some t106)) else (if a0 = 10 then (some (wrap64 (IntKind.i8.wrap (a1)))) else (if a0 = 11 then (some (wrap64 (IntKind.i16.wrap (a1)))) else (if a0 = 12 then (some (wrap64 (wrap32 (a1)))) else (if a0 = 13 then (some ((a1) % 256)) else (if a0 = 14 then (some (wrap64 (IntKind.u16.wrap (a1)))) else (some ((a1) % 4294967296)))))))))))))))) = some r := h
  clear h
  rw [if_neg c3] at H
  have c3b0 : (a0 == 3) = false := beq_eq_false_iff_ne.mpr c3
  have c3b1 : (a0 != 3) = true := bne_iff_ne.mpr c3
  rw [if_neg c5] at H
  have c5b0 : (a0 == 1) = false := beq_eq_false_iff_ne.mpr c5
  have c5b1 : (a0 != 1) = true := bne_iff_ne.mpr c5
  rw [if_neg c6] at H
  have c6b0 : (a0 == 2) = false := beq_eq_false_iff_ne.mpr c6
  have c6b1 : (a0 != 2) = true := bne_iff_ne.mpr c6
  rw [if_neg c7] at H
  have c7b0 : (a0 == 4) = false := beq_eq_false_iff_ne.mpr c7
  have c7b1 : (a0 != 4) = true := bne_iff_ne.mpr c7
  rw [if_neg c9] at H
  have c9b0 : (a0 == 5) = false := beq_eq_false_iff_ne.mpr c9
  have c9b1 : (a0 != 5) = true := bne_iff_ne.mpr c9
  rw [if_neg c11] at H
  have c11b0 : (a0 == 6) = false := beq_eq_false_iff_ne.mpr c11
  have c11b1 : (a0 != 6) = true := bne_iff_ne.mpr c11
  rw [if_neg c13] at H
  have c13b0 : (a0 == 7) = false := beq_eq_false_iff_ne.mpr c13
  have c13b1 : (a0 != 7) = true := bne_iff_ne.mpr c13
  rw [if_pos c15] at H
  have c15b0 : (a0 == 8) = true := beq_iff_eq.mpr c15
  have c15b1 : (a0 != 8) = false := bne_eq_false_iff_eq.mpr c15
  clear c15
  replace H := Option.bind_eq_some_iff.mp H
  obtain ⟨t105, A160, H⟩ := H
  replace H : (some t105) = some r := H
  have A16 := Aside0.mk A160
  clear A160
  obtain rfl := Option.some.inj H
  go_enter Tryd.func43, Tryd.ntmps43
  go_wp2_with (first | ((with_reducible refine gate_callee (f := 61) rfl ?_); refine goesL_ (some 54) rfl rfl Tryd.func61 (by kernel_rfl) rfl #[.bool (a1 != 0)] rfl (by (try simp only [List.map_toArray, List.map_cons, List.map_nil]); first | done | rfl | (simp only [List.length_drop, List.length_take]; rfl)) ?_; (with_reducible refine (word_yes.calls (a1 != 0) t105 _ A16.out).mono ?_); rintro e w' ⟨rfl, ⟨nd, rfl⟩⟩; refine ⟨_, rfl, ?_⟩))
  go_ret
  exact ⟨by first | rfl | (simp; done) | (simp [*]; done), by repeat (first | exact Drawn0.refl _ | apply Drawn0.step)⟩
set_option maxHeartbeats 8000000 in
set_option maxRecDepth 100000 in
theorem word_one.calls_9 (k : Nat) (a0 : Int) (a1 : Int) (r : Int) (w : World) [Tab.TabOK w] (h : word_one.f k a0 a1 = some r) (c3 : ¬ (a0 = 3)) (c5 : ¬ (a0 = 1)) (c6 : ¬ (a0 = 2)) (c7 : ¬ (a0 = 4)) (c9 : ¬ (a0 = 5)) (c11 : ¬ (a0 = 6)) (c13 : ¬ (a0 = 7)) (c15 : ¬ (a0 = 8)) (c17 : a0 = 9) :
    Calls Tryd.prog 43 #[.int .i64 a0, .int .i64 a1] w fun e w' => e = .returned (.int .i64 r) ∧ Drawn0 w w' := by
  have H : (if a0 = 3 then (if a1 ≥ 0 then (some a1) else (some (wrap64 (-a1)))) else (if a0 = 1 then (some (wrap64 (-a1))) else (if a0 = 2 then (some (Go.bits .xor .i64 (-1) a1)) else (if a0 = 4 then ((bits_OnesCount64.f (IntKind.u64.wrap (a1))).bind fun t102 => (some t102)) else (if a0 = 5 then ((bits_LeadingZeros64.f k (IntKind.u64.wrap (a1))).bind fun t103 => (some t103)) else (if a0 = 6 then ((bits_TrailingZeros64.f (IntKind.u64.wrap (a1))).bind fun t107 => (some t107)) else (if a0 = 7 then ((word_flip.f k a1).bind fun t104 => (some t104)) else (if a0 = 8 then ((word_yes.f (a1 != 0)).bind fun t105 => (some t105)) else (if a0 = 9 then ((word_yes.f (a1 == 0)).bind fun t106 => (some t106)) else (if a0 = 10 then (some (wrap64 (IntKind.i8.wrap (a1)))) else (if a0 = 11 then (some (wrap64 (IntKind.i16.wrap (a1)))) else (if a0 = 12 then (some (wrap64 (wrap32 (a1)))) else (if a0 = 13 then (some ((a1) % 256)) else (if a0 = 14 then (some (wrap64 (IntKind.u16.wrap (a1)))) else (some ((a1) % 4294967296)))))))))))))))) = some r := h
  clear h
  rw [if_neg c3] at H
  have c3b0 : (a0 == 3) = false := beq_eq_false_iff_ne.mpr c3
  have c3b1 : (a0 != 3) = true := bne_iff_ne.mpr c3
  rw [if_neg c5] at H
  have c5b0 : (a0 == 1) = false := beq_eq_false_iff_ne.mpr c5
  have c5b1 : (a0 != 1) = true := bne_iff_ne.mpr c5
  rw [if_neg c6] at H
  have c6b0 : (a0 == 2) = false := beq_eq_false_iff_ne.mpr c6
  have c6b1 : (a0 != 2) = true := bne_iff_ne.mpr c6
  rw [if_neg c7] at H
  have c7b0 : (a0 == 4) = false := beq_eq_false_iff_ne.mpr c7
  have c7b1 : (a0 != 4) = true := bne_iff_ne.mpr c7
  rw [if_neg c9] at H
  have c9b0 : (a0 == 5) = false := beq_eq_false_iff_ne.mpr c9
  have c9b1 : (a0 != 5) = true := bne_iff_ne.mpr c9
  rw [if_neg c11] at H
  have c11b0 : (a0 == 6) = false := beq_eq_false_iff_ne.mpr c11
  have c11b1 : (a0 != 6) = true := bne_iff_ne.mpr c11
  rw [if_neg c13] at H
  have c13b0 : (a0 == 7) = false := beq_eq_false_iff_ne.mpr c13
  have c13b1 : (a0 != 7) = true := bne_iff_ne.mpr c13
  rw [if_neg c15] at H
  have c15b0 : (a0 == 8) = false := beq_eq_false_iff_ne.mpr c15
  have c15b1 : (a0 != 8) = true := bne_iff_ne.mpr c15
  rw [if_pos c17] at H
  have c17b0 : (a0 == 9) = true := beq_iff_eq.mpr c17
  have c17b1 : (a0 != 9) = false := bne_eq_false_iff_eq.mpr c17
  clear c17
  replace H := Option.bind_eq_some_iff.mp H
  obtain ⟨t106, A180, H⟩ := H
  replace H : (some t106) = some r := H
  have A18 := Aside0.mk A180
  clear A180
  obtain rfl := Option.some.inj H
  go_enter Tryd.func43, Tryd.ntmps43
  go_wp2_with (first | ((with_reducible refine gate_callee (f := 61) rfl ?_); refine goesL_ (some 57) rfl rfl Tryd.func61 (by kernel_rfl) rfl #[.bool (a1 == 0)] rfl (by (try simp only [List.map_toArray, List.map_cons, List.map_nil]); first | done | rfl | (simp only [List.length_drop, List.length_take]; rfl)) ?_; (with_reducible refine (word_yes.calls (a1 == 0) t106 _ A18.out).mono ?_); rintro e w' ⟨rfl, ⟨nd, rfl⟩⟩; refine ⟨_, rfl, ?_⟩))
  go_ret
  exact ⟨by first | rfl | (simp; done) | (simp [*]; done), by repeat (first | exact Drawn0.refl _ | apply Drawn0.step)⟩
set_option maxHeartbeats 8000000 in
set_option maxRecDepth 100000 in
theorem word_one.calls_10 (k : Nat) (a0 : Int) (a1 : Int) (r : Int) (w : World) [Tab.TabOK w] (h : word_one.f k a0 a1 = some r) (c3 : ¬ (a0 = 3)) (c5 : ¬ (a0 = 1)) (c6 : ¬ (a0 = 2)) (c7 : ¬ (a0 = 4)) (c9 : ¬ (a0 = 5)) (c11 : ¬ (a0 = 6)) (c13 : ¬ (a0 = 7)) (c15 : ¬ (a0 = 8)) (c17 : ¬ (a0 = 9)) (c19 : a0 = 10) :
    Calls Tryd.prog 43 #[.int .i64 a0, .int .i64 a1] w fun e w' => e = .returned (.int .i64 r) ∧ Drawn0 w w' := by
  have H : (if a0 = 3 then (if a1 ≥ 0 then (some a1) else (some (wrap64 (-a1)))) else (if a0 = 1 then (some (wrap64 (-a1))) else (if a0 = 2 then (some (Go.bits .xor .i64 (-1) a1)) else (if a0 = 4 then ((bits_OnesCount64.f (IntKind.u64.wrap (a1))).bind fun t102 => (some t102)) else (if a0 = 5 then ((bits_LeadingZeros64.f k (IntKind.u64.wrap (a1))).bind fun t103 => (some t103)) else (if a0 = 6 then ((bits_TrailingZeros64.f (IntKind.u64.wrap (a1))).bind fun t107 => (some t107)) else (if a0 = 7 then ((word_flip.f k a1).bind fun t104 => (some t104)) else (if a0 = 8 then ((word_yes.f (a1 != 0)).bind fun t105 => (some t105)) else (if a0 = 9 then ((word_yes.f (a1 == 0)).bind fun t106 => (some t106)) else (if a0 = 10 then (some (wrap64 (IntKind.i8.wrap (a1)))) else (if a0 = 11 then (some (wrap64 (IntKind.i16.wrap (a1)))) else (if a0 = 12 then (some (wrap64 (wrap32 (a1)))) else (if a0 = 13 then (some ((a1) % 256)) else (if a0 = 14 then (some (wrap64 (IntKind.u16.wrap (a1)))) else (some ((a1) % 4294967296)))))))))))))))) = some r := h
  clear h
  rw [if_neg c3] at H
  have c3b0 : (a0 == 3) = false := beq_eq_false_iff_ne.mpr c3
  have c3b1 : (a0 != 3) = true := bne_iff_ne.mpr c3
  rw [if_neg c5] at H
  have c5b0 : (a0 == 1) = false := beq_eq_false_iff_ne.mpr c5
  have c5b1 : (a0 != 1) = true := bne_iff_ne.mpr c5
  rw [if_neg c6] at H
  have c6b0 : (a0 == 2) = false := beq_eq_false_iff_ne.mpr c6
  have c6b1 : (a0 != 2) = true := bne_iff_ne.mpr c6
  rw [if_neg c7] at H
  have c7b0 : (a0 == 4) = false := beq_eq_false_iff_ne.mpr c7
  have c7b1 : (a0 != 4) = true := bne_iff_ne.mpr c7
  rw [if_neg c9] at H
  have c9b0 : (a0 == 5) = false := beq_eq_false_iff_ne.mpr c9
  have c9b1 : (a0 != 5) = true := bne_iff_ne.mpr c9
  rw [if_neg c11] at H
  have c11b0 : (a0 == 6) = false := beq_eq_false_iff_ne.mpr c11
  have c11b1 : (a0 != 6) = true := bne_iff_ne.mpr c11
  rw [if_neg c13] at H
  have c13b0 : (a0 == 7) = false := beq_eq_false_iff_ne.mpr c13
  have c13b1 : (a0 != 7) = true := bne_iff_ne.mpr c13
  rw [if_neg c15] at H
  have c15b0 : (a0 == 8) = false := beq_eq_false_iff_ne.mpr c15
  have c15b1 : (a0 != 8) = true := bne_iff_ne.mpr c15
  rw [if_neg c17] at H
  have c17b0 : (a0 == 9) = false := beq_eq_false_iff_ne.mpr c17
  have c17b1 : (a0 != 9) = true := bne_iff_ne.mpr c17
  rw [if_pos c19] at H
  have c19b0 : (a0 == 10) = true := beq_iff_eq.mpr c19
  have c19b1 : (a0 != 10) = false := bne_eq_false_iff_eq.mpr c19
  clear c19
  obtain rfl := Option.some.inj H
  go_enter Tryd.func43, Tryd.ntmps43
  go_wp2
  go_ret
  exact ⟨by first | rfl | (simp; done) | (simp [*]; done), by repeat (first | exact Drawn0.refl _ | apply Drawn0.step)⟩
set_option maxHeartbeats 8000000 in
set_option maxRecDepth 100000 in
theorem word_one.calls_11 (k : Nat) (a0 : Int) (a1 : Int) (r : Int) (w : World) [Tab.TabOK w] (h : word_one.f k a0 a1 = some r) (c3 : ¬ (a0 = 3)) (c5 : ¬ (a0 = 1)) (c6 : ¬ (a0 = 2)) (c7 : ¬ (a0 = 4)) (c9 : ¬ (a0 = 5)) (c11 : ¬ (a0 = 6)) (c13 : ¬ (a0 = 7)) (c15 : ¬ (a0 = 8)) (c17 : ¬ (a0 = 9)) (c19 : ¬ (a0 = 10)) (c20 : a0 = 11) :
    Calls Tryd.prog 43 #[.int .i64 a0, .int .i64 a1] w fun e w' => e = .returned (.int .i64 r) ∧ Drawn0 w w' := by
  have H : (if a0 = 3 then (if a1 ≥ 0 then (some a1) else (some (wrap64 (-a1)))) else (if a0 = 1 then (some (wrap64 (-a1))) else (if a0 = 2 then (some (Go.bits .xor .i64 (-1) a1)) else (if a0 = 4 then ((bits_OnesCount64.f (IntKind.u64.wrap (a1))).bind fun t102 => (some t102)) else (if a0 = 5 then ((bits_LeadingZeros64.f k (IntKind.u64.wrap (a1))).bind fun t103 => (some t103)) else (if a0 = 6 then ((bits_TrailingZeros64.f (IntKind.u64.wrap (a1))).bind fun t107 => (some t107)) else (if a0 = 7 then ((word_flip.f k a1).bind fun t104 => (some t104)) else (if a0 = 8 then ((word_yes.f (a1 != 0)).bind fun t105 => (some t105)) else (if a0 = 9 then ((word_yes.f (a1 == 0)).bind fun t106 => (some t106)) else (if a0 = 10 then (some (wrap64 (IntKind.i8.wrap (a1)))) else (if a0 = 11 then (some (wrap64 (IntKind.i16.wrap (a1)))) else (if a0 = 12 then (some (wrap64 (wrap32 (a1)))) else (if a0 = 13 then (some ((a1) % 256)) else (if a0 = 14 then (some (wrap64 (IntKind.u16.wrap (a1)))) else (some ((a1) % 4294967296)))))))))))))))) = some r := h
  clear h
  rw [if_neg c3] at H
  have c3b0 : (a0 == 3) = false := beq_eq_false_iff_ne.mpr c3
  have c3b1 : (a0 != 3) = true := bne_iff_ne.mpr c3
  rw [if_neg c5] at H
  have c5b0 : (a0 == 1) = false := beq_eq_false_iff_ne.mpr c5
  have c5b1 : (a0 != 1) = true := bne_iff_ne.mpr c5
  rw [if_neg c6] at H
  have c6b0 : (a0 == 2) = false := beq_eq_false_iff_ne.mpr c6
  have c6b1 : (a0 != 2) = true := bne_iff_ne.mpr c6
  rw [if_neg c7] at H
  have c7b0 : (a0 == 4) = false := beq_eq_false_iff_ne.mpr c7
  have c7b1 : (a0 != 4) = true := bne_iff_ne.mpr c7
  rw [if_neg c9] at H
  have c9b0 : (a0 == 5) = false := beq_eq_false_iff_ne.mpr c9
  have c9b1 : (a0 != 5) = true := bne_iff_ne.mpr c9
  rw [if_neg c11] at H
  have c11b0 : (a0 == 6) = false := beq_eq_false_iff_ne.mpr c11
  have c11b1 : (a0 != 6) = true := bne_iff_ne.mpr c11
  rw [if_neg c13] at H
  have c13b0 : (a0 == 7) = false := beq_eq_false_iff_ne.mpr c13
  have c13b1 : (a0 != 7) = true := bne_iff_ne.mpr c13
  rw [if_neg c15] at H
  have c15b0 : (a0 == 8) = false := beq_eq_false_iff_ne.mpr c15
  have c15b1 : (a0 != 8) = true := bne_iff_ne.mpr c15
  rw [if_neg c17] at H
  have c17b0 : (a0 == 9) = false := beq_eq_false_iff_ne.mpr c17
  have c17b1 : (a0 != 9) = true := bne_iff_ne.mpr c17
  rw [if_neg c19] at H
  have c19b0 : (a0 == 10) = false := beq_eq_false_iff_ne.mpr c19
  have c19b1 : (a0 != 10) = true := bne_iff_ne.mpr c19
  rw [if_pos c20] at H
  have c20b0 : (a0 == 11) = true := beq_iff_eq.mpr c20
  have c20b1 : (a0 != 11) = false := bne_eq_false_iff_eq.mpr c20
  clear c20
  obtain rfl := Option.some.inj H
  go_enter Tryd.func43, Tryd.ntmps43
  go_wp2
  go_ret
  exact ⟨by first | rfl | (simp; done) | (simp [*]; done), by repeat (first | exact Drawn0.refl _ | apply Drawn0.step)⟩
set_option maxHeartbeats 8000000 in
set_option maxRecDepth 100000 in
theorem word_one.calls_12 (k : Nat) (a0 : Int) (a1 : Int) (r : Int) (w : World) [Tab.TabOK w] (h : word_one.f k a0 a1 = some r) (c3 : ¬ (a0 = 3)) (c5 : ¬ (a0 = 1)) (c6 : ¬ (a0 = 2)) (c7 : ¬ (a0 = 4)) (c9 : ¬ (a0 = 5)) (c11 : ¬ (a0 = 6)) (c13 : ¬ (a0 = 7)) (c15 : ¬ (a0 = 8)) (c17 : ¬ (a0 = 9)) (c19 : ¬ (a0 = 10)) (c20 : ¬ (a0 = 11)) (c21 : a0 = 12) :
    Calls Tryd.prog 43 #[.int .i64 a0, .int .i64 a1] w fun e w' => e = .returned (.int .i64 r) ∧ Drawn0 w w' := by
  have H : (if a0 = 3 then (if a1 ≥ 0 then (some a1) else (some (wrap64 (-a1)))) else (if a0 = 1 then (some (wrap64 (-a1))) else (if a0 = 2 then (some (Go.bits .xor .i64 (-1) a1)) else (if a0 = 4 then ((bits_OnesCount64.f (IntKind.u64.wrap (a1))).bind fun t102 => (some t102)) else (if a0 = 5 then ((bits_LeadingZeros64.f k (IntKind.u64.wrap (a1))).bind fun t103 => (some t103)) else (if a0 = 6 then ((bits_TrailingZeros64.f (IntKind.u64.wrap (a1))).bind fun t107 => (some t107)) else (if a0 = 7 then ((word_flip.f k a1).bind fun t104 => (some t104)) else (if a0 = 8 then ((word_yes.f (a1 != 0)).bind fun t105 => (some t105)) else (if a0 = 9 then ((word_yes.f (a1 == 0)).bind fun t106 => (some t106)) else (if a0 = 10 then (some (wrap64 (IntKind.i8.wrap (a1)))) else (if a0 = 11 then (some (wrap64 (IntKind.i16.wrap (a1)))) else (if a0 = 12 then (some (wrap64 (wrap32 (a1)))) else (if a0 = 13 then (some ((a1) % 256)) else (if a0 = 14 then (some (wrap64 (IntKind.u16.wrap (a1)))) else (some ((a1) % 4294967296)))))))))))))))) = some r := h
  clear h
  rw [if_neg c3] at H
  have c3b0 : (a0 == 3) = false := beq_eq_false_iff_ne.mpr c3
  have c3b1 : (a0 != 3) = true := bne_iff_ne.mpr c3
  rw [if_neg c5] at H
  have c5b0 : (a0 == 1) = false := beq_eq_false_iff_ne.mpr c5
  have c5b1 : (a0 != 1) = true := bne_iff_ne.mpr c5
  rw [if_neg c6] at H
  have c6b0 : (a0 == 2) = false := beq_eq_false_iff_ne.mpr c6
  have c6b1 : (a0 != 2) = true := bne_iff_ne.mpr c6
  rw [if_neg c7] at H
  have c7b0 : (a0 == 4) = false := beq_eq_false_iff_ne.mpr c7
  have c7b1 : (a0 != 4) = true := bne_iff_ne.mpr c7
  rw [if_neg c9] at H
  have c9b0 : (a0 == 5) = false := beq_eq_false_iff_ne.mpr c9
  have c9b1 : (a0 != 5) = true := bne_iff_ne.mpr c9
  rw [if_neg c11] at H
  have c11b0 : (a0 == 6) = false := beq_eq_false_iff_ne.mpr c11
  have c11b1 : (a0 != 6) = true := bne_iff_ne.mpr c11
  rw [if_neg c13] at H
  have c13b0 : (a0 == 7) = false := beq_eq_false_iff_ne.mpr c13
  have c13b1 : (a0 != 7) = true := bne_iff_ne.mpr c13
  rw [if_neg c15] at H
  have c15b0 : (a0 == 8) = false := beq_eq_false_iff_ne.mpr c15
  have c15b1 : (a0 != 8) = true := bne_iff_ne.mpr c15
  rw [if_neg c17] at H
  have c17b0 : (a0 == 9) = false := beq_eq_false_iff_ne.mpr c17
  have c17b1 : (a0 != 9) = true := bne_iff_ne.mpr c17
  rw [if_neg c19] at H
  have c19b0 : (a0 == 10) = false := beq_eq_false_iff_ne.mpr c19
  have c19b1 : (a0 != 10) = true := bne_iff_ne.mpr c19
  rw [if_neg c20] at H
  have c20b0 : (a0 == 11) = false := beq_eq_false_iff_ne.mpr c20
  have c20b1 : (a0 != 11) = true := bne_iff_ne.mpr c20
  rw [if_pos c21] at H
  have c21b0 : (a0 == 12) = true := beq_iff_eq.mpr c21
  have c21b1 : (a0 != 12) = false := bne_eq_false_iff_eq.mpr c21
  clear c21
  obtain rfl := Option.some.inj H
  go_enter Tryd.func43, Tryd.ntmps43
  go_wp2
  go_ret
  exact ⟨by first | rfl | (simp; done) | (simp [*]; done), by repeat (first | exact Drawn0.refl _ | apply Drawn0.step)⟩
set_option maxHeartbeats 8000000 in
set_option maxRecDepth 100000 in
theorem word_one.calls_13 (k : Nat) (a0 : Int) (a1 : Int) (r : Int) (w : World) [Tab.TabOK w] (h : word_one.f k a0 a1 = some r) (c3 : ¬ (a0 = 3)) (c5 : ¬ (a0 = 1)) (c6 : ¬ (a0 = 2)) (c7 : ¬ (a0 = 4)) (c9 : ¬ (a0 = 5)) (c11 : ¬ (a0 = 6)) (c13 : ¬ (a0 = 7)) (c15 : ¬ (a0 = 8)) (c17 : ¬ (a0 = 9)) (c19 : ¬ (a0 = 10)) (c20 : ¬ (a0 = 11)) (c21 : ¬ (a0 = 12)) (c22 : a0 = 13) :
    Calls Tryd.prog 43 #[.int .i64 a0, .int .i64 a1] w fun e w' => e = .returned (.int .i64 r) ∧ Drawn0 w w' := by
  have H : (if a0 = 3 then (if a1 ≥ 0 then (some a1) else (some (wrap64 (-a1)))) else (if a0 = 1 then (some (wrap64 (-a1))) else (if a0 = 2 then (some (Go.bits .xor .i64 (-1) a1)) else (if a0 = 4 then ((bits_OnesCount64.f (IntKind.u64.wrap (a1))).bind fun t102 => (some t102)) else (if a0 = 5 then ((bits_LeadingZeros64.f k (IntKind.u64.wrap (a1))).bind fun t103 => (some t103)) else (if a0 = 6 then ((bits_TrailingZeros64.f (IntKind.u64.wrap (a1))).bind fun t107 => (some t107)) else (if a0 = 7 then ((word_flip.f k a1).bind fun t104 => (some t104)) else (if a0 = 8 then ((word_yes.f (a1 != 0)).bind fun t105 => (some t105)) else (if a0 = 9 then ((word_yes.f (a1 == 0)).bind fun t106 => (some t106)) else (if a0 = 10 then (some (wrap64 (IntKind.i8.wrap (a1)))) else (if a0 = 11 then (some (wrap64 (IntKind.i16.wrap (a1)))) else (if a0 = 12 then (some (wrap64 (wrap32 (a1)))) else (if a0 = 13 then (some ((a1) % 256)) else (if a0 = 14 then (some (wrap64 (IntKind.u16.wrap (a1)))) else (some ((a1) % 4294967296)))))))))))))))) = some r := h
  clear h
  rw [if_neg c3] at H
  have c3b0 : (a0 == 3) = false := beq_eq_false_iff_ne.mpr c3
  have c3b1 : (a0 != 3) = true := bne_iff_ne.mpr c3
  rw [if_neg c5] at H
  have c5b0 : (a0 == 1) = false := beq_eq_false_iff_ne.mpr c5
  have c5b1 : (a0 != 1) = true := bne_iff_ne.mpr c5
  rw [if_neg c6] at H
  have c6b0 : (a0 == 2) = false := beq_eq_false_iff_ne.mpr c6
  have c6b1 : (a0 != 2) = true := bne_iff_ne.mpr c6
  rw [if_neg c7] at H
  have c7b0 : (a0 == 4) = false := beq_eq_false_iff_ne.mpr c7
  have c7b1 : (a0 != 4) = true := bne_iff_ne.mpr c7
  rw [if_neg c9] at H
  have c9b0 : (a0 == 5) = false := beq_eq_false_iff_ne.mpr c9
  have c9b1 : (a0 != 5) = true := bne_iff_ne.mpr c9
  rw [if_neg c11] at H
  have c11b0 : (a0 == 6) = false := beq_eq_false_iff_ne.mpr c11
  have c11b1 : (a0 != 6) = true := bne_iff_ne.mpr c11
  rw [if_neg c13] at H
  have c13b0 : (a0 == 7) = false := beq_eq_false_iff_ne.mpr c13
  have c13b1 : (a0 != 7) = true := bne_iff_ne.mpr c13
  rw [if_neg c15] at H
  have c15b0 : (a0 == 8) = false := beq_eq_false_iff_ne.mpr c15
  have c15b1 : (a0 != 8) = true := bne_iff_ne.mpr c15
  rw [if_neg c17] at H
  have c17b0 : (a0 == 9) = false := beq_eq_false_iff_ne.mpr c17
  have c17b1 : (a0 != 9) = true := bne_iff_ne.mpr c17
  rw [if_neg c19] at H
  have c19b0 : (a0 == 10) = false := beq_eq_false_iff_ne.mpr c19
  have c19b1 : (a0 != 10) = true := bne_iff_ne.mpr c19
  rw [if_neg c20] at H
  have c20b0 : (a0 == 11) = false := beq_eq_false_iff_ne.mpr c20
  have c20b1 : (a0 != 11) = true := bne_iff_ne.mpr c20
  rw [if_neg c21] at H
  have c21b0 : (a0 == 12) = false := beq_eq_false_iff_ne.mpr c21
  have c21b1 : (a0 != 12) = true := bne_iff_ne.mpr c21
  rw [if_pos c22] at H
  have c22b0 : (a0 == 13) = true := beq_iff_eq.mpr c22
  have c22b1 : (a0 != 13) = false := bne_eq_false_iff_eq.mpr c22
  clear c22
  obtain rfl := Option.some.inj H
  go_enter Tryd.func43, Tryd.ntmps43
  go_wp2
  go_ret
  exact ⟨by first | rfl | (simp; done) | (simp [*]; done), by repeat (first | exact Drawn0.refl _ | apply Drawn0.step)⟩
set_option maxHeartbeats 8000000 in
set_option maxRecDepth 100000 in
theorem word_one.calls_14 (k : Nat) (a0 : Int) (a1 : Int) (r : Int) (w : World) [Tab.TabOK w] (h : word_one.f k a0 a1 = some r) (c3 : ¬ (a0 = 3)) (c5 : ¬ (a0 = 1)) (c6 : ¬ (a0 = 2)) (c7 : ¬ (a0 = 4)) (c9 : ¬ (a0 = 5)) (c11 : ¬ (a0 = 6)) (c13 : ¬ (a0 = 7)) (c15 : ¬ (a0 = 8)) (c17 : ¬ (a0 = 9)) (c19 : ¬ (a0 = 10)) (c20 : ¬ (a0 = 11)) (c21 : ¬ (a0 = 12)) (c22 : ¬ (a0 = 13)) (c23 : a0 = 14) :
    Calls Tryd.prog 43 #[.int .i64 a0, .int .i64 a1] w fun e w' => e = .returned (.int .i64 r) ∧ Drawn0 w w' := by
  have H : (if a0 = 3 then (if a1 ≥ 0 then (some a1) else (some (wrap64 (-a1)))) else (if a0 = 1 then (some (wrap64 (-a1))) else (if a0 = 2 then (some (Go.bits .xor .i64 (-1) a1)) else (if a0 = 4 then ((bits_OnesCount64.f (IntKind.u64.wrap (a1))).bind fun t102 => (some t102)) else (if a0 = 5 then ((bits_LeadingZeros64.f k (IntKind.u64.wrap (a1))).bind fun t103 => (some t103)) else (if a0 = 6 then ((bits_TrailingZeros64.f (IntKind.u64.wrap (a1))).bind fun t107 => (some t107)) else (if a0 = 7 then ((word_flip.f k a1).bind fun t104 => (some t104)) else (if a0 = 8 then ((word_yes.f (a1 != 0)).bind fun t105 => (some t105)) else (if a0 = 9 then ((word_yes.f (a1 == 0)).bind fun t106 => (some t106)) else (if a0 = 10 then (some (wrap64 (IntKind.i8.wrap (a1)))) else (if a0 = 11 then (some (wrap64 (IntKind.i16.wrap (a1)))) else (if a0 = 12 then (some (wrap64 (wrap32 (a1)))) else (if a0 = 13 then (some ((a1) % 256)) else (if a0 = 14 then (some (wrap64 (IntKind.u16.wrap (a1)))) else (some ((a1) % 4294967296)))))))))))))))) = some r := h
  clear h
  rw [if_neg c3] at H
  have c3b0 : (a0 == 3) = false := beq_eq_false_iff_ne.mpr c3
  have c3b1 : (a0 != 3) = true := bne_iff_ne.mpr c3
  rw [if_neg c5] at H
  have c5b0 : (a0 == 1) = false := beq_eq_false_iff_ne.mpr c5
  have c5b1 : (a0 != 1) = true := bne_iff_ne.mpr c5
  rw [if_neg c6] at H
  have c6b0 : (a0 == 2) = false := beq_eq_false_iff_ne.mpr c6
  have c6b1 : (a0 != 2) = true := bne_iff_ne.mpr c6
  rw [if_neg c7] at H
  have c7b0 : (a0 == 4) = false := beq_eq_false_iff_ne.mpr c7
  have c7b1 : (a0 != 4) = true := bne_iff_ne.mpr c7
  rw [if_neg c9] at H
  have c9b0 : (a0 == 5) = false := beq_eq_false_iff_ne.mpr c9
  have c9b1 : (a0 != 5) = true := bne_iff_ne.mpr c9
  rw [if_neg c11] at H
  have c11b0 : (a0 == 6) = false := beq_eq_false_iff_ne.mpr c11
  have c11b1 : (a0 != 6) = true := bne_iff_ne.mpr c11
  rw [if_neg c13] at H
  have c13b0 : (a0 == 7) = false := beq_eq_false_iff_ne.mpr c13
  have c13b1 : (a0 != 7) = true := bne_iff_ne.mpr c13
  rw [if_neg c15] at H
  have c15b0 : (a0 == 8) = false := beq_eq_false_iff_ne.mpr c15
  have c15b1 : (a0 != 8) = true := bne_iff_ne.mpr c15
  rw [if_neg c17] at H
  have c17b0 : (a0 == 9) = false := beq_eq_false_iff_ne.mpr c17
  have c17b1 : (a0 != 9) = true := bne_iff_ne.mpr c17
  rw [if_neg c19] at H
  have c19b0 : (a0 == 10) = false := beq_eq_false_iff_ne.mpr c19
  have c19b1 : (a0 != 10) = true := bne_iff_ne.mpr c19
  rw [if_neg c20] at H
  have c20b0 : (a0 == 11) = false := beq_eq_false_iff_ne.mpr c20
  have c20b1 : (a0 != 11) = true := bne_iff_ne.mpr c20
  rw [if_neg c21] at H
  have c21b0 : (a0 == 12) = false := beq_eq_false_iff_ne.mpr c21
  have c21b1 : (a0 != 12) = true := bne_iff_ne.mpr c21
  rw [if_neg c22] at H
  have c22b0 : (a0 == 13) = false := beq_eq_false_iff_ne.mpr c22
  have c22b1 : (a0 != 13) = true := bne_iff_ne.mpr c22
  rw [if_pos c23] at H
  have c23b0 : (a0 == 14) = true := beq_iff_eq.mpr c23
  have c23b1 : (a0 != 14) = false := bne_eq_false_iff_eq.mpr c23
  clear c23
  obtain rfl := Option.some.inj H
  go_enter Tryd.func43, Tryd.ntmps43
  go_wp2
  go_ret
  exact ⟨by first | rfl | (simp; done) | (simp [*]; done), by repeat (first | exact Drawn0.refl _ | apply Drawn0.step)⟩
set_option maxHeartbeats 8000000 in
set_option maxRecDepth 100000 in
theorem word_one.calls_15 (k : Nat) (a0 : Int) (a1 : Int) (r : Int) (w : World) [Tab.TabOK w] (h : word_one.f k a0 a1 = some r) (c3 : ¬ (a0 = 3)) (c5 : ¬ (a0 = 1)) (c6 : ¬ (a0 = 2)) (c7 : ¬ (a0 = 4)) (c9 : ¬ (a0 = 5)) (c11 : ¬ (a0 = 6)) (c13 : ¬ (a0 = 7)) (c15 : ¬ (a0 = 8)) (c17 : ¬ (a0 = 9)) (c19 : ¬ (a0 = 10)) (c20 : ¬ (a0 = 11)) (c21 : ¬ (a0 = 12)) (c22 : ¬ (a0 = 13)) (c23 : ¬ (a0 = 14)) :
    Calls Tryd.prog 43 #[.int .i64 a0, .int .i64 a1] w fun e w' => e = .returned (.int .i64 r) ∧ Drawn0 w w' := by
  have H : (if a0 = 3 then (if a1 ≥ 0 then (some a1) else (some (wrap64 (-a1)))) else (if a0 = 1 then (some (wrap64 (-a1))) else (if a0 = 2 then (some (Go.bits .xor .i64 (-1) a1)) else (if a0 = 4 then ((bits_OnesCount64.f (IntKind.u64.wrap (a1))).bind fun t102 => (some t102)) else (if a0 = 5 then ((bits_LeadingZeros64.f k (IntKind.u64.wrap (a1))).bind fun t103 => (some t103)) else (if a0 = 6 then ((bits_TrailingZeros64.f (IntKind.u64.wrap (a1))).bind fun t107 => (some t107)) else (if a0 = 7 then ((word_flip.f k a1).bind fun t104 => (some t104)) else (if a0 = 8 then ((word_yes.f (a1 != 0)).bind fun t105 => (some t105)) else (if a0 = 9 then ((word_yes.f (a1 == 0)).bind fun t106 => (some t106)) else (if a0 = 10 then (some (wrap64 (IntKind.i8.wrap (a1)))) else (if a0 = 11 then (some (wrap64 (IntKind.i16.wrap (a1)))) else (if a0 = 12 then (some (wrap64 (wrap32 (a1)))) else (if a0 = 13 then (some ((a1) % 256)) else (if a0 = 14 then (some (wrap64 (IntKind.u16.wrap (a1)))) else (some ((a1) % 4294967296)))))))))))))))) = some r := h
  clear h
  rw [if_neg c3] at H
  have c3b0 : (a0 == 3) = false := beq_eq_false_iff_ne.mpr c3
  have c3b1 : (a0 != 3) = true := bne_iff_ne.mpr c3
  rw [if_neg c5] at H
  have c5b0 : (a0 == 1) = false := beq_eq_false_iff_ne.mpr c5
  have c5b1 : (a0 != 1) = true := bne_iff_ne.mpr c5
  rw [if_neg c6] at H
  have c6b0 : (a0 == 2) = false := beq_eq_false_iff_ne.mpr c6
  have c6b1 : (a0 != 2) = true := bne_iff_ne.mpr c6
  rw [if_neg c7] at H
  have c7b0 : (a0 == 4) = false := beq_eq_false_iff_ne.mpr c7
  have c7b1 : (a0 != 4) = true := bne_iff_ne.mpr c7
  rw [if_neg c9] at H
  have c9b0 : (a0 == 5) = false := beq_eq_false_iff_ne.mpr c9
  have c9b1 : (a0 != 5) = true := bne_iff_ne.mpr c9
  rw [if_neg c11] at H
  have c11b0 : (a0 == 6) = false := beq_eq_false_iff_ne.mpr c11
  have c11b1 : (a0 != 6) = true := bne_iff_ne.mpr c11
  rw [if_neg c13] at H
  have c13b0 : (a0 == 7) = false := beq_eq_false_iff_ne.mpr c13
  have c13b1 : (a0 != 7) = true := bne_iff_ne.mpr c13
  rw [if_neg c15] at H
  have c15b0 : (a0 == 8) = false := beq_eq_false_iff_ne.mpr c15
  have c15b1 : (a0 != 8) = true := bne_iff_ne.mpr c15
  rw [if_neg c17] at H
  have c17b0 : (a0 == 9) = false := beq_eq_false_iff_ne.mpr c17
  have c17b1 : (a0 != 9) = true := bne_iff_ne.mpr c17
  rw [if_neg c19] at H
  have c19b0 : (a0 == 10) = false := beq_eq_false_iff_ne.mpr c19
  have c19b1 : (a0 != 10) = true := bne_iff_ne.mpr c19
  rw [if_neg c20] at H
  have c20b0 : (a0 == 11) = false := beq_eq_false_iff_ne.mpr c20
  have c20b1 : (a0 != 11) = true := bne_iff_ne.mpr c20
  rw [if_neg c21] at H
  have c21b0 : (a0 == 12) = false := beq_eq_false_iff_ne.mpr c21
  have c21b1 : (a0 != 12) = true := bne_iff_ne.mpr c21
  rw [if_neg c22] at H
  have c22b0 : (a0 == 13) = false := beq_eq_false_iff_ne.mpr c22
  have c22b1 : (a0 != 13) = true := bne_iff_ne.mpr c22
  rw [if_neg c23] at H
  have c23b0 : (a0 == 14) = false := beq_eq_false_iff_ne.mpr c23
  have c23b1 : (a0 != 14) = true := bne_iff_ne.mpr c23
  obtain rfl := Option.some.inj H
  go_enter Tryd.func43, Tryd.ntmps43
  go_wp2
  go_ret
  exact ⟨by first | rfl | (simp; done) | (simp [*]; done), by repeat (first | exact Drawn0.refl _ | apply Drawn0.step)⟩
set_option maxHeartbeats 8000000 in
set_option maxRecDepth 100000 in
theorem word_one.calls (k : Nat) (a0 : Int) (a1 : Int) (r : Int) (w : World) [Tab.TabOK w] (h : word_one.f k a0 a1 = some r) :
    Calls Tryd.prog 43 #[.int .i64 a0, .int .i64 a1] w fun e w' => e = .returned (.int .i64 r) ∧ Drawn0 w w' := by
  by_cases c3 : a0 = 3
  · by_cases c4 : a1 ≥ 0
    · exact word_one.calls_0 k a0 a1 r w h c3 c4
    · exact word_one.calls_1 k a0 a1 r w h c3 c4
  · by_cases c5 : a0 = 1
    · exact word_one.calls_2 k a0 a1 r w h c3 c5
    · by_cases c6 : a0 = 2
      · exact word_one.calls_3 k a0 a1 r w h c3 c5 c6
      · by_cases c7 : a0 = 4
        · exact word_one.calls_4 k a0 a1 r w h c3 c5 c6 c7
        · by_cases c9 : a0 = 5
          · exact word_one.calls_5 k a0 a1 r w h c3 c5 c6 c7 c9
          · by_cases c11 : a0 = 6
            · exact word_one.calls_6 k a0 a1 r w h c3 c5 c6 c7 c9 c11
            · by_cases c13 : a0 = 7
              · exact word_one.calls_7 k a0 a1 r w h c3 c5 c6 c7 c9 c11 c13
              · by_cases c15 : a0 = 8
                · exact word_one.calls_8 k a0 a1 r w h c3 c5 c6 c7 c9 c11 c13 c15
                · by_cases c17 : a0 = 9
                  · exact word_one.calls_9 k a0 a1 r w h c3 c5 c6 c7 c9 c11 c13 c15 c17
                  · by_cases c19 : a0 = 10
                    · exact word_one.calls_10 k a0 a1 r w h c3 c5 c6 c7 c9 c11 c13 c15 c17 c19
                    · by_cases c20 : a0 = 11
                      · exact word_one.calls_11 k a0 a1 r w h c3 c5 c6 c7 c9 c11 c13 c15 c17 c19 c20
                      · by_cases c21 : a0 = 12
                        · exact word_one.calls_12 k a0 a1 r w h c3 c5 c6 c7 c9 c11 c13 c15 c17 c19 c20 c21
                        · by_cases c22 : a0 = 13
                          · exact word_one.calls_13 k a0 a1 r w h c3 c5 c6 c7 c9 c11 c13 c15 c17 c19 c20 c21 c22
                          · by_cases c23 : a0 = 14
                            · exact word_one.calls_14 k a0 a1 r w h c3 c5 c6 c7 c9 c11 c13 c15 c17 c19 c20 c21 c22 c23
                            · exact word_one.calls_15 k a0 a1 r w h c3 c5 c6 c7 c9 c11 c13 c15 c17 c19 c20 c21 c22 c23

end Go.Proofs.YtckfnbjjghdaoaaDoor.T
