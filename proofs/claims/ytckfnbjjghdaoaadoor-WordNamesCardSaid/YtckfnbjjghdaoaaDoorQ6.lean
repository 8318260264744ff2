-- This session's own text, made by its own run of the tools (wip/tools/pr.sh).
import Derived.Test.YtckfnbjjghdaoaaDoorQ0
import Derived.Test.YtckfnbjjghdaoaaDoorQ1
import Derived.Test.YtckfnbjjghdaoaaDoorQ2
namespace Go.Proofs.YtckfnbjjghdaoaaDoor.Q
open Go.RowKit Go.Proofs.YtckfnbjjghdaoaaDoorW.PrintWords Go.Proofs.YtckfnbjjghdaoaaDoorW.PrintLast Go.Proofs.YtckfnbjjghdaoaaDoorW.PrintMore
attribute [local go_sem] max2_int min2_int max_two min_two max_three min_three max_four min_four   -- for this text's walks alone
set_option linter.unusedVariables false
set_option linter.unusedSimpArgs false

/-! ### word_Fits: function 23 -/
def word_Fits.f (k : Nat) (a0 : Int) (a1 : Int) : Option (Bool) := if a1 ≥ 10 then (if a1 ≤ 15 then ((word_one.f k a1 a0).bind fun t207 => (some (t207 == a0))) else (some false)) else (some false)
theorem word_Fits.mono : ∀ a0 a1 k, LeO (word_Fits.f k a0 a1) (word_Fits.f (k + 1) a0 a1) := by
  intro a0 a1 k
  unfold word_Fits.f
  repeat' first
      | (with_reducible exact word_one.mono _ _ _)
      | (with_reducible exact LeO.refl _)
      | (with_reducible exact LeO.none _)
      | (with_reducible refine LeO.ite ?_ ?_)
      | (with_reducible refine LeO.bind ?_ (fun _ => ?_))
      | exact word_one.mono _ _ _
      | exact LeO.none _
      | refine LeO.ite ?_ ?_
      | refine LeO.bind ?_ (fun _ => ?_)
set_option maxHeartbeats 8000000 in
set_option maxRecDepth 100000 in
theorem word_Fits.calls (k : Nat) (a0 : Int) (a1 : Int) (r : Bool) (w : World) (h : word_Fits.f k a0 a1 = some r) :
    Calls Tryd.prog 23 #[.int .i64 a0, .int .i64 a1] w fun e w' => e = .returned (.bool r) ∧ Drawn0 w w' := by
  have H : (if a1 ≥ 10 then (if a1 ≤ 15 then ((word_one.f k a1 a0).bind fun t207 => (some (t207 == a0))) else (some false)) else (some false)) = some r := h
  clear h
  by_cases c3 : a1 ≥ 10
  · rw [if_pos c3] at H
    have c3b0 : decide (10 ≤ a1) = true := decide_eq_true c3
    clear c3
    by_cases c4 : a1 ≤ 15
    · rw [if_pos c4] at H
      have c4b0 : decide (a1 ≤ 15) = true := decide_eq_true c4
      clear c4
      replace H := Option.bind_eq_some_iff.mp H
      obtain ⟨t207, A50, H⟩ := H
      replace H : (some (t207 == a0)) = some r := H
      have A5 := Aside0.mk A50
      clear A50
      obtain rfl := Option.some.inj H
      go_enter Tryd.func23, Tryd.ntmps23
      go_wp2_with (first | (go_at_call 43; (with_reducible refine (word_one.calls k a1 a0 t207 _ A5.out).mono ?_); rintro e w' ⟨rfl, ⟨nd, rfl⟩⟩))
      go_ret
      exact ⟨by first | rfl | (simp; done) | (simp [*]; done), by repeat (first | exact Drawn0.refl _ | apply Drawn0.step)⟩
    · rw [if_neg c4] at H
      have c4b0 : decide (a1 ≤ 15) = false := decide_eq_false c4
      clear c4
      obtain rfl := Option.some.inj H
      go_enter Tryd.func23, Tryd.ntmps23
      go_wp2
      go_ret
      exact ⟨by first | rfl | (simp; done) | (simp [*]; done), by repeat (first | exact Drawn0.refl _ | apply Drawn0.step)⟩
  · rw [if_neg c3] at H
    have c3b0 : decide (10 ≤ a1) = false := decide_eq_false c3
    clear c3
    obtain rfl := Option.some.inj H
    go_enter Tryd.func23, Tryd.ntmps23
    go_wp2
    go_ret
    exact ⟨by first | rfl | (simp; done) | (simp [*]; done), by repeat (first | exact Drawn0.refl _ | apply Drawn0.step)⟩

/-! ### scarabref02_put: function 63 -/
def scarabref02_put.f (a0 : Int) (a1 : Int) (a2 : Int) : Option (Int) := if 0 ≤ (IntKind.u64.wrap (a1)) then (some (wrap64 (Go.bits .or .u64 (IntKind.u64.wrap (a0)) (shl .u64 (IntKind.u64.wrap (a2)) (IntKind.u64.wrap (a1)))))) else (none)
set_option maxHeartbeats 8000000 in
set_option maxRecDepth 100000 in
theorem scarabref02_put.calls (a0 : Int) (a1 : Int) (a2 : Int) (r : Int) (w : World) (h : scarabref02_put.f a0 a1 a2 = some r) :
    Calls Tryd.prog 63 #[.int .i64 a0, .int .i64 a1, .int .i64 a2] w fun e w' => e = .returned (.int .i64 r) ∧ Drawn0 w w' := by
  have H : (if 0 ≤ (IntKind.u64.wrap (a1)) then (some (wrap64 (Go.bits .or .u64 (IntKind.u64.wrap (a0)) (shl .u64 (IntKind.u64.wrap (a2)) (IntKind.u64.wrap (a1)))))) else (none)) = some r := h
  clear h
  obtain ⟨ji4, hji4⟩ : ∃ j_ : Int, (IntKind.u64.wrap (a1)) = j_ := ⟨_, rfl⟩
  replace H : (if 0 ≤ (ji4) then (some (wrap64 (Go.bits .or .u64 (IntKind.u64.wrap (a0)) (shl .u64 (IntKind.u64.wrap (a2)) (ji4))))) else (none)) = some r := by first | (rw [hji4] at H; exact H) | (simp only [hji4] at H ⊢; exact H)
  by_cases c5 : 0 ≤ (ji4)
  · rw [if_pos c5] at H
    have c5b0 := eq_true c5
    have c5b1 : decide (0 ≤ (ji4)) = true := decide_eq_true c5
    clear c5
    obtain ⟨ji6, hji6⟩ : ∃ j_ : Int, (shl .u64 (IntKind.u64.wrap (a2)) (ji4)) = j_ := ⟨_, rfl⟩
    replace H : (some (wrap64 (Go.bits .or .u64 (IntKind.u64.wrap (a0)) (ji6)))) = some r := by first | (rw [hji6] at H; exact H) | (simp only [hji6] at H ⊢; exact H)
    have hji6_ : (IntKind.u64.wrap ((IntKind.u64.wrap (a2)) * 2 ^ min (ji4).toNat 64)) = ji6 := hji6
    have hji6z : (ji4) ≤ 64 → (IntKind.u64.wrap ((IntKind.u64.wrap (a2)) * 2 ^ (ji4).toNat)) = ji6 := shl_small hji6
    obtain rfl := Option.some.inj H
    go_enter Tryd.func63, Tryd.ntmps63
    go_wp2
    go_ret
    exact ⟨by first | rfl | (simp; done) | (simp only [← hji4, ← hji6] <;> (first | rfl | simp)) | (simp [*]; done), by repeat (first | exact Drawn0.refl _ | apply Drawn0.step)⟩
  · rw [if_neg c5] at H
    exact absurd H (by simp)

/-! ### scarabref02_yes: function 64 -/
def scarabref02_yes.f (a0 : Bool) : Option (Int) := if a0 = true then (some 1) else (some 0)
set_option maxHeartbeats 8000000 in
set_option maxRecDepth 100000 in
theorem scarabref02_yes.calls (a0 : Bool) (r : Int) (w : World) (h : scarabref02_yes.f a0 = some r) :
    Calls Tryd.prog 64 #[.bool a0] w fun e w' => e = .returned (.int .i64 r) ∧ Drawn0 w w' := by
  have H : (if a0 = true then (some 1) else (some 0)) = some r := h
  clear h
  by_cases c2 : a0 = true
  · subst c2
    have H1 : (some 1) = some r := by rw [if_pos rfl] at H; exact H
    clear H
    have H := H1
    clear H1
    obtain rfl := Option.some.inj H
    go_enter Tryd.func64, Tryd.ntmps64
    go_wp2
    go_ret
    exact ⟨by first | rfl | (simp; done) | (simp [*]; done), by repeat (first | exact Drawn0.refl _ | apply Drawn0.step)⟩
  · replace c2 := Bool.eq_false_iff.mpr c2
    subst c2
    have H1 : (some 0) = some r := by rw [if_neg (show ¬ (false = true) by decide)] at H; exact H
    clear H
    have H := H1
    clear H1
    obtain rfl := Option.some.inj H
    go_enter Tryd.func64, Tryd.ntmps64
    go_wp2
    go_ret
    exact ⟨by first | rfl | (simp; done) | (simp [*]; done), by repeat (first | exact Drawn0.refl _ | apply Drawn0.step)⟩

/-! ### scarabref02_converted: function 65 -/
def scarabref02_converted.l0 : Nat → Int → Int → Bool → Int → Int → Option (Int)
  | 0, _, _, _, _, _ => none
  | k + 1, x0, x1, x2, x7, x8 => if x8 < 64 then (if x8 < x1 then ((scarabref02_bit.f x0 x8).bind fun t208 => ((scarabref02_put.f x7 x8 t208).bind fun t209 => (scarabref02_converted.l0 k x0 x1 x2 t209 (wrap64 (x8 + 1))))) else (if x2 = true then ((scarabref02_bit.f x0 (wrap64 (x1 - 1))).bind fun t210 => ((scarabref02_put.f x7 x8 t210).bind fun t211 => (scarabref02_converted.l0 k x0 x1 x2 t211 (wrap64 (x8 + 1))))) else ((scarabref02_put.f x7 x8 0).bind fun t212 => (scarabref02_converted.l0 k x0 x1 x2 t212 (wrap64 (x8 + 1)))))) else (some x7)
def scarabref02_converted.f (k : Nat) (a0 : Int) (a1 : Int) (a2 : Bool) : Option (Int) := scarabref02_converted.l0 k a0 a1 a2 0 0
theorem scarabref02_converted.mono_l : ∀ k, (∀ y0 y1 y2 y3 y4, LeO (scarabref02_converted.l0 k y0 y1 y2 y3 y4) (scarabref02_converted.l0 (k + 1) y0 y1 y2 y3 y4))
  | 0 => fun _ _ _ _ _ r h => by simp [scarabref02_converted.l0] at h
  | k + 1 => by
    have ih0 := scarabref02_converted.mono_l k
    · intro y0 y1 y2 y3 y4
      unfold scarabref02_converted.l0
      repeat' first
      | (with_reducible exact ih0 _ _ _ _ _)
      | (with_reducible exact LeO.refl _)
      | (with_reducible exact LeO.none _)
      | (with_reducible refine LeO.ite ?_ ?_)
      | (with_reducible refine LeO.bind ?_ (fun _ => ?_))
      | exact ih0 _ _ _ _ _
      | exact LeO.none _
      | refine LeO.ite ?_ ?_
      | refine LeO.bind ?_ (fun _ => ?_)
theorem scarabref02_converted.mono : ∀ a0 a1 a2 k, LeO (scarabref02_converted.f k a0 a1 a2) (scarabref02_converted.f (k + 1) a0 a1 a2) := by
  intro a0 a1 a2 k
  have ih0 := scarabref02_converted.mono_l k
  unfold scarabref02_converted.f
  repeat' first
      | (with_reducible exact ih0 _ _ _ _ _)
      | (with_reducible exact LeO.refl _)
      | (with_reducible exact LeO.none _)
      | (with_reducible refine LeO.ite ?_ ?_)
      | (with_reducible refine LeO.bind ?_ (fun _ => ?_))
      | exact ih0 _ _ _ _ _
      | exact LeO.none _
      | refine LeO.ite ?_ ?_
      | refine LeO.bind ?_ (fun _ => ?_)
set_option maxHeartbeats 8000000 in
set_option maxRecDepth 100000 in
theorem scarabref02_converted.calls (k : Nat) (a0 : Int) (a1 : Int) (a2 : Bool) (r : Int) (w : World) (h : scarabref02_converted.f k a0 a1 a2 = some r) :
    Calls Tryd.prog 65 #[.int .i64 a0, .int .i64 a1, .bool a2] w fun e w' => e = .returned (.int .i64 r) ∧ Drawn0 w w' := by
  have H : (scarabref02_converted.l0 k a0 a1 a2 0 0) = some r := h
  clear h
  have H' := Aside0.mk H
  clear H
  go_enter Tryd.func65, Tryd.ntmps65
  go_wp2
  go_loopg [7, 8] k (fun kq v7 v8 w' => ∃ (x7_1 : Int) (x8_1 : Int), v7 = .int .i64 x7_1 ∧ v8 = .int .i64 x8_1 ∧ Aside0 (scarabref02_converted.l0 kq a0 a1 a2 x7_1 x8_1 = some r) ∧ Aside0 (kq ≤ k) ∧ Drawn0 w w')
  case atStart => exact ⟨(0), (0), (by first | rfl | (simp; done) | (simp [*]; done)), (by first | rfl | (simp; done) | (simp [*]; done)), H', ⟨Nat.le_refl _⟩, by repeat (first | exact Drawn0.refl _ | apply Drawn0.step)⟩
  case round =>
    clear H'
    try clear p2
    obtain ⟨x7_1, x8_1, rfl, rfl, HA, HK1, ⟨m1, rfl⟩⟩ := hrel
    cases gk with
    | zero => exact absurd HA.out (by simp [scarabref02_converted.l0])
    | succ k1 =>
      have H := HA.out
      clear HA
      simp only [scarabref02_converted.l0] at H
      by_cases c4 : x8_1 < 64
      · rw [if_pos c4] at H
        have c4b0 : decide (x8_1 < 64) = true := decide_eq_true c4
        clear c4
        by_cases c5 : x8_1 < a1
        · rw [if_pos c5] at H
          have c5b0 : decide (x8_1 < a1) = true := decide_eq_true c5
          clear c5
          replace H := Option.bind_eq_some_iff.mp H
          obtain ⟨t208, A60, H⟩ := H
          replace H : ((scarabref02_put.f x7_1 x8_1 t208).bind fun t209 => (scarabref02_converted.l0 k1 a0 a1 a2 t209 (wrap64 (x8_1 + 1)))) = some r := H
          have A6 := Aside0.mk A60
          clear A60
          replace H := Option.bind_eq_some_iff.mp H
          obtain ⟨t209, A70, H⟩ := H
          replace H : (scarabref02_converted.l0 k1 a0 a1 a2 t209 (wrap64 (x8_1 + 1))) = some r := H
          have A7 := Aside0.mk A70
          clear A70
          have H' := Aside0.mk H
          clear H
          go_wp2_with (first | ((with_reducible refine gate_callee (f := 42) rfl ?_); refine goesL_ (some 19) rfl rfl Tryd.func42 (by kernel_rfl) rfl #[.int .i64 a0, .int .i64 x8_1] rfl (by (try simp only [List.map_toArray, List.map_cons, List.map_nil]); first | done | rfl | (simp only [List.length_drop, List.length_take]; rfl)) ?_; (with_reducible refine (scarabref02_bit.calls a0 x8_1 t208 _ A6.out).mono ?_); rintro e w' ⟨rfl, ⟨nd, rfl⟩⟩; refine ⟨_, rfl, ?_⟩) | ((with_reducible refine gate_callee (f := 63) rfl ?_); refine goesL_ (some 28) rfl rfl Tryd.func63 (by kernel_rfl) rfl #[.int .i64 x7_1, .int .i64 x8_1, .int .i64 t208] rfl (by (try simp only [List.map_toArray, List.map_cons, List.map_nil]); first | done | rfl | (simp only [List.length_drop, List.length_take]; rfl)) ?_; (with_reducible refine (scarabref02_put.calls x7_1 x8_1 t208 t209 _ A7.out).mono ?_); rintro e w' ⟨rfl, ⟨nd, rfl⟩⟩; refine ⟨_, rfl, ?_⟩))
          go_roundg k1
          case measure => have := HK1.out; omega
          case rel => exact ⟨(t209), (wrap64 (x8_1 + 1)), (by first | rfl | (simp; done) | (simp [*]; done)), (by first | rfl | (simp; done) | (simp [*]; done)), H', ⟨by have := HK1.out; omega⟩, by repeat (first | exact Drawn0.refl _ | apply Drawn0.step)⟩
        · rw [if_neg c5] at H
          have c5b0 : decide (x8_1 < a1) = false := decide_eq_false c5
          clear c5
          by_cases c8 : a2 = true
          · subst c8
            have H1 : ((scarabref02_bit.f a0 (wrap64 (a1 - 1))).bind fun t210 => ((scarabref02_put.f x7_1 x8_1 t210).bind fun t211 => (scarabref02_converted.l0 k1 a0 a1 true t211 (wrap64 (x8_1 + 1))))) = some r := by rw [if_pos rfl] at H; exact H
            clear H
            have H := H1
            clear H1
            replace H := Option.bind_eq_some_iff.mp H
            obtain ⟨t210, A90, H⟩ := H
            replace H : ((scarabref02_put.f x7_1 x8_1 t210).bind fun t211 => (scarabref02_converted.l0 k1 a0 a1 true t211 (wrap64 (x8_1 + 1)))) = some r := H
            have A9 := Aside0.mk A90
            clear A90
            replace H := Option.bind_eq_some_iff.mp H
            obtain ⟨t211, A100, H⟩ := H
            replace H : (scarabref02_converted.l0 k1 a0 a1 true t211 (wrap64 (x8_1 + 1))) = some r := H
            have A10 := Aside0.mk A100
            clear A100
            have H' := Aside0.mk H
            clear H
            go_wp2_with (first | ((with_reducible refine gate_callee (f := 42) rfl ?_); refine goesL_ (some 24) rfl rfl Tryd.func42 (by kernel_rfl) rfl #[.int .i64 a0, .int .i64 (wrap64 (a1 - 1))] rfl (by (try simp only [List.map_toArray, List.map_cons, List.map_nil]); first | done | rfl | (simp only [List.length_drop, List.length_take]; rfl)) ?_; (with_reducible refine (scarabref02_bit.calls a0 (wrap64 (a1 - 1)) t210 _ A9.out).mono ?_); rintro e w' ⟨rfl, ⟨nd, rfl⟩⟩; refine ⟨_, rfl, ?_⟩) | ((with_reducible refine gate_callee (f := 63) rfl ?_); refine goesL_ (some 28) rfl rfl Tryd.func63 (by kernel_rfl) rfl #[.int .i64 x7_1, .int .i64 x8_1, .int .i64 t210] rfl (by (try simp only [List.map_toArray, List.map_cons, List.map_nil]); first | done | rfl | (simp only [List.length_drop, List.length_take]; rfl)) ?_; (with_reducible refine (scarabref02_put.calls x7_1 x8_1 t210 t211 _ A10.out).mono ?_); rintro e w' ⟨rfl, ⟨nd, rfl⟩⟩; refine ⟨_, rfl, ?_⟩))
            go_roundg k1
            case measure => have := HK1.out; omega
            case rel => exact ⟨(t211), (wrap64 (x8_1 + 1)), (by first | rfl | (simp; done) | (simp [*]; done)), (by first | rfl | (simp; done) | (simp [*]; done)), H', ⟨by have := HK1.out; omega⟩, by repeat (first | exact Drawn0.refl _ | apply Drawn0.step)⟩
          · replace c8 := Bool.eq_false_iff.mpr c8
            subst c8
            have H1 : ((scarabref02_put.f x7_1 x8_1 0).bind fun t212 => (scarabref02_converted.l0 k1 a0 a1 false t212 (wrap64 (x8_1 + 1)))) = some r := by rw [if_neg (show ¬ (false = true) by decide)] at H; exact H
            clear H
            have H := H1
            clear H1
            replace H := Option.bind_eq_some_iff.mp H
            obtain ⟨t212, A110, H⟩ := H
            replace H : (scarabref02_converted.l0 k1 a0 a1 false t212 (wrap64 (x8_1 + 1))) = some r := H
            have A11 := Aside0.mk A110
            clear A110
            have H' := Aside0.mk H
            clear H
            go_wp2_with (first | ((with_reducible refine gate_callee (f := 63) rfl ?_); refine goesL_ (some 28) rfl rfl Tryd.func63 (by kernel_rfl) rfl #[.int .i64 x7_1, .int .i64 x8_1, .int .i64 0] rfl (by (try simp only [List.map_toArray, List.map_cons, List.map_nil]); first | done | rfl | (simp only [List.length_drop, List.length_take]; rfl)) ?_; (with_reducible refine (scarabref02_put.calls x7_1 x8_1 0 t212 _ A11.out).mono ?_); rintro e w' ⟨rfl, ⟨nd, rfl⟩⟩; refine ⟨_, rfl, ?_⟩))
            go_roundg k1
            case measure => have := HK1.out; omega
            case rel => exact ⟨(t212), (wrap64 (x8_1 + 1)), (by first | rfl | (simp; done) | (simp [*]; done)), (by first | rfl | (simp; done) | (simp [*]; done)), H', ⟨by have := HK1.out; omega⟩, by repeat (first | exact Drawn0.refl _ | apply Drawn0.step)⟩
      · rw [if_neg c4] at H
        have c4b0 : decide (x8_1 < 64) = false := decide_eq_false c4
        clear c4
        obtain rfl := Option.some.inj H
        go_wp2
        go_ret
        exact ⟨by first | rfl | (simp; done) | (simp [*]; done), by repeat (first | exact Drawn0.refl _ | apply Drawn0.step)⟩

/-! ### scarabref02_one: function 47 -/
mutual
def scarabref02_one.l0 : Nat → Int → Int → Int → Option (Int)
  | 0, _, _, _ => none
  | k + 1, x1, x5, x6 => if x6 < 64 then ((scarabref02_bit.f x1 x6).bind fun t213 => (scarabref02_one.l0 k x1 (wrap64 (x5 + t213)) (wrap64 (x6 + 1)))) else (some x5)
def scarabref02_one.l1 : Nat → Int → Int → Int → Option (Int)
  | 0, _, _, _ => none
  | k + 1, x1, x7, x8 => if x8 ≥ 0 then ((scarabref02_bit.f x1 x8).bind fun t214 => (if t214 = 0 then (scarabref02_one.l1 k x1 (wrap64 (x7 + 1)) (wrap64 (x8 - 1))) else (some x7))) else (some x7)
def scarabref02_one.l2 : Nat → Int → Int → Int → Option (Int)
  | 0, _, _, _ => none
  | k + 1, x1, x9, x10 => if x10 < 64 then ((scarabref02_bit.f x1 x10).bind fun t215 => (if t215 = 0 then (scarabref02_one.l2 k x1 (wrap64 (x9 + 1)) (wrap64 (x10 + 1))) else (some x9))) else (some x9)
def scarabref02_one.l3 : Nat → Int → Int → Int → Option (Int)
  | 0, _, _, _ => none
  | k + 1, x1, x11, x12 => if x12 < 64 then ((scarabref02_bit.f x1 (wrap64 (63 - x12))).bind fun t216 => ((scarabref02_put.f x11 x12 t216).bind fun t217 => (scarabref02_one.l3 k x1 t217 (wrap64 (x12 + 1))))) else (some x11)
end
def scarabref02_one.f (k : Nat) (a0 : Int) (a1 : Int) : Option (Int) := if a0 = 1 then (some (wrap64 (-a1))) else (if a0 = 2 then (some (wrap64 ((-1) - a1))) else (if a0 = 3 then (if a1 < 0 then (some (wrap64 (-a1))) else (some a1)) else (if a0 = 4 then (scarabref02_one.l0 k a1 0 0) else (if a0 = 5 then (scarabref02_one.l1 k a1 0 63) else (if a0 = 6 then (scarabref02_one.l2 k a1 0 0) else (if a0 = 7 then (scarabref02_one.l3 k a1 0 0) else (if a0 = 8 then ((scarabref02_yes.f (a1 != 0)).bind fun t218 => (some t218)) else (if a0 = 9 then ((scarabref02_yes.f (a1 == 0)).bind fun t219 => (some t219)) else (if a0 = 10 then ((scarabref02_converted.f k a1 8 true).bind fun t220 => (some t220)) else (if a0 = 11 then ((scarabref02_converted.f k a1 16 true).bind fun t221 => (some t221)) else (if a0 = 12 then ((scarabref02_converted.f k a1 32 true).bind fun t222 => (some t222)) else (if a0 = 13 then ((scarabref02_converted.f k a1 8 false).bind fun t223 => (some t223)) else (if a0 = 14 then ((scarabref02_converted.f k a1 16 false).bind fun t224 => (some t224)) else ((scarabref02_converted.f k a1 32 false).bind fun t225 => (some t225)))))))))))))))
theorem scarabref02_one.mono_l : ∀ k, (∀ y0 y1 y2, LeO (scarabref02_one.l0 k y0 y1 y2) (scarabref02_one.l0 (k + 1) y0 y1 y2)) ∧ (∀ y0 y1 y2, LeO (scarabref02_one.l1 k y0 y1 y2) (scarabref02_one.l1 (k + 1) y0 y1 y2)) ∧ (∀ y0 y1 y2, LeO (scarabref02_one.l2 k y0 y1 y2) (scarabref02_one.l2 (k + 1) y0 y1 y2)) ∧ (∀ y0 y1 y2, LeO (scarabref02_one.l3 k y0 y1 y2) (scarabref02_one.l3 (k + 1) y0 y1 y2))
  | 0 => ⟨fun _ _ _ r h => by simp [scarabref02_one.l0] at h, fun _ _ _ r h => by simp [scarabref02_one.l1] at h, fun _ _ _ r h => by simp [scarabref02_one.l2] at h, fun _ _ _ r h => by simp [scarabref02_one.l3] at h⟩
  | k + 1 => by
    obtain ⟨ih0, ih1, ih2, ih3⟩ := scarabref02_one.mono_l k
    refine ⟨?_, ?_, ?_, ?_⟩
    · intro y0 y1 y2
      unfold scarabref02_one.l0
      repeat' first
      | (with_reducible exact ih0 _ _ _)
      | (with_reducible exact ih1 _ _ _)
      | (with_reducible exact ih2 _ _ _)
      | (with_reducible exact ih3 _ _ _)
      | (with_reducible exact scarabref02_converted.mono _ _ _ _)
      | (with_reducible exact LeO.refl _)
      | (with_reducible exact LeO.none _)
      | (with_reducible refine LeO.ite ?_ ?_)
      | (with_reducible refine LeO.bind ?_ (fun _ => ?_))
      | exact ih0 _ _ _
      | exact ih1 _ _ _
      | exact ih2 _ _ _
      | exact ih3 _ _ _
      | exact scarabref02_converted.mono _ _ _ _
      | exact LeO.none _
      | refine LeO.ite ?_ ?_
      | refine LeO.bind ?_ (fun _ => ?_)
    · intro y0 y1 y2
      unfold scarabref02_one.l1
      repeat' first
      | (with_reducible exact ih0 _ _ _)
      | (with_reducible exact ih1 _ _ _)
      | (with_reducible exact ih2 _ _ _)
      | (with_reducible exact ih3 _ _ _)
      | (with_reducible exact scarabref02_converted.mono _ _ _ _)
      | (with_reducible exact LeO.refl _)
      | (with_reducible exact LeO.none _)
      | (with_reducible refine LeO.ite ?_ ?_)
      | (with_reducible refine LeO.bind ?_ (fun _ => ?_))
      | exact ih0 _ _ _
      | exact ih1 _ _ _
      | exact ih2 _ _ _
      | exact ih3 _ _ _
      | exact scarabref02_converted.mono _ _ _ _
      | exact LeO.none _
      | refine LeO.ite ?_ ?_
      | refine LeO.bind ?_ (fun _ => ?_)
    · intro y0 y1 y2
      unfold scarabref02_one.l2
      repeat' first
      | (with_reducible exact ih0 _ _ _)
      | (with_reducible exact ih1 _ _ _)
      | (with_reducible exact ih2 _ _ _)
      | (with_reducible exact ih3 _ _ _)
      | (with_reducible exact scarabref02_converted.mono _ _ _ _)
      | (with_reducible exact LeO.refl _)
      | (with_reducible exact LeO.none _)
      | (with_reducible refine LeO.ite ?_ ?_)
      | (with_reducible refine LeO.bind ?_ (fun _ => ?_))
      | exact ih0 _ _ _
      | exact ih1 _ _ _
      | exact ih2 _ _ _
      | exact ih3 _ _ _
      | exact scarabref02_converted.mono _ _ _ _
      | exact LeO.none _
      | refine LeO.ite ?_ ?_
      | refine LeO.bind ?_ (fun _ => ?_)
    · intro y0 y1 y2
      unfold scarabref02_one.l3
      repeat' first
      | (with_reducible exact ih0 _ _ _)
      | (with_reducible exact ih1 _ _ _)
      | (with_reducible exact ih2 _ _ _)
      | (with_reducible exact ih3 _ _ _)
      | (with_reducible exact scarabref02_converted.mono _ _ _ _)
      | (with_reducible exact LeO.refl _)
      | (with_reducible exact LeO.none _)
      | (with_reducible refine LeO.ite ?_ ?_)
      | (with_reducible refine LeO.bind ?_ (fun _ => ?_))
      | exact ih0 _ _ _
      | exact ih1 _ _ _
      | exact ih2 _ _ _
      | exact ih3 _ _ _
      | exact scarabref02_converted.mono _ _ _ _
      | exact LeO.none _
      | refine LeO.ite ?_ ?_
      | refine LeO.bind ?_ (fun _ => ?_)
theorem scarabref02_one.mono : ∀ a0 a1 k, LeO (scarabref02_one.f k a0 a1) (scarabref02_one.f (k + 1) a0 a1) := by
  intro a0 a1 k
  obtain ⟨ih0, ih1, ih2, ih3⟩ := scarabref02_one.mono_l k
  unfold scarabref02_one.f
  repeat' first
      | (with_reducible exact ih0 _ _ _)
      | (with_reducible exact ih1 _ _ _)
      | (with_reducible exact ih2 _ _ _)
      | (with_reducible exact ih3 _ _ _)
      | (with_reducible exact scarabref02_converted.mono _ _ _ _)
      | (with_reducible exact LeO.refl _)
      | (with_reducible exact LeO.none _)
      | (with_reducible refine LeO.ite ?_ ?_)
      | (with_reducible refine LeO.bind ?_ (fun _ => ?_))
      | exact ih0 _ _ _
      | exact ih1 _ _ _
      | exact ih2 _ _ _
      | exact ih3 _ _ _
      | exact scarabref02_converted.mono _ _ _ _
      | exact LeO.none _
      | refine LeO.ite ?_ ?_
      | refine LeO.bind ?_ (fun _ => ?_)
set_option maxHeartbeats 8000000 in
set_option maxRecDepth 100000 in
theorem scarabref02_one.calls_0 (k : Nat) (a0 : Int) (a1 : Int) (r : Int) (w : World) (h : scarabref02_one.f k a0 a1 = some r) (c3 : a0 = 1) :
    Calls Tryd.prog 47 #[.int .i64 a0, .int .i64 a1] w fun e w' => e = .returned (.int .i64 r) ∧ Drawn0 w w' := by
  have H : (if a0 = 1 then (some (wrap64 (-a1))) else (if a0 = 2 then (some (wrap64 ((-1) - a1))) else (if a0 = 3 then (if a1 < 0 then (some (wrap64 (-a1))) else (some a1)) else (if a0 = 4 then (scarabref02_one.l0 k a1 0 0) else (if a0 = 5 then (scarabref02_one.l1 k a1 0 63) else (if a0 = 6 then (scarabref02_one.l2 k a1 0 0) else (if a0 = 7 then (scarabref02_one.l3 k a1 0 0) else (if a0 = 8 then ((scarabref02_yes.f (a1 != 0)).bind fun t218 => (some t218)) else (if a0 = 9 then ((scarabref02_yes.f (a1 == 0)).bind fun t219 => (some t219)) else (if a0 = 10 then ((scarabref02_converted.f k a1 8 true).bind fun t220 => (some t220)) else (if a0 = 11 then ((scarabref02_converted.f k a1 16 true).bind fun t221 => (some t221)) else (if a0 = 12 then ((scarabref02_converted.f k a1 32 true).bind fun t222 => (some t222)) else (if a0 = 13 then ((scarabref02_converted.f k a1 8 false).bind fun t223 => (some t223)) else (if a0 = 14 then ((scarabref02_converted.f k a1 16 false).bind fun t224 => (some t224)) else ((scarabref02_converted.f k a1 32 false).bind fun t225 => (some t225)))))))))))))))) = some r := h
  clear h
  rw [if_pos c3] at H
  have c3b0 : (a0 == 1) = true := beq_iff_eq.mpr c3
  have c3b1 : (a0 != 1) = false := bne_eq_false_iff_eq.mpr c3
  clear c3
  obtain rfl := Option.some.inj H
  go_enter Tryd.func47, Tryd.ntmps47
  go_wp2
  go_ret
  exact ⟨by first | rfl | (simp; done) | (simp [*]; done), by repeat (first | exact Drawn0.refl _ | apply Drawn0.step)⟩
set_option maxHeartbeats 8000000 in
set_option maxRecDepth 100000 in
theorem scarabref02_one.calls_1 (k : Nat) (a0 : Int) (a1 : Int) (r : Int) (w : World) (h : scarabref02_one.f k a0 a1 = some r) (c3 : ¬ (a0 = 1)) (c4 : a0 = 2) :
    Calls Tryd.prog 47 #[.int .i64 a0, .int .i64 a1] w fun e w' => e = .returned (.int .i64 r) ∧ Drawn0 w w' := by
  have H : (if a0 = 1 then (some (wrap64 (-a1))) else (if a0 = 2 then (some (wrap64 ((-1) - a1))) else (if a0 = 3 then (if a1 < 0 then (some (wrap64 (-a1))) else (some a1)) else (if a0 = 4 then (scarabref02_one.l0 k a1 0 0) else (if a0 = 5 then (scarabref02_one.l1 k a1 0 63) else (if a0 = 6 then (scarabref02_one.l2 k a1 0 0) else (if a0 = 7 then (scarabref02_one.l3 k a1 0 0) else (if a0 = 8 then ((scarabref02_yes.f (a1 != 0)).bind fun t218 => (some t218)) else (if a0 = 9 then ((scarabref02_yes.f (a1 == 0)).bind fun t219 => (some t219)) else (if a0 = 10 then ((scarabref02_converted.f k a1 8 true).bind fun t220 => (some t220)) else (if a0 = 11 then ((scarabref02_converted.f k a1 16 true).bind fun t221 => (some t221)) else (if a0 = 12 then ((scarabref02_converted.f k a1 32 true).bind fun t222 => (some t222)) else (if a0 = 13 then ((scarabref02_converted.f k a1 8 false).bind fun t223 => (some t223)) else (if a0 = 14 then ((scarabref02_converted.f k a1 16 false).bind fun t224 => (some t224)) else ((scarabref02_converted.f k a1 32 false).bind fun t225 => (some t225)))))))))))))))) = some r := h
  clear h
  rw [if_neg c3] at H
  have c3b0 : (a0 == 1) = false := beq_eq_false_iff_ne.mpr c3
  have c3b1 : (a0 != 1) = true := bne_iff_ne.mpr c3
  rw [if_pos c4] at H
  have c4b0 : (a0 == 2) = true := beq_iff_eq.mpr c4
  have c4b1 : (a0 != 2) = false := bne_eq_false_iff_eq.mpr c4
  clear c4
  obtain rfl := Option.some.inj H
  go_enter Tryd.func47, Tryd.ntmps47
  go_wp2
  go_ret
  exact ⟨by first | rfl | (simp; done) | (simp [*]; done), by repeat (first | exact Drawn0.refl _ | apply Drawn0.step)⟩
set_option maxHeartbeats 8000000 in
set_option maxRecDepth 100000 in
theorem scarabref02_one.calls_2 (k : Nat) (a0 : Int) (a1 : Int) (r : Int) (w : World) (h : scarabref02_one.f k a0 a1 = some r) (c3 : ¬ (a0 = 1)) (c4 : ¬ (a0 = 2)) (c5 : a0 = 3) (c6 : a1 < 0) :
    Calls Tryd.prog 47 #[.int .i64 a0, .int .i64 a1] w fun e w' => e = .returned (.int .i64 r) ∧ Drawn0 w w' := by
  have H : (if a0 = 1 then (some (wrap64 (-a1))) else (if a0 = 2 then (some (wrap64 ((-1) - a1))) else (if a0 = 3 then (if a1 < 0 then (some (wrap64 (-a1))) else (some a1)) else (if a0 = 4 then (scarabref02_one.l0 k a1 0 0) else (if a0 = 5 then (scarabref02_one.l1 k a1 0 63) else (if a0 = 6 then (scarabref02_one.l2 k a1 0 0) else (if a0 = 7 then (scarabref02_one.l3 k a1 0 0) else (if a0 = 8 then ((scarabref02_yes.f (a1 != 0)).bind fun t218 => (some t218)) else (if a0 = 9 then ((scarabref02_yes.f (a1 == 0)).bind fun t219 => (some t219)) else (if a0 = 10 then ((scarabref02_converted.f k a1 8 true).bind fun t220 => (some t220)) else (if a0 = 11 then ((scarabref02_converted.f k a1 16 true).bind fun t221 => (some t221)) else (if a0 = 12 then ((scarabref02_converted.f k a1 32 true).bind fun t222 => (some t222)) else (if a0 = 13 then ((scarabref02_converted.f k a1 8 false).bind fun t223 => (some t223)) else (if a0 = 14 then ((scarabref02_converted.f k a1 16 false).bind fun t224 => (some t224)) else ((scarabref02_converted.f k a1 32 false).bind fun t225 => (some t225)))))))))))))))) = some r := h
  clear h
  rw [if_neg c3] at H
  have c3b0 : (a0 == 1) = false := beq_eq_false_iff_ne.mpr c3
  have c3b1 : (a0 != 1) = true := bne_iff_ne.mpr c3
  rw [if_neg c4] at H
  have c4b0 : (a0 == 2) = false := beq_eq_false_iff_ne.mpr c4
  have c4b1 : (a0 != 2) = true := bne_iff_ne.mpr c4
  rw [if_pos c5] at H
  have c5b0 : (a0 == 3) = true := beq_iff_eq.mpr c5
  have c5b1 : (a0 != 3) = false := bne_eq_false_iff_eq.mpr c5
  clear c5
  rw [if_pos c6] at H
  have c6b0 : decide (a1 < 0) = true := decide_eq_true c6
  clear c6
  obtain rfl := Option.some.inj H
  go_enter Tryd.func47, Tryd.ntmps47
  go_wp2
  go_ret
  exact ⟨by first | rfl | (simp; done) | (simp [*]; done), by repeat (first | exact Drawn0.refl _ | apply Drawn0.step)⟩
set_option maxHeartbeats 8000000 in
set_option maxRecDepth 100000 in
theorem scarabref02_one.calls_3 (k : Nat) (a0 : Int) (a1 : Int) (r : Int) (w : World) (h : scarabref02_one.f k a0 a1 = some r) (c3 : ¬ (a0 = 1)) (c4 : ¬ (a0 = 2)) (c5 : a0 = 3) (c6 : ¬ (a1 < 0)) :
    Calls Tryd.prog 47 #[.int .i64 a0, .int .i64 a1] w fun e w' => e = .returned (.int .i64 r) ∧ Drawn0 w w' := by
  have H : (if a0 = 1 then (some (wrap64 (-a1))) else (if a0 = 2 then (some (wrap64 ((-1) - a1))) else (if a0 = 3 then (if a1 < 0 then (some (wrap64 (-a1))) else (some a1)) else (if a0 = 4 then (scarabref02_one.l0 k a1 0 0) else (if a0 = 5 then (scarabref02_one.l1 k a1 0 63) else (if a0 = 6 then (scarabref02_one.l2 k a1 0 0) else (if a0 = 7 then (scarabref02_one.l3 k a1 0 0) else (if a0 = 8 then ((scarabref02_yes.f (a1 != 0)).bind fun t218 => (some t218)) else (if a0 = 9 then ((scarabref02_yes.f (a1 == 0)).bind fun t219 => (some t219)) else (if a0 = 10 then ((scarabref02_converted.f k a1 8 true).bind fun t220 => (some t220)) else (if a0 = 11 then ((scarabref02_converted.f k a1 16 true).bind fun t221 => (some t221)) else (if a0 = 12 then ((scarabref02_converted.f k a1 32 true).bind fun t222 => (some t222)) else (if a0 = 13 then ((scarabref02_converted.f k a1 8 false).bind fun t223 => (some t223)) else (if a0 = 14 then ((scarabref02_converted.f k a1 16 false).bind fun t224 => (some t224)) else ((scarabref02_converted.f k a1 32 false).bind fun t225 => (some t225)))))))))))))))) = some r := h
  clear h
  rw [if_neg c3] at H
  have c3b0 : (a0 == 1) = false := beq_eq_false_iff_ne.mpr c3
  have c3b1 : (a0 != 1) = true := bne_iff_ne.mpr c3
  rw [if_neg c4] at H
  have c4b0 : (a0 == 2) = false := beq_eq_false_iff_ne.mpr c4
  have c4b1 : (a0 != 2) = true := bne_iff_ne.mpr c4
  rw [if_pos c5] at H
  have c5b0 : (a0 == 3) = true := beq_iff_eq.mpr c5
  have c5b1 : (a0 != 3) = false := bne_eq_false_iff_eq.mpr c5
  clear c5
  rw [if_neg c6] at H
  have c6b0 : decide (a1 < 0) = false := decide_eq_false c6
  clear c6
  obtain rfl := Option.some.inj H
  go_enter Tryd.func47, Tryd.ntmps47
  go_wp2
  go_ret
  exact ⟨by first | rfl | (simp; done) | (simp [*]; done), by repeat (first | exact Drawn0.refl _ | apply Drawn0.step)⟩
set_option maxHeartbeats 8000000 in
set_option maxRecDepth 100000 in
theorem scarabref02_one.calls_4 (k : Nat) (a0 : Int) (a1 : Int) (r : Int) (w : World) (h : scarabref02_one.f k a0 a1 = some r) (c3 : ¬ (a0 = 1)) (c4 : ¬ (a0 = 2)) (c5 : ¬ (a0 = 3)) (c7 : a0 = 4) :
    Calls Tryd.prog 47 #[.int .i64 a0, .int .i64 a1] w fun e w' => e = .returned (.int .i64 r) ∧ Drawn0 w w' := by
  have H : (if a0 = 1 then (some (wrap64 (-a1))) else (if a0 = 2 then (some (wrap64 ((-1) - a1))) else (if a0 = 3 then (if a1 < 0 then (some (wrap64 (-a1))) else (some a1)) else (if a0 = 4 then (scarabref02_one.l0 k a1 0 0) else (if a0 = 5 then (scarabref02_one.l1 k a1 0 63) else (if a0 = 6 then (scarabref02_one.l2 k a1 0 0) else (if a0 = 7 then (scarabref02_one.l3 k a1 0 0) else (if a0 = 8 then ((scarabref02_yes.f (a1 != 0)).bind fun t218 => (some t218)) else (if a0 = 9 then ((scarabref02_yes.f (a1 == 0)).bind fun t219 => (some t219)) else (if a0 = 10 then ((scarabref02_converted.f k a1 8 true).bind fun t220 => (some t220)) else (if a0 = 11 then ((scarabref02_converted.f k a1 16 true).bind fun t221 => (some t221)) else (if a0 = 12 then ((scarabref02_converted.f k a1 32 true).bind fun t222 => (some t222)) else (if a0 = 13 then ((scarabref02_converted.f k a1 8 false).bind fun t223 => (some t223)) else (if a0 = 14 then ((scarabref02_converted.f k a1 16 false).bind fun t224 => (some t224)) else ((scarabref02_converted.f k a1 32 false).bind fun t225 => (some t225)))))))))))))))) = some r := h
  clear h
  rw [if_neg c3] at H
  have c3b0 : (a0 == 1) = false := beq_eq_false_iff_ne.mpr c3
  have c3b1 : (a0 != 1) = true := bne_iff_ne.mpr c3
  rw [if_neg c4] at H
  have c4b0 : (a0 == 2) = false := beq_eq_false_iff_ne.mpr c4
  have c4b1 : (a0 != 2) = true := bne_iff_ne.mpr c4
  rw [if_neg c5] at H
  have c5b0 : (a0 == 3) = false := beq_eq_false_iff_ne.mpr c5
  have c5b1 : (a0 != 3) = true := bne_iff_ne.mpr c5
  rw [if_pos c7] at H
  have c7b0 : (a0 == 4) = true := beq_iff_eq.mpr c7
  have c7b1 : (a0 != 4) = false := bne_eq_false_iff_eq.mpr c7
  clear c7
  have H' := Aside0.mk H
  clear H
  go_enter Tryd.func47, Tryd.ntmps47
  go_wp2
  go_loopg [5, 6] k (fun kq v5 v6 w' => ∃ (x5_1 : Int) (x6_1 : Int), v5 = .int .i64 x5_1 ∧ v6 = .int .i64 x6_1 ∧ Aside0 (scarabref02_one.l0 kq a1 x5_1 x6_1 = some r) ∧ Aside0 (kq ≤ k) ∧ Drawn0 w w')
  case atStart => exact ⟨(0), (0), (by first | rfl | (simp; done) | (simp [*]; done)), (by first | rfl | (simp; done) | (simp [*]; done)), H', ⟨Nat.le_refl _⟩, by repeat (first | exact Drawn0.refl _ | apply Drawn0.step)⟩
  case round =>
    clear H'
    try clear p2
    try clear c3
    try clear c3b0
    try clear c3b1
    try clear c4
    try clear c4b0
    try clear c4b1
    try clear c5
    try clear c5b0
    try clear c5b1
    try clear c6
    try clear c6b0
    try clear p6
    try clear c7
    try clear c7b0
    try clear c7b1
    obtain ⟨x5_1, x6_1, rfl, rfl, HA, HK1, ⟨m1, rfl⟩⟩ := hrel
    cases gk with
    | zero => exact absurd HA.out (by simp [scarabref02_one.l0])
    | succ k1 =>
      have H := HA.out
      clear HA
      simp only [scarabref02_one.l0] at H
      by_cases c8 : x6_1 < 64
      · rw [if_pos c8] at H
        have c8b0 : decide (x6_1 < 64) = true := decide_eq_true c8
        clear c8
        replace H := Option.bind_eq_some_iff.mp H
        obtain ⟨t213, A90, H⟩ := H
        replace H : (scarabref02_one.l0 k1 a1 (wrap64 (x5_1 + t213)) (wrap64 (x6_1 + 1))) = some r := H
        have A9 := Aside0.mk A90
        clear A90
        have H' := Aside0.mk H
        clear H
        go_wp2_with (first | ((with_reducible refine gate_callee (f := 42) rfl ?_); refine goesL_ (some 38) rfl rfl Tryd.func42 (by kernel_rfl) rfl #[.int .i64 a1, .int .i64 x6_1] rfl (by (try simp only [List.map_toArray, List.map_cons, List.map_nil]); first | done | rfl | (simp only [List.length_drop, List.length_take]; rfl)) ?_; (with_reducible refine (scarabref02_bit.calls a1 x6_1 t213 _ A9.out).mono ?_); rintro e w' ⟨rfl, ⟨nd, rfl⟩⟩; refine ⟨_, rfl, ?_⟩))
        go_roundg k1
        case measure => have := HK1.out; omega
        case rel => exact ⟨(wrap64 (x5_1 + t213)), (wrap64 (x6_1 + 1)), (by first | rfl | (simp; done) | (simp [*]; done)), (by first | rfl | (simp; done) | (simp [*]; done)), H', ⟨by have := HK1.out; omega⟩, by repeat (first | exact Drawn0.refl _ | apply Drawn0.step)⟩
      · rw [if_neg c8] at H
        have c8b0 : decide (x6_1 < 64) = false := decide_eq_false c8
        clear c8
        obtain rfl := Option.some.inj H
        go_wp2
        go_ret
        exact ⟨by first | rfl | (simp; done) | (simp [*]; done), by repeat (first | exact Drawn0.refl _ | apply Drawn0.step)⟩
set_option maxHeartbeats 8000000 in
set_option maxRecDepth 100000 in
theorem scarabref02_one.calls_5 (k : Nat) (a0 : Int) (a1 : Int) (r : Int) (w : World) (h : scarabref02_one.f k a0 a1 = some r) (c3 : ¬ (a0 = 1)) (c4 : ¬ (a0 = 2)) (c5 : ¬ (a0 = 3)) (c7 : ¬ (a0 = 4)) (c10 : a0 = 5) :
    Calls Tryd.prog 47 #[.int .i64 a0, .int .i64 a1] w fun e w' => e = .returned (.int .i64 r) ∧ Drawn0 w w' := by
  have H : (if a0 = 1 then (some (wrap64 (-a1))) else (if a0 = 2 then (some (wrap64 ((-1) - a1))) else (if a0 = 3 then (if a1 < 0 then (some (wrap64 (-a1))) else (some a1)) else (if a0 = 4 then (scarabref02_one.l0 k a1 0 0) else (if a0 = 5 then (scarabref02_one.l1 k a1 0 63) else (if a0 = 6 then (scarabref02_one.l2 k a1 0 0) else (if a0 = 7 then (scarabref02_one.l3 k a1 0 0) else (if a0 = 8 then ((scarabref02_yes.f (a1 != 0)).bind fun t218 => (some t218)) else (if a0 = 9 then ((scarabref02_yes.f (a1 == 0)).bind fun t219 => (some t219)) else (if a0 = 10 then ((scarabref02_converted.f k a1 8 true).bind fun t220 => (some t220)) else (if a0 = 11 then ((scarabref02_converted.f k a1 16 true).bind fun t221 => (some t221)) else (if a0 = 12 then ((scarabref02_converted.f k a1 32 true).bind fun t222 => (some t222)) else (if a0 = 13 then ((scarabref02_converted.f k a1 8 false).bind fun t223 => (some t223)) else (if a0 = 14 then ((scarabref02_converted.f k a1 16 false).bind fun t224 => (some t224)) else ((scarabref02_converted.f k a1 32 false).bind fun t225 => (some t225)))))))))))))))) = some r := h
  clear h
  rw [if_neg c3] at H
  have c3b0 : (a0 == 1) = false := beq_eq_false_iff_ne.mpr c3
  have c3b1 : (a0 != 1) = true := bne_iff_ne.mpr c3
  rw [if_neg c4] at H
  have c4b0 : (a0 == 2) = false := beq_eq_false_iff_ne.mpr c4
  have c4b1 : (a0 != 2) = true := bne_iff_ne.mpr c4
  rw [if_neg c5] at H
  have c5b0 : (a0 == 3) = false := beq_eq_false_iff_ne.mpr c5
  have c5b1 : (a0 != 3) = true := bne_iff_ne.mpr c5
  rw [if_neg c7] at H
  have c7b0 : (a0 == 4) = false := beq_eq_false_iff_ne.mpr c7
  have c7b1 : (a0 != 4) = true := bne_iff_ne.mpr c7
  rw [if_pos c10] at H
  have c10b0 : (a0 == 5) = true := beq_iff_eq.mpr c10
  have c10b1 : (a0 != 5) = false := bne_eq_false_iff_eq.mpr c10
  clear c10
  have H' := Aside0.mk H
  clear H
  go_enter Tryd.func47, Tryd.ntmps47
  go_wp2
  go_loopg [7, 8] k (fun kq v7 v8 w' => ∃ (x7_1 : Int) (x8_1 : Int), v7 = .int .i64 x7_1 ∧ v8 = .int .i64 x8_1 ∧ Aside0 (scarabref02_one.l1 kq a1 x7_1 x8_1 = some r) ∧ Aside0 (kq ≤ k) ∧ Drawn0 w w')
  case atStart => exact ⟨(0), (63), (by first | rfl | (simp; done) | (simp [*]; done)), (by first | rfl | (simp; done) | (simp [*]; done)), H', ⟨Nat.le_refl _⟩, by repeat (first | exact Drawn0.refl _ | apply Drawn0.step)⟩
  case round =>
    clear H'
    try clear c1
    try clear p2
    try clear c3
    try clear c3b0
    try clear c3b1
    try clear c4
    try clear c4b0
    try clear c4b1
    try clear c5
    try clear c5b0
    try clear c5b1
    try clear c6
    try clear c6b0
    try clear p6
    try clear c7
    try clear c7b0
    try clear c7b1
    try clear c8
    try clear c8b0
    try clear c10
    try clear c10b0
    try clear c10b1
    try clear p2
    try clear p6
    obtain ⟨x7_1, x8_1, rfl, rfl, HA, HK1, ⟨m1, rfl⟩⟩ := hrel
    cases gk with
    | zero => exact absurd HA.out (by simp [scarabref02_one.l1])
    | succ k1 =>
      have H := HA.out
      clear HA
      simp only [scarabref02_one.l1] at H
      by_cases c11 : x8_1 ≥ 0
      · rw [if_pos c11] at H
        have c11b0 : decide (0 ≤ x8_1) = true := decide_eq_true c11
        clear c11
        replace H := Option.bind_eq_some_iff.mp H
        obtain ⟨t214, A120, H⟩ := H
        replace H : (if t214 = 0 then (scarabref02_one.l1 k1 a1 (wrap64 (x7_1 + 1)) (wrap64 (x8_1 - 1))) else (some x7_1)) = some r := H
        have A12 := Aside0.mk A120
        clear A120
        by_cases c13 : t214 = 0
        · rw [if_pos c13] at H
          have c13b0 : (t214 == 0) = true := beq_iff_eq.mpr c13
          have c13b1 : (t214 != 0) = false := bne_eq_false_iff_eq.mpr c13
          clear c13
          have H' := Aside0.mk H
          clear H
          go_wp2_with (first | (go_at_call 42; (with_reducible refine (scarabref02_bit.calls a1 x8_1 t214 _ A12.out).mono ?_); rintro e w' ⟨rfl, ⟨nd, rfl⟩⟩))
          go_roundg k1
          case measure => have := HK1.out; omega
          case rel => exact ⟨(wrap64 (x7_1 + 1)), (wrap64 (x8_1 - 1)), (by first | rfl | (simp; done) | (simp [*]; done)), (by first | rfl | (simp; done) | (simp [*]; done)), H', ⟨by have := HK1.out; omega⟩, by repeat (first | exact Drawn0.refl _ | apply Drawn0.step)⟩
        · rw [if_neg c13] at H
          have c13b0 : (t214 == 0) = false := beq_eq_false_iff_ne.mpr c13
          have c13b1 : (t214 != 0) = true := bne_iff_ne.mpr c13
          obtain rfl := Option.some.inj H
          go_wp2_with (first | (go_at_call 42; (with_reducible refine (scarabref02_bit.calls a1 x8_1 t214 _ A12.out).mono ?_); rintro e w' ⟨rfl, ⟨nd, rfl⟩⟩))
          go_ret
          exact ⟨by first | rfl | (simp; done) | (simp [*]; done), by repeat (first | exact Drawn0.refl _ | apply Drawn0.step)⟩
      · rw [if_neg c11] at H
        have c11b0 : decide (0 ≤ x8_1) = false := decide_eq_false c11
        clear c11
        obtain rfl := Option.some.inj H
        go_wp2
        go_ret
        exact ⟨by first | rfl | (simp; done) | (simp [*]; done), by repeat (first | exact Drawn0.refl _ | apply Drawn0.step)⟩
set_option maxHeartbeats 8000000 in
set_option maxRecDepth 100000 in
theorem scarabref02_one.calls_6 (k : Nat) (a0 : Int) (a1 : Int) (r : Int) (w : World) (h : scarabref02_one.f k a0 a1 = some r) (c3 : ¬ (a0 = 1)) (c4 : ¬ (a0 = 2)) (c5 : ¬ (a0 = 3)) (c7 : ¬ (a0 = 4)) (c10 : ¬ (a0 = 5)) (c14 : a0 = 6) :
    Calls Tryd.prog 47 #[.int .i64 a0, .int .i64 a1] w fun e w' => e = .returned (.int .i64 r) ∧ Drawn0 w w' := by
  have H : (if a0 = 1 then (some (wrap64 (-a1))) else (if a0 = 2 then (some (wrap64 ((-1) - a1))) else (if a0 = 3 then (if a1 < 0 then (some (wrap64 (-a1))) else (some a1)) else (if a0 = 4 then (scarabref02_one.l0 k a1 0 0) else (if a0 = 5 then (scarabref02_one.l1 k a1 0 63) else (if a0 = 6 then (scarabref02_one.l2 k a1 0 0) else (if a0 = 7 then (scarabref02_one.l3 k a1 0 0) else (if a0 = 8 then ((scarabref02_yes.f (a1 != 0)).bind fun t218 => (some t218)) else (if a0 = 9 then ((scarabref02_yes.f (a1 == 0)).bind fun t219 => (some t219)) else (if a0 = 10 then ((scarabref02_converted.f k a1 8 true).bind fun t220 => (some t220)) else (if a0 = 11 then ((scarabref02_converted.f k a1 16 true).bind fun t221 => (some t221)) else (if a0 = 12 then ((scarabref02_converted.f k a1 32 true).bind fun t222 => (some t222)) else (if a0 = 13 then ((scarabref02_converted.f k a1 8 false).bind fun t223 => (some t223)) else (if a0 = 14 then ((scarabref02_converted.f k a1 16 false).bind fun t224 => (some t224)) else ((scarabref02_converted.f k a1 32 false).bind fun t225 => (some t225)))))))))))))))) = some r := h
  clear h
  rw [if_neg c3] at H
  have c3b0 : (a0 == 1) = false := beq_eq_false_iff_ne.mpr c3
  have c3b1 : (a0 != 1) = true := bne_iff_ne.mpr c3
  rw [if_neg c4] at H
  have c4b0 : (a0 == 2) = false := beq_eq_false_iff_ne.mpr c4
  have c4b1 : (a0 != 2) = true := bne_iff_ne.mpr c4
  rw [if_neg c5] at H
  have c5b0 : (a0 == 3) = false := beq_eq_false_iff_ne.mpr c5
  have c5b1 : (a0 != 3) = true := bne_iff_ne.mpr c5
  rw [if_neg c7] at H
  have c7b0 : (a0 == 4) = false := beq_eq_false_iff_ne.mpr c7
  have c7b1 : (a0 != 4) = true := bne_iff_ne.mpr c7
  rw [if_neg c10] at H
  have c10b0 : (a0 == 5) = false := beq_eq_false_iff_ne.mpr c10
  have c10b1 : (a0 != 5) = true := bne_iff_ne.mpr c10
  rw [if_pos c14] at H
  have c14b0 : (a0 == 6) = true := beq_iff_eq.mpr c14
  have c14b1 : (a0 != 6) = false := bne_eq_false_iff_eq.mpr c14
  clear c14
  have H' := Aside0.mk H
  clear H
  go_enter Tryd.func47, Tryd.ntmps47
  go_wp2
  go_loopg [9, 10] k (fun kq v9 v10 w' => ∃ (x9_1 : Int) (x10_1 : Int), v9 = .int .i64 x9_1 ∧ v10 = .int .i64 x10_1 ∧ Aside0 (scarabref02_one.l2 kq a1 x9_1 x10_1 = some r) ∧ Aside0 (kq ≤ k) ∧ Drawn0 w w')
  case atStart => exact ⟨(0), (0), (by first | rfl | (simp; done) | (simp [*]; done)), (by first | rfl | (simp; done) | (simp [*]; done)), H', ⟨Nat.le_refl _⟩, by repeat (first | exact Drawn0.refl _ | apply Drawn0.step)⟩
  case round =>
    clear H'
    try clear c1
    try clear p2
    try clear c3
    try clear c3b0
    try clear c3b1
    try clear c4
    try clear c4b0
    try clear c4b1
    try clear c5
    try clear c5b0
    try clear c5b1
    try clear c6
    try clear c6b0
    try clear p6
    try clear c7
    try clear c7b0
    try clear c7b1
    try clear c8
    try clear c8b0
    try clear c10
    try clear c10b0
    try clear c10b1
    try clear c11
    try clear c11b0
    try clear c13
    try clear c13b0
    try clear c13b1
    try clear c14
    try clear c14b0
    try clear c14b1
    try clear p2
    try clear p6
    obtain ⟨x9_1, x10_1, rfl, rfl, HA, HK1, ⟨m1, rfl⟩⟩ := hrel
    cases gk with
    | zero => exact absurd HA.out (by simp [scarabref02_one.l2])
    | succ k1 =>
      have H := HA.out
      clear HA
      simp only [scarabref02_one.l2] at H
      by_cases c15 : x10_1 < 64
      · rw [if_pos c15] at H
        have c15b0 : decide (x10_1 < 64) = true := decide_eq_true c15
        clear c15
        replace H := Option.bind_eq_some_iff.mp H
        obtain ⟨t215, A160, H⟩ := H
        replace H : (if t215 = 0 then (scarabref02_one.l2 k1 a1 (wrap64 (x9_1 + 1)) (wrap64 (x10_1 + 1))) else (some x9_1)) = some r := H
        have A16 := Aside0.mk A160
        clear A160
        by_cases c17 : t215 = 0
        · rw [if_pos c17] at H
          have c17b0 : (t215 == 0) = true := beq_iff_eq.mpr c17
          have c17b1 : (t215 != 0) = false := bne_eq_false_iff_eq.mpr c17
          clear c17
          have H' := Aside0.mk H
          clear H
          go_wp2_with (first | (go_at_call 42; (with_reducible refine (scarabref02_bit.calls a1 x10_1 t215 _ A16.out).mono ?_); rintro e w' ⟨rfl, ⟨nd, rfl⟩⟩))
          go_roundg k1
          case measure => have := HK1.out; omega
          case rel => exact ⟨(wrap64 (x9_1 + 1)), (wrap64 (x10_1 + 1)), (by first | rfl | (simp; done) | (simp [*]; done)), (by first | rfl | (simp; done) | (simp [*]; done)), H', ⟨by have := HK1.out; omega⟩, by repeat (first | exact Drawn0.refl _ | apply Drawn0.step)⟩
        · rw [if_neg c17] at H
          have c17b0 : (t215 == 0) = false := beq_eq_false_iff_ne.mpr c17
          have c17b1 : (t215 != 0) = true := bne_iff_ne.mpr c17
          obtain rfl := Option.some.inj H
          go_wp2_with (first | (go_at_call 42; (with_reducible refine (scarabref02_bit.calls a1 x10_1 t215 _ A16.out).mono ?_); rintro e w' ⟨rfl, ⟨nd, rfl⟩⟩))
          go_ret
          exact ⟨by first | rfl | (simp; done) | (simp [*]; done), by repeat (first | exact Drawn0.refl _ | apply Drawn0.step)⟩
      · rw [if_neg c15] at H
        have c15b0 : decide (x10_1 < 64) = false := decide_eq_false c15
        clear c15
        obtain rfl := Option.some.inj H
        go_wp2
        go_ret
        exact ⟨by first | rfl | (simp; done) | (simp [*]; done), by repeat (first | exact Drawn0.refl _ | apply Drawn0.step)⟩
set_option maxHeartbeats 8000000 in
set_option maxRecDepth 100000 in
theorem scarabref02_one.calls_7 (k : Nat) (a0 : Int) (a1 : Int) (r : Int) (w : World) (h : scarabref02_one.f k a0 a1 = some r) (c3 : ¬ (a0 = 1)) (c4 : ¬ (a0 = 2)) (c5 : ¬ (a0 = 3)) (c7 : ¬ (a0 = 4)) (c10 : ¬ (a0 = 5)) (c14 : ¬ (a0 = 6)) (c18 : a0 = 7) :
    Calls Tryd.prog 47 #[.int .i64 a0, .int .i64 a1] w fun e w' => e = .returned (.int .i64 r) ∧ Drawn0 w w' := by
  have H : (if a0 = 1 then (some (wrap64 (-a1))) else (if a0 = 2 then (some (wrap64 ((-1) - a1))) else (if a0 = 3 then (if a1 < 0 then (some (wrap64 (-a1))) else (some a1)) else (if a0 = 4 then (scarabref02_one.l0 k a1 0 0) else (if a0 = 5 then (scarabref02_one.l1 k a1 0 63) else (if a0 = 6 then (scarabref02_one.l2 k a1 0 0) else (if a0 = 7 then (scarabref02_one.l3 k a1 0 0) else (if a0 = 8 then ((scarabref02_yes.f (a1 != 0)).bind fun t218 => (some t218)) else (if a0 = 9 then ((scarabref02_yes.f (a1 == 0)).bind fun t219 => (some t219)) else (if a0 = 10 then ((scarabref02_converted.f k a1 8 true).bind fun t220 => (some t220)) else (if a0 = 11 then ((scarabref02_converted.f k a1 16 true).bind fun t221 => (some t221)) else (if a0 = 12 then ((scarabref02_converted.f k a1 32 true).bind fun t222 => (some t222)) else (if a0 = 13 then ((scarabref02_converted.f k a1 8 false).bind fun t223 => (some t223)) else (if a0 = 14 then ((scarabref02_converted.f k a1 16 false).bind fun t224 => (some t224)) else ((scarabref02_converted.f k a1 32 false).bind fun t225 => (some t225)))))))))))))))) = some r := h
  clear h
  rw [if_neg c3] at H
  have c3b0 : (a0 == 1) = false := beq_eq_false_iff_ne.mpr c3
  have c3b1 : (a0 != 1) = true := bne_iff_ne.mpr c3
  rw [if_neg c4] at H
  have c4b0 : (a0 == 2) = false := beq_eq_false_iff_ne.mpr c4
  have c4b1 : (a0 != 2) = true := bne_iff_ne.mpr c4
  rw [if_neg c5] at H
  have c5b0 : (a0 == 3) = false := beq_eq_false_iff_ne.mpr c5
  have c5b1 : (a0 != 3) = true := bne_iff_ne.mpr c5
  rw [if_neg c7] at H
  have c7b0 : (a0 == 4) = false := beq_eq_false_iff_ne.mpr c7
  have c7b1 : (a0 != 4) = true := bne_iff_ne.mpr c7
  rw [if_neg c10] at H
  have c10b0 : (a0 == 5) = false := beq_eq_false_iff_ne.mpr c10
  have c10b1 : (a0 != 5) = true := bne_iff_ne.mpr c10
  rw [if_neg c14] at H
  have c14b0 : (a0 == 6) = false := beq_eq_false_iff_ne.mpr c14
  have c14b1 : (a0 != 6) = true := bne_iff_ne.mpr c14
  rw [if_pos c18] at H
  have c18b0 : (a0 == 7) = true := beq_iff_eq.mpr c18
  have c18b1 : (a0 != 7) = false := bne_eq_false_iff_eq.mpr c18
  clear c18
  have H' := Aside0.mk H
  clear H
  go_enter Tryd.func47, Tryd.ntmps47
  go_wp2
  go_loopg [11, 12] k (fun kq v11 v12 w' => ∃ (x11_1 : Int) (x12_1 : Int), v11 = .int .i64 x11_1 ∧ v12 = .int .i64 x12_1 ∧ Aside0 (scarabref02_one.l3 kq a1 x11_1 x12_1 = some r) ∧ Aside0 (kq ≤ k) ∧ Drawn0 w w')
  case atStart => exact ⟨(0), (0), (by first | rfl | (simp; done) | (simp [*]; done)), (by first | rfl | (simp; done) | (simp [*]; done)), H', ⟨Nat.le_refl _⟩, by repeat (first | exact Drawn0.refl _ | apply Drawn0.step)⟩
  case round =>
    clear H'
    try clear c1
    try clear p2
    try clear c3
    try clear c3b0
    try clear c3b1
    try clear c4
    try clear c4b0
    try clear c4b1
    try clear c5
    try clear c5b0
    try clear c5b1
    try clear c6
    try clear c6b0
    try clear p6
    try clear c7
    try clear c7b0
    try clear c7b1
    try clear c8
    try clear c8b0
    try clear c10
    try clear c10b0
    try clear c10b1
    try clear c11
    try clear c11b0
    try clear c13
    try clear c13b0
    try clear c13b1
    try clear c14
    try clear c14b0
    try clear c14b1
    try clear c15
    try clear c15b0
    try clear c17
    try clear c17b0
    try clear c17b1
    try clear c18
    try clear c18b0
    try clear c18b1
    try clear p2
    try clear p6
    obtain ⟨x11_1, x12_1, rfl, rfl, HA, HK1, ⟨m1, rfl⟩⟩ := hrel
    cases gk with
    | zero => exact absurd HA.out (by simp [scarabref02_one.l3])
    | succ k1 =>
      have H := HA.out
      clear HA
      simp only [scarabref02_one.l3] at H
      by_cases c19 : x12_1 < 64
      · rw [if_pos c19] at H
        have c19b0 : decide (x12_1 < 64) = true := decide_eq_true c19
        clear c19
        replace H := Option.bind_eq_some_iff.mp H
        obtain ⟨t216, A200, H⟩ := H
        replace H : ((scarabref02_put.f x11_1 x12_1 t216).bind fun t217 => (scarabref02_one.l3 k1 a1 t217 (wrap64 (x12_1 + 1)))) = some r := H
        have A20 := Aside0.mk A200
        clear A200
        replace H := Option.bind_eq_some_iff.mp H
        obtain ⟨t217, A210, H⟩ := H
        replace H : (scarabref02_one.l3 k1 a1 t217 (wrap64 (x12_1 + 1))) = some r := H
        have A21 := Aside0.mk A210
        clear A210
        have H' := Aside0.mk H
        clear H
        go_wp2_with (first | ((with_reducible refine gate_callee (f := 42) rfl ?_); refine goesL_ (some 82) rfl rfl Tryd.func42 (by kernel_rfl) rfl #[.int .i64 a1, .int .i64 (wrap64 (63 - x12_1))] rfl (by (try simp only [List.map_toArray, List.map_cons, List.map_nil]); first | done | rfl | (simp only [List.length_drop, List.length_take]; rfl)) ?_; (with_reducible refine (scarabref02_bit.calls a1 (wrap64 (63 - x12_1)) t216 _ A20.out).mono ?_); rintro e w' ⟨rfl, ⟨nd, rfl⟩⟩; refine ⟨_, rfl, ?_⟩) | ((with_reducible refine gate_callee (f := 63) rfl ?_); refine goesL_ (some 83) rfl rfl Tryd.func63 (by kernel_rfl) rfl #[.int .i64 x11_1, .int .i64 x12_1, .int .i64 t216] rfl (by (try simp only [List.map_toArray, List.map_cons, List.map_nil]); first | done | rfl | (simp only [List.length_drop, List.length_take]; rfl)) ?_; (with_reducible refine (scarabref02_put.calls x11_1 x12_1 t216 t217 _ A21.out).mono ?_); rintro e w' ⟨rfl, ⟨nd, rfl⟩⟩; refine ⟨_, rfl, ?_⟩))
        go_roundg k1
        case measure => have := HK1.out; omega
        case rel => exact ⟨(t217), (wrap64 (x12_1 + 1)), (by first | rfl | (simp; done) | (simp [*]; done)), (by first | rfl | (simp; done) | (simp [*]; done)), H', ⟨by have := HK1.out; omega⟩, by repeat (first | exact Drawn0.refl _ | apply Drawn0.step)⟩
      · rw [if_neg c19] at H
        have c19b0 : decide (x12_1 < 64) = false := decide_eq_false c19
        clear c19
        obtain rfl := Option.some.inj H
        go_wp2
        go_ret
        exact ⟨by first | rfl | (simp; done) | (simp [*]; done), by repeat (first | exact Drawn0.refl _ | apply Drawn0.step)⟩
set_option maxHeartbeats 8000000 in
set_option maxRecDepth 100000 in
theorem scarabref02_one.calls_8 (k : Nat) (a0 : Int) (a1 : Int) (r : Int) (w : World) (h : scarabref02_one.f k a0 a1 = some r) (c3 : ¬ (a0 = 1)) (c4 : ¬ (a0 = 2)) (c5 : ¬ (a0 = 3)) (c7 : ¬ (a0 = 4)) (c10 : ¬ (a0 = 5)) (c14 : ¬ (a0 = 6)) (c18 : ¬ (a0 = 7)) (c22 : a0 = 8) :
    Calls Tryd.prog 47 #[.int .i64 a0, .int .i64 a1] w fun e w' => e = .returned (.int .i64 r) ∧ Drawn0 w w' := by
  have H : (if a0 = 1 then (some (wrap64 (-a1))) else (if a0 = 2 then (some (wrap64 ((-1) - a1))) else (if a0 = 3 then (if a1 < 0 then (some (wrap64 (-a1))) else (some a1)) else (if a0 = 4 then (scarabref02_one.l0 k a1 0 0) else (if a0 = 5 then (scarabref02_one.l1 k a1 0 63) else (if a0 = 6 then (scarabref02_one.l2 k a1 0 0) else (if a0 = 7 then (scarabref02_one.l3 k a1 0 0) else (if a0 = 8 then ((scarabref02_yes.f (a1 != 0)).bind fun t218 => (some t218)) else (if a0 = 9 then ((scarabref02_yes.f (a1 == 0)).bind fun t219 => (some t219)) else (if a0 = 10 then ((scarabref02_converted.f k a1 8 true).bind fun t220 => (some t220)) else (if a0 = 11 then ((scarabref02_converted.f k a1 16 true).bind fun t221 => (some t221)) else (if a0 = 12 then ((scarabref02_converted.f k a1 32 true).bind fun t222 => (some t222)) else (if a0 = 13 then ((scarabref02_converted.f k a1 8 false).bind fun t223 => (some t223)) else (if a0 = 14 then ((scarabref02_converted.f k a1 16 false).bind fun t224 => (some t224)) else ((scarabref02_converted.f k a1 32 false).bind fun t225 => (some t225)))))))))))))))) = some r := h
  clear h
  rw [if_neg c3] at H
  have c3b0 : (a0 == 1) = false := beq_eq_false_iff_ne.mpr c3
  have c3b1 : (a0 != 1) = true := bne_iff_ne.mpr c3
  rw [if_neg c4] at H
  have c4b0 : (a0 == 2) = false := beq_eq_false_iff_ne.mpr c4
  have c4b1 : (a0 != 2) = true := bne_iff_ne.mpr c4
  rw [if_neg c5] at H
  have c5b0 : (a0 == 3) = false := beq_eq_false_iff_ne.mpr c5
  have c5b1 : (a0 != 3) = true := bne_iff_ne.mpr c5
  rw [if_neg c7] at H
  have c7b0 : (a0 == 4) = false := beq_eq_false_iff_ne.mpr c7
  have c7b1 : (a0 != 4) = true := bne_iff_ne.mpr c7
  rw [if_neg c10] at H
  have c10b0 : (a0 == 5) = false := beq_eq_false_iff_ne.mpr c10
  have c10b1 : (a0 != 5) = true := bne_iff_ne.mpr c10
  rw [if_neg c14] at H
  have c14b0 : (a0 == 6) = false := beq_eq_false_iff_ne.mpr c14
  have c14b1 : (a0 != 6) = true := bne_iff_ne.mpr c14
  rw [if_neg c18] at H
  have c18b0 : (a0 == 7) = false := beq_eq_false_iff_ne.mpr c18
  have c18b1 : (a0 != 7) = true := bne_iff_ne.mpr c18
  rw [if_pos c22] at H
  have c22b0 : (a0 == 8) = true := beq_iff_eq.mpr c22
  have c22b1 : (a0 != 8) = false := bne_eq_false_iff_eq.mpr c22
  clear c22
  replace H := Option.bind_eq_some_iff.mp H
  obtain ⟨t218, A230, H⟩ := H
  replace H : (some t218) = some r := H
  have A23 := Aside0.mk A230
  clear A230
  obtain rfl := Option.some.inj H
  go_enter Tryd.func47, Tryd.ntmps47
  go_wp2_with (first | ((with_reducible refine gate_callee (f := 64) rfl ?_); refine goesL_ (some 89) rfl rfl Tryd.func64 (by kernel_rfl) rfl #[.bool (a1 != 0)] rfl (by (try simp only [List.map_toArray, List.map_cons, List.map_nil]); first | done | rfl | (simp only [List.length_drop, List.length_take]; rfl)) ?_; (with_reducible refine (scarabref02_yes.calls (a1 != 0) t218 _ A23.out).mono ?_); rintro e w' ⟨rfl, ⟨nd, rfl⟩⟩; refine ⟨_, rfl, ?_⟩))
  go_ret
  exact ⟨by first | rfl | (simp; done) | (simp [*]; done), by repeat (first | exact Drawn0.refl _ | apply Drawn0.step)⟩
set_option maxHeartbeats 8000000 in
set_option maxRecDepth 100000 in
theorem scarabref02_one.calls_9 (k : Nat) (a0 : Int) (a1 : Int) (r : Int) (w : World) (h : scarabref02_one.f k a0 a1 = some r) (c3 : ¬ (a0 = 1)) (c4 : ¬ (a0 = 2)) (c5 : ¬ (a0 = 3)) (c7 : ¬ (a0 = 4)) (c10 : ¬ (a0 = 5)) (c14 : ¬ (a0 = 6)) (c18 : ¬ (a0 = 7)) (c22 : ¬ (a0 = 8)) (c24 : a0 = 9) :
    Calls Tryd.prog 47 #[.int .i64 a0, .int .i64 a1] w fun e w' => e = .returned (.int .i64 r) ∧ Drawn0 w w' := by
  have H : (if a0 = 1 then (some (wrap64 (-a1))) else (if a0 = 2 then (some (wrap64 ((-1) - a1))) else (if a0 = 3 then (if a1 < 0 then (some (wrap64 (-a1))) else (some a1)) else (if a0 = 4 then (scarabref02_one.l0 k a1 0 0) else (if a0 = 5 then (scarabref02_one.l1 k a1 0 63) else (if a0 = 6 then (scarabref02_one.l2 k a1 0 0) else (if a0 = 7 then (scarabref02_one.l3 k a1 0 0) else (if a0 = 8 then ((scarabref02_yes.f (a1 != 0)).bind fun t218 => (some t218)) else (if a0 = 9 then ((scarabref02_yes.f (a1 == 0)).bind fun t219 => (some t219)) else (if a0 = 10 then ((scarabref02_converted.f k a1 8 true).bind fun t220 => (some t220)) else (if a0 = 11 then ((scarabref02_converted.f k a1 16 true).bind fun t221 => (some t221)) else (if a0 = 12 then ((scarabref02_converted.f k a1 32 true).bind fun t222 => (some t222)) else (if a0 = 13 then ((scarabref02_converted.f k a1 8 false).bind fun t223 => (some t223)) else (if a0 = 14 then ((scarabref02_converted.f k a1 16 false).bind fun t224 => (some t224)) else ((scarabref02_converted.f k a1 32 false).bind fun t225 => (some t225)))))))))))))))) = some r := h
  clear h
  rw [if_neg c3] at H
  have c3b0 : (a0 == 1) = false := beq_eq_false_iff_ne.mpr c3
  have c3b1 : (a0 != 1) = true := bne_iff_ne.mpr c3
  rw [if_neg c4] at H
  have c4b0 : (a0 == 2) = false := beq_eq_false_iff_ne.mpr c4
  have c4b1 : (a0 != 2) = true := bne_iff_ne.mpr c4
  rw [if_neg c5] at H
  have c5b0 : (a0 == 3) = false := beq_eq_false_iff_ne.mpr c5
  have c5b1 : (a0 != 3) = true := bne_iff_ne.mpr c5
  rw [if_neg c7] at H
  have c7b0 : (a0 == 4) = false := beq_eq_false_iff_ne.mpr c7
  have c7b1 : (a0 != 4) = true := bne_iff_ne.mpr c7
  rw [if_neg c10] at H
  have c10b0 : (a0 == 5) = false := beq_eq_false_iff_ne.mpr c10
  have c10b1 : (a0 != 5) = true := bne_iff_ne.mpr c10
  rw [if_neg c14] at H
  have c14b0 : (a0 == 6) = false := beq_eq_false_iff_ne.mpr c14
  have c14b1 : (a0 != 6) = true := bne_iff_ne.mpr c14
  rw [if_neg c18] at H
  have c18b0 : (a0 == 7) = false := beq_eq_false_iff_ne.mpr c18
  have c18b1 : (a0 != 7) = true := bne_iff_ne.mpr c18
  rw [if_neg c22] at H
  have c22b0 : (a0 == 8) = false := beq_eq_false_iff_ne.mpr c22
  have c22b1 : (a0 != 8) = true := bne_iff_ne.mpr c22
  rw [if_pos c24] at H
  have c24b0 : (a0 == 9) = true := beq_iff_eq.mpr c24
  have c24b1 : (a0 != 9) = false := bne_eq_false_iff_eq.mpr c24
  clear c24
  replace H := Option.bind_eq_some_iff.mp H
  obtain ⟨t219, A250, H⟩ := H
  replace H : (some t219) = some r := H
  have A25 := Aside0.mk A250
  clear A250
  obtain rfl := Option.some.inj H
  go_enter Tryd.func47, Tryd.ntmps47
  go_wp2_with (first | ((with_reducible refine gate_callee (f := 64) rfl ?_); refine goesL_ (some 94) rfl rfl Tryd.func64 (by kernel_rfl) rfl #[.bool (a1 == 0)] rfl (by (try simp only [List.map_toArray, List.map_cons, List.map_nil]); first | done | rfl | (simp only [List.length_drop, List.length_take]; rfl)) ?_; (with_reducible refine (scarabref02_yes.calls (a1 == 0) t219 _ A25.out).mono ?_); rintro e w' ⟨rfl, ⟨nd, rfl⟩⟩; refine ⟨_, rfl, ?_⟩))
  go_ret
  exact ⟨by first | rfl | (simp; done) | (simp [*]; done), by repeat (first | exact Drawn0.refl _ | apply Drawn0.step)⟩
set_option maxHeartbeats 8000000 in
set_option maxRecDepth 100000 in
theorem scarabref02_one.calls_10 (k : Nat) (a0 : Int) (a1 : Int) (r : Int) (w : World) (h : scarabref02_one.f k a0 a1 = some r) (c3 : ¬ (a0 = 1)) (c4 : ¬ (a0 = 2)) (c5 : ¬ (a0 = 3)) (c7 : ¬ (a0 = 4)) (c10 : ¬ (a0 = 5)) (c14 : ¬ (a0 = 6)) (c18 : ¬ (a0 = 7)) (c22 : ¬ (a0 = 8)) (c24 : ¬ (a0 = 9)) (c26 : a0 = 10) :
    Calls Tryd.prog 47 #[.int .i64 a0, .int .i64 a1] w fun e w' => e = .returned (.int .i64 r) ∧ Drawn0 w w' := by
  have H : (if a0 = 1 then (some (wrap64 (-a1))) else (if a0 = 2 then (some (wrap64 ((-1) - a1))) else (if a0 = 3 then (if a1 < 0 then (some (wrap64 (-a1))) else (some a1)) else (if a0 = 4 then (scarabref02_one.l0 k a1 0 0) else (if a0 = 5 then (scarabref02_one.l1 k a1 0 63) else (if a0 = 6 then (scarabref02_one.l2 k a1 0 0) else (if a0 = 7 then (scarabref02_one.l3 k a1 0 0) else (if a0 = 8 then ((scarabref02_yes.f (a1 != 0)).bind fun t218 => (some t218)) else (if a0 = 9 then ((scarabref02_yes.f (a1 == 0)).bind fun t219 => (some t219)) else (if a0 = 10 then ((scarabref02_converted.f k a1 8 true).bind fun t220 => (some t220)) else (if a0 = 11 then ((scarabref02_converted.f k a1 16 true).bind fun t221 => (some t221)) else (if a0 = 12 then ((scarabref02_converted.f k a1 32 true).bind fun t222 => (some t222)) else (if a0 = 13 then ((scarabref02_converted.f k a1 8 false).bind fun t223 => (some t223)) else (if a0 = 14 then ((scarabref02_converted.f k a1 16 false).bind fun t224 => (some t224)) else ((scarabref02_converted.f k a1 32 false).bind fun t225 => (some t225)))))))))))))))) = some r := h
  clear h
  rw [if_neg c3] at H
  have c3b0 : (a0 == 1) = false := beq_eq_false_iff_ne.mpr c3
  have c3b1 : (a0 != 1) = true := bne_iff_ne.mpr c3
  rw [if_neg c4] at H
  have c4b0 : (a0 == 2) = false := beq_eq_false_iff_ne.mpr c4
  have c4b1 : (a0 != 2) = true := bne_iff_ne.mpr c4
  rw [if_neg c5] at H
  have c5b0 : (a0 == 3) = false := beq_eq_false_iff_ne.mpr c5
  have c5b1 : (a0 != 3) = true := bne_iff_ne.mpr c5
  rw [if_neg c7] at H
  have c7b0 : (a0 == 4) = false := beq_eq_false_iff_ne.mpr c7
  have c7b1 : (a0 != 4) = true := bne_iff_ne.mpr c7
  rw [if_neg c10] at H
  have c10b0 : (a0 == 5) = false := beq_eq_false_iff_ne.mpr c10
  have c10b1 : (a0 != 5) = true := bne_iff_ne.mpr c10
  rw [if_neg c14] at H
  have c14b0 : (a0 == 6) = false := beq_eq_false_iff_ne.mpr c14
  have c14b1 : (a0 != 6) = true := bne_iff_ne.mpr c14
  rw [if_neg c18] at H
  have c18b0 : (a0 == 7) = false := beq_eq_false_iff_ne.mpr c18
  have c18b1 : (a0 != 7) = true := bne_iff_ne.mpr c18
  rw [if_neg c22] at H
  have c22b0 : (a0 == 8) = false := beq_eq_false_iff_ne.mpr c22
  have c22b1 : (a0 != 8) = true := bne_iff_ne.mpr c22
  rw [if_neg c24] at H
  have c24b0 : (a0 == 9) = false := beq_eq_false_iff_ne.mpr c24
  have c24b1 : (a0 != 9) = true := bne_iff_ne.mpr c24
  rw [if_pos c26] at H
  have c26b0 : (a0 == 10) = true := beq_iff_eq.mpr c26
  have c26b1 : (a0 != 10) = false := bne_eq_false_iff_eq.mpr c26
  clear c26
  replace H := Option.bind_eq_some_iff.mp H
  obtain ⟨t220, A270, H⟩ := H
  replace H : (some t220) = some r := H
  have A27 := Aside0.mk A270
  clear A270
  obtain rfl := Option.some.inj H
  go_enter Tryd.func47, Tryd.ntmps47
  go_wp2_with (first | ((with_reducible refine gate_callee (f := 65) rfl ?_); refine goesL_ (some 98) rfl rfl Tryd.func65 (by kernel_rfl) rfl #[.int .i64 a1, .int .i64 8, .bool true] rfl (by (try simp only [List.map_toArray, List.map_cons, List.map_nil]); first | done | rfl | (simp only [List.length_drop, List.length_take]; rfl)) ?_; (with_reducible refine (scarabref02_converted.calls k a1 8 true t220 _ A27.out).mono ?_); rintro e w' ⟨rfl, ⟨nd, rfl⟩⟩; refine ⟨_, rfl, ?_⟩))
  go_ret
  exact ⟨by first | rfl | (simp; done) | (simp [*]; done), by repeat (first | exact Drawn0.refl _ | apply Drawn0.step)⟩
set_option maxHeartbeats 8000000 in
set_option maxRecDepth 100000 in
theorem scarabref02_one.calls_11 (k : Nat) (a0 : Int) (a1 : Int) (r : Int) (w : World) (h : scarabref02_one.f k a0 a1 = some r) (c3 : ¬ (a0 = 1)) (c4 : ¬ (a0 = 2)) (c5 : ¬ (a0 = 3)) (c7 : ¬ (a0 = 4)) (c10 : ¬ (a0 = 5)) (c14 : ¬ (a0 = 6)) (c18 : ¬ (a0 = 7)) (c22 : ¬ (a0 = 8)) (c24 : ¬ (a0 = 9)) (c26 : ¬ (a0 = 10)) (c28 : a0 = 11) :
    Calls Tryd.prog 47 #[.int .i64 a0, .int .i64 a1] w fun e w' => e = .returned (.int .i64 r) ∧ Drawn0 w w' := by
  have H : (if a0 = 1 then (some (wrap64 (-a1))) else (if a0 = 2 then (some (wrap64 ((-1) - a1))) else (if a0 = 3 then (if a1 < 0 then (some (wrap64 (-a1))) else (some a1)) else (if a0 = 4 then (scarabref02_one.l0 k a1 0 0) else (if a0 = 5 then (scarabref02_one.l1 k a1 0 63) else (if a0 = 6 then (scarabref02_one.l2 k a1 0 0) else (if a0 = 7 then (scarabref02_one.l3 k a1 0 0) else (if a0 = 8 then ((scarabref02_yes.f (a1 != 0)).bind fun t218 => (some t218)) else (if a0 = 9 then ((scarabref02_yes.f (a1 == 0)).bind fun t219 => (some t219)) else (if a0 = 10 then ((scarabref02_converted.f k a1 8 true).bind fun t220 => (some t220)) else (if a0 = 11 then ((scarabref02_converted.f k a1 16 true).bind fun t221 => (some t221)) else (if a0 = 12 then ((scarabref02_converted.f k a1 32 true).bind fun t222 => (some t222)) else (if a0 = 13 then ((scarabref02_converted.f k a1 8 false).bind fun t223 => (some t223)) else (if a0 = 14 then ((scarabref02_converted.f k a1 16 false).bind fun t224 => (some t224)) else ((scarabref02_converted.f k a1 32 false).bind fun t225 => (some t225)))))))))))))))) = some r := h
  clear h
  rw [if_neg c3] at H
  have c3b0 : (a0 == 1) = false := beq_eq_false_iff_ne.mpr c3
  have c3b1 : (a0 != 1) = true := bne_iff_ne.mpr c3
  rw [if_neg c4] at H
  have c4b0 : (a0 == 2) = false := beq_eq_false_iff_ne.mpr c4
  have c4b1 : (a0 != 2) = true := bne_iff_ne.mpr c4
  rw [if_neg c5] at H
  have c5b0 : (a0 == 3) = false := beq_eq_false_iff_ne.mpr c5
  have c5b1 : (a0 != 3) = true := bne_iff_ne.mpr c5
  rw [if_neg c7] at H
  have c7b0 : (a0 == 4) = false := beq_eq_false_iff_ne.mpr c7
  have c7b1 : (a0 != 4) = true := bne_iff_ne.mpr c7
  rw [if_neg c10] at H
  have c10b0 : (a0 == 5) = false := beq_eq_false_iff_ne.mpr c10
  have c10b1 : (a0 != 5) = true := bne_iff_ne.mpr c10
  rw [if_neg c14] at H
  have c14b0 : (a0 == 6) = false := beq_eq_false_iff_ne.mpr c14
  have c14b1 : (a0 != 6) = true := bne_iff_ne.mpr c14
  rw [if_neg c18] at H
  have c18b0 : (a0 == 7) = false := beq_eq_false_iff_ne.mpr c18
  have c18b1 : (a0 != 7) = true := bne_iff_ne.mpr c18
  rw [if_neg c22] at H
  have c22b0 : (a0 == 8) = false := beq_eq_false_iff_ne.mpr c22
  have c22b1 : (a0 != 8) = true := bne_iff_ne.mpr c22
  rw [if_neg c24] at H
  have c24b0 : (a0 == 9) = false := beq_eq_false_iff_ne.mpr c24
  have c24b1 : (a0 != 9) = true := bne_iff_ne.mpr c24
  rw [if_neg c26] at H
  have c26b0 : (a0 == 10) = false := beq_eq_false_iff_ne.mpr c26
  have c26b1 : (a0 != 10) = true := bne_iff_ne.mpr c26
  rw [if_pos c28] at H
  have c28b0 : (a0 == 11) = true := beq_iff_eq.mpr c28
  have c28b1 : (a0 != 11) = false := bne_eq_false_iff_eq.mpr c28
  clear c28
  replace H := Option.bind_eq_some_iff.mp H
  obtain ⟨t221, A290, H⟩ := H
  replace H : (some t221) = some r := H
  have A29 := Aside0.mk A290
  clear A290
  obtain rfl := Option.some.inj H
  go_enter Tryd.func47, Tryd.ntmps47
  go_wp2_with (first | ((with_reducible refine gate_callee (f := 65) rfl ?_); refine goesL_ (some 102) rfl rfl Tryd.func65 (by kernel_rfl) rfl #[.int .i64 a1, .int .i64 16, .bool true] rfl (by (try simp only [List.map_toArray, List.map_cons, List.map_nil]); first | done | rfl | (simp only [List.length_drop, List.length_take]; rfl)) ?_; (with_reducible refine (scarabref02_converted.calls k a1 16 true t221 _ A29.out).mono ?_); rintro e w' ⟨rfl, ⟨nd, rfl⟩⟩; refine ⟨_, rfl, ?_⟩))
  go_ret
  exact ⟨by first | rfl | (simp; done) | (simp [*]; done), by repeat (first | exact Drawn0.refl _ | apply Drawn0.step)⟩
set_option maxHeartbeats 8000000 in
set_option maxRecDepth 100000 in
theorem scarabref02_one.calls_12 (k : Nat) (a0 : Int) (a1 : Int) (r : Int) (w : World) (h : scarabref02_one.f k a0 a1 = some r) (c3 : ¬ (a0 = 1)) (c4 : ¬ (a0 = 2)) (c5 : ¬ (a0 = 3)) (c7 : ¬ (a0 = 4)) (c10 : ¬ (a0 = 5)) (c14 : ¬ (a0 = 6)) (c18 : ¬ (a0 = 7)) (c22 : ¬ (a0 = 8)) (c24 : ¬ (a0 = 9)) (c26 : ¬ (a0 = 10)) (c28 : ¬ (a0 = 11)) (c30 : a0 = 12) :
    Calls Tryd.prog 47 #[.int .i64 a0, .int .i64 a1] w fun e w' => e = .returned (.int .i64 r) ∧ Drawn0 w w' := by
  have H : (if a0 = 1 then (some (wrap64 (-a1))) else (if a0 = 2 then (some (wrap64 ((-1) - a1))) else (if a0 = 3 then (if a1 < 0 then (some (wrap64 (-a1))) else (some a1)) else (if a0 = 4 then (scarabref02_one.l0 k a1 0 0) else (if a0 = 5 then (scarabref02_one.l1 k a1 0 63) else (if a0 = 6 then (scarabref02_one.l2 k a1 0 0) else (if a0 = 7 then (scarabref02_one.l3 k a1 0 0) else (if a0 = 8 then ((scarabref02_yes.f (a1 != 0)).bind fun t218 => (some t218)) else (if a0 = 9 then ((scarabref02_yes.f (a1 == 0)).bind fun t219 => (some t219)) else (if a0 = 10 then ((scarabref02_converted.f k a1 8 true).bind fun t220 => (some t220)) else (if a0 = 11 then ((scarabref02_converted.f k a1 16 true).bind fun t221 => (some t221)) else (if a0 = 12 then ((scarabref02_converted.f k a1 32 true).bind fun t222 => (some t222)) else (if a0 = 13 then ((scarabref02_converted.f k a1 8 false).bind fun t223 => (some t223)) else (if a0 = 14 then ((scarabref02_converted.f k a1 16 false).bind fun t224 => (some t224)) else ((scarabref02_converted.f k a1 32 false).bind fun t225 => (some t225)))))))))))))))) = some r := h
  clear h
  rw [if_neg c3] at H
  have c3b0 : (a0 == 1) = false := beq_eq_false_iff_ne.mpr c3
  have c3b1 : (a0 != 1) = true := bne_iff_ne.mpr c3
  rw [if_neg c4] at H
  have c4b0 : (a0 == 2) = false := beq_eq_false_iff_ne.mpr c4
  have c4b1 : (a0 != 2) = true := bne_iff_ne.mpr c4
  rw [if_neg c5] at H
  have c5b0 : (a0 == 3) = false := beq_eq_false_iff_ne.mpr c5
  have c5b1 : (a0 != 3) = true := bne_iff_ne.mpr c5
  rw [if_neg c7] at H
  have c7b0 : (a0 == 4) = false := beq_eq_false_iff_ne.mpr c7
  have c7b1 : (a0 != 4) = true := bne_iff_ne.mpr c7
  rw [if_neg c10] at H
  have c10b0 : (a0 == 5) = false := beq_eq_false_iff_ne.mpr c10
  have c10b1 : (a0 != 5) = true := bne_iff_ne.mpr c10
  rw [if_neg c14] at H
  have c14b0 : (a0 == 6) = false := beq_eq_false_iff_ne.mpr c14
  have c14b1 : (a0 != 6) = true := bne_iff_ne.mpr c14
  rw [if_neg c18] at H
  have c18b0 : (a0 == 7) = false := beq_eq_false_iff_ne.mpr c18
  have c18b1 : (a0 != 7) = true := bne_iff_ne.mpr c18
  rw [if_neg c22] at H
  have c22b0 : (a0 == 8) = false := beq_eq_false_iff_ne.mpr c22
  have c22b1 : (a0 != 8) = true := bne_iff_ne.mpr c22
  rw [if_neg c24] at H
  have c24b0 : (a0 == 9) = false := beq_eq_false_iff_ne.mpr c24
  have c24b1 : (a0 != 9) = true := bne_iff_ne.mpr c24
  rw [if_neg c26] at H
  have c26b0 : (a0 == 10) = false := beq_eq_false_iff_ne.mpr c26
  have c26b1 : (a0 != 10) = true := bne_iff_ne.mpr c26
  rw [if_neg c28] at H
  have c28b0 : (a0 == 11) = false := beq_eq_false_iff_ne.mpr c28
  have c28b1 : (a0 != 11) = true := bne_iff_ne.mpr c28
  rw [if_pos c30] at H
  have c30b0 : (a0 == 12) = true := beq_iff_eq.mpr c30
  have c30b1 : (a0 != 12) = false := bne_eq_false_iff_eq.mpr c30
  clear c30
  replace H := Option.bind_eq_some_iff.mp H
  obtain ⟨t222, A310, H⟩ := H
  replace H : (some t222) = some r := H
  have A31 := Aside0.mk A310
  clear A310
  obtain rfl := Option.some.inj H
  go_enter Tryd.func47, Tryd.ntmps47
  go_wp2_with (first | ((with_reducible refine gate_callee (f := 65) rfl ?_); refine goesL_ (some 106) rfl rfl Tryd.func65 (by kernel_rfl) rfl #[.int .i64 a1, .int .i64 32, .bool true] rfl (by (try simp only [List.map_toArray, List.map_cons, List.map_nil]); first | done | rfl | (simp only [List.length_drop, List.length_take]; rfl)) ?_; (with_reducible refine (scarabref02_converted.calls k a1 32 true t222 _ A31.out).mono ?_); rintro e w' ⟨rfl, ⟨nd, rfl⟩⟩; refine ⟨_, rfl, ?_⟩))
  go_ret
  exact ⟨by first | rfl | (simp; done) | (simp [*]; done), by repeat (first | exact Drawn0.refl _ | apply Drawn0.step)⟩
set_option maxHeartbeats 8000000 in
set_option maxRecDepth 100000 in
theorem scarabref02_one.calls_13 (k : Nat) (a0 : Int) (a1 : Int) (r : Int) (w : World) (h : scarabref02_one.f k a0 a1 = some r) (c3 : ¬ (a0 = 1)) (c4 : ¬ (a0 = 2)) (c5 : ¬ (a0 = 3)) (c7 : ¬ (a0 = 4)) (c10 : ¬ (a0 = 5)) (c14 : ¬ (a0 = 6)) (c18 : ¬ (a0 = 7)) (c22 : ¬ (a0 = 8)) (c24 : ¬ (a0 = 9)) (c26 : ¬ (a0 = 10)) (c28 : ¬ (a0 = 11)) (c30 : ¬ (a0 = 12)) (c32 : a0 = 13) :
    Calls Tryd.prog 47 #[.int .i64 a0, .int .i64 a1] w fun e w' => e = .returned (.int .i64 r) ∧ Drawn0 w w' := by
  have H : (if a0 = 1 then (some (wrap64 (-a1))) else (if a0 = 2 then (some (wrap64 ((-1) - a1))) else (if a0 = 3 then (if a1 < 0 then (some (wrap64 (-a1))) else (some a1)) else (if a0 = 4 then (scarabref02_one.l0 k a1 0 0) else (if a0 = 5 then (scarabref02_one.l1 k a1 0 63) else (if a0 = 6 then (scarabref02_one.l2 k a1 0 0) else (if a0 = 7 then (scarabref02_one.l3 k a1 0 0) else (if a0 = 8 then ((scarabref02_yes.f (a1 != 0)).bind fun t218 => (some t218)) else (if a0 = 9 then ((scarabref02_yes.f (a1 == 0)).bind fun t219 => (some t219)) else (if a0 = 10 then ((scarabref02_converted.f k a1 8 true).bind fun t220 => (some t220)) else (if a0 = 11 then ((scarabref02_converted.f k a1 16 true).bind fun t221 => (some t221)) else (if a0 = 12 then ((scarabref02_converted.f k a1 32 true).bind fun t222 => (some t222)) else (if a0 = 13 then ((scarabref02_converted.f k a1 8 false).bind fun t223 => (some t223)) else (if a0 = 14 then ((scarabref02_converted.f k a1 16 false).bind fun t224 => (some t224)) else ((scarabref02_converted.f k a1 32 false).bind fun t225 => (some t225)))))))))))))))) = some r := h
  clear h
  rw [if_neg c3] at H
  have c3b0 : (a0 == 1) = false := beq_eq_false_iff_ne.mpr c3
  have c3b1 : (a0 != 1) = true := bne_iff_ne.mpr c3
  rw [if_neg c4] at H
  have c4b0 : (a0 == 2) = false := beq_eq_false_iff_ne.mpr c4
  have c4b1 : (a0 != 2) = true := bne_iff_ne.mpr c4
  rw [if_neg c5] at H
  have c5b0 : (a0 == 3) = false := beq_eq_false_iff_ne.mpr c5
  have c5b1 : (a0 != 3) = true := bne_iff_ne.mpr c5
  rw [if_neg c7] at H
  have c7b0 : (a0 == 4) = false := beq_eq_false_iff_ne.mpr c7
  have c7b1 : (a0 != 4) = true := bne_iff_ne.mpr c7
  rw [if_neg c10] at H
  have c10b0 : (a0 == 5) = false := beq_eq_false_iff_ne.mpr c10
  have c10b1 : (a0 != 5) = true := bne_iff_ne.mpr c10
  rw [if_neg c14] at H
  have c14b0 : (a0 == 6) = false := beq_eq_false_iff_ne.mpr c14
  have c14b1 : (a0 != 6) = true := bne_iff_ne.mpr c14
  rw [if_neg c18] at H
  have c18b0 : (a0 == 7) = false := beq_eq_false_iff_ne.mpr c18
  have c18b1 : (a0 != 7) = true := bne_iff_ne.mpr c18
  rw [if_neg c22] at H
  have c22b0 : (a0 == 8) = false := beq_eq_false_iff_ne.mpr c22
  have c22b1 : (a0 != 8) = true := bne_iff_ne.mpr c22
  rw [if_neg c24] at H
  have c24b0 : (a0 == 9) = false := beq_eq_false_iff_ne.mpr c24
  have c24b1 : (a0 != 9) = true := bne_iff_ne.mpr c24
  rw [if_neg c26] at H
  have c26b0 : (a0 == 10) = false := beq_eq_false_iff_ne.mpr c26
  have c26b1 : (a0 != 10) = true := bne_iff_ne.mpr c26
  rw [if_neg c28] at H
  have c28b0 : (a0 == 11) = false := beq_eq_false_iff_ne.mpr c28
  have c28b1 : (a0 != 11) = true := bne_iff_ne.mpr c28
  rw [if_neg c30] at H
  have c30b0 : (a0 == 12) = false := beq_eq_false_iff_ne.mpr c30
  have c30b1 : (a0 != 12) = true := bne_iff_ne.mpr c30
  rw [if_pos c32] at H
  have c32b0 : (a0 == 13) = true := beq_iff_eq.mpr c32
  have c32b1 : (a0 != 13) = false := bne_eq_false_iff_eq.mpr c32
  clear c32
  replace H := Option.bind_eq_some_iff.mp H
  obtain ⟨t223, A330, H⟩ := H
  replace H : (some t223) = some r := H
  have A33 := Aside0.mk A330
  clear A330
  obtain rfl := Option.some.inj H
  go_enter Tryd.func47, Tryd.ntmps47
  go_wp2_with (first | ((with_reducible refine gate_callee (f := 65) rfl ?_); refine goesL_ (some 110) rfl rfl Tryd.func65 (by kernel_rfl) rfl #[.int .i64 a1, .int .i64 8, .bool false] rfl (by (try simp only [List.map_toArray, List.map_cons, List.map_nil]); first | done | rfl | (simp only [List.length_drop, List.length_take]; rfl)) ?_; (with_reducible refine (scarabref02_converted.calls k a1 8 false t223 _ A33.out).mono ?_); rintro e w' ⟨rfl, ⟨nd, rfl⟩⟩; refine ⟨_, rfl, ?_⟩))
  go_ret
  exact ⟨by first | rfl | (simp; done) | (simp [*]; done), by repeat (first | exact Drawn0.refl _ | apply Drawn0.step)⟩
set_option maxHeartbeats 8000000 in
set_option maxRecDepth 100000 in
theorem scarabref02_one.calls_14 (k : Nat) (a0 : Int) (a1 : Int) (r : Int) (w : World) (h : scarabref02_one.f k a0 a1 = some r) (c3 : ¬ (a0 = 1)) (c4 : ¬ (a0 = 2)) (c5 : ¬ (a0 = 3)) (c7 : ¬ (a0 = 4)) (c10 : ¬ (a0 = 5)) (c14 : ¬ (a0 = 6)) (c18 : ¬ (a0 = 7)) (c22 : ¬ (a0 = 8)) (c24 : ¬ (a0 = 9)) (c26 : ¬ (a0 = 10)) (c28 : ¬ (a0 = 11)) (c30 : ¬ (a0 = 12)) (c32 : ¬ (a0 = 13)) (c34 : a0 = 14) :
    Calls Tryd.prog 47 #[.int .i64 a0, .int .i64 a1] w fun e w' => e = .returned (.int .i64 r) ∧ Drawn0 w w' := by
  have H : (if a0 = 1 then (some (wrap64 (-a1))) else (if a0 = 2 then (some (wrap64 ((-1) - a1))) else (if a0 = 3 then (if a1 < 0 then (some (wrap64 (-a1))) else (some a1)) else (if a0 = 4 then (scarabref02_one.l0 k a1 0 0) else (if a0 = 5 then (scarabref02_one.l1 k a1 0 63) else (if a0 = 6 then (scarabref02_one.l2 k a1 0 0) else (if a0 = 7 then (scarabref02_one.l3 k a1 0 0) else (if a0 = 8 then ((scarabref02_yes.f (a1 != 0)).bind fun t218 => (some t218)) else (if a0 = 9 then ((scarabref02_yes.f (a1 == 0)).bind fun t219 => (some t219)) else (if a0 = 10 then ((scarabref02_converted.f k a1 8 true).bind fun t220 => (some t220)) else (if a0 = 11 then ((scarabref02_converted.f k a1 16 true).bind fun t221 => (some t221)) else (if a0 = 12 then ((scarabref02_converted.f k a1 32 true).bind fun t222 => (some t222)) else (if a0 = 13 then ((scarabref02_converted.f k a1 8 false).bind fun t223 => (some t223)) else (if a0 = 14 then ((scarabref02_converted.f k a1 16 false).bind fun t224 => (some t224)) else ((scarabref02_converted.f k a1 32 false).bind fun t225 => (some t225)))))))))))))))) = some r := h
  clear h
  rw [if_neg c3] at H
  have c3b0 : (a0 == 1) = false := beq_eq_false_iff_ne.mpr c3
  have c3b1 : (a0 != 1) = true := bne_iff_ne.mpr c3
  rw [if_neg c4] at H
  have c4b0 : (a0 == 2) = false := beq_eq_false_iff_ne.mpr c4
  have c4b1 : (a0 != 2) = true := bne_iff_ne.mpr c4
  rw [if_neg c5] at H
  have c5b0 : (a0 == 3) = false := beq_eq_false_iff_ne.mpr c5
  have c5b1 : (a0 != 3) = true := bne_iff_ne.mpr c5
  rw [if_neg c7] at H
  have c7b0 : (a0 == 4) = false := beq_eq_false_iff_ne.mpr c7
  have c7b1 : (a0 != 4) = true := bne_iff_ne.mpr c7
  rw [if_neg c10] at H
  have c10b0 : (a0 == 5) = false := beq_eq_false_iff_ne.mpr c10
  have c10b1 : (a0 != 5) = true := bne_iff_ne.mpr c10
  rw [if_neg c14] at H
  have c14b0 : (a0 == 6) = false := beq_eq_false_iff_ne.mpr c14
  have c14b1 : (a0 != 6) = true := bne_iff_ne.mpr c14
  rw [if_neg c18] at H
  have c18b0 : (a0 == 7) = false := beq_eq_false_iff_ne.mpr c18
  have c18b1 : (a0 != 7) = true := bne_iff_ne.mpr c18
  rw [if_neg c22] at H
  have c22b0 : (a0 == 8) = false := beq_eq_false_iff_ne.mpr c22
  have c22b1 : (a0 != 8) = true := bne_iff_ne.mpr c22
  rw [if_neg c24] at H
  have c24b0 : (a0 == 9) = false := beq_eq_false_iff_ne.mpr c24
  have c24b1 : (a0 != 9) = true := bne_iff_ne.mpr c24
  rw [if_neg c26] at H
  have c26b0 : (a0 == 10) = false := beq_eq_false_iff_ne.mpr c26
  have c26b1 : (a0 != 10) = true := bne_iff_ne.mpr c26
  rw [if_neg c28] at H
  have c28b0 : (a0 == 11) = false := beq_eq_false_iff_ne.mpr c28
  have c28b1 : (a0 != 11) = true := bne_iff_ne.mpr c28
  rw [if_neg c30] at H
  have c30b0 : (a0 == 12) = false := beq_eq_false_iff_ne.mpr c30
  have c30b1 : (a0 != 12) = true := bne_iff_ne.mpr c30
  rw [if_neg c32] at H
  have c32b0 : (a0 == 13) = false := beq_eq_false_iff_ne.mpr c32
  have c32b1 : (a0 != 13) = true := bne_iff_ne.mpr c32
  rw [if_pos c34] at H
  have c34b0 : (a0 == 14) = true := beq_iff_eq.mpr c34
  have c34b1 : (a0 != 14) = false := bne_eq_false_iff_eq.mpr c34
  clear c34
  replace H := Option.bind_eq_some_iff.mp H
  obtain ⟨t224, A350, H⟩ := H
  replace H : (some t224) = some r := H
  have A35 := Aside0.mk A350
  clear A350
  obtain rfl := Option.some.inj H
  go_enter Tryd.func47, Tryd.ntmps47
  go_wp2_with (first | ((with_reducible refine gate_callee (f := 65) rfl ?_); refine goesL_ (some 114) rfl rfl Tryd.func65 (by kernel_rfl) rfl #[.int .i64 a1, .int .i64 16, .bool false] rfl (by (try simp only [List.map_toArray, List.map_cons, List.map_nil]); first | done | rfl | (simp only [List.length_drop, List.length_take]; rfl)) ?_; (with_reducible refine (scarabref02_converted.calls k a1 16 false t224 _ A35.out).mono ?_); rintro e w' ⟨rfl, ⟨nd, rfl⟩⟩; refine ⟨_, rfl, ?_⟩))
  go_ret
  exact ⟨by first | rfl | (simp; done) | (simp [*]; done), by repeat (first | exact Drawn0.refl _ | apply Drawn0.step)⟩
set_option maxHeartbeats 8000000 in
set_option maxRecDepth 100000 in
theorem scarabref02_one.calls_15 (k : Nat) (a0 : Int) (a1 : Int) (r : Int) (w : World) (h : scarabref02_one.f k a0 a1 = some r) (c3 : ¬ (a0 = 1)) (c4 : ¬ (a0 = 2)) (c5 : ¬ (a0 = 3)) (c7 : ¬ (a0 = 4)) (c10 : ¬ (a0 = 5)) (c14 : ¬ (a0 = 6)) (c18 : ¬ (a0 = 7)) (c22 : ¬ (a0 = 8)) (c24 : ¬ (a0 = 9)) (c26 : ¬ (a0 = 10)) (c28 : ¬ (a0 = 11)) (c30 : ¬ (a0 = 12)) (c32 : ¬ (a0 = 13)) (c34 : ¬ (a0 = 14)) :
    Calls Tryd.prog 47 #[.int .i64 a0, .int .i64 a1] w fun e w' => e = .returned (.int .i64 r) ∧ Drawn0 w w' := by
  have H : (if a0 = 1 then (some (wrap64 (-a1))) else (if a0 = 2 then (some (wrap64 ((-1) - a1))) else (if a0 = 3 then (if a1 < 0 then (some (wrap64 (-a1))) else (some a1)) else (if a0 = 4 then (scarabref02_one.l0 k a1 0 0) else (if a0 = 5 then (scarabref02_one.l1 k a1 0 63) else (if a0 = 6 then (scarabref02_one.l2 k a1 0 0) else (if a0 = 7 then (scarabref02_one.l3 k a1 0 0) else (if a0 = 8 then ((scarabref02_yes.f (a1 != 0)).bind fun t218 => (some t218)) else (if a0 = 9 then ((scarabref02_yes.f (a1 == 0)).bind fun t219 => (some t219)) else (if a0 = 10 then ((scarabref02_converted.f k a1 8 true).bind fun t220 => (some t220)) else (if a0 = 11 then ((scarabref02_converted.f k a1 16 true).bind fun t221 => (some t221)) else (if a0 = 12 then ((scarabref02_converted.f k a1 32 true).bind fun t222 => (some t222)) else (if a0 = 13 then ((scarabref02_converted.f k a1 8 false).bind fun t223 => (some t223)) else (if a0 = 14 then ((scarabref02_converted.f k a1 16 false).bind fun t224 => (some t224)) else ((scarabref02_converted.f k a1 32 false).bind fun t225 => (some t225)))))))))))))))) = some r := h
  clear h
  rw [if_neg c3] at H
  have c3b0 : (a0 == 1) = false := beq_eq_false_iff_ne.mpr c3
  have c3b1 : (a0 != 1) = true := bne_iff_ne.mpr c3
  rw [if_neg c4] at H
  have c4b0 : (a0 == 2) = false := beq_eq_false_iff_ne.mpr c4
  have c4b1 : (a0 != 2) = true := bne_iff_ne.mpr c4
  rw [if_neg c5] at H
  have c5b0 : (a0 == 3) = false := beq_eq_false_iff_ne.mpr c5
  have c5b1 : (a0 != 3) = true := bne_iff_ne.mpr c5
  rw [if_neg c7] at H
  have c7b0 : (a0 == 4) = false := beq_eq_false_iff_ne.mpr c7
  have c7b1 : (a0 != 4) = true := bne_iff_ne.mpr c7
  rw [if_neg c10] at H
  have c10b0 : (a0 == 5) = false := beq_eq_false_iff_ne.mpr c10
  have c10b1 : (a0 != 5) = true := bne_iff_ne.mpr c10
  rw [if_neg c14] at H
  have c14b0 : (a0 == 6) = false := beq_eq_false_iff_ne.mpr c14
  have c14b1 : (a0 != 6) = true := bne_iff_ne.mpr c14
  rw [if_neg c18] at H
  have c18b0 : (a0 == 7) = false := beq_eq_false_iff_ne.mpr c18
  have c18b1 : (a0 != 7) = true := bne_iff_ne.mpr c18
  rw [if_neg c22] at H
  have c22b0 : (a0 == 8) = false := beq_eq_false_iff_ne.mpr c22
  have c22b1 : (a0 != 8) = true := bne_iff_ne.mpr c22
  rw [if_neg c24] at H
  have c24b0 : (a0 == 9) = false := beq_eq_false_iff_ne.mpr c24
  have c24b1 : (a0 != 9) = true := bne_iff_ne.mpr c24
  rw [if_neg c26] at H
  have c26b0 : (a0 == 10) = false := beq_eq_false_iff_ne.mpr c26
  have c26b1 : (a0 != 10) = true := bne_iff_ne.mpr c26
  rw [if_neg c28] at H
  have c28b0 : (a0 == 11) = false := beq_eq_false_iff_ne.mpr c28
  have c28b1 : (a0 != 11) = true := bne_iff_ne.mpr c28
  rw [if_neg c30] at H
  have c30b0 : (a0 == 12) = false := beq_eq_false_iff_ne.mpr c30
  have c30b1 : (a0 != 12) = true := bne_iff_ne.mpr c30
  rw [if_neg c32] at H
  have c32b0 : (a0 == 13) = false := beq_eq_false_iff_ne.mpr c32
  have c32b1 : (a0 != 13) = true := bne_iff_ne.mpr c32
  rw [if_neg c34] at H
  have c34b0 : (a0 == 14) = false := beq_eq_false_iff_ne.mpr c34
  have c34b1 : (a0 != 14) = true := bne_iff_ne.mpr c34
  replace H := Option.bind_eq_some_iff.mp H
  obtain ⟨t225, A360, H⟩ := H
  replace H : (some t225) = some r := H
  have A36 := Aside0.mk A360
  clear A360
  obtain rfl := Option.some.inj H
  go_enter Tryd.func47, Tryd.ntmps47
  go_wp2_with (first | ((with_reducible refine gate_callee (f := 65) rfl ?_); refine goesL_ (some 116) rfl rfl Tryd.func65 (by kernel_rfl) rfl #[.int .i64 a1, .int .i64 32, .bool false] rfl (by (try simp only [List.map_toArray, List.map_cons, List.map_nil]); first | done | rfl | (simp only [List.length_drop, List.length_take]; rfl)) ?_; (with_reducible refine (scarabref02_converted.calls k a1 32 false t225 _ A36.out).mono ?_); rintro e w' ⟨rfl, ⟨nd, rfl⟩⟩; refine ⟨_, rfl, ?_⟩))
  go_ret
  exact ⟨by first | rfl | (simp; done) | (simp [*]; done), by repeat (first | exact Drawn0.refl _ | apply Drawn0.step)⟩
set_option maxHeartbeats 8000000 in
set_option maxRecDepth 100000 in
theorem scarabref02_one.calls (k : Nat) (a0 : Int) (a1 : Int) (r : Int) (w : World) (h : scarabref02_one.f k a0 a1 = some r) :
    Calls Tryd.prog 47 #[.int .i64 a0, .int .i64 a1] w fun e w' => e = .returned (.int .i64 r) ∧ Drawn0 w w' := by
  by_cases c3 : a0 = 1
  · exact scarabref02_one.calls_0 k a0 a1 r w h c3
  · by_cases c4 : a0 = 2
    · exact scarabref02_one.calls_1 k a0 a1 r w h c3 c4
    · by_cases c5 : a0 = 3
      · by_cases c6 : a1 < 0
        · exact scarabref02_one.calls_2 k a0 a1 r w h c3 c4 c5 c6
        · exact scarabref02_one.calls_3 k a0 a1 r w h c3 c4 c5 c6
      · by_cases c7 : a0 = 4
        · exact scarabref02_one.calls_4 k a0 a1 r w h c3 c4 c5 c7
        · by_cases c10 : a0 = 5
          · exact scarabref02_one.calls_5 k a0 a1 r w h c3 c4 c5 c7 c10
          · by_cases c14 : a0 = 6
            · exact scarabref02_one.calls_6 k a0 a1 r w h c3 c4 c5 c7 c10 c14
            · by_cases c18 : a0 = 7
              · exact scarabref02_one.calls_7 k a0 a1 r w h c3 c4 c5 c7 c10 c14 c18
              · by_cases c22 : a0 = 8
                · exact scarabref02_one.calls_8 k a0 a1 r w h c3 c4 c5 c7 c10 c14 c18 c22
                · by_cases c24 : a0 = 9
                  · exact scarabref02_one.calls_9 k a0 a1 r w h c3 c4 c5 c7 c10 c14 c18 c22 c24
                  · by_cases c26 : a0 = 10
                    · exact scarabref02_one.calls_10 k a0 a1 r w h c3 c4 c5 c7 c10 c14 c18 c22 c24 c26
                    · by_cases c28 : a0 = 11
                      · exact scarabref02_one.calls_11 k a0 a1 r w h c3 c4 c5 c7 c10 c14 c18 c22 c24 c26 c28
                      · by_cases c30 : a0 = 12
                        · exact scarabref02_one.calls_12 k a0 a1 r w h c3 c4 c5 c7 c10 c14 c18 c22 c24 c26 c28 c30
                        · by_cases c32 : a0 = 13
                          · exact scarabref02_one.calls_13 k a0 a1 r w h c3 c4 c5 c7 c10 c14 c18 c22 c24 c26 c28 c30 c32
                          · by_cases c34 : a0 = 14
                            · exact scarabref02_one.calls_14 k a0 a1 r w h c3 c4 c5 c7 c10 c14 c18 c22 c24 c26 c28 c30 c32 c34
                            · exact scarabref02_one.calls_15 k a0 a1 r w h c3 c4 c5 c7 c10 c14 c18 c22 c24 c26 c28 c30 c32 c34

end Go.Proofs.YtckfnbjjghdaoaaDoor.Q
