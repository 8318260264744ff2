-- This session's own text, made by its own run of the tools (wip/tools/pr.sh).
import Derived.Test.YtckfnbjjghdaoaaDoorT0
import Derived.Test.YtckfnbjjghdaoaaDoorT4
import Derived.Test.YtckfnbjjghdaoaaDoorT5
namespace Go.Proofs.YtckfnbjjghdaoaaDoor.T
open Go.RowKit Go.Proofs.YtckfnbjjghdaoaaDoorW.PrintWords Go.Proofs.YtckfnbjjghdaoaaDoorW.PrintLast Go.Proofs.YtckfnbjjghdaoaaDoorW.PrintMore
attribute [local go_sem] max2_int min2_int max_two min_two max_three min_three max_four min_four   -- for this text's walks alone
set_option linter.unusedVariables false
set_option linter.unusedSimpArgs false

/-! ### scarabref02_shifted: function 51 -/
mutual
def scarabref02_shifted.l0 : Nat → Int → Int → Int → Int → Int → Option (Int)
  | 0, _, _, _, _, _ => none
  | k + 1, x0, x1, x2, x7, x8 => if x8 < 64 then (if (wrap64 (x8 - x1)) ≥ 0 then (scarabref02_shifted.j1 k x0 x1 x2 x7 x8 x2 (decide ((wrap64 (x8 - x1)) < 64))) else (scarabref02_shifted.j1 k x0 x1 x2 x7 x8 x2 false)) else (some x7)
def scarabref02_shifted.j1 : Nat → Int → Int → Int → Int → Int → Int → Bool → Option (Int)
  | 0, _, _, _, _, _, _, _ => none
  | k + 1, x0, x1, x2, x7, x8, x9, x24 => if x24 = true then ((scarabref02_bit.f x0 (wrap64 (x8 - x1))).bind fun t189 => ((scarabref02_put.f x7 x8 t189).bind fun t190 => (scarabref02_shifted.l0 k x0 x1 x2 t190 (wrap64 (x8 + 1))))) else ((scarabref02_put.f x7 x8 x9).bind fun t191 => (scarabref02_shifted.l0 k x0 x1 x2 t191 (wrap64 (x8 + 1))))
end
def scarabref02_shifted.f (k : Nat) (a0 : Int) (a1 : Int) (a2 : Int) : Option (Int) := scarabref02_shifted.l0 k a0 a1 a2 0 0
theorem scarabref02_shifted.mono_l : ∀ k, (∀ y0 y1 y2 y3 y4, LeO (scarabref02_shifted.l0 k y0 y1 y2 y3 y4) (scarabref02_shifted.l0 (k + 1) y0 y1 y2 y3 y4)) ∧ (∀ y0 y1 y2 y3 y4 y5 y6, LeO (scarabref02_shifted.j1 k y0 y1 y2 y3 y4 y5 y6) (scarabref02_shifted.j1 (k + 1) y0 y1 y2 y3 y4 y5 y6))
  | 0 => ⟨fun _ _ _ _ _ r h => by simp [scarabref02_shifted.l0] at h, fun _ _ _ _ _ _ _ r h => by simp [scarabref02_shifted.j1] at h⟩
  | k + 1 => by
    obtain ⟨ih0, ih1⟩ := scarabref02_shifted.mono_l k
    refine ⟨?_, ?_⟩
    · intro y0 y1 y2 y3 y4
      unfold scarabref02_shifted.l0
      repeat' first
      | (with_reducible exact ih0 _ _ _ _ _)
      | (with_reducible exact ih1 _ _ _ _ _ _ _)
      | (with_reducible exact LeO.refl _)
      | (with_reducible exact LeO.none _)
      | (with_reducible refine LeO.ite ?_ ?_)
      | (with_reducible refine LeO.bind ?_ (fun _ => ?_))
      | exact ih0 _ _ _ _ _
      | exact ih1 _ _ _ _ _ _ _
      | exact LeO.none _
      | refine LeO.ite ?_ ?_
      | refine LeO.bind ?_ (fun _ => ?_)
    · intro y0 y1 y2 y3 y4 y5 y6
      unfold scarabref02_shifted.j1
      repeat' first
      | (with_reducible exact ih0 _ _ _ _ _)
      | (with_reducible exact ih1 _ _ _ _ _ _ _)
      | (with_reducible exact LeO.refl _)
      | (with_reducible exact LeO.none _)
      | (with_reducible refine LeO.ite ?_ ?_)
      | (with_reducible refine LeO.bind ?_ (fun _ => ?_))
      | exact ih0 _ _ _ _ _
      | exact ih1 _ _ _ _ _ _ _
      | exact LeO.none _
      | refine LeO.ite ?_ ?_
      | refine LeO.bind ?_ (fun _ => ?_)
theorem scarabref02_shifted.mono : ∀ a0 a1 a2 k, LeO (scarabref02_shifted.f k a0 a1 a2) (scarabref02_shifted.f (k + 1) a0 a1 a2) := by
  intro a0 a1 a2 k
  obtain ⟨ih0, ih1⟩ := scarabref02_shifted.mono_l k
  unfold scarabref02_shifted.f
  repeat' first
      | (with_reducible exact ih0 _ _ _ _ _)
      | (with_reducible exact ih1 _ _ _ _ _ _ _)
      | (with_reducible exact LeO.refl _)
      | (with_reducible exact LeO.none _)
      | (with_reducible refine LeO.ite ?_ ?_)
      | (with_reducible refine LeO.bind ?_ (fun _ => ?_))
      | exact ih0 _ _ _ _ _
      | exact ih1 _ _ _ _ _ _ _
      | exact LeO.none _
      | refine LeO.ite ?_ ?_
      | refine LeO.bind ?_ (fun _ => ?_)
set_option maxHeartbeats 8000000 in
set_option maxRecDepth 100000 in
theorem scarabref02_shifted.calls (k : Nat) (a0 : Int) (a1 : Int) (a2 : Int) (r : Int) (w : World) (h : scarabref02_shifted.f k a0 a1 a2 = some r) :
    Calls Tryd.prog 51 #[.int .i64 a0, .int .i64 a1, .int .i64 a2] w fun e w' => e = .returned (.int .i64 r) ∧ Drawn0 w w' := by
  have H : (scarabref02_shifted.l0 k a0 a1 a2 0 0) = some r := h
  clear h
  have H' := Aside0.mk H
  clear H
  go_enter Tryd.func51, Tryd.ntmps51
  go_wp2
  go_loopg [7, 8] k (fun kq v7 v8 w' => ∃ (x7_1 : Int) (x8_1 : Int), v7 = .int .i64 x7_1 ∧ v8 = .int .i64 x8_1 ∧ Aside0 (scarabref02_shifted.l0 kq a0 a1 a2 x7_1 x8_1 = some r) ∧ Aside0 (kq ≤ k) ∧ Drawn0 w w')
  case atStart => exact ⟨(0), (0), (by first | rfl | (simp; done) | (simp [*]; done)), (by first | rfl | (simp; done) | (simp [*]; done)), H', ⟨Nat.le_refl _⟩, by repeat (first | exact Drawn0.refl _ | apply Drawn0.step)⟩
  case round =>
    clear H'
    try clear p2
    obtain ⟨x7_1, x8_1, rfl, rfl, HA, HK1, ⟨m1, rfl⟩⟩ := hrel
    cases gk with
    | zero => exact absurd HA.out (by simp [scarabref02_shifted.l0])
    | succ k1 =>
      have H := HA.out
      clear HA
      simp only [scarabref02_shifted.l0] at H
      by_cases c4 : x8_1 < 64
      · rw [if_pos c4] at H
        have c4b0 : decide (x8_1 < 64) = true := decide_eq_true c4
        clear c4
        have HC5 := Aside0.mk H
        clear H
        go_upto_region 6 with (fail)
        go_cut [24] (fun v24 wc => ∃ (kq : Nat) (x24_4 : Bool), v24 = .bool x24_4 ∧ Aside0 (scarabref02_shifted.j1 kq a0 a1 a2 x7_1 x8_1 a2 x24_4 = some r) ∧ Aside0 (kq ≤ k1) ∧ Drawn0 w wc)
        case first =>
          have H := HC5.out
          clear HC5
          by_cases c6 : (wrap64 (x8_1 - a1)) ≥ 0
          · rw [if_pos c6] at H
            have c6b0 : decide (0 ≤ (wrap64 (x8_1 - a1))) = true := decide_eq_true c6
            clear c6
            (first | rw [c6b0] | (simp only [i64_w, i32_w]; rw [c6b0]) | skip)
            have H' := Aside0.mk H
            clear H
            go_wp2
            go_meet
            case rel => exact ⟨_, (decide ((wrap64 (x8_1 - a1)) < 64)), (by first | rfl | (simp; done) | (simp [*]; done)), H', ⟨by have := HK1.out; first | omega | exact Nat.le_refl _⟩, by repeat (first | exact Drawn0.refl _ | apply Drawn0.step)⟩
          · rw [if_neg c6] at H
            have c6b0 : decide (0 ≤ (wrap64 (x8_1 - a1))) = false := decide_eq_false c6
            clear c6
            (first | rw [c6b0] | (simp only [i64_w, i32_w]; rw [c6b0]) | skip)
            have H' := Aside0.mk H
            clear H
            go_wp2
            go_meet
            case rel => exact ⟨_, (false), (by first | rfl | (simp; done) | (simp [*]; done)), H', ⟨by have := HK1.out; first | omega | exact Nat.le_refl _⟩, by repeat (first | exact Drawn0.refl _ | apply Drawn0.step)⟩
        case rest =>
          clear HC5
          try clear p2
          try clear c4
          try clear c4b0
          try clear c5
          try clear c6
          try clear c6b0
          try clear p6
          try clear p2
          obtain ⟨kq, x24_4, rfl, HA, HJ4, ⟨mc4, rfl⟩⟩ := hcut
          cases kq with
          | zero => exact absurd HA.out (by simp [scarabref02_shifted.j1])
          | succ kj4 =>
            have H := HA.out
            clear HA
            simp only [scarabref02_shifted.j1] at H
            by_cases c7 : x24_4 = true
            · subst c7
              have H1 : ((scarabref02_bit.f a0 (wrap64 (x8_1 - a1))).bind fun t189 => ((scarabref02_put.f x7_1 x8_1 t189).bind fun t190 => (scarabref02_shifted.l0 kj4 a0 a1 a2 t190 (wrap64 (x8_1 + 1))))) = some r := by rw [if_pos rfl] at H; exact H
              clear H
              have H := H1
              clear H1
              replace H := Option.bind_eq_some_iff.mp H
              obtain ⟨t189, A80, H⟩ := H
              replace H : ((scarabref02_put.f x7_1 x8_1 t189).bind fun t190 => (scarabref02_shifted.l0 kj4 a0 a1 a2 t190 (wrap64 (x8_1 + 1)))) = some r := H
              have A8 := Aside0.mk A80
              clear A80
              replace H := Option.bind_eq_some_iff.mp H
              obtain ⟨t190, A90, H⟩ := H
              replace H : (scarabref02_shifted.l0 kj4 a0 a1 a2 t190 (wrap64 (x8_1 + 1))) = some r := H
              have A9 := Aside0.mk A90
              clear A90
              have H' := Aside0.mk H
              clear H
              go_wp2_with (first | ((with_reducible refine gate_callee (f := 42) rfl ?_); refine goesL_ (some 29) rfl rfl Tryd.func42 (by kernel_rfl) rfl #[.int .i64 a0, .int .i64 (wrap64 (x8_1 - a1))] rfl (by (try simp only [List.map_toArray, List.map_cons, List.map_nil]); first | done | rfl | (simp only [List.length_drop, List.length_take]; rfl)) ?_; (with_reducible refine (scarabref02_bit.calls a0 (wrap64 (x8_1 - a1)) t189 _ A8.out).mono ?_); rintro e w' ⟨rfl, ⟨nd, rfl⟩⟩; refine ⟨_, rfl, ?_⟩) | ((with_reducible refine gate_callee (f := 63) rfl ?_); refine goesL_ (some 33) rfl rfl Tryd.func63 (by kernel_rfl) rfl #[.int .i64 x7_1, .int .i64 x8_1, .int .i64 t189] rfl (by (try simp only [List.map_toArray, List.map_cons, List.map_nil]); first | done | rfl | (simp only [List.length_drop, List.length_take]; rfl)) ?_; (with_reducible refine (scarabref02_put.calls x7_1 x8_1 t189 t190 _ A9.out).mono ?_); rintro e w' ⟨rfl, ⟨nd, rfl⟩⟩; refine ⟨_, rfl, ?_⟩))
              go_roundg kj4
              case measure => have := HK1.out; have := HJ4.out; omega
              case rel => exact ⟨(t190), (wrap64 (x8_1 + 1)), (by first | rfl | (simp; done) | (simp [*]; done)), (by first | rfl | (simp; done) | (simp [*]; done)), H', ⟨by have := HK1.out; have := HJ4.out; omega⟩, by repeat (first | exact Drawn0.refl _ | apply Drawn0.step)⟩
            · replace c7 := Bool.eq_false_iff.mpr c7
              subst c7
              have H1 : ((scarabref02_put.f x7_1 x8_1 a2).bind fun t191 => (scarabref02_shifted.l0 kj4 a0 a1 a2 t191 (wrap64 (x8_1 + 1)))) = some r := by rw [if_neg (show ¬ (false = true) by decide)] at H; exact H
              clear H
              have H := H1
              clear H1
              replace H := Option.bind_eq_some_iff.mp H
              obtain ⟨t191, A100, H⟩ := H
              replace H : (scarabref02_shifted.l0 kj4 a0 a1 a2 t191 (wrap64 (x8_1 + 1))) = some r := H
              have A10 := Aside0.mk A100
              clear A100
              have H' := Aside0.mk H
              clear H
              go_wp2_with (first | ((with_reducible refine gate_callee (f := 63) rfl ?_); refine goesL_ (some 33) rfl rfl Tryd.func63 (by kernel_rfl) rfl #[.int .i64 x7_1, .int .i64 x8_1, .int .i64 a2] rfl (by (try simp only [List.map_toArray, List.map_cons, List.map_nil]); first | done | rfl | (simp only [List.length_drop, List.length_take]; rfl)) ?_; (with_reducible refine (scarabref02_put.calls x7_1 x8_1 a2 t191 _ A10.out).mono ?_); rintro e w' ⟨rfl, ⟨nd, rfl⟩⟩; refine ⟨_, rfl, ?_⟩))
              go_roundg kj4
              case measure => have := HK1.out; have := HJ4.out; omega
              case rel => exact ⟨(t191), (wrap64 (x8_1 + 1)), (by first | rfl | (simp; done) | (simp [*]; done)), (by first | rfl | (simp; done) | (simp [*]; done)), H', ⟨by have := HK1.out; have := HJ4.out; omega⟩, by repeat (first | exact Drawn0.refl _ | apply Drawn0.step)⟩
      · rw [if_neg c4] at H
        have c4b0 : decide (x8_1 < 64) = false := decide_eq_false c4
        clear c4
        obtain rfl := Option.some.inj H
        go_wp2
        go_ret
        exact ⟨by first | rfl | (simp; done) | (simp [*]; done), by repeat (first | exact Drawn0.refl _ | apply Drawn0.step)⟩

/-! ### scarabref02_few: function 52 -/
def scarabref02_few.f (a0 : Int) : Option (Int) := if a0 > 64 then (some 64) else (some a0)
set_option maxHeartbeats 8000000 in
set_option maxRecDepth 100000 in
theorem scarabref02_few.calls (a0 : Int) (r : Int) (w : World) (h : scarabref02_few.f a0 = some r) :
    Calls Tryd.prog 52 #[.int .i64 a0] w fun e w' => e = .returned (.int .i64 r) ∧ Drawn0 w w' := by
  have H : (if a0 > 64 then (some 64) else (some a0)) = some r := h
  clear h
  by_cases c2 : a0 > 64
  · rw [if_pos c2] at H
    have c2b0 : decide (64 < a0) = true := decide_eq_true c2
    clear c2
    obtain rfl := Option.some.inj H
    go_enter Tryd.func52, Tryd.ntmps52
    go_wp2
    go_ret
    exact ⟨by first | rfl | (simp; done) | (simp [*]; done), by repeat (first | exact Drawn0.refl _ | apply Drawn0.step)⟩
  · rw [if_neg c2] at H
    have c2b0 : decide (64 < a0) = false := decide_eq_false c2
    clear c2
    obtain rfl := Option.some.inj H
    go_enter Tryd.func52, Tryd.ntmps52
    go_wp2
    go_ret
    exact ⟨by first | rfl | (simp; done) | (simp [*]; done), by repeat (first | exact Drawn0.refl _ | apply Drawn0.step)⟩

/-! ### scarabref02_bits: function 66 -/
def scarabref02_bits.l0 : Nat → Int → Int → Int → Int → Int → Option (Int)
  | 0, _, _, _, _, _ => none
  | k + 1, x0, x1, x2, x7, x8 => if x8 < 64 then ((scarabref02_bit.f x1 x8).bind fun t192 => ((scarabref02_bit.f x2 x8).bind fun t193 => (if x0 = 21 then ((scarabref02_yes.f ((wrap64 (t192 + t193)) == 2)).bind fun t194 => ((scarabref02_put.f x7 x8 t194).bind fun t195 => (scarabref02_bits.l0 k x0 x1 x2 t195 (wrap64 (x8 + 1))))) else (if x0 = 22 then ((scarabref02_yes.f (decide ((wrap64 (t192 + t193)) > 0))).bind fun t196 => ((scarabref02_put.f x7 x8 t196).bind fun t197 => (scarabref02_bits.l0 k x0 x1 x2 t197 (wrap64 (x8 + 1))))) else (if x0 = 23 then ((scarabref02_yes.f ((wrap64 (t192 + t193)) == 1)).bind fun t198 => ((scarabref02_put.f x7 x8 t198).bind fun t199 => (scarabref02_bits.l0 k x0 x1 x2 t199 (wrap64 (x8 + 1))))) else (if x0 = 24 then (if t192 = 1 then ((scarabref02_yes.f (t193 == 0)).bind fun t200 => ((scarabref02_put.f x7 x8 t200).bind fun t201 => (scarabref02_bits.l0 k x0 x1 x2 t201 (wrap64 (x8 + 1))))) else ((scarabref02_yes.f false).bind fun t202 => ((scarabref02_put.f x7 x8 t202).bind fun t203 => (scarabref02_bits.l0 k x0 x1 x2 t203 (wrap64 (x8 + 1)))))) else ((scarabref02_yes.f false).bind fun t204 => ((scarabref02_put.f x7 x8 t204).bind fun t205 => (scarabref02_bits.l0 k x0 x1 x2 t205 (wrap64 (x8 + 1))))))))))) else (some x7)
def scarabref02_bits.f (k : Nat) (a0 : Int) (a1 : Int) (a2 : Int) : Option (Int) := scarabref02_bits.l0 k a0 a1 a2 0 0
theorem scarabref02_bits.mono_l : ∀ k, (∀ y0 y1 y2 y3 y4, LeO (scarabref02_bits.l0 k y0 y1 y2 y3 y4) (scarabref02_bits.l0 (k + 1) y0 y1 y2 y3 y4))
  | 0 => fun _ _ _ _ _ r h => by simp [scarabref02_bits.l0] at h
  | k + 1 => by
    have ih0 := scarabref02_bits.mono_l k
    · intro y0 y1 y2 y3 y4
      unfold scarabref02_bits.l0
      repeat' first
      | (with_reducible exact ih0 _ _ _ _ _)
      | (with_reducible exact LeO.refl _)
      | (with_reducible exact LeO.none _)
      | (with_reducible refine LeO.ite ?_ ?_)
      | (with_reducible refine LeO.bind ?_ (fun _ => ?_))
      | exact ih0 _ _ _ _ _
      | exact LeO.none _
      | refine LeO.ite ?_ ?_
      | refine LeO.bind ?_ (fun _ => ?_)
theorem scarabref02_bits.mono : ∀ a0 a1 a2 k, LeO (scarabref02_bits.f k a0 a1 a2) (scarabref02_bits.f (k + 1) a0 a1 a2) := by
  intro a0 a1 a2 k
  have ih0 := scarabref02_bits.mono_l k
  unfold scarabref02_bits.f
  repeat' first
      | (with_reducible exact ih0 _ _ _ _ _)
      | (with_reducible exact LeO.refl _)
      | (with_reducible exact LeO.none _)
      | (with_reducible refine LeO.ite ?_ ?_)
      | (with_reducible refine LeO.bind ?_ (fun _ => ?_))
      | exact ih0 _ _ _ _ _
      | exact LeO.none _
      | refine LeO.ite ?_ ?_
      | refine LeO.bind ?_ (fun _ => ?_)
set_option maxHeartbeats 8000000 in
set_option maxRecDepth 100000 in
theorem scarabref02_bits.calls (k : Nat) (a0 : Int) (a1 : Int) (a2 : Int) (r : Int) (w : World) (h : scarabref02_bits.f k a0 a1 a2 = some r) :
    Calls Tryd.prog 66 #[.int .i64 a0, .int .i64 a1, .int .i64 a2] w fun e w' => e = .returned (.int .i64 r) ∧ Drawn0 w w' := by
  have H : (scarabref02_bits.l0 k a0 a1 a2 0 0) = some r := h
  clear h
  have H' := Aside0.mk H
  clear H
  go_enter Tryd.func66, Tryd.ntmps66
  go_wp2
  go_loopg [7, 8] k (fun kq v7 v8 w' => ∃ (x7_1 : Int) (x8_1 : Int), v7 = .int .i64 x7_1 ∧ v8 = .int .i64 x8_1 ∧ Aside0 (scarabref02_bits.l0 kq a0 a1 a2 x7_1 x8_1 = some r) ∧ Aside0 (kq ≤ k) ∧ Drawn0 w w')
  case atStart => exact ⟨(0), (0), (by first | rfl | (simp; done) | (simp [*]; done)), (by first | rfl | (simp; done) | (simp [*]; done)), H', ⟨Nat.le_refl _⟩, by repeat (first | exact Drawn0.refl _ | apply Drawn0.step)⟩
  case round =>
    clear H'
    try clear p2
    obtain ⟨x7_1, x8_1, rfl, rfl, HA, HK1, ⟨m1, rfl⟩⟩ := hrel
    cases gk with
    | zero => exact absurd HA.out (by simp [scarabref02_bits.l0])
    | succ k1 =>
      have H := HA.out
      clear HA
      simp only [scarabref02_bits.l0] at H
      by_cases c4 : x8_1 < 64
      · rw [if_pos c4] at H
        have c4b0 : decide (x8_1 < 64) = true := decide_eq_true c4
        clear c4
        replace H := Option.bind_eq_some_iff.mp H
        obtain ⟨t192, A50, H⟩ := H
        replace H : ((scarabref02_bit.f a2 x8_1).bind fun t193 => (if a0 = 21 then ((scarabref02_yes.f ((wrap64 (t192 + t193)) == 2)).bind fun t194 => ((scarabref02_put.f x7_1 x8_1 t194).bind fun t195 => (scarabref02_bits.l0 k1 a0 a1 a2 t195 (wrap64 (x8_1 + 1))))) else (if a0 = 22 then ((scarabref02_yes.f (decide ((wrap64 (t192 + t193)) > 0))).bind fun t196 => ((scarabref02_put.f x7_1 x8_1 t196).bind fun t197 => (scarabref02_bits.l0 k1 a0 a1 a2 t197 (wrap64 (x8_1 + 1))))) else (if a0 = 23 then ((scarabref02_yes.f ((wrap64 (t192 + t193)) == 1)).bind fun t198 => ((scarabref02_put.f x7_1 x8_1 t198).bind fun t199 => (scarabref02_bits.l0 k1 a0 a1 a2 t199 (wrap64 (x8_1 + 1))))) else (if a0 = 24 then (if t192 = 1 then ((scarabref02_yes.f (t193 == 0)).bind fun t200 => ((scarabref02_put.f x7_1 x8_1 t200).bind fun t201 => (scarabref02_bits.l0 k1 a0 a1 a2 t201 (wrap64 (x8_1 + 1))))) else ((scarabref02_yes.f false).bind fun t202 => ((scarabref02_put.f x7_1 x8_1 t202).bind fun t203 => (scarabref02_bits.l0 k1 a0 a1 a2 t203 (wrap64 (x8_1 + 1)))))) else ((scarabref02_yes.f false).bind fun t204 => ((scarabref02_put.f x7_1 x8_1 t204).bind fun t205 => (scarabref02_bits.l0 k1 a0 a1 a2 t205 (wrap64 (x8_1 + 1)))))))))) = some r := H
        have A5 := Aside0.mk A50
        clear A50
        replace H := Option.bind_eq_some_iff.mp H
        obtain ⟨t193, A60, H⟩ := H
        replace H : (if a0 = 21 then ((scarabref02_yes.f ((wrap64 (t192 + t193)) == 2)).bind fun t194 => ((scarabref02_put.f x7_1 x8_1 t194).bind fun t195 => (scarabref02_bits.l0 k1 a0 a1 a2 t195 (wrap64 (x8_1 + 1))))) else (if a0 = 22 then ((scarabref02_yes.f (decide ((wrap64 (t192 + t193)) > 0))).bind fun t196 => ((scarabref02_put.f x7_1 x8_1 t196).bind fun t197 => (scarabref02_bits.l0 k1 a0 a1 a2 t197 (wrap64 (x8_1 + 1))))) else (if a0 = 23 then ((scarabref02_yes.f ((wrap64 (t192 + t193)) == 1)).bind fun t198 => ((scarabref02_put.f x7_1 x8_1 t198).bind fun t199 => (scarabref02_bits.l0 k1 a0 a1 a2 t199 (wrap64 (x8_1 + 1))))) else (if a0 = 24 then (if t192 = 1 then ((scarabref02_yes.f (t193 == 0)).bind fun t200 => ((scarabref02_put.f x7_1 x8_1 t200).bind fun t201 => (scarabref02_bits.l0 k1 a0 a1 a2 t201 (wrap64 (x8_1 + 1))))) else ((scarabref02_yes.f false).bind fun t202 => ((scarabref02_put.f x7_1 x8_1 t202).bind fun t203 => (scarabref02_bits.l0 k1 a0 a1 a2 t203 (wrap64 (x8_1 + 1)))))) else ((scarabref02_yes.f false).bind fun t204 => ((scarabref02_put.f x7_1 x8_1 t204).bind fun t205 => (scarabref02_bits.l0 k1 a0 a1 a2 t205 (wrap64 (x8_1 + 1))))))))) = some r := H
        have A6 := Aside0.mk A60
        clear A60
        by_cases c7 : a0 = 21
        · rw [if_pos c7] at H
          have c7b0 : (a0 == 21) = true := beq_iff_eq.mpr c7
          have c7b1 : (a0 != 21) = false := bne_eq_false_iff_eq.mpr c7
          clear c7
          replace H := Option.bind_eq_some_iff.mp H
          obtain ⟨t194, A80, H⟩ := H
          replace H : ((scarabref02_put.f x7_1 x8_1 t194).bind fun t195 => (scarabref02_bits.l0 k1 a0 a1 a2 t195 (wrap64 (x8_1 + 1)))) = some r := H
          have A8 := Aside0.mk A80
          clear A80
          replace H := Option.bind_eq_some_iff.mp H
          obtain ⟨t195, A90, H⟩ := H
          replace H : (scarabref02_bits.l0 k1 a0 a1 a2 t195 (wrap64 (x8_1 + 1))) = some r := H
          have A9 := Aside0.mk A90
          clear A90
          have H' := Aside0.mk H
          clear H
          go_wp2_with (first | ((with_reducible refine gate_callee (f := 42) rfl ?_); refine goesL_ (some 18) rfl rfl Tryd.func42 (by kernel_rfl) rfl #[.int .i64 a1, .int .i64 x8_1] rfl (by (try simp only [List.map_toArray, List.map_cons, List.map_nil]); first | done | rfl | (simp only [List.length_drop, List.length_take]; rfl)) ?_; (with_reducible refine (scarabref02_bit.calls a1 x8_1 t192 _ A5.out).mono ?_); rintro e w' ⟨rfl, ⟨nd, rfl⟩⟩; refine ⟨_, rfl, ?_⟩) | ((with_reducible refine gate_callee (f := 42) rfl ?_); refine goesL_ (some 21) rfl rfl Tryd.func42 (by kernel_rfl) rfl #[.int .i64 a2, .int .i64 x8_1] rfl (by (try simp only [List.map_toArray, List.map_cons, List.map_nil]); first | done | rfl | (simp only [List.length_drop, List.length_take]; rfl)) ?_; (with_reducible refine (scarabref02_bit.calls a2 x8_1 t193 _ A6.out).mono ?_); rintro e w' ⟨rfl, ⟨nd, rfl⟩⟩; refine ⟨_, rfl, ?_⟩) | ((with_reducible refine gate_callee (f := 64) rfl ?_); refine goesL_ (some 52) rfl rfl Tryd.func64 (by kernel_rfl) rfl #[.bool ((wrap64 (t192 + t193)) == 2)] rfl (by (try simp only [List.map_toArray, List.map_cons, List.map_nil]); first | done | rfl | (simp only [List.length_drop, List.length_take]; rfl)) ?_; (with_reducible refine (scarabref02_yes.calls ((wrap64 (t192 + t193)) == 2) t194 _ A8.out).mono ?_); rintro e w' ⟨rfl, ⟨nd, rfl⟩⟩; refine ⟨_, rfl, ?_⟩) | ((with_reducible refine gate_callee (f := 63) rfl ?_); refine goesL_ (some 53) rfl rfl Tryd.func63 (by kernel_rfl) rfl #[.int .i64 x7_1, .int .i64 x8_1, .int .i64 t194] rfl (by (try simp only [List.map_toArray, List.map_cons, List.map_nil]); first | done | rfl | (simp only [List.length_drop, List.length_take]; rfl)) ?_; (with_reducible refine (scarabref02_put.calls x7_1 x8_1 t194 t195 _ A9.out).mono ?_); rintro e w' ⟨rfl, ⟨nd, rfl⟩⟩; refine ⟨_, rfl, ?_⟩))
          go_roundg k1
          case measure => have := HK1.out; omega
          case rel => exact ⟨(t195), (wrap64 (x8_1 + 1)), (by first | rfl | (simp; done) | (simp [*]; done)), (by first | rfl | (simp; done) | (simp [*]; done)), H', ⟨by have := HK1.out; omega⟩, by repeat (first | exact Drawn0.refl _ | apply Drawn0.step)⟩
        · rw [if_neg c7] at H
          have c7b0 : (a0 == 21) = false := beq_eq_false_iff_ne.mpr c7
          have c7b1 : (a0 != 21) = true := bne_iff_ne.mpr c7
          by_cases c10 : a0 = 22
          · rw [if_pos c10] at H
            have c10b0 : (a0 == 22) = true := beq_iff_eq.mpr c10
            have c10b1 : (a0 != 22) = false := bne_eq_false_iff_eq.mpr c10
            clear c10
            replace H := Option.bind_eq_some_iff.mp H
            obtain ⟨t196, A110, H⟩ := H
            replace H : ((scarabref02_put.f x7_1 x8_1 t196).bind fun t197 => (scarabref02_bits.l0 k1 a0 a1 a2 t197 (wrap64 (x8_1 + 1)))) = some r := H
            have A11 := Aside0.mk A110
            clear A110
            replace H := Option.bind_eq_some_iff.mp H
            obtain ⟨t197, A120, H⟩ := H
            replace H : (scarabref02_bits.l0 k1 a0 a1 a2 t197 (wrap64 (x8_1 + 1))) = some r := H
            have A12 := Aside0.mk A120
            clear A120
            have H' := Aside0.mk H
            clear H
            go_wp2_with (first | ((with_reducible refine gate_callee (f := 42) rfl ?_); refine goesL_ (some 18) rfl rfl Tryd.func42 (by kernel_rfl) rfl #[.int .i64 a1, .int .i64 x8_1] rfl (by (try simp only [List.map_toArray, List.map_cons, List.map_nil]); first | done | rfl | (simp only [List.length_drop, List.length_take]; rfl)) ?_; (with_reducible refine (scarabref02_bit.calls a1 x8_1 t192 _ A5.out).mono ?_); rintro e w' ⟨rfl, ⟨nd, rfl⟩⟩; refine ⟨_, rfl, ?_⟩) | ((with_reducible refine gate_callee (f := 42) rfl ?_); refine goesL_ (some 21) rfl rfl Tryd.func42 (by kernel_rfl) rfl #[.int .i64 a2, .int .i64 x8_1] rfl (by (try simp only [List.map_toArray, List.map_cons, List.map_nil]); first | done | rfl | (simp only [List.length_drop, List.length_take]; rfl)) ?_; (with_reducible refine (scarabref02_bit.calls a2 x8_1 t193 _ A6.out).mono ?_); rintro e w' ⟨rfl, ⟨nd, rfl⟩⟩; refine ⟨_, rfl, ?_⟩) | ((with_reducible refine gate_callee (f := 64) rfl ?_); refine goesL_ (some 52) rfl rfl Tryd.func64 (by kernel_rfl) rfl #[.bool (decide ((wrap64 (t192 + t193)) > 0))] rfl (by (try simp only [List.map_toArray, List.map_cons, List.map_nil]); first | done | rfl | (simp only [List.length_drop, List.length_take]; rfl)) ?_; (with_reducible refine (scarabref02_yes.calls (decide ((wrap64 (t192 + t193)) > 0)) t196 _ A11.out).mono ?_); rintro e w' ⟨rfl, ⟨nd, rfl⟩⟩; refine ⟨_, rfl, ?_⟩) | ((with_reducible refine gate_callee (f := 63) rfl ?_); refine goesL_ (some 53) rfl rfl Tryd.func63 (by kernel_rfl) rfl #[.int .i64 x7_1, .int .i64 x8_1, .int .i64 t196] rfl (by (try simp only [List.map_toArray, List.map_cons, List.map_nil]); first | done | rfl | (simp only [List.length_drop, List.length_take]; rfl)) ?_; (with_reducible refine (scarabref02_put.calls x7_1 x8_1 t196 t197 _ A12.out).mono ?_); rintro e w' ⟨rfl, ⟨nd, rfl⟩⟩; refine ⟨_, rfl, ?_⟩))
            go_roundg k1
            case measure => have := HK1.out; omega
            case rel => exact ⟨(t197), (wrap64 (x8_1 + 1)), (by first | rfl | (simp; done) | (simp [*]; done)), (by first | rfl | (simp; done) | (simp [*]; done)), H', ⟨by have := HK1.out; omega⟩, by repeat (first | exact Drawn0.refl _ | apply Drawn0.step)⟩
          · rw [if_neg c10] at H
            have c10b0 : (a0 == 22) = false := beq_eq_false_iff_ne.mpr c10
            have c10b1 : (a0 != 22) = true := bne_iff_ne.mpr c10
            by_cases c13 : a0 = 23
            · rw [if_pos c13] at H
              have c13b0 : (a0 == 23) = true := beq_iff_eq.mpr c13
              have c13b1 : (a0 != 23) = false := bne_eq_false_iff_eq.mpr c13
              clear c13
              replace H := Option.bind_eq_some_iff.mp H
              obtain ⟨t198, A140, H⟩ := H
              replace H : ((scarabref02_put.f x7_1 x8_1 t198).bind fun t199 => (scarabref02_bits.l0 k1 a0 a1 a2 t199 (wrap64 (x8_1 + 1)))) = some r := H
              have A14 := Aside0.mk A140
              clear A140
              replace H := Option.bind_eq_some_iff.mp H
              obtain ⟨t199, A150, H⟩ := H
              replace H : (scarabref02_bits.l0 k1 a0 a1 a2 t199 (wrap64 (x8_1 + 1))) = some r := H
              have A15 := Aside0.mk A150
              clear A150
              have H' := Aside0.mk H
              clear H
              go_wp2_with (first | ((with_reducible refine gate_callee (f := 42) rfl ?_); refine goesL_ (some 18) rfl rfl Tryd.func42 (by kernel_rfl) rfl #[.int .i64 a1, .int .i64 x8_1] rfl (by (try simp only [List.map_toArray, List.map_cons, List.map_nil]); first | done | rfl | (simp only [List.length_drop, List.length_take]; rfl)) ?_; (with_reducible refine (scarabref02_bit.calls a1 x8_1 t192 _ A5.out).mono ?_); rintro e w' ⟨rfl, ⟨nd, rfl⟩⟩; refine ⟨_, rfl, ?_⟩) | ((with_reducible refine gate_callee (f := 42) rfl ?_); refine goesL_ (some 21) rfl rfl Tryd.func42 (by kernel_rfl) rfl #[.int .i64 a2, .int .i64 x8_1] rfl (by (try simp only [List.map_toArray, List.map_cons, List.map_nil]); first | done | rfl | (simp only [List.length_drop, List.length_take]; rfl)) ?_; (with_reducible refine (scarabref02_bit.calls a2 x8_1 t193 _ A6.out).mono ?_); rintro e w' ⟨rfl, ⟨nd, rfl⟩⟩; refine ⟨_, rfl, ?_⟩) | ((with_reducible refine gate_callee (f := 64) rfl ?_); refine goesL_ (some 52) rfl rfl Tryd.func64 (by kernel_rfl) rfl #[.bool ((wrap64 (t192 + t193)) == 1)] rfl (by (try simp only [List.map_toArray, List.map_cons, List.map_nil]); first | done | rfl | (simp only [List.length_drop, List.length_take]; rfl)) ?_; (with_reducible refine (scarabref02_yes.calls ((wrap64 (t192 + t193)) == 1) t198 _ A14.out).mono ?_); rintro e w' ⟨rfl, ⟨nd, rfl⟩⟩; refine ⟨_, rfl, ?_⟩) | ((with_reducible refine gate_callee (f := 63) rfl ?_); refine goesL_ (some 53) rfl rfl Tryd.func63 (by kernel_rfl) rfl #[.int .i64 x7_1, .int .i64 x8_1, .int .i64 t198] rfl (by (try simp only [List.map_toArray, List.map_cons, List.map_nil]); first | done | rfl | (simp only [List.length_drop, List.length_take]; rfl)) ?_; (with_reducible refine (scarabref02_put.calls x7_1 x8_1 t198 t199 _ A15.out).mono ?_); rintro e w' ⟨rfl, ⟨nd, rfl⟩⟩; refine ⟨_, rfl, ?_⟩))
              go_roundg k1
              case measure => have := HK1.out; omega
              case rel => exact ⟨(t199), (wrap64 (x8_1 + 1)), (by first | rfl | (simp; done) | (simp [*]; done)), (by first | rfl | (simp; done) | (simp [*]; done)), H', ⟨by have := HK1.out; omega⟩, by repeat (first | exact Drawn0.refl _ | apply Drawn0.step)⟩
            · rw [if_neg c13] at H
              have c13b0 : (a0 == 23) = false := beq_eq_false_iff_ne.mpr c13
              have c13b1 : (a0 != 23) = true := bne_iff_ne.mpr c13
              by_cases c16 : a0 = 24
              · rw [if_pos c16] at H
                have c16b0 : (a0 == 24) = true := beq_iff_eq.mpr c16
                have c16b1 : (a0 != 24) = false := bne_eq_false_iff_eq.mpr c16
                clear c16
                by_cases c17 : t192 = 1
                · rw [if_pos c17] at H
                  have c17b0 : (t192 == 1) = true := beq_iff_eq.mpr c17
                  have c17b1 : (t192 != 1) = false := bne_eq_false_iff_eq.mpr c17
                  clear c17
                  replace H := Option.bind_eq_some_iff.mp H
                  obtain ⟨t200, A180, H⟩ := H
                  replace H : ((scarabref02_put.f x7_1 x8_1 t200).bind fun t201 => (scarabref02_bits.l0 k1 a0 a1 a2 t201 (wrap64 (x8_1 + 1)))) = some r := H
                  have A18 := Aside0.mk A180
                  clear A180
                  replace H := Option.bind_eq_some_iff.mp H
                  obtain ⟨t201, A190, H⟩ := H
                  replace H : (scarabref02_bits.l0 k1 a0 a1 a2 t201 (wrap64 (x8_1 + 1))) = some r := H
                  have A19 := Aside0.mk A190
                  clear A190
                  have H' := Aside0.mk H
                  clear H
                  go_wp2_with (first | ((with_reducible refine gate_callee (f := 42) rfl ?_); refine goesL_ (some 18) rfl rfl Tryd.func42 (by kernel_rfl) rfl #[.int .i64 a1, .int .i64 x8_1] rfl (by (try simp only [List.map_toArray, List.map_cons, List.map_nil]); first | done | rfl | (simp only [List.length_drop, List.length_take]; rfl)) ?_; (with_reducible refine (scarabref02_bit.calls a1 x8_1 t192 _ A5.out).mono ?_); rintro e w' ⟨rfl, ⟨nd, rfl⟩⟩; refine ⟨_, rfl, ?_⟩) | ((with_reducible refine gate_callee (f := 42) rfl ?_); refine goesL_ (some 21) rfl rfl Tryd.func42 (by kernel_rfl) rfl #[.int .i64 a2, .int .i64 x8_1] rfl (by (try simp only [List.map_toArray, List.map_cons, List.map_nil]); first | done | rfl | (simp only [List.length_drop, List.length_take]; rfl)) ?_; (with_reducible refine (scarabref02_bit.calls a2 x8_1 t193 _ A6.out).mono ?_); rintro e w' ⟨rfl, ⟨nd, rfl⟩⟩; refine ⟨_, rfl, ?_⟩) | ((with_reducible refine gate_callee (f := 64) rfl ?_); refine goesL_ (some 52) rfl rfl Tryd.func64 (by kernel_rfl) rfl #[.bool (t193 == 0)] rfl (by (try simp only [List.map_toArray, List.map_cons, List.map_nil]); first | done | rfl | (simp only [List.length_drop, List.length_take]; rfl)) ?_; (with_reducible refine (scarabref02_yes.calls (t193 == 0) t200 _ A18.out).mono ?_); rintro e w' ⟨rfl, ⟨nd, rfl⟩⟩; refine ⟨_, rfl, ?_⟩) | ((with_reducible refine gate_callee (f := 63) rfl ?_); refine goesL_ (some 53) rfl rfl Tryd.func63 (by kernel_rfl) rfl #[.int .i64 x7_1, .int .i64 x8_1, .int .i64 t200] rfl (by (try simp only [List.map_toArray, List.map_cons, List.map_nil]); first | done | rfl | (simp only [List.length_drop, List.length_take]; rfl)) ?_; (with_reducible refine (scarabref02_put.calls x7_1 x8_1 t200 t201 _ A19.out).mono ?_); rintro e w' ⟨rfl, ⟨nd, rfl⟩⟩; refine ⟨_, rfl, ?_⟩))
                  go_roundg k1
                  case measure => have := HK1.out; omega
                  case rel => exact ⟨(t201), (wrap64 (x8_1 + 1)), (by first | rfl | (simp; done) | (simp [*]; done)), (by first | rfl | (simp; done) | (simp [*]; done)), H', ⟨by have := HK1.out; omega⟩, by repeat (first | exact Drawn0.refl _ | apply Drawn0.step)⟩
                · rw [if_neg c17] at H
                  have c17b0 : (t192 == 1) = false := beq_eq_false_iff_ne.mpr c17
                  have c17b1 : (t192 != 1) = true := bne_iff_ne.mpr c17
                  replace H := Option.bind_eq_some_iff.mp H
                  obtain ⟨t202, A200, H⟩ := H
                  replace H : ((scarabref02_put.f x7_1 x8_1 t202).bind fun t203 => (scarabref02_bits.l0 k1 a0 a1 a2 t203 (wrap64 (x8_1 + 1)))) = some r := H
                  have A20 := Aside0.mk A200
                  clear A200
                  replace H := Option.bind_eq_some_iff.mp H
                  obtain ⟨t203, A210, H⟩ := H
                  replace H : (scarabref02_bits.l0 k1 a0 a1 a2 t203 (wrap64 (x8_1 + 1))) = some r := H
                  have A21 := Aside0.mk A210
                  clear A210
                  have H' := Aside0.mk H
                  clear H
                  go_wp2_with (first | ((with_reducible refine gate_callee (f := 42) rfl ?_); refine goesL_ (some 18) rfl rfl Tryd.func42 (by kernel_rfl) rfl #[.int .i64 a1, .int .i64 x8_1] rfl (by (try simp only [List.map_toArray, List.map_cons, List.map_nil]); first | done | rfl | (simp only [List.length_drop, List.length_take]; rfl)) ?_; (with_reducible refine (scarabref02_bit.calls a1 x8_1 t192 _ A5.out).mono ?_); rintro e w' ⟨rfl, ⟨nd, rfl⟩⟩; refine ⟨_, rfl, ?_⟩) | ((with_reducible refine gate_callee (f := 42) rfl ?_); refine goesL_ (some 21) rfl rfl Tryd.func42 (by kernel_rfl) rfl #[.int .i64 a2, .int .i64 x8_1] rfl (by (try simp only [List.map_toArray, List.map_cons, List.map_nil]); first | done | rfl | (simp only [List.length_drop, List.length_take]; rfl)) ?_; (with_reducible refine (scarabref02_bit.calls a2 x8_1 t193 _ A6.out).mono ?_); rintro e w' ⟨rfl, ⟨nd, rfl⟩⟩; refine ⟨_, rfl, ?_⟩) | ((with_reducible refine gate_callee (f := 64) rfl ?_); refine goesL_ (some 52) rfl rfl Tryd.func64 (by kernel_rfl) rfl #[.bool false] rfl (by (try simp only [List.map_toArray, List.map_cons, List.map_nil]); first | done | rfl | (simp only [List.length_drop, List.length_take]; rfl)) ?_; (with_reducible refine (scarabref02_yes.calls false t202 _ A20.out).mono ?_); rintro e w' ⟨rfl, ⟨nd, rfl⟩⟩; refine ⟨_, rfl, ?_⟩) | ((with_reducible refine gate_callee (f := 63) rfl ?_); refine goesL_ (some 53) rfl rfl Tryd.func63 (by kernel_rfl) rfl #[.int .i64 x7_1, .int .i64 x8_1, .int .i64 t202] rfl (by (try simp only [List.map_toArray, List.map_cons, List.map_nil]); first | done | rfl | (simp only [List.length_drop, List.length_take]; rfl)) ?_; (with_reducible refine (scarabref02_put.calls x7_1 x8_1 t202 t203 _ A21.out).mono ?_); rintro e w' ⟨rfl, ⟨nd, rfl⟩⟩; refine ⟨_, rfl, ?_⟩))
                  go_roundg k1
                  case measure => have := HK1.out; omega
                  case rel => exact ⟨(t203), (wrap64 (x8_1 + 1)), (by first | rfl | (simp; done) | (simp [*]; done)), (by first | rfl | (simp; done) | (simp [*]; done)), H', ⟨by have := HK1.out; omega⟩, by repeat (first | exact Drawn0.refl _ | apply Drawn0.step)⟩
              · rw [if_neg c16] at H
                have c16b0 : (a0 == 24) = false := beq_eq_false_iff_ne.mpr c16
                have c16b1 : (a0 != 24) = true := bne_iff_ne.mpr c16
                replace H := Option.bind_eq_some_iff.mp H
                obtain ⟨t204, A220, H⟩ := H
                replace H : ((scarabref02_put.f x7_1 x8_1 t204).bind fun t205 => (scarabref02_bits.l0 k1 a0 a1 a2 t205 (wrap64 (x8_1 + 1)))) = some r := H
                have A22 := Aside0.mk A220
                clear A220
                replace H := Option.bind_eq_some_iff.mp H
                obtain ⟨t205, A230, H⟩ := H
                replace H : (scarabref02_bits.l0 k1 a0 a1 a2 t205 (wrap64 (x8_1 + 1))) = some r := H
                have A23 := Aside0.mk A230
                clear A230
                have H' := Aside0.mk H
                clear H
                go_wp2_with (first | ((with_reducible refine gate_callee (f := 42) rfl ?_); refine goesL_ (some 18) rfl rfl Tryd.func42 (by kernel_rfl) rfl #[.int .i64 a1, .int .i64 x8_1] rfl (by (try simp only [List.map_toArray, List.map_cons, List.map_nil]); first | done | rfl | (simp only [List.length_drop, List.length_take]; rfl)) ?_; (with_reducible refine (scarabref02_bit.calls a1 x8_1 t192 _ A5.out).mono ?_); rintro e w' ⟨rfl, ⟨nd, rfl⟩⟩; refine ⟨_, rfl, ?_⟩) | ((with_reducible refine gate_callee (f := 42) rfl ?_); refine goesL_ (some 21) rfl rfl Tryd.func42 (by kernel_rfl) rfl #[.int .i64 a2, .int .i64 x8_1] rfl (by (try simp only [List.map_toArray, List.map_cons, List.map_nil]); first | done | rfl | (simp only [List.length_drop, List.length_take]; rfl)) ?_; (with_reducible refine (scarabref02_bit.calls a2 x8_1 t193 _ A6.out).mono ?_); rintro e w' ⟨rfl, ⟨nd, rfl⟩⟩; refine ⟨_, rfl, ?_⟩) | ((with_reducible refine gate_callee (f := 64) rfl ?_); refine goesL_ (some 52) rfl rfl Tryd.func64 (by kernel_rfl) rfl #[.bool false] rfl (by (try simp only [List.map_toArray, List.map_cons, List.map_nil]); first | done | rfl | (simp only [List.length_drop, List.length_take]; rfl)) ?_; (with_reducible refine (scarabref02_yes.calls false t204 _ A22.out).mono ?_); rintro e w' ⟨rfl, ⟨nd, rfl⟩⟩; refine ⟨_, rfl, ?_⟩) | ((with_reducible refine gate_callee (f := 63) rfl ?_); refine goesL_ (some 53) rfl rfl Tryd.func63 (by kernel_rfl) rfl #[.int .i64 x7_1, .int .i64 x8_1, .int .i64 t204] rfl (by (try simp only [List.map_toArray, List.map_cons, List.map_nil]); first | done | rfl | (simp only [List.length_drop, List.length_take]; rfl)) ?_; (with_reducible refine (scarabref02_put.calls x7_1 x8_1 t204 t205 _ A23.out).mono ?_); rintro e w' ⟨rfl, ⟨nd, rfl⟩⟩; refine ⟨_, rfl, ?_⟩))
                go_roundg k1
                case measure => have := HK1.out; omega
                case rel => exact ⟨(t205), (wrap64 (x8_1 + 1)), (by first | rfl | (simp; done) | (simp [*]; done)), (by first | rfl | (simp; done) | (simp [*]; done)), H', ⟨by have := HK1.out; omega⟩, by repeat (first | exact Drawn0.refl _ | apply Drawn0.step)⟩
      · rw [if_neg c4] at H
        have c4b0 : decide (x8_1 < 64) = false := decide_eq_false c4
        clear c4
        obtain rfl := Option.some.inj H
        go_wp2
        go_ret
        exact ⟨by first | rfl | (simp; done) | (simp [*]; done), by repeat (first | exact Drawn0.refl _ | apply Drawn0.step)⟩

/-! ### scarabref02_held: function 67 -/
def scarabref02_held.f (k : Nat) (a0 : Int) (a1 : Int) (a2 : Int) : Option (Int) := if a0 = 29 then ((scarabref02_yes.f (a1 == a2)).bind fun t206 => (some t206)) else (if a0 = 30 then ((scarabref02_yes.f (a1 != a2)).bind fun t207 => (some t207)) else (if a0 = 31 then ((scarabref02_yes.f (decide (a1 < a2))).bind fun t208 => (some t208)) else (if a0 = 32 then ((scarabref02_yes.f (decide (a1 ≤ a2))).bind fun t209 => (some t209)) else (if a0 = 33 then ((scarabref02_yes.f (decide ((IntKind.u64.wrap (a1)) < (IntKind.u64.wrap (a2))))).bind fun t210 => (some t210)) else (if a0 = 34 then (if a2 < a1 then (some a2) else (some a1)) else (if a0 = 35 then (if a2 > a1 then (some a2) else (some a1)) else ((scarabref02_Wide.f k a1 a2).bind fun bt211 => (some bt211.1))))))))
theorem scarabref02_held.mono : ∀ a0 a1 a2 k, LeO (scarabref02_held.f k a0 a1 a2) (scarabref02_held.f (k + 1) a0 a1 a2) := by
  intro a0 a1 a2 k
  unfold scarabref02_held.f
  repeat' first
      | (with_reducible exact scarabref02_Wide.mono _ _ _)
      | (with_reducible exact LeO.refl _)
      | (with_reducible exact LeO.none _)
      | (with_reducible refine LeO.ite ?_ ?_)
      | (with_reducible refine LeO.bind ?_ (fun _ => ?_))
      | exact scarabref02_Wide.mono _ _ _
      | exact LeO.none _
      | refine LeO.ite ?_ ?_
      | refine LeO.bind ?_ (fun _ => ?_)
set_option maxHeartbeats 8000000 in
set_option maxRecDepth 100000 in
theorem scarabref02_held.calls_0 (k : Nat) (a0 : Int) (a1 : Int) (a2 : Int) (r : Int) (w : World) (h : scarabref02_held.f k a0 a1 a2 = some r) (c4 : a0 = 29) :
    Calls Tryd.prog 67 #[.int .i64 a0, .int .i64 a1, .int .i64 a2] w fun e w' => e = .returned (.int .i64 r) ∧ Drawn0 w w' := by
  have H : (if a0 = 29 then ((scarabref02_yes.f (a1 == a2)).bind fun t206 => (some t206)) else (if a0 = 30 then ((scarabref02_yes.f (a1 != a2)).bind fun t207 => (some t207)) else (if a0 = 31 then ((scarabref02_yes.f (decide (a1 < a2))).bind fun t208 => (some t208)) else (if a0 = 32 then ((scarabref02_yes.f (decide (a1 ≤ a2))).bind fun t209 => (some t209)) else (if a0 = 33 then ((scarabref02_yes.f (decide ((IntKind.u64.wrap (a1)) < (IntKind.u64.wrap (a2))))).bind fun t210 => (some t210)) else (if a0 = 34 then (if a2 < a1 then (some a2) else (some a1)) else (if a0 = 35 then (if a2 > a1 then (some a2) else (some a1)) else ((scarabref02_Wide.f k a1 a2).bind fun bt211 => (some bt211.1))))))))) = some r := h
  clear h
  rw [if_pos c4] at H
  have c4b0 : (a0 == 29) = true := beq_iff_eq.mpr c4
  have c4b1 : (a0 != 29) = false := bne_eq_false_iff_eq.mpr c4
  clear c4
  replace H := Option.bind_eq_some_iff.mp H
  obtain ⟨t206, A50, H⟩ := H
  replace H : (some t206) = some r := H
  have A5 := Aside0.mk A50
  clear A50
  obtain rfl := Option.some.inj H
  go_enter Tryd.func67, Tryd.ntmps67
  go_wp2_with (first | ((with_reducible refine gate_callee (f := 64) rfl ?_); refine goesL_ (some 15) rfl rfl Tryd.func64 (by kernel_rfl) rfl #[.bool (a1 == a2)] rfl (by (try simp only [List.map_toArray, List.map_cons, List.map_nil]); first | done | rfl | (simp only [List.length_drop, List.length_take]; rfl)) ?_; (with_reducible refine (scarabref02_yes.calls (a1 == a2) t206 _ A5.out).mono ?_); rintro e w' ⟨rfl, ⟨nd, rfl⟩⟩; refine ⟨_, rfl, ?_⟩))
  go_ret
  exact ⟨by first | rfl | (simp; done) | (simp [*]; done), by repeat (first | exact Drawn0.refl _ | apply Drawn0.step)⟩
set_option maxHeartbeats 8000000 in
set_option maxRecDepth 100000 in
theorem scarabref02_held.calls_1 (k : Nat) (a0 : Int) (a1 : Int) (a2 : Int) (r : Int) (w : World) (h : scarabref02_held.f k a0 a1 a2 = some r) (c4 : ¬ (a0 = 29)) (c6 : a0 = 30) :
    Calls Tryd.prog 67 #[.int .i64 a0, .int .i64 a1, .int .i64 a2] w fun e w' => e = .returned (.int .i64 r) ∧ Drawn0 w w' := by
  have H : (if a0 = 29 then ((scarabref02_yes.f (a1 == a2)).bind fun t206 => (some t206)) else (if a0 = 30 then ((scarabref02_yes.f (a1 != a2)).bind fun t207 => (some t207)) else (if a0 = 31 then ((scarabref02_yes.f (decide (a1 < a2))).bind fun t208 => (some t208)) else (if a0 = 32 then ((scarabref02_yes.f (decide (a1 ≤ a2))).bind fun t209 => (some t209)) else (if a0 = 33 then ((scarabref02_yes.f (decide ((IntKind.u64.wrap (a1)) < (IntKind.u64.wrap (a2))))).bind fun t210 => (some t210)) else (if a0 = 34 then (if a2 < a1 then (some a2) else (some a1)) else (if a0 = 35 then (if a2 > a1 then (some a2) else (some a1)) else ((scarabref02_Wide.f k a1 a2).bind fun bt211 => (some bt211.1))))))))) = some r := h
  clear h
  rw [if_neg c4] at H
  have c4b0 : (a0 == 29) = false := beq_eq_false_iff_ne.mpr c4
  have c4b1 : (a0 != 29) = true := bne_iff_ne.mpr c4
  rw [if_pos c6] at H
  have c6b0 : (a0 == 30) = true := beq_iff_eq.mpr c6
  have c6b1 : (a0 != 30) = false := bne_eq_false_iff_eq.mpr c6
  clear c6
  replace H := Option.bind_eq_some_iff.mp H
  obtain ⟨t207, A70, H⟩ := H
  replace H : (some t207) = some r := H
  have A7 := Aside0.mk A70
  clear A70
  obtain rfl := Option.some.inj H
  go_enter Tryd.func67, Tryd.ntmps67
  go_wp2_with (first | ((with_reducible refine gate_callee (f := 64) rfl ?_); refine goesL_ (some 21) rfl rfl Tryd.func64 (by kernel_rfl) rfl #[.bool (a1 != a2)] rfl (by (try simp only [List.map_toArray, List.map_cons, List.map_nil]); first | done | rfl | (simp only [List.length_drop, List.length_take]; rfl)) ?_; (with_reducible refine (scarabref02_yes.calls (a1 != a2) t207 _ A7.out).mono ?_); rintro e w' ⟨rfl, ⟨nd, rfl⟩⟩; refine ⟨_, rfl, ?_⟩))
  go_ret
  exact ⟨by first | rfl | (simp; done) | (simp [*]; done), by repeat (first | exact Drawn0.refl _ | apply Drawn0.step)⟩
set_option maxHeartbeats 8000000 in
set_option maxRecDepth 100000 in
theorem scarabref02_held.calls_2 (k : Nat) (a0 : Int) (a1 : Int) (a2 : Int) (r : Int) (w : World) (h : scarabref02_held.f k a0 a1 a2 = some r) (c4 : ¬ (a0 = 29)) (c6 : ¬ (a0 = 30)) (c8 : a0 = 31) :
    Calls Tryd.prog 67 #[.int .i64 a0, .int .i64 a1, .int .i64 a2] w fun e w' => e = .returned (.int .i64 r) ∧ Drawn0 w w' := by
  have H : (if a0 = 29 then ((scarabref02_yes.f (a1 == a2)).bind fun t206 => (some t206)) else (if a0 = 30 then ((scarabref02_yes.f (a1 != a2)).bind fun t207 => (some t207)) else (if a0 = 31 then ((scarabref02_yes.f (decide (a1 < a2))).bind fun t208 => (some t208)) else (if a0 = 32 then ((scarabref02_yes.f (decide (a1 ≤ a2))).bind fun t209 => (some t209)) else (if a0 = 33 then ((scarabref02_yes.f (decide ((IntKind.u64.wrap (a1)) < (IntKind.u64.wrap (a2))))).bind fun t210 => (some t210)) else (if a0 = 34 then (if a2 < a1 then (some a2) else (some a1)) else (if a0 = 35 then (if a2 > a1 then (some a2) else (some a1)) else ((scarabref02_Wide.f k a1 a2).bind fun bt211 => (some bt211.1))))))))) = some r := h
  clear h
  rw [if_neg c4] at H
  have c4b0 : (a0 == 29) = false := beq_eq_false_iff_ne.mpr c4
  have c4b1 : (a0 != 29) = true := bne_iff_ne.mpr c4
  rw [if_neg c6] at H
  have c6b0 : (a0 == 30) = false := beq_eq_false_iff_ne.mpr c6
  have c6b1 : (a0 != 30) = true := bne_iff_ne.mpr c6
  rw [if_pos c8] at H
  have c8b0 : (a0 == 31) = true := beq_iff_eq.mpr c8
  have c8b1 : (a0 != 31) = false := bne_eq_false_iff_eq.mpr c8
  clear c8
  replace H := Option.bind_eq_some_iff.mp H
  obtain ⟨t208, A90, H⟩ := H
  replace H : (some t208) = some r := H
  have A9 := Aside0.mk A90
  clear A90
  obtain rfl := Option.some.inj H
  go_enter Tryd.func67, Tryd.ntmps67
  go_wp2_with (first | ((with_reducible refine gate_callee (f := 64) rfl ?_); refine goesL_ (some 27) rfl rfl Tryd.func64 (by kernel_rfl) rfl #[.bool (decide (a1 < a2))] rfl (by (try simp only [List.map_toArray, List.map_cons, List.map_nil]); first | done | rfl | (simp only [List.length_drop, List.length_take]; rfl)) ?_; (with_reducible refine (scarabref02_yes.calls (decide (a1 < a2)) t208 _ A9.out).mono ?_); rintro e w' ⟨rfl, ⟨nd, rfl⟩⟩; refine ⟨_, rfl, ?_⟩))
  go_ret
  exact ⟨by first | rfl | (simp; done) | (simp [*]; done), by repeat (first | exact Drawn0.refl _ | apply Drawn0.step)⟩
set_option maxHeartbeats 8000000 in
set_option maxRecDepth 100000 in
theorem scarabref02_held.calls_3 (k : Nat) (a0 : Int) (a1 : Int) (a2 : Int) (r : Int) (w : World) (h : scarabref02_held.f k a0 a1 a2 = some r) (c4 : ¬ (a0 = 29)) (c6 : ¬ (a0 = 30)) (c8 : ¬ (a0 = 31)) (c10 : a0 = 32) :
    Calls Tryd.prog 67 #[.int .i64 a0, .int .i64 a1, .int .i64 a2] w fun e w' => e = .returned (.int .i64 r) ∧ Drawn0 w w' := by
  have H : (if a0 = 29 then ((scarabref02_yes.f (a1 == a2)).bind fun t206 => (some t206)) else (if a0 = 30 then ((scarabref02_yes.f (a1 != a2)).bind fun t207 => (some t207)) else (if a0 = 31 then ((scarabref02_yes.f (decide (a1 < a2))).bind fun t208 => (some t208)) else (if a0 = 32 then ((scarabref02_yes.f (decide (a1 ≤ a2))).bind fun t209 => (some t209)) else (if a0 = 33 then ((scarabref02_yes.f (decide ((IntKind.u64.wrap (a1)) < (IntKind.u64.wrap (a2))))).bind fun t210 => (some t210)) else (if a0 = 34 then (if a2 < a1 then (some a2) else (some a1)) else (if a0 = 35 then (if a2 > a1 then (some a2) else (some a1)) else ((scarabref02_Wide.f k a1 a2).bind fun bt211 => (some bt211.1))))))))) = some r := h
  clear h
  rw [if_neg c4] at H
  have c4b0 : (a0 == 29) = false := beq_eq_false_iff_ne.mpr c4
  have c4b1 : (a0 != 29) = true := bne_iff_ne.mpr c4
  rw [if_neg c6] at H
  have c6b0 : (a0 == 30) = false := beq_eq_false_iff_ne.mpr c6
  have c6b1 : (a0 != 30) = true := bne_iff_ne.mpr c6
  rw [if_neg c8] at H
  have c8b0 : (a0 == 31) = false := beq_eq_false_iff_ne.mpr c8
  have c8b1 : (a0 != 31) = true := bne_iff_ne.mpr c8
  rw [if_pos c10] at H
  have c10b0 : (a0 == 32) = true := beq_iff_eq.mpr c10
  have c10b1 : (a0 != 32) = false := bne_eq_false_iff_eq.mpr c10
  clear c10
  replace H := Option.bind_eq_some_iff.mp H
  obtain ⟨t209, A110, H⟩ := H
  replace H : (some t209) = some r := H
  have A11 := Aside0.mk A110
  clear A110
  obtain rfl := Option.some.inj H
  go_enter Tryd.func67, Tryd.ntmps67
  go_wp2_with (first | ((with_reducible refine gate_callee (f := 64) rfl ?_); refine goesL_ (some 33) rfl rfl Tryd.func64 (by kernel_rfl) rfl #[.bool (decide (a1 ≤ a2))] rfl (by (try simp only [List.map_toArray, List.map_cons, List.map_nil]); first | done | rfl | (simp only [List.length_drop, List.length_take]; rfl)) ?_; (with_reducible refine (scarabref02_yes.calls (decide (a1 ≤ a2)) t209 _ A11.out).mono ?_); rintro e w' ⟨rfl, ⟨nd, rfl⟩⟩; refine ⟨_, rfl, ?_⟩))
  go_ret
  exact ⟨by first | rfl | (simp; done) | (simp [*]; done), by repeat (first | exact Drawn0.refl _ | apply Drawn0.step)⟩
set_option maxHeartbeats 8000000 in
set_option maxRecDepth 100000 in
theorem scarabref02_held.calls_4 (k : Nat) (a0 : Int) (a1 : Int) (a2 : Int) (r : Int) (w : World) (h : scarabref02_held.f k a0 a1 a2 = some r) (c4 : ¬ (a0 = 29)) (c6 : ¬ (a0 = 30)) (c8 : ¬ (a0 = 31)) (c10 : ¬ (a0 = 32)) (c12 : a0 = 33) :
    Calls Tryd.prog 67 #[.int .i64 a0, .int .i64 a1, .int .i64 a2] w fun e w' => e = .returned (.int .i64 r) ∧ Drawn0 w w' := by
  have H : (if a0 = 29 then ((scarabref02_yes.f (a1 == a2)).bind fun t206 => (some t206)) else (if a0 = 30 then ((scarabref02_yes.f (a1 != a2)).bind fun t207 => (some t207)) else (if a0 = 31 then ((scarabref02_yes.f (decide (a1 < a2))).bind fun t208 => (some t208)) else (if a0 = 32 then ((scarabref02_yes.f (decide (a1 ≤ a2))).bind fun t209 => (some t209)) else (if a0 = 33 then ((scarabref02_yes.f (decide ((IntKind.u64.wrap (a1)) < (IntKind.u64.wrap (a2))))).bind fun t210 => (some t210)) else (if a0 = 34 then (if a2 < a1 then (some a2) else (some a1)) else (if a0 = 35 then (if a2 > a1 then (some a2) else (some a1)) else ((scarabref02_Wide.f k a1 a2).bind fun bt211 => (some bt211.1))))))))) = some r := h
  clear h
  rw [if_neg c4] at H
  have c4b0 : (a0 == 29) = false := beq_eq_false_iff_ne.mpr c4
  have c4b1 : (a0 != 29) = true := bne_iff_ne.mpr c4
  rw [if_neg c6] at H
  have c6b0 : (a0 == 30) = false := beq_eq_false_iff_ne.mpr c6
  have c6b1 : (a0 != 30) = true := bne_iff_ne.mpr c6
  rw [if_neg c8] at H
  have c8b0 : (a0 == 31) = false := beq_eq_false_iff_ne.mpr c8
  have c8b1 : (a0 != 31) = true := bne_iff_ne.mpr c8
  rw [if_neg c10] at H
  have c10b0 : (a0 == 32) = false := beq_eq_false_iff_ne.mpr c10
  have c10b1 : (a0 != 32) = true := bne_iff_ne.mpr c10
  rw [if_pos c12] at H
  have c12b0 : (a0 == 33) = true := beq_iff_eq.mpr c12
  have c12b1 : (a0 != 33) = false := bne_eq_false_iff_eq.mpr c12
  clear c12
  replace H := Option.bind_eq_some_iff.mp H
  obtain ⟨t210, A130, H⟩ := H
  replace H : (some t210) = some r := H
  have A13 := Aside0.mk A130
  clear A130
  obtain rfl := Option.some.inj H
  go_enter Tryd.func67, Tryd.ntmps67
  go_wp2_with (first | ((with_reducible refine gate_callee (f := 64) rfl ?_); refine goesL_ (some 41) rfl rfl Tryd.func64 (by kernel_rfl) rfl #[.bool (decide ((IntKind.u64.wrap (a1)) < (IntKind.u64.wrap (a2))))] rfl (by (try simp only [List.map_toArray, List.map_cons, List.map_nil]); first | done | rfl | (simp only [List.length_drop, List.length_take]; rfl)) ?_; (with_reducible refine (scarabref02_yes.calls (decide ((IntKind.u64.wrap (a1)) < (IntKind.u64.wrap (a2)))) t210 _ A13.out).mono ?_); rintro e w' ⟨rfl, ⟨nd, rfl⟩⟩; refine ⟨_, rfl, ?_⟩))
  go_ret
  exact ⟨by first | rfl | (simp; done) | (simp [*]; done), by repeat (first | exact Drawn0.refl _ | apply Drawn0.step)⟩
set_option maxHeartbeats 8000000 in
set_option maxRecDepth 100000 in
theorem scarabref02_held.calls_5 (k : Nat) (a0 : Int) (a1 : Int) (a2 : Int) (r : Int) (w : World) (h : scarabref02_held.f k a0 a1 a2 = some r) (c4 : ¬ (a0 = 29)) (c6 : ¬ (a0 = 30)) (c8 : ¬ (a0 = 31)) (c10 : ¬ (a0 = 32)) (c12 : ¬ (a0 = 33)) (c14 : a0 = 34) (c15 : a2 < a1) :
    Calls Tryd.prog 67 #[.int .i64 a0, .int .i64 a1, .int .i64 a2] w fun e w' => e = .returned (.int .i64 r) ∧ Drawn0 w w' := by
  have H : (if a0 = 29 then ((scarabref02_yes.f (a1 == a2)).bind fun t206 => (some t206)) else (if a0 = 30 then ((scarabref02_yes.f (a1 != a2)).bind fun t207 => (some t207)) else (if a0 = 31 then ((scarabref02_yes.f (decide (a1 < a2))).bind fun t208 => (some t208)) else (if a0 = 32 then ((scarabref02_yes.f (decide (a1 ≤ a2))).bind fun t209 => (some t209)) else (if a0 = 33 then ((scarabref02_yes.f (decide ((IntKind.u64.wrap (a1)) < (IntKind.u64.wrap (a2))))).bind fun t210 => (some t210)) else (if a0 = 34 then (if a2 < a1 then (some a2) else (some a1)) else (if a0 = 35 then (if a2 > a1 then (some a2) else (some a1)) else ((scarabref02_Wide.f k a1 a2).bind fun bt211 => (some bt211.1))))))))) = some r := h
  clear h
  rw [if_neg c4] at H
  have c4b0 : (a0 == 29) = false := beq_eq_false_iff_ne.mpr c4
  have c4b1 : (a0 != 29) = true := bne_iff_ne.mpr c4
  rw [if_neg c6] at H
  have c6b0 : (a0 == 30) = false := beq_eq_false_iff_ne.mpr c6
  have c6b1 : (a0 != 30) = true := bne_iff_ne.mpr c6
  rw [if_neg c8] at H
  have c8b0 : (a0 == 31) = false := beq_eq_false_iff_ne.mpr c8
  have c8b1 : (a0 != 31) = true := bne_iff_ne.mpr c8
  rw [if_neg c10] at H
  have c10b0 : (a0 == 32) = false := beq_eq_false_iff_ne.mpr c10
  have c10b1 : (a0 != 32) = true := bne_iff_ne.mpr c10
  rw [if_neg c12] at H
  have c12b0 : (a0 == 33) = false := beq_eq_false_iff_ne.mpr c12
  have c12b1 : (a0 != 33) = true := bne_iff_ne.mpr c12
  rw [if_pos c14] at H
  have c14b0 : (a0 == 34) = true := beq_iff_eq.mpr c14
  have c14b1 : (a0 != 34) = false := bne_eq_false_iff_eq.mpr c14
  clear c14
  rw [if_pos c15] at H
  have c15b0 : decide (a2 < a1) = true := decide_eq_true c15
  clear c15
  obtain rfl := Option.some.inj H
  go_enter Tryd.func67, Tryd.ntmps67
  go_wp2
  go_ret
  exact ⟨by first | rfl | (simp; done) | (simp [*]; done), by repeat (first | exact Drawn0.refl _ | apply Drawn0.step)⟩
set_option maxHeartbeats 8000000 in
set_option maxRecDepth 100000 in
theorem scarabref02_held.calls_6 (k : Nat) (a0 : Int) (a1 : Int) (a2 : Int) (r : Int) (w : World) (h : scarabref02_held.f k a0 a1 a2 = some r) (c4 : ¬ (a0 = 29)) (c6 : ¬ (a0 = 30)) (c8 : ¬ (a0 = 31)) (c10 : ¬ (a0 = 32)) (c12 : ¬ (a0 = 33)) (c14 : a0 = 34) (c15 : ¬ (a2 < a1)) :
    Calls Tryd.prog 67 #[.int .i64 a0, .int .i64 a1, .int .i64 a2] w fun e w' => e = .returned (.int .i64 r) ∧ Drawn0 w w' := by
  have H : (if a0 = 29 then ((scarabref02_yes.f (a1 == a2)).bind fun t206 => (some t206)) else (if a0 = 30 then ((scarabref02_yes.f (a1 != a2)).bind fun t207 => (some t207)) else (if a0 = 31 then ((scarabref02_yes.f (decide (a1 < a2))).bind fun t208 => (some t208)) else (if a0 = 32 then ((scarabref02_yes.f (decide (a1 ≤ a2))).bind fun t209 => (some t209)) else (if a0 = 33 then ((scarabref02_yes.f (decide ((IntKind.u64.wrap (a1)) < (IntKind.u64.wrap (a2))))).bind fun t210 => (some t210)) else (if a0 = 34 then (if a2 < a1 then (some a2) else (some a1)) else (if a0 = 35 then (if a2 > a1 then (some a2) else (some a1)) else ((scarabref02_Wide.f k a1 a2).bind fun bt211 => (some bt211.1))))))))) = some r := h
  clear h
  rw [if_neg c4] at H
  have c4b0 : (a0 == 29) = false := beq_eq_false_iff_ne.mpr c4
  have c4b1 : (a0 != 29) = true := bne_iff_ne.mpr c4
  rw [if_neg c6] at H
  have c6b0 : (a0 == 30) = false := beq_eq_false_iff_ne.mpr c6
  have c6b1 : (a0 != 30) = true := bne_iff_ne.mpr c6
  rw [if_neg c8] at H
  have c8b0 : (a0 == 31) = false := beq_eq_false_iff_ne.mpr c8
  have c8b1 : (a0 != 31) = true := bne_iff_ne.mpr c8
  rw [if_neg c10] at H
  have c10b0 : (a0 == 32) = false := beq_eq_false_iff_ne.mpr c10
  have c10b1 : (a0 != 32) = true := bne_iff_ne.mpr c10
  rw [if_neg c12] at H
  have c12b0 : (a0 == 33) = false := beq_eq_false_iff_ne.mpr c12
  have c12b1 : (a0 != 33) = true := bne_iff_ne.mpr c12
  rw [if_pos c14] at H
  have c14b0 : (a0 == 34) = true := beq_iff_eq.mpr c14
  have c14b1 : (a0 != 34) = false := bne_eq_false_iff_eq.mpr c14
  clear c14
  rw [if_neg c15] at H
  have c15b0 : decide (a2 < a1) = false := decide_eq_false c15
  clear c15
  obtain rfl := Option.some.inj H
  go_enter Tryd.func67, Tryd.ntmps67
  go_wp2
  go_ret
  exact ⟨by first | rfl | (simp; done) | (simp [*]; done), by repeat (first | exact Drawn0.refl _ | apply Drawn0.step)⟩
set_option maxHeartbeats 8000000 in
set_option maxRecDepth 100000 in
theorem scarabref02_held.calls_7 (k : Nat) (a0 : Int) (a1 : Int) (a2 : Int) (r : Int) (w : World) (h : scarabref02_held.f k a0 a1 a2 = some r) (c4 : ¬ (a0 = 29)) (c6 : ¬ (a0 = 30)) (c8 : ¬ (a0 = 31)) (c10 : ¬ (a0 = 32)) (c12 : ¬ (a0 = 33)) (c14 : ¬ (a0 = 34)) (c16 : a0 = 35) (c17 : a2 > a1) :
    Calls Tryd.prog 67 #[.int .i64 a0, .int .i64 a1, .int .i64 a2] w fun e w' => e = .returned (.int .i64 r) ∧ Drawn0 w w' := by
  have H : (if a0 = 29 then ((scarabref02_yes.f (a1 == a2)).bind fun t206 => (some t206)) else (if a0 = 30 then ((scarabref02_yes.f (a1 != a2)).bind fun t207 => (some t207)) else (if a0 = 31 then ((scarabref02_yes.f (decide (a1 < a2))).bind fun t208 => (some t208)) else (if a0 = 32 then ((scarabref02_yes.f (decide (a1 ≤ a2))).bind fun t209 => (some t209)) else (if a0 = 33 then ((scarabref02_yes.f (decide ((IntKind.u64.wrap (a1)) < (IntKind.u64.wrap (a2))))).bind fun t210 => (some t210)) else (if a0 = 34 then (if a2 < a1 then (some a2) else (some a1)) else (if a0 = 35 then (if a2 > a1 then (some a2) else (some a1)) else ((scarabref02_Wide.f k a1 a2).bind fun bt211 => (some bt211.1))))))))) = some r := h
  clear h
  rw [if_neg c4] at H
  have c4b0 : (a0 == 29) = false := beq_eq_false_iff_ne.mpr c4
  have c4b1 : (a0 != 29) = true := bne_iff_ne.mpr c4
  rw [if_neg c6] at H
  have c6b0 : (a0 == 30) = false := beq_eq_false_iff_ne.mpr c6
  have c6b1 : (a0 != 30) = true := bne_iff_ne.mpr c6
  rw [if_neg c8] at H
  have c8b0 : (a0 == 31) = false := beq_eq_false_iff_ne.mpr c8
  have c8b1 : (a0 != 31) = true := bne_iff_ne.mpr c8
  rw [if_neg c10] at H
  have c10b0 : (a0 == 32) = false := beq_eq_false_iff_ne.mpr c10
  have c10b1 : (a0 != 32) = true := bne_iff_ne.mpr c10
  rw [if_neg c12] at H
  have c12b0 : (a0 == 33) = false := beq_eq_false_iff_ne.mpr c12
  have c12b1 : (a0 != 33) = true := bne_iff_ne.mpr c12
  rw [if_neg c14] at H
  have c14b0 : (a0 == 34) = false := beq_eq_false_iff_ne.mpr c14
  have c14b1 : (a0 != 34) = true := bne_iff_ne.mpr c14
  rw [if_pos c16] at H
  have c16b0 : (a0 == 35) = true := beq_iff_eq.mpr c16
  have c16b1 : (a0 != 35) = false := bne_eq_false_iff_eq.mpr c16
  clear c16
  rw [if_pos c17] at H
  have c17b0 : decide (a1 < a2) = true := decide_eq_true c17
  clear c17
  obtain rfl := Option.some.inj H
  go_enter Tryd.func67, Tryd.ntmps67
  go_wp2
  go_ret
  exact ⟨by first | rfl | (simp; done) | (simp [*]; done), by repeat (first | exact Drawn0.refl _ | apply Drawn0.step)⟩
set_option maxHeartbeats 8000000 in
set_option maxRecDepth 100000 in
theorem scarabref02_held.calls_8 (k : Nat) (a0 : Int) (a1 : Int) (a2 : Int) (r : Int) (w : World) (h : scarabref02_held.f k a0 a1 a2 = some r) (c4 : ¬ (a0 = 29)) (c6 : ¬ (a0 = 30)) (c8 : ¬ (a0 = 31)) (c10 : ¬ (a0 = 32)) (c12 : ¬ (a0 = 33)) (c14 : ¬ (a0 = 34)) (c16 : a0 = 35) (c17 : ¬ (a2 > a1)) :
    Calls Tryd.prog 67 #[.int .i64 a0, .int .i64 a1, .int .i64 a2] w fun e w' => e = .returned (.int .i64 r) ∧ Drawn0 w w' := by
  have H : (if a0 = 29 then ((scarabref02_yes.f (a1 == a2)).bind fun t206 => (some t206)) else (if a0 = 30 then ((scarabref02_yes.f (a1 != a2)).bind fun t207 => (some t207)) else (if a0 = 31 then ((scarabref02_yes.f (decide (a1 < a2))).bind fun t208 => (some t208)) else (if a0 = 32 then ((scarabref02_yes.f (decide (a1 ≤ a2))).bind fun t209 => (some t209)) else (if a0 = 33 then ((scarabref02_yes.f (decide ((IntKind.u64.wrap (a1)) < (IntKind.u64.wrap (a2))))).bind fun t210 => (some t210)) else (if a0 = 34 then (if a2 < a1 then (some a2) else (some a1)) else (if a0 = 35 then (if a2 > a1 then (some a2) else (some a1)) else ((scarabref02_Wide.f k a1 a2).bind fun bt211 => (some bt211.1))))))))) = some r := h
  clear h
  rw [if_neg c4] at H
  have c4b0 : (a0 == 29) = false := beq_eq_false_iff_ne.mpr c4
  have c4b1 : (a0 != 29) = true := bne_iff_ne.mpr c4
  rw [if_neg c6] at H
  have c6b0 : (a0 == 30) = false := beq_eq_false_iff_ne.mpr c6
  have c6b1 : (a0 != 30) = true := bne_iff_ne.mpr c6
  rw [if_neg c8] at H
  have c8b0 : (a0 == 31) = false := beq_eq_false_iff_ne.mpr c8
  have c8b1 : (a0 != 31) = true := bne_iff_ne.mpr c8
  rw [if_neg c10] at H
  have c10b0 : (a0 == 32) = false := beq_eq_false_iff_ne.mpr c10
  have c10b1 : (a0 != 32) = true := bne_iff_ne.mpr c10
  rw [if_neg c12] at H
  have c12b0 : (a0 == 33) = false := beq_eq_false_iff_ne.mpr c12
  have c12b1 : (a0 != 33) = true := bne_iff_ne.mpr c12
  rw [if_neg c14] at H
  have c14b0 : (a0 == 34) = false := beq_eq_false_iff_ne.mpr c14
  have c14b1 : (a0 != 34) = true := bne_iff_ne.mpr c14
  rw [if_pos c16] at H
  have c16b0 : (a0 == 35) = true := beq_iff_eq.mpr c16
  have c16b1 : (a0 != 35) = false := bne_eq_false_iff_eq.mpr c16
  clear c16
  rw [if_neg c17] at H
  have c17b0 : decide (a1 < a2) = false := decide_eq_false c17
  clear c17
  obtain rfl := Option.some.inj H
  go_enter Tryd.func67, Tryd.ntmps67
  go_wp2
  go_ret
  exact ⟨by first | rfl | (simp; done) | (simp [*]; done), by repeat (first | exact Drawn0.refl _ | apply Drawn0.step)⟩
set_option maxHeartbeats 8000000 in
set_option maxRecDepth 100000 in
theorem scarabref02_held.calls_9 (k : Nat) (a0 : Int) (a1 : Int) (a2 : Int) (r : Int) (w : World) (h : scarabref02_held.f k a0 a1 a2 = some r) (c4 : ¬ (a0 = 29)) (c6 : ¬ (a0 = 30)) (c8 : ¬ (a0 = 31)) (c10 : ¬ (a0 = 32)) (c12 : ¬ (a0 = 33)) (c14 : ¬ (a0 = 34)) (c16 : ¬ (a0 = 35)) :
    Calls Tryd.prog 67 #[.int .i64 a0, .int .i64 a1, .int .i64 a2] w fun e w' => e = .returned (.int .i64 r) ∧ Drawn0 w w' := by
  have H : (if a0 = 29 then ((scarabref02_yes.f (a1 == a2)).bind fun t206 => (some t206)) else (if a0 = 30 then ((scarabref02_yes.f (a1 != a2)).bind fun t207 => (some t207)) else (if a0 = 31 then ((scarabref02_yes.f (decide (a1 < a2))).bind fun t208 => (some t208)) else (if a0 = 32 then ((scarabref02_yes.f (decide (a1 ≤ a2))).bind fun t209 => (some t209)) else (if a0 = 33 then ((scarabref02_yes.f (decide ((IntKind.u64.wrap (a1)) < (IntKind.u64.wrap (a2))))).bind fun t210 => (some t210)) else (if a0 = 34 then (if a2 < a1 then (some a2) else (some a1)) else (if a0 = 35 then (if a2 > a1 then (some a2) else (some a1)) else ((scarabref02_Wide.f k a1 a2).bind fun bt211 => (some bt211.1))))))))) = some r := h
  clear h
  rw [if_neg c4] at H
  have c4b0 : (a0 == 29) = false := beq_eq_false_iff_ne.mpr c4
  have c4b1 : (a0 != 29) = true := bne_iff_ne.mpr c4
  rw [if_neg c6] at H
  have c6b0 : (a0 == 30) = false := beq_eq_false_iff_ne.mpr c6
  have c6b1 : (a0 != 30) = true := bne_iff_ne.mpr c6
  rw [if_neg c8] at H
  have c8b0 : (a0 == 31) = false := beq_eq_false_iff_ne.mpr c8
  have c8b1 : (a0 != 31) = true := bne_iff_ne.mpr c8
  rw [if_neg c10] at H
  have c10b0 : (a0 == 32) = false := beq_eq_false_iff_ne.mpr c10
  have c10b1 : (a0 != 32) = true := bne_iff_ne.mpr c10
  rw [if_neg c12] at H
  have c12b0 : (a0 == 33) = false := beq_eq_false_iff_ne.mpr c12
  have c12b1 : (a0 != 33) = true := bne_iff_ne.mpr c12
  rw [if_neg c14] at H
  have c14b0 : (a0 == 34) = false := beq_eq_false_iff_ne.mpr c14
  have c14b1 : (a0 != 34) = true := bne_iff_ne.mpr c14
  rw [if_neg c16] at H
  have c16b0 : (a0 == 35) = false := beq_eq_false_iff_ne.mpr c16
  have c16b1 : (a0 != 35) = true := bne_iff_ne.mpr c16
  replace H := Option.bind_eq_some_iff.mp H
  obtain ⟨⟨t211, t212⟩, A180, H⟩ := H
  replace H : (some t211) = some r := H
  have A18 := Aside0.mk A180
  clear A180
  obtain rfl := Option.some.inj H
  go_enter Tryd.func67, Tryd.ntmps67
  go_wp2_with (first | ((with_reducible refine gate_callee (f := 18) rfl ?_); refine goesL_ (some 59) rfl rfl Tryd.func18 (by kernel_rfl) rfl #[.int .i64 a1, .int .i64 a2] rfl (by (try simp only [List.map_toArray, List.map_cons, List.map_nil]); first | done | rfl | (simp only [List.length_drop, List.length_take]; rfl)) ?_; (with_reducible refine (scarabref02_Wide.calls k a1 a2 t211 t212 _ A18.out).mono ?_); rintro e w' ⟨rfl, ⟨nd, rfl⟩⟩; refine ⟨_, rfl, ?_⟩))
  go_ret
  exact ⟨by first | rfl | (simp; done) | (simp [*]; done), by repeat (first | exact Drawn0.refl _ | apply Drawn0.step)⟩
set_option maxHeartbeats 8000000 in
set_option maxRecDepth 100000 in
theorem scarabref02_held.calls (k : Nat) (a0 : Int) (a1 : Int) (a2 : Int) (r : Int) (w : World) (h : scarabref02_held.f k a0 a1 a2 = some r) :
    Calls Tryd.prog 67 #[.int .i64 a0, .int .i64 a1, .int .i64 a2] w fun e w' => e = .returned (.int .i64 r) ∧ Drawn0 w w' := by
  by_cases c4 : a0 = 29
  · exact scarabref02_held.calls_0 k a0 a1 a2 r w h c4
  · by_cases c6 : a0 = 30
    · exact scarabref02_held.calls_1 k a0 a1 a2 r w h c4 c6
    · by_cases c8 : a0 = 31
      · exact scarabref02_held.calls_2 k a0 a1 a2 r w h c4 c6 c8
      · by_cases c10 : a0 = 32
        · exact scarabref02_held.calls_3 k a0 a1 a2 r w h c4 c6 c8 c10
        · by_cases c12 : a0 = 33
          · exact scarabref02_held.calls_4 k a0 a1 a2 r w h c4 c6 c8 c10 c12
          · by_cases c14 : a0 = 34
            · by_cases c15 : a2 < a1
              · exact scarabref02_held.calls_5 k a0 a1 a2 r w h c4 c6 c8 c10 c12 c14 c15
              · exact scarabref02_held.calls_6 k a0 a1 a2 r w h c4 c6 c8 c10 c12 c14 c15
            · by_cases c16 : a0 = 35
              · by_cases c17 : a2 > a1
                · exact scarabref02_held.calls_7 k a0 a1 a2 r w h c4 c6 c8 c10 c12 c14 c16 c17
                · exact scarabref02_held.calls_8 k a0 a1 a2 r w h c4 c6 c8 c10 c12 c14 c16 c17
              · exact scarabref02_held.calls_9 k a0 a1 a2 r w h c4 c6 c8 c10 c12 c14 c16

end Go.Proofs.YtckfnbjjghdaoaaDoor.T
