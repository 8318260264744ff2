-- This session's own text, made by its own run of the tools (wip/tools/pr.sh).
import Derived.Test.YtckfnbjjghdaoaaDoorT0
import Derived.Test.YtckfnbjjghdaoaaDoorT4
namespace Go.Proofs.YtckfnbjjghdaoaaDoor.T
open Go.RowKit Go.Proofs.YtckfnbjjghdaoaaDoorW.PrintWords Go.Proofs.YtckfnbjjghdaoaaDoorW.PrintLast Go.Proofs.YtckfnbjjghdaoaaDoorW.PrintMore
attribute [local go_sem] max2_int min2_int max_two min_two max_three min_three max_four min_four   -- for this text's walks alone
set_option linter.unusedVariables false
set_option linter.unusedSimpArgs false

/-! ### scarabref02_one: function 47 -/
mutual
def scarabref02_one.l0 : Nat → Int → Int → Int → Option (Int)
  | 0, _, _, _ => none
  | k + 1, x1, x5, x6 => if x6 < 64 then ((scarabref02_bit.f x1 x6).bind fun t175 => (scarabref02_one.l0 k x1 (wrap64 (x5 + t175)) (wrap64 (x6 + 1)))) else (some x5)
def scarabref02_one.l1 : Nat → Int → Int → Int → Option (Int)
  | 0, _, _, _ => none
  | k + 1, x1, x7, x8 => if x8 ≥ 0 then ((scarabref02_bit.f x1 x8).bind fun t176 => (if t176 = 0 then (scarabref02_one.l1 k x1 (wrap64 (x7 + 1)) (wrap64 (x8 - 1))) else (some x7))) else (some x7)
def scarabref02_one.l2 : Nat → Int → Int → Int → Option (Int)
  | 0, _, _, _ => none
  | k + 1, x1, x9, x10 => if x10 < 64 then ((scarabref02_bit.f x1 x10).bind fun t177 => (if t177 = 0 then (scarabref02_one.l2 k x1 (wrap64 (x9 + 1)) (wrap64 (x10 + 1))) else (some x9))) else (some x9)
def scarabref02_one.l3 : Nat → Int → Int → Int → Option (Int)
  | 0, _, _, _ => none
  | k + 1, x1, x11, x12 => if x12 < 64 then ((scarabref02_bit.f x1 (wrap64 (63 - x12))).bind fun t178 => ((scarabref02_put.f x11 x12 t178).bind fun t179 => (scarabref02_one.l3 k x1 t179 (wrap64 (x12 + 1))))) else (some x11)
end
def scarabref02_one.f (k : Nat) (a0 : Int) (a1 : Int) : Option (Int) := if a0 = 1 then (some (wrap64 (-a1))) else (if a0 = 2 then (some (wrap64 ((-1) - a1))) else (if a0 = 3 then (if a1 < 0 then (some (wrap64 (-a1))) else (some a1)) else (if a0 = 4 then (scarabref02_one.l0 k a1 0 0) else (if a0 = 5 then (scarabref02_one.l1 k a1 0 63) else (if a0 = 6 then (scarabref02_one.l2 k a1 0 0) else (if a0 = 7 then (scarabref02_one.l3 k a1 0 0) else (if a0 = 8 then ((scarabref02_yes.f (a1 != 0)).bind fun t180 => (some t180)) else (if a0 = 9 then ((scarabref02_yes.f (a1 == 0)).bind fun t181 => (some t181)) else (if a0 = 10 then ((scarabref02_converted.f k a1 8 true).bind fun t182 => (some t182)) else (if a0 = 11 then ((scarabref02_converted.f k a1 16 true).bind fun t183 => (some t183)) else (if a0 = 12 then ((scarabref02_converted.f k a1 32 true).bind fun t184 => (some t184)) else (if a0 = 13 then ((scarabref02_converted.f k a1 8 false).bind fun t185 => (some t185)) else (if a0 = 14 then ((scarabref02_converted.f k a1 16 false).bind fun t186 => (some t186)) else ((scarabref02_converted.f k a1 32 false).bind fun t187 => (some t187)))))))))))))))
theorem scarabref02_one.mono_l : ∀ k, (∀ y0 y1 y2, LeO (scarabref02_one.l0 k y0 y1 y2) (scarabref02_one.l0 (k + 1) y0 y1 y2)) ∧ (∀ y0 y1 y2, LeO (scarabref02_one.l1 k y0 y1 y2) (scarabref02_one.l1 (k + 1) y0 y1 y2)) ∧ (∀ y0 y1 y2, LeO (scarabref02_one.l2 k y0 y1 y2) (scarabref02_one.l2 (k + 1) y0 y1 y2)) ∧ (∀ y0 y1 y2, LeO (scarabref02_one.l3 k y0 y1 y2) (scarabref02_one.l3 (k + 1) y0 y1 y2))
  | 0 => ⟨fun _ _ _ r h => by simp [scarabref02_one.l0] at h, fun _ _ _ r h => by simp [scarabref02_one.l1] at h, fun _ _ _ r h => by simp [scarabref02_one.l2] at h, fun _ _ _ r h => by simp [scarabref02_one.l3] at h⟩
  | k + 1 => by
    obtain ⟨ih0, ih1, ih2, ih3⟩ := scarabref02_one.mono_l k
    refine ⟨?_, ?_, ?_, ?_⟩
    · intro y0 y1 y2
      unfold scarabref02_one.l0
      repeat' first
      | (with_reducible exact ih0 _ _ _)
      | (with_reducible exact ih1 _ _ _)
      | (with_reducible exact ih2 _ _ _)
      | (with_reducible exact ih3 _ _ _)
      | (with_reducible exact scarabref02_converted.mono _ _ _ _)
      | (with_reducible exact LeO.refl _)
      | (with_reducible exact LeO.none _)
      | (with_reducible refine LeO.ite ?_ ?_)
      | (with_reducible refine LeO.bind ?_ (fun _ => ?_))
      | exact ih0 _ _ _
      | exact ih1 _ _ _
      | exact ih2 _ _ _
      | exact ih3 _ _ _
      | exact scarabref02_converted.mono _ _ _ _
      | exact LeO.none _
      | refine LeO.ite ?_ ?_
      | refine LeO.bind ?_ (fun _ => ?_)
    · intro y0 y1 y2
      unfold scarabref02_one.l1
      repeat' first
      | (with_reducible exact ih0 _ _ _)
      | (with_reducible exact ih1 _ _ _)
      | (with_reducible exact ih2 _ _ _)
      | (with_reducible exact ih3 _ _ _)
      | (with_reducible exact scarabref02_converted.mono _ _ _ _)
      | (with_reducible exact LeO.refl _)
      | (with_reducible exact LeO.none _)
      | (with_reducible refine LeO.ite ?_ ?_)
      | (with_reducible refine LeO.bind ?_ (fun _ => ?_))
      | exact ih0 _ _ _
      | exact ih1 _ _ _
      | exact ih2 _ _ _
      | exact ih3 _ _ _
      | exact scarabref02_converted.mono _ _ _ _
      | exact LeO.none _
      | refine LeO.ite ?_ ?_
      | refine LeO.bind ?_ (fun _ => ?_)
    · intro y0 y1 y2
      unfold scarabref02_one.l2
      repeat' first
      | (with_reducible exact ih0 _ _ _)
      | (with_reducible exact ih1 _ _ _)
      | (with_reducible exact ih2 _ _ _)
      | (with_reducible exact ih3 _ _ _)
      | (with_reducible exact scarabref02_converted.mono _ _ _ _)
      | (with_reducible exact LeO.refl _)
      | (with_reducible exact LeO.none _)
      | (with_reducible refine LeO.ite ?_ ?_)
      | (with_reducible refine LeO.bind ?_ (fun _ => ?_))
      | exact ih0 _ _ _
      | exact ih1 _ _ _
      | exact ih2 _ _ _
      | exact ih3 _ _ _
      | exact scarabref02_converted.mono _ _ _ _
      | exact LeO.none _
      | refine LeO.ite ?_ ?_
      | refine LeO.bind ?_ (fun _ => ?_)
    · intro y0 y1 y2
      unfold scarabref02_one.l3
      repeat' first
      | (with_reducible exact ih0 _ _ _)
      | (with_reducible exact ih1 _ _ _)
      | (with_reducible exact ih2 _ _ _)
      | (with_reducible exact ih3 _ _ _)
      | (with_reducible exact scarabref02_converted.mono _ _ _ _)
      | (with_reducible exact LeO.refl _)
      | (with_reducible exact LeO.none _)
      | (with_reducible refine LeO.ite ?_ ?_)
      | (with_reducible refine LeO.bind ?_ (fun _ => ?_))
      | exact ih0 _ _ _
      | exact ih1 _ _ _
      | exact ih2 _ _ _
      | exact ih3 _ _ _
      | exact scarabref02_converted.mono _ _ _ _
      | exact LeO.none _
      | refine LeO.ite ?_ ?_
      | refine LeO.bind ?_ (fun _ => ?_)
theorem scarabref02_one.mono : ∀ a0 a1 k, LeO (scarabref02_one.f k a0 a1) (scarabref02_one.f (k + 1) a0 a1) := by
  intro a0 a1 k
  obtain ⟨ih0, ih1, ih2, ih3⟩ := scarabref02_one.mono_l k
  unfold scarabref02_one.f
  repeat' first
      | (with_reducible exact ih0 _ _ _)
      | (with_reducible exact ih1 _ _ _)
      | (with_reducible exact ih2 _ _ _)
      | (with_reducible exact ih3 _ _ _)
      | (with_reducible exact scarabref02_converted.mono _ _ _ _)
      | (with_reducible exact LeO.refl _)
      | (with_reducible exact LeO.none _)
      | (with_reducible refine LeO.ite ?_ ?_)
      | (with_reducible refine LeO.bind ?_ (fun _ => ?_))
      | exact ih0 _ _ _
      | exact ih1 _ _ _
      | exact ih2 _ _ _
      | exact ih3 _ _ _
      | exact scarabref02_converted.mono _ _ _ _
      | exact LeO.none _
      | refine LeO.ite ?_ ?_
      | refine LeO.bind ?_ (fun _ => ?_)
set_option maxHeartbeats 8000000 in
set_option maxRecDepth 100000 in
theorem scarabref02_one.calls_0 (k : Nat) (a0 : Int) (a1 : Int) (r : Int) (w : World) (h : scarabref02_one.f k a0 a1 = some r) (c3 : a0 = 1) :
    Calls Tryd.prog 47 #[.int .i64 a0, .int .i64 a1] w fun e w' => e = .returned (.int .i64 r) ∧ Drawn0 w w' := by
  have H : (if a0 = 1 then (some (wrap64 (-a1))) else (if a0 = 2 then (some (wrap64 ((-1) - a1))) else (if a0 = 3 then (if a1 < 0 then (some (wrap64 (-a1))) else (some a1)) else (if a0 = 4 then (scarabref02_one.l0 k a1 0 0) else (if a0 = 5 then (scarabref02_one.l1 k a1 0 63) else (if a0 = 6 then (scarabref02_one.l2 k a1 0 0) else (if a0 = 7 then (scarabref02_one.l3 k a1 0 0) else (if a0 = 8 then ((scarabref02_yes.f (a1 != 0)).bind fun t180 => (some t180)) else (if a0 = 9 then ((scarabref02_yes.f (a1 == 0)).bind fun t181 => (some t181)) else (if a0 = 10 then ((scarabref02_converted.f k a1 8 true).bind fun t182 => (some t182)) else (if a0 = 11 then ((scarabref02_converted.f k a1 16 true).bind fun t183 => (some t183)) else (if a0 = 12 then ((scarabref02_converted.f k a1 32 true).bind fun t184 => (some t184)) else (if a0 = 13 then ((scarabref02_converted.f k a1 8 false).bind fun t185 => (some t185)) else (if a0 = 14 then ((scarabref02_converted.f k a1 16 false).bind fun t186 => (some t186)) else ((scarabref02_converted.f k a1 32 false).bind fun t187 => (some t187)))))))))))))))) = some r := h
  clear h
  rw [if_pos c3] at H
  have c3b0 : (a0 == 1) = true := beq_iff_eq.mpr c3
  have c3b1 : (a0 != 1) = false := bne_eq_false_iff_eq.mpr c3
  clear c3
  obtain rfl := Option.some.inj H
  go_enter Tryd.func47, Tryd.ntmps47
  go_wp2
  go_ret
  exact ⟨by first | rfl | (simp; done) | (simp [*]; done), by repeat (first | exact Drawn0.refl _ | apply Drawn0.step)⟩
set_option maxHeartbeats 8000000 in
set_option maxRecDepth 100000 in
theorem scarabref02_one.calls_1 (k : Nat) (a0 : Int) (a1 : Int) (r : Int) (w : World) (h : scarabref02_one.f k a0 a1 = some r) (c3 : ¬ (a0 = 1)) (c4 : a0 = 2) :
    Calls Tryd.prog 47 #[.int .i64 a0, .int .i64 a1] w fun e w' => e = .returned (.int .i64 r) ∧ Drawn0 w w' := by
  have H : (if a0 = 1 then (some (wrap64 (-a1))) else (if a0 = 2 then (some (wrap64 ((-1) - a1))) else (if a0 = 3 then (if a1 < 0 then (some (wrap64 (-a1))) else (some a1)) else (if a0 = 4 then (scarabref02_one.l0 k a1 0 0) else (if a0 = 5 then (scarabref02_one.l1 k a1 0 63) else (if a0 = 6 then (scarabref02_one.l2 k a1 0 0) else (if a0 = 7 then (scarabref02_one.l3 k a1 0 0) else (if a0 = 8 then ((scarabref02_yes.f (a1 != 0)).bind fun t180 => (some t180)) else (if a0 = 9 then ((scarabref02_yes.f (a1 == 0)).bind fun t181 => (some t181)) else (if a0 = 10 then ((scarabref02_converted.f k a1 8 true).bind fun t182 => (some t182)) else (if a0 = 11 then ((scarabref02_converted.f k a1 16 true).bind fun t183 => (some t183)) else (if a0 = 12 then ((scarabref02_converted.f k a1 32 true).bind fun t184 => (some t184)) else (if a0 = 13 then ((scarabref02_converted.f k a1 8 false).bind fun t185 => (some t185)) else (if a0 = 14 then ((scarabref02_converted.f k a1 16 false).bind fun t186 => (some t186)) else ((scarabref02_converted.f k a1 32 false).bind fun t187 => (some t187)))))))))))))))) = some r := h
  clear h
  rw [if_neg c3] at H
  have c3b0 : (a0 == 1) = false := beq_eq_false_iff_ne.mpr c3
  have c3b1 : (a0 != 1) = true := bne_iff_ne.mpr c3
  rw [if_pos c4] at H
  have c4b0 : (a0 == 2) = true := beq_iff_eq.mpr c4
  have c4b1 : (a0 != 2) = false := bne_eq_false_iff_eq.mpr c4
  clear c4
  obtain rfl := Option.some.inj H
  go_enter Tryd.func47, Tryd.ntmps47
  go_wp2
  go_ret
  exact ⟨by first | rfl | (simp; done) | (simp [*]; done), by repeat (first | exact Drawn0.refl _ | apply Drawn0.step)⟩
set_option maxHeartbeats 8000000 in
set_option maxRecDepth 100000 in
theorem scarabref02_one.calls_2 (k : Nat) (a0 : Int) (a1 : Int) (r : Int) (w : World) (h : scarabref02_one.f k a0 a1 = some r) (c3 : ¬ (a0 = 1)) (c4 : ¬ (a0 = 2)) (c5 : a0 = 3) (c6 : a1 < 0) :
    Calls Tryd.prog 47 #[.int .i64 a0, .int .i64 a1] w fun e w' => e = .returned (.int .i64 r) ∧ Drawn0 w w' := by
  have H : (if a0 = 1 then (some (wrap64 (-a1))) else (if a0 = 2 then (some (wrap64 ((-1) - a1))) else (if a0 = 3 then (if a1 < 0 then (some (wrap64 (-a1))) else (some a1)) else (if a0 = 4 then (scarabref02_one.l0 k a1 0 0) else (if a0 = 5 then (scarabref02_one.l1 k a1 0 63) else (if a0 = 6 then (scarabref02_one.l2 k a1 0 0) else (if a0 = 7 then (scarabref02_one.l3 k a1 0 0) else (if a0 = 8 then ((scarabref02_yes.f (a1 != 0)).bind fun t180 => (some t180)) else (if a0 = 9 then ((scarabref02_yes.f (a1 == 0)).bind fun t181 => (some t181)) else (if a0 = 10 then ((scarabref02_converted.f k a1 8 true).bind fun t182 => (some t182)) else (if a0 = 11 then ((scarabref02_converted.f k a1 16 true).bind fun t183 => (some t183)) else (if a0 = 12 then ((scarabref02_converted.f k a1 32 true).bind fun t184 => (some t184)) else (if a0 = 13 then ((scarabref02_converted.f k a1 8 false).bind fun t185 => (some t185)) else (if a0 = 14 then ((scarabref02_converted.f k a1 16 false).bind fun t186 => (some t186)) else ((scarabref02_converted.f k a1 32 false).bind fun t187 => (some t187)))))))))))))))) = some r := h
  clear h
  rw [if_neg c3] at H
  have c3b0 : (a0 == 1) = false := beq_eq_false_iff_ne.mpr c3
  have c3b1 : (a0 != 1) = true := bne_iff_ne.mpr c3
  rw [if_neg c4] at H
  have c4b0 : (a0 == 2) = false := beq_eq_false_iff_ne.mpr c4
  have c4b1 : (a0 != 2) = true := bne_iff_ne.mpr c4
  rw [if_pos c5] at H
  have c5b0 : (a0 == 3) = true := beq_iff_eq.mpr c5
  have c5b1 : (a0 != 3) = false := bne_eq_false_iff_eq.mpr c5
  clear c5
  rw [if_pos c6] at H
  have c6b0 : decide (a1 < 0) = true := decide_eq_true c6
  clear c6
  obtain rfl := Option.some.inj H
  go_enter Tryd.func47, Tryd.ntmps47
  go_wp2
  go_ret
  exact ⟨by first | rfl | (simp; done) | (simp [*]; done), by repeat (first | exact Drawn0.refl _ | apply Drawn0.step)⟩
set_option maxHeartbeats 8000000 in
set_option maxRecDepth 100000 in
theorem scarabref02_one.calls_3 (k : Nat) (a0 : Int) (a1 : Int) (r : Int) (w : World) (h : scarabref02_one.f k a0 a1 = some r) (c3 : ¬ (a0 = 1)) (c4 : ¬ (a0 = 2)) (c5 : a0 = 3) (c6 : ¬ (a1 < 0)) :
    Calls Tryd.prog 47 #[.int .i64 a0, .int .i64 a1] w fun e w' => e = .returned (.int .i64 r) ∧ Drawn0 w w' := by
  have H : (if a0 = 1 then (some (wrap64 (-a1))) else (if a0 = 2 then (some (wrap64 ((-1) - a1))) else (if a0 = 3 then (if a1 < 0 then (some (wrap64 (-a1))) else (some a1)) else (if a0 = 4 then (scarabref02_one.l0 k a1 0 0) else (if a0 = 5 then (scarabref02_one.l1 k a1 0 63) else (if a0 = 6 then (scarabref02_one.l2 k a1 0 0) else (if a0 = 7 then (scarabref02_one.l3 k a1 0 0) else (if a0 = 8 then ((scarabref02_yes.f (a1 != 0)).bind fun t180 => (some t180)) else (if a0 = 9 then ((scarabref02_yes.f (a1 == 0)).bind fun t181 => (some t181)) else (if a0 = 10 then ((scarabref02_converted.f k a1 8 true).bind fun t182 => (some t182)) else (if a0 = 11 then ((scarabref02_converted.f k a1 16 true).bind fun t183 => (some t183)) else (if a0 = 12 then ((scarabref02_converted.f k a1 32 true).bind fun t184 => (some t184)) else (if a0 = 13 then ((scarabref02_converted.f k a1 8 false).bind fun t185 => (some t185)) else (if a0 = 14 then ((scarabref02_converted.f k a1 16 false).bind fun t186 => (some t186)) else ((scarabref02_converted.f k a1 32 false).bind fun t187 => (some t187)))))))))))))))) = some r := h
  clear h
  rw [if_neg c3] at H
  have c3b0 : (a0 == 1) = false := beq_eq_false_iff_ne.mpr c3
  have c3b1 : (a0 != 1) = true := bne_iff_ne.mpr c3
  rw [if_neg c4] at H
  have c4b0 : (a0 == 2) = false := beq_eq_false_iff_ne.mpr c4
  have c4b1 : (a0 != 2) = true := bne_iff_ne.mpr c4
  rw [if_pos c5] at H
  have c5b0 : (a0 == 3) = true := beq_iff_eq.mpr c5
  have c5b1 : (a0 != 3) = false := bne_eq_false_iff_eq.mpr c5
  clear c5
  rw [if_neg c6] at H
  have c6b0 : decide (a1 < 0) = false := decide_eq_false c6
  clear c6
  obtain rfl := Option.some.inj H
  go_enter Tryd.func47, Tryd.ntmps47
  go_wp2
  go_ret
  exact ⟨by first | rfl | (simp; done) | (simp [*]; done), by repeat (first | exact Drawn0.refl _ | apply Drawn0.step)⟩
set_option maxHeartbeats 8000000 in
set_option maxRecDepth 100000 in
theorem scarabref02_one.calls_4 (k : Nat) (a0 : Int) (a1 : Int) (r : Int) (w : World) (h : scarabref02_one.f k a0 a1 = some r) (c3 : ¬ (a0 = 1)) (c4 : ¬ (a0 = 2)) (c5 : ¬ (a0 = 3)) (c7 : a0 = 4) :
    Calls Tryd.prog 47 #[.int .i64 a0, .int .i64 a1] w fun e w' => e = .returned (.int .i64 r) ∧ Drawn0 w w' := by
  have H : (if a0 = 1 then (some (wrap64 (-a1))) else (if a0 = 2 then (some (wrap64 ((-1) - a1))) else (if a0 = 3 then (if a1 < 0 then (some (wrap64 (-a1))) else (some a1)) else (if a0 = 4 then (scarabref02_one.l0 k a1 0 0) else (if a0 = 5 then (scarabref02_one.l1 k a1 0 63) else (if a0 = 6 then (scarabref02_one.l2 k a1 0 0) else (if a0 = 7 then (scarabref02_one.l3 k a1 0 0) else (if a0 = 8 then ((scarabref02_yes.f (a1 != 0)).bind fun t180 => (some t180)) else (if a0 = 9 then ((scarabref02_yes.f (a1 == 0)).bind fun t181 => (some t181)) else (if a0 = 10 then ((scarabref02_converted.f k a1 8 true).bind fun t182 => (some t182)) else (if a0 = 11 then ((scarabref02_converted.f k a1 16 true).bind fun t183 => (some t183)) else (if a0 = 12 then ((scarabref02_converted.f k a1 32 true).bind fun t184 => (some t184)) else (if a0 = 13 then ((scarabref02_converted.f k a1 8 false).bind fun t185 => (some t185)) else (if a0 = 14 then ((scarabref02_converted.f k a1 16 false).bind fun t186 => (some t186)) else ((scarabref02_converted.f k a1 32 false).bind fun t187 => (some t187)))))))))))))))) = some r := h
  clear h
  rw [if_neg c3] at H
  have c3b0 : (a0 == 1) = false := beq_eq_false_iff_ne.mpr c3
  have c3b1 : (a0 != 1) = true := bne_iff_ne.mpr c3
  rw [if_neg c4] at H
  have c4b0 : (a0 == 2) = false := beq_eq_false_iff_ne.mpr c4
  have c4b1 : (a0 != 2) = true := bne_iff_ne.mpr c4
  rw [if_neg c5] at H
  have c5b0 : (a0 == 3) = false := beq_eq_false_iff_ne.mpr c5
  have c5b1 : (a0 != 3) = true := bne_iff_ne.mpr c5
  rw [if_pos c7] at H
  have c7b0 : (a0 == 4) = true := beq_iff_eq.mpr c7
  have c7b1 : (a0 != 4) = false := bne_eq_false_iff_eq.mpr c7
  clear c7
  have H' := Aside0.mk H
  clear H
  go_enter Tryd.func47, Tryd.ntmps47
  go_wp2
  go_loopg [5, 6] k (fun kq v5 v6 w' => ∃ (x5_1 : Int) (x6_1 : Int), v5 = .int .i64 x5_1 ∧ v6 = .int .i64 x6_1 ∧ Aside0 (scarabref02_one.l0 kq a1 x5_1 x6_1 = some r) ∧ Aside0 (kq ≤ k) ∧ Drawn0 w w')
  case atStart => exact ⟨(0), (0), (by first | rfl | (simp; done) | (simp [*]; done)), (by first | rfl | (simp; done) | (simp [*]; done)), H', ⟨Nat.le_refl _⟩, by repeat (first | exact Drawn0.refl _ | apply Drawn0.step)⟩
  case round =>
    clear H'
    try clear p2
    try clear c3
    try clear c3b0
    try clear c3b1
    try clear c4
    try clear c4b0
    try clear c4b1
    try clear c5
    try clear c5b0
    try clear c5b1
    try clear c6
    try clear c6b0
    try clear p6
    try clear c7
    try clear c7b0
    try clear c7b1
    obtain ⟨x5_1, x6_1, rfl, rfl, HA, HK1, ⟨m1, rfl⟩⟩ := hrel
    cases gk with
    | zero => exact absurd HA.out (by simp [scarabref02_one.l0])
    | succ k1 =>
      have H := HA.out
      clear HA
      simp only [scarabref02_one.l0] at H
      by_cases c8 : x6_1 < 64
      · rw [if_pos c8] at H
        have c8b0 : decide (x6_1 < 64) = true := decide_eq_true c8
        clear c8
        replace H := Option.bind_eq_some_iff.mp H
        obtain ⟨t175, A90, H⟩ := H
        replace H : (scarabref02_one.l0 k1 a1 (wrap64 (x5_1 + t175)) (wrap64 (x6_1 + 1))) = some r := H
        have A9 := Aside0.mk A90
        clear A90
        have H' := Aside0.mk H
        clear H
        go_wp2_with (first | ((with_reducible refine gate_callee (f := 42) rfl ?_); refine goesL_ (some 38) rfl rfl Tryd.func42 (by kernel_rfl) rfl #[.int .i64 a1, .int .i64 x6_1] rfl (by (try simp only [List.map_toArray, List.map_cons, List.map_nil]); first | done | rfl | (simp only [List.length_drop, List.length_take]; rfl)) ?_; (with_reducible refine (scarabref02_bit.calls a1 x6_1 t175 _ A9.out).mono ?_); rintro e w' ⟨rfl, ⟨nd, rfl⟩⟩; refine ⟨_, rfl, ?_⟩))
        go_roundg k1
        case measure => have := HK1.out; omega
        case rel => exact ⟨(wrap64 (x5_1 + t175)), (wrap64 (x6_1 + 1)), (by first | rfl | (simp; done) | (simp [*]; done)), (by first | rfl | (simp; done) | (simp [*]; done)), H', ⟨by have := HK1.out; omega⟩, by repeat (first | exact Drawn0.refl _ | apply Drawn0.step)⟩
      · rw [if_neg c8] at H
        have c8b0 : decide (x6_1 < 64) = false := decide_eq_false c8
        clear c8
        obtain rfl := Option.some.inj H
        go_wp2
        go_ret
        exact ⟨by first | rfl | (simp; done) | (simp [*]; done), by repeat (first | exact Drawn0.refl _ | apply Drawn0.step)⟩
set_option maxHeartbeats 8000000 in
set_option maxRecDepth 100000 in
theorem scarabref02_one.calls_5 (k : Nat) (a0 : Int) (a1 : Int) (r : Int) (w : World) (h : scarabref02_one.f k a0 a1 = some r) (c3 : ¬ (a0 = 1)) (c4 : ¬ (a0 = 2)) (c5 : ¬ (a0 = 3)) (c7 : ¬ (a0 = 4)) (c10 : a0 = 5) :
    Calls Tryd.prog 47 #[.int .i64 a0, .int .i64 a1] w fun e w' => e = .returned (.int .i64 r) ∧ Drawn0 w w' := by
  have H : (if a0 = 1 then (some (wrap64 (-a1))) else (if a0 = 2 then (some (wrap64 ((-1) - a1))) else (if a0 = 3 then (if a1 < 0 then (some (wrap64 (-a1))) else (some a1)) else (if a0 = 4 then (scarabref02_one.l0 k a1 0 0) else (if a0 = 5 then (scarabref02_one.l1 k a1 0 63) else (if a0 = 6 then (scarabref02_one.l2 k a1 0 0) else (if a0 = 7 then (scarabref02_one.l3 k a1 0 0) else (if a0 = 8 then ((scarabref02_yes.f (a1 != 0)).bind fun t180 => (some t180)) else (if a0 = 9 then ((scarabref02_yes.f (a1 == 0)).bind fun t181 => (some t181)) else (if a0 = 10 then ((scarabref02_converted.f k a1 8 true).bind fun t182 => (some t182)) else (if a0 = 11 then ((scarabref02_converted.f k a1 16 true).bind fun t183 => (some t183)) else (if a0 = 12 then ((scarabref02_converted.f k a1 32 true).bind fun t184 => (some t184)) else (if a0 = 13 then ((scarabref02_converted.f k a1 8 false).bind fun t185 => (some t185)) else (if a0 = 14 then ((scarabref02_converted.f k a1 16 false).bind fun t186 => (some t186)) else ((scarabref02_converted.f k a1 32 false).bind fun t187 => (some t187)))))))))))))))) = some r := h
  clear h
  rw [if_neg c3] at H
  have c3b0 : (a0 == 1) = false := beq_eq_false_iff_ne.mpr c3
  have c3b1 : (a0 != 1) = true := bne_iff_ne.mpr c3
  rw [if_neg c4] at H
  have c4b0 : (a0 == 2) = false := beq_eq_false_iff_ne.mpr c4
  have c4b1 : (a0 != 2) = true := bne_iff_ne.mpr c4
  rw [if_neg c5] at H
  have c5b0 : (a0 == 3) = false := beq_eq_false_iff_ne.mpr c5
  have c5b1 : (a0 != 3) = true := bne_iff_ne.mpr c5
  rw [if_neg c7] at H
  have c7b0 : (a0 == 4) = false := beq_eq_false_iff_ne.mpr c7
  have c7b1 : (a0 != 4) = true := bne_iff_ne.mpr c7
  rw [if_pos c10] at H
  have c10b0 : (a0 == 5) = true := beq_iff_eq.mpr c10
  have c10b1 : (a0 != 5) = false := bne_eq_false_iff_eq.mpr c10
  clear c10
  have H' := Aside0.mk H
  clear H
  go_enter Tryd.func47, Tryd.ntmps47
  go_wp2
  go_loopg [7, 8] k (fun kq v7 v8 w' => ∃ (x7_1 : Int) (x8_1 : Int), v7 = .int .i64 x7_1 ∧ v8 = .int .i64 x8_1 ∧ Aside0 (scarabref02_one.l1 kq a1 x7_1 x8_1 = some r) ∧ Aside0 (kq ≤ k) ∧ Drawn0 w w')
  case atStart => exact ⟨(0), (63), (by first | rfl | (simp; done) | (simp [*]; done)), (by first | rfl | (simp; done) | (simp [*]; done)), H', ⟨Nat.le_refl _⟩, by repeat (first | exact Drawn0.refl _ | apply Drawn0.step)⟩
  case round =>
    clear H'
    try clear c1
    try clear p2
    try clear c3
    try clear c3b0
    try clear c3b1
    try clear c4
    try clear c4b0
    try clear c4b1
    try clear c5
    try clear c5b0
    try clear c5b1
    try clear c6
    try clear c6b0
    try clear p6
    try clear c7
    try clear c7b0
    try clear c7b1
    try clear c8
    try clear c8b0
    try clear c10
    try clear c10b0
    try clear c10b1
    try clear p2
    try clear p6
    obtain ⟨x7_1, x8_1, rfl, rfl, HA, HK1, ⟨m1, rfl⟩⟩ := hrel
    cases gk with
    | zero => exact absurd HA.out (by simp [scarabref02_one.l1])
    | succ k1 =>
      have H := HA.out
      clear HA
      simp only [scarabref02_one.l1] at H
      by_cases c11 : x8_1 ≥ 0
      · rw [if_pos c11] at H
        have c11b0 : decide (0 ≤ x8_1) = true := decide_eq_true c11
        clear c11
        replace H := Option.bind_eq_some_iff.mp H
        obtain ⟨t176, A120, H⟩ := H
        replace H : (if t176 = 0 then (scarabref02_one.l1 k1 a1 (wrap64 (x7_1 + 1)) (wrap64 (x8_1 - 1))) else (some x7_1)) = some r := H
        have A12 := Aside0.mk A120
        clear A120
        by_cases c13 : t176 = 0
        · rw [if_pos c13] at H
          have c13b0 : (t176 == 0) = true := beq_iff_eq.mpr c13
          have c13b1 : (t176 != 0) = false := bne_eq_false_iff_eq.mpr c13
          clear c13
          have H' := Aside0.mk H
          clear H
          go_wp2_with (first | (go_at_call 42; (with_reducible refine (scarabref02_bit.calls a1 x8_1 t176 _ A12.out).mono ?_); rintro e w' ⟨rfl, ⟨nd, rfl⟩⟩))
          go_roundg k1
          case measure => have := HK1.out; omega
          case rel => exact ⟨(wrap64 (x7_1 + 1)), (wrap64 (x8_1 - 1)), (by first | rfl | (simp; done) | (simp [*]; done)), (by first | rfl | (simp; done) | (simp [*]; done)), H', ⟨by have := HK1.out; omega⟩, by repeat (first | exact Drawn0.refl _ | apply Drawn0.step)⟩
        · rw [if_neg c13] at H
          have c13b0 : (t176 == 0) = false := beq_eq_false_iff_ne.mpr c13
          have c13b1 : (t176 != 0) = true := bne_iff_ne.mpr c13
          obtain rfl := Option.some.inj H
          go_wp2_with (first | (go_at_call 42; (with_reducible refine (scarabref02_bit.calls a1 x8_1 t176 _ A12.out).mono ?_); rintro e w' ⟨rfl, ⟨nd, rfl⟩⟩))
          go_ret
          exact ⟨by first | rfl | (simp; done) | (simp [*]; done), by repeat (first | exact Drawn0.refl _ | apply Drawn0.step)⟩
      · rw [if_neg c11] at H
        have c11b0 : decide (0 ≤ x8_1) = false := decide_eq_false c11
        clear c11
        obtain rfl := Option.some.inj H
        go_wp2
        go_ret
        exact ⟨by first | rfl | (simp; done) | (simp [*]; done), by repeat (first | exact Drawn0.refl _ | apply Drawn0.step)⟩
set_option maxHeartbeats 8000000 in
set_option maxRecDepth 100000 in
theorem scarabref02_one.calls_6 (k : Nat) (a0 : Int) (a1 : Int) (r : Int) (w : World) (h : scarabref02_one.f k a0 a1 = some r) (c3 : ¬ (a0 = 1)) (c4 : ¬ (a0 = 2)) (c5 : ¬ (a0 = 3)) (c7 : ¬ (a0 = 4)) (c10 : ¬ (a0 = 5)) (c14 : a0 = 6) :
    Calls Tryd.prog 47 #[.int .i64 a0, .int .i64 a1] w fun e w' => e = .returned (.int .i64 r) ∧ Drawn0 w w' := by
  have H : (if a0 = 1 then (some (wrap64 (-a1))) else (if a0 = 2 then (some (wrap64 ((-1) - a1))) else (if a0 = 3 then (if a1 < 0 then (some (wrap64 (-a1))) else (some a1)) else (if a0 = 4 then (scarabref02_one.l0 k a1 0 0) else (if a0 = 5 then (scarabref02_one.l1 k a1 0 63) else (if a0 = 6 then (scarabref02_one.l2 k a1 0 0) else (if a0 = 7 then (scarabref02_one.l3 k a1 0 0) else (if a0 = 8 then ((scarabref02_yes.f (a1 != 0)).bind fun t180 => (some t180)) else (if a0 = 9 then ((scarabref02_yes.f (a1 == 0)).bind fun t181 => (some t181)) else (if a0 = 10 then ((scarabref02_converted.f k a1 8 true).bind fun t182 => (some t182)) else (if a0 = 11 then ((scarabref02_converted.f k a1 16 true).bind fun t183 => (some t183)) else (if a0 = 12 then ((scarabref02_converted.f k a1 32 true).bind fun t184 => (some t184)) else (if a0 = 13 then ((scarabref02_converted.f k a1 8 false).bind fun t185 => (some t185)) else (if a0 = 14 then ((scarabref02_converted.f k a1 16 false).bind fun t186 => (some t186)) else ((scarabref02_converted.f k a1 32 false).bind fun t187 => (some t187)))))))))))))))) = some r := h
  clear h
  rw [if_neg c3] at H
  have c3b0 : (a0 == 1) = false := beq_eq_false_iff_ne.mpr c3
  have c3b1 : (a0 != 1) = true := bne_iff_ne.mpr c3
  rw [if_neg c4] at H
  have c4b0 : (a0 == 2) = false := beq_eq_false_iff_ne.mpr c4
  have c4b1 : (a0 != 2) = true := bne_iff_ne.mpr c4
  rw [if_neg c5] at H
  have c5b0 : (a0 == 3) = false := beq_eq_false_iff_ne.mpr c5
  have c5b1 : (a0 != 3) = true := bne_iff_ne.mpr c5
  rw [if_neg c7] at H
  have c7b0 : (a0 == 4) = false := beq_eq_false_iff_ne.mpr c7
  have c7b1 : (a0 != 4) = true := bne_iff_ne.mpr c7
  rw [if_neg c10] at H
  have c10b0 : (a0 == 5) = false := beq_eq_false_iff_ne.mpr c10
  have c10b1 : (a0 != 5) = true := bne_iff_ne.mpr c10
  rw [if_pos c14] at H
  have c14b0 : (a0 == 6) = true := beq_iff_eq.mpr c14
  have c14b1 : (a0 != 6) = false := bne_eq_false_iff_eq.mpr c14
  clear c14
  have H' := Aside0.mk H
  clear H
  go_enter Tryd.func47, Tryd.ntmps47
  go_wp2
  go_loopg [9, 10] k (fun kq v9 v10 w' => ∃ (x9_1 : Int) (x10_1 : Int), v9 = .int .i64 x9_1 ∧ v10 = .int .i64 x10_1 ∧ Aside0 (scarabref02_one.l2 kq a1 x9_1 x10_1 = some r) ∧ Aside0 (kq ≤ k) ∧ Drawn0 w w')
  case atStart => exact ⟨(0), (0), (by first | rfl | (simp; done) | (simp [*]; done)), (by first | rfl | (simp; done) | (simp [*]; done)), H', ⟨Nat.le_refl _⟩, by repeat (first | exact Drawn0.refl _ | apply Drawn0.step)⟩
  case round =>
    clear H'
    try clear c1
    try clear p2
    try clear c3
    try clear c3b0
    try clear c3b1
    try clear c4
    try clear c4b0
    try clear c4b1
    try clear c5
    try clear c5b0
    try clear c5b1
    try clear c6
    try clear c6b0
    try clear p6
    try clear c7
    try clear c7b0
    try clear c7b1
    try clear c8
    try clear c8b0
    try clear c10
    try clear c10b0
    try clear c10b1
    try clear c11
    try clear c11b0
    try clear c13
    try clear c13b0
    try clear c13b1
    try clear c14
    try clear c14b0
    try clear c14b1
    try clear p2
    try clear p6
    obtain ⟨x9_1, x10_1, rfl, rfl, HA, HK1, ⟨m1, rfl⟩⟩ := hrel
    cases gk with
    | zero => exact absurd HA.out (by simp [scarabref02_one.l2])
    | succ k1 =>
      have H := HA.out
      clear HA
      simp only [scarabref02_one.l2] at H
      by_cases c15 : x10_1 < 64
      · rw [if_pos c15] at H
        have c15b0 : decide (x10_1 < 64) = true := decide_eq_true c15
        clear c15
        replace H := Option.bind_eq_some_iff.mp H
        obtain ⟨t177, A160, H⟩ := H
        replace H : (if t177 = 0 then (scarabref02_one.l2 k1 a1 (wrap64 (x9_1 + 1)) (wrap64 (x10_1 + 1))) else (some x9_1)) = some r := H
        have A16 := Aside0.mk A160
        clear A160
        by_cases c17 : t177 = 0
        · rw [if_pos c17] at H
          have c17b0 : (t177 == 0) = true := beq_iff_eq.mpr c17
          have c17b1 : (t177 != 0) = false := bne_eq_false_iff_eq.mpr c17
          clear c17
          have H' := Aside0.mk H
          clear H
          go_wp2_with (first | (go_at_call 42; (with_reducible refine (scarabref02_bit.calls a1 x10_1 t177 _ A16.out).mono ?_); rintro e w' ⟨rfl, ⟨nd, rfl⟩⟩))
          go_roundg k1
          case measure => have := HK1.out; omega
          case rel => exact ⟨(wrap64 (x9_1 + 1)), (wrap64 (x10_1 + 1)), (by first | rfl | (simp; done) | (simp [*]; done)), (by first | rfl | (simp; done) | (simp [*]; done)), H', ⟨by have := HK1.out; omega⟩, by repeat (first | exact Drawn0.refl _ | apply Drawn0.step)⟩
        · rw [if_neg c17] at H
          have c17b0 : (t177 == 0) = false := beq_eq_false_iff_ne.mpr c17
          have c17b1 : (t177 != 0) = true := bne_iff_ne.mpr c17
          obtain rfl := Option.some.inj H
          go_wp2_with (first | (go_at_call 42; (with_reducible refine (scarabref02_bit.calls a1 x10_1 t177 _ A16.out).mono ?_); rintro e w' ⟨rfl, ⟨nd, rfl⟩⟩))
          go_ret
          exact ⟨by first | rfl | (simp; done) | (simp [*]; done), by repeat (first | exact Drawn0.refl _ | apply Drawn0.step)⟩
      · rw [if_neg c15] at H
        have c15b0 : decide (x10_1 < 64) = false := decide_eq_false c15
        clear c15
        obtain rfl := Option.some.inj H
        go_wp2
        go_ret
        exact ⟨by first | rfl | (simp; done) | (simp [*]; done), by repeat (first | exact Drawn0.refl _ | apply Drawn0.step)⟩
set_option maxHeartbeats 8000000 in
set_option maxRecDepth 100000 in
theorem scarabref02_one.calls_7 (k : Nat) (a0 : Int) (a1 : Int) (r : Int) (w : World) (h : scarabref02_one.f k a0 a1 = some r) (c3 : ¬ (a0 = 1)) (c4 : ¬ (a0 = 2)) (c5 : ¬ (a0 = 3)) (c7 : ¬ (a0 = 4)) (c10 : ¬ (a0 = 5)) (c14 : ¬ (a0 = 6)) (c18 : a0 = 7) :
    Calls Tryd.prog 47 #[.int .i64 a0, .int .i64 a1] w fun e w' => e = .returned (.int .i64 r) ∧ Drawn0 w w' := by
  have H : (if a0 = 1 then (some (wrap64 (-a1))) else (if a0 = 2 then (some (wrap64 ((-1) - a1))) else (if a0 = 3 then (if a1 < 0 then (some (wrap64 (-a1))) else (some a1)) else (if a0 = 4 then (scarabref02_one.l0 k a1 0 0) else (if a0 = 5 then (scarabref02_one.l1 k a1 0 63) else (if a0 = 6 then (scarabref02_one.l2 k a1 0 0) else (if a0 = 7 then (scarabref02_one.l3 k a1 0 0) else (if a0 = 8 then ((scarabref02_yes.f (a1 != 0)).bind fun t180 => (some t180)) else (if a0 = 9 then ((scarabref02_yes.f (a1 == 0)).bind fun t181 => (some t181)) else (if a0 = 10 then ((scarabref02_converted.f k a1 8 true).bind fun t182 => (some t182)) else (if a0 = 11 then ((scarabref02_converted.f k a1 16 true).bind fun t183 => (some t183)) else (if a0 = 12 then ((scarabref02_converted.f k a1 32 true).bind fun t184 => (some t184)) else (if a0 = 13 then ((scarabref02_converted.f k a1 8 false).bind fun t185 => (some t185)) else (if a0 = 14 then ((scarabref02_converted.f k a1 16 false).bind fun t186 => (some t186)) else ((scarabref02_converted.f k a1 32 false).bind fun t187 => (some t187)))))))))))))))) = some r := h
  clear h
  rw [if_neg c3] at H
  have c3b0 : (a0 == 1) = false := beq_eq_false_iff_ne.mpr c3
  have c3b1 : (a0 != 1) = true := bne_iff_ne.mpr c3
  rw [if_neg c4] at H
  have c4b0 : (a0 == 2) = false := beq_eq_false_iff_ne.mpr c4
  have c4b1 : (a0 != 2) = true := bne_iff_ne.mpr c4
  rw [if_neg c5] at H
  have c5b0 : (a0 == 3) = false := beq_eq_false_iff_ne.mpr c5
  have c5b1 : (a0 != 3) = true := bne_iff_ne.mpr c5
  rw [if_neg c7] at H
  have c7b0 : (a0 == 4) = false := beq_eq_false_iff_ne.mpr c7
  have c7b1 : (a0 != 4) = true := bne_iff_ne.mpr c7
  rw [if_neg c10] at H
  have c10b0 : (a0 == 5) = false := beq_eq_false_iff_ne.mpr c10
  have c10b1 : (a0 != 5) = true := bne_iff_ne.mpr c10
  rw [if_neg c14] at H
  have c14b0 : (a0 == 6) = false := beq_eq_false_iff_ne.mpr c14
  have c14b1 : (a0 != 6) = true := bne_iff_ne.mpr c14
  rw [if_pos c18] at H
  have c18b0 : (a0 == 7) = true := beq_iff_eq.mpr c18
  have c18b1 : (a0 != 7) = false := bne_eq_false_iff_eq.mpr c18
  clear c18
  have H' := Aside0.mk H
  clear H
  go_enter Tryd.func47, Tryd.ntmps47
  go_wp2
  go_loopg [11, 12] k (fun kq v11 v12 w' => ∃ (x11_1 : Int) (x12_1 : Int), v11 = .int .i64 x11_1 ∧ v12 = .int .i64 x12_1 ∧ Aside0 (scarabref02_one.l3 kq a1 x11_1 x12_1 = some r) ∧ Aside0 (kq ≤ k) ∧ Drawn0 w w')
  case atStart => exact ⟨(0), (0), (by first | rfl | (simp; done) | (simp [*]; done)), (by first | rfl | (simp; done) | (simp [*]; done)), H', ⟨Nat.le_refl _⟩, by repeat (first | exact Drawn0.refl _ | apply Drawn0.step)⟩
  case round =>
    clear H'
    try clear c1
    try clear p2
    try clear c3
    try clear c3b0
    try clear c3b1
    try clear c4
    try clear c4b0
    try clear c4b1
    try clear c5
    try clear c5b0
    try clear c5b1
    try clear c6
    try clear c6b0
    try clear p6
    try clear c7
    try clear c7b0
    try clear c7b1
    try clear c8
    try clear c8b0
    try clear c10
    try clear c10b0
    try clear c10b1
    try clear c11
    try clear c11b0
    try clear c13
    try clear c13b0
    try clear c13b1
    try clear c14
    try clear c14b0
    try clear c14b1
    try clear c15
    try clear c15b0
    try clear c17
    try clear c17b0
    try clear c17b1
    try clear c18
    try clear c18b0
    try clear c18b1
    try clear p2
    try clear p6
    obtain ⟨x11_1, x12_1, rfl, rfl, HA, HK1, ⟨m1, rfl⟩⟩ := hrel
    cases gk with
    | zero => exact absurd HA.out (by simp [scarabref02_one.l3])
    | succ k1 =>
      have H := HA.out
      clear HA
      simp only [scarabref02_one.l3] at H
      by_cases c19 : x12_1 < 64
      · rw [if_pos c19] at H
        have c19b0 : decide (x12_1 < 64) = true := decide_eq_true c19
        clear c19
        replace H := Option.bind_eq_some_iff.mp H
        obtain ⟨t178, A200, H⟩ := H
        replace H : ((scarabref02_put.f x11_1 x12_1 t178).bind fun t179 => (scarabref02_one.l3 k1 a1 t179 (wrap64 (x12_1 + 1)))) = some r := H
        have A20 := Aside0.mk A200
        clear A200
        replace H := Option.bind_eq_some_iff.mp H
        obtain ⟨t179, A210, H⟩ := H
        replace H : (scarabref02_one.l3 k1 a1 t179 (wrap64 (x12_1 + 1))) = some r := H
        have A21 := Aside0.mk A210
        clear A210
        have H' := Aside0.mk H
        clear H
        go_wp2_with (first | ((with_reducible refine gate_callee (f := 42) rfl ?_); refine goesL_ (some 82) rfl rfl Tryd.func42 (by kernel_rfl) rfl #[.int .i64 a1, .int .i64 (wrap64 (63 - x12_1))] rfl (by (try simp only [List.map_toArray, List.map_cons, List.map_nil]); first | done | rfl | (simp only [List.length_drop, List.length_take]; rfl)) ?_; (with_reducible refine (scarabref02_bit.calls a1 (wrap64 (63 - x12_1)) t178 _ A20.out).mono ?_); rintro e w' ⟨rfl, ⟨nd, rfl⟩⟩; refine ⟨_, rfl, ?_⟩) | ((with_reducible refine gate_callee (f := 63) rfl ?_); refine goesL_ (some 83) rfl rfl Tryd.func63 (by kernel_rfl) rfl #[.int .i64 x11_1, .int .i64 x12_1, .int .i64 t178] rfl (by (try simp only [List.map_toArray, List.map_cons, List.map_nil]); first | done | rfl | (simp only [List.length_drop, List.length_take]; rfl)) ?_; (with_reducible refine (scarabref02_put.calls x11_1 x12_1 t178 t179 _ A21.out).mono ?_); rintro e w' ⟨rfl, ⟨nd, rfl⟩⟩; refine ⟨_, rfl, ?_⟩))
        go_roundg k1
        case measure => have := HK1.out; omega
        case rel => exact ⟨(t179), (wrap64 (x12_1 + 1)), (by first | rfl | (simp; done) | (simp [*]; done)), (by first | rfl | (simp; done) | (simp [*]; done)), H', ⟨by have := HK1.out; omega⟩, by repeat (first | exact Drawn0.refl _ | apply Drawn0.step)⟩
      · rw [if_neg c19] at H
        have c19b0 : decide (x12_1 < 64) = false := decide_eq_false c19
        clear c19
        obtain rfl := Option.some.inj H
        go_wp2
        go_ret
        exact ⟨by first | rfl | (simp; done) | (simp [*]; done), by repeat (first | exact Drawn0.refl _ | apply Drawn0.step)⟩
set_option maxHeartbeats 8000000 in
set_option maxRecDepth 100000 in
theorem scarabref02_one.calls_8 (k : Nat) (a0 : Int) (a1 : Int) (r : Int) (w : World) (h : scarabref02_one.f k a0 a1 = some r) (c3 : ¬ (a0 = 1)) (c4 : ¬ (a0 = 2)) (c5 : ¬ (a0 = 3)) (c7 : ¬ (a0 = 4)) (c10 : ¬ (a0 = 5)) (c14 : ¬ (a0 = 6)) (c18 : ¬ (a0 = 7)) (c22 : a0 = 8) :
    Calls Tryd.prog 47 #[.int .i64 a0, .int .i64 a1] w fun e w' => e = .returned (.int .i64 r) ∧ Drawn0 w w' := by
  have H : (if a0 = 1 then (some (wrap64 (-a1))) else (if a0 = 2 then (some (wrap64 ((-1) - a1))) else (if a0 = 3 then (if a1 < 0 then (some (wrap64 (-a1))) else (some a1)) else (if a0 = 4 then (scarabref02_one.l0 k a1 0 0) else (if a0 = 5 then (scarabref02_one.l1 k a1 0 63) else (if a0 = 6 then (scarabref02_one.l2 k a1 0 0) else (if a0 = 7 then (scarabref02_one.l3 k a1 0 0) else (if a0 = 8 then ((scarabref02_yes.f (a1 != 0)).bind fun t180 => (some t180)) else (if a0 = 9 then ((scarabref02_yes.f (a1 == 0)).bind fun t181 => (some t181)) else (if a0 = 10 then ((scarabref02_converted.f k a1 8 true).bind fun t182 => (some t182)) else (if a0 = 11 then ((scarabref02_converted.f k a1 16 true).bind fun t183 => (some t183)) else (if a0 = 12 then ((scarabref02_converted.f k a1 32 true).bind fun t184 => (some t184)) else (if a0 = 13 then ((scarabref02_converted.f k a1 8 false).bind fun t185 => (some t185)) else (if a0 = 14 then ((scarabref02_converted.f k a1 16 false).bind fun t186 => (some t186)) else ((scarabref02_converted.f k a1 32 false).bind fun t187 => (some t187)))))))))))))))) = some r := h
  clear h
  rw [if_neg c3] at H
  have c3b0 : (a0 == 1) = false := beq_eq_false_iff_ne.mpr c3
  have c3b1 : (a0 != 1) = true := bne_iff_ne.mpr c3
  rw [if_neg c4] at H
  have c4b0 : (a0 == 2) = false := beq_eq_false_iff_ne.mpr c4
  have c4b1 : (a0 != 2) = true := bne_iff_ne.mpr c4
  rw [if_neg c5] at H
  have c5b0 : (a0 == 3) = false := beq_eq_false_iff_ne.mpr c5
  have c5b1 : (a0 != 3) = true := bne_iff_ne.mpr c5
  rw [if_neg c7] at H
  have c7b0 : (a0 == 4) = false := beq_eq_false_iff_ne.mpr c7
  have c7b1 : (a0 != 4) = true := bne_iff_ne.mpr c7
  rw [if_neg c10] at H
  have c10b0 : (a0 == 5) = false := beq_eq_false_iff_ne.mpr c10
  have c10b1 : (a0 != 5) = true := bne_iff_ne.mpr c10
  rw [if_neg c14] at H
  have c14b0 : (a0 == 6) = false := beq_eq_false_iff_ne.mpr c14
  have c14b1 : (a0 != 6) = true := bne_iff_ne.mpr c14
  rw [if_neg c18] at H
  have c18b0 : (a0 == 7) = false := beq_eq_false_iff_ne.mpr c18
  have c18b1 : (a0 != 7) = true := bne_iff_ne.mpr c18
  rw [if_pos c22] at H
  have c22b0 : (a0 == 8) = true := beq_iff_eq.mpr c22
  have c22b1 : (a0 != 8) = false := bne_eq_false_iff_eq.mpr c22
  clear c22
  replace H := Option.bind_eq_some_iff.mp H
  obtain ⟨t180, A230, H⟩ := H
  replace H : (some t180) = some r := H
  have A23 := Aside0.mk A230
  clear A230
  obtain rfl := Option.some.inj H
  go_enter Tryd.func47, Tryd.ntmps47
  go_wp2_with (first | ((with_reducible refine gate_callee (f := 64) rfl ?_); refine goesL_ (some 89) rfl rfl Tryd.func64 (by kernel_rfl) rfl #[.bool (a1 != 0)] rfl (by (try simp only [List.map_toArray, List.map_cons, List.map_nil]); first | done | rfl | (simp only [List.length_drop, List.length_take]; rfl)) ?_; (with_reducible refine (scarabref02_yes.calls (a1 != 0) t180 _ A23.out).mono ?_); rintro e w' ⟨rfl, ⟨nd, rfl⟩⟩; refine ⟨_, rfl, ?_⟩))
  go_ret
  exact ⟨by first | rfl | (simp; done) | (simp [*]; done), by repeat (first | exact Drawn0.refl _ | apply Drawn0.step)⟩
set_option maxHeartbeats 8000000 in
set_option maxRecDepth 100000 in
theorem scarabref02_one.calls_9 (k : Nat) (a0 : Int) (a1 : Int) (r : Int) (w : World) (h : scarabref02_one.f k a0 a1 = some r) (c3 : ¬ (a0 = 1)) (c4 : ¬ (a0 = 2)) (c5 : ¬ (a0 = 3)) (c7 : ¬ (a0 = 4)) (c10 : ¬ (a0 = 5)) (c14 : ¬ (a0 = 6)) (c18 : ¬ (a0 = 7)) (c22 : ¬ (a0 = 8)) (c24 : a0 = 9) :
    Calls Tryd.prog 47 #[.int .i64 a0, .int .i64 a1] w fun e w' => e = .returned (.int .i64 r) ∧ Drawn0 w w' := by
  have H : (if a0 = 1 then (some (wrap64 (-a1))) else (if a0 = 2 then (some (wrap64 ((-1) - a1))) else (if a0 = 3 then (if a1 < 0 then (some (wrap64 (-a1))) else (some a1)) else (if a0 = 4 then (scarabref02_one.l0 k a1 0 0) else (if a0 = 5 then (scarabref02_one.l1 k a1 0 63) else (if a0 = 6 then (scarabref02_one.l2 k a1 0 0) else (if a0 = 7 then (scarabref02_one.l3 k a1 0 0) else (if a0 = 8 then ((scarabref02_yes.f (a1 != 0)).bind fun t180 => (some t180)) else (if a0 = 9 then ((scarabref02_yes.f (a1 == 0)).bind fun t181 => (some t181)) else (if a0 = 10 then ((scarabref02_converted.f k a1 8 true).bind fun t182 => (some t182)) else (if a0 = 11 then ((scarabref02_converted.f k a1 16 true).bind fun t183 => (some t183)) else (if a0 = 12 then ((scarabref02_converted.f k a1 32 true).bind fun t184 => (some t184)) else (if a0 = 13 then ((scarabref02_converted.f k a1 8 false).bind fun t185 => (some t185)) else (if a0 = 14 then ((scarabref02_converted.f k a1 16 false).bind fun t186 => (some t186)) else ((scarabref02_converted.f k a1 32 false).bind fun t187 => (some t187)))))))))))))))) = some r := h
  clear h
  rw [if_neg c3] at H
  have c3b0 : (a0 == 1) = false := beq_eq_false_iff_ne.mpr c3
  have c3b1 : (a0 != 1) = true := bne_iff_ne.mpr c3
  rw [if_neg c4] at H
  have c4b0 : (a0 == 2) = false := beq_eq_false_iff_ne.mpr c4
  have c4b1 : (a0 != 2) = true := bne_iff_ne.mpr c4
  rw [if_neg c5] at H
  have c5b0 : (a0 == 3) = false := beq_eq_false_iff_ne.mpr c5
  have c5b1 : (a0 != 3) = true := bne_iff_ne.mpr c5
  rw [if_neg c7] at H
  have c7b0 : (a0 == 4) = false := beq_eq_false_iff_ne.mpr c7
  have c7b1 : (a0 != 4) = true := bne_iff_ne.mpr c7
  rw [if_neg c10] at H
  have c10b0 : (a0 == 5) = false := beq_eq_false_iff_ne.mpr c10
  have c10b1 : (a0 != 5) = true := bne_iff_ne.mpr c10
  rw [if_neg c14] at H
  have c14b0 : (a0 == 6) = false := beq_eq_false_iff_ne.mpr c14
  have c14b1 : (a0 != 6) = true := bne_iff_ne.mpr c14
  rw [if_neg c18] at H
  have c18b0 : (a0 == 7) = false := beq_eq_false_iff_ne.mpr c18
  have c18b1 : (a0 != 7) = true := bne_iff_ne.mpr c18
  rw [if_neg c22] at H
  have c22b0 : (a0 == 8) = false := beq_eq_false_iff_ne.mpr c22
  have c22b1 : (a0 != 8) = true := bne_iff_ne.mpr c22
  rw [if_pos c24] at H
  have c24b0 : (a0 == 9) = true := beq_iff_eq.mpr c24
  have c24b1 : (a0 != 9) = false := bne_eq_false_iff_eq.mpr c24
  clear c24
  replace H := Option.bind_eq_some_iff.mp H
  obtain ⟨t181, A250, H⟩ := H
  replace H : (some t181) = some r := H
  have A25 := Aside0.mk A250
  clear A250
  obtain rfl := Option.some.inj H
  go_enter Tryd.func47, Tryd.ntmps47
  go_wp2_with (first | ((with_reducible refine gate_callee (f := 64) rfl ?_); refine goesL_ (some 94) rfl rfl Tryd.func64 (by kernel_rfl) rfl #[.bool (a1 == 0)] rfl (by (try simp only [List.map_toArray, List.map_cons, List.map_nil]); first | done | rfl | (simp only [List.length_drop, List.length_take]; rfl)) ?_; (with_reducible refine (scarabref02_yes.calls (a1 == 0) t181 _ A25.out).mono ?_); rintro e w' ⟨rfl, ⟨nd, rfl⟩⟩; refine ⟨_, rfl, ?_⟩))
  go_ret
  exact ⟨by first | rfl | (simp; done) | (simp [*]; done), by repeat (first | exact Drawn0.refl _ | apply Drawn0.step)⟩
set_option maxHeartbeats 8000000 in
set_option maxRecDepth 100000 in
theorem scarabref02_one.calls_10 (k : Nat) (a0 : Int) (a1 : Int) (r : Int) (w : World) (h : scarabref02_one.f k a0 a1 = some r) (c3 : ¬ (a0 = 1)) (c4 : ¬ (a0 = 2)) (c5 : ¬ (a0 = 3)) (c7 : ¬ (a0 = 4)) (c10 : ¬ (a0 = 5)) (c14 : ¬ (a0 = 6)) (c18 : ¬ (a0 = 7)) (c22 : ¬ (a0 = 8)) (c24 : ¬ (a0 = 9)) (c26 : a0 = 10) :
    Calls Tryd.prog 47 #[.int .i64 a0, .int .i64 a1] w fun e w' => e = .returned (.int .i64 r) ∧ Drawn0 w w' := by
  have H : (if a0 = 1 then (some (wrap64 (-a1))) else (if a0 = 2 then (some (wrap64 ((-1) - a1))) else (if a0 = 3 then (if a1 < 0 then (some (wrap64 (-a1))) else (some a1)) else (if a0 = 4 then (scarabref02_one.l0 k a1 0 0) else (if a0 = 5 then (scarabref02_one.l1 k a1 0 63) else (if a0 = 6 then (scarabref02_one.l2 k a1 0 0) else (if a0 = 7 then (scarabref02_one.l3 k a1 0 0) else (if a0 = 8 then ((scarabref02_yes.f (a1 != 0)).bind fun t180 => (some t180)) else (if a0 = 9 then ((scarabref02_yes.f (a1 == 0)).bind fun t181 => (some t181)) else (if a0 = 10 then ((scarabref02_converted.f k a1 8 true).bind fun t182 => (some t182)) else (if a0 = 11 then ((scarabref02_converted.f k a1 16 true).bind fun t183 => (some t183)) else (if a0 = 12 then ((scarabref02_converted.f k a1 32 true).bind fun t184 => (some t184)) else (if a0 = 13 then ((scarabref02_converted.f k a1 8 false).bind fun t185 => (some t185)) else (if a0 = 14 then ((scarabref02_converted.f k a1 16 false).bind fun t186 => (some t186)) else ((scarabref02_converted.f k a1 32 false).bind fun t187 => (some t187)))))))))))))))) = some r := h
  clear h
  rw [if_neg c3] at H
  have c3b0 : (a0 == 1) = false := beq_eq_false_iff_ne.mpr c3
  have c3b1 : (a0 != 1) = true := bne_iff_ne.mpr c3
  rw [if_neg c4] at H
  have c4b0 : (a0 == 2) = false := beq_eq_false_iff_ne.mpr c4
  have c4b1 : (a0 != 2) = true := bne_iff_ne.mpr c4
  rw [if_neg c5] at H
  have c5b0 : (a0 == 3) = false := beq_eq_false_iff_ne.mpr c5
  have c5b1 : (a0 != 3) = true := bne_iff_ne.mpr c5
  rw [if_neg c7] at H
  have c7b0 : (a0 == 4) = false := beq_eq_false_iff_ne.mpr c7
  have c7b1 : (a0 != 4) = true := bne_iff_ne.mpr c7
  rw [if_neg c10] at H
  have c10b0 : (a0 == 5) = false := beq_eq_false_iff_ne.mpr c10
  have c10b1 : (a0 != 5) = true := bne_iff_ne.mpr c10
  rw [if_neg c14] at H
  have c14b0 : (a0 == 6) = false := beq_eq_false_iff_ne.mpr c14
  have c14b1 : (a0 != 6) = true := bne_iff_ne.mpr c14
  rw [if_neg c18] at H
  have c18b0 : (a0 == 7) = false := beq_eq_false_iff_ne.mpr c18
  have c18b1 : (a0 != 7) = true := bne_iff_ne.mpr c18
  rw [if_neg c22] at H
  have c22b0 : (a0 == 8) = false := beq_eq_false_iff_ne.mpr c22
  have c22b1 : (a0 != 8) = true := bne_iff_ne.mpr c22
  rw [if_neg c24] at H
  have c24b0 : (a0 == 9) = false := beq_eq_false_iff_ne.mpr c24
  have c24b1 : (a0 != 9) = true := bne_iff_ne.mpr c24
  rw [if_pos c26] at H
  have c26b0 : (a0 == 10) = true := beq_iff_eq.mpr c26
  have c26b1 : (a0 != 10) = false := bne_eq_false_iff_eq.mpr c26
  clear c26
  replace H := Option.bind_eq_some_iff.mp H
  obtain ⟨t182, A270, H⟩ := H
  replace H : (some t182) = some r := H
  have A27 := Aside0.mk A270
  clear A270
  obtain rfl := Option.some.inj H
  go_enter Tryd.func47, Tryd.ntmps47
  go_wp2_with (first | ((with_reducible refine gate_callee (f := 65) rfl ?_); refine goesL_ (some 98) rfl rfl Tryd.func65 (by kernel_rfl) rfl #[.int .i64 a1, .int .i64 8, .bool true] rfl (by (try simp only [List.map_toArray, List.map_cons, List.map_nil]); first | done | rfl | (simp only [List.length_drop, List.length_take]; rfl)) ?_; (with_reducible refine (scarabref02_converted.calls k a1 8 true t182 _ A27.out).mono ?_); rintro e w' ⟨rfl, ⟨nd, rfl⟩⟩; refine ⟨_, rfl, ?_⟩))
  go_ret
  exact ⟨by first | rfl | (simp; done) | (simp [*]; done), by repeat (first | exact Drawn0.refl _ | apply Drawn0.step)⟩
set_option maxHeartbeats 8000000 in
set_option maxRecDepth 100000 in
theorem scarabref02_one.calls_11 (k : Nat) (a0 : Int) (a1 : Int) (r : Int) (w : World) (h : scarabref02_one.f k a0 a1 = some r) (c3 : ¬ (a0 = 1)) (c4 : ¬ (a0 = 2)) (c5 : ¬ (a0 = 3)) (c7 : ¬ (a0 = 4)) (c10 : ¬ (a0 = 5)) (c14 : ¬ (a0 = 6)) (c18 : ¬ (a0 = 7)) (c22 : ¬ (a0 = 8)) (c24 : ¬ (a0 = 9)) (c26 : ¬ (a0 = 10)) (c28 : a0 = 11) :
    Calls Tryd.prog 47 #[.int .i64 a0, .int .i64 a1] w fun e w' => e = .returned (.int .i64 r) ∧ Drawn0 w w' := by
  have H : (if a0 = 1 then (some (wrap64 (-a1))) else (if a0 = 2 then (some (wrap64 ((-1) - a1))) else (if a0 = 3 then (if a1 < 0 then (some (wrap64 (-a1))) else (some a1)) else (if a0 = 4 then (scarabref02_one.l0 k a1 0 0) else (if a0 = 5 then (scarabref02_one.l1 k a1 0 63) else (if a0 = 6 then (scarabref02_one.l2 k a1 0 0) else (if a0 = 7 then (scarabref02_one.l3 k a1 0 0) else (if a0 = 8 then ((scarabref02_yes.f (a1 != 0)).bind fun t180 => (some t180)) else (if a0 = 9 then ((scarabref02_yes.f (a1 == 0)).bind fun t181 => (some t181)) else (if a0 = 10 then ((scarabref02_converted.f k a1 8 true).bind fun t182 => (some t182)) else (if a0 = 11 then ((scarabref02_converted.f k a1 16 true).bind fun t183 => (some t183)) else (if a0 = 12 then ((scarabref02_converted.f k a1 32 true).bind fun t184 => (some t184)) else (if a0 = 13 then ((scarabref02_converted.f k a1 8 false).bind fun t185 => (some t185)) else (if a0 = 14 then ((scarabref02_converted.f k a1 16 false).bind fun t186 => (some t186)) else ((scarabref02_converted.f k a1 32 false).bind fun t187 => (some t187)))))))))))))))) = some r := h
  clear h
  rw [if_neg c3] at H
  have c3b0 : (a0 == 1) = false := beq_eq_false_iff_ne.mpr c3
  have c3b1 : (a0 != 1) = true := bne_iff_ne.mpr c3
  rw [if_neg c4] at H
  have c4b0 : (a0 == 2) = false := beq_eq_false_iff_ne.mpr c4
  have c4b1 : (a0 != 2) = true := bne_iff_ne.mpr c4
  rw [if_neg c5] at H
  have c5b0 : (a0 == 3) = false := beq_eq_false_iff_ne.mpr c5
  have c5b1 : (a0 != 3) = true := bne_iff_ne.mpr c5
  rw [if_neg c7] at H
  have c7b0 : (a0 == 4) = false := beq_eq_false_iff_ne.mpr c7
  have c7b1 : (a0 != 4) = true := bne_iff_ne.mpr c7
  rw [if_neg c10] at H
  have c10b0 : (a0 == 5) = false := beq_eq_false_iff_ne.mpr c10
  have c10b1 : (a0 != 5) = true := bne_iff_ne.mpr c10
  rw [if_neg c14] at H
  have c14b0 : (a0 == 6) = false := beq_eq_false_iff_ne.mpr c14
  have c14b1 : (a0 != 6) = true := bne_iff_ne.mpr c14
  rw [if_neg c18] at H
  have c18b0 : (a0 == 7) = false := beq_eq_false_iff_ne.mpr c18
  have c18b1 : (a0 != 7) = true := bne_iff_ne.mpr c18
  rw [if_neg c22] at H
  have c22b0 : (a0 == 8) = false := beq_eq_false_iff_ne.mpr c22
  have c22b1 : (a0 != 8) = true := bne_iff_ne.mpr c22
  rw [if_neg c24] at H
  have c24b0 : (a0 == 9) = false := beq_eq_false_iff_ne.mpr c24
  have c24b1 : (a0 != 9) = true := bne_iff_ne.mpr c24
  rw [if_neg c26] at H
  have c26b0 : (a0 == 10) = false := beq_eq_false_iff_ne.mpr c26
  have c26b1 : (a0 != 10) = true := bne_iff_ne.mpr c26
  rw [if_pos c28] at H
  have c28b0 : (a0 == 11) = true := beq_iff_eq.mpr c28
  have c28b1 : (a0 != 11) = false := bne_eq_false_iff_eq.mpr c28
  clear c28
  replace H := Option.bind_eq_some_iff.mp H
  obtain ⟨t183, A290, H⟩ := H
  replace H : (some t183) = some r := H
  have A29 := Aside0.mk A290
  clear A290
  obtain rfl := Option.some.inj H
  go_enter Tryd.func47, Tryd.ntmps47
  go_wp2_with (first | ((with_reducible refine gate_callee (f := 65) rfl ?_); refine goesL_ (some 102) rfl rfl Tryd.func65 (by kernel_rfl) rfl #[.int .i64 a1, .int .i64 16, .bool true] rfl (by (try simp only [List.map_toArray, List.map_cons, List.map_nil]); first | done | rfl | (simp only [List.length_drop, List.length_take]; rfl)) ?_; (with_reducible refine (scarabref02_converted.calls k a1 16 true t183 _ A29.out).mono ?_); rintro e w' ⟨rfl, ⟨nd, rfl⟩⟩; refine ⟨_, rfl, ?_⟩))
  go_ret
  exact ⟨by first | rfl | (simp; done) | (simp [*]; done), by repeat (first | exact Drawn0.refl _ | apply Drawn0.step)⟩
set_option maxHeartbeats 8000000 in
set_option maxRecDepth 100000 in
theorem scarabref02_one.calls_12 (k : Nat) (a0 : Int) (a1 : Int) (r : Int) (w : World) (h : scarabref02_one.f k a0 a1 = some r) (c3 : ¬ (a0 = 1)) (c4 : ¬ (a0 = 2)) (c5 : ¬ (a0 = 3)) (c7 : ¬ (a0 = 4)) (c10 : ¬ (a0 = 5)) (c14 : ¬ (a0 = 6)) (c18 : ¬ (a0 = 7)) (c22 : ¬ (a0 = 8)) (c24 : ¬ (a0 = 9)) (c26 : ¬ (a0 = 10)) (c28 : ¬ (a0 = 11)) (c30 : a0 = 12) :
    Calls Tryd.prog 47 #[.int .i64 a0, .int .i64 a1] w fun e w' => e = .returned (.int .i64 r) ∧ Drawn0 w w' := by
  have H : (if a0 = 1 then (some (wrap64 (-a1))) else (if a0 = 2 then (some (wrap64 ((-1) - a1))) else (if a0 = 3 then (if a1 < 0 then (some (wrap64 (-a1))) else (some a1)) else (if a0 = 4 then (scarabref02_one.l0 k a1 0 0) else (if a0 = 5 then (scarabref02_one.l1 k a1 0 63) else (if a0 = 6 then (scarabref02_one.l2 k a1 0 0) else (if a0 = 7 then (scarabref02_one.l3 k a1 0 0) else (if a0 = 8 then ((scarabref02_yes.f (a1 != 0)).bind fun t180 => (some t180)) else (if a0 = 9 then ((scarabref02_yes.f (a1 == 0)).bind fun t181 => (some t181)) else (if a0 = 10 then ((scarabref02_converted.f k a1 8 true).bind fun t182 => (some t182)) else (if a0 = 11 then ((scarabref02_converted.f k a1 16 true).bind fun t183 => (some t183)) else (if a0 = 12 then ((scarabref02_converted.f k a1 32 true).bind fun t184 => (some t184)) else (if a0 = 13 then ((scarabref02_converted.f k a1 8 false).bind fun t185 => (some t185)) else (if a0 = 14 then ((scarabref02_converted.f k a1 16 false).bind fun t186 => (some t186)) else ((scarabref02_converted.f k a1 32 false).bind fun t187 => (some t187)))))))))))))))) = some r := h
  clear h
  rw [if_neg c3] at H
  have c3b0 : (a0 == 1) = false := beq_eq_false_iff_ne.mpr c3
  have c3b1 : (a0 != 1) = true := bne_iff_ne.mpr c3
  rw [if_neg c4] at H
  have c4b0 : (a0 == 2) = false := beq_eq_false_iff_ne.mpr c4
  have c4b1 : (a0 != 2) = true := bne_iff_ne.mpr c4
  rw [if_neg c5] at H
  have c5b0 : (a0 == 3) = false := beq_eq_false_iff_ne.mpr c5
  have c5b1 : (a0 != 3) = true := bne_iff_ne.mpr c5
  rw [if_neg c7] at H
  have c7b0 : (a0 == 4) = false := beq_eq_false_iff_ne.mpr c7
  have c7b1 : (a0 != 4) = true := bne_iff_ne.mpr c7
  rw [if_neg c10] at H
  have c10b0 : (a0 == 5) = false := beq_eq_false_iff_ne.mpr c10
  have c10b1 : (a0 != 5) = true := bne_iff_ne.mpr c10
  rw [if_neg c14] at H
  have c14b0 : (a0 == 6) = false := beq_eq_false_iff_ne.mpr c14
  have c14b1 : (a0 != 6) = true := bne_iff_ne.mpr c14
  rw [if_neg c18] at H
  have c18b0 : (a0 == 7) = false := beq_eq_false_iff_ne.mpr c18
  have c18b1 : (a0 != 7) = true := bne_iff_ne.mpr c18
  rw [if_neg c22] at H
  have c22b0 : (a0 == 8) = false := beq_eq_false_iff_ne.mpr c22
  have c22b1 : (a0 != 8) = true := bne_iff_ne.mpr c22
  rw [if_neg c24] at H
  have c24b0 : (a0 == 9) = false := beq_eq_false_iff_ne.mpr c24
  have c24b1 : (a0 != 9) = true := bne_iff_ne.mpr c24
  rw [if_neg c26] at H
  have c26b0 : (a0 == 10) = false := beq_eq_false_iff_ne.mpr c26
  have c26b1 : (a0 != 10) = true := bne_iff_ne.mpr c26
  rw [if_neg c28] at H
  have c28b0 : (a0 == 11) = false := beq_eq_false_iff_ne.mpr c28
  have c28b1 : (a0 != 11) = true := bne_iff_ne.mpr c28
  rw [if_pos c30] at H
  have c30b0 : (a0 == 12) = true := beq_iff_eq.mpr c30
  have c30b1 : (a0 != 12) = false := bne_eq_false_iff_eq.mpr c30
  clear c30
  replace H := Option.bind_eq_some_iff.mp H
  obtain ⟨t184, A310, H⟩ := H
  replace H : (some t184) = some r := H
  have A31 := Aside0.mk A310
  clear A310
  obtain rfl := Option.some.inj H
  go_enter Tryd.func47, Tryd.ntmps47
  go_wp2_with (first | ((with_reducible refine gate_callee (f := 65) rfl ?_); refine goesL_ (some 106) rfl rfl Tryd.func65 (by kernel_rfl) rfl #[.int .i64 a1, .int .i64 32, .bool true] rfl (by (try simp only [List.map_toArray, List.map_cons, List.map_nil]); first | done | rfl | (simp only [List.length_drop, List.length_take]; rfl)) ?_; (with_reducible refine (scarabref02_converted.calls k a1 32 true t184 _ A31.out).mono ?_); rintro e w' ⟨rfl, ⟨nd, rfl⟩⟩; refine ⟨_, rfl, ?_⟩))
  go_ret
  exact ⟨by first | rfl | (simp; done) | (simp [*]; done), by repeat (first | exact Drawn0.refl _ | apply Drawn0.step)⟩
set_option maxHeartbeats 8000000 in
set_option maxRecDepth 100000 in
theorem scarabref02_one.calls_13 (k : Nat) (a0 : Int) (a1 : Int) (r : Int) (w : World) (h : scarabref02_one.f k a0 a1 = some r) (c3 : ¬ (a0 = 1)) (c4 : ¬ (a0 = 2)) (c5 : ¬ (a0 = 3)) (c7 : ¬ (a0 = 4)) (c10 : ¬ (a0 = 5)) (c14 : ¬ (a0 = 6)) (c18 : ¬ (a0 = 7)) (c22 : ¬ (a0 = 8)) (c24 : ¬ (a0 = 9)) (c26 : ¬ (a0 = 10)) (c28 : ¬ (a0 = 11)) (c30 : ¬ (a0 = 12)) (c32 : a0 = 13) :
    Calls Tryd.prog 47 #[.int .i64 a0, .int .i64 a1] w fun e w' => e = .returned (.int .i64 r) ∧ Drawn0 w w' := by
  have H : (if a0 = 1 then (some (wrap64 (-a1))) else (if a0 = 2 then (some (wrap64 ((-1) - a1))) else (if a0 = 3 then (if a1 < 0 then (some (wrap64 (-a1))) else (some a1)) else (if a0 = 4 then (scarabref02_one.l0 k a1 0 0) else (if a0 = 5 then (scarabref02_one.l1 k a1 0 63) else (if a0 = 6 then (scarabref02_one.l2 k a1 0 0) else (if a0 = 7 then (scarabref02_one.l3 k a1 0 0) else (if a0 = 8 then ((scarabref02_yes.f (a1 != 0)).bind fun t180 => (some t180)) else (if a0 = 9 then ((scarabref02_yes.f (a1 == 0)).bind fun t181 => (some t181)) else (if a0 = 10 then ((scarabref02_converted.f k a1 8 true).bind fun t182 => (some t182)) else (if a0 = 11 then ((scarabref02_converted.f k a1 16 true).bind fun t183 => (some t183)) else (if a0 = 12 then ((scarabref02_converted.f k a1 32 true).bind fun t184 => (some t184)) else (if a0 = 13 then ((scarabref02_converted.f k a1 8 false).bind fun t185 => (some t185)) else (if a0 = 14 then ((scarabref02_converted.f k a1 16 false).bind fun t186 => (some t186)) else ((scarabref02_converted.f k a1 32 false).bind fun t187 => (some t187)))))))))))))))) = some r := h
  clear h
  rw [if_neg c3] at H
  have c3b0 : (a0 == 1) = false := beq_eq_false_iff_ne.mpr c3
  have c3b1 : (a0 != 1) = true := bne_iff_ne.mpr c3
  rw [if_neg c4] at H
  have c4b0 : (a0 == 2) = false := beq_eq_false_iff_ne.mpr c4
  have c4b1 : (a0 != 2) = true := bne_iff_ne.mpr c4
  rw [if_neg c5] at H
  have c5b0 : (a0 == 3) = false := beq_eq_false_iff_ne.mpr c5
  have c5b1 : (a0 != 3) = true := bne_iff_ne.mpr c5
  rw [if_neg c7] at H
  have c7b0 : (a0 == 4) = false := beq_eq_false_iff_ne.mpr c7
  have c7b1 : (a0 != 4) = true := bne_iff_ne.mpr c7
  rw [if_neg c10] at H
  have c10b0 : (a0 == 5) = false := beq_eq_false_iff_ne.mpr c10
  have c10b1 : (a0 != 5) = true := bne_iff_ne.mpr c10
  rw [if_neg c14] at H
  have c14b0 : (a0 == 6) = false := beq_eq_false_iff_ne.mpr c14
  have c14b1 : (a0 != 6) = true := bne_iff_ne.mpr c14
  rw [if_neg c18] at H
  have c18b0 : (a0 == 7) = false := beq_eq_false_iff_ne.mpr c18
  have c18b1 : (a0 != 7) = true := bne_iff_ne.mpr c18
  rw [if_neg c22] at H
  have c22b0 : (a0 == 8) = false := beq_eq_false_iff_ne.mpr c22
  have c22b1 : (a0 != 8) = true := bne_iff_ne.mpr c22
  rw [if_neg c24] at H
  have c24b0 : (a0 == 9) = false := beq_eq_false_iff_ne.mpr c24
  have c24b1 : (a0 != 9) = true := bne_iff_ne.mpr c24
  rw [if_neg c26] at H
  have c26b0 : (a0 == 10) = false := beq_eq_false_iff_ne.mpr c26
  have c26b1 : (a0 != 10) = true := bne_iff_ne.mpr c26
  rw [if_neg c28] at H
  have c28b0 : (a0 == 11) = false := beq_eq_false_iff_ne.mpr c28
  have c28b1 : (a0 != 11) = true := bne_iff_ne.mpr c28
  rw [if_neg c30] at H
  have c30b0 : (a0 == 12) = false := beq_eq_false_iff_ne.mpr c30
  have c30b1 : (a0 != 12) = true := bne_iff_ne.mpr c30
  rw [if_pos c32] at H
  have c32b0 : (a0 == 13) = true := beq_iff_eq.mpr c32
  have c32b1 : (a0 != 13) = false := bne_eq_false_iff_eq.mpr c32
  clear c32
  replace H := Option.bind_eq_some_iff.mp H
  obtain ⟨t185, A330, H⟩ := H
  replace H : (some t185) = some r := H
  have A33 := Aside0.mk A330
  clear A330
  obtain rfl := Option.some.inj H
  go_enter Tryd.func47, Tryd.ntmps47
  go_wp2_with (first | ((with_reducible refine gate_callee (f := 65) rfl ?_); refine goesL_ (some 110) rfl rfl Tryd.func65 (by kernel_rfl) rfl #[.int .i64 a1, .int .i64 8, .bool false] rfl (by (try simp only [List.map_toArray, List.map_cons, List.map_nil]); first | done | rfl | (simp only [List.length_drop, List.length_take]; rfl)) ?_; (with_reducible refine (scarabref02_converted.calls k a1 8 false t185 _ A33.out).mono ?_); rintro e w' ⟨rfl, ⟨nd, rfl⟩⟩; refine ⟨_, rfl, ?_⟩))
  go_ret
  exact ⟨by first | rfl | (simp; done) | (simp [*]; done), by repeat (first | exact Drawn0.refl _ | apply Drawn0.step)⟩
set_option maxHeartbeats 8000000 in
set_option maxRecDepth 100000 in
theorem scarabref02_one.calls_14 (k : Nat) (a0 : Int) (a1 : Int) (r : Int) (w : World) (h : scarabref02_one.f k a0 a1 = some r) (c3 : ¬ (a0 = 1)) (c4 : ¬ (a0 = 2)) (c5 : ¬ (a0 = 3)) (c7 : ¬ (a0 = 4)) (c10 : ¬ (a0 = 5)) (c14 : ¬ (a0 = 6)) (c18 : ¬ (a0 = 7)) (c22 : ¬ (a0 = 8)) (c24 : ¬ (a0 = 9)) (c26 : ¬ (a0 = 10)) (c28 : ¬ (a0 = 11)) (c30 : ¬ (a0 = 12)) (c32 : ¬ (a0 = 13)) (c34 : a0 = 14) :
    Calls Tryd.prog 47 #[.int .i64 a0, .int .i64 a1] w fun e w' => e = .returned (.int .i64 r) ∧ Drawn0 w w' := by
  have H : (if a0 = 1 then (some (wrap64 (-a1))) else (if a0 = 2 then (some (wrap64 ((-1) - a1))) else (if a0 = 3 then (if a1 < 0 then (some (wrap64 (-a1))) else (some a1)) else (if a0 = 4 then (scarabref02_one.l0 k a1 0 0) else (if a0 = 5 then (scarabref02_one.l1 k a1 0 63) else (if a0 = 6 then (scarabref02_one.l2 k a1 0 0) else (if a0 = 7 then (scarabref02_one.l3 k a1 0 0) else (if a0 = 8 then ((scarabref02_yes.f (a1 != 0)).bind fun t180 => (some t180)) else (if a0 = 9 then ((scarabref02_yes.f (a1 == 0)).bind fun t181 => (some t181)) else (if a0 = 10 then ((scarabref02_converted.f k a1 8 true).bind fun t182 => (some t182)) else (if a0 = 11 then ((scarabref02_converted.f k a1 16 true).bind fun t183 => (some t183)) else (if a0 = 12 then ((scarabref02_converted.f k a1 32 true).bind fun t184 => (some t184)) else (if a0 = 13 then ((scarabref02_converted.f k a1 8 false).bind fun t185 => (some t185)) else (if a0 = 14 then ((scarabref02_converted.f k a1 16 false).bind fun t186 => (some t186)) else ((scarabref02_converted.f k a1 32 false).bind fun t187 => (some t187)))))))))))))))) = some r := h
  clear h
  rw [if_neg c3] at H
  have c3b0 : (a0 == 1) = false := beq_eq_false_iff_ne.mpr c3
  have c3b1 : (a0 != 1) = true := bne_iff_ne.mpr c3
  rw [if_neg c4] at H
  have c4b0 : (a0 == 2) = false := beq_eq_false_iff_ne.mpr c4
  have c4b1 : (a0 != 2) = true := bne_iff_ne.mpr c4
  rw [if_neg c5] at H
  have c5b0 : (a0 == 3) = false := beq_eq_false_iff_ne.mpr c5
  have c5b1 : (a0 != 3) = true := bne_iff_ne.mpr c5
  rw [if_neg c7] at H
  have c7b0 : (a0 == 4) = false := beq_eq_false_iff_ne.mpr c7
  have c7b1 : (a0 != 4) = true := bne_iff_ne.mpr c7
  rw [if_neg c10] at H
  have c10b0 : (a0 == 5) = false := beq_eq_false_iff_ne.mpr c10
  have c10b1 : (a0 != 5) = true := bne_iff_ne.mpr c10
  rw [if_neg c14] at H
  have c14b0 : (a0 == 6) = false := beq_eq_false_iff_ne.mpr c14
  have c14b1 : (a0 != 6) = true := bne_iff_ne.mpr c14
  rw [if_neg c18] at H
  have c18b0 : (a0 == 7) = false := beq_eq_false_iff_ne.mpr c18
  have c18b1 : (a0 != 7) = true := bne_iff_ne.mpr c18
  rw [if_neg c22] at H
  have c22b0 : (a0 == 8) = false := beq_eq_false_iff_ne.mpr c22
  have c22b1 : (a0 != 8) = true := bne_iff_ne.mpr c22
  rw [if_neg c24] at H
  have c24b0 : (a0 == 9) = false := beq_eq_false_iff_ne.mpr c24
  have c24b1 : (a0 != 9) = true := bne_iff_ne.mpr c24
  rw [if_neg c26] at H
  have c26b0 : (a0 == 10) = false := beq_eq_false_iff_ne.mpr c26
  have c26b1 : (a0 != 10) = true := bne_iff_ne.mpr c26
  rw [if_neg c28] at H
  have c28b0 : (a0 == 11) = false := beq_eq_false_iff_ne.mpr c28
  have c28b1 : (a0 != 11) = true := bne_iff_ne.mpr c28
  rw [if_neg c30] at H
  have c30b0 : (a0 == 12) = false := beq_eq_false_iff_ne.mpr c30
  have c30b1 : (a0 != 12) = true := bne_iff_ne.mpr c30
  rw [if_neg c32] at H
  have c32b0 : (a0 == 13) = false := beq_eq_false_iff_ne.mpr c32
  have c32b1 : (a0 != 13) = true := bne_iff_ne.mpr c32
  rw [if_pos c34] at H
  have c34b0 : (a0 == 14) = true := beq_iff_eq.mpr c34
  have c34b1 : (a0 != 14) = false := bne_eq_false_iff_eq.mpr c34
  clear c34
  replace H := Option.bind_eq_some_iff.mp H
  obtain ⟨t186, A350, H⟩ := H
  replace H : (some t186) = some r := H
  have A35 := Aside0.mk A350
  clear A350
  obtain rfl := Option.some.inj H
  go_enter Tryd.func47, Tryd.ntmps47
  go_wp2_with (first | ((with_reducible refine gate_callee (f := 65) rfl ?_); refine goesL_ (some 114) rfl rfl Tryd.func65 (by kernel_rfl) rfl #[.int .i64 a1, .int .i64 16, .bool false] rfl (by (try simp only [List.map_toArray, List.map_cons, List.map_nil]); first | done | rfl | (simp only [List.length_drop, List.length_take]; rfl)) ?_; (with_reducible refine (scarabref02_converted.calls k a1 16 false t186 _ A35.out).mono ?_); rintro e w' ⟨rfl, ⟨nd, rfl⟩⟩; refine ⟨_, rfl, ?_⟩))
  go_ret
  exact ⟨by first | rfl | (simp; done) | (simp [*]; done), by repeat (first | exact Drawn0.refl _ | apply Drawn0.step)⟩
set_option maxHeartbeats 8000000 in
set_option maxRecDepth 100000 in
theorem scarabref02_one.calls_15 (k : Nat) (a0 : Int) (a1 : Int) (r : Int) (w : World) (h : scarabref02_one.f k a0 a1 = some r) (c3 : ¬ (a0 = 1)) (c4 : ¬ (a0 = 2)) (c5 : ¬ (a0 = 3)) (c7 : ¬ (a0 = 4)) (c10 : ¬ (a0 = 5)) (c14 : ¬ (a0 = 6)) (c18 : ¬ (a0 = 7)) (c22 : ¬ (a0 = 8)) (c24 : ¬ (a0 = 9)) (c26 : ¬ (a0 = 10)) (c28 : ¬ (a0 = 11)) (c30 : ¬ (a0 = 12)) (c32 : ¬ (a0 = 13)) (c34 : ¬ (a0 = 14)) :
    Calls Tryd.prog 47 #[.int .i64 a0, .int .i64 a1] w fun e w' => e = .returned (.int .i64 r) ∧ Drawn0 w w' := by
  have H : (if a0 = 1 then (some (wrap64 (-a1))) else (if a0 = 2 then (some (wrap64 ((-1) - a1))) else (if a0 = 3 then (if a1 < 0 then (some (wrap64 (-a1))) else (some a1)) else (if a0 = 4 then (scarabref02_one.l0 k a1 0 0) else (if a0 = 5 then (scarabref02_one.l1 k a1 0 63) else (if a0 = 6 then (scarabref02_one.l2 k a1 0 0) else (if a0 = 7 then (scarabref02_one.l3 k a1 0 0) else (if a0 = 8 then ((scarabref02_yes.f (a1 != 0)).bind fun t180 => (some t180)) else (if a0 = 9 then ((scarabref02_yes.f (a1 == 0)).bind fun t181 => (some t181)) else (if a0 = 10 then ((scarabref02_converted.f k a1 8 true).bind fun t182 => (some t182)) else (if a0 = 11 then ((scarabref02_converted.f k a1 16 true).bind fun t183 => (some t183)) else (if a0 = 12 then ((scarabref02_converted.f k a1 32 true).bind fun t184 => (some t184)) else (if a0 = 13 then ((scarabref02_converted.f k a1 8 false).bind fun t185 => (some t185)) else (if a0 = 14 then ((scarabref02_converted.f k a1 16 false).bind fun t186 => (some t186)) else ((scarabref02_converted.f k a1 32 false).bind fun t187 => (some t187)))))))))))))))) = some r := h
  clear h
  rw [if_neg c3] at H
  have c3b0 : (a0 == 1) = false := beq_eq_false_iff_ne.mpr c3
  have c3b1 : (a0 != 1) = true := bne_iff_ne.mpr c3
  rw [if_neg c4] at H
  have c4b0 : (a0 == 2) = false := beq_eq_false_iff_ne.mpr c4
  have c4b1 : (a0 != 2) = true := bne_iff_ne.mpr c4
  rw [if_neg c5] at H
  have c5b0 : (a0 == 3) = false := beq_eq_false_iff_ne.mpr c5
  have c5b1 : (a0 != 3) = true := bne_iff_ne.mpr c5
  rw [if_neg c7] at H
  have c7b0 : (a0 == 4) = false := beq_eq_false_iff_ne.mpr c7
  have c7b1 : (a0 != 4) = true := bne_iff_ne.mpr c7
  rw [if_neg c10] at H
  have c10b0 : (a0 == 5) = false := beq_eq_false_iff_ne.mpr c10
  have c10b1 : (a0 != 5) = true := bne_iff_ne.mpr c10
  rw [if_neg c14] at H
  have c14b0 : (a0 == 6) = false := beq_eq_false_iff_ne.mpr c14
  have c14b1 : (a0 != 6) = true := bne_iff_ne.mpr c14
  rw [if_neg c18] at H
  have c18b0 : (a0 == 7) = false := beq_eq_false_iff_ne.mpr c18
  have c18b1 : (a0 != 7) = true := bne_iff_ne.mpr c18
  rw [if_neg c22] at H
  have c22b0 : (a0 == 8) = false := beq_eq_false_iff_ne.mpr c22
  have c22b1 : (a0 != 8) = true := bne_iff_ne.mpr c22
  rw [if_neg c24] at H
  have c24b0 : (a0 == 9) = false := beq_eq_false_iff_ne.mpr c24
  have c24b1 : (a0 != 9) = true := bne_iff_ne.mpr c24
  rw [if_neg c26] at H
  have c26b0 : (a0 == 10) = false := beq_eq_false_iff_ne.mpr c26
  have c26b1 : (a0 != 10) = true := bne_iff_ne.mpr c26
  rw [if_neg c28] at H
  have c28b0 : (a0 == 11) = false := beq_eq_false_iff_ne.mpr c28
  have c28b1 : (a0 != 11) = true := bne_iff_ne.mpr c28
  rw [if_neg c30] at H
  have c30b0 : (a0 == 12) = false := beq_eq_false_iff_ne.mpr c30
  have c30b1 : (a0 != 12) = true := bne_iff_ne.mpr c30
  rw [if_neg c32] at H
  have c32b0 : (a0 == 13) = false := beq_eq_false_iff_ne.mpr c32
  have c32b1 : (a0 != 13) = true := bne_iff_ne.mpr c32
  rw [if_neg c34] at H
  have c34b0 : (a0 == 14) = false := beq_eq_false_iff_ne.mpr c34
  have c34b1 : (a0 != 14) = true := bne_iff_ne.mpr c34
  replace H := Option.bind_eq_some_iff.mp H
  obtain ⟨t187, A360, H⟩ := H
  replace H : (some t187) = some r := H
  have A36 := Aside0.mk A360
  clear A360
  obtain rfl := Option.some.inj H
  go_enter Tryd.func47, Tryd.ntmps47
  go_wp2_with (first | ((with_reducible refine gate_callee (f := 65) rfl ?_); refine goesL_ (some 116) rfl rfl Tryd.func65 (by kernel_rfl) rfl #[.int .i64 a1, .int .i64 32, .bool false] rfl (by (try simp only [List.map_toArray, List.map_cons, List.map_nil]); first | done | rfl | (simp only [List.length_drop, List.length_take]; rfl)) ?_; (with_reducible refine (scarabref02_converted.calls k a1 32 false t187 _ A36.out).mono ?_); rintro e w' ⟨rfl, ⟨nd, rfl⟩⟩; refine ⟨_, rfl, ?_⟩))
  go_ret
  exact ⟨by first | rfl | (simp; done) | (simp [*]; done), by repeat (first | exact Drawn0.refl _ | apply Drawn0.step)⟩
set_option maxHeartbeats 8000000 in
set_option maxRecDepth 100000 in
theorem scarabref02_one.calls (k : Nat) (a0 : Int) (a1 : Int) (r : Int) (w : World) (h : scarabref02_one.f k a0 a1 = some r) :
    Calls Tryd.prog 47 #[.int .i64 a0, .int .i64 a1] w fun e w' => e = .returned (.int .i64 r) ∧ Drawn0 w w' := by
  by_cases c3 : a0 = 1
  · exact scarabref02_one.calls_0 k a0 a1 r w h c3
  · by_cases c4 : a0 = 2
    · exact scarabref02_one.calls_1 k a0 a1 r w h c3 c4
    · by_cases c5 : a0 = 3
      · by_cases c6 : a1 < 0
        · exact scarabref02_one.calls_2 k a0 a1 r w h c3 c4 c5 c6
        · exact scarabref02_one.calls_3 k a0 a1 r w h c3 c4 c5 c6
      · by_cases c7 : a0 = 4
        · exact scarabref02_one.calls_4 k a0 a1 r w h c3 c4 c5 c7
        · by_cases c10 : a0 = 5
          · exact scarabref02_one.calls_5 k a0 a1 r w h c3 c4 c5 c7 c10
          · by_cases c14 : a0 = 6
            · exact scarabref02_one.calls_6 k a0 a1 r w h c3 c4 c5 c7 c10 c14
            · by_cases c18 : a0 = 7
              · exact scarabref02_one.calls_7 k a0 a1 r w h c3 c4 c5 c7 c10 c14 c18
              · by_cases c22 : a0 = 8
                · exact scarabref02_one.calls_8 k a0 a1 r w h c3 c4 c5 c7 c10 c14 c18 c22
                · by_cases c24 : a0 = 9
                  · exact scarabref02_one.calls_9 k a0 a1 r w h c3 c4 c5 c7 c10 c14 c18 c22 c24
                  · by_cases c26 : a0 = 10
                    · exact scarabref02_one.calls_10 k a0 a1 r w h c3 c4 c5 c7 c10 c14 c18 c22 c24 c26
                    · by_cases c28 : a0 = 11
                      · exact scarabref02_one.calls_11 k a0 a1 r w h c3 c4 c5 c7 c10 c14 c18 c22 c24 c26 c28
                      · by_cases c30 : a0 = 12
                        · exact scarabref02_one.calls_12 k a0 a1 r w h c3 c4 c5 c7 c10 c14 c18 c22 c24 c26 c28 c30
                        · by_cases c32 : a0 = 13
                          · exact scarabref02_one.calls_13 k a0 a1 r w h c3 c4 c5 c7 c10 c14 c18 c22 c24 c26 c28 c30 c32
                          · by_cases c34 : a0 = 14
                            · exact scarabref02_one.calls_14 k a0 a1 r w h c3 c4 c5 c7 c10 c14 c18 c22 c24 c26 c28 c30 c32 c34
                            · exact scarabref02_one.calls_15 k a0 a1 r w h c3 c4 c5 c7 c10 c14 c18 c22 c24 c26 c28 c30 c32 c34

/-! ### scarabref02_Wide: function 18 -/
def scarabref02_Wide.l0 : Nat → Int → Int → Int → Int → Int → Option (Int × Int)
  | 0, _, _, _, _, _ => none
  | k + 1, x0, x1, x6, x7, x8 => if x8 ≥ 0 then ((scarabref02_bit.f x1 x8).bind fun t188 => (if t188 = 0 then (scarabref02_Wide.l0 k x0 x1 (wrap64 ((wrap64 (x6 * 2)) + (wrap64 (x7 / 9223372036854775808)))) (IntKind.u64.wrap (x7 * 2)) (wrap64 (x8 - 1))) else (if x8 = 63 then (if (IntKind.u64.wrap (x7 * 2)) < (IntKind.u64.wrap (x0)) then (scarabref02_Wide.l0 k x0 x1 (wrap64 ((wrap64 ((wrap64 ((wrap64 (x6 * 2)) + (wrap64 (x7 / 9223372036854775808)))) - (x0 / 9223372036854775808))) - 1)) (IntKind.u64.wrap ((IntKind.u64.wrap (x7 * 2)) - (IntKind.u64.wrap (x0)))) (wrap64 (x8 - 1))) else (scarabref02_Wide.l0 k x0 x1 (wrap64 ((wrap64 ((wrap64 (x6 * 2)) + (wrap64 (x7 / 9223372036854775808)))) - (x0 / 9223372036854775808))) (IntKind.u64.wrap ((IntKind.u64.wrap (x7 * 2)) - (IntKind.u64.wrap (x0)))) (wrap64 (x8 - 1)))) else (if (IntKind.u64.wrap ((IntKind.u64.wrap (x7 * 2)) + (IntKind.u64.wrap (x0)))) < (IntKind.u64.wrap (x7 * 2)) then (scarabref02_Wide.l0 k x0 x1 (wrap64 ((wrap64 ((wrap64 ((wrap64 (x6 * 2)) + (wrap64 (x7 / 9223372036854775808)))) + (x0 / 9223372036854775808))) + 1)) (IntKind.u64.wrap ((IntKind.u64.wrap (x7 * 2)) + (IntKind.u64.wrap (x0)))) (wrap64 (x8 - 1))) else (scarabref02_Wide.l0 k x0 x1 (wrap64 ((wrap64 ((wrap64 (x6 * 2)) + (wrap64 (x7 / 9223372036854775808)))) + (x0 / 9223372036854775808))) (IntKind.u64.wrap ((IntKind.u64.wrap (x7 * 2)) + (IntKind.u64.wrap (x0)))) (wrap64 (x8 - 1))))))) else (some (x6, x7))
def scarabref02_Wide.f (k : Nat) (a0 : Int) (a1 : Int) : Option (Int × Int) := scarabref02_Wide.l0 k a0 a1 0 0 63
theorem scarabref02_Wide.mono_l : ∀ k, (∀ y0 y1 y2 y3 y4, LeO (scarabref02_Wide.l0 k y0 y1 y2 y3 y4) (scarabref02_Wide.l0 (k + 1) y0 y1 y2 y3 y4))
  | 0 => fun _ _ _ _ _ r h => by simp [scarabref02_Wide.l0] at h
  | k + 1 => by
    have ih0 := scarabref02_Wide.mono_l k
    · intro y0 y1 y2 y3 y4
      unfold scarabref02_Wide.l0
      repeat' first
      | (with_reducible exact ih0 _ _ _ _ _)
      | (with_reducible exact LeO.refl _)
      | (with_reducible exact LeO.none _)
      | (with_reducible refine LeO.ite ?_ ?_)
      | (with_reducible refine LeO.bind ?_ (fun _ => ?_))
      | exact ih0 _ _ _ _ _
      | exact LeO.none _
      | refine LeO.ite ?_ ?_
      | refine LeO.bind ?_ (fun _ => ?_)
theorem scarabref02_Wide.mono : ∀ a0 a1 k, LeO (scarabref02_Wide.f k a0 a1) (scarabref02_Wide.f (k + 1) a0 a1) := by
  intro a0 a1 k
  have ih0 := scarabref02_Wide.mono_l k
  unfold scarabref02_Wide.f
  repeat' first
      | (with_reducible exact ih0 _ _ _ _ _)
      | (with_reducible exact LeO.refl _)
      | (with_reducible exact LeO.none _)
      | (with_reducible refine LeO.ite ?_ ?_)
      | (with_reducible refine LeO.bind ?_ (fun _ => ?_))
      | exact ih0 _ _ _ _ _
      | exact LeO.none _
      | refine LeO.ite ?_ ?_
      | refine LeO.bind ?_ (fun _ => ?_)
set_option maxHeartbeats 8000000 in
set_option maxRecDepth 100000 in
theorem scarabref02_Wide.calls (k : Nat) (a0 : Int) (a1 : Int) (r1 : Int) (r2 : Int) (w : World) (h : scarabref02_Wide.f k a0 a1 = some (r1, r2)) :
    Calls Tryd.prog 18 #[.int .i64 a0, .int .i64 a1] w fun e w' => e = .returned (.tuple #[.int .i64 r1, .int .u64 r2]) ∧ Drawn0 w w' := by
  have H : (scarabref02_Wide.l0 k a0 a1 0 0 63) = some (r1, r2) := h
  clear h
  have H' := Aside0.mk H
  clear H
  go_enter Tryd.func18, Tryd.ntmps18
  go_wp2
  go_loopg [6, 7, 8] k (fun kq v6 v7 v8 w' => ∃ (x6_1 : Int) (x7_1 : Int) (x8_1 : Int), v6 = .int .i64 x6_1 ∧ v7 = .int .u64 x7_1 ∧ v8 = .int .i64 x8_1 ∧ Aside0 (scarabref02_Wide.l0 kq a0 a1 x6_1 x7_1 x8_1 = some (r1, r2)) ∧ Aside0 (kq ≤ k) ∧ Drawn0 w w')
  case atStart => exact ⟨(0), (0), (63), (by first | rfl | (simp; done) | (simp [*]; done)), (by first | rfl | (simp; done) | (simp [*]; done)), (by first | rfl | (simp; done) | (simp [*]; done)), H', ⟨Nat.le_refl _⟩, by repeat (first | exact Drawn0.refl _ | apply Drawn0.step)⟩
  case round =>
    clear H'
    try clear c1
    try clear p2
    obtain ⟨x6_1, x7_1, x8_1, rfl, rfl, rfl, HA, HK1, ⟨m1, rfl⟩⟩ := hrel
    cases gk with
    | zero => exact absurd HA.out (by simp [scarabref02_Wide.l0])
    | succ k1 =>
      have H := HA.out
      clear HA
      simp only [scarabref02_Wide.l0] at H
      by_cases c3 : x8_1 ≥ 0
      · rw [if_pos c3] at H
        have c3b0 : decide (0 ≤ x8_1) = true := decide_eq_true c3
        clear c3
        replace H := Option.bind_eq_some_iff.mp H
        obtain ⟨t188, A40, H⟩ := H
        replace H : (if t188 = 0 then (scarabref02_Wide.l0 k1 a0 a1 (wrap64 ((wrap64 (x6_1 * 2)) + (wrap64 (x7_1 / 9223372036854775808)))) (IntKind.u64.wrap (x7_1 * 2)) (wrap64 (x8_1 - 1))) else (if x8_1 = 63 then (if (IntKind.u64.wrap (x7_1 * 2)) < (IntKind.u64.wrap (a0)) then (scarabref02_Wide.l0 k1 a0 a1 (wrap64 ((wrap64 ((wrap64 ((wrap64 (x6_1 * 2)) + (wrap64 (x7_1 / 9223372036854775808)))) - (a0 / 9223372036854775808))) - 1)) (IntKind.u64.wrap ((IntKind.u64.wrap (x7_1 * 2)) - (IntKind.u64.wrap (a0)))) (wrap64 (x8_1 - 1))) else (scarabref02_Wide.l0 k1 a0 a1 (wrap64 ((wrap64 ((wrap64 (x6_1 * 2)) + (wrap64 (x7_1 / 9223372036854775808)))) - (a0 / 9223372036854775808))) (IntKind.u64.wrap ((IntKind.u64.wrap (x7_1 * 2)) - (IntKind.u64.wrap (a0)))) (wrap64 (x8_1 - 1)))) else (if (IntKind.u64.wrap ((IntKind.u64.wrap (x7_1 * 2)) + (IntKind.u64.wrap (a0)))) < (IntKind.u64.wrap (x7_1 * 2)) then (scarabref02_Wide.l0 k1 a0 a1 (wrap64 ((wrap64 ((wrap64 ((wrap64 (x6_1 * 2)) + (wrap64 (x7_1 / 9223372036854775808)))) + (a0 / 9223372036854775808))) + 1)) (IntKind.u64.wrap ((IntKind.u64.wrap (x7_1 * 2)) + (IntKind.u64.wrap (a0)))) (wrap64 (x8_1 - 1))) else (scarabref02_Wide.l0 k1 a0 a1 (wrap64 ((wrap64 ((wrap64 (x6_1 * 2)) + (wrap64 (x7_1 / 9223372036854775808)))) + (a0 / 9223372036854775808))) (IntKind.u64.wrap ((IntKind.u64.wrap (x7_1 * 2)) + (IntKind.u64.wrap (a0)))) (wrap64 (x8_1 - 1)))))) = some (r1, r2) := H
        have A4 := Aside0.mk A40
        clear A40
        by_cases c5 : t188 = 0
        · rw [if_pos c5] at H
          have c5b0 : (t188 == 0) = true := beq_iff_eq.mpr c5
          have c5b1 : (t188 != 0) = false := bne_eq_false_iff_eq.mpr c5
          clear c5
          have H' := Aside0.mk H
          clear H
          go_wp2_with (first | ((with_reducible refine gate_callee (f := 42) rfl ?_); refine goesL_ (some 25) rfl rfl Tryd.func42 (by kernel_rfl) rfl #[.int .i64 a1, .int .i64 x8_1] rfl (by (try simp only [List.map_toArray, List.map_cons, List.map_nil]); first | done | rfl | (simp only [List.length_drop, List.length_take]; rfl)) ?_; (with_reducible refine (scarabref02_bit.calls a1 x8_1 t188 _ A4.out).mono ?_); rintro e w' ⟨rfl, ⟨nd, rfl⟩⟩; refine ⟨_, rfl, ?_⟩))
          go_roundg k1
          case measure => have := HK1.out; omega
          case rel => exact ⟨(wrap64 ((wrap64 (x6_1 * 2)) + (wrap64 (x7_1 / 9223372036854775808)))), (IntKind.u64.wrap (x7_1 * 2)), (wrap64 (x8_1 - 1)), (by first | rfl | (simp; done) | (simp [*]; done)), (by first | rfl | (simp; done) | (simp [*]; done)), (by first | rfl | (simp; done) | (simp [*]; done)), H', ⟨by have := HK1.out; omega⟩, by repeat (first | exact Drawn0.refl _ | apply Drawn0.step)⟩
        · rw [if_neg c5] at H
          have c5b0 : (t188 == 0) = false := beq_eq_false_iff_ne.mpr c5
          have c5b1 : (t188 != 0) = true := bne_iff_ne.mpr c5
          by_cases c6 : x8_1 = 63
          · rw [if_pos c6] at H
            have c6b0 : (x8_1 == 63) = true := beq_iff_eq.mpr c6
            have c6b1 : (x8_1 != 63) = false := bne_eq_false_iff_eq.mpr c6
            clear c6
            by_cases c7 : (IntKind.u64.wrap (x7_1 * 2)) < (IntKind.u64.wrap (a0))
            · rw [if_pos c7] at H
              have c7b0 : decide ((IntKind.u64.wrap (x7_1 * 2)) < (IntKind.u64.wrap (a0))) = true := decide_eq_true c7
              clear c7
              have H' := Aside0.mk H
              clear H
              go_wp2_with (first | ((with_reducible refine gate_callee (f := 42) rfl ?_); refine goesL_ (some 25) rfl rfl Tryd.func42 (by kernel_rfl) rfl #[.int .i64 a1, .int .i64 x8_1] rfl (by (try simp only [List.map_toArray, List.map_cons, List.map_nil]); first | done | rfl | (simp only [List.length_drop, List.length_take]; rfl)) ?_; (with_reducible refine (scarabref02_bit.calls a1 x8_1 t188 _ A4.out).mono ?_); rintro e w' ⟨rfl, ⟨nd, rfl⟩⟩; refine ⟨_, rfl, ?_⟩))
              go_roundg k1
              case measure => have := HK1.out; omega
              case rel => exact ⟨(wrap64 ((wrap64 ((wrap64 ((wrap64 (x6_1 * 2)) + (wrap64 (x7_1 / 9223372036854775808)))) - (a0 / 9223372036854775808))) - 1)), (IntKind.u64.wrap ((IntKind.u64.wrap (x7_1 * 2)) - (IntKind.u64.wrap (a0)))), (wrap64 (x8_1 - 1)), (by first | rfl | (simp; done) | (simp [*]; done)), (by first | rfl | (simp; done) | (simp [*]; done)), (by first | rfl | (simp; done) | (simp [*]; done)), H', ⟨by have := HK1.out; omega⟩, by repeat (first | exact Drawn0.refl _ | apply Drawn0.step)⟩
            · rw [if_neg c7] at H
              have c7b0 : decide ((IntKind.u64.wrap (x7_1 * 2)) < (IntKind.u64.wrap (a0))) = false := decide_eq_false c7
              clear c7
              have H' := Aside0.mk H
              clear H
              go_wp2_with (first | ((with_reducible refine gate_callee (f := 42) rfl ?_); refine goesL_ (some 25) rfl rfl Tryd.func42 (by kernel_rfl) rfl #[.int .i64 a1, .int .i64 x8_1] rfl (by (try simp only [List.map_toArray, List.map_cons, List.map_nil]); first | done | rfl | (simp only [List.length_drop, List.length_take]; rfl)) ?_; (with_reducible refine (scarabref02_bit.calls a1 x8_1 t188 _ A4.out).mono ?_); rintro e w' ⟨rfl, ⟨nd, rfl⟩⟩; refine ⟨_, rfl, ?_⟩))
              go_roundg k1
              case measure => have := HK1.out; omega
              case rel => exact ⟨(wrap64 ((wrap64 ((wrap64 (x6_1 * 2)) + (wrap64 (x7_1 / 9223372036854775808)))) - (a0 / 9223372036854775808))), (IntKind.u64.wrap ((IntKind.u64.wrap (x7_1 * 2)) - (IntKind.u64.wrap (a0)))), (wrap64 (x8_1 - 1)), (by first | rfl | (simp; done) | (simp [*]; done)), (by first | rfl | (simp; done) | (simp [*]; done)), (by first | rfl | (simp; done) | (simp [*]; done)), H', ⟨by have := HK1.out; omega⟩, by repeat (first | exact Drawn0.refl _ | apply Drawn0.step)⟩
          · rw [if_neg c6] at H
            have c6b0 : (x8_1 == 63) = false := beq_eq_false_iff_ne.mpr c6
            have c6b1 : (x8_1 != 63) = true := bne_iff_ne.mpr c6
            by_cases c8 : (IntKind.u64.wrap ((IntKind.u64.wrap (x7_1 * 2)) + (IntKind.u64.wrap (a0)))) < (IntKind.u64.wrap (x7_1 * 2))
            · rw [if_pos c8] at H
              have c8b0 : decide ((IntKind.u64.wrap ((IntKind.u64.wrap (x7_1 * 2)) + (IntKind.u64.wrap (a0)))) < (IntKind.u64.wrap (x7_1 * 2))) = true := decide_eq_true c8
              clear c8
              have H' := Aside0.mk H
              clear H
              go_wp2_with (first | ((with_reducible refine gate_callee (f := 42) rfl ?_); refine goesL_ (some 25) rfl rfl Tryd.func42 (by kernel_rfl) rfl #[.int .i64 a1, .int .i64 x8_1] rfl (by (try simp only [List.map_toArray, List.map_cons, List.map_nil]); first | done | rfl | (simp only [List.length_drop, List.length_take]; rfl)) ?_; (with_reducible refine (scarabref02_bit.calls a1 x8_1 t188 _ A4.out).mono ?_); rintro e w' ⟨rfl, ⟨nd, rfl⟩⟩; refine ⟨_, rfl, ?_⟩))
              go_roundg k1
              case measure => have := HK1.out; omega
              case rel => exact ⟨(wrap64 ((wrap64 ((wrap64 ((wrap64 (x6_1 * 2)) + (wrap64 (x7_1 / 9223372036854775808)))) + (a0 / 9223372036854775808))) + 1)), (IntKind.u64.wrap ((IntKind.u64.wrap (x7_1 * 2)) + (IntKind.u64.wrap (a0)))), (wrap64 (x8_1 - 1)), (by first | rfl | (simp; done) | (simp [*]; done)), (by first | rfl | (simp; done) | (simp [*]; done)), (by first | rfl | (simp; done) | (simp [*]; done)), H', ⟨by have := HK1.out; omega⟩, by repeat (first | exact Drawn0.refl _ | apply Drawn0.step)⟩
            · rw [if_neg c8] at H
              have c8b0 : decide ((IntKind.u64.wrap ((IntKind.u64.wrap (x7_1 * 2)) + (IntKind.u64.wrap (a0)))) < (IntKind.u64.wrap (x7_1 * 2))) = false := decide_eq_false c8
              clear c8
              have H' := Aside0.mk H
              clear H
              go_wp2_with (first | ((with_reducible refine gate_callee (f := 42) rfl ?_); refine goesL_ (some 25) rfl rfl Tryd.func42 (by kernel_rfl) rfl #[.int .i64 a1, .int .i64 x8_1] rfl (by (try simp only [List.map_toArray, List.map_cons, List.map_nil]); first | done | rfl | (simp only [List.length_drop, List.length_take]; rfl)) ?_; (with_reducible refine (scarabref02_bit.calls a1 x8_1 t188 _ A4.out).mono ?_); rintro e w' ⟨rfl, ⟨nd, rfl⟩⟩; refine ⟨_, rfl, ?_⟩))
              go_roundg k1
              case measure => have := HK1.out; omega
              case rel => exact ⟨(wrap64 ((wrap64 ((wrap64 (x6_1 * 2)) + (wrap64 (x7_1 / 9223372036854775808)))) + (a0 / 9223372036854775808))), (IntKind.u64.wrap ((IntKind.u64.wrap (x7_1 * 2)) + (IntKind.u64.wrap (a0)))), (wrap64 (x8_1 - 1)), (by first | rfl | (simp; done) | (simp [*]; done)), (by first | rfl | (simp; done) | (simp [*]; done)), (by first | rfl | (simp; done) | (simp [*]; done)), H', ⟨by have := HK1.out; omega⟩, by repeat (first | exact Drawn0.refl _ | apply Drawn0.step)⟩
      · rw [if_neg c3] at H
        have c3b0 : decide (0 ≤ x8_1) = false := decide_eq_false c3
        clear c3
        simp only [Option.some.injEq, Prod.mk.injEq] at H
        obtain ⟨rfl, rfl⟩ := H
        go_wp2
        go_ret2
        exact ⟨by first | rfl | (simp; done) | (simp [*]; done), by repeat (first | exact Drawn0.refl _ | apply Drawn0.step)⟩

end Go.Proofs.YtckfnbjjghdaoaaDoor.T
