-- This session's own text, made by its own run of the tools (wip/tools/pr.sh).
import Derived.Test.YtckfnbjjghdaoaaDoorQ0
namespace Go.Proofs.YtckfnbjjghdaoaaDoor.Q
open Go.RowKit Go.Proofs.YtckfnbjjghdaoaaDoorW.PrintWords Go.Proofs.YtckfnbjjghdaoaaDoorW.PrintLast Go.Proofs.YtckfnbjjghdaoaaDoorW.PrintMore
attribute [local go_sem] max2_int min2_int max_two min_two max_three min_three max_four min_four   -- for this text's walks alone
set_option linter.unusedVariables false
set_option linter.unusedSimpArgs false

/-! ### scarabref02_Divide: function 37 -/
mutual
def scarabref02_Divide.j0 : Nat → Int → Int → Int → Int → Option (Int × Int × Int)
  | 0, _, _, _, _ => none
  | k + 1, x0, x2, x9, x10 => if x2 < 0 then (scarabref02_Divide.j1 k x0 x2 x9 x10 (IntKind.u64.wrap (wrap64 (-x2)))) else (scarabref02_Divide.j1 k x0 x2 x9 x10 (IntKind.u64.wrap (x2)))
def scarabref02_Divide.j1 : Nat → Int → Int → Int → Int → Int → Option (Int × Int × Int)
  | 0, _, _, _, _, _ => none
  | k + 1, x0, x2, x9, x10, x11 => scarabref02_Divide.l0 k x0 x2 x9 x10 x11 0 0 false 127
def scarabref02_Divide.l0 : Nat → Int → Int → Int → Int → Int → Int → Int → Bool → Int → Option (Int × Int × Int)
  | 0, _, _, _, _, _, _, _, _, _ => none
  | k + 1, x0, x2, x9, x10, x11, x12, x13, x14, x15 => if x15 ≥ 0 then (if 0 ≤ (IntKind.u64.wrap (Int.tmod x15 64)) then (if x15 > 63 then (if 0 ≤ (IntKind.u64.wrap (wrap64 (x15 - 64))) then (if x14 = true then (if (x13 / 9223372036854775808) = 1 then (scarabref02_Divide.l0 k x0 x2 x9 x10 x11 (IntKind.u64.wrap ((IntKind.u64.wrap (x12 * 2)) + 1)) (IntKind.u64.wrap ((IntKind.u64.wrap ((IntKind.u64.wrap (x13 * 2)) + (Go.bits .and .u64 (shr .u64 x9 (IntKind.u64.wrap (wrap64 (x15 - 64)))) 1))) - x11)) true (wrap64 (x15 - 1))) else (if (IntKind.u64.wrap ((IntKind.u64.wrap (x13 * 2)) + (Go.bits .and .u64 (shr .u64 x9 (IntKind.u64.wrap (wrap64 (x15 - 64)))) 1))) ≥ x11 then (scarabref02_Divide.l0 k x0 x2 x9 x10 x11 (IntKind.u64.wrap ((IntKind.u64.wrap (x12 * 2)) + 1)) (IntKind.u64.wrap ((IntKind.u64.wrap ((IntKind.u64.wrap (x13 * 2)) + (Go.bits .and .u64 (shr .u64 x9 (IntKind.u64.wrap (wrap64 (x15 - 64)))) 1))) - x11)) true (wrap64 (x15 - 1))) else (scarabref02_Divide.l0 k x0 x2 x9 x10 x11 (IntKind.u64.wrap (x12 * 2)) (IntKind.u64.wrap ((IntKind.u64.wrap (x13 * 2)) + (Go.bits .and .u64 (shr .u64 x9 (IntKind.u64.wrap (wrap64 (x15 - 64)))) 1))) true (wrap64 (x15 - 1))))) else (if (x12 / 9223372036854775808) = 1 then (if (x13 / 9223372036854775808) = 1 then (scarabref02_Divide.l0 k x0 x2 x9 x10 x11 (IntKind.u64.wrap ((IntKind.u64.wrap (x12 * 2)) + 1)) (IntKind.u64.wrap ((IntKind.u64.wrap ((IntKind.u64.wrap (x13 * 2)) + (Go.bits .and .u64 (shr .u64 x9 (IntKind.u64.wrap (wrap64 (x15 - 64)))) 1))) - x11)) true (wrap64 (x15 - 1))) else (if (IntKind.u64.wrap ((IntKind.u64.wrap (x13 * 2)) + (Go.bits .and .u64 (shr .u64 x9 (IntKind.u64.wrap (wrap64 (x15 - 64)))) 1))) ≥ x11 then (scarabref02_Divide.l0 k x0 x2 x9 x10 x11 (IntKind.u64.wrap ((IntKind.u64.wrap (x12 * 2)) + 1)) (IntKind.u64.wrap ((IntKind.u64.wrap ((IntKind.u64.wrap (x13 * 2)) + (Go.bits .and .u64 (shr .u64 x9 (IntKind.u64.wrap (wrap64 (x15 - 64)))) 1))) - x11)) true (wrap64 (x15 - 1))) else (scarabref02_Divide.l0 k x0 x2 x9 x10 x11 (IntKind.u64.wrap (x12 * 2)) (IntKind.u64.wrap ((IntKind.u64.wrap (x13 * 2)) + (Go.bits .and .u64 (shr .u64 x9 (IntKind.u64.wrap (wrap64 (x15 - 64)))) 1))) true (wrap64 (x15 - 1))))) else (if (x13 / 9223372036854775808) = 1 then (scarabref02_Divide.l0 k x0 x2 x9 x10 x11 (IntKind.u64.wrap ((IntKind.u64.wrap (x12 * 2)) + 1)) (IntKind.u64.wrap ((IntKind.u64.wrap ((IntKind.u64.wrap (x13 * 2)) + (Go.bits .and .u64 (shr .u64 x9 (IntKind.u64.wrap (wrap64 (x15 - 64)))) 1))) - x11)) false (wrap64 (x15 - 1))) else (if (IntKind.u64.wrap ((IntKind.u64.wrap (x13 * 2)) + (Go.bits .and .u64 (shr .u64 x9 (IntKind.u64.wrap (wrap64 (x15 - 64)))) 1))) ≥ x11 then (scarabref02_Divide.l0 k x0 x2 x9 x10 x11 (IntKind.u64.wrap ((IntKind.u64.wrap (x12 * 2)) + 1)) (IntKind.u64.wrap ((IntKind.u64.wrap ((IntKind.u64.wrap (x13 * 2)) + (Go.bits .and .u64 (shr .u64 x9 (IntKind.u64.wrap (wrap64 (x15 - 64)))) 1))) - x11)) false (wrap64 (x15 - 1))) else (scarabref02_Divide.l0 k x0 x2 x9 x10 x11 (IntKind.u64.wrap (x12 * 2)) (IntKind.u64.wrap ((IntKind.u64.wrap (x13 * 2)) + (Go.bits .and .u64 (shr .u64 x9 (IntKind.u64.wrap (wrap64 (x15 - 64)))) 1))) false (wrap64 (x15 - 1))))))) else (none)) else (if x14 = true then (if (x13 / 9223372036854775808) = 1 then (scarabref02_Divide.l0 k x0 x2 x9 x10 x11 (IntKind.u64.wrap ((IntKind.u64.wrap (x12 * 2)) + 1)) (IntKind.u64.wrap ((IntKind.u64.wrap ((IntKind.u64.wrap (x13 * 2)) + (Go.bits .and .u64 (shr .u64 x10 (IntKind.u64.wrap (Int.tmod x15 64))) 1))) - x11)) true (wrap64 (x15 - 1))) else (if (IntKind.u64.wrap ((IntKind.u64.wrap (x13 * 2)) + (Go.bits .and .u64 (shr .u64 x10 (IntKind.u64.wrap (Int.tmod x15 64))) 1))) ≥ x11 then (scarabref02_Divide.l0 k x0 x2 x9 x10 x11 (IntKind.u64.wrap ((IntKind.u64.wrap (x12 * 2)) + 1)) (IntKind.u64.wrap ((IntKind.u64.wrap ((IntKind.u64.wrap (x13 * 2)) + (Go.bits .and .u64 (shr .u64 x10 (IntKind.u64.wrap (Int.tmod x15 64))) 1))) - x11)) true (wrap64 (x15 - 1))) else (scarabref02_Divide.l0 k x0 x2 x9 x10 x11 (IntKind.u64.wrap (x12 * 2)) (IntKind.u64.wrap ((IntKind.u64.wrap (x13 * 2)) + (Go.bits .and .u64 (shr .u64 x10 (IntKind.u64.wrap (Int.tmod x15 64))) 1))) true (wrap64 (x15 - 1))))) else (if (x12 / 9223372036854775808) = 1 then (if (x13 / 9223372036854775808) = 1 then (scarabref02_Divide.l0 k x0 x2 x9 x10 x11 (IntKind.u64.wrap ((IntKind.u64.wrap (x12 * 2)) + 1)) (IntKind.u64.wrap ((IntKind.u64.wrap ((IntKind.u64.wrap (x13 * 2)) + (Go.bits .and .u64 (shr .u64 x10 (IntKind.u64.wrap (Int.tmod x15 64))) 1))) - x11)) true (wrap64 (x15 - 1))) else (if (IntKind.u64.wrap ((IntKind.u64.wrap (x13 * 2)) + (Go.bits .and .u64 (shr .u64 x10 (IntKind.u64.wrap (Int.tmod x15 64))) 1))) ≥ x11 then (scarabref02_Divide.l0 k x0 x2 x9 x10 x11 (IntKind.u64.wrap ((IntKind.u64.wrap (x12 * 2)) + 1)) (IntKind.u64.wrap ((IntKind.u64.wrap ((IntKind.u64.wrap (x13 * 2)) + (Go.bits .and .u64 (shr .u64 x10 (IntKind.u64.wrap (Int.tmod x15 64))) 1))) - x11)) true (wrap64 (x15 - 1))) else (scarabref02_Divide.l0 k x0 x2 x9 x10 x11 (IntKind.u64.wrap (x12 * 2)) (IntKind.u64.wrap ((IntKind.u64.wrap (x13 * 2)) + (Go.bits .and .u64 (shr .u64 x10 (IntKind.u64.wrap (Int.tmod x15 64))) 1))) true (wrap64 (x15 - 1))))) else (if (x13 / 9223372036854775808) = 1 then (scarabref02_Divide.l0 k x0 x2 x9 x10 x11 (IntKind.u64.wrap ((IntKind.u64.wrap (x12 * 2)) + 1)) (IntKind.u64.wrap ((IntKind.u64.wrap ((IntKind.u64.wrap (x13 * 2)) + (Go.bits .and .u64 (shr .u64 x10 (IntKind.u64.wrap (Int.tmod x15 64))) 1))) - x11)) false (wrap64 (x15 - 1))) else (if (IntKind.u64.wrap ((IntKind.u64.wrap (x13 * 2)) + (Go.bits .and .u64 (shr .u64 x10 (IntKind.u64.wrap (Int.tmod x15 64))) 1))) ≥ x11 then (scarabref02_Divide.l0 k x0 x2 x9 x10 x11 (IntKind.u64.wrap ((IntKind.u64.wrap (x12 * 2)) + 1)) (IntKind.u64.wrap ((IntKind.u64.wrap ((IntKind.u64.wrap (x13 * 2)) + (Go.bits .and .u64 (shr .u64 x10 (IntKind.u64.wrap (Int.tmod x15 64))) 1))) - x11)) false (wrap64 (x15 - 1))) else (scarabref02_Divide.l0 k x0 x2 x9 x10 x11 (IntKind.u64.wrap (x12 * 2)) (IntKind.u64.wrap ((IntKind.u64.wrap (x13 * 2)) + (Go.bits .and .u64 (shr .u64 x10 (IntKind.u64.wrap (Int.tmod x15 64))) 1))) false (wrap64 (x15 - 1)))))))) else (none)) else (if ((decide (x0 < 0)) != (decide (x2 < 0))) = true then (if x14 = true then (scarabref02_Divide.j3 k x0 x12 x13 true true) else (if x12 > 9223372036854775808 then (scarabref02_Divide.j3 k x0 x12 x13 true true) else (if x12 = 9223372036854775808 then (scarabref02_Divide.j3 k x0 x12 x13 true (!true)) else (scarabref02_Divide.j3 k x0 x12 x13 true false)))) else (if x14 = true then (scarabref02_Divide.j4 k x0 x12 x13 false true) else (if x12 > 9223372036854775808 then (scarabref02_Divide.j4 k x0 x12 x13 false true) else (if x12 = 9223372036854775808 then (scarabref02_Divide.j4 k x0 x12 x13 false (!false)) else (scarabref02_Divide.j4 k x0 x12 x13 false false)))))
def scarabref02_Divide.j3 : Nat → Int → Int → Int → Bool → Bool → Option (Int × Int × Int)
  | 0, _, _, _, _, _ => none
  | k + 1, x0, x12, x13, x18, x105 => if x105 = true then (some (0, 0, 24)) else (if x18 = true then (if x0 < 0 then (some (wrap64 (-(wrap64 (x12))), wrap64 (-(wrap64 (x13))), 0)) else (some (wrap64 (-(wrap64 (x12))), wrap64 (x13), 0))) else (if x0 < 0 then (some (wrap64 (x12), wrap64 (-(wrap64 (x13))), 0)) else (some (wrap64 (x12), wrap64 (x13), 0))))
def scarabref02_Divide.j4 : Nat → Int → Int → Int → Bool → Bool → Option (Int × Int × Int)
  | 0, _, _, _, _, _ => none
  | k + 1, x0, x12, x13, x18, x105 => if x105 = true then (some (0, 0, 24)) else (if x18 = true then (if x0 < 0 then (some (wrap64 (-(wrap64 (x12))), wrap64 (-(wrap64 (x13))), 0)) else (some (wrap64 (-(wrap64 (x12))), wrap64 (x13), 0))) else (if x0 < 0 then (some (wrap64 (x12), wrap64 (-(wrap64 (x13))), 0)) else (some (wrap64 (x12), wrap64 (x13), 0))))
end
def scarabref02_Divide.f (k : Nat) (a0 : Int) (a1 : Int) (a2 : Int) : Option (Int × Int × Int) := if a2 = 0 then (some (0, 0, 20)) else (if a0 < 0 then (if a1 = 0 then (scarabref02_Divide.j0 k a0 a2 (IntKind.u64.wrap ((IntKind.u64.wrap (wrap64 ((-1) - a0))) + 1)) (IntKind.u64.wrap (-a1))) else (scarabref02_Divide.j0 k a0 a2 (IntKind.u64.wrap (wrap64 ((-1) - a0))) (IntKind.u64.wrap (-a1)))) else (scarabref02_Divide.j0 k a0 a2 (IntKind.u64.wrap (a0)) a1))
theorem scarabref02_Divide.mono_l : ∀ k, (∀ y0 y1 y2 y3, LeO (scarabref02_Divide.j0 k y0 y1 y2 y3) (scarabref02_Divide.j0 (k + 1) y0 y1 y2 y3)) ∧ (∀ y0 y1 y2 y3 y4, LeO (scarabref02_Divide.j1 k y0 y1 y2 y3 y4) (scarabref02_Divide.j1 (k + 1) y0 y1 y2 y3 y4)) ∧ (∀ y0 y1 y2 y3 y4 y5 y6 y7 y8, LeO (scarabref02_Divide.l0 k y0 y1 y2 y3 y4 y5 y6 y7 y8) (scarabref02_Divide.l0 (k + 1) y0 y1 y2 y3 y4 y5 y6 y7 y8)) ∧ (∀ y0 y1 y2 y3 y4, LeO (scarabref02_Divide.j3 k y0 y1 y2 y3 y4) (scarabref02_Divide.j3 (k + 1) y0 y1 y2 y3 y4)) ∧ (∀ y0 y1 y2 y3 y4, LeO (scarabref02_Divide.j4 k y0 y1 y2 y3 y4) (scarabref02_Divide.j4 (k + 1) y0 y1 y2 y3 y4))
  | 0 => ⟨fun _ _ _ _ r h => by simp [scarabref02_Divide.j0] at h, fun _ _ _ _ _ r h => by simp [scarabref02_Divide.j1] at h, fun _ _ _ _ _ _ _ _ _ r h => by simp [scarabref02_Divide.l0] at h, fun _ _ _ _ _ r h => by simp [scarabref02_Divide.j3] at h, fun _ _ _ _ _ r h => by simp [scarabref02_Divide.j4] at h⟩
  | k + 1 => by
    obtain ⟨ih0, ih1, ih2, ih3, ih4⟩ := scarabref02_Divide.mono_l k
    refine ⟨?_, ?_, ?_, ?_, ?_⟩
    · intro y0 y1 y2 y3
      unfold scarabref02_Divide.j0
      repeat' first
      | (with_reducible exact ih0 _ _ _ _)
      | (with_reducible exact ih1 _ _ _ _ _)
      | (with_reducible exact ih2 _ _ _ _ _ _ _ _ _)
      | (with_reducible exact ih3 _ _ _ _ _)
      | (with_reducible exact ih4 _ _ _ _ _)
      | (with_reducible exact LeO.refl _)
      | (with_reducible exact LeO.none _)
      | (with_reducible refine LeO.ite ?_ ?_)
      | (with_reducible refine LeO.bind ?_ (fun _ => ?_))
      | exact ih0 _ _ _ _
      | exact ih1 _ _ _ _ _
      | exact ih2 _ _ _ _ _ _ _ _ _
      | exact ih3 _ _ _ _ _
      | exact ih4 _ _ _ _ _
      | exact LeO.none _
      | refine LeO.ite ?_ ?_
      | refine LeO.bind ?_ (fun _ => ?_)
    · intro y0 y1 y2 y3 y4
      unfold scarabref02_Divide.j1
      repeat' first
      | (with_reducible exact ih0 _ _ _ _)
      | (with_reducible exact ih1 _ _ _ _ _)
      | (with_reducible exact ih2 _ _ _ _ _ _ _ _ _)
      | (with_reducible exact ih3 _ _ _ _ _)
      | (with_reducible exact ih4 _ _ _ _ _)
      | (with_reducible exact LeO.refl _)
      | (with_reducible exact LeO.none _)
      | (with_reducible refine LeO.ite ?_ ?_)
      | (with_reducible refine LeO.bind ?_ (fun _ => ?_))
      | exact ih0 _ _ _ _
      | exact ih1 _ _ _ _ _
      | exact ih2 _ _ _ _ _ _ _ _ _
      | exact ih3 _ _ _ _ _
      | exact ih4 _ _ _ _ _
      | exact LeO.none _
      | refine LeO.ite ?_ ?_
      | refine LeO.bind ?_ (fun _ => ?_)
    · intro y0 y1 y2 y3 y4 y5 y6 y7 y8
      unfold scarabref02_Divide.l0
      repeat' first
      | (with_reducible exact ih0 _ _ _ _)
      | (with_reducible exact ih1 _ _ _ _ _)
      | (with_reducible exact ih2 _ _ _ _ _ _ _ _ _)
      | (with_reducible exact ih3 _ _ _ _ _)
      | (with_reducible exact ih4 _ _ _ _ _)
      | (with_reducible exact LeO.refl _)
      | (with_reducible exact LeO.none _)
      | (with_reducible refine LeO.ite ?_ ?_)
      | (with_reducible refine LeO.bind ?_ (fun _ => ?_))
      | exact ih0 _ _ _ _
      | exact ih1 _ _ _ _ _
      | exact ih2 _ _ _ _ _ _ _ _ _
      | exact ih3 _ _ _ _ _
      | exact ih4 _ _ _ _ _
      | exact LeO.none _
      | refine LeO.ite ?_ ?_
      | refine LeO.bind ?_ (fun _ => ?_)
    · intro y0 y1 y2 y3 y4
      unfold scarabref02_Divide.j3
      repeat' first
      | (with_reducible exact ih0 _ _ _ _)
      | (with_reducible exact ih1 _ _ _ _ _)
      | (with_reducible exact ih2 _ _ _ _ _ _ _ _ _)
      | (with_reducible exact ih3 _ _ _ _ _)
      | (with_reducible exact ih4 _ _ _ _ _)
      | (with_reducible exact LeO.refl _)
      | (with_reducible exact LeO.none _)
      | (with_reducible refine LeO.ite ?_ ?_)
      | (with_reducible refine LeO.bind ?_ (fun _ => ?_))
      | exact ih0 _ _ _ _
      | exact ih1 _ _ _ _ _
      | exact ih2 _ _ _ _ _ _ _ _ _
      | exact ih3 _ _ _ _ _
      | exact ih4 _ _ _ _ _
      | exact LeO.none _
      | refine LeO.ite ?_ ?_
      | refine LeO.bind ?_ (fun _ => ?_)
    · intro y0 y1 y2 y3 y4
      unfold scarabref02_Divide.j4
      repeat' first
      | (with_reducible exact ih0 _ _ _ _)
      | (with_reducible exact ih1 _ _ _ _ _)
      | (with_reducible exact ih2 _ _ _ _ _ _ _ _ _)
      | (with_reducible exact ih3 _ _ _ _ _)
      | (with_reducible exact ih4 _ _ _ _ _)
      | (with_reducible exact LeO.refl _)
      | (with_reducible exact LeO.none _)
      | (with_reducible refine LeO.ite ?_ ?_)
      | (with_reducible refine LeO.bind ?_ (fun _ => ?_))
      | exact ih0 _ _ _ _
      | exact ih1 _ _ _ _ _
      | exact ih2 _ _ _ _ _ _ _ _ _
      | exact ih3 _ _ _ _ _
      | exact ih4 _ _ _ _ _
      | exact LeO.none _
      | refine LeO.ite ?_ ?_
      | refine LeO.bind ?_ (fun _ => ?_)
theorem scarabref02_Divide.mono : ∀ a0 a1 a2 k, LeO (scarabref02_Divide.f k a0 a1 a2) (scarabref02_Divide.f (k + 1) a0 a1 a2) := by
  intro a0 a1 a2 k
  obtain ⟨ih0, ih1, ih2, ih3, ih4⟩ := scarabref02_Divide.mono_l k
  unfold scarabref02_Divide.f
  repeat' first
      | (with_reducible exact ih0 _ _ _ _)
      | (with_reducible exact ih1 _ _ _ _ _)
      | (with_reducible exact ih2 _ _ _ _ _ _ _ _ _)
      | (with_reducible exact ih3 _ _ _ _ _)
      | (with_reducible exact ih4 _ _ _ _ _)
      | (with_reducible exact LeO.refl _)
      | (with_reducible exact LeO.none _)
      | (with_reducible refine LeO.ite ?_ ?_)
      | (with_reducible refine LeO.bind ?_ (fun _ => ?_))
      | exact ih0 _ _ _ _
      | exact ih1 _ _ _ _ _
      | exact ih2 _ _ _ _ _ _ _ _ _
      | exact ih3 _ _ _ _ _
      | exact ih4 _ _ _ _ _
      | exact LeO.none _
      | refine LeO.ite ?_ ?_
      | refine LeO.bind ?_ (fun _ => ?_)
set_option maxHeartbeats 8000000 in
set_option maxRecDepth 100000 in
theorem scarabref02_Divide.calls (k : Nat) (a0 : Int) (a1 : Int) (a2 : Int) (r1 : Int) (r2 : Int) (r3 : Int) (w : World) (h : scarabref02_Divide.f k a0 a1 a2 = some (r1, r2, r3)) :
    Calls Tryd.prog 37 #[.int .i64 a0, .int .u64 a1, .int .i64 a2] w fun e w' => e = .returned (.tuple #[.int .i64 r1, .int .i64 r2, .int .i64 r3]) ∧ Drawn0 w w' := by
  have H : (if a2 = 0 then (some (0, 0, 20)) else (if a0 < 0 then (if a1 = 0 then (scarabref02_Divide.j0 k a0 a2 (IntKind.u64.wrap ((IntKind.u64.wrap (wrap64 ((-1) - a0))) + 1)) (IntKind.u64.wrap (-a1))) else (scarabref02_Divide.j0 k a0 a2 (IntKind.u64.wrap (wrap64 ((-1) - a0))) (IntKind.u64.wrap (-a1)))) else (scarabref02_Divide.j0 k a0 a2 (IntKind.u64.wrap (a0)) a1))) = some (r1, r2, r3) := h
  clear h
  by_cases c4 : a2 = 0
  · rw [if_pos c4] at H
    have c4b0 : (a2 == 0) = true := beq_iff_eq.mpr c4
    have c4b1 : (a2 != 0) = false := bne_eq_false_iff_eq.mpr c4
    clear c4
    simp only [Option.some.injEq, Prod.mk.injEq] at H
    obtain ⟨rfl, rfl, rfl⟩ := H
    go_enter Tryd.func37, Tryd.ntmps37
    go_wp2
    go_ret3
    exact ⟨by first | rfl | (simp; done) | (simp [*]; done), by repeat (first | exact Drawn0.refl _ | apply Drawn0.step)⟩
  · rw [if_neg c4] at H
    have c4b0 : (a2 == 0) = false := beq_eq_false_iff_ne.mpr c4
    have c4b1 : (a2 != 0) = true := bne_iff_ne.mpr c4
    have HC5 := Aside0.mk H
    clear H
    go_enter Tryd.func37, Tryd.ntmps37
    go_upto_if 27 with (fail)
    go_cut [9, 10] (fun v9 v10 wc => ∃ (kq : Nat) (x9_4 : Int) (x10_4 : Int), v9 = .int .u64 x9_4 ∧ v10 = .int .u64 x10_4 ∧ Aside0 (scarabref02_Divide.j0 kq a0 a2 x9_4 x10_4 = some (r1, r2, r3)) ∧ Aside0 (kq ≤ k) ∧ Drawn0 w wc)
    case first =>
      have H := HC5.out
      clear HC5
      by_cases c6 : a0 < 0
      · rw [if_pos c6] at H
        have c6b0 : decide (a0 < 0) = true := decide_eq_true c6
        clear c6
        (first | rw [c6b0] | (simp only [i64_w, i32_w]; rw [c6b0]) | skip)
        by_cases c7 : a1 = 0
        · rw [if_pos c7] at H
          have c7b0 : (a1 == 0) = true := beq_iff_eq.mpr c7
          have c7b1 : (a1 != 0) = false := bne_eq_false_iff_eq.mpr c7
          clear c7
          have H' := Aside0.mk H
          clear H
          go_wp2
          go_meet
          case rel => exact ⟨_, (IntKind.u64.wrap ((IntKind.u64.wrap (wrap64 ((-1) - a0))) + 1)), (IntKind.u64.wrap (-a1)), (by first | rfl | (simp; done) | (simp [*]; done)), (by first | rfl | (simp; done) | (simp [*]; done)), H', ⟨by first | omega | exact Nat.le_refl _⟩, by repeat (first | exact Drawn0.refl _ | apply Drawn0.step)⟩
        · rw [if_neg c7] at H
          have c7b0 : (a1 == 0) = false := beq_eq_false_iff_ne.mpr c7
          have c7b1 : (a1 != 0) = true := bne_iff_ne.mpr c7
          have H' := Aside0.mk H
          clear H
          go_wp2
          go_meet
          case rel => exact ⟨_, (IntKind.u64.wrap (wrap64 ((-1) - a0))), (IntKind.u64.wrap (-a1)), (by first | rfl | (simp; done) | (simp [*]; done)), (by first | rfl | (simp; done) | (simp [*]; done)), H', ⟨by first | omega | exact Nat.le_refl _⟩, by repeat (first | exact Drawn0.refl _ | apply Drawn0.step)⟩
      · rw [if_neg c6] at H
        have c6b0 : decide (a0 < 0) = false := decide_eq_false c6
        clear c6
        (first | rw [c6b0] | (simp only [i64_w, i32_w]; rw [c6b0]) | skip)
        have H' := Aside0.mk H
        clear H
        go_wp2
        go_meet
        case rel => exact ⟨_, (IntKind.u64.wrap (a0)), (a1), (by first | rfl | (simp; done) | (simp [*]; done)), (by first | rfl | (simp; done) | (simp [*]; done)), H', ⟨by first | omega | exact Nat.le_refl _⟩, by repeat (first | exact Drawn0.refl _ | apply Drawn0.step)⟩
    case rest =>
      clear HC5
      try clear p2
      try clear c3
      try clear c4
      try clear c4b0
      try clear c4b1
      try clear c6
      try clear c6b0
      try clear p6
      try clear c7
      try clear c7b0
      try clear c7b1
      obtain ⟨kq, x9_4, x10_4, rfl, rfl, HA, HJ4, ⟨mc4, rfl⟩⟩ := hcut
      cases kq with
      | zero => exact absurd HA.out (by simp [scarabref02_Divide.j0])
      | succ kj4 =>
        have H := HA.out
        clear HA
        simp only [scarabref02_Divide.j0] at H
        have HC8 := Aside0.mk H
        clear H
        go_upto_if 40 with (fail)
        go_cut [11] (fun v11 wc => ∃ (kq : Nat) (x11_7 : Int), v11 = .int .u64 x11_7 ∧ Aside0 (scarabref02_Divide.j1 kq a0 a2 x9_4 x10_4 x11_7 = some (r1, r2, r3)) ∧ Aside0 (kq ≤ kj4) ∧ Drawn0 w wc)
        case first =>
          have H := HC8.out
          clear HC8
          by_cases c9 : a2 < 0
          · rw [if_pos c9] at H
            have c9b0 : decide (a2 < 0) = true := decide_eq_true c9
            clear c9
            (first | rw [c9b0] | (simp only [i64_w, i32_w]; rw [c9b0]) | skip)
            have H' := Aside0.mk H
            clear H
            go_wp2
            go_meet
            case rel => exact ⟨_, (IntKind.u64.wrap (wrap64 (-a2))), (by first | rfl | (simp; done) | (simp [*]; done)), H', ⟨by have := HJ4.out; first | omega | exact Nat.le_refl _⟩, by repeat (first | exact Drawn0.refl _ | apply Drawn0.step)⟩
          · rw [if_neg c9] at H
            have c9b0 : decide (a2 < 0) = false := decide_eq_false c9
            clear c9
            (first | rw [c9b0] | (simp only [i64_w, i32_w]; rw [c9b0]) | skip)
            have H' := Aside0.mk H
            clear H
            go_wp2
            go_meet
            case rel => exact ⟨_, (IntKind.u64.wrap (a2)), (by first | rfl | (simp; done) | (simp [*]; done)), H', ⟨by have := HJ4.out; first | omega | exact Nat.le_refl _⟩, by repeat (first | exact Drawn0.refl _ | apply Drawn0.step)⟩
        case rest =>
          clear HC8
          try clear p2
          try clear c3
          try clear c4
          try clear c4b0
          try clear c4b1
          try clear c6
          try clear c6b0
          try clear p6
          try clear c7
          try clear c7b0
          try clear c7b1
          try clear c9
          try clear c9b0
          try clear p2
          try clear p6
          obtain ⟨kq, x11_7, rfl, HA, HJ7, ⟨mc7, rfl⟩⟩ := hcut
          cases kq with
          | zero => exact absurd HA.out (by simp [scarabref02_Divide.j1])
          | succ kj7 =>
            have H := HA.out
            clear HA
            simp only [scarabref02_Divide.j1] at H
            have H' := Aside0.mk H
            clear H
            go_wp2
            go_loopg [12, 13, 14, 15] kj7 (fun kq v12 v13 v14 v15 w' => ∃ (x12_3 : Int) (x13_3 : Int) (x14_3 : Bool) (x15_3 : Int), v12 = .int .u64 x12_3 ∧ v13 = .int .u64 x13_3 ∧ v14 = .bool x14_3 ∧ v15 = .int .i64 x15_3 ∧ Aside0 (scarabref02_Divide.l0 kq a0 a2 x9_4 x10_4 x11_7 x12_3 x13_3 x14_3 x15_3 = some (r1, r2, r3)) ∧ Aside0 (kq ≤ kj7) ∧ Drawn0 w w')
            case atStart => exact ⟨(0), (0), (false), (127), (by first | rfl | (simp; done) | (simp [*]; done)), (by first | rfl | (simp; done) | (simp [*]; done)), (by first | rfl | (simp; done) | (simp [*]; done)), (by first | rfl | (simp; done) | (simp [*]; done)), H', ⟨Nat.le_refl _⟩, by repeat (first | exact Drawn0.refl _ | apply Drawn0.step)⟩
            case round =>
              clear H'
              try clear p2
              try clear c3
              try clear c4
              try clear c4b0
              try clear c4b1
              try clear c6
              try clear c6b0
              try clear p6
              try clear c7
              try clear c7b0
              try clear c7b1
              try clear c9
              try clear c9b0
              try clear p2
              try clear p6
              obtain ⟨x12_3, x13_3, x14_3, x15_3, rfl, rfl, rfl, rfl, HA, HK3, ⟨m3, rfl⟩⟩ := hrel
              cases gk with
              | zero => exact absurd HA.out (by simp [scarabref02_Divide.l0])
              | succ k3 =>
                have H := HA.out
                clear HA
                simp only [scarabref02_Divide.l0] at H
                by_cases c10 : x15_3 ≥ 0
                · rw [if_pos c10] at H
                  have c10b0 : decide (0 ≤ x15_3) = true := decide_eq_true c10
                  clear c10
                  obtain ⟨ji11, hji11⟩ : ∃ j_ : Int, (IntKind.u64.wrap (Int.tmod x15_3 64)) = j_ := ⟨_, rfl⟩
                  replace H : (if 0 ≤ (ji11) then (if x15_3 > 63 then (if 0 ≤ (IntKind.u64.wrap (wrap64 (x15_3 - 64))) then (if x14_3 = true then (if (x13_3 / 9223372036854775808) = 1 then (scarabref02_Divide.l0 k3 a0 a2 x9_4 x10_4 x11_7 (IntKind.u64.wrap ((IntKind.u64.wrap (x12_3 * 2)) + 1)) (IntKind.u64.wrap ((IntKind.u64.wrap ((IntKind.u64.wrap (x13_3 * 2)) + (Go.bits .and .u64 (shr .u64 x9_4 (IntKind.u64.wrap (wrap64 (x15_3 - 64)))) 1))) - x11_7)) true (wrap64 (x15_3 - 1))) else (if (IntKind.u64.wrap ((IntKind.u64.wrap (x13_3 * 2)) + (Go.bits .and .u64 (shr .u64 x9_4 (IntKind.u64.wrap (wrap64 (x15_3 - 64)))) 1))) ≥ x11_7 then (scarabref02_Divide.l0 k3 a0 a2 x9_4 x10_4 x11_7 (IntKind.u64.wrap ((IntKind.u64.wrap (x12_3 * 2)) + 1)) (IntKind.u64.wrap ((IntKind.u64.wrap ((IntKind.u64.wrap (x13_3 * 2)) + (Go.bits .and .u64 (shr .u64 x9_4 (IntKind.u64.wrap (wrap64 (x15_3 - 64)))) 1))) - x11_7)) true (wrap64 (x15_3 - 1))) else (scarabref02_Divide.l0 k3 a0 a2 x9_4 x10_4 x11_7 (IntKind.u64.wrap (x12_3 * 2)) (IntKind.u64.wrap ((IntKind.u64.wrap (x13_3 * 2)) + (Go.bits .and .u64 (shr .u64 x9_4 (IntKind.u64.wrap (wrap64 (x15_3 - 64)))) 1))) true (wrap64 (x15_3 - 1))))) else (if (x12_3 / 9223372036854775808) = 1 then (if (x13_3 / 9223372036854775808) = 1 then (scarabref02_Divide.l0 k3 a0 a2 x9_4 x10_4 x11_7 (IntKind.u64.wrap ((IntKind.u64.wrap (x12_3 * 2)) + 1)) (IntKind.u64.wrap ((IntKind.u64.wrap ((IntKind.u64.wrap (x13_3 * 2)) + (Go.bits .and .u64 (shr .u64 x9_4 (IntKind.u64.wrap (wrap64 (x15_3 - 64)))) 1))) - x11_7)) true (wrap64 (x15_3 - 1))) else (if (IntKind.u64.wrap ((IntKind.u64.wrap (x13_3 * 2)) + (Go.bits .and .u64 (shr .u64 x9_4 (IntKind.u64.wrap (wrap64 (x15_3 - 64)))) 1))) ≥ x11_7 then (scarabref02_Divide.l0 k3 a0 a2 x9_4 x10_4 x11_7 (IntKind.u64.wrap ((IntKind.u64.wrap (x12_3 * 2)) + 1)) (IntKind.u64.wrap ((IntKind.u64.wrap ((IntKind.u64.wrap (x13_3 * 2)) + (Go.bits .and .u64 (shr .u64 x9_4 (IntKind.u64.wrap (wrap64 (x15_3 - 64)))) 1))) - x11_7)) true (wrap64 (x15_3 - 1))) else (scarabref02_Divide.l0 k3 a0 a2 x9_4 x10_4 x11_7 (IntKind.u64.wrap (x12_3 * 2)) (IntKind.u64.wrap ((IntKind.u64.wrap (x13_3 * 2)) + (Go.bits .and .u64 (shr .u64 x9_4 (IntKind.u64.wrap (wrap64 (x15_3 - 64)))) 1))) true (wrap64 (x15_3 - 1))))) else (if (x13_3 / 9223372036854775808) = 1 then (scarabref02_Divide.l0 k3 a0 a2 x9_4 x10_4 x11_7 (IntKind.u64.wrap ((IntKind.u64.wrap (x12_3 * 2)) + 1)) (IntKind.u64.wrap ((IntKind.u64.wrap ((IntKind.u64.wrap (x13_3 * 2)) + (Go.bits .and .u64 (shr .u64 x9_4 (IntKind.u64.wrap (wrap64 (x15_3 - 64)))) 1))) - x11_7)) false (wrap64 (x15_3 - 1))) else (if (IntKind.u64.wrap ((IntKind.u64.wrap (x13_3 * 2)) + (Go.bits .and .u64 (shr .u64 x9_4 (IntKind.u64.wrap (wrap64 (x15_3 - 64)))) 1))) ≥ x11_7 then (scarabref02_Divide.l0 k3 a0 a2 x9_4 x10_4 x11_7 (IntKind.u64.wrap ((IntKind.u64.wrap (x12_3 * 2)) + 1)) (IntKind.u64.wrap ((IntKind.u64.wrap ((IntKind.u64.wrap (x13_3 * 2)) + (Go.bits .and .u64 (shr .u64 x9_4 (IntKind.u64.wrap (wrap64 (x15_3 - 64)))) 1))) - x11_7)) false (wrap64 (x15_3 - 1))) else (scarabref02_Divide.l0 k3 a0 a2 x9_4 x10_4 x11_7 (IntKind.u64.wrap (x12_3 * 2)) (IntKind.u64.wrap ((IntKind.u64.wrap (x13_3 * 2)) + (Go.bits .and .u64 (shr .u64 x9_4 (IntKind.u64.wrap (wrap64 (x15_3 - 64)))) 1))) false (wrap64 (x15_3 - 1))))))) else (none)) else (if x14_3 = true then (if (x13_3 / 9223372036854775808) = 1 then (scarabref02_Divide.l0 k3 a0 a2 x9_4 x10_4 x11_7 (IntKind.u64.wrap ((IntKind.u64.wrap (x12_3 * 2)) + 1)) (IntKind.u64.wrap ((IntKind.u64.wrap ((IntKind.u64.wrap (x13_3 * 2)) + (Go.bits .and .u64 (shr .u64 x10_4 (ji11)) 1))) - x11_7)) true (wrap64 (x15_3 - 1))) else (if (IntKind.u64.wrap ((IntKind.u64.wrap (x13_3 * 2)) + (Go.bits .and .u64 (shr .u64 x10_4 (ji11)) 1))) ≥ x11_7 then (scarabref02_Divide.l0 k3 a0 a2 x9_4 x10_4 x11_7 (IntKind.u64.wrap ((IntKind.u64.wrap (x12_3 * 2)) + 1)) (IntKind.u64.wrap ((IntKind.u64.wrap ((IntKind.u64.wrap (x13_3 * 2)) + (Go.bits .and .u64 (shr .u64 x10_4 (ji11)) 1))) - x11_7)) true (wrap64 (x15_3 - 1))) else (scarabref02_Divide.l0 k3 a0 a2 x9_4 x10_4 x11_7 (IntKind.u64.wrap (x12_3 * 2)) (IntKind.u64.wrap ((IntKind.u64.wrap (x13_3 * 2)) + (Go.bits .and .u64 (shr .u64 x10_4 (ji11)) 1))) true (wrap64 (x15_3 - 1))))) else (if (x12_3 / 9223372036854775808) = 1 then (if (x13_3 / 9223372036854775808) = 1 then (scarabref02_Divide.l0 k3 a0 a2 x9_4 x10_4 x11_7 (IntKind.u64.wrap ((IntKind.u64.wrap (x12_3 * 2)) + 1)) (IntKind.u64.wrap ((IntKind.u64.wrap ((IntKind.u64.wrap (x13_3 * 2)) + (Go.bits .and .u64 (shr .u64 x10_4 (ji11)) 1))) - x11_7)) true (wrap64 (x15_3 - 1))) else (if (IntKind.u64.wrap ((IntKind.u64.wrap (x13_3 * 2)) + (Go.bits .and .u64 (shr .u64 x10_4 (ji11)) 1))) ≥ x11_7 then (scarabref02_Divide.l0 k3 a0 a2 x9_4 x10_4 x11_7 (IntKind.u64.wrap ((IntKind.u64.wrap (x12_3 * 2)) + 1)) (IntKind.u64.wrap ((IntKind.u64.wrap ((IntKind.u64.wrap (x13_3 * 2)) + (Go.bits .and .u64 (shr .u64 x10_4 (ji11)) 1))) - x11_7)) true (wrap64 (x15_3 - 1))) else (scarabref02_Divide.l0 k3 a0 a2 x9_4 x10_4 x11_7 (IntKind.u64.wrap (x12_3 * 2)) (IntKind.u64.wrap ((IntKind.u64.wrap (x13_3 * 2)) + (Go.bits .and .u64 (shr .u64 x10_4 (ji11)) 1))) true (wrap64 (x15_3 - 1))))) else (if (x13_3 / 9223372036854775808) = 1 then (scarabref02_Divide.l0 k3 a0 a2 x9_4 x10_4 x11_7 (IntKind.u64.wrap ((IntKind.u64.wrap (x12_3 * 2)) + 1)) (IntKind.u64.wrap ((IntKind.u64.wrap ((IntKind.u64.wrap (x13_3 * 2)) + (Go.bits .and .u64 (shr .u64 x10_4 (ji11)) 1))) - x11_7)) false (wrap64 (x15_3 - 1))) else (if (IntKind.u64.wrap ((IntKind.u64.wrap (x13_3 * 2)) + (Go.bits .and .u64 (shr .u64 x10_4 (ji11)) 1))) ≥ x11_7 then (scarabref02_Divide.l0 k3 a0 a2 x9_4 x10_4 x11_7 (IntKind.u64.wrap ((IntKind.u64.wrap (x12_3 * 2)) + 1)) (IntKind.u64.wrap ((IntKind.u64.wrap ((IntKind.u64.wrap (x13_3 * 2)) + (Go.bits .and .u64 (shr .u64 x10_4 (ji11)) 1))) - x11_7)) false (wrap64 (x15_3 - 1))) else (scarabref02_Divide.l0 k3 a0 a2 x9_4 x10_4 x11_7 (IntKind.u64.wrap (x12_3 * 2)) (IntKind.u64.wrap ((IntKind.u64.wrap (x13_3 * 2)) + (Go.bits .and .u64 (shr .u64 x10_4 (ji11)) 1))) false (wrap64 (x15_3 - 1)))))))) else (none)) = some (r1, r2, r3) := by first | (rw [hji11] at H; exact H) | (simp only [hji11] at H ⊢; exact H)
                  by_cases c12 : 0 ≤ (ji11)
                  · rw [if_pos c12] at H
                    have c12b0 := eq_true c12
                    have c12b1 : decide (0 ≤ (ji11)) = true := decide_eq_true c12
                    clear c12
                    obtain ⟨ji13, hji13⟩ : ∃ j_ : Int, (shr .u64 x10_4 (ji11)) = j_ := ⟨_, rfl⟩
                    replace H : (if x15_3 > 63 then (if 0 ≤ (IntKind.u64.wrap (wrap64 (x15_3 - 64))) then (if x14_3 = true then (if (x13_3 / 9223372036854775808) = 1 then (scarabref02_Divide.l0 k3 a0 a2 x9_4 x10_4 x11_7 (IntKind.u64.wrap ((IntKind.u64.wrap (x12_3 * 2)) + 1)) (IntKind.u64.wrap ((IntKind.u64.wrap ((IntKind.u64.wrap (x13_3 * 2)) + (Go.bits .and .u64 (shr .u64 x9_4 (IntKind.u64.wrap (wrap64 (x15_3 - 64)))) 1))) - x11_7)) true (wrap64 (x15_3 - 1))) else (if (IntKind.u64.wrap ((IntKind.u64.wrap (x13_3 * 2)) + (Go.bits .and .u64 (shr .u64 x9_4 (IntKind.u64.wrap (wrap64 (x15_3 - 64)))) 1))) ≥ x11_7 then (scarabref02_Divide.l0 k3 a0 a2 x9_4 x10_4 x11_7 (IntKind.u64.wrap ((IntKind.u64.wrap (x12_3 * 2)) + 1)) (IntKind.u64.wrap ((IntKind.u64.wrap ((IntKind.u64.wrap (x13_3 * 2)) + (Go.bits .and .u64 (shr .u64 x9_4 (IntKind.u64.wrap (wrap64 (x15_3 - 64)))) 1))) - x11_7)) true (wrap64 (x15_3 - 1))) else (scarabref02_Divide.l0 k3 a0 a2 x9_4 x10_4 x11_7 (IntKind.u64.wrap (x12_3 * 2)) (IntKind.u64.wrap ((IntKind.u64.wrap (x13_3 * 2)) + (Go.bits .and .u64 (shr .u64 x9_4 (IntKind.u64.wrap (wrap64 (x15_3 - 64)))) 1))) true (wrap64 (x15_3 - 1))))) else (if (x12_3 / 9223372036854775808) = 1 then (if (x13_3 / 9223372036854775808) = 1 then (scarabref02_Divide.l0 k3 a0 a2 x9_4 x10_4 x11_7 (IntKind.u64.wrap ((IntKind.u64.wrap (x12_3 * 2)) + 1)) (IntKind.u64.wrap ((IntKind.u64.wrap ((IntKind.u64.wrap (x13_3 * 2)) + (Go.bits .and .u64 (shr .u64 x9_4 (IntKind.u64.wrap (wrap64 (x15_3 - 64)))) 1))) - x11_7)) true (wrap64 (x15_3 - 1))) else (if (IntKind.u64.wrap ((IntKind.u64.wrap (x13_3 * 2)) + (Go.bits .and .u64 (shr .u64 x9_4 (IntKind.u64.wrap (wrap64 (x15_3 - 64)))) 1))) ≥ x11_7 then (scarabref02_Divide.l0 k3 a0 a2 x9_4 x10_4 x11_7 (IntKind.u64.wrap ((IntKind.u64.wrap (x12_3 * 2)) + 1)) (IntKind.u64.wrap ((IntKind.u64.wrap ((IntKind.u64.wrap (x13_3 * 2)) + (Go.bits .and .u64 (shr .u64 x9_4 (IntKind.u64.wrap (wrap64 (x15_3 - 64)))) 1))) - x11_7)) true (wrap64 (x15_3 - 1))) else (scarabref02_Divide.l0 k3 a0 a2 x9_4 x10_4 x11_7 (IntKind.u64.wrap (x12_3 * 2)) (IntKind.u64.wrap ((IntKind.u64.wrap (x13_3 * 2)) + (Go.bits .and .u64 (shr .u64 x9_4 (IntKind.u64.wrap (wrap64 (x15_3 - 64)))) 1))) true (wrap64 (x15_3 - 1))))) else (if (x13_3 / 9223372036854775808) = 1 then (scarabref02_Divide.l0 k3 a0 a2 x9_4 x10_4 x11_7 (IntKind.u64.wrap ((IntKind.u64.wrap (x12_3 * 2)) + 1)) (IntKind.u64.wrap ((IntKind.u64.wrap ((IntKind.u64.wrap (x13_3 * 2)) + (Go.bits .and .u64 (shr .u64 x9_4 (IntKind.u64.wrap (wrap64 (x15_3 - 64)))) 1))) - x11_7)) false (wrap64 (x15_3 - 1))) else (if (IntKind.u64.wrap ((IntKind.u64.wrap (x13_3 * 2)) + (Go.bits .and .u64 (shr .u64 x9_4 (IntKind.u64.wrap (wrap64 (x15_3 - 64)))) 1))) ≥ x11_7 then (scarabref02_Divide.l0 k3 a0 a2 x9_4 x10_4 x11_7 (IntKind.u64.wrap ((IntKind.u64.wrap (x12_3 * 2)) + 1)) (IntKind.u64.wrap ((IntKind.u64.wrap ((IntKind.u64.wrap (x13_3 * 2)) + (Go.bits .and .u64 (shr .u64 x9_4 (IntKind.u64.wrap (wrap64 (x15_3 - 64)))) 1))) - x11_7)) false (wrap64 (x15_3 - 1))) else (scarabref02_Divide.l0 k3 a0 a2 x9_4 x10_4 x11_7 (IntKind.u64.wrap (x12_3 * 2)) (IntKind.u64.wrap ((IntKind.u64.wrap (x13_3 * 2)) + (Go.bits .and .u64 (shr .u64 x9_4 (IntKind.u64.wrap (wrap64 (x15_3 - 64)))) 1))) false (wrap64 (x15_3 - 1))))))) else (none)) else (if x14_3 = true then (if (x13_3 / 9223372036854775808) = 1 then (scarabref02_Divide.l0 k3 a0 a2 x9_4 x10_4 x11_7 (IntKind.u64.wrap ((IntKind.u64.wrap (x12_3 * 2)) + 1)) (IntKind.u64.wrap ((IntKind.u64.wrap ((IntKind.u64.wrap (x13_3 * 2)) + (Go.bits .and .u64 (ji13) 1))) - x11_7)) true (wrap64 (x15_3 - 1))) else (if (IntKind.u64.wrap ((IntKind.u64.wrap (x13_3 * 2)) + (Go.bits .and .u64 (ji13) 1))) ≥ x11_7 then (scarabref02_Divide.l0 k3 a0 a2 x9_4 x10_4 x11_7 (IntKind.u64.wrap ((IntKind.u64.wrap (x12_3 * 2)) + 1)) (IntKind.u64.wrap ((IntKind.u64.wrap ((IntKind.u64.wrap (x13_3 * 2)) + (Go.bits .and .u64 (ji13) 1))) - x11_7)) true (wrap64 (x15_3 - 1))) else (scarabref02_Divide.l0 k3 a0 a2 x9_4 x10_4 x11_7 (IntKind.u64.wrap (x12_3 * 2)) (IntKind.u64.wrap ((IntKind.u64.wrap (x13_3 * 2)) + (Go.bits .and .u64 (ji13) 1))) true (wrap64 (x15_3 - 1))))) else (if (x12_3 / 9223372036854775808) = 1 then (if (x13_3 / 9223372036854775808) = 1 then (scarabref02_Divide.l0 k3 a0 a2 x9_4 x10_4 x11_7 (IntKind.u64.wrap ((IntKind.u64.wrap (x12_3 * 2)) + 1)) (IntKind.u64.wrap ((IntKind.u64.wrap ((IntKind.u64.wrap (x13_3 * 2)) + (Go.bits .and .u64 (ji13) 1))) - x11_7)) true (wrap64 (x15_3 - 1))) else (if (IntKind.u64.wrap ((IntKind.u64.wrap (x13_3 * 2)) + (Go.bits .and .u64 (ji13) 1))) ≥ x11_7 then (scarabref02_Divide.l0 k3 a0 a2 x9_4 x10_4 x11_7 (IntKind.u64.wrap ((IntKind.u64.wrap (x12_3 * 2)) + 1)) (IntKind.u64.wrap ((IntKind.u64.wrap ((IntKind.u64.wrap (x13_3 * 2)) + (Go.bits .and .u64 (ji13) 1))) - x11_7)) true (wrap64 (x15_3 - 1))) else (scarabref02_Divide.l0 k3 a0 a2 x9_4 x10_4 x11_7 (IntKind.u64.wrap (x12_3 * 2)) (IntKind.u64.wrap ((IntKind.u64.wrap (x13_3 * 2)) + (Go.bits .and .u64 (ji13) 1))) true (wrap64 (x15_3 - 1))))) else (if (x13_3 / 9223372036854775808) = 1 then (scarabref02_Divide.l0 k3 a0 a2 x9_4 x10_4 x11_7 (IntKind.u64.wrap ((IntKind.u64.wrap (x12_3 * 2)) + 1)) (IntKind.u64.wrap ((IntKind.u64.wrap ((IntKind.u64.wrap (x13_3 * 2)) + (Go.bits .and .u64 (ji13) 1))) - x11_7)) false (wrap64 (x15_3 - 1))) else (if (IntKind.u64.wrap ((IntKind.u64.wrap (x13_3 * 2)) + (Go.bits .and .u64 (ji13) 1))) ≥ x11_7 then (scarabref02_Divide.l0 k3 a0 a2 x9_4 x10_4 x11_7 (IntKind.u64.wrap ((IntKind.u64.wrap (x12_3 * 2)) + 1)) (IntKind.u64.wrap ((IntKind.u64.wrap ((IntKind.u64.wrap (x13_3 * 2)) + (Go.bits .and .u64 (ji13) 1))) - x11_7)) false (wrap64 (x15_3 - 1))) else (scarabref02_Divide.l0 k3 a0 a2 x9_4 x10_4 x11_7 (IntKind.u64.wrap (x12_3 * 2)) (IntKind.u64.wrap ((IntKind.u64.wrap (x13_3 * 2)) + (Go.bits .and .u64 (ji13) 1))) false (wrap64 (x15_3 - 1)))))))) = some (r1, r2, r3) := by first | (rw [hji13] at H; exact H) | (simp only [hji13] at H ⊢; exact H)
                    have hji13_ : (x10_4 / 2 ^ min (ji11).toNat 64) = ji13 := hji13
                    have hji13z : (ji11) ≤ 64 → (x10_4 / 2 ^ (ji11).toNat) = ji13 := shr_small hji13
                    by_cases c14 : x15_3 > 63
                    · rw [if_pos c14] at H
                      have c14b0 : decide (63 < x15_3) = true := decide_eq_true c14
                      clear c14
                      obtain ⟨ji15, hji15⟩ : ∃ j_ : Int, (IntKind.u64.wrap (wrap64 (x15_3 - 64))) = j_ := ⟨_, rfl⟩
                      replace H : (if 0 ≤ (ji15) then (if x14_3 = true then (if (x13_3 / 9223372036854775808) = 1 then (scarabref02_Divide.l0 k3 a0 a2 x9_4 x10_4 x11_7 (IntKind.u64.wrap ((IntKind.u64.wrap (x12_3 * 2)) + 1)) (IntKind.u64.wrap ((IntKind.u64.wrap ((IntKind.u64.wrap (x13_3 * 2)) + (Go.bits .and .u64 (shr .u64 x9_4 (ji15)) 1))) - x11_7)) true (wrap64 (x15_3 - 1))) else (if (IntKind.u64.wrap ((IntKind.u64.wrap (x13_3 * 2)) + (Go.bits .and .u64 (shr .u64 x9_4 (ji15)) 1))) ≥ x11_7 then (scarabref02_Divide.l0 k3 a0 a2 x9_4 x10_4 x11_7 (IntKind.u64.wrap ((IntKind.u64.wrap (x12_3 * 2)) + 1)) (IntKind.u64.wrap ((IntKind.u64.wrap ((IntKind.u64.wrap (x13_3 * 2)) + (Go.bits .and .u64 (shr .u64 x9_4 (ji15)) 1))) - x11_7)) true (wrap64 (x15_3 - 1))) else (scarabref02_Divide.l0 k3 a0 a2 x9_4 x10_4 x11_7 (IntKind.u64.wrap (x12_3 * 2)) (IntKind.u64.wrap ((IntKind.u64.wrap (x13_3 * 2)) + (Go.bits .and .u64 (shr .u64 x9_4 (ji15)) 1))) true (wrap64 (x15_3 - 1))))) else (if (x12_3 / 9223372036854775808) = 1 then (if (x13_3 / 9223372036854775808) = 1 then (scarabref02_Divide.l0 k3 a0 a2 x9_4 x10_4 x11_7 (IntKind.u64.wrap ((IntKind.u64.wrap (x12_3 * 2)) + 1)) (IntKind.u64.wrap ((IntKind.u64.wrap ((IntKind.u64.wrap (x13_3 * 2)) + (Go.bits .and .u64 (shr .u64 x9_4 (ji15)) 1))) - x11_7)) true (wrap64 (x15_3 - 1))) else (if (IntKind.u64.wrap ((IntKind.u64.wrap (x13_3 * 2)) + (Go.bits .and .u64 (shr .u64 x9_4 (ji15)) 1))) ≥ x11_7 then (scarabref02_Divide.l0 k3 a0 a2 x9_4 x10_4 x11_7 (IntKind.u64.wrap ((IntKind.u64.wrap (x12_3 * 2)) + 1)) (IntKind.u64.wrap ((IntKind.u64.wrap ((IntKind.u64.wrap (x13_3 * 2)) + (Go.bits .and .u64 (shr .u64 x9_4 (ji15)) 1))) - x11_7)) true (wrap64 (x15_3 - 1))) else (scarabref02_Divide.l0 k3 a0 a2 x9_4 x10_4 x11_7 (IntKind.u64.wrap (x12_3 * 2)) (IntKind.u64.wrap ((IntKind.u64.wrap (x13_3 * 2)) + (Go.bits .and .u64 (shr .u64 x9_4 (ji15)) 1))) true (wrap64 (x15_3 - 1))))) else (if (x13_3 / 9223372036854775808) = 1 then (scarabref02_Divide.l0 k3 a0 a2 x9_4 x10_4 x11_7 (IntKind.u64.wrap ((IntKind.u64.wrap (x12_3 * 2)) + 1)) (IntKind.u64.wrap ((IntKind.u64.wrap ((IntKind.u64.wrap (x13_3 * 2)) + (Go.bits .and .u64 (shr .u64 x9_4 (ji15)) 1))) - x11_7)) false (wrap64 (x15_3 - 1))) else (if (IntKind.u64.wrap ((IntKind.u64.wrap (x13_3 * 2)) + (Go.bits .and .u64 (shr .u64 x9_4 (ji15)) 1))) ≥ x11_7 then (scarabref02_Divide.l0 k3 a0 a2 x9_4 x10_4 x11_7 (IntKind.u64.wrap ((IntKind.u64.wrap (x12_3 * 2)) + 1)) (IntKind.u64.wrap ((IntKind.u64.wrap ((IntKind.u64.wrap (x13_3 * 2)) + (Go.bits .and .u64 (shr .u64 x9_4 (ji15)) 1))) - x11_7)) false (wrap64 (x15_3 - 1))) else (scarabref02_Divide.l0 k3 a0 a2 x9_4 x10_4 x11_7 (IntKind.u64.wrap (x12_3 * 2)) (IntKind.u64.wrap ((IntKind.u64.wrap (x13_3 * 2)) + (Go.bits .and .u64 (shr .u64 x9_4 (ji15)) 1))) false (wrap64 (x15_3 - 1))))))) else (none)) = some (r1, r2, r3) := by first | (rw [hji15] at H; exact H) | (simp only [hji15] at H ⊢; exact H)
                      by_cases c16 : 0 ≤ (ji15)
                      · rw [if_pos c16] at H
                        have c16b0 := eq_true c16
                        have c16b1 : decide (0 ≤ (ji15)) = true := decide_eq_true c16
                        clear c16
                        obtain ⟨ji17, hji17⟩ : ∃ j_ : Int, (shr .u64 x9_4 (ji15)) = j_ := ⟨_, rfl⟩
                        replace H : (if x14_3 = true then (if (x13_3 / 9223372036854775808) = 1 then (scarabref02_Divide.l0 k3 a0 a2 x9_4 x10_4 x11_7 (IntKind.u64.wrap ((IntKind.u64.wrap (x12_3 * 2)) + 1)) (IntKind.u64.wrap ((IntKind.u64.wrap ((IntKind.u64.wrap (x13_3 * 2)) + (Go.bits .and .u64 (ji17) 1))) - x11_7)) true (wrap64 (x15_3 - 1))) else (if (IntKind.u64.wrap ((IntKind.u64.wrap (x13_3 * 2)) + (Go.bits .and .u64 (ji17) 1))) ≥ x11_7 then (scarabref02_Divide.l0 k3 a0 a2 x9_4 x10_4 x11_7 (IntKind.u64.wrap ((IntKind.u64.wrap (x12_3 * 2)) + 1)) (IntKind.u64.wrap ((IntKind.u64.wrap ((IntKind.u64.wrap (x13_3 * 2)) + (Go.bits .and .u64 (ji17) 1))) - x11_7)) true (wrap64 (x15_3 - 1))) else (scarabref02_Divide.l0 k3 a0 a2 x9_4 x10_4 x11_7 (IntKind.u64.wrap (x12_3 * 2)) (IntKind.u64.wrap ((IntKind.u64.wrap (x13_3 * 2)) + (Go.bits .and .u64 (ji17) 1))) true (wrap64 (x15_3 - 1))))) else (if (x12_3 / 9223372036854775808) = 1 then (if (x13_3 / 9223372036854775808) = 1 then (scarabref02_Divide.l0 k3 a0 a2 x9_4 x10_4 x11_7 (IntKind.u64.wrap ((IntKind.u64.wrap (x12_3 * 2)) + 1)) (IntKind.u64.wrap ((IntKind.u64.wrap ((IntKind.u64.wrap (x13_3 * 2)) + (Go.bits .and .u64 (ji17) 1))) - x11_7)) true (wrap64 (x15_3 - 1))) else (if (IntKind.u64.wrap ((IntKind.u64.wrap (x13_3 * 2)) + (Go.bits .and .u64 (ji17) 1))) ≥ x11_7 then (scarabref02_Divide.l0 k3 a0 a2 x9_4 x10_4 x11_7 (IntKind.u64.wrap ((IntKind.u64.wrap (x12_3 * 2)) + 1)) (IntKind.u64.wrap ((IntKind.u64.wrap ((IntKind.u64.wrap (x13_3 * 2)) + (Go.bits .and .u64 (ji17) 1))) - x11_7)) true (wrap64 (x15_3 - 1))) else (scarabref02_Divide.l0 k3 a0 a2 x9_4 x10_4 x11_7 (IntKind.u64.wrap (x12_3 * 2)) (IntKind.u64.wrap ((IntKind.u64.wrap (x13_3 * 2)) + (Go.bits .and .u64 (ji17) 1))) true (wrap64 (x15_3 - 1))))) else (if (x13_3 / 9223372036854775808) = 1 then (scarabref02_Divide.l0 k3 a0 a2 x9_4 x10_4 x11_7 (IntKind.u64.wrap ((IntKind.u64.wrap (x12_3 * 2)) + 1)) (IntKind.u64.wrap ((IntKind.u64.wrap ((IntKind.u64.wrap (x13_3 * 2)) + (Go.bits .and .u64 (ji17) 1))) - x11_7)) false (wrap64 (x15_3 - 1))) else (if (IntKind.u64.wrap ((IntKind.u64.wrap (x13_3 * 2)) + (Go.bits .and .u64 (ji17) 1))) ≥ x11_7 then (scarabref02_Divide.l0 k3 a0 a2 x9_4 x10_4 x11_7 (IntKind.u64.wrap ((IntKind.u64.wrap (x12_3 * 2)) + 1)) (IntKind.u64.wrap ((IntKind.u64.wrap ((IntKind.u64.wrap (x13_3 * 2)) + (Go.bits .and .u64 (ji17) 1))) - x11_7)) false (wrap64 (x15_3 - 1))) else (scarabref02_Divide.l0 k3 a0 a2 x9_4 x10_4 x11_7 (IntKind.u64.wrap (x12_3 * 2)) (IntKind.u64.wrap ((IntKind.u64.wrap (x13_3 * 2)) + (Go.bits .and .u64 (ji17) 1))) false (wrap64 (x15_3 - 1))))))) = some (r1, r2, r3) := by first | (rw [hji17] at H; exact H) | (simp only [hji17] at H ⊢; exact H)
                        have hji17_ : (x9_4 / 2 ^ min (ji15).toNat 64) = ji17 := hji17
                        have hji17z : (ji15) ≤ 64 → (x9_4 / 2 ^ (ji15).toNat) = ji17 := shr_small hji17
                        by_cases c18 : x14_3 = true
                        · subst c18
                          have H1 : (if (x13_3 / 9223372036854775808) = 1 then (scarabref02_Divide.l0 k3 a0 a2 x9_4 x10_4 x11_7 (IntKind.u64.wrap ((IntKind.u64.wrap (x12_3 * 2)) + 1)) (IntKind.u64.wrap ((IntKind.u64.wrap ((IntKind.u64.wrap (x13_3 * 2)) + (Go.bits .and .u64 (ji17) 1))) - x11_7)) true (wrap64 (x15_3 - 1))) else (if (IntKind.u64.wrap ((IntKind.u64.wrap (x13_3 * 2)) + (Go.bits .and .u64 (ji17) 1))) ≥ x11_7 then (scarabref02_Divide.l0 k3 a0 a2 x9_4 x10_4 x11_7 (IntKind.u64.wrap ((IntKind.u64.wrap (x12_3 * 2)) + 1)) (IntKind.u64.wrap ((IntKind.u64.wrap ((IntKind.u64.wrap (x13_3 * 2)) + (Go.bits .and .u64 (ji17) 1))) - x11_7)) true (wrap64 (x15_3 - 1))) else (scarabref02_Divide.l0 k3 a0 a2 x9_4 x10_4 x11_7 (IntKind.u64.wrap (x12_3 * 2)) (IntKind.u64.wrap ((IntKind.u64.wrap (x13_3 * 2)) + (Go.bits .and .u64 (ji17) 1))) true (wrap64 (x15_3 - 1))))) = some (r1, r2, r3) := by rw [if_pos rfl] at H; exact H
                          clear H
                          have H := H1
                          clear H1
                          by_cases c19 : (x13_3 / 9223372036854775808) = 1
                          · rw [if_pos c19] at H
                            have c19b0 : ((x13_3 / 9223372036854775808) == 1) = true := beq_iff_eq.mpr c19
                            have c19b1 : ((x13_3 / 9223372036854775808) != 1) = false := bne_eq_false_iff_eq.mpr c19
                            clear c19
                            have H' := Aside0.mk H
                            clear H
                            go_wp2
                            go_roundg k3
                            case measure => have := HJ4.out; have := HJ7.out; have := HK3.out; omega
                            case rel => exact ⟨(IntKind.u64.wrap ((IntKind.u64.wrap (x12_3 * 2)) + 1)), (IntKind.u64.wrap ((IntKind.u64.wrap ((IntKind.u64.wrap (x13_3 * 2)) + (Go.bits .and .u64 (ji17) 1))) - x11_7)), (true), (wrap64 (x15_3 - 1)), (by first | rfl | (simp; done) | (simp [*]; done)), (by first | rfl | (simp; done) | (simp only [← hji17] <;> (first | rfl | simp)) | (simp [*]; done)), (by first | rfl | (simp; done) | (simp [*]; done)), (by first | rfl | (simp; done) | (simp [*]; done)), H', ⟨by have := HJ4.out; have := HJ7.out; have := HK3.out; omega⟩, by repeat (first | exact Drawn0.refl _ | apply Drawn0.step)⟩
                          · rw [if_neg c19] at H
                            have c19b0 : ((x13_3 / 9223372036854775808) == 1) = false := beq_eq_false_iff_ne.mpr c19
                            have c19b1 : ((x13_3 / 9223372036854775808) != 1) = true := bne_iff_ne.mpr c19
                            by_cases c20 : (IntKind.u64.wrap ((IntKind.u64.wrap (x13_3 * 2)) + (Go.bits .and .u64 (ji17) 1))) ≥ x11_7
                            · rw [if_pos c20] at H
                              have c20b0 : decide (x11_7 ≤ (IntKind.u64.wrap ((IntKind.u64.wrap (x13_3 * 2)) + (Go.bits .and .u64 (ji17) 1)))) = true := decide_eq_true c20
                              clear c20
                              have H' := Aside0.mk H
                              clear H
                              go_wp2
                              go_roundg k3
                              case measure => have := HJ4.out; have := HJ7.out; have := HK3.out; omega
                              case rel => exact ⟨(IntKind.u64.wrap ((IntKind.u64.wrap (x12_3 * 2)) + 1)), (IntKind.u64.wrap ((IntKind.u64.wrap ((IntKind.u64.wrap (x13_3 * 2)) + (Go.bits .and .u64 (ji17) 1))) - x11_7)), (true), (wrap64 (x15_3 - 1)), (by first | rfl | (simp; done) | (simp [*]; done)), (by first | rfl | (simp; done) | (simp only [← hji17] <;> (first | rfl | simp)) | (simp [*]; done)), (by first | rfl | (simp; done) | (simp [*]; done)), (by first | rfl | (simp; done) | (simp [*]; done)), H', ⟨by have := HJ4.out; have := HJ7.out; have := HK3.out; omega⟩, by repeat (first | exact Drawn0.refl _ | apply Drawn0.step)⟩
                            · rw [if_neg c20] at H
                              have c20b0 : decide (x11_7 ≤ (IntKind.u64.wrap ((IntKind.u64.wrap (x13_3 * 2)) + (Go.bits .and .u64 (ji17) 1)))) = false := decide_eq_false c20
                              clear c20
                              have H' := Aside0.mk H
                              clear H
                              go_wp2
                              go_roundg k3
                              case measure => have := HJ4.out; have := HJ7.out; have := HK3.out; omega
                              case rel => exact ⟨(IntKind.u64.wrap (x12_3 * 2)), (IntKind.u64.wrap ((IntKind.u64.wrap (x13_3 * 2)) + (Go.bits .and .u64 (ji17) 1))), (true), (wrap64 (x15_3 - 1)), (by first | rfl | (simp; done) | (simp [*]; done)), (by first | rfl | (simp; done) | (simp only [← hji17] <;> (first | rfl | simp)) | (simp [*]; done)), (by first | rfl | (simp; done) | (simp [*]; done)), (by first | rfl | (simp; done) | (simp [*]; done)), H', ⟨by have := HJ4.out; have := HJ7.out; have := HK3.out; omega⟩, by repeat (first | exact Drawn0.refl _ | apply Drawn0.step)⟩
                        · replace c18 := Bool.eq_false_iff.mpr c18
                          subst c18
                          have H1 : (if (x12_3 / 9223372036854775808) = 1 then (if (x13_3 / 9223372036854775808) = 1 then (scarabref02_Divide.l0 k3 a0 a2 x9_4 x10_4 x11_7 (IntKind.u64.wrap ((IntKind.u64.wrap (x12_3 * 2)) + 1)) (IntKind.u64.wrap ((IntKind.u64.wrap ((IntKind.u64.wrap (x13_3 * 2)) + (Go.bits .and .u64 (ji17) 1))) - x11_7)) true (wrap64 (x15_3 - 1))) else (if (IntKind.u64.wrap ((IntKind.u64.wrap (x13_3 * 2)) + (Go.bits .and .u64 (ji17) 1))) ≥ x11_7 then (scarabref02_Divide.l0 k3 a0 a2 x9_4 x10_4 x11_7 (IntKind.u64.wrap ((IntKind.u64.wrap (x12_3 * 2)) + 1)) (IntKind.u64.wrap ((IntKind.u64.wrap ((IntKind.u64.wrap (x13_3 * 2)) + (Go.bits .and .u64 (ji17) 1))) - x11_7)) true (wrap64 (x15_3 - 1))) else (scarabref02_Divide.l0 k3 a0 a2 x9_4 x10_4 x11_7 (IntKind.u64.wrap (x12_3 * 2)) (IntKind.u64.wrap ((IntKind.u64.wrap (x13_3 * 2)) + (Go.bits .and .u64 (ji17) 1))) true (wrap64 (x15_3 - 1))))) else (if (x13_3 / 9223372036854775808) = 1 then (scarabref02_Divide.l0 k3 a0 a2 x9_4 x10_4 x11_7 (IntKind.u64.wrap ((IntKind.u64.wrap (x12_3 * 2)) + 1)) (IntKind.u64.wrap ((IntKind.u64.wrap ((IntKind.u64.wrap (x13_3 * 2)) + (Go.bits .and .u64 (ji17) 1))) - x11_7)) false (wrap64 (x15_3 - 1))) else (if (IntKind.u64.wrap ((IntKind.u64.wrap (x13_3 * 2)) + (Go.bits .and .u64 (ji17) 1))) ≥ x11_7 then (scarabref02_Divide.l0 k3 a0 a2 x9_4 x10_4 x11_7 (IntKind.u64.wrap ((IntKind.u64.wrap (x12_3 * 2)) + 1)) (IntKind.u64.wrap ((IntKind.u64.wrap ((IntKind.u64.wrap (x13_3 * 2)) + (Go.bits .and .u64 (ji17) 1))) - x11_7)) false (wrap64 (x15_3 - 1))) else (scarabref02_Divide.l0 k3 a0 a2 x9_4 x10_4 x11_7 (IntKind.u64.wrap (x12_3 * 2)) (IntKind.u64.wrap ((IntKind.u64.wrap (x13_3 * 2)) + (Go.bits .and .u64 (ji17) 1))) false (wrap64 (x15_3 - 1)))))) = some (r1, r2, r3) := by rw [if_neg (show ¬ (false = true) by decide)] at H; exact H
                          clear H
                          have H := H1
                          clear H1
                          by_cases c21 : (x12_3 / 9223372036854775808) = 1
                          · rw [if_pos c21] at H
                            have c21b0 : ((x12_3 / 9223372036854775808) == 1) = true := beq_iff_eq.mpr c21
                            have c21b1 : ((x12_3 / 9223372036854775808) != 1) = false := bne_eq_false_iff_eq.mpr c21
                            clear c21
                            by_cases c22 : (x13_3 / 9223372036854775808) = 1
                            · rw [if_pos c22] at H
                              have c22b0 : ((x13_3 / 9223372036854775808) == 1) = true := beq_iff_eq.mpr c22
                              have c22b1 : ((x13_3 / 9223372036854775808) != 1) = false := bne_eq_false_iff_eq.mpr c22
                              clear c22
                              have H' := Aside0.mk H
                              clear H
                              go_wp2
                              go_roundg k3
                              case measure => have := HJ4.out; have := HJ7.out; have := HK3.out; omega
                              case rel => exact ⟨(IntKind.u64.wrap ((IntKind.u64.wrap (x12_3 * 2)) + 1)), (IntKind.u64.wrap ((IntKind.u64.wrap ((IntKind.u64.wrap (x13_3 * 2)) + (Go.bits .and .u64 (ji17) 1))) - x11_7)), (true), (wrap64 (x15_3 - 1)), (by first | rfl | (simp; done) | (simp [*]; done)), (by first | rfl | (simp; done) | (simp only [← hji17] <;> (first | rfl | simp)) | (simp [*]; done)), (by first | rfl | (simp; done) | (simp [*]; done)), (by first | rfl | (simp; done) | (simp [*]; done)), H', ⟨by have := HJ4.out; have := HJ7.out; have := HK3.out; omega⟩, by repeat (first | exact Drawn0.refl _ | apply Drawn0.step)⟩
                            · rw [if_neg c22] at H
                              have c22b0 : ((x13_3 / 9223372036854775808) == 1) = false := beq_eq_false_iff_ne.mpr c22
                              have c22b1 : ((x13_3 / 9223372036854775808) != 1) = true := bne_iff_ne.mpr c22
                              by_cases c23 : (IntKind.u64.wrap ((IntKind.u64.wrap (x13_3 * 2)) + (Go.bits .and .u64 (ji17) 1))) ≥ x11_7
                              · rw [if_pos c23] at H
                                have c23b0 : decide (x11_7 ≤ (IntKind.u64.wrap ((IntKind.u64.wrap (x13_3 * 2)) + (Go.bits .and .u64 (ji17) 1)))) = true := decide_eq_true c23
                                clear c23
                                have H' := Aside0.mk H
                                clear H
                                go_wp2
                                go_roundg k3
                                case measure => have := HJ4.out; have := HJ7.out; have := HK3.out; omega
                                case rel => exact ⟨(IntKind.u64.wrap ((IntKind.u64.wrap (x12_3 * 2)) + 1)), (IntKind.u64.wrap ((IntKind.u64.wrap ((IntKind.u64.wrap (x13_3 * 2)) + (Go.bits .and .u64 (ji17) 1))) - x11_7)), (true), (wrap64 (x15_3 - 1)), (by first | rfl | (simp; done) | (simp [*]; done)), (by first | rfl | (simp; done) | (simp only [← hji17] <;> (first | rfl | simp)) | (simp [*]; done)), (by first | rfl | (simp; done) | (simp [*]; done)), (by first | rfl | (simp; done) | (simp [*]; done)), H', ⟨by have := HJ4.out; have := HJ7.out; have := HK3.out; omega⟩, by repeat (first | exact Drawn0.refl _ | apply Drawn0.step)⟩
                              · rw [if_neg c23] at H
                                have c23b0 : decide (x11_7 ≤ (IntKind.u64.wrap ((IntKind.u64.wrap (x13_3 * 2)) + (Go.bits .and .u64 (ji17) 1)))) = false := decide_eq_false c23
                                clear c23
                                have H' := Aside0.mk H
                                clear H
                                go_wp2
                                go_roundg k3
                                case measure => have := HJ4.out; have := HJ7.out; have := HK3.out; omega
                                case rel => exact ⟨(IntKind.u64.wrap (x12_3 * 2)), (IntKind.u64.wrap ((IntKind.u64.wrap (x13_3 * 2)) + (Go.bits .and .u64 (ji17) 1))), (true), (wrap64 (x15_3 - 1)), (by first | rfl | (simp; done) | (simp [*]; done)), (by first | rfl | (simp; done) | (simp only [← hji17] <;> (first | rfl | simp)) | (simp [*]; done)), (by first | rfl | (simp; done) | (simp [*]; done)), (by first | rfl | (simp; done) | (simp [*]; done)), H', ⟨by have := HJ4.out; have := HJ7.out; have := HK3.out; omega⟩, by repeat (first | exact Drawn0.refl _ | apply Drawn0.step)⟩
                          · rw [if_neg c21] at H
                            have c21b0 : ((x12_3 / 9223372036854775808) == 1) = false := beq_eq_false_iff_ne.mpr c21
                            have c21b1 : ((x12_3 / 9223372036854775808) != 1) = true := bne_iff_ne.mpr c21
                            by_cases c24 : (x13_3 / 9223372036854775808) = 1
                            · rw [if_pos c24] at H
                              have c24b0 : ((x13_3 / 9223372036854775808) == 1) = true := beq_iff_eq.mpr c24
                              have c24b1 : ((x13_3 / 9223372036854775808) != 1) = false := bne_eq_false_iff_eq.mpr c24
                              clear c24
                              have H' := Aside0.mk H
                              clear H
                              go_wp2
                              go_roundg k3
                              case measure => have := HJ4.out; have := HJ7.out; have := HK3.out; omega
                              case rel => exact ⟨(IntKind.u64.wrap ((IntKind.u64.wrap (x12_3 * 2)) + 1)), (IntKind.u64.wrap ((IntKind.u64.wrap ((IntKind.u64.wrap (x13_3 * 2)) + (Go.bits .and .u64 (ji17) 1))) - x11_7)), (false), (wrap64 (x15_3 - 1)), (by first | rfl | (simp; done) | (simp [*]; done)), (by first | rfl | (simp; done) | (simp only [← hji17] <;> (first | rfl | simp)) | (simp [*]; done)), (by first | rfl | (simp; done) | (simp [*]; done)), (by first | rfl | (simp; done) | (simp [*]; done)), H', ⟨by have := HJ4.out; have := HJ7.out; have := HK3.out; omega⟩, by repeat (first | exact Drawn0.refl _ | apply Drawn0.step)⟩
                            · rw [if_neg c24] at H
                              have c24b0 : ((x13_3 / 9223372036854775808) == 1) = false := beq_eq_false_iff_ne.mpr c24
                              have c24b1 : ((x13_3 / 9223372036854775808) != 1) = true := bne_iff_ne.mpr c24
                              by_cases c25 : (IntKind.u64.wrap ((IntKind.u64.wrap (x13_3 * 2)) + (Go.bits .and .u64 (ji17) 1))) ≥ x11_7
                              · rw [if_pos c25] at H
                                have c25b0 : decide (x11_7 ≤ (IntKind.u64.wrap ((IntKind.u64.wrap (x13_3 * 2)) + (Go.bits .and .u64 (ji17) 1)))) = true := decide_eq_true c25
                                clear c25
                                have H' := Aside0.mk H
                                clear H
                                go_wp2
                                go_roundg k3
                                case measure => have := HJ4.out; have := HJ7.out; have := HK3.out; omega
                                case rel => exact ⟨(IntKind.u64.wrap ((IntKind.u64.wrap (x12_3 * 2)) + 1)), (IntKind.u64.wrap ((IntKind.u64.wrap ((IntKind.u64.wrap (x13_3 * 2)) + (Go.bits .and .u64 (ji17) 1))) - x11_7)), (false), (wrap64 (x15_3 - 1)), (by first | rfl | (simp; done) | (simp [*]; done)), (by first | rfl | (simp; done) | (simp only [← hji17] <;> (first | rfl | simp)) | (simp [*]; done)), (by first | rfl | (simp; done) | (simp [*]; done)), (by first | rfl | (simp; done) | (simp [*]; done)), H', ⟨by have := HJ4.out; have := HJ7.out; have := HK3.out; omega⟩, by repeat (first | exact Drawn0.refl _ | apply Drawn0.step)⟩
                              · rw [if_neg c25] at H
                                have c25b0 : decide (x11_7 ≤ (IntKind.u64.wrap ((IntKind.u64.wrap (x13_3 * 2)) + (Go.bits .and .u64 (ji17) 1)))) = false := decide_eq_false c25
                                clear c25
                                have H' := Aside0.mk H
                                clear H
                                go_wp2
                                go_roundg k3
                                case measure => have := HJ4.out; have := HJ7.out; have := HK3.out; omega
                                case rel => exact ⟨(IntKind.u64.wrap (x12_3 * 2)), (IntKind.u64.wrap ((IntKind.u64.wrap (x13_3 * 2)) + (Go.bits .and .u64 (ji17) 1))), (false), (wrap64 (x15_3 - 1)), (by first | rfl | (simp; done) | (simp [*]; done)), (by first | rfl | (simp; done) | (simp only [← hji17] <;> (first | rfl | simp)) | (simp [*]; done)), (by first | rfl | (simp; done) | (simp [*]; done)), (by first | rfl | (simp; done) | (simp [*]; done)), H', ⟨by have := HJ4.out; have := HJ7.out; have := HK3.out; omega⟩, by repeat (first | exact Drawn0.refl _ | apply Drawn0.step)⟩
                      · rw [if_neg c16] at H
                        exact absurd H (by simp)
                    · rw [if_neg c14] at H
                      have c14b0 : decide (63 < x15_3) = false := decide_eq_false c14
                      clear c14
                      by_cases c26 : x14_3 = true
                      · subst c26
                        have H1 : (if (x13_3 / 9223372036854775808) = 1 then (scarabref02_Divide.l0 k3 a0 a2 x9_4 x10_4 x11_7 (IntKind.u64.wrap ((IntKind.u64.wrap (x12_3 * 2)) + 1)) (IntKind.u64.wrap ((IntKind.u64.wrap ((IntKind.u64.wrap (x13_3 * 2)) + (Go.bits .and .u64 (ji13) 1))) - x11_7)) true (wrap64 (x15_3 - 1))) else (if (IntKind.u64.wrap ((IntKind.u64.wrap (x13_3 * 2)) + (Go.bits .and .u64 (ji13) 1))) ≥ x11_7 then (scarabref02_Divide.l0 k3 a0 a2 x9_4 x10_4 x11_7 (IntKind.u64.wrap ((IntKind.u64.wrap (x12_3 * 2)) + 1)) (IntKind.u64.wrap ((IntKind.u64.wrap ((IntKind.u64.wrap (x13_3 * 2)) + (Go.bits .and .u64 (ji13) 1))) - x11_7)) true (wrap64 (x15_3 - 1))) else (scarabref02_Divide.l0 k3 a0 a2 x9_4 x10_4 x11_7 (IntKind.u64.wrap (x12_3 * 2)) (IntKind.u64.wrap ((IntKind.u64.wrap (x13_3 * 2)) + (Go.bits .and .u64 (ji13) 1))) true (wrap64 (x15_3 - 1))))) = some (r1, r2, r3) := by rw [if_pos rfl] at H; exact H
                        clear H
                        have H := H1
                        clear H1
                        by_cases c27 : (x13_3 / 9223372036854775808) = 1
                        · rw [if_pos c27] at H
                          have c27b0 : ((x13_3 / 9223372036854775808) == 1) = true := beq_iff_eq.mpr c27
                          have c27b1 : ((x13_3 / 9223372036854775808) != 1) = false := bne_eq_false_iff_eq.mpr c27
                          clear c27
                          have H' := Aside0.mk H
                          clear H
                          go_wp2
                          go_roundg k3
                          case measure => have := HJ4.out; have := HJ7.out; have := HK3.out; omega
                          case rel => exact ⟨(IntKind.u64.wrap ((IntKind.u64.wrap (x12_3 * 2)) + 1)), (IntKind.u64.wrap ((IntKind.u64.wrap ((IntKind.u64.wrap (x13_3 * 2)) + (Go.bits .and .u64 (ji13) 1))) - x11_7)), (true), (wrap64 (x15_3 - 1)), (by first | rfl | (simp; done) | (simp [*]; done)), (by first | rfl | (simp; done) | (simp only [← hji13] <;> (first | rfl | simp)) | (simp [*]; done)), (by first | rfl | (simp; done) | (simp [*]; done)), (by first | rfl | (simp; done) | (simp [*]; done)), H', ⟨by have := HJ4.out; have := HJ7.out; have := HK3.out; omega⟩, by repeat (first | exact Drawn0.refl _ | apply Drawn0.step)⟩
                        · rw [if_neg c27] at H
                          have c27b0 : ((x13_3 / 9223372036854775808) == 1) = false := beq_eq_false_iff_ne.mpr c27
                          have c27b1 : ((x13_3 / 9223372036854775808) != 1) = true := bne_iff_ne.mpr c27
                          by_cases c28 : (IntKind.u64.wrap ((IntKind.u64.wrap (x13_3 * 2)) + (Go.bits .and .u64 (ji13) 1))) ≥ x11_7
                          · rw [if_pos c28] at H
                            have c28b0 : decide (x11_7 ≤ (IntKind.u64.wrap ((IntKind.u64.wrap (x13_3 * 2)) + (Go.bits .and .u64 (ji13) 1)))) = true := decide_eq_true c28
                            clear c28
                            have H' := Aside0.mk H
                            clear H
                            go_wp2
                            go_roundg k3
                            case measure => have := HJ4.out; have := HJ7.out; have := HK3.out; omega
                            case rel => exact ⟨(IntKind.u64.wrap ((IntKind.u64.wrap (x12_3 * 2)) + 1)), (IntKind.u64.wrap ((IntKind.u64.wrap ((IntKind.u64.wrap (x13_3 * 2)) + (Go.bits .and .u64 (ji13) 1))) - x11_7)), (true), (wrap64 (x15_3 - 1)), (by first | rfl | (simp; done) | (simp [*]; done)), (by first | rfl | (simp; done) | (simp only [← hji13] <;> (first | rfl | simp)) | (simp [*]; done)), (by first | rfl | (simp; done) | (simp [*]; done)), (by first | rfl | (simp; done) | (simp [*]; done)), H', ⟨by have := HJ4.out; have := HJ7.out; have := HK3.out; omega⟩, by repeat (first | exact Drawn0.refl _ | apply Drawn0.step)⟩
                          · rw [if_neg c28] at H
                            have c28b0 : decide (x11_7 ≤ (IntKind.u64.wrap ((IntKind.u64.wrap (x13_3 * 2)) + (Go.bits .and .u64 (ji13) 1)))) = false := decide_eq_false c28
                            clear c28
                            have H' := Aside0.mk H
                            clear H
                            go_wp2
                            go_roundg k3
                            case measure => have := HJ4.out; have := HJ7.out; have := HK3.out; omega
                            case rel => exact ⟨(IntKind.u64.wrap (x12_3 * 2)), (IntKind.u64.wrap ((IntKind.u64.wrap (x13_3 * 2)) + (Go.bits .and .u64 (ji13) 1))), (true), (wrap64 (x15_3 - 1)), (by first | rfl | (simp; done) | (simp [*]; done)), (by first | rfl | (simp; done) | (simp only [← hji13] <;> (first | rfl | simp)) | (simp [*]; done)), (by first | rfl | (simp; done) | (simp [*]; done)), (by first | rfl | (simp; done) | (simp [*]; done)), H', ⟨by have := HJ4.out; have := HJ7.out; have := HK3.out; omega⟩, by repeat (first | exact Drawn0.refl _ | apply Drawn0.step)⟩
                      · replace c26 := Bool.eq_false_iff.mpr c26
                        subst c26
                        have H1 : (if (x12_3 / 9223372036854775808) = 1 then (if (x13_3 / 9223372036854775808) = 1 then (scarabref02_Divide.l0 k3 a0 a2 x9_4 x10_4 x11_7 (IntKind.u64.wrap ((IntKind.u64.wrap (x12_3 * 2)) + 1)) (IntKind.u64.wrap ((IntKind.u64.wrap ((IntKind.u64.wrap (x13_3 * 2)) + (Go.bits .and .u64 (ji13) 1))) - x11_7)) true (wrap64 (x15_3 - 1))) else (if (IntKind.u64.wrap ((IntKind.u64.wrap (x13_3 * 2)) + (Go.bits .and .u64 (ji13) 1))) ≥ x11_7 then (scarabref02_Divide.l0 k3 a0 a2 x9_4 x10_4 x11_7 (IntKind.u64.wrap ((IntKind.u64.wrap (x12_3 * 2)) + 1)) (IntKind.u64.wrap ((IntKind.u64.wrap ((IntKind.u64.wrap (x13_3 * 2)) + (Go.bits .and .u64 (ji13) 1))) - x11_7)) true (wrap64 (x15_3 - 1))) else (scarabref02_Divide.l0 k3 a0 a2 x9_4 x10_4 x11_7 (IntKind.u64.wrap (x12_3 * 2)) (IntKind.u64.wrap ((IntKind.u64.wrap (x13_3 * 2)) + (Go.bits .and .u64 (ji13) 1))) true (wrap64 (x15_3 - 1))))) else (if (x13_3 / 9223372036854775808) = 1 then (scarabref02_Divide.l0 k3 a0 a2 x9_4 x10_4 x11_7 (IntKind.u64.wrap ((IntKind.u64.wrap (x12_3 * 2)) + 1)) (IntKind.u64.wrap ((IntKind.u64.wrap ((IntKind.u64.wrap (x13_3 * 2)) + (Go.bits .and .u64 (ji13) 1))) - x11_7)) false (wrap64 (x15_3 - 1))) else (if (IntKind.u64.wrap ((IntKind.u64.wrap (x13_3 * 2)) + (Go.bits .and .u64 (ji13) 1))) ≥ x11_7 then (scarabref02_Divide.l0 k3 a0 a2 x9_4 x10_4 x11_7 (IntKind.u64.wrap ((IntKind.u64.wrap (x12_3 * 2)) + 1)) (IntKind.u64.wrap ((IntKind.u64.wrap ((IntKind.u64.wrap (x13_3 * 2)) + (Go.bits .and .u64 (ji13) 1))) - x11_7)) false (wrap64 (x15_3 - 1))) else (scarabref02_Divide.l0 k3 a0 a2 x9_4 x10_4 x11_7 (IntKind.u64.wrap (x12_3 * 2)) (IntKind.u64.wrap ((IntKind.u64.wrap (x13_3 * 2)) + (Go.bits .and .u64 (ji13) 1))) false (wrap64 (x15_3 - 1)))))) = some (r1, r2, r3) := by rw [if_neg (show ¬ (false = true) by decide)] at H; exact H
                        clear H
                        have H := H1
                        clear H1
                        by_cases c29 : (x12_3 / 9223372036854775808) = 1
                        · rw [if_pos c29] at H
                          have c29b0 : ((x12_3 / 9223372036854775808) == 1) = true := beq_iff_eq.mpr c29
                          have c29b1 : ((x12_3 / 9223372036854775808) != 1) = false := bne_eq_false_iff_eq.mpr c29
                          clear c29
                          by_cases c30 : (x13_3 / 9223372036854775808) = 1
                          · rw [if_pos c30] at H
                            have c30b0 : ((x13_3 / 9223372036854775808) == 1) = true := beq_iff_eq.mpr c30
                            have c30b1 : ((x13_3 / 9223372036854775808) != 1) = false := bne_eq_false_iff_eq.mpr c30
                            clear c30
                            have H' := Aside0.mk H
                            clear H
                            go_wp2
                            go_roundg k3
                            case measure => have := HJ4.out; have := HJ7.out; have := HK3.out; omega
                            case rel => exact ⟨(IntKind.u64.wrap ((IntKind.u64.wrap (x12_3 * 2)) + 1)), (IntKind.u64.wrap ((IntKind.u64.wrap ((IntKind.u64.wrap (x13_3 * 2)) + (Go.bits .and .u64 (ji13) 1))) - x11_7)), (true), (wrap64 (x15_3 - 1)), (by first | rfl | (simp; done) | (simp [*]; done)), (by first | rfl | (simp; done) | (simp only [← hji13] <;> (first | rfl | simp)) | (simp [*]; done)), (by first | rfl | (simp; done) | (simp [*]; done)), (by first | rfl | (simp; done) | (simp [*]; done)), H', ⟨by have := HJ4.out; have := HJ7.out; have := HK3.out; omega⟩, by repeat (first | exact Drawn0.refl _ | apply Drawn0.step)⟩
                          · rw [if_neg c30] at H
                            have c30b0 : ((x13_3 / 9223372036854775808) == 1) = false := beq_eq_false_iff_ne.mpr c30
                            have c30b1 : ((x13_3 / 9223372036854775808) != 1) = true := bne_iff_ne.mpr c30
                            by_cases c31 : (IntKind.u64.wrap ((IntKind.u64.wrap (x13_3 * 2)) + (Go.bits .and .u64 (ji13) 1))) ≥ x11_7
                            · rw [if_pos c31] at H
                              have c31b0 : decide (x11_7 ≤ (IntKind.u64.wrap ((IntKind.u64.wrap (x13_3 * 2)) + (Go.bits .and .u64 (ji13) 1)))) = true := decide_eq_true c31
                              clear c31
                              have H' := Aside0.mk H
                              clear H
                              go_wp2
                              go_roundg k3
                              case measure => have := HJ4.out; have := HJ7.out; have := HK3.out; omega
                              case rel => exact ⟨(IntKind.u64.wrap ((IntKind.u64.wrap (x12_3 * 2)) + 1)), (IntKind.u64.wrap ((IntKind.u64.wrap ((IntKind.u64.wrap (x13_3 * 2)) + (Go.bits .and .u64 (ji13) 1))) - x11_7)), (true), (wrap64 (x15_3 - 1)), (by first | rfl | (simp; done) | (simp [*]; done)), (by first | rfl | (simp; done) | (simp only [← hji13] <;> (first | rfl | simp)) | (simp [*]; done)), (by first | rfl | (simp; done) | (simp [*]; done)), (by first | rfl | (simp; done) | (simp [*]; done)), H', ⟨by have := HJ4.out; have := HJ7.out; have := HK3.out; omega⟩, by repeat (first | exact Drawn0.refl _ | apply Drawn0.step)⟩
                            · rw [if_neg c31] at H
                              have c31b0 : decide (x11_7 ≤ (IntKind.u64.wrap ((IntKind.u64.wrap (x13_3 * 2)) + (Go.bits .and .u64 (ji13) 1)))) = false := decide_eq_false c31
                              clear c31
                              have H' := Aside0.mk H
                              clear H
                              go_wp2
                              go_roundg k3
                              case measure => have := HJ4.out; have := HJ7.out; have := HK3.out; omega
                              case rel => exact ⟨(IntKind.u64.wrap (x12_3 * 2)), (IntKind.u64.wrap ((IntKind.u64.wrap (x13_3 * 2)) + (Go.bits .and .u64 (ji13) 1))), (true), (wrap64 (x15_3 - 1)), (by first | rfl | (simp; done) | (simp [*]; done)), (by first | rfl | (simp; done) | (simp only [← hji13] <;> (first | rfl | simp)) | (simp [*]; done)), (by first | rfl | (simp; done) | (simp [*]; done)), (by first | rfl | (simp; done) | (simp [*]; done)), H', ⟨by have := HJ4.out; have := HJ7.out; have := HK3.out; omega⟩, by repeat (first | exact Drawn0.refl _ | apply Drawn0.step)⟩
                        · rw [if_neg c29] at H
                          have c29b0 : ((x12_3 / 9223372036854775808) == 1) = false := beq_eq_false_iff_ne.mpr c29
                          have c29b1 : ((x12_3 / 9223372036854775808) != 1) = true := bne_iff_ne.mpr c29
                          by_cases c32 : (x13_3 / 9223372036854775808) = 1
                          · rw [if_pos c32] at H
                            have c32b0 : ((x13_3 / 9223372036854775808) == 1) = true := beq_iff_eq.mpr c32
                            have c32b1 : ((x13_3 / 9223372036854775808) != 1) = false := bne_eq_false_iff_eq.mpr c32
                            clear c32
                            have H' := Aside0.mk H
                            clear H
                            go_wp2
                            go_roundg k3
                            case measure => have := HJ4.out; have := HJ7.out; have := HK3.out; omega
                            case rel => exact ⟨(IntKind.u64.wrap ((IntKind.u64.wrap (x12_3 * 2)) + 1)), (IntKind.u64.wrap ((IntKind.u64.wrap ((IntKind.u64.wrap (x13_3 * 2)) + (Go.bits .and .u64 (ji13) 1))) - x11_7)), (false), (wrap64 (x15_3 - 1)), (by first | rfl | (simp; done) | (simp [*]; done)), (by first | rfl | (simp; done) | (simp only [← hji13] <;> (first | rfl | simp)) | (simp [*]; done)), (by first | rfl | (simp; done) | (simp [*]; done)), (by first | rfl | (simp; done) | (simp [*]; done)), H', ⟨by have := HJ4.out; have := HJ7.out; have := HK3.out; omega⟩, by repeat (first | exact Drawn0.refl _ | apply Drawn0.step)⟩
                          · rw [if_neg c32] at H
                            have c32b0 : ((x13_3 / 9223372036854775808) == 1) = false := beq_eq_false_iff_ne.mpr c32
                            have c32b1 : ((x13_3 / 9223372036854775808) != 1) = true := bne_iff_ne.mpr c32
                            by_cases c33 : (IntKind.u64.wrap ((IntKind.u64.wrap (x13_3 * 2)) + (Go.bits .and .u64 (ji13) 1))) ≥ x11_7
                            · rw [if_pos c33] at H
                              have c33b0 : decide (x11_7 ≤ (IntKind.u64.wrap ((IntKind.u64.wrap (x13_3 * 2)) + (Go.bits .and .u64 (ji13) 1)))) = true := decide_eq_true c33
                              clear c33
                              have H' := Aside0.mk H
                              clear H
                              go_wp2
                              go_roundg k3
                              case measure => have := HJ4.out; have := HJ7.out; have := HK3.out; omega
                              case rel => exact ⟨(IntKind.u64.wrap ((IntKind.u64.wrap (x12_3 * 2)) + 1)), (IntKind.u64.wrap ((IntKind.u64.wrap ((IntKind.u64.wrap (x13_3 * 2)) + (Go.bits .and .u64 (ji13) 1))) - x11_7)), (false), (wrap64 (x15_3 - 1)), (by first | rfl | (simp; done) | (simp [*]; done)), (by first | rfl | (simp; done) | (simp only [← hji13] <;> (first | rfl | simp)) | (simp [*]; done)), (by first | rfl | (simp; done) | (simp [*]; done)), (by first | rfl | (simp; done) | (simp [*]; done)), H', ⟨by have := HJ4.out; have := HJ7.out; have := HK3.out; omega⟩, by repeat (first | exact Drawn0.refl _ | apply Drawn0.step)⟩
                            · rw [if_neg c33] at H
                              have c33b0 : decide (x11_7 ≤ (IntKind.u64.wrap ((IntKind.u64.wrap (x13_3 * 2)) + (Go.bits .and .u64 (ji13) 1)))) = false := decide_eq_false c33
                              clear c33
                              have H' := Aside0.mk H
                              clear H
                              go_wp2
                              go_roundg k3
                              case measure => have := HJ4.out; have := HJ7.out; have := HK3.out; omega
                              case rel => exact ⟨(IntKind.u64.wrap (x12_3 * 2)), (IntKind.u64.wrap ((IntKind.u64.wrap (x13_3 * 2)) + (Go.bits .and .u64 (ji13) 1))), (false), (wrap64 (x15_3 - 1)), (by first | rfl | (simp; done) | (simp [*]; done)), (by first | rfl | (simp; done) | (simp only [← hji13] <;> (first | rfl | simp)) | (simp [*]; done)), (by first | rfl | (simp; done) | (simp [*]; done)), (by first | rfl | (simp; done) | (simp [*]; done)), H', ⟨by have := HJ4.out; have := HJ7.out; have := HK3.out; omega⟩, by repeat (first | exact Drawn0.refl _ | apply Drawn0.step)⟩
                  · rw [if_neg c12] at H
                    exact absurd H (by simp)
                · rw [if_neg c10] at H
                  have c10b0 : decide (0 ≤ x15_3) = false := decide_eq_false c10
                  clear c10
                  by_cases c34 : ((decide (a0 < 0)) != (decide (a2 < 0))) = true
                  · rw [if_pos c34] at H
                    have c34b0 : ((decide (a0 < 0)) != (decide (a2 < 0))) = true := c34
                    (try (have c34b1 : decide ((decide (a0 < 0)) = (decide (a2 < 0))) = false := by simpa using c34))
                    (try (have c34b2 : ((decide (a0 < 0)) == (decide (a2 < 0))) = false := by simpa using c34))
                    (try (have c34b3 : ¬ ((decide (a0 < 0)) = (decide (a2 < 0))) := by simpa using c34))
                    clear c34
                    have HC35 := Aside0.mk H
                    clear H
                    go_upto_region 29 with (fail)
                    go_cut [105] (fun v105 wc => ∃ (kq : Nat) (x105_34 : Bool), v105 = .bool x105_34 ∧ Aside0 (scarabref02_Divide.j3 kq a0 x12_3 x13_3 true x105_34 = some (r1, r2, r3)) ∧ Aside0 (kq ≤ k3) ∧ Drawn0 w wc)
                    case first =>
                      have H := HC35.out
                      clear HC35
                      by_cases c36 : x14_3 = true
                      · subst c36
                        have H1 : (scarabref02_Divide.j3 k3 a0 x12_3 x13_3 true true) = some (r1, r2, r3) := by rw [if_pos rfl] at H; exact H
                        clear H
                        have H := H1
                        clear H1
                        have H' := Aside0.mk H
                        clear H
                        go_wp2
                        go_meet
                        case rel => exact ⟨_, (true), (by first | rfl | (simp; done) | (simp [*]; done)), H', ⟨by have := HJ4.out; have := HJ7.out; have := HK3.out; first | omega | exact Nat.le_refl _⟩, by repeat (first | exact Drawn0.refl _ | apply Drawn0.step)⟩
                      · replace c36 := Bool.eq_false_iff.mpr c36
                        subst c36
                        have H1 : (if x12_3 > 9223372036854775808 then (scarabref02_Divide.j3 k3 a0 x12_3 x13_3 true true) else (if x12_3 = 9223372036854775808 then (scarabref02_Divide.j3 k3 a0 x12_3 x13_3 true (!true)) else (scarabref02_Divide.j3 k3 a0 x12_3 x13_3 true false))) = some (r1, r2, r3) := by rw [if_neg (show ¬ (false = true) by decide)] at H; exact H
                        clear H
                        have H := H1
                        clear H1
                        by_cases c37 : x12_3 > 9223372036854775808
                        · rw [if_pos c37] at H
                          have c37b0 : decide (9223372036854775808 < x12_3) = true := decide_eq_true c37
                          clear c37
                          (first | rw [c37b0] | (simp only [i64_w, i32_w]; rw [c37b0]) | skip)
                          have H' := Aside0.mk H
                          clear H
                          go_wp2
                          go_meet
                          case rel => exact ⟨_, (true), (by first | rfl | (simp; done) | (simp [*]; done)), H', ⟨by have := HJ4.out; have := HJ7.out; have := HK3.out; first | omega | exact Nat.le_refl _⟩, by repeat (first | exact Drawn0.refl _ | apply Drawn0.step)⟩
                        · rw [if_neg c37] at H
                          have c37b0 : decide (9223372036854775808 < x12_3) = false := decide_eq_false c37
                          clear c37
                          (first | rw [c37b0] | (simp only [i64_w, i32_w]; rw [c37b0]) | skip)
                          by_cases c38 : x12_3 = 9223372036854775808
                          · rw [if_pos c38] at H
                            have c38b0 : (x12_3 == 9223372036854775808) = true := beq_iff_eq.mpr c38
                            have c38b1 : (x12_3 != 9223372036854775808) = false := bne_eq_false_iff_eq.mpr c38
                            clear c38
                            have H' := Aside0.mk H
                            clear H
                            go_wp2
                            go_meet
                            case rel => exact ⟨_, (!true), (by first | rfl | (simp; done) | (simp [*]; done)), H', ⟨by have := HJ4.out; have := HJ7.out; have := HK3.out; first | omega | exact Nat.le_refl _⟩, by repeat (first | exact Drawn0.refl _ | apply Drawn0.step)⟩
                          · rw [if_neg c38] at H
                            have c38b0 : (x12_3 == 9223372036854775808) = false := beq_eq_false_iff_ne.mpr c38
                            have c38b1 : (x12_3 != 9223372036854775808) = true := bne_iff_ne.mpr c38
                            have H' := Aside0.mk H
                            clear H
                            go_wp2
                            go_meet
                            case rel => exact ⟨_, (false), (by first | rfl | (simp; done) | (simp [*]; done)), H', ⟨by have := HJ4.out; have := HJ7.out; have := HK3.out; first | omega | exact Nat.le_refl _⟩, by repeat (first | exact Drawn0.refl _ | apply Drawn0.step)⟩
                    case rest =>
                      clear HC35
                      try clear c1
                      try clear c2
                      try clear p2
                      try clear c3
                      try clear c4
                      try clear c4b0
                      try clear c4b1
                      try clear c6
                      try clear c6b0
                      try clear p6
                      try clear c7
                      try clear c7b0
                      try clear c7b1
                      try clear c9
                      try clear c9b0
                      try clear c10
                      try clear c10b0
                      try clear c12
                      try clear c12b0
                      try clear c12b1
                      try clear c14
                      try clear c14b0
                      try clear c16
                      try clear c16b0
                      try clear c16b1
                      try clear c18
                      try clear c19
                      try clear c19b0
                      try clear c19b1
                      try clear c20
                      try clear c20b0
                      try clear c21
                      try clear c21b0
                      try clear c21b1
                      try clear c22
                      try clear c22b0
                      try clear c22b1
                      try clear c23
                      try clear c23b0
                      try clear c24
                      try clear c24b0
                      try clear c24b1
                      try clear c25
                      try clear c25b0
                      try clear c26
                      try clear c27
                      try clear c27b0
                      try clear c27b1
                      try clear c28
                      try clear c28b0
                      try clear c29
                      try clear c29b0
                      try clear c29b1
                      try clear c30
                      try clear c30b0
                      try clear c30b1
                      try clear c31
                      try clear c31b0
                      try clear c32
                      try clear c32b0
                      try clear c32b1
                      try clear c33
                      try clear c33b0
                      try clear c34
                      try clear c34b0
                      try clear c34b1
                      try clear c34b2
                      try clear c36
                      try clear c37
                      try clear c37b0
                      try clear c38
                      try clear c38b0
                      try clear c38b1
                      try clear p2
                      try clear p6
                      obtain ⟨kq, x105_34, rfl, HA, HJ34, ⟨mc34, rfl⟩⟩ := hcut
                      cases kq with
                      | zero => exact absurd HA.out (by simp [scarabref02_Divide.j3])
                      | succ kj34 =>
                        have H := HA.out
                        clear HA
                        simp only [scarabref02_Divide.j3] at H
                        by_cases c39 : x105_34 = true
                        · subst c39
                          have H1 : (some (0, 0, 24)) = some (r1, r2, r3) := by rw [if_pos rfl] at H; exact H
                          clear H
                          have H := H1
                          clear H1
                          simp only [Option.some.injEq, Prod.mk.injEq] at H
                          obtain ⟨rfl, rfl, rfl⟩ := H
                          go_wp2
                          go_ret3
                          exact ⟨by first | rfl | (simp; done) | (simp [*]; done), by repeat (first | exact Drawn0.refl _ | apply Drawn0.step)⟩
                        · replace c39 := Bool.eq_false_iff.mpr c39
                          subst c39
                          have H1 : (if true = true then (if a0 < 0 then (some (wrap64 (-(wrap64 (x12_3))), wrap64 (-(wrap64 (x13_3))), 0)) else (some (wrap64 (-(wrap64 (x12_3))), wrap64 (x13_3), 0))) else (if a0 < 0 then (some (wrap64 (x12_3), wrap64 (-(wrap64 (x13_3))), 0)) else (some (wrap64 (x12_3), wrap64 (x13_3), 0)))) = some (r1, r2, r3) := by rw [if_neg (show ¬ (false = true) by decide)] at H; exact H
                          clear H
                          have H := H1
                          clear H1
                          have H1 : (if a0 < 0 then (some (wrap64 (-(wrap64 (x12_3))), wrap64 (-(wrap64 (x13_3))), 0)) else (some (wrap64 (-(wrap64 (x12_3))), wrap64 (x13_3), 0))) = some (r1, r2, r3) := by rw [if_pos rfl] at H; exact H
                          clear H
                          have H := H1
                          clear H1
                          by_cases c40 : a0 < 0
                          · rw [if_pos c40] at H
                            have c40b0 : decide (a0 < 0) = true := decide_eq_true c40
                            clear c40
                            simp only [Option.some.injEq, Prod.mk.injEq] at H
                            obtain ⟨rfl, rfl, rfl⟩ := H
                            go_wp2
                            go_ret3
                            exact ⟨by first | rfl | (simp; done) | (simp [*]; done), by repeat (first | exact Drawn0.refl _ | apply Drawn0.step)⟩
                          · rw [if_neg c40] at H
                            have c40b0 : decide (a0 < 0) = false := decide_eq_false c40
                            clear c40
                            simp only [Option.some.injEq, Prod.mk.injEq] at H
                            obtain ⟨rfl, rfl, rfl⟩ := H
                            go_wp2
                            go_ret3
                            exact ⟨by first | rfl | (simp; done) | (simp [*]; done), by repeat (first | exact Drawn0.refl _ | apply Drawn0.step)⟩
                  · rw [if_neg c34] at H
                    have c34b0 : ((decide (a0 < 0)) != (decide (a2 < 0))) = false := by simpa using c34
                    (try (have c34b1 : decide ((decide (a0 < 0)) = (decide (a2 < 0))) = true := by simpa using c34))
                    (try (have c34b2 : ((decide (a0 < 0)) == (decide (a2 < 0))) = true := by simpa using c34))
                    clear c34
                    have HC41 := Aside0.mk H
                    clear H
                    go_upto_region 29 with (fail)
                    go_cut [105] (fun v105 wc => ∃ (kq : Nat) (x105_40 : Bool), v105 = .bool x105_40 ∧ Aside0 (scarabref02_Divide.j4 kq a0 x12_3 x13_3 false x105_40 = some (r1, r2, r3)) ∧ Aside0 (kq ≤ k3) ∧ Drawn0 w wc)
                    case first =>
                      have H := HC41.out
                      clear HC41
                      by_cases c42 : x14_3 = true
                      · subst c42
                        have H1 : (scarabref02_Divide.j4 k3 a0 x12_3 x13_3 false true) = some (r1, r2, r3) := by rw [if_pos rfl] at H; exact H
                        clear H
                        have H := H1
                        clear H1
                        have H' := Aside0.mk H
                        clear H
                        go_wp2
                        go_meet
                        case rel => exact ⟨_, (true), (by first | rfl | (simp; done) | (simp [*]; done)), H', ⟨by have := HJ4.out; have := HJ7.out; have := HK3.out; first | omega | exact Nat.le_refl _⟩, by repeat (first | exact Drawn0.refl _ | apply Drawn0.step)⟩
                      · replace c42 := Bool.eq_false_iff.mpr c42
                        subst c42
                        have H1 : (if x12_3 > 9223372036854775808 then (scarabref02_Divide.j4 k3 a0 x12_3 x13_3 false true) else (if x12_3 = 9223372036854775808 then (scarabref02_Divide.j4 k3 a0 x12_3 x13_3 false (!false)) else (scarabref02_Divide.j4 k3 a0 x12_3 x13_3 false false))) = some (r1, r2, r3) := by rw [if_neg (show ¬ (false = true) by decide)] at H; exact H
                        clear H
                        have H := H1
                        clear H1
                        by_cases c43 : x12_3 > 9223372036854775808
                        · rw [if_pos c43] at H
                          have c43b0 : decide (9223372036854775808 < x12_3) = true := decide_eq_true c43
                          clear c43
                          (first | rw [c43b0] | (simp only [i64_w, i32_w]; rw [c43b0]) | skip)
                          have H' := Aside0.mk H
                          clear H
                          go_wp2
                          go_meet
                          case rel => exact ⟨_, (true), (by first | rfl | (simp; done) | (simp [*]; done)), H', ⟨by have := HJ4.out; have := HJ7.out; have := HK3.out; first | omega | exact Nat.le_refl _⟩, by repeat (first | exact Drawn0.refl _ | apply Drawn0.step)⟩
                        · rw [if_neg c43] at H
                          have c43b0 : decide (9223372036854775808 < x12_3) = false := decide_eq_false c43
                          clear c43
                          (first | rw [c43b0] | (simp only [i64_w, i32_w]; rw [c43b0]) | skip)
                          by_cases c44 : x12_3 = 9223372036854775808
                          · rw [if_pos c44] at H
                            have c44b0 : (x12_3 == 9223372036854775808) = true := beq_iff_eq.mpr c44
                            have c44b1 : (x12_3 != 9223372036854775808) = false := bne_eq_false_iff_eq.mpr c44
                            clear c44
                            have H' := Aside0.mk H
                            clear H
                            go_wp2
                            go_meet
                            case rel => exact ⟨_, (!false), (by first | rfl | (simp; done) | (simp [*]; done)), H', ⟨by have := HJ4.out; have := HJ7.out; have := HK3.out; first | omega | exact Nat.le_refl _⟩, by repeat (first | exact Drawn0.refl _ | apply Drawn0.step)⟩
                          · rw [if_neg c44] at H
                            have c44b0 : (x12_3 == 9223372036854775808) = false := beq_eq_false_iff_ne.mpr c44
                            have c44b1 : (x12_3 != 9223372036854775808) = true := bne_iff_ne.mpr c44
                            have H' := Aside0.mk H
                            clear H
                            go_wp2
                            go_meet
                            case rel => exact ⟨_, (false), (by first | rfl | (simp; done) | (simp [*]; done)), H', ⟨by have := HJ4.out; have := HJ7.out; have := HK3.out; first | omega | exact Nat.le_refl _⟩, by repeat (first | exact Drawn0.refl _ | apply Drawn0.step)⟩
                    case rest =>
                      clear HC41
                      try clear c1
                      try clear c2
                      try clear p2
                      try clear c3
                      try clear c4
                      try clear c4b0
                      try clear c4b1
                      try clear c6
                      try clear c6b0
                      try clear p6
                      try clear c7
                      try clear c7b0
                      try clear c7b1
                      try clear c9
                      try clear c9b0
                      try clear c10
                      try clear c10b0
                      try clear c12
                      try clear c12b0
                      try clear c12b1
                      try clear c14
                      try clear c14b0
                      try clear c16
                      try clear c16b0
                      try clear c16b1
                      try clear c18
                      try clear c19
                      try clear c19b0
                      try clear c19b1
                      try clear c20
                      try clear c20b0
                      try clear c21
                      try clear c21b0
                      try clear c21b1
                      try clear c22
                      try clear c22b0
                      try clear c22b1
                      try clear c23
                      try clear c23b0
                      try clear c24
                      try clear c24b0
                      try clear c24b1
                      try clear c25
                      try clear c25b0
                      try clear c26
                      try clear c27
                      try clear c27b0
                      try clear c27b1
                      try clear c28
                      try clear c28b0
                      try clear c29
                      try clear c29b0
                      try clear c29b1
                      try clear c30
                      try clear c30b0
                      try clear c30b1
                      try clear c31
                      try clear c31b0
                      try clear c32
                      try clear c32b0
                      try clear c32b1
                      try clear c33
                      try clear c33b0
                      try clear c34
                      try clear c34b0
                      try clear c34b1
                      try clear c34b2
                      try clear c36
                      try clear c37
                      try clear c37b0
                      try clear c38
                      try clear c38b0
                      try clear c38b1
                      try clear c39
                      try clear c40
                      try clear c40b0
                      try clear c42
                      try clear c43
                      try clear c43b0
                      try clear c44
                      try clear c44b0
                      try clear c44b1
                      try clear p2
                      try clear p6
                      obtain ⟨kq, x105_40, rfl, HA, HJ40, ⟨mc40, rfl⟩⟩ := hcut
                      cases kq with
                      | zero => exact absurd HA.out (by simp [scarabref02_Divide.j4])
                      | succ kj40 =>
                        have H := HA.out
                        clear HA
                        simp only [scarabref02_Divide.j4] at H
                        by_cases c45 : x105_40 = true
                        · subst c45
                          have H1 : (some (0, 0, 24)) = some (r1, r2, r3) := by rw [if_pos rfl] at H; exact H
                          clear H
                          have H := H1
                          clear H1
                          simp only [Option.some.injEq, Prod.mk.injEq] at H
                          obtain ⟨rfl, rfl, rfl⟩ := H
                          go_wp2
                          go_ret3
                          exact ⟨by first | rfl | (simp; done) | (simp [*]; done), by repeat (first | exact Drawn0.refl _ | apply Drawn0.step)⟩
                        · replace c45 := Bool.eq_false_iff.mpr c45
                          subst c45
                          have H1 : (if false = true then (if a0 < 0 then (some (wrap64 (-(wrap64 (x12_3))), wrap64 (-(wrap64 (x13_3))), 0)) else (some (wrap64 (-(wrap64 (x12_3))), wrap64 (x13_3), 0))) else (if a0 < 0 then (some (wrap64 (x12_3), wrap64 (-(wrap64 (x13_3))), 0)) else (some (wrap64 (x12_3), wrap64 (x13_3), 0)))) = some (r1, r2, r3) := by rw [if_neg (show ¬ (false = true) by decide)] at H; exact H
                          clear H
                          have H := H1
                          clear H1
                          have H1 : (if a0 < 0 then (some (wrap64 (x12_3), wrap64 (-(wrap64 (x13_3))), 0)) else (some (wrap64 (x12_3), wrap64 (x13_3), 0))) = some (r1, r2, r3) := by rw [if_neg (show ¬ (false = true) by decide)] at H; exact H
                          clear H
                          have H := H1
                          clear H1
                          by_cases c46 : a0 < 0
                          · rw [if_pos c46] at H
                            have c46b0 : decide (a0 < 0) = true := decide_eq_true c46
                            clear c46
                            simp only [Option.some.injEq, Prod.mk.injEq] at H
                            obtain ⟨rfl, rfl, rfl⟩ := H
                            go_wp2
                            go_ret3
                            exact ⟨by first | rfl | (simp; done) | (simp [*]; done), by repeat (first | exact Drawn0.refl _ | apply Drawn0.step)⟩
                          · rw [if_neg c46] at H
                            have c46b0 : decide (a0 < 0) = false := decide_eq_false c46
                            clear c46
                            simp only [Option.some.injEq, Prod.mk.injEq] at H
                            obtain ⟨rfl, rfl, rfl⟩ := H
                            go_wp2
                            go_ret3
                            exact ⟨by first | rfl | (simp; done) | (simp [*]; done), by repeat (first | exact Drawn0.refl _ | apply Drawn0.step)⟩

end Go.Proofs.YtckfnbjjghdaoaaDoor.Q
