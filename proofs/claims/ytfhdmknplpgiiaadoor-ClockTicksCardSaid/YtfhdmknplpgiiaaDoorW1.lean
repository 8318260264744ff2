/- Clocks, walked: what the reference says, and the two choices. -/
import Derived.Test.YtfhdmknplpgiiaaDoorW0
import Derived.Deep.Draws
namespace Go.Proofs.YtfhdmknplpgiiaaDoor.Ck
open Go.ChangeShapes Go.WideShapes Go.RowKit
theorem right_no (x : C6) (h : ¬ ((0 ≤ x.a ∧ x.a ≤ 1073741824) ∧ (0 ≤ x.b ∧ x.b ≤ 1073741824) ∧ (0 ≤ x.c ∧ x.c ≤ 1073741824) ∧ (0 ≤ x.d ∧ x.d ≤ 1073741824) ∧ (0 ≤ x.e ∧ x.e ≤ 1073741824) ∧ (0 ≤ x.f ∧ x.f ≤ 1073741824))) : right x = false := by
  rw [← Bool.not_eq_true]; exact fun k => h ((right_iff x).1 k)
theorem le_no (x y : C6) (h : ¬ (x.a ≤ y.a ∧ x.b ≤ y.b ∧ x.c ≤ y.c ∧ x.d ≤ y.d ∧ x.e ≤ y.e ∧ x.f ≤ y.f)) : le x y = false := by
  rw [← Bool.not_eq_true]; exact fun k => h ((le_iff x y).1 k)
set_option maxHeartbeats 4000000 in
set_option maxRecDepth 100000 in
theorem right_walk (x : C6) (w : World) : Calls Tryd.prog 24 #[x.v] w fun e w' => e = .returned (.bool (right x)) ∧ w' = w.alloc (box x) := by
  obtain ⟨a, b, c, d, e, f⟩ := x
  have i0 := ix0; have i1 := ix1; have i2 := ix2; have i3 := ix3; have i4 := ix4; have i5 := ix5
  unfold C6.v
  go_enter Tryd.func24, Tryd.ntmps24
  go_wp2
  refine wp_loop_rounds 7 ?_
  iterate 7 all_goals (try (rw [rounds_succ]; go_wp2))
  all_goals go_ret
  all_goals refine ⟨?_, rfl⟩
  all_goals clear i0 i1 i2 i3 i4 i5
  all_goals first | (rw [right_no _ (by simp only []; omega)]; rfl) | (rw [(right_iff _).2 (by simp only []; omega)]; rfl)
set_option maxHeartbeats 4000000 in
set_option maxRecDepth 100000 in
theorem greater_walk (x y : Int) (w : World) : Calls Tryd.prog 27 #[.int .i64 x, .int .i64 y] w fun e w' => e = .returned (.int .i64 (max x y)) ∧ w' = w := by
  go_enter Tryd.func27, Tryd.ntmps27
  go_wp2
  all_goals go_ret
  · exact ⟨by rw [Int.max_eq_right (by omega)]; rfl, rfl⟩
  · exact ⟨by rw [Int.max_eq_left (by omega)]; rfl, rfl⟩
set_option maxHeartbeats 4000000 in
set_option maxRecDepth 100000 in
theorem lesser_walk (x y : Int) (w : World) : Calls Tryd.prog 28 #[.int .i64 x, .int .i64 y] w fun e w' => e = .returned (.int .i64 (min x y)) ∧ w' = w := by
  go_enter Tryd.func28, Tryd.ntmps28
  go_wp2
  all_goals go_ret
  · exact ⟨by rw [Int.min_eq_right (by omega)]; rfl, rfl⟩
  · exact ⟨by rw [Int.min_eq_left (by omega)]; rfl, rfl⟩
set_option maxHeartbeats 4000000 in
set_option maxRecDepth 100000 in
theorem le_walk (x y : C6) (w : World) : Calls Tryd.prog 30 #[x.v, y.v] w fun e w' => e = .returned (.bool (le x y)) ∧ ∃ n, w' = ((w.alloc (box x)).alloc (box y)).drewN n := by
  obtain ⟨a, b, c, d, e, f⟩ := x
  obtain ⟨g, h, i, j, k, l⟩ := y
  unfold C6.v
  go_enter Tryd.func30, Tryd.ntmps30
  go_wp2
  refine wp_loop_rounds 7 ?_
  iterate 7 all_goals (try (rw [rounds_succ]; go_wp2; (try (go_region; go_wp2))))
  all_goals go_ret
  all_goals refine ⟨?_, by first | exact ⟨1, rfl⟩ | exact ⟨2, rfl⟩ | exact ⟨3, rfl⟩ | exact ⟨4, rfl⟩ | exact ⟨5, rfl⟩ | exact ⟨6, rfl⟩⟩
  all_goals first | (rw [(le_iff _ _).2 (by simp only []; omega)]; rfl) | (rw [le_no _ _ (by simp only []; omega)]; rfl)
end Go.Proofs.YtfhdmknplpgiiaaDoor.Ck
