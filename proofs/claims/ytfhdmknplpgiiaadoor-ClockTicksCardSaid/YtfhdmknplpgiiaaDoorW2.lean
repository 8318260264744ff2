/- Clocks, walked: each, at the two choices. -/
import Derived.Test.YtfhdmknplpgiiaaDoorW1
import Derived.Deep.RegionWith
import Derived.StillTailTactics
namespace Go.Proofs.YtfhdmknplpgiiaaDoor.Ck
open Go.ChangeShapes Go.WideShapes Go.RowKit
/-- One way out of a piece of code, to be found: what stands there at its end. -/
def To (a1 : Act) (w1 : World) : Exit → Act → World → Prop
  | .normal, a', w' => a' = a1 ∧ w' = w1
  | _, _, _ => False
theorem To.mk (a1 : Act) (w1 : World) : To a1 w1 .normal a1 w1 := ⟨rfl, rfl⟩
theorem wp_to {P : Program} {c : Code} {Q : Exit → Act → World → Prop} {a : Act} {w : World} {a1 : Act} {w1 : World}
    (h : c.wp P (To a1 w1) a w) (k : Q .normal a1 w1) : c.wp P Q a w :=
  Code.wp_mono (fun e a' w' q => by
    cases e with
    | normal => obtain ⟨rfl, rfl⟩ := q; exact k
    | _ => exact q.elim) h
set_option maxHeartbeats 4000000 in
set_option maxRecDepth 100000 in
theorem each_greater (x y : C6) (w : World) : Calls Tryd.prog 26 #[x.v, y.v, .func (.func 27) #[] #[]] w fun e w' => e = .returned (join x y).v ∧ w' = (((w.alloc (box (join x y))).alloc (box y)).alloc (box (join x y))).drew.drew.drew.drew.drew.drew := by
  obtain ⟨a, b, c, d, e, f⟩ := x
  obtain ⟨g, h, i, j, k, l⟩ := y
  unfold C6.v
  go_enter Tryd.func26, Tryd.ntmps26
  go_wp2
  refine wp_loop_rounds 7 ?_
  iterate 6
    rw [rounds_succ]; go_wp2
    apply wp_to
    · go_region_with (go_at_call 27; refine (greater_walk _ _ _).mono ?_; rintro e w' ⟨rfl, rfl⟩)
      all_goals exact To.mk _ _
    go_wp2
  rw [rounds_succ]; go_wp2
  refine bodyPost_ret (v := (join ⟨a, b, c, d, e, f⟩ ⟨g, h, i, j, k, l⟩).v) (by simp [results, Tryd.results26, go_sem, C6.v, join]) rfl ⟨rfl, rfl⟩
set_option maxHeartbeats 4000000 in
set_option maxRecDepth 100000 in
theorem each_lesser (x y : C6) (w : World) : Calls Tryd.prog 26 #[x.v, y.v, .func (.func 28) #[] #[]] w fun e w' => e = .returned (meet x y).v ∧ w' = (((w.alloc (box (meet x y))).alloc (box y)).alloc (box (meet x y))).drew.drew.drew.drew.drew.drew := by
  obtain ⟨a, b, c, d, e, f⟩ := x
  obtain ⟨g, h, i, j, k, l⟩ := y
  unfold C6.v
  go_enter Tryd.func26, Tryd.ntmps26
  go_wp2
  refine wp_loop_rounds 7 ?_
  iterate 6
    rw [rounds_succ]; go_wp2
    apply wp_to
    · go_region_with (go_at_call 28; refine (lesser_walk _ _ _).mono ?_; rintro e w' ⟨rfl, rfl⟩)
      all_goals exact To.mk _ _
    go_wp2
  rw [rounds_succ]; go_wp2
  refine bodyPost_ret (v := (meet ⟨a, b, c, d, e, f⟩ ⟨g, h, i, j, k, l⟩).v) (by simp [results, Tryd.results26, go_sem, C6.v, meet]) rfl ⟨rfl, rfl⟩
end Go.Proofs.YtfhdmknplpgiiaaDoor.Ck
