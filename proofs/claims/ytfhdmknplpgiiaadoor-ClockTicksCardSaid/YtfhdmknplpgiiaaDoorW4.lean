/- Clocks, walked: several clocks checked. -/
import Derived.Test.YtfhdmknplpgiiaaDoorW1
namespace Go.Proofs.YtfhdmknplpgiiaaDoor.Ck
open Go.ChangeShapes Go.WideShapes Go.RowKit
def chk2 (x y : C6) : Int := if right x = true ∧ right y = true then 0 else 1
/-- Two clocks in a row. -/
def box2 (x y : C6) : Obj := .cells #[.int .i64 x.a, .int .i64 x.b, .int .i64 x.c, .int .i64 x.d, .int .i64 x.e, .int .i64 x.f, .int .i64 y.a, .int .i64 y.b, .int .i64 y.c, .int .i64 y.d, .int .i64 y.e, .int .i64 y.f] 23
theorem chk_bad {x : C6} (h : ¬ right x = true) : chk x = 1 := if_neg h
set_option maxHeartbeats 4000000 in
set_option maxRecDepth 100000 in
theorem all_ok (x y : C6) (w : World) (n : Nat) (hn : n = w.heap.size) (hx : right x = true) (hy : right y = true) : Calls Tryd.prog 25 #[.slice (some ⟨n, 0, none⟩) 2 2] (w.alloc (box2 x y)) fun e w' => e = .returned (.int .i64 0) ∧ w' = ((((w.alloc (box2 x y)).alloc (box x)).alloc (box x)).alloc (box y)).alloc (box y) := by
  subst hn
  unfold box2
  have c1 := chk_ok hx
  have c2 := chk_ok hy
  clear hx hy
  go_enter Tryd.func25, Tryd.ntmps25
  go_wp2
  refine wp_loop_rounds 3 ?_
  iterate 2 rw [rounds_succ]; go_wp2_with (go_at_call 15; refine (check_walk _ _).mono ?_; rintro e w' ⟨rfl, rfl⟩)
  rw [rounds_succ]; go_wp2
  go_ret
  exact ⟨rfl, rfl⟩
set_option maxHeartbeats 4000000 in
set_option maxRecDepth 100000 in
theorem all_bad1 (x y : C6) (w : World) (n : Nat) (hn : n = w.heap.size) (hx : ¬ right x = true) : Calls Tryd.prog 25 #[.slice (some ⟨n, 0, none⟩) 2 2] (w.alloc (box2 x y)) fun e w' => e = .returned (.int .i64 1) ∧ w' = ((w.alloc (box2 x y)).alloc (box x)).alloc (box x) := by
  subst hn
  unfold box2
  have c1 := chk_bad hx
  clear hx
  go_enter Tryd.func25, Tryd.ntmps25
  go_wp2
  refine wp_loop_rounds 3 ?_
  iterate 1 rw [rounds_succ]; go_wp2_with (go_at_call 15; refine (check_walk _ _).mono ?_; rintro e w' ⟨rfl, rfl⟩)
  go_ret
  exact ⟨rfl, rfl⟩
set_option maxHeartbeats 4000000 in
set_option maxRecDepth 100000 in
theorem all_bad2 (x y : C6) (w : World) (n : Nat) (hn : n = w.heap.size) (hx : right x = true) (hy : ¬ right y = true) : Calls Tryd.prog 25 #[.slice (some ⟨n, 0, none⟩) 2 2] (w.alloc (box2 x y)) fun e w' => e = .returned (.int .i64 1) ∧ w' = ((((w.alloc (box2 x y)).alloc (box x)).alloc (box x)).alloc (box y)).alloc (box y) := by
  subst hn
  unfold box2
  have c1 := chk_ok hx
  have c2 := chk_bad hy
  clear hx hy
  go_enter Tryd.func25, Tryd.ntmps25
  go_wp2
  refine wp_loop_rounds 3 ?_
  iterate 2 rw [rounds_succ]; go_wp2_with (go_at_call 15; refine (check_walk _ _).mono ?_; rintro e w' ⟨rfl, rfl⟩)
  go_ret
  exact ⟨rfl, rfl⟩
end Go.Proofs.YtfhdmknplpgiiaaDoor.Ck
