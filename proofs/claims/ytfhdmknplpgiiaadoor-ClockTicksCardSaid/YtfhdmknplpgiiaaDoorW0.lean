/- Clocks, walked: Check. -/
import Derived.Test.YtfhdmknplpgiiaaDoorProg
import Derived.Test.YtfhdmknplpgiiaaDoorCk
import Derived.WalkKit
import Derived.LoopN
import GoSem.Claim
import Derived.Below
namespace Go.Proofs.YtfhdmknplpgiiaaDoor.Ck
open Go.ChangeShapes Go.WideShapes Go.RowKit
theorem ix0 (v0 v1 v2 v3 v4 v5 : Value) (w : World) : (Instr.index 23 (.agg #[v0, v1, v2, v3, v4, v5]) (.int .i64 0)).run Tryd.prog w = .ok v0 w := by kernel_rfl
theorem ix1 (v0 v1 v2 v3 v4 v5 : Value) (w : World) : (Instr.index 23 (.agg #[v0, v1, v2, v3, v4, v5]) (.int .i64 1)).run Tryd.prog w = .ok v1 w := by kernel_rfl
theorem ix2 (v0 v1 v2 v3 v4 v5 : Value) (w : World) : (Instr.index 23 (.agg #[v0, v1, v2, v3, v4, v5]) (.int .i64 2)).run Tryd.prog w = .ok v2 w := by kernel_rfl
theorem ix3 (v0 v1 v2 v3 v4 v5 : Value) (w : World) : (Instr.index 23 (.agg #[v0, v1, v2, v3, v4, v5]) (.int .i64 3)).run Tryd.prog w = .ok v3 w := by kernel_rfl
theorem ix4 (v0 v1 v2 v3 v4 v5 : Value) (w : World) : (Instr.index 23 (.agg #[v0, v1, v2, v3, v4, v5]) (.int .i64 4)).run Tryd.prog w = .ok v4 w := by kernel_rfl
theorem ix5 (v0 v1 v2 v3 v4 v5 : Value) (w : World) : (Instr.index 23 (.agg #[v0, v1, v2, v3, v4, v5]) (.int .i64 5)).run Tryd.prog w = .ok v5 w := by kernel_rfl
/-- A clock in memory. -/
def box (x : C6) : Obj := .cells #[.int .i64 x.a, .int .i64 x.b, .int .i64 x.c, .int .i64 x.d, .int .i64 x.e, .int .i64 x.f] 23
/-- What Check answers. -/
def chk (x : C6) : Int := if right x = true then 0 else 1
theorem chk_ok {x : C6} (h : right x = true) : chk x = 0 := if_pos h
theorem chk_of (x : C6) (h : (0 ≤ x.a ∧ x.a ≤ 1073741824) ∧ (0 ≤ x.b ∧ x.b ≤ 1073741824) ∧ (0 ≤ x.c ∧ x.c ≤ 1073741824) ∧ (0 ≤ x.d ∧ x.d ≤ 1073741824) ∧ (0 ≤ x.e ∧ x.e ≤ 1073741824) ∧ (0 ≤ x.f ∧ x.f ≤ 1073741824)) : chk x = 0 := if_pos ((right_iff x).2 h)
theorem chk_no (x : C6) (h : ¬ ((0 ≤ x.a ∧ x.a ≤ 1073741824) ∧ (0 ≤ x.b ∧ x.b ≤ 1073741824) ∧ (0 ≤ x.c ∧ x.c ≤ 1073741824) ∧ (0 ≤ x.d ∧ x.d ≤ 1073741824) ∧ (0 ≤ x.e ∧ x.e ≤ 1073741824) ∧ (0 ≤ x.f ∧ x.f ≤ 1073741824))) : chk x = 1 := if_neg (fun k => h ((right_iff x).1 k))
set_option maxHeartbeats 4000000 in
set_option maxRecDepth 100000 in
theorem check_walk (x : C6) (w : World) : Calls Tryd.prog 15 #[x.v] w fun e w' => e = .returned (.int .i64 (chk x)) ∧ w' = w.alloc (box x) := by
  obtain ⟨a, b, c, d, e, f⟩ := x
  have i0 := ix0; have i1 := ix1; have i2 := ix2; have i3 := ix3; have i4 := ix4; have i5 := ix5
  unfold C6.v
  go_enter Tryd.func15, Tryd.ntmps15
  go_wp2
  refine wp_loop_rounds 7 ?_
  iterate 7 all_goals (try (rw [rounds_succ]; go_wp2))
  all_goals go_ret
  all_goals refine ⟨?_, rfl⟩
  all_goals clear i0 i1 i2 i3 i4 i5
  all_goals first | (rw [chk_no _ (by simp only []; omega)]; rfl) | (rw [chk_of _ (by simp only []; omega)]; rfl)
end Go.Proofs.YtfhdmknplpgiiaaDoor.Ck
