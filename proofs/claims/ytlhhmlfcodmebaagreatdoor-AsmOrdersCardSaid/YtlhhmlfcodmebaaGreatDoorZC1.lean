/- The checker of programs, walked: the small parts. -/
import Derived.Test.YtlhhmlfcodmebaaGreatDoorZa
import Derived.Test.YtlhhmlfcodmebaaGreatDoorProg
import Derived.WalkKit
import GoSem.Claim
import Derived.Below
import Derived.Lib.Hide
namespace Go.Proofs.YtlhhmlfcodmebaaGreatDoor.Pg
set_option linter.unusedVariables false
set_option linter.unusedSimpArgs false
open Go.ChangeShapes Go.WideShapes Go.RowKit
set_option maxHeartbeats 1600000 in
set_option maxRecDepth 100000 in
theorem within_walk (n m : Int) (w : World) (hm : I64 m) : Calls Tryz.prog 120 #[.int .i64 n, .int .i64 m] w fun e w' => e = .returned (.bool (decide (0 ≤ n ∧ n < m))) ∧ w' = w := by
  obtain ⟨h0, h1⟩ := hm
  go_enter Tryz.func120, Tryz.ntmps120
  go_wp2
  all_goals go_ret
  · exact ⟨by rw [show (decide (0 ≤ n ∧ n < m)) = decide (n < m) by simp; omega]; rfl, rfl⟩
  · exact ⟨by rw [show (decide (0 ≤ n) && decide (n < m)) = false by simp; omega]; rfl, rfl⟩
set_option maxHeartbeats 1600000 in
set_option maxRecDepth 100000 in
theorem object_walk (n m : Int) (w : World) (hm : I64 m) : Calls Tryz.prog 95 #[.int .i64 n, .int .i64 m] w fun e w' => e = .returned (.int .i64 (obj n m)) ∧ w' = w := by
  have cW := Lib.hid (fun w => within_walk n m w hm)
  clear hm
  by_cases h : 0 ≤ n ∧ n < m
  · rw [show obj n m = 0 from if_pos h]
    rw [show decide (0 ≤ n ∧ n < m) = true by simpa using h] at cW
    clear h
    go_enter Tryz.func95, Tryz.ntmps95
    go_wp2_with (go_at_call 120; ((with_reducible refine (cW.out _).mono ?_); rintro e w' ⟨rfl, rfl⟩))
    go_ret
    exact ⟨rfl, rfl⟩
  · rw [show obj n m = 36 from if_neg h]
    rw [show decide (0 ≤ n ∧ n < m) = false by simpa using h] at cW
    clear h
    go_enter Tryz.func95, Tryz.ntmps95
    go_wp2_with (go_at_call 120; ((with_reducible refine (cW.out _).mono ?_); rintro e w' ⟨rfl, rfl⟩))
    go_ret
    exact ⟨rfl, rfl⟩
set_option maxHeartbeats 1600000 in
set_option maxRecDepth 100000 in
theorem form_walk (op : Int) (w : World) : Calls Tryz.prog 66 #[.int .i64 op] w fun e w' => e = .returned (.string (form op)) ∧ w' = w := by
  go_enter Tryz.func66, Tryz.ntmps66
  go_wp2
  all_goals go_ret
  all_goals refine ⟨?_, rfl⟩
  all_goals simp only [beq_iff_eq, beq_eq_false_iff_ne, ne_eq] at *
  all_goals unfold form
  all_goals repeat (first | rw [if_pos (by omega)] | rw [if_neg (by omega)])
  all_goals rfl
set_option maxHeartbeats 1600000 in
set_option maxRecDepth 100000 in
theorem rform_walk (op : Int) (w : World) : Calls Tryz.prog 18 #[.int .i64 op] w fun e w' => e = .returned (.string (form op)) ∧ w' = w := by
  go_enter Tryz.func18, Tryz.ntmps18
  go_wp2
  all_goals go_ret
  all_goals refine ⟨?_, rfl⟩
  all_goals simp only [beq_iff_eq, beq_eq_false_iff_ne, ne_eq] at *
  all_goals unfold form
  all_goals repeat (first | rw [if_pos (by omega)] | rw [if_neg (by omega)])
  all_goals rfl
set_option maxHeartbeats 1600000 in
set_option maxRecDepth 100000 in
theorem operands_walk (x : Ins) (w : World) (hx : x.ok) : Calls Tryz.prog 98 #[x.v] w fun e w' => e = .returned (.agg #[.int .i64 x.a, .int .i64 x.b, .int .i64 x.c, .int .i64 x.n]) ∧ w' = (w.alloc (.cells #[.int .i64 x.op, .int .i64 x.a, .int .i64 x.b, .int .i64 x.c, .int .i64 x.n] 51)).alloc (.cells #[.int .i64 x.a, .int .i64 x.b, .int .i64 x.c, .int .i64 x.n] 130) := by
  obtain ⟨⟨_, _⟩, ⟨_, _⟩, ⟨_, _⟩, ⟨_, _⟩, ⟨_, _⟩⟩ := hx
  obtain ⟨op, a, b, c, n⟩ := x
  unfold Ins.v
  go_enter Tryz.func98, Tryz.ntmps98
  go_wp2
  refine bodyPost_ret (v := .agg #[.int .i64 a, .int .i64 b, .int .i64 c, .int .i64 n]) (by simp [results, Tryz.results98, go_sem]) rfl ⟨rfl, rfl⟩
set_option maxHeartbeats 1600000 in
set_option maxRecDepth 100000 in
theorem rlocal_walk (op : Int) (w : World) : Calls Tryz.prog 101 #[.int .i64 op] w fun e w' => e = .returned (.bool (loc op)) ∧ w' = w := by
  rcases (show (op < 1) ∨ (1 ≤ op ∧ op ≤ 36) ∨ (36 < op ∧ op < 40) ∨ (40 ≤ op ∧ op ≤ 45) ∨ (45 < op) by omega) with h | ⟨h, k⟩ | ⟨h, k⟩ | ⟨h, k⟩ | h
  all_goals go_enter Tryz.func101, Tryz.ntmps101
  all_goals go_wp2
  all_goals go_ret
  all_goals refine ⟨?_, rfl⟩
  all_goals first | (rw [show loc op = true by unfold loc; simp; omega]; first | rfl | (simp; omega)) | (rw [show loc op = false by unfold loc; simp; omega]; first | rfl | (simp; omega))
set_option maxHeartbeats 1600000 in
set_option maxRecDepth 100000 in
theorem rvisible_walk (op : Int) (w : World) : Calls Tryz.prog 102 #[.int .i64 op] w fun e w' => e = .returned (.bool (vis op)) ∧ w' = w := by
  rcases (show (op < 50) ∨ (50 ≤ op ∧ op ≤ 65) ∨ (65 < op) by omega) with h | ⟨h, k⟩ | h
  all_goals go_enter Tryz.func102, Tryz.ntmps102
  all_goals go_wp2
  all_goals go_ret
  all_goals refine ⟨?_, rfl⟩
  all_goals first | (rw [show vis op = true by unfold vis; simp; omega]; first | rfl | (simp; omega)) | (rw [show vis op = false by unfold vis; simp; omega]; first | rfl | (simp; omega))
set_option maxHeartbeats 1600000 in
set_option maxRecDepth 100000 in
theorem rwithin_walk (n m : Int) (w : World) (hm : I64 m) : Calls Tryz.prog 100 #[.int .i64 n, .int .i64 m] w fun e w' => e = .returned (.bool (decide (0 ≤ n ∧ n < m))) ∧ w' = w := by
  obtain ⟨h0, h1⟩ := hm
  go_enter Tryz.func100, Tryz.ntmps100
  go_wp2
  all_goals go_ret
  · exact ⟨by rw [show (decide (0 ≤ n ∧ n < m)) = decide (n < m) by simp; omega]; rfl, rfl⟩
  · exact ⟨by rw [show (decide (0 ≤ n) && decide (n < m)) = false by simp; omega]; rfl, rfl⟩
end Go.Proofs.YtlhhmlfcodmebaaGreatDoor.Pg
