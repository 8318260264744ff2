/- The checker of programs, walked: the small parts. -/
import Derived.Test.YtbcdeanmjhcgeaaDoorZa
import Derived.Test.YtbcdeanmjhcgeaaDoorProg
import Derived.WalkKit
import GoSem.Claim
import Derived.Below
import Derived.Lib.Hide
namespace Go.Proofs.YtbcdeanmjhcgeaaDoor.Pg
set_option linter.unusedVariables false
set_option linter.unusedSimpArgs false
open Go.ChangeShapes Go.WideShapes Go.RowKit
set_option maxHeartbeats 1600000 in
set_option maxRecDepth 100000 in
theorem within_walk (n m : Int) (w : World) (hm : I64 m) : Calls Tryd.prog 104 #[.int .i64 n, .int .i64 m] w fun e w' => e = .returned (.bool (decide (0 ≤ n ∧ n < m))) ∧ w' = w := by
  obtain ⟨h0, h1⟩ := hm
  go_enter Tryd.func104, Tryd.ntmps104
  go_wp2
  all_goals go_ret
  · exact ⟨by rw [show (decide (0 ≤ n ∧ n < m)) = decide (n < m) by simp; omega]; rfl, rfl⟩
  · exact ⟨by rw [show (decide (0 ≤ n) && decide (n < m)) = false by simp; omega]; rfl, rfl⟩
set_option maxHeartbeats 1600000 in
set_option maxRecDepth 100000 in
theorem object_walk (n m : Int) (w : World) (hm : I64 m) : Calls Tryd.prog 82 #[.int .i64 n, .int .i64 m] w fun e w' => e = .returned (.int .i64 (obj n m)) ∧ w' = w := by
  have cW := Lib.hid (fun w => within_walk n m w hm)
  clear hm
  by_cases h : 0 ≤ n ∧ n < m
  · rw [show obj n m = 0 from if_pos h]
    rw [show decide (0 ≤ n ∧ n < m) = true by simpa using h] at cW
    clear h
    go_enter Tryd.func82, Tryd.ntmps82
    go_wp2_with (go_at_call 104; ((with_reducible refine (cW.out _).mono ?_); rintro e w' ⟨rfl, rfl⟩))
    go_ret
    exact ⟨rfl, rfl⟩
  · rw [show obj n m = 36 from if_neg h]
    rw [show decide (0 ≤ n ∧ n < m) = false by simpa using h] at cW
    clear h
    go_enter Tryd.func82, Tryd.ntmps82
    go_wp2_with (go_at_call 104; ((with_reducible refine (cW.out _).mono ?_); rintro e w' ⟨rfl, rfl⟩))
    go_ret
    exact ⟨rfl, rfl⟩
set_option maxHeartbeats 1600000 in
set_option maxRecDepth 100000 in
theorem form_walk (op : Int) (w : World) : Calls Tryd.prog 85 #[.int .i64 op] w fun e w' => e = .returned (.string (form op)) ∧ w' = w := by
  go_enter Tryd.func85, Tryd.ntmps85
  go_wp2
  all_goals go_ret
  all_goals refine ⟨?_, rfl⟩
  all_goals simp only [beq_iff_eq, beq_eq_false_iff_ne, ne_eq] at *
  all_goals unfold form
  all_goals repeat (first | rw [if_pos (by omega)] | rw [if_neg (by omega)])
  all_goals rfl
set_option maxHeartbeats 1600000 in
set_option maxRecDepth 100000 in
theorem local_walk (op : Int) (w : World) : Calls Tryd.prog 47 #[.int .i64 op] w fun e w' => e = .returned (.bool (loc op)) ∧ w' = w := by
  rcases (show (op < 1) ∨ (1 ≤ op ∧ op ≤ 36) ∨ (36 < op ∧ op < 40) ∨ (40 ≤ op ∧ op ≤ 45) ∨ (45 < op) by omega) with h | ⟨h, k⟩ | ⟨h, k⟩ | ⟨h, k⟩ | h
  all_goals go_enter Tryd.func47, Tryd.ntmps47
  all_goals go_wp2
  all_goals go_ret
  all_goals refine ⟨?_, rfl⟩
  all_goals first | (rw [show loc op = true by unfold loc; simp; omega]; first | rfl | (simp; omega)) | (rw [show loc op = false by unfold loc; simp; omega]; first | rfl | (simp; omega))
set_option maxHeartbeats 1600000 in
set_option maxRecDepth 100000 in
theorem rform_walk (op : Int) (w : World) : Calls Tryd.prog 75 #[.int .i64 op] w fun e w' => e = .returned (.string (form op)) ∧ w' = w := by
  go_enter Tryd.func75, Tryd.ntmps75
  go_wp2
  all_goals go_ret
  all_goals refine ⟨?_, rfl⟩
  all_goals simp only [beq_iff_eq, beq_eq_false_iff_ne, ne_eq] at *
  all_goals unfold form
  all_goals repeat (first | rw [if_pos (by omega)] | rw [if_neg (by omega)])
  all_goals rfl
set_option maxHeartbeats 1600000 in
set_option maxRecDepth 100000 in
theorem operands_walk (x : Ins) (w : World) (hx : x.ok) : Calls Tryd.prog 86 #[x.v] w fun e w' => e = .returned (.agg #[.int .i64 x.a, .int .i64 x.b, .int .i64 x.c, .int .i64 x.n]) ∧ w' = (w.alloc (.cells #[.int .i64 x.op, .int .i64 x.a, .int .i64 x.b, .int .i64 x.c, .int .i64 x.n] 88)).alloc (.cells #[.int .i64 x.a, .int .i64 x.b, .int .i64 x.c, .int .i64 x.n] 24) := by
  obtain ⟨⟨_, _⟩, ⟨_, _⟩, ⟨_, _⟩, ⟨_, _⟩, ⟨_, _⟩⟩ := hx
  obtain ⟨op, a, b, c, n⟩ := x
  unfold Ins.v
  go_enter Tryd.func86, Tryd.ntmps86
  go_wp2
  refine bodyPost_ret (v := .agg #[.int .i64 a, .int .i64 b, .int .i64 c, .int .i64 n]) (by simp [results, Tryd.results86, go_sem]) rfl ⟨rfl, rfl⟩
set_option maxHeartbeats 1600000 in
set_option maxRecDepth 100000 in
theorem rlocal_walk (op : Int) (w : World) : Calls Tryd.prog 49 #[.int .i64 op] w fun e w' => e = .returned (.bool (loc op)) ∧ w' = w := by
  rcases (show (op < 1) ∨ (1 ≤ op ∧ op ≤ 36) ∨ (36 < op ∧ op < 40) ∨ (40 ≤ op ∧ op ≤ 45) ∨ (45 < op) by omega) with h | ⟨h, k⟩ | ⟨h, k⟩ | ⟨h, k⟩ | h
  all_goals go_enter Tryd.func49, Tryd.ntmps49
  all_goals go_wp2
  all_goals go_ret
  all_goals refine ⟨?_, rfl⟩
  all_goals first | (rw [show loc op = true by unfold loc; simp; omega]; first | rfl | (simp; omega)) | (rw [show loc op = false by unfold loc; simp; omega]; first | rfl | (simp; omega))
set_option maxHeartbeats 1600000 in
set_option maxRecDepth 100000 in
theorem rvisible_walk (op : Int) (w : World) : Calls Tryd.prog 74 #[.int .i64 op] w fun e w' => e = .returned (.bool (vis op)) ∧ w' = w := by
  rcases (show (op < 50) ∨ (50 ≤ op ∧ op ≤ 65) ∨ (65 < op) by omega) with h | ⟨h, k⟩ | h
  all_goals go_enter Tryd.func74, Tryd.ntmps74
  all_goals go_wp2
  all_goals go_ret
  all_goals refine ⟨?_, rfl⟩
  all_goals first | (rw [show vis op = true by unfold vis; simp; omega]; first | rfl | (simp; omega)) | (rw [show vis op = false by unfold vis; simp; omega]; first | rfl | (simp; omega))
set_option maxHeartbeats 1600000 in
set_option maxRecDepth 100000 in
theorem rwithin_walk (n m : Int) (w : World) (hm : I64 m) : Calls Tryd.prog 73 #[.int .i64 n, .int .i64 m] w fun e w' => e = .returned (.bool (decide (0 ≤ n ∧ n < m))) ∧ w' = w := by
  obtain ⟨h0, h1⟩ := hm
  go_enter Tryd.func73, Tryd.ntmps73
  go_wp2
  all_goals go_ret
  · exact ⟨by rw [show (decide (0 ≤ n ∧ n < m)) = decide (n < m) by simp; omega]; rfl, rfl⟩
  · exact ⟨by rw [show (decide (0 ≤ n) && decide (n < m)) = false by simp; omega]; rfl, rfl⟩
end Go.Proofs.YtbcdeanmjhcgeaaDoor.Pg
