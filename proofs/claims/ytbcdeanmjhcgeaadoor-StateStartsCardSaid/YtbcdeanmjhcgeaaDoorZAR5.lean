/- scarabref02.Apply, walked: it gives what it gives told plainly. No condition. -/
import Derived.Test.YtbcdeanmjhcgeaaDoorZAR4
namespace Go.Proofs.YtbcdeanmjhcgeaaDoor.Alu
set_option linter.unusedVariables false
set_option linter.unusedSimpArgs false
open Go.RowKit
set_option linter.unusedVariables false
set_option linter.unusedSimpArgs false
set_option maxHeartbeats 4000000 in
set_option maxRecDepth 100000 in
theorem rarity_walk (k : Int) (h1 : 1 ≤ k) (h2 : k ≤ 36) (W : World) : Calls Tryd.prog 70 #[.int .i64 k] W fun e w' => e = .returned (.int .i64 (if k ≤ 15 then 1 else 2)) ∧ w' = W := by
  have d1 : decide (k < 1) = false := by simp; omega
  have d2 : decide (36 < k) = false := by simp; omega
  by_cases c : k ≤ 15
  · rw [if_pos c]
    have d3 : decide (k ≤ 15) = true := by simpa using c
    clear c h1 h2
    go_enter Tryd.func70, Tryd.ntmps70
    go_wp2
    go_ret
    exact ⟨rfl, rfl⟩
  · rw [if_neg c]
    have d3 : decide (k ≤ 15) = false := by simpa using c
    clear c h1 h2
    go_enter Tryd.func70, Tryd.ntmps70
    go_wp2
    go_ret
    exact ⟨rfl, rfl⟩
theorem rarity_f (k : Int) (h1 : 1 ≤ k) (h2 : k ≤ 36) (q : Nat) : Wd.scarabref02_Arity.f (q + 1) k = some (if k ≤ 15 then 1 else 2) := by
  unfold Wd.scarabref02_Arity.f
  rw [if_neg (by omega)]
  have d : decide (k > 36) = false := by simp; omega
  rw [d]
  simp only [Wd.scarabref02_Arity.j0, Bool.false_eq_true, if_false]
  split <;> rfl
set_option maxHeartbeats 4000000 in
set_option maxRecDepth 100000 in
theorem rapply_walk {k a b x y : Int} {q : Nat} (h1 : 1 ≤ k) (h2 : k ≤ 36) (h : Wd.scarabref02_Apply.f (q + 4) k a b = some (x, y)) (W : World) :
    Calls Tryd.prog 50 #[.int .i64 k, .int .i64 a, .int .i64 b] W fun e w' => e = .returned (.tuple #[.int .i64 x, .int .i64 y]) ∧ w' = W := by
  unfold Wd.scarabref02_Apply.f at h
  rw [rarity_f k h1 h2 (q + 3)] at h
  have cA := Lib.hid (fun W => rarity_walk k h1 h2 W)
  by_cases c : k ≤ 15
  · rw [if_pos c] at h
    have cA2 := cA.out
    rw [if_pos c] at cA2
    simp only [Option.bind_some, Int.reduceEq, if_true, if_false] at h
    obtain ⟨t, ht, h⟩ := Option.bind_eq_some_iff.1 h
    obtain ⟨rfl, rfl⟩ := Prod.mk.inj (Option.some.inj h)
    have cO := Lib.hid (rone_walk h1 c ht W)
    replace cA2 := Lib.hid cA2
    clear h ht cA
    go_enter Tryd.func50, Tryd.ntmps50
    go_wp2_with (first | (go_at_call 71; ((with_reducible refine (cO.out).mono ?_); rintro e w' ⟨rfl, rfl⟩)) | (go_at_call 70; ((with_reducible refine (cA2.out _).mono ?_); rintro e w' ⟨rfl, rfl⟩)))
    refine bodyPost_ret (results_tmp2 rfl _ _ _) rfl ?_
    exact ⟨rfl, rfl⟩
  · rw [if_neg c] at h
    have cA2 := cA.out
    rw [if_neg c] at cA2
    simp only [Option.bind_some, Int.reduceEq, if_true, if_false] at h
    obtain ⟨t, ht, h⟩ := Option.bind_eq_some_iff.1 h
    obtain ⟨rfl, rfl⟩ := Prod.mk.inj (Option.some.inj h)
    have cO := Lib.hid (rtwo_walk (by omega) h2 ht W)
    replace cA2 := Lib.hid cA2
    clear h ht cA
    go_enter Tryd.func50, Tryd.ntmps50
    go_wp2_with (first | (go_at_call 72; ((with_reducible refine (cO.out).mono ?_); rintro e w' ⟨rfl, rfl⟩)) | (go_at_call 70; ((with_reducible refine (cA2.out _).mono ?_); rintro e w' ⟨rfl, rfl⟩)))
    refine bodyPost_ret (results_tmp2 rfl _ _ _) rfl ?_
    exact ⟨rfl, rfl⟩
end Go.Proofs.YtbcdeanmjhcgeaaDoor.Alu
