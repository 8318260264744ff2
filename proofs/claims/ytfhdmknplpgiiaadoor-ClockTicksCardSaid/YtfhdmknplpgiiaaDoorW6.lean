/- Clocks, walked: join, meet, and which is under which. -/
import Derived.Test.YtfhdmknplpgiiaaDoorW2
import Derived.Test.YtfhdmknplpgiiaaDoorW4
import Derived.Test.YtfhdmknplpgiiaaDoorEq6
import Derived.Lib.Hide
import Derived.Deep.RegionWith
import Derived.Deep.Draws
namespace Go.Proofs.YtfhdmknplpgiiaaDoor.Ck
open Go.ChangeShapes Go.WideShapes Go.RowKit
set_option maxHeartbeats 1600000 in
set_option maxRecDepth 100000 in
theorem join_ok (x y : C6) (w : World) (hx : right x = true) (hy : right y = true) : Calls Tryd.prog 11 #[x.v, y.v] w fun e w' => e = .returned (.tuple #[(join x y).v, .int .i64 0]) ∧ Below w.heap.size w w' ∧ w'.heap.size = w.heap.size + 11 := by
  have hA := fun (W : World) (n : Nat) (hn : n = W.heap.size) => all_ok x y W n hn hx hy
  have hE := fun (W : World) => each_greater x y W
  simp only [box2, box, C6.v] at hA hE ⊢
  have hA' := Lib.hid hA
  have hE' := Lib.hid hE
  clear hA hx hy hE
  go_enter Tryd.func11, Tryd.ntmps11
  go_wp2_with (first
    | (go_at_call 25; ((with_reducible refine (hA'.out _ _ ?_).mono ?_); (simp); rintro e w' ⟨rfl, rfl⟩))
    | (go_at_call 26; ((with_reducible refine (hE'.out _).mono ?_); rintro e w' ⟨rfl, rfl⟩)))
  refine bodyPost_ret (v := .tuple #[(join x y).v, .int .i64 0]) (by simp [results, Tryd.results11, go_sem, C6.v]) rfl ⟨by simp only [C6.v], ?_, by simp⟩
  repeat (first | (with_reducible exact Below.refl _ _) | (with_reducible refine Below.drew ?_) | (with_reducible refine Below.alloc ?_ (by simp <;> omega) _))
set_option maxHeartbeats 1600000 in
set_option maxRecDepth 100000 in
theorem meet_ok (x y : C6) (w : World) (hx : right x = true) (hy : right y = true) : Calls Tryd.prog 12 #[x.v, y.v] w fun e w' => e = .returned (.tuple #[(meet x y).v, .int .i64 0]) ∧ Below w.heap.size w w' ∧ w'.heap.size = w.heap.size + 11 := by
  have hA := fun (W : World) (n : Nat) (hn : n = W.heap.size) => all_ok x y W n hn hx hy
  have hE := fun (W : World) => each_lesser x y W
  simp only [box2, box, C6.v] at hA hE ⊢
  have hA' := Lib.hid hA
  have hE' := Lib.hid hE
  clear hA hx hy hE
  go_enter Tryd.func12, Tryd.ntmps12
  go_wp2_with (first
    | (go_at_call 25; ((with_reducible refine (hA'.out _ _ ?_).mono ?_); (simp); rintro e w' ⟨rfl, rfl⟩))
    | (go_at_call 26; ((with_reducible refine (hE'.out _).mono ?_); rintro e w' ⟨rfl, rfl⟩)))
  refine bodyPost_ret (v := .tuple #[(meet x y).v, .int .i64 0]) (by simp [results, Tryd.results12, go_sem, C6.v]) rfl ⟨by simp only [C6.v], ?_, by simp⟩
  repeat (first | (with_reducible exact Below.refl _ _) | (with_reducible refine Below.drew ?_) | (with_reducible refine Below.alloc ?_ (by simp <;> omega) _))
set_option maxHeartbeats 1600000 in
set_option maxRecDepth 100000 in
theorem join_bad1 (x y : C6) (w : World) (hx : ¬ right x = true) : Calls Tryd.prog 11 #[x.v, y.v] w fun e w' => e = .returned (.tuple #[zero.v, .int .i64 1]) ∧ Below w.heap.size w w' := by
  have hA := fun (W : World) (n : Nat) (hn : n = W.heap.size) => all_bad1 x y W n hn hx
  simp only [box2, box, C6.v] at hA ⊢
  have hA' := Lib.hid hA
  clear hA hx
  go_enter Tryd.func11, Tryd.ntmps11
  go_wp2_with (go_at_call 25; ((with_reducible refine (hA'.out _ _ ?_).mono ?_); (simp); rintro e w' ⟨rfl, rfl⟩))
  refine bodyPost_ret (v := .tuple #[zero.v, .int .i64 1]) (by simp [results, Tryd.results11, go_sem, C6.v, zero]) rfl ⟨by simp only [C6.v], ?_⟩
  repeat (first | (with_reducible exact Below.refl _ _) | (with_reducible refine Below.drew ?_) | (with_reducible refine Below.alloc ?_ (by simp <;> omega) _))
set_option maxHeartbeats 1600000 in
set_option maxRecDepth 100000 in
theorem join_bad2 (x y : C6) (w : World) (hx : right x = true) (hy : ¬ right y = true) : Calls Tryd.prog 11 #[x.v, y.v] w fun e w' => e = .returned (.tuple #[zero.v, .int .i64 1]) ∧ Below w.heap.size w w' := by
  have hA := fun (W : World) (n : Nat) (hn : n = W.heap.size) => all_bad2 x y W n hn hx hy
  simp only [box2, box, C6.v] at hA ⊢
  have hA' := Lib.hid hA
  clear hA hx hy
  go_enter Tryd.func11, Tryd.ntmps11
  go_wp2_with (go_at_call 25; ((with_reducible refine (hA'.out _ _ ?_).mono ?_); (simp); rintro e w' ⟨rfl, rfl⟩))
  refine bodyPost_ret (v := .tuple #[zero.v, .int .i64 1]) (by simp [results, Tryd.results11, go_sem, C6.v, zero]) rfl ⟨by simp only [C6.v], ?_⟩
  repeat (first | (with_reducible exact Below.refl _ _) | (with_reducible refine Below.drew ?_) | (with_reducible refine Below.alloc ?_ (by simp <;> omega) _))
set_option maxHeartbeats 1600000 in
set_option maxRecDepth 100000 in
theorem meet_bad1 (x y : C6) (w : World) (hx : ¬ right x = true) : Calls Tryd.prog 12 #[x.v, y.v] w fun e w' => e = .returned (.tuple #[zero.v, .int .i64 1]) ∧ Below w.heap.size w w' := by
  have hA := fun (W : World) (n : Nat) (hn : n = W.heap.size) => all_bad1 x y W n hn hx
  simp only [box2, box, C6.v] at hA ⊢
  have hA' := Lib.hid hA
  clear hA hx
  go_enter Tryd.func12, Tryd.ntmps12
  go_wp2_with (go_at_call 25; ((with_reducible refine (hA'.out _ _ ?_).mono ?_); (simp); rintro e w' ⟨rfl, rfl⟩))
  refine bodyPost_ret (v := .tuple #[zero.v, .int .i64 1]) (by simp [results, Tryd.results12, go_sem, C6.v, zero]) rfl ⟨by simp only [C6.v], ?_⟩
  repeat (first | (with_reducible exact Below.refl _ _) | (with_reducible refine Below.drew ?_) | (with_reducible refine Below.alloc ?_ (by simp <;> omega) _))
set_option maxHeartbeats 1600000 in
set_option maxRecDepth 100000 in
theorem meet_bad2 (x y : C6) (w : World) (hx : right x = true) (hy : ¬ right y = true) : Calls Tryd.prog 12 #[x.v, y.v] w fun e w' => e = .returned (.tuple #[zero.v, .int .i64 1]) ∧ Below w.heap.size w w' := by
  have hA := fun (W : World) (n : Nat) (hn : n = W.heap.size) => all_bad2 x y W n hn hx hy
  simp only [box2, box, C6.v] at hA ⊢
  have hA' := Lib.hid hA
  clear hA hx hy
  go_enter Tryd.func12, Tryd.ntmps12
  go_wp2_with (go_at_call 25; ((with_reducible refine (hA'.out _ _ ?_).mono ?_); (simp); rintro e w' ⟨rfl, rfl⟩))
  refine bodyPost_ret (v := .tuple #[zero.v, .int .i64 1]) (by simp [results, Tryd.results12, go_sem, C6.v, zero]) rfl ⟨by simp only [C6.v], ?_⟩
  repeat (first | (with_reducible exact Below.refl _ _) | (with_reducible refine Below.drew ?_) | (with_reducible refine Below.alloc ?_ (by simp <;> omega) _))
set_option maxHeartbeats 1600000 in
set_option maxRecDepth 100000 in
theorem cmp_bad1 (x y : C6) (w : World) (hx : ¬ right x = true) : Calls Tryd.prog 13 #[x.v, y.v] w fun e w' => e = .returned (.tuple #[.int .i64 0, .int .i64 1]) ∧ Below w.heap.size w w' := by
  have hA := fun (W : World) (n : Nat) (hn : n = W.heap.size) => all_bad1 x y W n hn hx
  simp only [box2, box, C6.v] at hA ⊢
  have hA' := Lib.hid hA
  clear hA hx
  go_enter Tryd.func13, Tryd.ntmps13
  go_wp2_with (go_at_call 25; ((with_reducible refine (hA'.out _ _ ?_).mono ?_); (simp); rintro e w' ⟨rfl, rfl⟩))
  refine bodyPost_ret (v := .tuple #[.int .i64 0, .int .i64 1]) (by simp [results, Tryd.results13, go_sem]) rfl ⟨rfl, ?_⟩
  repeat (first | (with_reducible exact Below.refl _ _) | (with_reducible refine Below.drew ?_) | (with_reducible refine Below.alloc ?_ (by simp <;> omega) _))
set_option maxHeartbeats 1600000 in
set_option maxRecDepth 100000 in
theorem cmp_bad2 (x y : C6) (w : World) (hx : right x = true) (hy : ¬ right y = true) : Calls Tryd.prog 13 #[x.v, y.v] w fun e w' => e = .returned (.tuple #[.int .i64 0, .int .i64 1]) ∧ Below w.heap.size w w' := by
  have hA := fun (W : World) (n : Nat) (hn : n = W.heap.size) => all_bad2 x y W n hn hx hy
  simp only [box2, box, C6.v] at hA ⊢
  have hA' := Lib.hid hA
  clear hA hx hy
  go_enter Tryd.func13, Tryd.ntmps13
  go_wp2_with (go_at_call 25; ((with_reducible refine (hA'.out _ _ ?_).mono ?_); (simp); rintro e w' ⟨rfl, rfl⟩))
  refine bodyPost_ret (v := .tuple #[.int .i64 0, .int .i64 1]) (by simp [results, Tryd.results13, go_sem]) rfl ⟨rfl, ?_⟩
  repeat (first | (with_reducible exact Below.refl _ _) | (with_reducible refine Below.drew ?_) | (with_reducible refine Below.alloc ?_ (by simp <;> omega) _))
set_option maxHeartbeats 1600000 in
set_option maxRecDepth 100000 in
theorem under_walk (x y : C6) (w : World) : Calls Tryd.prog 29 #[x.v, y.v] w fun e w' => e = .returned (.bool (le x y)) ∧ w' = (((((w.alloc (box x)).alloc (box y)).alloc (box (join x y))).alloc (box y)).alloc (box (join x y))).drew.drew.drew.drew.drew.drew.drew := by
  have hE := fun (W : World) => each_greater x y W
  have hQ := fun (W : World) => eq6_run (join x y) y W
  have hg := guard23
  rw [← join_eq]
  simp only [box, C6.v] at hE hQ ⊢
  have hE' := Lib.hid hE
  clear hE
  go_enter Tryd.func29, Tryd.ntmps29
  go_wp2
  apply wp_to
  · go_region_with (go_at_call 26; ((with_reducible refine (hE'.out _).mono ?_); rintro e w' ⟨rfl, rfl⟩))
    all_goals exact To.mk _ _
  go_wp2
  go_ret
  exact ⟨rfl, rfl⟩
set_option maxHeartbeats 1600000 in
set_option maxRecDepth 100000 in
theorem cmp_ok (x y : C6) (w : World) (hx : right x = true) (hy : right y = true) : Calls Tryd.prog 13 #[x.v, y.v] w fun e w' => e = .returned (.tuple #[.int .i64 (cmp x y), .int .i64 0]) ∧ Below w.heap.size w w' := by
  have hA := fun (W : World) (n : Nat) (hn : n = W.heap.size) => all_ok x y W n hn hx hy
  have hU := fun (W : World) => under_walk x y W
  have hV := fun (W : World) => under_walk y x W
  have hQ := fun (W : World) => eq6_run x y W
  have hg := guard23
  have cases : (eq6 x y = true ∧ cmp x y = 0) ∨ (eq6 x y = false ∧ le x y = true ∧ cmp x y = -1) ∨ (eq6 x y = false ∧ le x y = false ∧ le y x = true ∧ cmp x y = 1) ∨ (eq6 x y = false ∧ le x y = false ∧ le y x = false ∧ cmp x y = 2) := by
    unfold cmp
    cases eq6 x y <;> cases le x y <;> cases le y x <;> simp
  simp only [box2, box, C6.v] at hA hU hV hQ ⊢
  have hA' := Lib.hid hA
  have hU' := Lib.hid hU
  have hV' := Lib.hid hV
  clear hA hx hy hU hV
  rcases cases with ⟨c0, c⟩ | ⟨c0, c1, c⟩ | ⟨c0, c1, c2, c⟩ | ⟨c0, c1, c2, c⟩
  all_goals
    rw [c]
    clear c
    go_enter Tryd.func13, Tryd.ntmps13
    go_wp2_with (first
      | (go_at_call 25; ((with_reducible refine (hA'.out _ _ ?_).mono ?_); (simp); rintro e w' ⟨rfl, rfl⟩))
      | (go_at_call 29; first | ((with_reducible refine (hU'.out _).mono ?_); rintro e w' ⟨rfl, rfl⟩) | ((with_reducible refine (hV'.out _).mono ?_); rintro e w' ⟨rfl, rfl⟩)))
    go_ret2
    refine ⟨rfl, ?_⟩
    repeat (first | (with_reducible exact Below.refl _ _) | (with_reducible refine Below.drew ?_) | (with_reducible refine Below.alloc ?_ (by simp <;> omega) _))
end Go.Proofs.YtfhdmknplpgiiaaDoor.Ck
