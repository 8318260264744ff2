/- Clocks, walked: what is wrong with two, a tick, a clock's text with its test, the little clock. -/
import Derived.Test.YtfhdmknplpgiiaaDoorW3
import Derived.Test.YtfhdmknplpgiiaaDoorW4
namespace Go.Proofs.YtfhdmknplpgiiaaDoor.Ck
open Go.ChangeShapes Go.WideShapes Go.RowKit
set_option maxHeartbeats 4000000 in
set_option maxRecDepth 100000 in
theorem bad_walk (x y : C6) (w : World) : Calls Tryd.prog 9 #[x.v, y.v] w fun e w' => e = .returned (.int .i64 (chk2 x y)) ∧ Below w.heap.size w w' := by
  by_cases hx : right x = true
  · by_cases hy : right y = true
    · rw [show chk2 x y = 0 from if_pos ⟨hx, hy⟩]
      unfold C6.v
      go_enter Tryd.func9, Tryd.ntmps9
      go_wp2_with (go_at_call 24; refine (right_walk _ _).mono ?_; rintro e w' ⟨rfl, rfl⟩)
      go_ret
      exact ⟨rfl, by repeat (first | (with_reducible exact Below.refl _ _) | (with_reducible refine Below.drew ?_) | (with_reducible refine Below.alloc ?_ (by simp <;> omega) _))⟩
    · have hy' : right y = false := by simpa using hy
      rw [show chk2 x y = 1 from if_neg (fun h => hy h.2)]
      clear hy
      unfold C6.v
      go_enter Tryd.func9, Tryd.ntmps9
      go_wp2_with (go_at_call 24; refine (right_walk _ _).mono ?_; rintro e w' ⟨rfl, rfl⟩)
      go_ret
      exact ⟨rfl, by repeat (first | (with_reducible exact Below.refl _ _) | (with_reducible refine Below.drew ?_) | (with_reducible refine Below.alloc ?_ (by simp <;> omega) _))⟩
  · have hx' : right x = false := by simpa using hx
    rw [show chk2 x y = 1 from if_neg (fun h => hx h.1)]
    clear hx
    unfold C6.v
    go_enter Tryd.func9, Tryd.ntmps9
    go_wp2_with (go_at_call 24; refine (right_walk _ _).mono ?_; rintro e w' ⟨rfl, rfl⟩)
    go_ret
    exact ⟨rfl, by repeat (first | (with_reducible exact Below.refl _ _) | (with_reducible refine Below.drew ?_) | (with_reducible refine Below.alloc ?_ (by simp <;> omega) _))⟩
/-- A clock with one more at a place. -/
def tick (x : C6) : Nat → C6
  | 0 => ⟨x.a + 1, x.b, x.c, x.d, x.e, x.f⟩
  | 1 => ⟨x.a, x.b + 1, x.c, x.d, x.e, x.f⟩
  | 2 => ⟨x.a, x.b, x.c + 1, x.d, x.e, x.f⟩
  | 3 => ⟨x.a, x.b, x.c, x.d + 1, x.e, x.f⟩
  | 4 => ⟨x.a, x.b, x.c, x.d, x.e + 1, x.f⟩
  | _ => ⟨x.a, x.b, x.c, x.d, x.e, x.f + 1⟩
theorem nth_bound {x : C6} (hx : right x = true) (k : Nat) (hk : k < 6) : 0 ≤ x.nth k ∧ x.nth k ≤ 1073741824 := by
  rw [right_iff] at hx
  match k, hk with
  | 0, _ | 1, _ | 2, _ | 3, _ | 4, _ | 5, _ => simp only [C6.nth]; omega
set_option maxHeartbeats 4000000 in
set_option maxRecDepth 100000 in
theorem tick_ok (x : C6) (k : Nat) (hk : k < 6) (w : World) (hx : right x = true) (hn : ¬ x.nth k = 1073741824) : Calls Tryd.prog 14 #[x.v, .int .i64 k] w fun e w' => e = .returned (.tuple #[(tick x k).v, .int .i64 0]) ∧ Below w.heap.size w w' := by
  have c1 := chk_ok hx
  have b0 := nth_bound hx k hk
  match k, hk with
  | 0, _ | 1, _ | 2, _ | 3, _ | 4, _ | 5, _ =>
    simp only [C6.nth] at hn b0
    obtain ⟨b1, b2⟩ := b0
    clear hx
    unfold C6.v
    go_enter Tryd.func14, Tryd.ntmps14
    go_wp2_with (go_at_call 15; refine (check_walk _ _).mono ?_; rintro e w' ⟨rfl, rfl⟩)
    refine bodyPost_ret (v := .tuple #[(tick x _).v, .int .i64 0]) (by simp [results, Tryd.results14, go_sem, C6.v, tick]) rfl ⟨rfl, ?_⟩
    repeat (first | (with_reducible exact Below.refl _ _) | (with_reducible refine Below.drew ?_) | (with_reducible refine Below.alloc ?_ (by simp <;> omega) _))
set_option maxHeartbeats 4000000 in
set_option maxRecDepth 100000 in
theorem tick_long (x : C6) (k : Nat) (hk : k < 6) (w : World) (hx : right x = true) (hn : x.nth k = 1073741824) : Calls Tryd.prog 14 #[x.v, .int .i64 k] w fun e w' => e = .returned (.tuple #[zero.v, .int .i64 2]) ∧ Below w.heap.size w w' := by
  have c1 := chk_ok hx
  match k, hk with
  | 0, _ | 1, _ | 2, _ | 3, _ | 4, _ | 5, _ =>
    simp only [C6.nth] at hn
    have hb := beq_iff_eq.2 hn
    clear hx hn
    unfold C6.v
    go_enter Tryd.func14, Tryd.ntmps14
    go_wp2_with (go_at_call 15; refine (check_walk _ _).mono ?_; rintro e w' ⟨rfl, rfl⟩)
    refine bodyPost_ret (v := .tuple #[zero.v, .int .i64 2]) (by simp [results, Tryd.results14, go_sem, C6.v, zero]) rfl ⟨rfl, ?_⟩
    repeat (first | (with_reducible exact Below.refl _ _) | (with_reducible refine Below.drew ?_) | (with_reducible refine Below.alloc ?_ (by simp <;> omega) _))
set_option maxHeartbeats 4000000 in
set_option maxRecDepth 100000 in
theorem tick_bad (x : C6) (g : Int) (w : World) (hx : ¬ right x = true) : Calls Tryd.prog 14 #[x.v, .int .i64 g] w fun e w' => e = .returned (.tuple #[zero.v, .int .i64 1]) ∧ Below w.heap.size w w' := by
  have c1 := chk_bad hx
  clear hx
  unfold C6.v
  go_enter Tryd.func14, Tryd.ntmps14
  go_wp2_with (go_at_call 15; refine (check_walk _ _).mono ?_; rintro e w' ⟨rfl, rfl⟩)
  refine bodyPost_ret (v := .tuple #[zero.v, .int .i64 1]) (by simp [results, Tryd.results14, go_sem, C6.v, zero]) rfl ⟨rfl, ?_⟩
  repeat (first | (with_reducible exact Below.refl _ _) | (with_reducible refine Below.drew ?_) | (with_reducible refine Below.alloc ?_ (by simp <;> omega) _))
set_option maxHeartbeats 4000000 in
set_option maxRecDepth 100000 in
theorem tick_out (x : C6) (g : Int) (w : World) (hx : right x = true) (hg : g < 0 ∨ 6 ≤ g) : Calls Tryd.prog 14 #[x.v, .int .i64 g] w fun e w' => e = .returned (.tuple #[zero.v, .int .i64 1]) ∧ Below w.heap.size w w' := by
  have c1 := chk_ok hx
  clear hx
  unfold C6.v
  rcases hg with hg | hg
  · go_enter Tryd.func14, Tryd.ntmps14
    go_wp2_with (go_at_call 15; refine (check_walk _ _).mono ?_; rintro e w' ⟨rfl, rfl⟩)
    refine bodyPost_ret (v := .tuple #[zero.v, .int .i64 1]) (by simp [results, Tryd.results14, go_sem, C6.v, zero]) rfl ⟨rfl, ?_⟩
    repeat (first | (with_reducible exact Below.refl _ _) | (with_reducible refine Below.drew ?_) | (with_reducible refine Below.alloc ?_ (by simp <;> omega) _))
  · have hg' : ¬ g < 0 := by omega
    go_enter Tryd.func14, Tryd.ntmps14
    go_wp2_with (go_at_call 15; refine (check_walk _ _).mono ?_; rintro e w' ⟨rfl, rfl⟩)
    refine bodyPost_ret (v := .tuple #[zero.v, .int .i64 1]) (by simp [results, Tryd.results14, go_sem, C6.v, zero]) rfl ⟨rfl, ?_⟩
    repeat (first | (with_reducible exact Below.refl _ _) | (with_reducible refine Below.drew ?_) | (with_reducible refine Below.alloc ?_ (by simp <;> omega) _))
theorem small6_of {x : C6} (hx : right x = true) : small6 x := fun k hk => by have := nth_bound hx k hk; omega
set_option maxHeartbeats 4000000 in
set_option maxRecDepth 100000 in
theorem Text_ok (x : C6) (w : World) (hx : right x = true)
    (hI : ∀ k, k < 6 → ∀ W, Below w.heap.size w W → Calls Tryd.prog 36 #[.int .i64 (x.nth k)] W fun e w' => e = .returned (.string (num (x.nth k))) ∧ Below W.heap.size W w') :
    Calls Tryd.prog 20 #[x.v] w fun e w' => e = .returned (.tuple #[.string (textB x), .int .i64 0]) ∧ Below w.heap.size w w' := by
  have c1 := chk_ok hx
  have hs := Lib.hid (small6_of hx)
  have hT := Lib.hid (fun (W : World) (hb : Below w.heap.size w W) => text_walk x W (small6_of hx) (fun k hk W' hW' => hI k hk W' (hb.trans (hW'.mono hb.size))))
  clear hx hI
  unfold C6.v at hT ⊢
  go_enter Tryd.func20, Tryd.ntmps20
  go_wp2_with (first
    | (go_at_call 15; refine (check_walk _ _).mono ?_; rintro e w' ⟨rfl, rfl⟩)
    | (go_at_call 31; refine (hT.out _ (by repeat (first | (with_reducible exact Below.refl _ _) | (with_reducible refine Below.drew ?_) | (with_reducible refine Below.alloc ?_ (by simp <;> omega) _)))).mono ?_; rintro e w1 ⟨rfl, hb1⟩))
  go_ret2
  exact ⟨rfl, Below.trans (by repeat (first | (with_reducible exact Below.refl _ _) | (with_reducible refine Below.drew ?_) | (with_reducible refine Below.alloc ?_ (by simp <;> omega) _))) (hb1.mono (by simp; omega))⟩
set_option maxHeartbeats 4000000 in
set_option maxRecDepth 100000 in
theorem Text_bad (x : C6) (w : World) (hx : ¬ right x = true) :
    Calls Tryd.prog 20 #[x.v] w fun e w' => e = .returned (.tuple #[.string ⟨#[]⟩, .int .i64 1]) ∧ Below w.heap.size w w' := by
  have c1 := chk_bad hx
  clear hx
  unfold C6.v
  go_enter Tryd.func20, Tryd.ntmps20
  go_wp2_with (go_at_call 15; refine (check_walk _ _).mono ?_; rintro e w' ⟨rfl, rfl⟩)
  go_ret2
  exact ⟨rfl, by repeat (first | (with_reducible exact Below.refl _ _) | (with_reducible refine Below.drew ?_) | (with_reducible refine Below.alloc ?_ (by simp <;> omega) _))⟩
end Go.Proofs.YtfhdmknplpgiiaaDoor.Ck
