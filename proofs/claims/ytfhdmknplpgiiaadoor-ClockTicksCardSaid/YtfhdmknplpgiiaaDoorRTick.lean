/- Clocks, walked: the reference's tick. -/
import Derived.Test.YtfhdmknplpgiiaaDoorW5
namespace Go.Proofs.YtfhdmknplpgiiaaDoor.Ck
open Go.ChangeShapes Go.WideShapes Go.RowKit
set_option maxHeartbeats 4000000 in
set_option maxRecDepth 100000 in
theorem rtick_ok (x : C6) (k : Nat) (hk : k < 6) (w : World) (hx : right x = true) (hn : ¬ x.nth k = 1073741824) : Calls Tryd.prog 19 #[x.v, .int .i64 k] w fun e w' => e = .returned (.tuple #[(tick x k).v, .int .i64 0]) ∧ Below w.heap.size w w' := by
  have b0 := nth_bound hx k hk
  have hr := fun W => right_walk x W
  rw [hx] at hr
  match k, hk with
  | 0, _ | 1, _ | 2, _ | 3, _ | 4, _ | 5, _ =>
    simp only [C6.nth] at hn b0
    obtain ⟨b1, b2⟩ := b0
    clear hx
    simp only [C6.v, box] at hr ⊢
    have hr' := Lib.hid hr
    clear hr
    go_enter Tryd.func19, Tryd.ntmps19
    go_wp2_with (go_at_call 24; ((with_reducible refine (hr'.out _).mono ?_); rintro e w' ⟨rfl, rfl⟩))
    refine bodyPost_ret (v := .tuple #[(tick x _).v, .int .i64 0]) (by simp [results, Tryd.results19, go_sem, C6.v, tick]) rfl ⟨rfl, ?_⟩
    repeat (first | (with_reducible exact Below.refl _ _) | (with_reducible refine Below.drew ?_) | (with_reducible refine Below.alloc ?_ (by simp <;> omega) _))
set_option maxHeartbeats 4000000 in
set_option maxRecDepth 100000 in
theorem rtick_long (x : C6) (k : Nat) (hk : k < 6) (w : World) (hx : right x = true) (hn : x.nth k = 1073741824) : Calls Tryd.prog 19 #[x.v, .int .i64 k] w fun e w' => e = .returned (.tuple #[zero.v, .int .i64 2]) ∧ Below w.heap.size w w' := by
  have hr := fun W => right_walk x W
  rw [hx] at hr
  match k, hk with
  | 0, _ | 1, _ | 2, _ | 3, _ | 4, _ | 5, _ =>
    simp only [C6.nth] at hn
    have hb := beq_iff_eq.2 hn
    clear hx hn
    simp only [C6.v, box] at hr ⊢
    have hr' := Lib.hid hr
    clear hr
    go_enter Tryd.func19, Tryd.ntmps19
    go_wp2_with (go_at_call 24; ((with_reducible refine (hr'.out _).mono ?_); rintro e w' ⟨rfl, rfl⟩))
    refine bodyPost_ret (v := .tuple #[zero.v, .int .i64 2]) (by simp [results, Tryd.results19, go_sem, C6.v, zero]) rfl ⟨rfl, ?_⟩
    repeat (first | (with_reducible exact Below.refl _ _) | (with_reducible refine Below.drew ?_) | (with_reducible refine Below.alloc ?_ (by simp <;> omega) _))
set_option maxHeartbeats 4000000 in
set_option maxRecDepth 100000 in
theorem rtick_bad (x : C6) (g : Int) (w : World) (hx : ¬ right x = true) : Calls Tryd.prog 19 #[x.v, .int .i64 g] w fun e w' => e = .returned (.tuple #[zero.v, .int .i64 1]) ∧ Below w.heap.size w w' := by
    have hr := fun W => right_walk x W
    rw [show right x = false by simpa using hx] at hr
    clear hx
    simp only [C6.v, box] at hr ⊢
    have hr' := Lib.hid hr
    clear hr
    go_enter Tryd.func19, Tryd.ntmps19
    go_wp2_with (go_at_call 24; ((with_reducible refine (hr'.out _).mono ?_); rintro e w' ⟨rfl, rfl⟩))
    refine bodyPost_ret (v := .tuple #[zero.v, .int .i64 1]) (by simp [results, Tryd.results19, go_sem, C6.v, zero]) rfl ⟨rfl, ?_⟩
    repeat (first | (with_reducible exact Below.refl _ _) | (with_reducible refine Below.drew ?_) | (with_reducible refine Below.alloc ?_ (by simp <;> omega) _))
set_option maxHeartbeats 4000000 in
set_option maxRecDepth 100000 in
theorem rtick_out (x : C6) (g : Int) (w : World) (hx : right x = true) (hg : g < 0 ∨ 6 ≤ g) : Calls Tryd.prog 19 #[x.v, .int .i64 g] w fun e w' => e = .returned (.tuple #[zero.v, .int .i64 1]) ∧ Below w.heap.size w w' := by
  have hr := fun W => right_walk x W
  rw [hx] at hr
  clear hx
  simp only [C6.v, box] at hr ⊢
  have hr' := Lib.hid hr
  clear hr
  rcases hg with hg | hg
  · go_enter Tryd.func19, Tryd.ntmps19
    go_wp2_with (go_at_call 24; ((with_reducible refine (hr'.out _).mono ?_); rintro e w' ⟨rfl, rfl⟩))
    refine bodyPost_ret (v := .tuple #[zero.v, .int .i64 1]) (by simp [results, Tryd.results19, go_sem, C6.v, zero]) rfl ⟨rfl, ?_⟩
    repeat (first | (with_reducible exact Below.refl _ _) | (with_reducible refine Below.drew ?_) | (with_reducible refine Below.alloc ?_ (by simp <;> omega) _))
  · have hg' : ¬ g < 0 := by omega
    go_enter Tryd.func19, Tryd.ntmps19
    go_wp2_with (go_at_call 24; ((with_reducible refine (hr'.out _).mono ?_); rintro e w' ⟨rfl, rfl⟩))
    refine bodyPost_ret (v := .tuple #[zero.v, .int .i64 1]) (by simp [results, Tryd.results19, go_sem, C6.v, zero]) rfl ⟨rfl, ?_⟩
    repeat (first | (with_reducible exact Below.refl _ _) | (with_reducible refine Below.drew ?_) | (with_reducible refine Below.alloc ?_ (by simp <;> omega) _))
/-- What a tick answers. -/
def tickR (x : C6) (g : Int) : C6 × Int :=
  if right x = true then if 0 ≤ g ∧ g < 6 then if x.nth g.toNat = 1073741824 then (zero, 2) else (tick x g.toNat, 0) else (zero, 1) else (zero, 1)
theorem tick_walk (x : C6) (g : Int) (w : World) : Calls Tryd.prog 14 #[x.v, .int .i64 g] w fun e w' => e = .returned (.tuple #[(tickR x g).1.v, .int .i64 (tickR x g).2]) ∧ Below w.heap.size w w' := by
  unfold tickR
  by_cases hx : right x = true
  · rw [if_pos hx]
    by_cases hg : 0 ≤ g ∧ g < 6
    · rw [if_pos hg]
      obtain ⟨k, rfl⟩ : ∃ k : Nat, g = k := ⟨g.toNat, by omega⟩
      rw [Int.toNat_natCast]
      by_cases hn : x.nth k = 1073741824
      · rw [if_pos hn]; exact tick_long x k (by omega) w hx hn
      · rw [if_neg hn]; exact tick_ok x k (by omega) w hx hn
    · rw [if_neg hg]; exact tick_out x g w hx (by omega)
  · rw [if_neg hx]; exact tick_bad x g w hx
theorem rtick_walk (x : C6) (g : Int) (w : World) : Calls Tryd.prog 19 #[x.v, .int .i64 g] w fun e w' => e = .returned (.tuple #[(tickR x g).1.v, .int .i64 (tickR x g).2]) ∧ Below w.heap.size w w' := by
  unfold tickR
  by_cases hx : right x = true
  · rw [if_pos hx]
    by_cases hg : 0 ≤ g ∧ g < 6
    · rw [if_pos hg]
      obtain ⟨k, rfl⟩ : ∃ k : Nat, g = k := ⟨g.toNat, by omega⟩
      rw [Int.toNat_natCast]
      by_cases hn : x.nth k = 1073741824
      · rw [if_pos hn]; exact rtick_long x k (by omega) w hx hn
      · rw [if_neg hn]; exact rtick_ok x k (by omega) w hx hn
    · rw [if_neg hg]; exact rtick_out x g w hx (by omega)
  · rw [if_neg hx]; exact rtick_bad x g w hx
end Go.Proofs.YtfhdmknplpgiiaaDoor.Ck
