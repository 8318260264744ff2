/- Clocks, walked: the reference's join, meet and order. -/
import Derived.Test.YtfhdmknplpgiiaaDoorW8
import Derived.Test.YtfhdmknplpgiiaaDoorEq6
namespace Go.Proofs.YtfhdmknplpgiiaaDoor.Ck
open Go.ChangeShapes Go.WideShapes Go.RowKit
theorem below_drewN {B : Nat} {a w : World} (h : Below B a w) (n : Nat) : Below B a (w.drewN n) := ⟨h.os, h.tape, h.output, h.size, h.block⟩
def mixJ (x y : C6) : Nat → C6
  | 0 => ⟨x.a, x.b, x.c, x.d, x.e, x.f⟩
  | 1 => ⟨max x.a y.a, x.b, x.c, x.d, x.e, x.f⟩
  | 2 => ⟨max x.a y.a, max x.b y.b, x.c, x.d, x.e, x.f⟩
  | 3 => ⟨max x.a y.a, max x.b y.b, max x.c y.c, x.d, x.e, x.f⟩
  | 4 => ⟨max x.a y.a, max x.b y.b, max x.c y.c, max x.d y.d, x.e, x.f⟩
  | 5 => ⟨max x.a y.a, max x.b y.b, max x.c y.c, max x.d y.d, max x.e y.e, x.f⟩
  | _ => join x y
def wJ (x y : C6) (w : World) : World := ((w.alloc (box x)).alloc (box y)).alloc (.cells #[.int .i64 0, .int .i64 0, .int .i64 0, .int .i64 0, .int .i64 0, .int .i64 0] 23)
def RelJ (x y : C6) (w : World) (i : Value) (wr : World) : Prop := ∃ k : Nat, k ≤ 6 ∧ i = .int .i64 k ∧ ∃ n, wr = (wJ (mixJ x y k) y w).drewN n
set_option maxHeartbeats 3200000 in
set_option maxRecDepth 100000 in
theorem ref_join (x y : C6) (w : World) : Calls Tryd.prog 16 #[x.v, y.v] w fun e w' => e = .returned (join x y).v ∧ Below w.heap.size w w' ∧ w'.heap.size = w.heap.size + 3 := by
  have hds : ∀ (W : World) (n : Nat) (p : Addr) (u : Value), (W.drewN n).setCell p u = (W.setCell p u).drewN n := fun _ _ _ _ => rfl
  simp only [C6.v]
  go_enter Tryd.func16, Tryd.ntmps16
  go_wp2
  go_loopw [6] (fun i wr => RelJ x y w i wr) (fun i _ => 6 - (intOf i).toNat)
  case atStart => exact ⟨0, by omega, rfl, 0, rfl⟩
  case round =>
    obtain ⟨k, hk, rfl, n, rfl⟩ := hrel
    match k, hk with
    | 0, _ =>
      simp only [wJ, box, mixJ]
      go_wp2
      go_region
      go_wp2
      all_goals
        refine ⟨⟨1, by omega, rfl, n + 1, ?_⟩, by simp [intOf]⟩
        simp only [wJ, box, mixJ]
        first
          | rw [Int.max_eq_right (show x.a ≤ y.a by omega)]
          | rw [Int.max_eq_left (show y.a ≤ x.a by omega)]
    | 1, _ =>
      simp only [wJ, box, mixJ]
      go_wp2
      go_region
      go_wp2
      all_goals
        refine ⟨⟨2, by omega, rfl, n + 1, ?_⟩, by simp [intOf]⟩
        simp only [wJ, box, mixJ]
        first
          | rw [Int.max_eq_right (show x.b ≤ y.b by omega)]
          | rw [Int.max_eq_left (show y.b ≤ x.b by omega)]
    | 2, _ =>
      simp only [wJ, box, mixJ]
      go_wp2
      go_region
      go_wp2
      all_goals
        refine ⟨⟨3, by omega, rfl, n + 1, ?_⟩, by simp [intOf]⟩
        simp only [wJ, box, mixJ]
        first
          | rw [Int.max_eq_right (show x.c ≤ y.c by omega)]
          | rw [Int.max_eq_left (show y.c ≤ x.c by omega)]
    | 3, _ =>
      simp only [wJ, box, mixJ]
      go_wp2
      go_region
      go_wp2
      all_goals
        refine ⟨⟨4, by omega, rfl, n + 1, ?_⟩, by simp [intOf]⟩
        simp only [wJ, box, mixJ]
        first
          | rw [Int.max_eq_right (show x.d ≤ y.d by omega)]
          | rw [Int.max_eq_left (show y.d ≤ x.d by omega)]
    | 4, _ =>
      simp only [wJ, box, mixJ]
      go_wp2
      go_region
      go_wp2
      all_goals
        refine ⟨⟨5, by omega, rfl, n + 1, ?_⟩, by simp [intOf]⟩
        simp only [wJ, box, mixJ]
        first
          | rw [Int.max_eq_right (show x.e ≤ y.e by omega)]
          | rw [Int.max_eq_left (show y.e ≤ x.e by omega)]
    | 5, _ =>
      simp only [wJ, box, mixJ]
      go_wp2
      go_region
      go_wp2
      all_goals
        refine ⟨⟨6, by omega, rfl, n + 1, ?_⟩, by simp [intOf]⟩
        simp only [wJ, box, mixJ, join]
        first
          | rw [Int.max_eq_right (show x.f ≤ y.f by omega)]
          | rw [Int.max_eq_left (show y.f ≤ x.f by omega)]
    | 6, _ =>
      simp only [wJ, box, mixJ]
      go_wp2
      refine bodyPost_ret (v := (join x y).v) (by simp [results, Tryd.results16, go_sem, C6.v]) rfl ⟨rfl, ?_, by simp⟩
      repeat (first | (with_reducible exact Below.refl _ _) | (with_reducible refine below_drewN ?_ _) | (with_reducible refine Below.drew ?_) | (with_reducible refine Below.alloc ?_ (by simp <;> omega) _))
def mixM (x y : C6) : Nat → C6
  | 0 => ⟨x.a, x.b, x.c, x.d, x.e, x.f⟩
  | 1 => ⟨min x.a y.a, x.b, x.c, x.d, x.e, x.f⟩
  | 2 => ⟨min x.a y.a, min x.b y.b, x.c, x.d, x.e, x.f⟩
  | 3 => ⟨min x.a y.a, min x.b y.b, min x.c y.c, x.d, x.e, x.f⟩
  | 4 => ⟨min x.a y.a, min x.b y.b, min x.c y.c, min x.d y.d, x.e, x.f⟩
  | 5 => ⟨min x.a y.a, min x.b y.b, min x.c y.c, min x.d y.d, min x.e y.e, x.f⟩
  | _ => meet x y
def wM (x y : C6) (w : World) : World := ((w.alloc (box x)).alloc (box y)).alloc (.cells #[.int .i64 0, .int .i64 0, .int .i64 0, .int .i64 0, .int .i64 0, .int .i64 0] 23)
def RelM (x y : C6) (w : World) (i : Value) (wr : World) : Prop := ∃ k : Nat, k ≤ 6 ∧ i = .int .i64 k ∧ ∃ n, wr = (wM (mixM x y k) y w).drewN n
set_option maxHeartbeats 3200000 in
set_option maxRecDepth 100000 in
theorem ref_meet (x y : C6) (w : World) : Calls Tryd.prog 17 #[x.v, y.v] w fun e w' => e = .returned (meet x y).v ∧ Below w.heap.size w w' ∧ w'.heap.size = w.heap.size + 3 := by
  have hds : ∀ (W : World) (n : Nat) (p : Addr) (u : Value), (W.drewN n).setCell p u = (W.setCell p u).drewN n := fun _ _ _ _ => rfl
  simp only [C6.v]
  go_enter Tryd.func17, Tryd.ntmps17
  go_wp2
  go_loopw [6] (fun i wr => RelM x y w i wr) (fun i _ => 6 - (intOf i).toNat)
  case atStart => exact ⟨0, by omega, rfl, 0, rfl⟩
  case round =>
    obtain ⟨k, hk, rfl, n, rfl⟩ := hrel
    match k, hk with
    | 0, _ =>
      simp only [wM, box, mixM]
      go_wp2
      go_region
      go_wp2
      all_goals
        refine ⟨⟨1, by omega, rfl, n + 1, ?_⟩, by simp [intOf]⟩
        simp only [wM, box, mixM]
        first
          | rw [Int.min_eq_left (show x.a ≤ y.a by omega)]
          | rw [Int.min_eq_right (show y.a ≤ x.a by omega)]
    | 1, _ =>
      simp only [wM, box, mixM]
      go_wp2
      go_region
      go_wp2
      all_goals
        refine ⟨⟨2, by omega, rfl, n + 1, ?_⟩, by simp [intOf]⟩
        simp only [wM, box, mixM]
        first
          | rw [Int.min_eq_left (show x.b ≤ y.b by omega)]
          | rw [Int.min_eq_right (show y.b ≤ x.b by omega)]
    | 2, _ =>
      simp only [wM, box, mixM]
      go_wp2
      go_region
      go_wp2
      all_goals
        refine ⟨⟨3, by omega, rfl, n + 1, ?_⟩, by simp [intOf]⟩
        simp only [wM, box, mixM]
        first
          | rw [Int.min_eq_left (show x.c ≤ y.c by omega)]
          | rw [Int.min_eq_right (show y.c ≤ x.c by omega)]
    | 3, _ =>
      simp only [wM, box, mixM]
      go_wp2
      go_region
      go_wp2
      all_goals
        refine ⟨⟨4, by omega, rfl, n + 1, ?_⟩, by simp [intOf]⟩
        simp only [wM, box, mixM]
        first
          | rw [Int.min_eq_left (show x.d ≤ y.d by omega)]
          | rw [Int.min_eq_right (show y.d ≤ x.d by omega)]
    | 4, _ =>
      simp only [wM, box, mixM]
      go_wp2
      go_region
      go_wp2
      all_goals
        refine ⟨⟨5, by omega, rfl, n + 1, ?_⟩, by simp [intOf]⟩
        simp only [wM, box, mixM]
        first
          | rw [Int.min_eq_left (show x.e ≤ y.e by omega)]
          | rw [Int.min_eq_right (show y.e ≤ x.e by omega)]
    | 5, _ =>
      simp only [wM, box, mixM]
      go_wp2
      go_region
      go_wp2
      all_goals
        refine ⟨⟨6, by omega, rfl, n + 1, ?_⟩, by simp [intOf]⟩
        simp only [wM, box, mixM, meet]
        first
          | rw [Int.min_eq_left (show x.f ≤ y.f by omega)]
          | rw [Int.min_eq_right (show y.f ≤ x.f by omega)]
    | 6, _ =>
      simp only [wM, box, mixM]
      go_wp2
      refine bodyPost_ret (v := (meet x y).v) (by simp [results, Tryd.results17, go_sem, C6.v]) rfl ⟨rfl, ?_, by simp⟩
      repeat (first | (with_reducible exact Below.refl _ _) | (with_reducible refine below_drewN ?_ _) | (with_reducible refine Below.drew ?_) | (with_reducible refine Below.alloc ?_ (by simp <;> omega) _))
set_option maxHeartbeats 1600000 in
set_option maxRecDepth 100000 in
theorem ref_cmp (x y : C6) (w : World) : Calls Tryd.prog 18 #[x.v, y.v] w fun e w' => e = .returned (.int .i64 (cmp x y)) ∧ Below w.heap.size w w' := by
  have hU := fun (W : World) => le_walk x y W
  have hV := fun (W : World) => le_walk y x W
  have hQ := fun (W : World) => eq6_run x y W
  have hg := guard23
  have cases : (eq6 x y = true ∧ cmp x y = 0) ∨ (eq6 x y = false ∧ le x y = true ∧ cmp x y = -1) ∨ (eq6 x y = false ∧ le x y = false ∧ le y x = true ∧ cmp x y = 1) ∨ (eq6 x y = false ∧ le x y = false ∧ le y x = false ∧ cmp x y = 2) := by
    unfold cmp
    cases eq6 x y <;> cases le x y <;> cases le y x <;> simp
  simp only [box, C6.v] at hU hV hQ ⊢
  have hU' := Lib.hid hU
  have hV' := Lib.hid hV
  clear hU hV
  rcases cases with ⟨c0, c⟩ | ⟨c0, c1, c⟩ | ⟨c0, c1, c2, c⟩ | ⟨c0, c1, c2, c⟩
  all_goals
    rw [c]
    clear c
    go_enter Tryd.func18, Tryd.ntmps18
    go_wp2_with (go_at_call 30; first | ((with_reducible refine (hU'.out _).mono ?_); rintro e w' ⟨rfl, n, rfl⟩) | ((with_reducible refine (hV'.out _).mono ?_); rintro e w' ⟨rfl, n, rfl⟩))
    go_ret
    refine ⟨rfl, ?_⟩
    repeat (first | (with_reducible exact Below.refl _ _) | (with_reducible refine below_drewN ?_ _) | (with_reducible refine Below.drew ?_) | (with_reducible refine Below.alloc ?_ (by simp <;> omega) _))
end Go.Proofs.YtfhdmknplpgiiaaDoor.Ck
