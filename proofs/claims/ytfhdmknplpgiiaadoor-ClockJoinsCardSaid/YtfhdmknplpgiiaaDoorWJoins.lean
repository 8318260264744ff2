/- ClockJoins, walked: Check, Join, Meet and Cmp are the reference's. No condition. -/
import Derived.Test.YtfhdmknplpgiiaaDoorW9
import Derived.Test.YtfhdmknplpgiiaaDoorArr6
import Derived.Test.YtfhdmknplpgiiaaDoorKeep
import Derived.Test.YtfhdmknplpgiiaaDoorW8
import Derived.Deep.RegionHeld3
namespace Go.Proofs.YtfhdmknplpgiiaaDoor.Ck
open Go.ChangeShapes Go.WideShapes Go.RowKit
/-- The four clocks of the law, in memory. -/
def Four (w : World) (a b j m : C6) (b1 b2 : Nat) (W : World) : Prop := (∀ o, W.cell? ⟨w.heap.size, o, none⟩ = (#[.int .i64 a.a, .int .i64 a.b, .int .i64 a.c, .int .i64 a.d, .int .i64 a.e, .int .i64 a.f] : Array Value)[o]?) ∧ (∀ o, W.cell? ⟨w.heap.size + 1, o, none⟩ = (#[.int .i64 b.a, .int .i64 b.b, .int .i64 b.c, .int .i64 b.d, .int .i64 b.e, .int .i64 b.f] : Array Value)[o]?) ∧ (∀ o, W.cell? ⟨b1, o, none⟩ = (#[.int .i64 j.a, .int .i64 j.b, .int .i64 j.c, .int .i64 j.d, .int .i64 j.e, .int .i64 j.f] : Array Value)[o]?) ∧ (∀ o, W.cell? ⟨b2, o, none⟩ = (#[.int .i64 m.a, .int .i64 m.b, .int .i64 m.c, .int .i64 m.d, .int .i64 m.e, .int .i64 m.f] : Array Value)[o]?) ∧ Below w.heap.size w W ∧ w.heap.size + 1 < W.heap.size ∧ b1 < W.heap.size ∧ b2 < W.heap.size
theorem Four.next {w : World} {a b j m : C6} {b1 b2 : Nat} {W w1 : World} (h : Four w a b j m b1 b2 W) (hb : Below W.heap.size W w1) : Four w a b j m b1 b2 w1 := by
  obtain ⟨h1, h2, h3, h4, h5, h6, h7, h8⟩ := h
  have hs := hb.size
  refine ⟨fun o => ?_, fun o => ?_, fun o => ?_, fun o => ?_, h5.trans (hb.mono (by omega)), by omega, by omega, by omega⟩
  · rw [hb.cell (by simp only; omega)]; exact h1 o
  · rw [hb.cell (by simp only; omega)]; exact h2 o
  · rw [hb.cell (by simp only; omega)]; exact h3 o
  · rw [hb.cell (by simp only; omega)]; exact h4 o
theorem Four.drew {w : World} {a b j m : C6} {b1 b2 : Nat} {W : World} (h : Four w a b j m b1 b2 W) : Four w a b j m b1 b2 W.drew := h.next (Below.drew (Below.refl _ _))
theorem four_calls {w : World} {a b j m : C6} {b1 b2 : Nat} {f : Nat} {args : Array Value} {v : Value} {W : World} (h : Four w a b j m b1 b2 W) (hc : Calls Tryd.prog f args W fun e w' => e = .returned v ∧ Below W.heap.size W w') : Calls Tryd.prog f args W fun e w' => e = .returned v ∧ Four w a b j m b1 b2 w' :=
  hc.mono fun _ _ ⟨he, hb⟩ => ⟨he, h.next hb⟩
set_option maxHeartbeats 3200000 in
set_option maxRecDepth 100000 in
theorem joins_right (a b : C6) (w : World) (ha : R a) (hb : R b) : Calls Tryd.prog 5 #[a.v, b.v] w fun e w' => e = .returned (.bool true) ∧ Below w.heap.size w w' := by
  have q1 := eq_refl (join a b)
  have q2 := eq_refl (meet a b)
  have hX : ∀ W, Calls Tryd.prog 16 #[a.v, b.v] W fun e w' => e = .returned (join a b).v ∧ Below W.heap.size W w' := fun W => (ref_join a b W).mono fun e w' h => ⟨h.1, h.2.1⟩
  have hY : ∀ W, Calls Tryd.prog 17 #[a.v, b.v] W fun e w' => e = .returned (meet a b).v ∧ Below W.heap.size W w' := fun W => (ref_meet a b W).mono fun e w' h => ⟨h.1, h.2.1⟩
  have hZ : ∀ W, Calls Tryd.prog 18 #[a.v, b.v] W fun e w' => e = .returned (.int .i64 (cmp a b)) ∧ Below W.heap.size W w' := fun W => ref_cmp a b W
  have hJ : ∀ W, Calls Tryd.prog 11 #[a.v, b.v] W fun e w' => e = .returned (.tuple #[(join a b).v, .int .i64 0]) ∧ Below W.heap.size W w' := fun W => (join_ok a b W ha hb).mono fun e w' h => ⟨h.1, h.2.1⟩
  have hM : ∀ W, Calls Tryd.prog 12 #[a.v, b.v] W fun e w' => e = .returned (.tuple #[(meet a b).v, .int .i64 0]) ∧ Below W.heap.size W w' := fun W => (meet_ok a b W ha hb).mono fun e w' h => ⟨h.1, h.2.1⟩
  have hC : ∀ W, Calls Tryd.prog 13 #[a.v, b.v] W fun e w' => e = .returned (.tuple #[.int .i64 (cmp a b), .int .i64 0]) ∧ Below W.heap.size W w' := fun W => cmp_ok a b W ha hb
  have hB : ∀ W, Calls Tryd.prog 9 #[a.v, b.v] W fun e w' => e = .returned (.int .i64 0) ∧ Below W.heap.size W w' := fun W => (bad_ok a b W ha hb).mono fun e w' h => ⟨h.1, h.2.1⟩
  have hK : ∀ W, Calls Tryd.prog 15 #[a.v] W fun e w' => e = .returned (.int .i64 0) ∧ Below W.heap.size W w' := fun W => (check_walk a W).mono fun e w' h => ⟨by rw [h.1, chk_ok ha], by rw [h.2]; exact (Below.refl _ _).alloc (Nat.le_refl _) _⟩
  have hS : ∀ W, Calls Tryd.prog 9 #[a.v, a.v] W fun e w' => e = .returned (.int .i64 0) ∧ Below W.heap.size W w' := fun W => (bad_ok a a W ha ha).mono fun e w' h => ⟨h.1, h.2.1⟩
  have hQ := fun (x y : C6) (W : World) => eq6_run x y W
  have hg := guard23
  simp only [C6.v] at hJ hM hC hB hK hS hX hY hZ hQ ⊢
  have hJ' := Lib.hid hJ
  have hM' := Lib.hid hM
  have hC' := Lib.hid hC
  have hB' := Lib.hid hB
  clear hJ hM hC hB
  have acc := Below.refl w.heap.size w
  have hw1 : (w.alloc (box a)).heap.size = w.heap.size + 1 := by simp
  simp only [box] at hw1
  go_enter Tryd.func5, Tryd.ntmps5
  go_wp2_with (first
    | (go_at_call 11; ((with_reducible refine (hJ'.out _).mono ?_); rintro e w1 ⟨rfl, hb1⟩; replace acc := acc_step (B := w.heap.size) (w := w) (by repeat (first | (with_reducible exact acc) | (with_reducible refine Below.drew ?_) | (with_reducible refine Below.alloc ?_ (by first | omega | (simp <;> omega)) _))) (by first | omega | (simp <;> omega)) hb1; have a1 := keep hb1 (b := w.heap.size) (by simp; omega) (fresh2 _ _ _ _ _); have i1 := keep hb1 (b := w.heap.size + 1) (by simp) (fresh1 _ _ _ _ _); clear hb1))
    | (go_at_call 12; ((with_reducible refine (hM'.out _).mono ?_); rintro e w2 ⟨rfl, hb2⟩; replace acc := acc_step (B := w.heap.size) (w := w) (by repeat (first | (with_reducible exact acc) | (with_reducible refine Below.drew ?_) | (with_reducible refine Below.alloc ?_ (by first | omega | (simp <;> omega)) _))) (by first | omega | (simp <;> omega)) hb2; have a2 := keep hb2 (b := w.heap.size) (by have := a1.2.1; simp; omega) (a1.2.2 _ _); have i2 := keep hb2 (b := w.heap.size + 1) (by have := i1.2.1; simp; omega) (i1.2.2 _ _); have j2 := keep hb2 (b := w1.heap.size) (by simp) (fresh _ _ _); clear a1 i1; clear hb2))
    | (go_at_call 13; ((with_reducible refine (hC'.out _).mono ?_); rintro e w3 ⟨rfl, hb3⟩; replace acc := acc_step (B := w.heap.size) (w := w) (by repeat (first | (with_reducible exact acc) | (with_reducible refine Below.drew ?_) | (with_reducible refine Below.alloc ?_ (by first | omega | (simp <;> omega)) _))) (by first | omega | (simp <;> omega)) hb3; have a3 := keep hb3 (b := w.heap.size) (by have := a2.2.1; simp; omega) (a2.2.2 _ _); have i3 := keep hb3 (b := w.heap.size + 1) (by have := i2.2.1; simp; omega) (i2.2.2 _ _); have j3 := keep hb3 (b := w1.heap.size) (by have := j2.2.1; simp; omega) (j2.2.2 _ _); have m3 := keep hb3 (b := w2.heap.size) (by simp) (fresh _ _ _); clear a2 i2 j2; clear hb3))
    | (go_at_call 9; ((with_reducible refine (hB'.out _).mono ?_); rintro e w4 ⟨rfl, hb4⟩; replace acc := acc_step (B := w.heap.size) (w := w) (by repeat (first | (with_reducible exact acc) | (with_reducible refine Below.drew ?_) | (with_reducible refine Below.alloc ?_ (by first | omega | (simp <;> omega)) _))) (by first | omega | (simp <;> omega)) hb4; have a4 := keep hb4 (b := w.heap.size) a3.2.1 a3.1; have i4 := keep hb4 (b := w.heap.size + 1) i3.2.1 i3.1; have j4 := keep hb4 (b := w1.heap.size) j3.2.1 j3.1; have m4 := keep hb4 (b := w2.heap.size) m3.2.1 m3.1; clear a3 i3 j3 m3; clear hb4)))
  have F : Four w a b (join a b) (meet a b) w1.heap.size w2.heap.size w4 := ⟨a4.1, i4.1, j4.1, m4.1, acc, i4.2.1, j4.2.1, m4.2.1⟩
  clear a4 i4 j4 m4 acc hJ' hM' hC' hB'
  have hK' := Lib.hid (fun W (h : Four w a b (join a b) (meet a b) w1.heap.size w2.heap.size W) => four_calls h (hK W))
  have hS' := Lib.hid (fun W (h : Four w a b (join a b) (meet a b) w1.heap.size w2.heap.size W) => four_calls h (hS W))
  have hX' := Lib.hid (fun W (h : Four w a b (join a b) (meet a b) w1.heap.size w2.heap.size W) => four_calls h (hX W))
  have hY' := Lib.hid (fun W (h : Four w a b (join a b) (meet a b) w1.heap.size w2.heap.size W) => four_calls h (hY W))
  have hZ' := Lib.hid (fun W (h : Four w a b (join a b) (meet a b) w1.heap.size w2.heap.size W) => four_calls h (hZ W))
  clear hK hS hX hY hZ
  unfold Four at F hK' hS' hX' hY' hZ'
  go_region_held3 (fun W => (∀ o, W.cell? ⟨w.heap.size, o, none⟩ = (#[.int .i64 a.a, .int .i64 a.b, .int .i64 a.c, .int .i64 a.d, .int .i64 a.e, .int .i64 a.f] : Array Value)[o]?) ∧ (∀ o, W.cell? ⟨w.heap.size + 1, o, none⟩ = (#[.int .i64 b.a, .int .i64 b.b, .int .i64 b.c, .int .i64 b.d, .int .i64 b.e, .int .i64 b.f] : Array Value)[o]?) ∧ (∀ o, W.cell? ⟨w1.heap.size, o, none⟩ = (#[.int .i64 (join a b).a, .int .i64 (join a b).b, .int .i64 (join a b).c, .int .i64 (join a b).d, .int .i64 (join a b).e, .int .i64 (join a b).f] : Array Value)[o]?) ∧ (∀ o, W.cell? ⟨w2.heap.size, o, none⟩ = (#[.int .i64 (meet a b).a, .int .i64 (meet a b).b, .int .i64 (meet a b).c, .int .i64 (meet a b).d, .int .i64 (meet a b).e, .int .i64 (meet a b).f] : Array Value)[o]?) ∧ Below w.heap.size w W ∧ w.heap.size + 1 < W.heap.size ∧ w1.heap.size < W.heap.size ∧ w2.heap.size < W.heap.size) (first | assumption | exact Four.drew (w := w) (a := a) (b := b) (j := (join a b)) (m := (meet a b)) (b1 := w1.heap.size) (b2 := w2.heap.size) F)
    (first
      | (go_at_call 15; ((with_reducible refine (hK'.out _ (by assumption)).mono ?_); rintro e w' ⟨rfl, F'⟩))
      | (go_at_call 9; ((with_reducible refine (hS'.out _ (by assumption)).mono ?_); rintro e w' ⟨rfl, F'⟩)))
  all_goals go_wp2
  go_region_held3 (fun W => (∀ o, W.cell? ⟨w.heap.size, o, none⟩ = (#[.int .i64 a.a, .int .i64 a.b, .int .i64 a.c, .int .i64 a.d, .int .i64 a.e, .int .i64 a.f] : Array Value)[o]?) ∧ (∀ o, W.cell? ⟨w.heap.size + 1, o, none⟩ = (#[.int .i64 b.a, .int .i64 b.b, .int .i64 b.c, .int .i64 b.d, .int .i64 b.e, .int .i64 b.f] : Array Value)[o]?) ∧ (∀ o, W.cell? ⟨w1.heap.size, o, none⟩ = (#[.int .i64 (join a b).a, .int .i64 (join a b).b, .int .i64 (join a b).c, .int .i64 (join a b).d, .int .i64 (join a b).e, .int .i64 (join a b).f] : Array Value)[o]?) ∧ (∀ o, W.cell? ⟨w2.heap.size, o, none⟩ = (#[.int .i64 (meet a b).a, .int .i64 (meet a b).b, .int .i64 (meet a b).c, .int .i64 (meet a b).d, .int .i64 (meet a b).e, .int .i64 (meet a b).f] : Array Value)[o]?) ∧ Below w.heap.size w W ∧ w.heap.size + 1 < W.heap.size ∧ w1.heap.size < W.heap.size ∧ w2.heap.size < W.heap.size) (first | assumption | exact Four.drew (w := w) (a := a) (b := b) (j := (join a b)) (m := (meet a b)) (b1 := w1.heap.size) (b2 := w2.heap.size) F')
    (first
      | (go_at_call 16; ((with_reducible refine (hX'.out _ (by assumption)).mono ?_); rintro e w' ⟨rfl, F2⟩))
      | (go_at_call 17; ((with_reducible refine (hY'.out _ (by assumption)).mono ?_); rintro e w' ⟨rfl, F2⟩))
      | (go_at_call 18; ((with_reducible refine (hZ'.out _ (by assumption)).mono ?_); rintro e w' ⟨rfl, F2⟩)))
  all_goals go_wp2
  all_goals go_ret
  all_goals exact ⟨rfl, F2.2.2.2.2.1⟩
set_option maxHeartbeats 3200000 in
set_option maxRecDepth 100000 in
theorem joins_wrong (a b : C6) (w : World) (h : ¬ (R a ∧ R b)) : Calls Tryd.prog 5 #[a.v, b.v] w fun e w' => e = .returned (.bool true) ∧ Below w.heap.size w w' := by
  have q0 := fun (W : World) => eq6_run zero zero W
  rw [eq_refl zero] at q0
  simp only [C6.v, zero] at q0
  have hW := fun (W : World) => small_walk W
  have hJ : ∀ W, Calls Tryd.prog 11 #[a.v, b.v] W fun e w' => e = .returned (.tuple #[zero.v, .int .i64 1]) ∧ Below W.heap.size W w' := fun W => by
    by_cases ha : R a
    · exact join_bad2 a b W ha (fun hb => h ⟨ha, hb⟩)
    · exact join_bad1 a b W ha
  have hM : ∀ W, Calls Tryd.prog 12 #[a.v, b.v] W fun e w' => e = .returned (.tuple #[zero.v, .int .i64 1]) ∧ Below W.heap.size W w' := fun W => by
    by_cases ha : R a
    · exact meet_bad2 a b W ha (fun hb => h ⟨ha, hb⟩)
    · exact meet_bad1 a b W ha
  have hC : ∀ W, Calls Tryd.prog 13 #[a.v, b.v] W fun e w' => e = .returned (.tuple #[.int .i64 0, .int .i64 1]) ∧ Below W.heap.size W w' := fun W => by
    by_cases ha : R a
    · exact cmp_bad2 a b W ha (fun hb => h ⟨ha, hb⟩)
    · exact cmp_bad1 a b W ha
  have hB : ∀ W, Calls Tryd.prog 9 #[a.v, b.v] W fun e w' => e = .returned (.int .i64 1) ∧ Below W.heap.size W w' := fun W => bad_no a b W h
  have hK : ∀ W, Calls Tryd.prog 15 #[a.v] W fun e w' => e = .returned (.int .i64 (chk a)) ∧ Below W.heap.size W w' := fun W => (check_walk a W).mono fun e w' h => ⟨h.1, by rw [h.2]; exact (Below.refl _ _).alloc (Nat.le_refl _) _⟩
  have hS : ∀ W, Calls Tryd.prog 9 #[a.v, a.v] W fun e w' => e = .returned (.int .i64 (chk a)) ∧ Below W.heap.size W w' := fun W => by
    by_cases ha : R a
    · rw [chk_ok ha]; exact (bad_ok a a W ha ha).mono fun e w' h => ⟨h.1, h.2.1⟩
    · rw [chk_bad ha]; exact bad_no a a W (fun h => ha h.1)
  generalize chk a = d at *
  have hQ := fun (x y : C6) (W : World) => eq6_run x y W
  have hg := guard23
  simp only [C6.v, zero] at hJ hM hC hB hK hS hQ ⊢
  have hJ' := Lib.hid hJ
  have hM' := Lib.hid hM
  have hC' := Lib.hid hC
  have hB' := Lib.hid hB
  clear hJ hM hC hB
  have acc := Below.refl w.heap.size w
  have hw1 : (w.alloc (box a)).heap.size = w.heap.size + 1 := by simp
  simp only [box] at hw1
  go_enter Tryd.func5, Tryd.ntmps5
  go_wp2_with (first
    | (go_at_call 11; ((with_reducible refine (hJ'.out _).mono ?_); rintro e w1 ⟨rfl, hb1⟩; replace acc := acc_step (B := w.heap.size) (w := w) (by repeat (first | (with_reducible exact acc) | (with_reducible refine Below.drew ?_) | (with_reducible refine Below.alloc ?_ (by first | omega | (simp <;> omega)) _))) (by first | omega | (simp <;> omega)) hb1; have a1 := keep hb1 (b := w.heap.size) (by simp; omega) (fresh2 _ _ _ _ _); have i1 := keep hb1 (b := w.heap.size + 1) (by simp) (fresh1 _ _ _ _ _); clear hb1))
    | (go_at_call 12; ((with_reducible refine (hM'.out _).mono ?_); rintro e w2 ⟨rfl, hb2⟩; replace acc := acc_step (B := w.heap.size) (w := w) (by repeat (first | (with_reducible exact acc) | (with_reducible refine Below.drew ?_) | (with_reducible refine Below.alloc ?_ (by first | omega | (simp <;> omega)) _))) (by first | omega | (simp <;> omega)) hb2; have a2 := keep hb2 (b := w.heap.size) (by have := a1.2.1; simp; omega) (a1.2.2 _ _); have i2 := keep hb2 (b := w.heap.size + 1) (by have := i1.2.1; simp; omega) (i1.2.2 _ _); have j2 := keep hb2 (b := w1.heap.size) (by simp) (fresh _ _ _); clear a1 i1; clear hb2))
    | (go_at_call 13; ((with_reducible refine (hC'.out _).mono ?_); rintro e w3 ⟨rfl, hb3⟩; replace acc := acc_step (B := w.heap.size) (w := w) (by repeat (first | (with_reducible exact acc) | (with_reducible refine Below.drew ?_) | (with_reducible refine Below.alloc ?_ (by first | omega | (simp <;> omega)) _))) (by first | omega | (simp <;> omega)) hb3; have a3 := keep hb3 (b := w.heap.size) (by have := a2.2.1; simp; omega) (a2.2.2 _ _); have i3 := keep hb3 (b := w.heap.size + 1) (by have := i2.2.1; simp; omega) (i2.2.2 _ _); have j3 := keep hb3 (b := w1.heap.size) (by have := j2.2.1; simp; omega) (j2.2.2 _ _); have m3 := keep hb3 (b := w2.heap.size) (by simp) (fresh _ _ _); clear a2 i2 j2; clear hb3))
    | (go_at_call 9; ((with_reducible refine (hB'.out _).mono ?_); rintro e w4 ⟨rfl, hb4⟩; replace acc := acc_step (B := w.heap.size) (w := w) (by repeat (first | (with_reducible exact acc) | (with_reducible refine Below.drew ?_) | (with_reducible refine Below.alloc ?_ (by first | omega | (simp <;> omega)) _))) (by first | omega | (simp <;> omega)) hb4; have a4 := keep hb4 (b := w.heap.size) a3.2.1 a3.1; have i4 := keep hb4 (b := w.heap.size + 1) i3.2.1 i3.1; have j4 := keep hb4 (b := w1.heap.size) j3.2.1 j3.1; have m4 := keep hb4 (b := w2.heap.size) m3.2.1 m3.1; clear a3 i3 j3 m3; clear hb4)))
  have F : Four w a b zero zero w1.heap.size w2.heap.size w4 := ⟨a4.1, i4.1, j4.1, m4.1, acc, i4.2.1, j4.2.1, m4.2.1⟩
  clear a4 i4 j4 m4 acc hJ' hM' hC' hB'
  have hK' := Lib.hid (fun W (h : Four w a b zero zero w1.heap.size w2.heap.size W) => four_calls h (hK W))
  have hS' := Lib.hid (fun W (h : Four w a b zero zero w1.heap.size w2.heap.size W) => four_calls h (hS W))
  have hW' := Lib.hid hW
  clear hK hS hW
  unfold Four at F hK' hS'
  dsimp only [zero] at F hK' hS'
  go_region_held3 (fun W => (∀ o, W.cell? ⟨w.heap.size, o, none⟩ = (#[.int .i64 a.a, .int .i64 a.b, .int .i64 a.c, .int .i64 a.d, .int .i64 a.e, .int .i64 a.f] : Array Value)[o]?) ∧ (∀ o, W.cell? ⟨w.heap.size + 1, o, none⟩ = (#[.int .i64 b.a, .int .i64 b.b, .int .i64 b.c, .int .i64 b.d, .int .i64 b.e, .int .i64 b.f] : Array Value)[o]?) ∧ (∀ o, W.cell? ⟨w1.heap.size, o, none⟩ = (#[.int .i64 0, .int .i64 0, .int .i64 0, .int .i64 0, .int .i64 0, .int .i64 0] : Array Value)[o]?) ∧ (∀ o, W.cell? ⟨w2.heap.size, o, none⟩ = (#[.int .i64 0, .int .i64 0, .int .i64 0, .int .i64 0, .int .i64 0, .int .i64 0] : Array Value)[o]?) ∧ Below w.heap.size w W ∧ w.heap.size + 1 < W.heap.size ∧ w1.heap.size < W.heap.size ∧ w2.heap.size < W.heap.size) (first | assumption | exact Four.drew (w := w) (a := a) (b := b) (j := zero) (m := zero) (b1 := w1.heap.size) (b2 := w2.heap.size) F)
    (first
      | (go_at_call 15; ((with_reducible refine (hK'.out _ (by assumption)).mono ?_); rintro e w' ⟨rfl, F'⟩))
      | (go_at_call 9; ((with_reducible refine (hS'.out _ (by assumption)).mono ?_); rintro e w' ⟨rfl, F'⟩)))
  all_goals go_wp2_with (go_at_call 10; ((with_reducible refine (hW'.out _).mono ?_); rintro e w' ⟨rfl, hb'⟩))
  all_goals go_ret
  all_goals exact ⟨rfl, acc_step F'.2.2.2.2.1 F'.2.2.2.2.1.size hb'⟩
theorem joins_walk (a b : C6) (w : World) (_ : wf6 a) (_ : wf6 b) : Calls Tryd.prog 5 #[a.v, b.v] w fun e w' => e = .returned (.bool true) ∧ Below w.heap.size w w' := by
  by_cases h : R a ∧ R b
  · exact joins_right a b w h.1 h.2
  · exact joins_wrong a b w h
end Go.Proofs.YtfhdmknplpgiiaaDoor.Ck
