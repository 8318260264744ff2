/- ClockTicks, walked: Tick, Text and Parse are the reference's. No condition. -/
import Derived.Test.YtfhdmknplpgiiaaDoorRTick
import Derived.Test.YtfhdmknplpgiiaaDoorRParse
import Derived.Test.YtfhdmknplpgiiaaDoorArr6
import Derived.Test.YtfhdmknplpgiiaaDoorKeep
import Derived.Test.YtfhdmknplpgiiaaDoorW8
import Derived.Test.YtfhdmknplpgiiaaDoorEq6
import Derived.Deep.RegionHeld3
namespace Go.Proofs.YtfhdmknplpgiiaaDoor.Ck
open Go.ChangeShapes Go.WideShapes Go.RowKit
/-- The five clocks of the law, in memory. -/
def Five (w : World) (a x p : C6) (b1 b2 b3 b4 : Nat) (W : World) : Prop := (∀ o, W.cell? ⟨w.heap.size, o, none⟩ = (#[.int .i64 a.a, .int .i64 a.b, .int .i64 a.c, .int .i64 a.d, .int .i64 a.e, .int .i64 a.f] : Array Value)[o]?) ∧ (∀ o, W.cell? ⟨b1, o, none⟩ = (#[.int .i64 x.a, .int .i64 x.b, .int .i64 x.c, .int .i64 x.d, .int .i64 x.e, .int .i64 x.f] : Array Value)[o]?) ∧ (∀ o, W.cell? ⟨b2, o, none⟩ = (#[.int .i64 x.a, .int .i64 x.b, .int .i64 x.c, .int .i64 x.d, .int .i64 x.e, .int .i64 x.f] : Array Value)[o]?) ∧ (∀ o, W.cell? ⟨b3, o, none⟩ = (#[.int .i64 p.a, .int .i64 p.b, .int .i64 p.c, .int .i64 p.d, .int .i64 p.e, .int .i64 p.f] : Array Value)[o]?) ∧ (∀ o, W.cell? ⟨b4, o, none⟩ = (#[.int .i64 p.a, .int .i64 p.b, .int .i64 p.c, .int .i64 p.d, .int .i64 p.e, .int .i64 p.f] : Array Value)[o]?) ∧ Below w.heap.size w W ∧ w.heap.size < W.heap.size ∧ b1 < W.heap.size ∧ b2 < W.heap.size ∧ b3 < W.heap.size ∧ b4 < W.heap.size
theorem Five.next {w : World} {a x p : C6} {b1 b2 b3 b4 : Nat} {W w1 : World} (h : Five w a x p b1 b2 b3 b4 W) (hb : Below W.heap.size W w1) : Five w a x p b1 b2 b3 b4 w1 := by
  obtain ⟨h1, h2, h3, h4, h5, h6, h7, h8, h9, h10, h11⟩ := h
  have hs := hb.size
  refine ⟨fun o => ?_, fun o => ?_, fun o => ?_, fun o => ?_, fun o => ?_, h6.trans (hb.mono (by omega)), by omega, by omega, by omega, by omega, by omega⟩
  · rw [hb.cell (by simp only; omega)]; exact h1 o
  · rw [hb.cell (by simp only; omega)]; exact h2 o
  · rw [hb.cell (by simp only; omega)]; exact h3 o
  · rw [hb.cell (by simp only; omega)]; exact h4 o
  · rw [hb.cell (by simp only; omega)]; exact h5 o
theorem Five.drew {w : World} {a x p : C6} {b1 b2 b3 b4 : Nat} {W : World} (h : Five w a x p b1 b2 b3 b4 W) : Five w a x p b1 b2 b3 b4 W.drew := h.next (Below.drew (Below.refl _ _))
theorem five_calls {w : World} {a x p : C6} {b1 b2 b3 b4 : Nat} {f : Nat} {args : Array Value} {v : Value} {W : World} (h : Five w a x p b1 b2 b3 b4 W) (hc : Calls Tryd.prog f args W fun e w' => e = .returned v ∧ Below W.heap.size W w') : Calls Tryd.prog f args W fun e w' => e = .returned v ∧ Five w a x p b1 b2 b3 b4 w' :=
  hc.mono fun _ _ ⟨he, hb⟩ => ⟨he, h.next hb⟩
set_option maxHeartbeats 3200000 in
set_option maxRecDepth 100000 in
theorem ticks_right (a : C6) (g : Int) (s : ByteArray) (w : World) (E : Env w) (ha : R a) : Calls Tryd.prog 7 #[a.v, .int .i64 g, .string s] w fun e w' => e = .returned (.bool true) ∧ Below w.heap.size w w' := by
  have h14 := fun W (_ : Below w.heap.size w W) => tick_walk a g W
  have h19 := fun W (_ : Below w.heap.size w W) => rtick_walk a g W
  have h21 := fun W (hb : Below w.heap.size w W) => parse_walk s W (E.below hb)
  have h22 := fun W (hb : Below w.heap.size w W) => rparse_walk s W (E.below hb)
  have h20 := fun W (hb : Below w.heap.size w W) => Text_ok a W ha (fun k hk W' hW' => itoa_env _ (small6_of ha k hk).1 (small6_of ha k hk).2 W' (E.below (hb.trans (hW'.mono hb.size))))
  have h23 := fun W (hb : Below w.heap.size w W) => rtext_walk a W (small6_of ha) (E.below hb)
  have h9 : ∀ W, Below w.heap.size w W → Calls Tryd.prog 9 #[a.v, a.v] W fun e w' => e = .returned (.int .i64 0) ∧ Below W.heap.size W w' := fun W _ => (bad_ok a a W ha ha).mono fun _ _ h => ⟨h.1, h.2.1⟩
  generalize textB a = t at *
  have hZ := fun W => small_walk W
  have hQ := fun (x y : C6) (W : World) => eq6_run x y W
  have hg := guard23
  generalize tickR a g = xr at *
  generalize pres s = pr at *
  obtain ⟨x, xe⟩ := xr
  obtain ⟨p, pe⟩ := pr
  have q1 := eq_refl x
  have q2 := eq_refl p
  clear E
  simp only [C6.v] at h14 h19 h20 h21 h22 h9 h23 hQ ⊢
  have h14' := Lib.hid h14
  have h19' := Lib.hid h19
  have h20' := Lib.hid h20
  have h21' := Lib.hid h21
  have h22' := Lib.hid h22
  have h9' := Lib.hid h9
  have hZ' := Lib.hid hZ
  have h23' := Lib.hid h23
  clear h14 h19 h20 h21 h22 h9 hZ h23
  have acc := Below.refl w.heap.size w
  go_enter Tryd.func7, Tryd.ntmps7
  go_wp2_with (first
    | (go_at_call 14; ((with_reducible refine (h14'.out _ (by repeat (first | (with_reducible exact acc) | (with_reducible refine Below.drew ?_) | (with_reducible refine Below.alloc ?_ (by first | omega | (simp <;> omega)) _)))).mono ?_); rintro e w1 ⟨rfl, hb1⟩; replace acc := acc_step (B := w.heap.size) (w := w) (by repeat (first | (with_reducible exact acc) | (with_reducible refine Below.drew ?_) | (with_reducible refine Below.alloc ?_ (by first | omega | (simp <;> omega)) _))) (by first | exact acc.size | omega | (simp <;> omega)) hb1; have ka1 := keep hb1 (b := w.heap.size) (by simp) (fresh _ _ _); clear hb1))
    | (go_at_call 19; ((with_reducible refine (h19'.out _ (by repeat (first | (with_reducible exact acc) | (with_reducible refine Below.drew ?_) | (with_reducible refine Below.alloc ?_ (by first | omega | (simp <;> omega)) _)))).mono ?_); rintro e w2 ⟨rfl, hb2⟩; replace acc := acc_step (B := w.heap.size) (w := w) (by repeat (first | (with_reducible exact acc) | (with_reducible refine Below.drew ?_) | (with_reducible refine Below.alloc ?_ (by first | omega | (simp <;> omega)) _))) (by first | exact acc.size | omega | (simp <;> omega)) hb2; have ka2 := keep hb2 (b := w.heap.size) (by have := ka1.2.1; simp; omega) (ka1.2.2 _ _); have kx2 := keep hb2 (b := w1.heap.size) (by simp) (fresh _ _ _); clear ka1; clear hb2))
    | (go_at_call 20; ((with_reducible refine (h20'.out _ (by repeat (first | (with_reducible exact acc) | (with_reducible refine Below.drew ?_) | (with_reducible refine Below.alloc ?_ (by first | omega | (simp <;> omega)) _)))).mono ?_); rintro e w3 ⟨rfl, hb3⟩; replace acc := acc_step (B := w.heap.size) (w := w) (by repeat (first | (with_reducible exact acc) | (with_reducible refine Below.drew ?_) | (with_reducible refine Below.alloc ?_ (by first | omega | (simp <;> omega)) _))) (by first | exact acc.size | omega | (simp <;> omega)) hb3; have ka3 := keep hb3 (b := w.heap.size) (by have := ka2.2.1; simp; omega) (ka2.2.2 _ _); have kx3 := keep hb3 (b := w1.heap.size) (by have := kx2.2.1; simp; omega) (kx2.2.2 _ _); have ky3 := keep hb3 (b := w2.heap.size) (by simp) (fresh _ _ _); clear ka2 kx2; clear hb3))
    | (go_at_call 21; ((with_reducible refine (h21'.out _ (by repeat (first | (with_reducible exact acc) | (with_reducible refine Below.drew ?_) | (with_reducible refine Below.alloc ?_ (by first | omega | (simp <;> omega)) _)))).mono ?_); rintro e w4 ⟨rfl, hb4⟩; replace acc := acc_step (B := w.heap.size) (w := w) (by repeat (first | (with_reducible exact acc) | (with_reducible refine Below.drew ?_) | (with_reducible refine Below.alloc ?_ (by first | omega | (simp <;> omega)) _))) (by first | exact acc.size | omega | (simp <;> omega)) hb4; have ka4 := keep hb4 (b := w.heap.size) ka3.2.1 ka3.1; have kx4 := keep hb4 (b := w1.heap.size) kx3.2.1 kx3.1; have ky4 := keep hb4 (b := w2.heap.size) ky3.2.1 ky3.1; clear ka3 kx3 ky3; clear hb4))
    | (go_at_call 22; ((with_reducible refine (h22'.out _ (by repeat (first | (with_reducible exact acc) | (with_reducible refine Below.drew ?_) | (with_reducible refine Below.alloc ?_ (by first | omega | (simp <;> omega)) _)))).mono ?_); rintro e w5 ⟨rfl, hb5⟩; replace acc := acc_step (B := w.heap.size) (w := w) (by repeat (first | (with_reducible exact acc) | (with_reducible refine Below.drew ?_) | (with_reducible refine Below.alloc ?_ (by first | omega | (simp <;> omega)) _))) (by first | exact acc.size | omega | (simp <;> omega)) hb5; have ka5 := keep hb5 (b := w.heap.size) (by have := ka4.2.1; simp; omega) (ka4.2.2 _ _); have kx5 := keep hb5 (b := w1.heap.size) (by have := kx4.2.1; simp; omega) (kx4.2.2 _ _); have ky5 := keep hb5 (b := w2.heap.size) (by have := ky4.2.1; simp; omega) (ky4.2.2 _ _); have kp5 := keep hb5 (b := w4.heap.size) (by simp) (fresh _ _ _); clear ka4 kx4 ky4; clear hb5))
    | (go_at_call 9; first | ((with_reducible refine (h9'.out _ (by repeat (first | (with_reducible exact acc) | (with_reducible refine Below.drew ?_) | (with_reducible refine Below.alloc ?_ (by first | omega | (simp <;> omega)) _)))).mono ?_); rintro e w6 ⟨rfl, hb6⟩; replace acc := acc_step (B := w.heap.size) (w := w) (by repeat (first | (with_reducible exact acc) | (with_reducible refine Below.drew ?_) | (with_reducible refine Below.alloc ?_ (by first | omega | (simp <;> omega)) _))) (by first | exact acc.size | omega | (simp <;> omega)) hb6; have ka6 := keep hb6 (b := w.heap.size) (by have := ka5.2.1; simp; omega) (ka5.2.2 _ _); have kx6 := keep hb6 (b := w1.heap.size) (by have := kx5.2.1; simp; omega) (kx5.2.2 _ _); have ky6 := keep hb6 (b := w2.heap.size) (by have := ky5.2.1; simp; omega) (ky5.2.2 _ _); have kp6 := keep hb6 (b := w4.heap.size) (by have := kp5.2.1; simp; omega) (kp5.2.2 _ _); have kq6 := keep hb6 (b := w5.heap.size) (by simp) (fresh _ _ _); clear ka5 kx5 ky5 kp5; clear hb6) | ((with_reducible refine (h9'.out _ (by repeat (first | (with_reducible exact acc) | (with_reducible refine Below.drew ?_) | (with_reducible refine Below.alloc ?_ (by first | omega | (simp <;> omega)) _)))).mono ?_); rintro e w8 ⟨rfl, hb8⟩; replace acc := acc_step (B := w.heap.size) (w := w) (by repeat (first | (with_reducible exact acc) | (with_reducible refine Below.drew ?_) | (with_reducible refine Below.alloc ?_ (by first | omega | (simp <;> omega)) _))) (by first | exact acc.size | omega | (simp <;> omega)) hb8; have ka8 := keep hb8 (b := w.heap.size) ka7.2.1 ka7.1; have kx8 := keep hb8 (b := w1.heap.size) kx7.2.1 kx7.1; have ky8 := keep hb8 (b := w2.heap.size) ky7.2.1 ky7.1; have kp8 := keep hb8 (b := w4.heap.size) kp7.2.1 kp7.1; have kq8 := keep hb8 (b := w5.heap.size) kq7.2.1 kq7.1; clear ka7 kx7 ky7 kp7 kq7; clear hb8))
    | (go_at_call 10; ((with_reducible refine (hZ'.out _).mono ?_); rintro e w9 ⟨rfl, hb9⟩; replace acc := acc_step (B := w.heap.size) (w := w) (by repeat (first | (with_reducible exact acc) | (with_reducible refine Below.drew ?_) | (with_reducible refine Below.alloc ?_ (by first | omega | (simp <;> omega)) _))) (by first | exact acc.size | omega | (simp <;> omega)) hb9; skip; clear hb9))
    | (go_at_call 23; ((with_reducible refine (h23'.out _ (by repeat (first | (with_reducible exact acc) | (with_reducible refine Below.drew ?_) | (with_reducible refine Below.alloc ?_ (by first | omega | (simp <;> omega)) _)))).mono ?_); rintro e w7 ⟨rfl, hb7⟩; replace acc := acc_step (B := w.heap.size) (w := w) (by repeat (first | (with_reducible exact acc) | (with_reducible refine Below.drew ?_) | (with_reducible refine Below.alloc ?_ (by first | omega | (simp <;> omega)) _))) (by first | exact acc.size | omega | (simp <;> omega)) hb7; have ka7 := keep hb7 (b := w.heap.size) ka6.2.1 ka6.1; have kx7 := keep hb7 (b := w1.heap.size) kx6.2.1 kx6.1; have ky7 := keep hb7 (b := w2.heap.size) ky6.2.1 ky6.1; have kp7 := keep hb7 (b := w4.heap.size) kp6.2.1 kp6.1; have kq7 := keep hb7 (b := w5.heap.size) kq6.2.1 kq6.1; clear ka6 kx6 ky6 kp6 kq6; clear hb7)))
  go_ret
  exact ⟨rfl, acc⟩
set_option maxHeartbeats 3200000 in
set_option maxRecDepth 100000 in
theorem ticks_wrong (a : C6) (g : Int) (s : ByteArray) (w : World) (E : Env w) (ha : ¬ R a) : Calls Tryd.prog 7 #[a.v, .int .i64 g, .string s] w fun e w' => e = .returned (.bool true) ∧ Below w.heap.size w w' := by
  have h14 := fun W (_ : Below w.heap.size w W) => tick_walk a g W
  have h19 := fun W (_ : Below w.heap.size w W) => rtick_walk a g W
  have h21 := fun W (hb : Below w.heap.size w W) => parse_walk s W (E.below hb)
  have h22 := fun W (hb : Below w.heap.size w W) => rparse_walk s W (E.below hb)
  have h20 := fun W (_ : Below w.heap.size w W) => Text_bad a W ha
  have h9 : ∀ W, Below w.heap.size w W → Calls Tryd.prog 9 #[a.v, a.v] W fun e w' => e = .returned (.int .i64 1) ∧ Below W.heap.size W w' := fun W _ => bad_no a a W (fun h => ha h.1)
  have hZ := fun W => small_walk W
  have hQ := fun (x y : C6) (W : World) => eq6_run x y W
  have hg := guard23
  generalize tickR a g = xr at *
  generalize pres s = pr at *
  obtain ⟨x, xe⟩ := xr
  obtain ⟨p, pe⟩ := pr
  have q1 := eq_refl x
  have q2 := eq_refl p
  clear E
  simp only [C6.v] at h14 h19 h20 h21 h22 h9 hQ ⊢
  have h14' := Lib.hid h14
  have h19' := Lib.hid h19
  have h20' := Lib.hid h20
  have h21' := Lib.hid h21
  have h22' := Lib.hid h22
  have h9' := Lib.hid h9
  have hZ' := Lib.hid hZ
  clear h14 h19 h20 h21 h22 h9 hZ
  have acc := Below.refl w.heap.size w
  go_enter Tryd.func7, Tryd.ntmps7
  go_wp2_with (first
    | (go_at_call 14; ((with_reducible refine (h14'.out _ (by repeat (first | (with_reducible exact acc) | (with_reducible refine Below.drew ?_) | (with_reducible refine Below.alloc ?_ (by first | omega | (simp <;> omega)) _)))).mono ?_); rintro e w1 ⟨rfl, hb1⟩; replace acc := acc_step (B := w.heap.size) (w := w) (by repeat (first | (with_reducible exact acc) | (with_reducible refine Below.drew ?_) | (with_reducible refine Below.alloc ?_ (by first | omega | (simp <;> omega)) _))) (by first | exact acc.size | omega | (simp <;> omega)) hb1; have ka1 := keep hb1 (b := w.heap.size) (by simp) (fresh _ _ _); clear hb1))
    | (go_at_call 19; ((with_reducible refine (h19'.out _ (by repeat (first | (with_reducible exact acc) | (with_reducible refine Below.drew ?_) | (with_reducible refine Below.alloc ?_ (by first | omega | (simp <;> omega)) _)))).mono ?_); rintro e w2 ⟨rfl, hb2⟩; replace acc := acc_step (B := w.heap.size) (w := w) (by repeat (first | (with_reducible exact acc) | (with_reducible refine Below.drew ?_) | (with_reducible refine Below.alloc ?_ (by first | omega | (simp <;> omega)) _))) (by first | exact acc.size | omega | (simp <;> omega)) hb2; have ka2 := keep hb2 (b := w.heap.size) (by have := ka1.2.1; simp; omega) (ka1.2.2 _ _); have kx2 := keep hb2 (b := w1.heap.size) (by simp) (fresh _ _ _); clear ka1; clear hb2))
    | (go_at_call 20; ((with_reducible refine (h20'.out _ (by repeat (first | (with_reducible exact acc) | (with_reducible refine Below.drew ?_) | (with_reducible refine Below.alloc ?_ (by first | omega | (simp <;> omega)) _)))).mono ?_); rintro e w3 ⟨rfl, hb3⟩; replace acc := acc_step (B := w.heap.size) (w := w) (by repeat (first | (with_reducible exact acc) | (with_reducible refine Below.drew ?_) | (with_reducible refine Below.alloc ?_ (by first | omega | (simp <;> omega)) _))) (by first | exact acc.size | omega | (simp <;> omega)) hb3; have ka3 := keep hb3 (b := w.heap.size) (by have := ka2.2.1; simp; omega) (ka2.2.2 _ _); have kx3 := keep hb3 (b := w1.heap.size) (by have := kx2.2.1; simp; omega) (kx2.2.2 _ _); have ky3 := keep hb3 (b := w2.heap.size) (by simp) (fresh _ _ _); clear ka2 kx2; clear hb3))
    | (go_at_call 21; ((with_reducible refine (h21'.out _ (by repeat (first | (with_reducible exact acc) | (with_reducible refine Below.drew ?_) | (with_reducible refine Below.alloc ?_ (by first | omega | (simp <;> omega)) _)))).mono ?_); rintro e w4 ⟨rfl, hb4⟩; replace acc := acc_step (B := w.heap.size) (w := w) (by repeat (first | (with_reducible exact acc) | (with_reducible refine Below.drew ?_) | (with_reducible refine Below.alloc ?_ (by first | omega | (simp <;> omega)) _))) (by first | exact acc.size | omega | (simp <;> omega)) hb4; have ka4 := keep hb4 (b := w.heap.size) ka3.2.1 ka3.1; have kx4 := keep hb4 (b := w1.heap.size) kx3.2.1 kx3.1; have ky4 := keep hb4 (b := w2.heap.size) ky3.2.1 ky3.1; clear ka3 kx3 ky3; clear hb4))
    | (go_at_call 22; ((with_reducible refine (h22'.out _ (by repeat (first | (with_reducible exact acc) | (with_reducible refine Below.drew ?_) | (with_reducible refine Below.alloc ?_ (by first | omega | (simp <;> omega)) _)))).mono ?_); rintro e w5 ⟨rfl, hb5⟩; replace acc := acc_step (B := w.heap.size) (w := w) (by repeat (first | (with_reducible exact acc) | (with_reducible refine Below.drew ?_) | (with_reducible refine Below.alloc ?_ (by first | omega | (simp <;> omega)) _))) (by first | exact acc.size | omega | (simp <;> omega)) hb5; have ka5 := keep hb5 (b := w.heap.size) (by have := ka4.2.1; simp; omega) (ka4.2.2 _ _); have kx5 := keep hb5 (b := w1.heap.size) (by have := kx4.2.1; simp; omega) (kx4.2.2 _ _); have ky5 := keep hb5 (b := w2.heap.size) (by have := ky4.2.1; simp; omega) (ky4.2.2 _ _); have kp5 := keep hb5 (b := w4.heap.size) (by simp) (fresh _ _ _); clear ka4 kx4 ky4; clear hb5))
    | (go_at_call 9; first | ((with_reducible refine (h9'.out _ (by repeat (first | (with_reducible exact acc) | (with_reducible refine Below.drew ?_) | (with_reducible refine Below.alloc ?_ (by first | omega | (simp <;> omega)) _)))).mono ?_); rintro e w6 ⟨rfl, hb6⟩; replace acc := acc_step (B := w.heap.size) (w := w) (by repeat (first | (with_reducible exact acc) | (with_reducible refine Below.drew ?_) | (with_reducible refine Below.alloc ?_ (by first | omega | (simp <;> omega)) _))) (by first | exact acc.size | omega | (simp <;> omega)) hb6; have ka6 := keep hb6 (b := w.heap.size) (by have := ka5.2.1; simp; omega) (ka5.2.2 _ _); have kx6 := keep hb6 (b := w1.heap.size) (by have := kx5.2.1; simp; omega) (kx5.2.2 _ _); have ky6 := keep hb6 (b := w2.heap.size) (by have := ky5.2.1; simp; omega) (ky5.2.2 _ _); have kp6 := keep hb6 (b := w4.heap.size) (by have := kp5.2.1; simp; omega) (kp5.2.2 _ _); have kq6 := keep hb6 (b := w5.heap.size) (by simp) (fresh _ _ _); clear ka5 kx5 ky5 kp5; clear hb6) | ((with_reducible refine (h9'.out _ (by repeat (first | (with_reducible exact acc) | (with_reducible refine Below.drew ?_) | (with_reducible refine Below.alloc ?_ (by first | omega | (simp <;> omega)) _)))).mono ?_); rintro e w7 ⟨rfl, hb7⟩; replace acc := acc_step (B := w.heap.size) (w := w) (by repeat (first | (with_reducible exact acc) | (with_reducible refine Below.drew ?_) | (with_reducible refine Below.alloc ?_ (by first | omega | (simp <;> omega)) _))) (by first | exact acc.size | omega | (simp <;> omega)) hb7; have ka7 := keep hb7 (b := w.heap.size) ka6.2.1 ka6.1; have kx7 := keep hb7 (b := w1.heap.size) kx6.2.1 kx6.1; have ky7 := keep hb7 (b := w2.heap.size) ky6.2.1 ky6.1; have kp7 := keep hb7 (b := w4.heap.size) kp6.2.1 kp6.1; have kq7 := keep hb7 (b := w5.heap.size) kq6.2.1 kq6.1; clear ka6 kx6 ky6 kp6 kq6; clear hb7))
    | (go_at_call 10; ((with_reducible refine (hZ'.out _).mono ?_); rintro e w9 ⟨rfl, hb9⟩; replace acc := acc_step (B := w.heap.size) (w := w) (by repeat (first | (with_reducible exact acc) | (with_reducible refine Below.drew ?_) | (with_reducible refine Below.alloc ?_ (by first | omega | (simp <;> omega)) _))) (by first | exact acc.size | omega | (simp <;> omega)) hb9; skip; clear hb9)))
  go_ret
  exact ⟨rfl, acc⟩
theorem env_ticks {W : World} (h : laidMetH Tryd.prog Rows.clockTicksRow.laid W) (hsh : W.ShapedOpen Tryd.prog) : Env W := env_of_laid h hsh
theorem ticks_law (a : C6) (g : Int) (s : ByteArray) (w : World) (hL : laidMetH Tryd.prog Rows.clockTicksRow.laid w) (hsh : w.ShapedOpen Tryd.prog) (_ : wf6 a) (_ : (Lit.int .i64 g).wf = true) (_ : s.size ≤ 140737488351232) : Calls Tryd.prog 7 #[a.v, .int .i64 g, .string s] w fun e w' => e = .returned (.bool true) ∧ Below w.heap.size w w' := by
  by_cases ha : R a
  · exact ticks_right a g s w (env_ticks hL hsh) ha
  · exact ticks_wrong a g s w (env_ticks hL hsh) ha
end Go.Proofs.YtfhdmknplpgiiaaDoor.Ck
