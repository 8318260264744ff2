/- Clocks, walked: the reference's text. -/
import Derived.Test.YtfhdmknplpgiiaaDoorPWalk
namespace Go.Proofs.YtfhdmknplpgiiaaDoor.Ck
open Go.ChangeShapes Go.WideShapes Go.RowKit
theorem num_size (n : Int) (h0 : -9223372036854775808 ≤ n) (h1 : n ≤ 9223372036854775807) : (num n).size ≤ 21 := by
  have := Lib.itoa_length_le n h0 h1
  unfold num
  simpa [ByteArray.size] using this
theorem text_parts (x : C6) : textB x = ((((((((((((⟨#[60]⟩ : ByteArray) ++ num x.a) ++ ⟨#[44]⟩) ++ num x.b) ++ ⟨#[44]⟩) ++ num x.c) ++ ⟨#[44]⟩) ++ num x.d) ++ ⟨#[44]⟩) ++ num x.e) ++ ⟨#[44]⟩) ++ num x.f) ++ ⟨#[62]⟩ := by
  apply ByteArray.ext
  apply Array.toList_inj.1
  unfold textB joinB
  simp [Lib.join, C6.strs, List.intercalate, List.intersperse, ByteArray.data_append]
set_option maxHeartbeats 4000000 in
set_option maxRecDepth 100000 in
theorem rtext_walk (x : C6) (w : World) (hx : small6 x) (E : Env w) : Calls Tryd.prog 23 #[x.v] w fun e w' => e = .returned (.string (textB x)) ∧ Below w.heap.size w w' := by
  have cI : ∀ k, k < 6 → ∀ W, Below w.heap.size w W → Calls Tryd.prog 36 #[.int .i64 (x.nth k)] W fun e w' => e = .returned (.string (num (x.nth k))) ∧ Below W.heap.size W w' := fun k hk W hb => itoa_env _ (hx k hk).1 (hx k hk).2 W (E.below hb)
  have z0 := num_size x.a (hx 0 (by omega)).1 (hx 0 (by omega)).2
  have z1 := num_size x.b (hx 1 (by omega)).1 (hx 1 (by omega)).2
  have z2 := num_size x.c (hx 2 (by omega)).1 (hx 2 (by omega)).2
  have z3 := num_size x.d (hx 3 (by omega)).1 (hx 3 (by omega)).2
  have z4 := num_size x.e (hx 4 (by omega)).1 (hx 4 (by omega)).2
  have z5 := num_size x.f (hx 5 (by omega)).1 (hx 5 (by omega)).2
  have c0 := Lib.hid (cI 0 (by omega))
  have c1 := Lib.hid (cI 1 (by omega))
  have c2 := Lib.hid (cI 2 (by omega))
  have c3 := Lib.hid (cI 3 (by omega))
  have c4 := Lib.hid (cI 4 (by omega))
  have c5 := Lib.hid (cI 5 (by omega))
  clear cI hx E
  rw [text_parts]
  obtain ⟨a, b, c, d, e, f⟩ := x
  have i0 := ix0; have i1 := ix1; have i2 := ix2; have i3 := ix3; have i4 := ix4; have i5 := ix5
  simp only [C6.nth, C6.v] at *
  have acc := Below.refl w.heap.size w
  go_enter Tryd.func23, Tryd.ntmps23
  go_wp2
  refine wp_loop_rounds 7 ?_
  rw [rounds_succ]; go_wp2_with (go_at_call 36; ((with_reducible refine (c0.out _ (by repeat (first | (with_reducible exact acc) | (with_reducible refine Below.drew ?_) | (with_reducible refine Below.alloc ?_ (by first | omega | (simp <;> omega)) _)))).mono ?_); rintro e w1 ⟨rfl, hb1⟩; replace acc := acc_step (B := w.heap.size) (w := w) (by repeat (first | (with_reducible exact acc) | (with_reducible refine Below.drew ?_) | (with_reducible refine Below.alloc ?_ (by first | omega | (simp <;> omega)) _))) (by first | exact acc.size | omega | (simp <;> omega)) hb1; clear hb1 c0))
  rw [rounds_succ]; go_wp2_with (go_at_call 36; ((with_reducible refine (c1.out _ (by repeat (first | (with_reducible exact acc) | (with_reducible refine Below.drew ?_) | (with_reducible refine Below.alloc ?_ (by first | omega | (simp <;> omega)) _)))).mono ?_); rintro e w2 ⟨rfl, hb1⟩; replace acc := acc_step (B := w.heap.size) (w := w) (by repeat (first | (with_reducible exact acc) | (with_reducible refine Below.drew ?_) | (with_reducible refine Below.alloc ?_ (by first | omega | (simp <;> omega)) _))) (by first | exact acc.size | omega | (simp <;> omega)) hb1; clear hb1 c1))
  rw [rounds_succ]; go_wp2_with (go_at_call 36; ((with_reducible refine (c2.out _ (by repeat (first | (with_reducible exact acc) | (with_reducible refine Below.drew ?_) | (with_reducible refine Below.alloc ?_ (by first | omega | (simp <;> omega)) _)))).mono ?_); rintro e w3 ⟨rfl, hb1⟩; replace acc := acc_step (B := w.heap.size) (w := w) (by repeat (first | (with_reducible exact acc) | (with_reducible refine Below.drew ?_) | (with_reducible refine Below.alloc ?_ (by first | omega | (simp <;> omega)) _))) (by first | exact acc.size | omega | (simp <;> omega)) hb1; clear hb1 c2))
  rw [rounds_succ]; go_wp2_with (go_at_call 36; ((with_reducible refine (c3.out _ (by repeat (first | (with_reducible exact acc) | (with_reducible refine Below.drew ?_) | (with_reducible refine Below.alloc ?_ (by first | omega | (simp <;> omega)) _)))).mono ?_); rintro e w4 ⟨rfl, hb1⟩; replace acc := acc_step (B := w.heap.size) (w := w) (by repeat (first | (with_reducible exact acc) | (with_reducible refine Below.drew ?_) | (with_reducible refine Below.alloc ?_ (by first | omega | (simp <;> omega)) _))) (by first | exact acc.size | omega | (simp <;> omega)) hb1; clear hb1 c3))
  rw [rounds_succ]; go_wp2_with (go_at_call 36; ((with_reducible refine (c4.out _ (by repeat (first | (with_reducible exact acc) | (with_reducible refine Below.drew ?_) | (with_reducible refine Below.alloc ?_ (by first | omega | (simp <;> omega)) _)))).mono ?_); rintro e w5 ⟨rfl, hb1⟩; replace acc := acc_step (B := w.heap.size) (w := w) (by repeat (first | (with_reducible exact acc) | (with_reducible refine Below.drew ?_) | (with_reducible refine Below.alloc ?_ (by first | omega | (simp <;> omega)) _))) (by first | exact acc.size | omega | (simp <;> omega)) hb1; clear hb1 c4))
  rw [rounds_succ]; go_wp2_with (go_at_call 36; ((with_reducible refine (c5.out _ (by repeat (first | (with_reducible exact acc) | (with_reducible refine Below.drew ?_) | (with_reducible refine Below.alloc ?_ (by first | omega | (simp <;> omega)) _)))).mono ?_); rintro e w6 ⟨rfl, hb1⟩; replace acc := acc_step (B := w.heap.size) (w := w) (by repeat (first | (with_reducible exact acc) | (with_reducible refine Below.drew ?_) | (with_reducible refine Below.alloc ?_ (by first | omega | (simp <;> omega)) _))) (by first | exact acc.size | omega | (simp <;> omega)) hb1; clear hb1 c5))
  rw [rounds_succ]; go_wp2
  go_ret
  exact ⟨rfl, acc⟩
end Go.Proofs.YtfhdmknplpgiiaaDoor.Ck
