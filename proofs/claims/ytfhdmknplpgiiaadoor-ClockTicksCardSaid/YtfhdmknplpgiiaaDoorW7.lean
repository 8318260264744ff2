/- Clocks, walked: the little clock. -/
import Derived.Test.YtfhdmknplpgiiaaDoorW5
namespace Go.Proofs.YtfhdmknplpgiiaaDoor.Ck
open Go.ChangeShapes Go.WideShapes Go.RowKit
/-- The little clock, and its text. -/
def tiny : C6 := ⟨0, 0, 1, 0, 0, 0⟩
theorem tiny_tick : tick zero 2 = tiny := rfl
theorem tiny_right : right tiny = true := by decide
theorem num_small (k : Nat) : num (k : Int) = ⟨(Lib.decDigits k).toArray⟩ := by
  unfold num Lib.itoa
  rw [if_neg (by omega)]
  rfl
theorem tiny_text : textB tiny = ⟨#[60, 48, 44, 48, 44, 49, 44, 48, 44, 48, 44, 48, 62]⟩ := by
  have h0 : num 0 = ⟨#[48]⟩ := by
    have := num_small 0
    rw [Lib.decDigits] at this
    exact this
  have h1 : num 1 = ⟨#[49]⟩ := by
    have := num_small 1
    rw [Lib.decDigits] at this
    exact this
  unfold textB joinB C6.strs tiny
  simp only [h0, h1]
  decide
theorem tiny_itoa (k : Nat) (hk : k < 6) (W : World) : Calls Tryd.prog 36 #[.int .i64 (tiny.nth k)] W fun e w' => e = .returned (.string (num (tiny.nth k))) ∧ Below W.heap.size W w' := by
  have key : ∀ n : Nat, n < 100 → Calls Tryd.prog 36 #[.int .i64 (n : Int)] W fun e w' => e = .returned (.string (num n)) ∧ Below W.heap.size W w' := fun n hn =>
    (Tryd.strconv_Itoa_small n hn W).mono fun e w' ⟨he, hw⟩ => ⟨by rw [he, num_small], by rw [hw]; exact Below.refl _ _⟩
  match k, hk with
  | 0, _ => exact key 0 (by omega)
  | 1, _ => exact key 0 (by omega)
  | 2, _ => exact key 1 (by omega)
  | 3, _ => exact key 0 (by omega)
  | 4, _ => exact key 0 (by omega)
  | 5, _ => exact key 0 (by omega)
theorem bcell {W w1 : World} (hb : Below W.heap.size W w1) : (∀ b o, b < W.heap.size → w1.cell? ⟨b, o, none⟩ = W.cell? ⟨b, o, none⟩) ∧ (∀ b o, b < W.heap.size → w1.frozen? ⟨b, o, none⟩ = W.frozen? ⟨b, o, none⟩) :=
  ⟨fun b o h => hb.cell (p := ⟨b, o, none⟩) h, fun b o h => hb.frozen (p := ⟨b, o, none⟩) h⟩
set_option maxHeartbeats 1600000 in
set_option maxRecDepth 100000 in
theorem small_walk (w : World) : Calls Tryd.prog 10 #[] w fun e w' => e = .returned (.bool true) ∧ Below w.heap.size w w' := by
  have hT : ∀ W : World, Calls Tryd.prog 14 #[zero.v, .int .i64 2] W fun e w' => e = .returned (.tuple #[(tick zero 2).v, .int .i64 0]) ∧ Below W.heap.size W w' := fun W => tick_ok zero 2 (by omega) W (by decide) (by decide)
  have hX := fun (W : World) => Text_ok tiny W tiny_right (fun k hk W' _ => tiny_itoa k hk W')
  have hC := fun (W : World) => check_walk tiny W
  rw [tiny_tick] at hT
  rw [tiny_text] at hX
  rw [chk_ok tiny_right] at hC
  simp only [C6.v, zero, tiny] at hT hX hC
  have hT' := Lib.hid hT
  have hX' := Lib.hid hX
  have hC' := Lib.hid hC
  clear hT hX hC
  go_enter Tryd.func10, Tryd.ntmps10
  go_wp2_with (first
    | (go_at_call 14; ((with_reducible refine (hT'.out _).mono ?_); rintro e w1 ⟨rfl, hb1⟩; obtain ⟨hc1, hf1⟩ := bcell hb1; have hz1 := hb1.size))
    | (go_at_call 20; ((with_reducible refine (hX'.out _).mono ?_); rintro e w2 ⟨rfl, hb2⟩; obtain ⟨hc2, hf2⟩ := bcell hb2; have hz2 := hb2.size))
    | (go_at_call 15; ((with_reducible refine (hC'.out _).mono ?_); rintro e w' ⟨rfl, rfl⟩)))
  go_ret
  exact ⟨rfl, Below.alloc (Below.trans (Below.alloc hb1 hz1 _) (hb2.mono (by simp; omega))) (by simp at hz2; omega) _⟩
end Go.Proofs.YtfhdmknplpgiiaaDoor.Ck
