/- The checker of programs, walked: an instruction. -/
import Derived.Test.YtlhhmlfcodmebaaGreatDoorZa
import Derived.Test.YtlhhmlfcodmebaaGreatDoorZC2
import Derived.Outline
import Derived.LoopN
namespace Go.Proofs.YtlhhmlfcodmebaaGreatDoor.Pg
set_option linter.unusedVariables false
set_option linter.unusedSimpArgs false
open Go.ChangeShapes Go.WideShapes Go.RowKit
theorem ia0 (v0 v1 v2 v3 : Value) (w : World) : (Instr.index 130 (.agg #[v0, v1, v2, v3]) (.int .i64 0)).run Tryz.prog w = .ok v0 w := by kernel_rfl
theorem ia1 (v0 v1 v2 v3 : Value) (w : World) : (Instr.index 130 (.agg #[v0, v1, v2, v3]) (.int .i64 1)).run Tryz.prog w = .ok v1 w := by kernel_rfl
theorem ia2 (v0 v1 v2 v3 : Value) (w : World) : (Instr.index 130 (.agg #[v0, v1, v2, v3]) (.int .i64 2)).run Tryz.prog w = .ok v2 w := by kernel_rfl
theorem ia3 (v0 v1 v2 v3 : Value) (w : World) : (Instr.index 130 (.agg #[v0, v1, v2, v3]) (.int .i64 3)).run Tryz.prog w = .ok v3 w := by kernel_rfl
set_option maxHeartbeats 4000000 in
set_option maxRecDepth 100000 in
theorem instr_none (x : Ins) (B : Nat) (w : World) (h : form x.op = ⟨#[]⟩) : Calls Tryz.prog 59 #[.pointer (some ⟨B, 0, none⟩), x.v] w fun e w' => e = .returned (.int .i64 33) ∧ Below w.heap.size w w' := by
  have cF := Lib.hid (fun W => form_walk x.op W)
  rw [h] at cF
  clear h
  obtain ⟨op, xa, xb, xc, xn⟩ := x
  unfold Ins.v
  go_enter Tryz.func59, Tryz.ntmps59
  go_wp2_with ((go_at_call 66; ((with_reducible refine (cF.out _).mono ?_); rintro e w' ⟨rfl, rfl⟩)))
  all_goals go_ret
  all_goals exact ⟨rfl, (by repeat (first | (with_reducible exact Below.refl _ _) | (with_reducible refine Below.drew ?_) | (with_reducible refine below_drewN ?_ _) | (with_reducible refine Below.alloc ?_ (by first | omega | (simp <;> omega)) _)))⟩
/-- The instruction's own place, half way. -/
structure One (w : World) (op a b c n : Int) (W : World) : Prop where
  acc : Below w.heap.size w W
  cell : ∀ o, W.cell? ⟨w.heap.size, o, none⟩ = (#[.int .i64 op, .int .i64 a, .int .i64 b, .int .i64 c, .int .i64 n] : Array Value)[o]?
  sz : w.heap.size < W.heap.size
theorem One.next {w W w1 : World} {op a b c n : Int} (M : One w op a b c n W) (hb : Below W.heap.size W w1) : One w op a b c n w1 :=
  ⟨M.acc.trans (hb.mono M.acc.size), fun o => by rw [hb.cell (by simpa using M.sz)]; exact M.cell o, by have := hb.size; have := M.sz; omega⟩
set_option maxHeartbeats 4000000 in
set_option maxRecDepth 100000 in
theorem instr_run (x : Ins) (B : Nat) (w : World) (b0 b1 b2 b3 : UInt8) (hx : x.ok) (h : form x.op = ⟨#[b0, b1, b2, b3]⟩) (e0 e1 e2 e3 : Int)
    (u0 : b0.toNat = 45 → x.a = 0) (u1 : b1.toNat = 45 → x.b = 0) (u2 : b2.toNat = 45 → x.c = 0) (u3 : b3.toNat = 45 → x.n = 0)
    (c0 : Hid (∀ W, Below w.heap.size w W → Calls Tryz.prog 99 #[.pointer (some ⟨B, 0, none⟩), .int .u8 b0.toNat, .int .i64 x.a, x.v] W fun e w' => e = .returned (.int .i64 e0) ∧ Below W.heap.size W w'))
    (c1 : Hid (∀ W, Below w.heap.size w W → Calls Tryz.prog 99 #[.pointer (some ⟨B, 0, none⟩), .int .u8 b1.toNat, .int .i64 x.b, x.v] W fun e w' => e = .returned (.int .i64 e1) ∧ Below W.heap.size W w'))
    (c2 : Hid (e1 = 0 → ∀ W, Below w.heap.size w W → Calls Tryz.prog 99 #[.pointer (some ⟨B, 0, none⟩), .int .u8 b2.toNat, .int .i64 x.c, x.v] W fun e w' => e = .returned (.int .i64 e2) ∧ Below W.heap.size W w'))
    (c3 : Hid (∀ W, Below w.heap.size w W → Calls Tryz.prog 99 #[.pointer (some ⟨B, 0, none⟩), .int .u8 b3.toNat, .int .i64 x.n, x.v] W fun e w' => e = .returned (.int .i64 e3) ∧ Below W.heap.size W w')) :
    Calls Tryz.prog 59 #[.pointer (some ⟨B, 0, none⟩), x.v] w fun e w' => e = .returned (.int .i64 (if e0 = 0 then if e1 = 0 then if e2 = 0 then e3 else e2 else e1 else e0)) ∧ Below w.heap.size w w' := by
  have cF := Lib.hid (fun W => form_walk x.op W)
  have cO := Lib.hid (fun W => operands_walk x W hx)
  rw [h] at cF
  clear h hx
  obtain ⟨r, hr⟩ : ∃ r, Hid (r = (if e0 = 0 then if e1 = 0 then if e2 = 0 then e3 else e2 else e1 else e0)) := ⟨_, Lib.hid rfl⟩
  rw [← hr.out]
  obtain ⟨op, xa, xb, xc, xn⟩ := x
  unfold Ins.v at *
  simp only at u0 u1 u2 u3
  have g0 : (⟨#[b0, b1, b2, b3]⟩ : ByteArray)[0]'(by simp [ByteArray.size]) = b0 := rfl
  have g1 : (⟨#[b0, b1, b2, b3]⟩ : ByteArray)[1]'(by simp [ByteArray.size]) = b1 := rfl
  have g2 : (⟨#[b0, b1, b2, b3]⟩ : ByteArray)[2]'(by simp [ByteArray.size]) = b2 := rfl
  have g3 : (⟨#[b0, b1, b2, b3]⟩ : ByteArray)[3]'(by simp [ByteArray.size]) = b3 := rfl
  have u0' := Lib.hid u0; have u1' := Lib.hid u1; have u2' := Lib.hid u2; have u3' := Lib.hid u3
  clear u0 u1 u2 u3
  have i0 := ia0; have i1 := ia1; have i2 := ia2; have i3 := ia3
  go_enter Tryz.func59, Tryz.ntmps59
  go_wp2_with (first | (go_at_call 66; ((with_reducible refine (cF.out _).mono ?_); rintro e w' ⟨rfl, rfl⟩)) | (go_at_call 98; ((with_reducible refine (cO.out _).mono ?_); rintro e w' ⟨rfl, rfl⟩)))
  go_loop [20] (fun i => ∃ k : Nat, k ≤ 4 ∧ i = .int .i64 k) (fun i => 4 - (intOf i).toNat)
  case atStart => exact ⟨0, by omega, rfl⟩
  case round =>
    obtain ⟨k, hk, rfl⟩ := hrel
    rcases (show k = 0 ∨ k = 1 ∨ k = 2 ∨ k = 3 ∨ k = 4 by omega) with rfl | rfl | rfl | rfl | rfl
    · go_wp2
      all_goals first
        | (exfalso; have h1 : (xa != 0) = true := by assumption
           have h2 : ((b0.toNat : Nat) : Int) = 45 := by assumption
           rw [u0'.out (by omega)] at h1
           simp at h1; done)
        | exact ⟨⟨1, by omega, rfl⟩, by simp [intOf]⟩
    · go_wp2
      all_goals first
        | (exfalso; have h1 : (xb != 0) = true := by assumption
           have h2 : ((b1.toNat : Nat) : Int) = 45 := by assumption
           rw [u1'.out (by omega)] at h1
           simp at h1; done)
        | exact ⟨⟨2, by omega, rfl⟩, by simp [intOf]⟩
    · go_wp2
      all_goals first
        | (exfalso; have h1 : (xc != 0) = true := by assumption
           have h2 : ((b2.toNat : Nat) : Int) = 45 := by assumption
           rw [u2'.out (by omega)] at h1
           simp at h1; done)
        | exact ⟨⟨3, by omega, rfl⟩, by simp [intOf]⟩
    · go_wp2
      all_goals first
        | (exfalso; have h1 : (xn != 0) = true := by assumption
           have h2 : ((b3.toNat : Nat) : Int) = 45 := by assumption
           rw [u3'.out (by omega)] at h1
           simp at h1; done)
        | exact ⟨⟨4, by omega, rfl⟩, by simp [intOf]⟩
    · clear u0' u1' u2' u3' hk
      have M0 : One w op xa xb xc xn ((((w.alloc (.cells #[.int .i64 op, .int .i64 xa, .int .i64 xb, .int .i64 xc, .int .i64 xn] 51)).alloc (.cells #[.int .i64 op, .int .i64 xa, .int .i64 xb, .int .i64 xc, .int .i64 xn] 51)).alloc (.cells #[.int .i64 xa, .int .i64 xb, .int .i64 xc, .int .i64 xn] 130)).alloc (.cells #[.int .i64 xa, .int .i64 xb, .int .i64 xc, .int .i64 xn] 130)) := by
        refine ⟨(by repeat (first | (with_reducible exact Below.refl _ _) | (with_reducible refine Below.drew ?_) | (with_reducible refine below_drewN ?_ _) | (with_reducible refine Below.alloc ?_ (by first | omega | (simp <;> omega)) _))), fun o => ?_, by simp; omega⟩
        rw [World.cell?_alloc_lt _ _ _ (by simp; omega), World.cell?_alloc_lt _ _ _ (by simp; omega), World.cell?_alloc_lt _ _ _ (by simp)]
        exact World.cell?_alloc_new _ _ _ _
      go_wp2
      refine wp_loop_rounds 5 ?_
      rw [rounds_succ]; go_wp2
      apply wp_toS (One w op xa xb xc xn)
      · have y := M0.cell
        have ys := M0.sz
        go_region_with ((go_at_call 99; ((with_reducible refine (c0.out _ (by first | exact M0.acc | exact M0.acc.drew)).mono ?_); rintro e w' ⟨rfl, hb⟩)))
        all_goals exact ToS.mk (M0.next (by first | exact hb | exact Below.trans (Below.drew (Below.refl _ _)) hb))
      intro W1 M1
      clear M0
      by_cases h0 : e0 = 0
      rotate_left
      · go_wp2
        have hr' := hr.out
        rw [if_neg h0] at hr'
        rw [hr']
        go_ret
        exact ⟨rfl, M1.acc⟩
      go_wp2
      rw [rounds_succ]; go_wp2
      apply wp_toS (One w op xa xb xc xn)
      · have y := M1.cell
        have ys := M1.sz
        go_region_with ((go_at_call 99; ((with_reducible refine (c1.out _ (by first | exact M1.acc | exact M1.acc.drew)).mono ?_); rintro e w' ⟨rfl, hb⟩)))
        all_goals exact ToS.mk (M1.next (by first | exact hb | exact Below.trans (Below.drew (Below.refl _ _)) hb))
      intro W2 M2
      clear M1
      by_cases h1 : e1 = 0
      rotate_left
      · go_wp2
        have hr' := hr.out
        rw [if_pos h0, if_neg h1] at hr'
        rw [hr']
        go_ret
        exact ⟨rfl, M2.acc⟩
      go_wp2
      rw [rounds_succ]; go_wp2
      apply wp_toS (One w op xa xb xc xn)
      · have y := M2.cell
        have ys := M2.sz
        go_region_with ((go_at_call 99; ((with_reducible refine (c2.out h1 _ (by first | exact M2.acc | exact M2.acc.drew)).mono ?_); rintro e w' ⟨rfl, hb⟩)))
        all_goals exact ToS.mk (M2.next (by first | exact hb | exact Below.trans (Below.drew (Below.refl _ _)) hb))
      intro W3 M3
      clear M2
      by_cases h2 : e2 = 0
      rotate_left
      · go_wp2
        have hr' := hr.out
        rw [if_pos h0, if_pos h1, if_neg h2] at hr'
        rw [hr']
        go_ret
        exact ⟨rfl, M3.acc⟩
      go_wp2
      rw [rounds_succ]; go_wp2
      apply wp_toS (One w op xa xb xc xn)
      · have y := M3.cell
        have ys := M3.sz
        go_region_with ((go_at_call 99; ((with_reducible refine (c3.out _ (by first | exact M3.acc | exact M3.acc.drew)).mono ?_); rintro e w' ⟨rfl, hb⟩)))
        all_goals exact ToS.mk (M3.next (by first | exact hb | exact Below.trans (Below.drew (Below.refl _ _)) hb))
      intro W4 M4
      clear M3
      by_cases h3 : e3 = 0
      rotate_left
      · go_wp2
        have hr' := hr.out
        rw [if_pos h0, if_pos h1, if_pos h2] at hr'
        rw [hr']
        go_ret
        exact ⟨rfl, M4.acc⟩
      go_wp2
      rw [rounds_succ]; go_wp2
      have hr' := hr.out
      rw [if_pos h0, if_pos h1, if_pos h2, h3] at hr'
      rw [hr']
      go_ret
      exact ⟨rfl, M4.acc⟩
set_option maxHeartbeats 4000000 in
set_option maxRecDepth 100000 in
theorem instr_unused (x : Ins) (B : Nat) (w : World) (b0 b1 b2 b3 : UInt8) (hx : x.ok) (h : form x.op = ⟨#[b0, b1, b2, b3]⟩)
    (hu : b0.toNat = 45 ∧ x.a ≠ 0 ∨ b1.toNat = 45 ∧ x.b ≠ 0 ∨ b2.toNat = 45 ∧ x.c ≠ 0 ∨ b3.toNat = 45 ∧ x.n ≠ 0) :
    Calls Tryz.prog 59 #[.pointer (some ⟨B, 0, none⟩), x.v] w fun e w' => e = .returned (.int .i64 34) ∧ Below w.heap.size w w' := by
  have cF := Lib.hid (fun W => form_walk x.op W)
  have cO := Lib.hid (fun W => operands_walk x W hx)
  rw [h] at cF
  clear h hx
  obtain ⟨op, xa, xb, xc, xn⟩ := x
  unfold Ins.v at *
  simp only at hu
  have hu' := Lib.hid hu
  clear hu
  have g0 : (⟨#[b0, b1, b2, b3]⟩ : ByteArray)[0]'(by simp [ByteArray.size]) = b0 := rfl
  have g1 : (⟨#[b0, b1, b2, b3]⟩ : ByteArray)[1]'(by simp [ByteArray.size]) = b1 := rfl
  have g2 : (⟨#[b0, b1, b2, b3]⟩ : ByteArray)[2]'(by simp [ByteArray.size]) = b2 := rfl
  have g3 : (⟨#[b0, b1, b2, b3]⟩ : ByteArray)[3]'(by simp [ByteArray.size]) = b3 := rfl
  have i0 := ia0; have i1 := ia1; have i2 := ia2; have i3 := ia3
  go_enter Tryz.func59, Tryz.ntmps59
  go_wp2_with (first | (go_at_call 66; ((with_reducible refine (cF.out _).mono ?_); rintro e w' ⟨rfl, rfl⟩)) | (go_at_call 98; ((with_reducible refine (cO.out _).mono ?_); rintro e w' ⟨rfl, rfl⟩)))
  go_loop [20] (fun i => ∃ k : Nat, k ≤ 4 ∧ i = .int .i64 k ∧ Hid ((0 < k → ¬ (b0.toNat = 45 ∧ xa ≠ 0)) ∧ (1 < k → ¬ (b1.toNat = 45 ∧ xb ≠ 0)) ∧ (2 < k → ¬ (b2.toNat = 45 ∧ xc ≠ 0)) ∧ (3 < k → ¬ (b3.toNat = 45 ∧ xn ≠ 0)))) (fun i => 4 - (intOf i).toNat)
  case atStart => exact ⟨0, by omega, rfl, Lib.hid ⟨by omega, by omega, by omega, by omega⟩⟩
  case round =>
    obtain ⟨k, hk, rfl, hv⟩ := hrel
    rcases (show k = 0 ∨ k = 1 ∨ k = 2 ∨ k = 3 ∨ k = 4 by omega) with rfl | rfl | rfl | rfl | rfl
    · go_wp2
      · go_ret
        exact ⟨rfl, (by repeat (first | (with_reducible exact Below.refl _ _) | (with_reducible refine Below.drew ?_) | (with_reducible refine below_drewN ?_ _) | (with_reducible refine Below.alloc ?_ (by first | omega | (simp <;> omega)) _)))⟩
      · have h1 : (xa != 0) = false := by assumption
        have h1 : xa = 0 := by simpa using h1
        obtain ⟨q0, q1, q2, q3⟩ := hv.out
        exact ⟨⟨1, by omega, rfl, Lib.hid ⟨by omega, by omega, by omega, by omega⟩⟩, by simp [intOf]⟩
      · have h2 : ¬ ((b0.toNat : Nat) : Int) = 45 := by assumption
        obtain ⟨q0, q1, q2, q3⟩ := hv.out
        exact ⟨⟨1, by omega, rfl, Lib.hid ⟨by omega, by omega, by omega, by omega⟩⟩, by simp [intOf]⟩
    · go_wp2
      · go_ret
        exact ⟨rfl, (by repeat (first | (with_reducible exact Below.refl _ _) | (with_reducible refine Below.drew ?_) | (with_reducible refine below_drewN ?_ _) | (with_reducible refine Below.alloc ?_ (by first | omega | (simp <;> omega)) _)))⟩
      · have h1 : (xb != 0) = false := by assumption
        have h1 : xb = 0 := by simpa using h1
        obtain ⟨q0, q1, q2, q3⟩ := hv.out
        exact ⟨⟨2, by omega, rfl, Lib.hid ⟨by omega, by omega, by omega, by omega⟩⟩, by simp [intOf]⟩
      · have h2 : ¬ ((b1.toNat : Nat) : Int) = 45 := by assumption
        obtain ⟨q0, q1, q2, q3⟩ := hv.out
        exact ⟨⟨2, by omega, rfl, Lib.hid ⟨by omega, by omega, by omega, by omega⟩⟩, by simp [intOf]⟩
    · go_wp2
      · go_ret
        exact ⟨rfl, (by repeat (first | (with_reducible exact Below.refl _ _) | (with_reducible refine Below.drew ?_) | (with_reducible refine below_drewN ?_ _) | (with_reducible refine Below.alloc ?_ (by first | omega | (simp <;> omega)) _)))⟩
      · have h1 : (xc != 0) = false := by assumption
        have h1 : xc = 0 := by simpa using h1
        obtain ⟨q0, q1, q2, q3⟩ := hv.out
        exact ⟨⟨3, by omega, rfl, Lib.hid ⟨by omega, by omega, by omega, by omega⟩⟩, by simp [intOf]⟩
      · have h2 : ¬ ((b2.toNat : Nat) : Int) = 45 := by assumption
        obtain ⟨q0, q1, q2, q3⟩ := hv.out
        exact ⟨⟨3, by omega, rfl, Lib.hid ⟨by omega, by omega, by omega, by omega⟩⟩, by simp [intOf]⟩
    · go_wp2
      · go_ret
        exact ⟨rfl, (by repeat (first | (with_reducible exact Below.refl _ _) | (with_reducible refine Below.drew ?_) | (with_reducible refine below_drewN ?_ _) | (with_reducible refine Below.alloc ?_ (by first | omega | (simp <;> omega)) _)))⟩
      · have h1 : (xn != 0) = false := by assumption
        have h1 : xn = 0 := by simpa using h1
        obtain ⟨q0, q1, q2, q3⟩ := hv.out
        exact ⟨⟨4, by omega, rfl, Lib.hid ⟨by omega, by omega, by omega, by omega⟩⟩, by simp [intOf]⟩
      · have h2 : ¬ ((b3.toNat : Nat) : Int) = 45 := by assumption
        obtain ⟨q0, q1, q2, q3⟩ := hv.out
        exact ⟨⟨4, by omega, rfl, Lib.hid ⟨by omega, by omega, by omega, by omega⟩⟩, by simp [intOf]⟩
    · obtain ⟨q0, q1, q2, q3⟩ := hv.out
      have hu := hu'.out
      exfalso; omega
theorem four_bytes (s : ByteArray) (h : s.size = 4) : ∃ b0 b1 b2 b3, s = ⟨#[b0, b1, b2, b3]⟩ := by
  obtain ⟨⟨l⟩⟩ := s
  match l, h with
  | [a, b, c, d], _ => exact ⟨a, b, c, d, rfl⟩
/-- The letters of a form, and where 'p' stands. -/
theorem form_letters (op : Int) (b0 b1 b2 b3 : UInt8) (h : form op = ⟨#[b0, b1, b2, b3]⟩) :
    letter b0.toNat ∧ letter b1.toNat ∧ letter b2.toNat ∧ letter b3.toNat ∧ b0.toNat ≠ 112 ∧ b1.toNat ≠ 112 ∧ b3.toNat ≠ 112 ∧ (b2.toNat = 112 → b1.toNat = 102) := by
  revert h
  have key : ∀ a0 a1 a2 a3 : UInt8, (letter a0.toNat ∧ letter a1.toNat ∧ letter a2.toNat ∧ letter a3.toNat ∧ a0.toNat ≠ 112 ∧ a1.toNat ≠ 112 ∧ a3.toNat ≠ 112 ∧ (a2.toNat = 112 → a1.toNat = 102)) → (⟨#[a0, a1, a2, a3]⟩ : ByteArray) = ⟨#[b0, b1, b2, b3]⟩ →
      letter b0.toNat ∧ letter b1.toNat ∧ letter b2.toNat ∧ letter b3.toNat ∧ b0.toNat ≠ 112 ∧ b1.toNat ≠ 112 ∧ b3.toNat ≠ 112 ∧ (b2.toNat = 112 → b1.toNat = 102) := by
    intro a0 a1 a2 a3 q e
    simp only [ByteArray.mk.injEq, Array.mk.injEq, List.cons.injEq, and_true] at e
    obtain ⟨rfl, rfl, rfl, rfl⟩ := e
    exact q
  show (fun s : ByteArray => s = ⟨#[b0, b1, b2, b3]⟩ → _) (form op)
  unfold form
  iterate 20 refine ite_P (P := fun s : ByteArray => s = ⟨#[b0, b1, b2, b3]⟩ → letter b0.toNat ∧ letter b1.toNat ∧ letter b2.toNat ∧ letter b3.toNat ∧ b0.toNat ≠ 112 ∧ b1.toNat ≠ 112 ∧ b3.toNat ≠ 112 ∧ (b2.toNat = 112 → b1.toNat = 102)) (fun _ => key _ _ _ _ (by unfold letter; decide)) (fun _ => ?_)
  intro e
  exact absurd (congrArg ByteArray.size e) (by simp [ByteArray.size])
theorem ins_four (P : Pg) (f : Fn) (x : Ins) (b0 b1 b2 b3 : UInt8) (h : form x.op = ⟨#[b0, b1, b2, b3]⟩) :
    ins P f x = if b0.toNat = 45 ∧ x.a ≠ 0 ∨ b1.toNat = 45 ∧ x.b ≠ 0 ∨ b2.toNat = 45 ∧ x.c ≠ 0 ∨ b3.toNat = 45 ∧ x.n ≠ 0 then 34 else
      if opd P f x b0.toNat x.a = 0 then if opd P f x b1.toNat x.b = 0 then if opd P f x b2.toNat x.c = 0 then opd P f x b3.toNat x.n else opd P f x b2.toNat x.c else opd P f x b1.toNat x.b else opd P f x b0.toNat x.a := by
  unfold ins
  rw [if_neg (by rw [h]; intro e; exact absurd (congrArg ByteArray.size e) (by simp [ByteArray.size])), h]
  have e0 : (⟨#[b0, b1, b2, b3]⟩ : ByteArray)[0]! = b0 := rfl
  have e1 : (⟨#[b0, b1, b2, b3]⟩ : ByteArray)[1]! = b1 := rfl
  have e2 : (⟨#[b0, b1, b2, b3]⟩ : ByteArray)[2]! = b2 := rfl
  have e3 : (⟨#[b0, b1, b2, b3]⟩ : ByteArray)[3]! = b3 := rfl
  unfold unused
  rw [e0, e1, e2, e3]
  simp only [firstE, decide_eq_true_eq]
  congr 1
  congr 1
  congr 1
  congr 1
  split
  · rename_i q
    exact q.symm
  · rfl
theorem instr_walk (x : Ins) (B : Nat) (P : Pg) (f : Fn) (w : World) (C : Ck w B P f) (hr : 0 ≤ f.regs ∧ f.regs ≤ 8) (hx : x.ok) : Calls Tryz.prog 59 #[.pointer (some ⟨B, 0, none⟩), x.v] w fun e w' => e = .returned (.int .i64 (ins P f x)) ∧ Below w.heap.size w w' := by
  rcases form_cases x.op with h | h
  · rw [show ins P f x = 33 from if_pos h]
    exact instr_none x B w h
  · obtain ⟨b0, b1, b2, b3, h⟩ := four_bytes _ h
    rw [ins_four P f x b0 b1 b2 b3 h]
    obtain ⟨l0, l1, l2, l3, p0, p1, p3, p2⟩ := form_letters x.op b0 b1 b2 b3 h
    obtain ⟨_, ha, hb, hc, hn⟩ := id hx
    by_cases hu : b0.toNat = 45 ∧ x.a ≠ 0 ∨ b1.toNat = 45 ∧ x.b ≠ 0 ∨ b2.toNat = 45 ∧ x.c ≠ 0 ∨ b3.toNat = 45 ∧ x.n ≠ 0
    · rw [if_pos hu]
      exact instr_unused x B w b0 b1 b2 b3 hx h hu
    · rw [if_neg hu]
      refine instr_run x B w b0 b1 b2 b3 hx h _ _ _ _ (by omega) (by omega) (by omega) (by omega) (Lib.hid fun W hW => operand_walk _ _ x B P f W (C.below hW) hr l0 (fun q => absurd q p0) ha)
        (Lib.hid fun W hW => operand_walk _ _ x B P f W (C.below hW) hr l1 (fun q => absurd q p1) hb) (Lib.hid fun e1 W hW => operand_walk _ _ x B P f W (C.below hW) hr l2 (fun q => ?_) hc) (Lib.hid fun W hW => operand_walk _ _ x B P f W (C.below hW) hr l3 (fun q => absurd q p3) hn)
      rw [p2 q] at e1
      have e1 : obj x.b P.funcs.length = 0 := e1
      unfold obj at e1
      split at e1
      · assumption
      · cases e1
end Go.Proofs.YtlhhmlfcodmebaaGreatDoor.Pg
