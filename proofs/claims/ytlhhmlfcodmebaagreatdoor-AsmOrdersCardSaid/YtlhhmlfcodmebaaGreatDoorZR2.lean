/- The reference's checker of programs, walked: an instruction. -/
import Derived.Test.YtlhhmlfcodmebaaGreatDoorZd
import Derived.Test.YtlhhmlfcodmebaaGreatDoorZR1
import Derived.Deep.RegionHeld3
namespace Go.Proofs.YtlhhmlfcodmebaaGreatDoor.Pg
set_option linter.unusedVariables false
set_option linter.unusedSimpArgs false
open Go.ChangeShapes Go.WideShapes Go.RowKit
set_option linter.unusedVariables false
set_option maxHeartbeats 4000000 in
set_option maxRecDepth 100000 in
theorem rinstr_none (x : Ins) (P : Pg) (f : Fn) (w : World) (h : form x.op = ⟨#[]⟩) : Calls Tryz.prog 63 #[P.v, f.v, x.v] w fun e w' => e = .returned (.int .i64 33) ∧ Below w.heap.size w w' := by
  obtain ⟨h1, h2⟩ := (form_none x.op).1 h
  have cL := Lib.hid (fun W => rlocal_walk x.op W)
  have cV := Lib.hid (fun W => rvisible_walk x.op W)
  rw [h1] at cL
  rw [h2] at cV
  clear h h1 h2
  obtain ⟨op, xa, xb, xc, xn⟩ := x
  unfold Ins.v Pg.v Fn.v
  go_enter Tryz.func63, Tryz.ntmps63
  go_wp2_with (first | (go_at_call 101; ((with_reducible refine (cL.out _).mono ?_); rintro e w' ⟨rfl, rfl⟩)) | (go_at_call 102; ((with_reducible refine (cV.out _).mono ?_); rintro e w' ⟨rfl, rfl⟩)))
  repeat (go_quiet (first | (go_at_call 101; refine Calls.quiet_of_same (cL.out _)) | (go_at_call 102; refine Calls.quiet_of_same (cV.out _))); go_wp2)
  all_goals go_ret
  all_goals exact ⟨rfl, (by repeat (first | (with_reducible exact Below.refl _ _) | (with_reducible refine Below.drew ?_) | (with_reducible refine below_drewN ?_ _) | (with_reducible refine Below.alloc ?_ (by first | omega | (simp <;> omega)) _)))⟩
set_option maxHeartbeats 8000000 in
set_option maxRecDepth 100000 in
theorem rinstr_unused (x : Ins) (P : Pg) (f : Fn) (w : World) (b0 b1 b2 b3 : UInt8) (hx : x.ok) (h : form x.op = ⟨#[b0, b1, b2, b3]⟩)
    (hu : b0.toNat = 45 ∧ x.a ≠ 0 ∨ b1.toNat = 45 ∧ x.b ≠ 0 ∨ b2.toNat = 45 ∧ x.c ≠ 0 ∨ b3.toNat = 45 ∧ x.n ≠ 0) :
    Calls Tryz.prog 63 #[P.v, f.v, x.v] w fun e w' => e = .returned (.int .i64 34) ∧ Below w.heap.size w w' := by
  have hne : ¬ form x.op = ⟨#[]⟩ := by rw [h]; intro e; exact absurd (congrArg ByteArray.size e) (by simp [ByteArray.size])
  have cF := Lib.hid (fun W => rform_walk x.op W)
  rw [h] at cF
  rw [form_none] at hne
  obtain ⟨⟨_, _⟩, ⟨_, _⟩, ⟨_, _⟩, ⟨_, _⟩, ⟨_, _⟩⟩ := hx
  have cL := Lib.hid (fun W => rlocal_walk x.op W)
  have cV := Lib.hid (fun W => rvisible_walk x.op W)
  clear h
  have hu' := Lib.hid hu
  clear hu
  obtain ⟨op, xa, xb, xc, xn⟩ := x
  unfold Ins.v Pg.v Fn.v at *
  simp only at *
  have g0 : (⟨#[b0, b1, b2, b3]⟩ : ByteArray)[0]'(by simp [ByteArray.size]) = b0 := rfl
  have g1 : (⟨#[b0, b1, b2, b3]⟩ : ByteArray)[1]'(by simp [ByteArray.size]) = b1 := rfl
  have g2 : (⟨#[b0, b1, b2, b3]⟩ : ByteArray)[2]'(by simp [ByteArray.size]) = b2 := rfl
  have g3 : (⟨#[b0, b1, b2, b3]⟩ : ByteArray)[3]'(by simp [ByteArray.size]) = b3 := rfl
  rcases (show (loc op = true) ∨ (loc op = false ∧ vis op = true) by
    rcases hb : loc op with _ | _
    · rcases hv : vis op with _ | _
      · exact absurd ⟨hb, hv⟩ hne
      · exact .inr ⟨rfl, rfl⟩
    · exact .inl rfl) with hl | ⟨hl, hv⟩
  · rw [hl] at cL
    clear hne hl cV
    have cV := cL
    go_enter Tryz.func63, Tryz.ntmps63
    go_wp2_with (first | (go_at_call 101; ((with_reducible refine (cL.out _).mono ?_); rintro e w' ⟨rfl, rfl⟩)) | (go_at_call 102; ((with_reducible refine (cV.out _).mono ?_); rintro e w' ⟨rfl, rfl⟩)) | (go_at_call 18; ((with_reducible refine (cF.out _).mono ?_); rintro e w' ⟨rfl, rfl⟩)))
    repeat (go_quiet (first | (go_at_call 101; refine Calls.quiet_of_same (cL.out _)) | (go_at_call 102; refine Calls.quiet_of_same (cV.out _))); go_wp2_with (first | (go_at_call 101; ((with_reducible refine (cL.out _).mono ?_); rintro e w' ⟨rfl, rfl⟩)) | (go_at_call 102; ((with_reducible refine (cV.out _).mono ?_); rintro e w' ⟨rfl, rfl⟩)) | (go_at_call 18; ((with_reducible refine (cF.out _).mono ?_); rintro e w' ⟨rfl, rfl⟩))))
    go_loopw [9] (fun i wr => ∃ k : Nat, k ≤ 4 ∧ i = .int .i64 k ∧ Env w [(w.heap.size + 1 + 1 + 1, #[.int .i64 xa, .int .i64 xb, .int .i64 xc, .int .i64 xn]), (w.heap.size + 1 + 1, #[.int .i64 op, .int .i64 xa, .int .i64 xb, .int .i64 xc, .int .i64 xn]), (w.heap.size + 1, #[.int .i64 f.params, .int .i64 f.regs, .slice f.ca f.code.length f.ccap, .slice f.sa f.sels.length f.scap]), (w.heap.size, #[.slice P.va P.vars.length P.vcap, .int .i64 P.locks, .slice P.ha P.chans.length P.hcap, .slice P.fa P.funcs.length P.fcap])] wr ∧ Hid ((0 < k → ¬ (b0.toNat = 45 ∧ xa ≠ 0)) ∧ (1 < k → ¬ (b1.toNat = 45 ∧ xb ≠ 0)) ∧ (2 < k → ¬ (b2.toNat = 45 ∧ xc ≠ 0)) ∧ (3 < k → ¬ (b3.toNat = 45 ∧ xn ≠ 0)))) (fun i _ => 4 - (intOf i).toNat)
    case atStart => exact ⟨0, by omega, rfl, by first | exact (Env.push (Env.push (Env.push (Env.push Env.nil _ rfl _ _) _ (by simp) _ _) _ (by simp) _ _) _ (by simp) _ _) | exact Env.drewN (Env.push (Env.push (Env.push (Env.push Env.nil _ rfl _ _) _ (by simp) _ _) _ (by simp) _ _) _ (by simp) _ _) _, Lib.hid ⟨by omega, by omega, by omega, by omega⟩⟩
    case round =>
      obtain ⟨k, hk, rfl, E, hv⟩ := hrel
      have yx := E.h0.cell; have lx := E.h0.lt
      rcases (show k = 0 ∨ k = 1 ∨ k = 2 ∨ k = 3 ∨ k = 4 by omega) with rfl | rfl | rfl | rfl | rfl
      · go_wp2
        · go_ret
          exact ⟨rfl, E.acc⟩
        · have h1 : (xa != 0) = false := by assumption
          have h1 : xa = 0 := by simpa using h1
          obtain ⟨q0, q1, q2, q3⟩ := hv.out
          exact ⟨⟨1, by omega, rfl, E, Lib.hid ⟨by omega, by omega, by omega, by omega⟩⟩, by simp [intOf]⟩
        · have h2 : ¬ ((b0.toNat : Nat) : Int) = 45 := by assumption
          obtain ⟨q0, q1, q2, q3⟩ := hv.out
          exact ⟨⟨1, by omega, rfl, E, Lib.hid ⟨by omega, by omega, by omega, by omega⟩⟩, by simp [intOf]⟩
      · go_wp2
        · go_ret
          exact ⟨rfl, E.acc⟩
        · have h1 : (xb != 0) = false := by assumption
          have h1 : xb = 0 := by simpa using h1
          obtain ⟨q0, q1, q2, q3⟩ := hv.out
          exact ⟨⟨2, by omega, rfl, E, Lib.hid ⟨by omega, by omega, by omega, by omega⟩⟩, by simp [intOf]⟩
        · have h2 : ¬ ((b1.toNat : Nat) : Int) = 45 := by assumption
          obtain ⟨q0, q1, q2, q3⟩ := hv.out
          exact ⟨⟨2, by omega, rfl, E, Lib.hid ⟨by omega, by omega, by omega, by omega⟩⟩, by simp [intOf]⟩
      · go_wp2
        · go_ret
          exact ⟨rfl, E.acc⟩
        · have h1 : (xc != 0) = false := by assumption
          have h1 : xc = 0 := by simpa using h1
          obtain ⟨q0, q1, q2, q3⟩ := hv.out
          exact ⟨⟨3, by omega, rfl, E, Lib.hid ⟨by omega, by omega, by omega, by omega⟩⟩, by simp [intOf]⟩
        · have h2 : ¬ ((b2.toNat : Nat) : Int) = 45 := by assumption
          obtain ⟨q0, q1, q2, q3⟩ := hv.out
          exact ⟨⟨3, by omega, rfl, E, Lib.hid ⟨by omega, by omega, by omega, by omega⟩⟩, by simp [intOf]⟩
      · go_wp2
        · go_ret
          exact ⟨rfl, E.acc⟩
        · have h1 : (xn != 0) = false := by assumption
          have h1 : xn = 0 := by simpa using h1
          obtain ⟨q0, q1, q2, q3⟩ := hv.out
          exact ⟨⟨4, by omega, rfl, E, Lib.hid ⟨by omega, by omega, by omega, by omega⟩⟩, by simp [intOf]⟩
        · have h2 : ¬ ((b3.toNat : Nat) : Int) = 45 := by assumption
          obtain ⟨q0, q1, q2, q3⟩ := hv.out
          exact ⟨⟨4, by omega, rfl, E, Lib.hid ⟨by omega, by omega, by omega, by omega⟩⟩, by simp [intOf]⟩
      · obtain ⟨q0, q1, q2, q3⟩ := hv.out
        have hu := hu'.out
        exfalso; omega
  · rw [hl] at cL
    rw [hv] at cV
    clear hne hl hv
    go_enter Tryz.func63, Tryz.ntmps63
    go_wp2_with (first | (go_at_call 101; ((with_reducible refine (cL.out _).mono ?_); rintro e w' ⟨rfl, rfl⟩)) | (go_at_call 102; ((with_reducible refine (cV.out _).mono ?_); rintro e w' ⟨rfl, rfl⟩)) | (go_at_call 18; ((with_reducible refine (cF.out _).mono ?_); rintro e w' ⟨rfl, rfl⟩)))
    repeat (go_quiet (first | (go_at_call 101; refine Calls.quiet_of_same (cL.out _)) | (go_at_call 102; refine Calls.quiet_of_same (cV.out _))); go_wp2_with (first | (go_at_call 101; ((with_reducible refine (cL.out _).mono ?_); rintro e w' ⟨rfl, rfl⟩)) | (go_at_call 102; ((with_reducible refine (cV.out _).mono ?_); rintro e w' ⟨rfl, rfl⟩)) | (go_at_call 18; ((with_reducible refine (cF.out _).mono ?_); rintro e w' ⟨rfl, rfl⟩))))
    go_loopw [9] (fun i wr => ∃ k : Nat, k ≤ 4 ∧ i = .int .i64 k ∧ Env w [(w.heap.size + 1 + 1 + 1, #[.int .i64 xa, .int .i64 xb, .int .i64 xc, .int .i64 xn]), (w.heap.size + 1 + 1, #[.int .i64 op, .int .i64 xa, .int .i64 xb, .int .i64 xc, .int .i64 xn]), (w.heap.size + 1, #[.int .i64 f.params, .int .i64 f.regs, .slice f.ca f.code.length f.ccap, .slice f.sa f.sels.length f.scap]), (w.heap.size, #[.slice P.va P.vars.length P.vcap, .int .i64 P.locks, .slice P.ha P.chans.length P.hcap, .slice P.fa P.funcs.length P.fcap])] wr ∧ Hid ((0 < k → ¬ (b0.toNat = 45 ∧ xa ≠ 0)) ∧ (1 < k → ¬ (b1.toNat = 45 ∧ xb ≠ 0)) ∧ (2 < k → ¬ (b2.toNat = 45 ∧ xc ≠ 0)) ∧ (3 < k → ¬ (b3.toNat = 45 ∧ xn ≠ 0)))) (fun i _ => 4 - (intOf i).toNat)
    case atStart => exact ⟨0, by omega, rfl, by first | exact (Env.push (Env.push (Env.push (Env.push Env.nil _ rfl _ _) _ (by simp) _ _) _ (by simp) _ _) _ (by simp) _ _) | exact Env.drewN (Env.push (Env.push (Env.push (Env.push Env.nil _ rfl _ _) _ (by simp) _ _) _ (by simp) _ _) _ (by simp) _ _) _, Lib.hid ⟨by omega, by omega, by omega, by omega⟩⟩
    case round =>
      obtain ⟨k, hk, rfl, E, hv⟩ := hrel
      have yx := E.h0.cell; have lx := E.h0.lt
      rcases (show k = 0 ∨ k = 1 ∨ k = 2 ∨ k = 3 ∨ k = 4 by omega) with rfl | rfl | rfl | rfl | rfl
      · go_wp2
        · go_ret
          exact ⟨rfl, E.acc⟩
        · have h1 : (xa != 0) = false := by assumption
          have h1 : xa = 0 := by simpa using h1
          obtain ⟨q0, q1, q2, q3⟩ := hv.out
          exact ⟨⟨1, by omega, rfl, E, Lib.hid ⟨by omega, by omega, by omega, by omega⟩⟩, by simp [intOf]⟩
        · have h2 : ¬ ((b0.toNat : Nat) : Int) = 45 := by assumption
          obtain ⟨q0, q1, q2, q3⟩ := hv.out
          exact ⟨⟨1, by omega, rfl, E, Lib.hid ⟨by omega, by omega, by omega, by omega⟩⟩, by simp [intOf]⟩
      · go_wp2
        · go_ret
          exact ⟨rfl, E.acc⟩
        · have h1 : (xb != 0) = false := by assumption
          have h1 : xb = 0 := by simpa using h1
          obtain ⟨q0, q1, q2, q3⟩ := hv.out
          exact ⟨⟨2, by omega, rfl, E, Lib.hid ⟨by omega, by omega, by omega, by omega⟩⟩, by simp [intOf]⟩
        · have h2 : ¬ ((b1.toNat : Nat) : Int) = 45 := by assumption
          obtain ⟨q0, q1, q2, q3⟩ := hv.out
          exact ⟨⟨2, by omega, rfl, E, Lib.hid ⟨by omega, by omega, by omega, by omega⟩⟩, by simp [intOf]⟩
      · go_wp2
        · go_ret
          exact ⟨rfl, E.acc⟩
        · have h1 : (xc != 0) = false := by assumption
          have h1 : xc = 0 := by simpa using h1
          obtain ⟨q0, q1, q2, q3⟩ := hv.out
          exact ⟨⟨3, by omega, rfl, E, Lib.hid ⟨by omega, by omega, by omega, by omega⟩⟩, by simp [intOf]⟩
        · have h2 : ¬ ((b2.toNat : Nat) : Int) = 45 := by assumption
          obtain ⟨q0, q1, q2, q3⟩ := hv.out
          exact ⟨⟨3, by omega, rfl, E, Lib.hid ⟨by omega, by omega, by omega, by omega⟩⟩, by simp [intOf]⟩
      · go_wp2
        · go_ret
          exact ⟨rfl, E.acc⟩
        · have h1 : (xn != 0) = false := by assumption
          have h1 : xn = 0 := by simpa using h1
          obtain ⟨q0, q1, q2, q3⟩ := hv.out
          exact ⟨⟨4, by omega, rfl, E, Lib.hid ⟨by omega, by omega, by omega, by omega⟩⟩, by simp [intOf]⟩
        · have h2 : ¬ ((b3.toNat : Nat) : Int) = 45 := by assumption
          obtain ⟨q0, q1, q2, q3⟩ := hv.out
          exact ⟨⟨4, by omega, rfl, E, Lib.hid ⟨by omega, by omega, by omega, by omega⟩⟩, by simp [intOf]⟩
      · obtain ⟨q0, q1, q2, q3⟩ := hv.out
        have hu := hu'.out
        exfalso; omega
set_option maxHeartbeats 16000000 in
set_option maxRecDepth 100000 in
theorem rinstr_run (x : Ins) (P : Pg) (f : Fn) (w : World) (b0 b1 b2 b3 : UInt8) (hx : x.ok) (h : form x.op = ⟨#[b0, b1, b2, b3]⟩) (e0 e1 e2 e3 : Int)
    (u0 : b0.toNat = 45 → x.a = 0) (u1 : b1.toNat = 45 → x.b = 0) (u2 : b2.toNat = 45 → x.c = 0) (u3 : b3.toNat = 45 → x.n = 0)
    (c0 : Hid (∀ W, Below w.heap.size w W → Calls Tryz.prog 103 #[P.v, f.v, .int .u8 b0.toNat, .int .i64 x.a, x.v] W fun e w' => e = .returned (.int .i64 e0) ∧ Below W.heap.size W w'))
    (c1 : Hid (∀ W, Below w.heap.size w W → Calls Tryz.prog 103 #[P.v, f.v, .int .u8 b1.toNat, .int .i64 x.b, x.v] W fun e w' => e = .returned (.int .i64 e1) ∧ Below W.heap.size W w'))
    (c2 : Hid (e1 = 0 → ∀ W, Below w.heap.size w W → Calls Tryz.prog 103 #[P.v, f.v, .int .u8 b2.toNat, .int .i64 x.c, x.v] W fun e w' => e = .returned (.int .i64 e2) ∧ Below W.heap.size W w'))
    (c3 : Hid (∀ W, Below w.heap.size w W → Calls Tryz.prog 103 #[P.v, f.v, .int .u8 b3.toNat, .int .i64 x.n, x.v] W fun e w' => e = .returned (.int .i64 e3) ∧ Below W.heap.size W w')) :
    Calls Tryz.prog 63 #[P.v, f.v, x.v] w fun e w' => e = .returned (.int .i64 (if e0 = 0 then if e1 = 0 then if e2 = 0 then e3 else e2 else e1 else e0)) ∧ Below w.heap.size w w' := by
  have hne : ¬ form x.op = ⟨#[]⟩ := by rw [h]; intro e; exact absurd (congrArg ByteArray.size e) (by simp [ByteArray.size])
  have cF := Lib.hid (fun W => rform_walk x.op W)
  rw [h] at cF
  rw [form_none] at hne
  obtain ⟨⟨_, _⟩, ⟨_, _⟩, ⟨_, _⟩, ⟨_, _⟩, ⟨_, _⟩⟩ := hx
  have cL := Lib.hid (fun W => rlocal_walk x.op W)
  have cV := Lib.hid (fun W => rvisible_walk x.op W)
  clear h
  obtain ⟨r, hr⟩ : ∃ r, Hid (r = (if e0 = 0 then if e1 = 0 then if e2 = 0 then e3 else e2 else e1 else e0)) := ⟨_, Lib.hid rfl⟩
  rw [← hr.out]
  have u0' := Lib.hid u0; have u1' := Lib.hid u1; have u2' := Lib.hid u2; have u3' := Lib.hid u3
  clear u0 u1 u2 u3
  obtain ⟨op, xa, xb, xc, xn⟩ := x
  unfold Ins.v Pg.v Fn.v at *
  simp only at hne cF cL cV
  have g0 : (⟨#[b0, b1, b2, b3]⟩ : ByteArray)[0]'(by simp [ByteArray.size]) = b0 := rfl
  have g1 : (⟨#[b0, b1, b2, b3]⟩ : ByteArray)[1]'(by simp [ByteArray.size]) = b1 := rfl
  have g2 : (⟨#[b0, b1, b2, b3]⟩ : ByteArray)[2]'(by simp [ByteArray.size]) = b2 := rfl
  have g3 : (⟨#[b0, b1, b2, b3]⟩ : ByteArray)[3]'(by simp [ByteArray.size]) = b3 := rfl
  rcases (show (loc op = true) ∨ (loc op = false ∧ vis op = true) by
    rcases hb : loc op with _ | _
    · rcases hv : vis op with _ | _
      · exact absurd ⟨hb, hv⟩ hne
      · exact .inr ⟨rfl, rfl⟩
    · exact .inl rfl) with hl | ⟨hl, hv⟩
  · rw [hl] at cL
    clear hne hl cV
    have cV := cL
    go_enter Tryz.func63, Tryz.ntmps63
    go_wp2_with (first | (go_at_call 101; ((with_reducible refine (cL.out _).mono ?_); rintro e w' ⟨rfl, rfl⟩)) | (go_at_call 102; ((with_reducible refine (cV.out _).mono ?_); rintro e w' ⟨rfl, rfl⟩)) | (go_at_call 18; ((with_reducible refine (cF.out _).mono ?_); rintro e w' ⟨rfl, rfl⟩)))
    repeat (go_quiet (first | (go_at_call 101; refine Calls.quiet_of_same (cL.out _)) | (go_at_call 102; refine Calls.quiet_of_same (cV.out _))); go_wp2_with (first | (go_at_call 101; ((with_reducible refine (cL.out _).mono ?_); rintro e w' ⟨rfl, rfl⟩)) | (go_at_call 102; ((with_reducible refine (cV.out _).mono ?_); rintro e w' ⟨rfl, rfl⟩)) | (go_at_call 18; ((with_reducible refine (cF.out _).mono ?_); rintro e w' ⟨rfl, rfl⟩))))
    go_loopw [9] (fun i wr => ∃ k : Nat, k ≤ 4 ∧ i = .int .i64 k ∧ Env w [(w.heap.size + 1 + 1 + 1, #[.int .i64 xa, .int .i64 xb, .int .i64 xc, .int .i64 xn]), (w.heap.size + 1 + 1, #[.int .i64 op, .int .i64 xa, .int .i64 xb, .int .i64 xc, .int .i64 xn]), (w.heap.size + 1, #[.int .i64 f.params, .int .i64 f.regs, .slice f.ca f.code.length f.ccap, .slice f.sa f.sels.length f.scap]), (w.heap.size, #[.slice P.va P.vars.length P.vcap, .int .i64 P.locks, .slice P.ha P.chans.length P.hcap, .slice P.fa P.funcs.length P.fcap])] wr) (fun i _ => 4 - (intOf i).toNat)
    case atStart => exact ⟨0, by omega, rfl, by first | exact (Env.push (Env.push (Env.push (Env.push Env.nil _ rfl _ _) _ (by simp) _ _) _ (by simp) _ _) _ (by simp) _ _) | exact Env.drewN (Env.push (Env.push (Env.push (Env.push Env.nil _ rfl _ _) _ (by simp) _ _) _ (by simp) _ _) _ (by simp) _ _) _⟩
    case round =>
      obtain ⟨k, hk, rfl, M0⟩ := hrel
      have yx := M0.h0.cell; have lx := M0.h0.lt
      rcases (show k = 0 ∨ k = 1 ∨ k = 2 ∨ k = 3 ∨ k = 4 by omega) with rfl | rfl | rfl | rfl | rfl
      · go_wp2
        all_goals first
          | (exfalso; have h1 : (xa != 0) = true := by assumption
             have h2 : ((b0.toNat : Nat) : Int) = 45 := by assumption
             rw [u0'.out (by omega)] at h1
             simp at h1; done)
          | exact ⟨⟨1, by omega, rfl, M0⟩, by simp [intOf]⟩
      · go_wp2
        all_goals first
          | (exfalso; have h1 : (xb != 0) = true := by assumption
             have h2 : ((b1.toNat : Nat) : Int) = 45 := by assumption
             rw [u1'.out (by omega)] at h1
             simp at h1; done)
          | exact ⟨⟨2, by omega, rfl, M0⟩, by simp [intOf]⟩
      · go_wp2
        all_goals first
          | (exfalso; have h1 : (xc != 0) = true := by assumption
             have h2 : ((b2.toNat : Nat) : Int) = 45 := by assumption
             rw [u2'.out (by omega)] at h1
             simp at h1; done)
          | exact ⟨⟨3, by omega, rfl, M0⟩, by simp [intOf]⟩
      · go_wp2
        all_goals first
          | (exfalso; have h1 : (xn != 0) = true := by assumption
             have h2 : ((b3.toNat : Nat) : Int) = 45 := by assumption
             rw [u3'.out (by omega)] at h1
             simp at h1; done)
          | exact ⟨⟨4, by omega, rfl, M0⟩, by simp [intOf]⟩
      · clear u0' u1' u2' u3' hk yx lx
        go_wp2
        refine wp_loop_rounds 5 ?_
        rw [rounds_succ]; go_wp2
        apply wp_toS (Env w [(w.heap.size + 1 + 1 + 1, #[.int .i64 xa, .int .i64 xb, .int .i64 xc, .int .i64 xn]), (w.heap.size + 1 + 1, #[.int .i64 op, .int .i64 xa, .int .i64 xb, .int .i64 xc, .int .i64 xn]), (w.heap.size + 1, #[.int .i64 f.params, .int .i64 f.regs, .slice f.ca f.code.length f.ccap, .slice f.sa f.sels.length f.scap]), (w.heap.size, #[.slice P.va P.vars.length P.vcap, .int .i64 P.locks, .slice P.ha P.chans.length P.hcap, .slice P.fa P.funcs.length P.fcap])])
        · have yx := M0.h0.cell; have yi := M0.tl.h0.cell; have yf := M0.tl.tl.h0.cell; have yp := M0.tl.tl.tl.h0.cell; have lx := M0.h0.lt; have li := M0.tl.h0.lt; have lf := M0.tl.tl.h0.lt; have lp := M0.tl.tl.tl.h0.lt
          go_region_held3 (fun W => (∀ o, W.cell? ⟨w.heap.size + 1 + 1 + 1, o, none⟩ = (#[.int .i64 xa, .int .i64 xb, .int .i64 xc, .int .i64 xn] : Array Value)[o]?) ∧ (∀ o, W.cell? ⟨w.heap.size + 1 + 1, o, none⟩ = (#[.int .i64 op, .int .i64 xa, .int .i64 xb, .int .i64 xc, .int .i64 xn] : Array Value)[o]?) ∧ (∀ o, W.cell? ⟨w.heap.size + 1, o, none⟩ = (#[.int .i64 f.params, .int .i64 f.regs, .slice f.ca f.code.length f.ccap, .slice f.sa f.sels.length f.scap] : Array Value)[o]?) ∧ ∀ o, W.cell? ⟨w.heap.size, o, none⟩ = (#[.slice P.va P.vars.length P.vcap, .int .i64 P.locks, .slice P.ha P.chans.length P.hcap, .slice P.fa P.funcs.length P.fcap] : Array Value)[o]?) (first | assumption | exact M0.cells4 | exact M0.drew.cells4 | exact (M0.next hb).cells4 | exact (M0.drew.next hb).cells4)
            (first | (go_at_call 103; ((with_reducible refine (c0.out _ (by first | exact M0.acc | exact M0.acc.drew)).mono ?_); rintro e w' ⟨rfl, hb⟩)))
          all_goals exact ToS.mk (M0.next (by first | exact hb | exact Below.trans (Below.drew (Below.refl _ _)) hb))
        intro W1 M1
        clear M0
        by_cases h0 : e0 = 0
        rotate_left
        · go_wp2
          have hr' := hr.out
          rw [if_neg h0] at hr'
          rw [hr']
          go_ret
          exact ⟨rfl, M1.acc⟩
        go_wp2
        rw [rounds_succ]; go_wp2
        apply wp_toS (Env w [(w.heap.size + 1 + 1 + 1, #[.int .i64 xa, .int .i64 xb, .int .i64 xc, .int .i64 xn]), (w.heap.size + 1 + 1, #[.int .i64 op, .int .i64 xa, .int .i64 xb, .int .i64 xc, .int .i64 xn]), (w.heap.size + 1, #[.int .i64 f.params, .int .i64 f.regs, .slice f.ca f.code.length f.ccap, .slice f.sa f.sels.length f.scap]), (w.heap.size, #[.slice P.va P.vars.length P.vcap, .int .i64 P.locks, .slice P.ha P.chans.length P.hcap, .slice P.fa P.funcs.length P.fcap])])
        · have yx := M1.h0.cell; have yi := M1.tl.h0.cell; have yf := M1.tl.tl.h0.cell; have yp := M1.tl.tl.tl.h0.cell; have lx := M1.h0.lt; have li := M1.tl.h0.lt; have lf := M1.tl.tl.h0.lt; have lp := M1.tl.tl.tl.h0.lt
          go_region_held3 (fun W => (∀ o, W.cell? ⟨w.heap.size + 1 + 1 + 1, o, none⟩ = (#[.int .i64 xa, .int .i64 xb, .int .i64 xc, .int .i64 xn] : Array Value)[o]?) ∧ (∀ o, W.cell? ⟨w.heap.size + 1 + 1, o, none⟩ = (#[.int .i64 op, .int .i64 xa, .int .i64 xb, .int .i64 xc, .int .i64 xn] : Array Value)[o]?) ∧ (∀ o, W.cell? ⟨w.heap.size + 1, o, none⟩ = (#[.int .i64 f.params, .int .i64 f.regs, .slice f.ca f.code.length f.ccap, .slice f.sa f.sels.length f.scap] : Array Value)[o]?) ∧ ∀ o, W.cell? ⟨w.heap.size, o, none⟩ = (#[.slice P.va P.vars.length P.vcap, .int .i64 P.locks, .slice P.ha P.chans.length P.hcap, .slice P.fa P.funcs.length P.fcap] : Array Value)[o]?) (first | assumption | exact M1.cells4 | exact M1.drew.cells4 | exact (M1.next hb).cells4 | exact (M1.drew.next hb).cells4)
            (first | (go_at_call 103; ((with_reducible refine (c1.out _ (by first | exact M1.acc | exact M1.acc.drew)).mono ?_); rintro e w' ⟨rfl, hb⟩)))
          all_goals exact ToS.mk (M1.next (by first | exact hb | exact Below.trans (Below.drew (Below.refl _ _)) hb))
        intro W2 M2
        clear M1
        by_cases h1 : e1 = 0
        rotate_left
        · go_wp2
          have hr' := hr.out
          rw [if_pos h0, if_neg h1] at hr'
          rw [hr']
          go_ret
          exact ⟨rfl, M2.acc⟩
        go_wp2
        rw [rounds_succ]; go_wp2
        apply wp_toS (Env w [(w.heap.size + 1 + 1 + 1, #[.int .i64 xa, .int .i64 xb, .int .i64 xc, .int .i64 xn]), (w.heap.size + 1 + 1, #[.int .i64 op, .int .i64 xa, .int .i64 xb, .int .i64 xc, .int .i64 xn]), (w.heap.size + 1, #[.int .i64 f.params, .int .i64 f.regs, .slice f.ca f.code.length f.ccap, .slice f.sa f.sels.length f.scap]), (w.heap.size, #[.slice P.va P.vars.length P.vcap, .int .i64 P.locks, .slice P.ha P.chans.length P.hcap, .slice P.fa P.funcs.length P.fcap])])
        · have yx := M2.h0.cell; have yi := M2.tl.h0.cell; have yf := M2.tl.tl.h0.cell; have yp := M2.tl.tl.tl.h0.cell; have lx := M2.h0.lt; have li := M2.tl.h0.lt; have lf := M2.tl.tl.h0.lt; have lp := M2.tl.tl.tl.h0.lt
          go_region_held3 (fun W => (∀ o, W.cell? ⟨w.heap.size + 1 + 1 + 1, o, none⟩ = (#[.int .i64 xa, .int .i64 xb, .int .i64 xc, .int .i64 xn] : Array Value)[o]?) ∧ (∀ o, W.cell? ⟨w.heap.size + 1 + 1, o, none⟩ = (#[.int .i64 op, .int .i64 xa, .int .i64 xb, .int .i64 xc, .int .i64 xn] : Array Value)[o]?) ∧ (∀ o, W.cell? ⟨w.heap.size + 1, o, none⟩ = (#[.int .i64 f.params, .int .i64 f.regs, .slice f.ca f.code.length f.ccap, .slice f.sa f.sels.length f.scap] : Array Value)[o]?) ∧ ∀ o, W.cell? ⟨w.heap.size, o, none⟩ = (#[.slice P.va P.vars.length P.vcap, .int .i64 P.locks, .slice P.ha P.chans.length P.hcap, .slice P.fa P.funcs.length P.fcap] : Array Value)[o]?) (first | assumption | exact M2.cells4 | exact M2.drew.cells4 | exact (M2.next hb).cells4 | exact (M2.drew.next hb).cells4)
            (first | (go_at_call 103; ((with_reducible refine (c2.out h1 _ (by first | exact M2.acc | exact M2.acc.drew)).mono ?_); rintro e w' ⟨rfl, hb⟩)))
          all_goals exact ToS.mk (M2.next (by first | exact hb | exact Below.trans (Below.drew (Below.refl _ _)) hb))
        intro W3 M3
        clear M2
        by_cases h2 : e2 = 0
        rotate_left
        · go_wp2
          have hr' := hr.out
          rw [if_pos h0, if_pos h1, if_neg h2] at hr'
          rw [hr']
          go_ret
          exact ⟨rfl, M3.acc⟩
        go_wp2
        rw [rounds_succ]; go_wp2
        apply wp_toS (Env w [(w.heap.size + 1 + 1 + 1, #[.int .i64 xa, .int .i64 xb, .int .i64 xc, .int .i64 xn]), (w.heap.size + 1 + 1, #[.int .i64 op, .int .i64 xa, .int .i64 xb, .int .i64 xc, .int .i64 xn]), (w.heap.size + 1, #[.int .i64 f.params, .int .i64 f.regs, .slice f.ca f.code.length f.ccap, .slice f.sa f.sels.length f.scap]), (w.heap.size, #[.slice P.va P.vars.length P.vcap, .int .i64 P.locks, .slice P.ha P.chans.length P.hcap, .slice P.fa P.funcs.length P.fcap])])
        · have yx := M3.h0.cell; have yi := M3.tl.h0.cell; have yf := M3.tl.tl.h0.cell; have yp := M3.tl.tl.tl.h0.cell; have lx := M3.h0.lt; have li := M3.tl.h0.lt; have lf := M3.tl.tl.h0.lt; have lp := M3.tl.tl.tl.h0.lt
          go_region_held3 (fun W => (∀ o, W.cell? ⟨w.heap.size + 1 + 1 + 1, o, none⟩ = (#[.int .i64 xa, .int .i64 xb, .int .i64 xc, .int .i64 xn] : Array Value)[o]?) ∧ (∀ o, W.cell? ⟨w.heap.size + 1 + 1, o, none⟩ = (#[.int .i64 op, .int .i64 xa, .int .i64 xb, .int .i64 xc, .int .i64 xn] : Array Value)[o]?) ∧ (∀ o, W.cell? ⟨w.heap.size + 1, o, none⟩ = (#[.int .i64 f.params, .int .i64 f.regs, .slice f.ca f.code.length f.ccap, .slice f.sa f.sels.length f.scap] : Array Value)[o]?) ∧ ∀ o, W.cell? ⟨w.heap.size, o, none⟩ = (#[.slice P.va P.vars.length P.vcap, .int .i64 P.locks, .slice P.ha P.chans.length P.hcap, .slice P.fa P.funcs.length P.fcap] : Array Value)[o]?) (first | assumption | exact M3.cells4 | exact M3.drew.cells4 | exact (M3.next hb).cells4 | exact (M3.drew.next hb).cells4)
            (first | (go_at_call 103; ((with_reducible refine (c3.out _ (by first | exact M3.acc | exact M3.acc.drew)).mono ?_); rintro e w' ⟨rfl, hb⟩)))
          all_goals exact ToS.mk (M3.next (by first | exact hb | exact Below.trans (Below.drew (Below.refl _ _)) hb))
        intro W4 M4
        clear M3
        by_cases h3 : e3 = 0
        rotate_left
        · go_wp2
          have hr' := hr.out
          rw [if_pos h0, if_pos h1, if_pos h2] at hr'
          rw [hr']
          go_ret
          exact ⟨rfl, M4.acc⟩
        go_wp2
        rw [rounds_succ]; go_wp2
        have hr' := hr.out
        rw [if_pos h0, if_pos h1, if_pos h2, h3] at hr'
        rw [hr']
        go_ret
        exact ⟨rfl, M4.acc⟩
  · rw [hl] at cL
    rw [hv] at cV
    clear hne hl hv
    go_enter Tryz.func63, Tryz.ntmps63
    go_wp2_with (first | (go_at_call 101; ((with_reducible refine (cL.out _).mono ?_); rintro e w' ⟨rfl, rfl⟩)) | (go_at_call 102; ((with_reducible refine (cV.out _).mono ?_); rintro e w' ⟨rfl, rfl⟩)) | (go_at_call 18; ((with_reducible refine (cF.out _).mono ?_); rintro e w' ⟨rfl, rfl⟩)))
    repeat (go_quiet (first | (go_at_call 101; refine Calls.quiet_of_same (cL.out _)) | (go_at_call 102; refine Calls.quiet_of_same (cV.out _))); go_wp2_with (first | (go_at_call 101; ((with_reducible refine (cL.out _).mono ?_); rintro e w' ⟨rfl, rfl⟩)) | (go_at_call 102; ((with_reducible refine (cV.out _).mono ?_); rintro e w' ⟨rfl, rfl⟩)) | (go_at_call 18; ((with_reducible refine (cF.out _).mono ?_); rintro e w' ⟨rfl, rfl⟩))))
    go_loopw [9] (fun i wr => ∃ k : Nat, k ≤ 4 ∧ i = .int .i64 k ∧ Env w [(w.heap.size + 1 + 1 + 1, #[.int .i64 xa, .int .i64 xb, .int .i64 xc, .int .i64 xn]), (w.heap.size + 1 + 1, #[.int .i64 op, .int .i64 xa, .int .i64 xb, .int .i64 xc, .int .i64 xn]), (w.heap.size + 1, #[.int .i64 f.params, .int .i64 f.regs, .slice f.ca f.code.length f.ccap, .slice f.sa f.sels.length f.scap]), (w.heap.size, #[.slice P.va P.vars.length P.vcap, .int .i64 P.locks, .slice P.ha P.chans.length P.hcap, .slice P.fa P.funcs.length P.fcap])] wr) (fun i _ => 4 - (intOf i).toNat)
    case atStart => exact ⟨0, by omega, rfl, by first | exact (Env.push (Env.push (Env.push (Env.push Env.nil _ rfl _ _) _ (by simp) _ _) _ (by simp) _ _) _ (by simp) _ _) | exact Env.drewN (Env.push (Env.push (Env.push (Env.push Env.nil _ rfl _ _) _ (by simp) _ _) _ (by simp) _ _) _ (by simp) _ _) _⟩
    case round =>
      obtain ⟨k, hk, rfl, M0⟩ := hrel
      have yx := M0.h0.cell; have lx := M0.h0.lt
      rcases (show k = 0 ∨ k = 1 ∨ k = 2 ∨ k = 3 ∨ k = 4 by omega) with rfl | rfl | rfl | rfl | rfl
      · go_wp2
        all_goals first
          | (exfalso; have h1 : (xa != 0) = true := by assumption
             have h2 : ((b0.toNat : Nat) : Int) = 45 := by assumption
             rw [u0'.out (by omega)] at h1
             simp at h1; done)
          | exact ⟨⟨1, by omega, rfl, M0⟩, by simp [intOf]⟩
      · go_wp2
        all_goals first
          | (exfalso; have h1 : (xb != 0) = true := by assumption
             have h2 : ((b1.toNat : Nat) : Int) = 45 := by assumption
             rw [u1'.out (by omega)] at h1
             simp at h1; done)
          | exact ⟨⟨2, by omega, rfl, M0⟩, by simp [intOf]⟩
      · go_wp2
        all_goals first
          | (exfalso; have h1 : (xc != 0) = true := by assumption
             have h2 : ((b2.toNat : Nat) : Int) = 45 := by assumption
             rw [u2'.out (by omega)] at h1
             simp at h1; done)
          | exact ⟨⟨3, by omega, rfl, M0⟩, by simp [intOf]⟩
      · go_wp2
        all_goals first
          | (exfalso; have h1 : (xn != 0) = true := by assumption
             have h2 : ((b3.toNat : Nat) : Int) = 45 := by assumption
             rw [u3'.out (by omega)] at h1
             simp at h1; done)
          | exact ⟨⟨4, by omega, rfl, M0⟩, by simp [intOf]⟩
      · clear u0' u1' u2' u3' hk yx lx
        go_wp2
        refine wp_loop_rounds 5 ?_
        rw [rounds_succ]; go_wp2
        apply wp_toS (Env w [(w.heap.size + 1 + 1 + 1, #[.int .i64 xa, .int .i64 xb, .int .i64 xc, .int .i64 xn]), (w.heap.size + 1 + 1, #[.int .i64 op, .int .i64 xa, .int .i64 xb, .int .i64 xc, .int .i64 xn]), (w.heap.size + 1, #[.int .i64 f.params, .int .i64 f.regs, .slice f.ca f.code.length f.ccap, .slice f.sa f.sels.length f.scap]), (w.heap.size, #[.slice P.va P.vars.length P.vcap, .int .i64 P.locks, .slice P.ha P.chans.length P.hcap, .slice P.fa P.funcs.length P.fcap])])
        · have yx := M0.h0.cell; have yi := M0.tl.h0.cell; have yf := M0.tl.tl.h0.cell; have yp := M0.tl.tl.tl.h0.cell; have lx := M0.h0.lt; have li := M0.tl.h0.lt; have lf := M0.tl.tl.h0.lt; have lp := M0.tl.tl.tl.h0.lt
          go_region_held3 (fun W => (∀ o, W.cell? ⟨w.heap.size + 1 + 1 + 1, o, none⟩ = (#[.int .i64 xa, .int .i64 xb, .int .i64 xc, .int .i64 xn] : Array Value)[o]?) ∧ (∀ o, W.cell? ⟨w.heap.size + 1 + 1, o, none⟩ = (#[.int .i64 op, .int .i64 xa, .int .i64 xb, .int .i64 xc, .int .i64 xn] : Array Value)[o]?) ∧ (∀ o, W.cell? ⟨w.heap.size + 1, o, none⟩ = (#[.int .i64 f.params, .int .i64 f.regs, .slice f.ca f.code.length f.ccap, .slice f.sa f.sels.length f.scap] : Array Value)[o]?) ∧ ∀ o, W.cell? ⟨w.heap.size, o, none⟩ = (#[.slice P.va P.vars.length P.vcap, .int .i64 P.locks, .slice P.ha P.chans.length P.hcap, .slice P.fa P.funcs.length P.fcap] : Array Value)[o]?) (first | assumption | exact M0.cells4 | exact M0.drew.cells4 | exact (M0.next hb).cells4 | exact (M0.drew.next hb).cells4)
            (first | (go_at_call 103; ((with_reducible refine (c0.out _ (by first | exact M0.acc | exact M0.acc.drew)).mono ?_); rintro e w' ⟨rfl, hb⟩)))
          all_goals exact ToS.mk (M0.next (by first | exact hb | exact Below.trans (Below.drew (Below.refl _ _)) hb))
        intro W1 M1
        clear M0
        by_cases h0 : e0 = 0
        rotate_left
        · go_wp2
          have hr' := hr.out
          rw [if_neg h0] at hr'
          rw [hr']
          go_ret
          exact ⟨rfl, M1.acc⟩
        go_wp2
        rw [rounds_succ]; go_wp2
        apply wp_toS (Env w [(w.heap.size + 1 + 1 + 1, #[.int .i64 xa, .int .i64 xb, .int .i64 xc, .int .i64 xn]), (w.heap.size + 1 + 1, #[.int .i64 op, .int .i64 xa, .int .i64 xb, .int .i64 xc, .int .i64 xn]), (w.heap.size + 1, #[.int .i64 f.params, .int .i64 f.regs, .slice f.ca f.code.length f.ccap, .slice f.sa f.sels.length f.scap]), (w.heap.size, #[.slice P.va P.vars.length P.vcap, .int .i64 P.locks, .slice P.ha P.chans.length P.hcap, .slice P.fa P.funcs.length P.fcap])])
        · have yx := M1.h0.cell; have yi := M1.tl.h0.cell; have yf := M1.tl.tl.h0.cell; have yp := M1.tl.tl.tl.h0.cell; have lx := M1.h0.lt; have li := M1.tl.h0.lt; have lf := M1.tl.tl.h0.lt; have lp := M1.tl.tl.tl.h0.lt
          go_region_held3 (fun W => (∀ o, W.cell? ⟨w.heap.size + 1 + 1 + 1, o, none⟩ = (#[.int .i64 xa, .int .i64 xb, .int .i64 xc, .int .i64 xn] : Array Value)[o]?) ∧ (∀ o, W.cell? ⟨w.heap.size + 1 + 1, o, none⟩ = (#[.int .i64 op, .int .i64 xa, .int .i64 xb, .int .i64 xc, .int .i64 xn] : Array Value)[o]?) ∧ (∀ o, W.cell? ⟨w.heap.size + 1, o, none⟩ = (#[.int .i64 f.params, .int .i64 f.regs, .slice f.ca f.code.length f.ccap, .slice f.sa f.sels.length f.scap] : Array Value)[o]?) ∧ ∀ o, W.cell? ⟨w.heap.size, o, none⟩ = (#[.slice P.va P.vars.length P.vcap, .int .i64 P.locks, .slice P.ha P.chans.length P.hcap, .slice P.fa P.funcs.length P.fcap] : Array Value)[o]?) (first | assumption | exact M1.cells4 | exact M1.drew.cells4 | exact (M1.next hb).cells4 | exact (M1.drew.next hb).cells4)
            (first | (go_at_call 103; ((with_reducible refine (c1.out _ (by first | exact M1.acc | exact M1.acc.drew)).mono ?_); rintro e w' ⟨rfl, hb⟩)))
          all_goals exact ToS.mk (M1.next (by first | exact hb | exact Below.trans (Below.drew (Below.refl _ _)) hb))
        intro W2 M2
        clear M1
        by_cases h1 : e1 = 0
        rotate_left
        · go_wp2
          have hr' := hr.out
          rw [if_pos h0, if_neg h1] at hr'
          rw [hr']
          go_ret
          exact ⟨rfl, M2.acc⟩
        go_wp2
        rw [rounds_succ]; go_wp2
        apply wp_toS (Env w [(w.heap.size + 1 + 1 + 1, #[.int .i64 xa, .int .i64 xb, .int .i64 xc, .int .i64 xn]), (w.heap.size + 1 + 1, #[.int .i64 op, .int .i64 xa, .int .i64 xb, .int .i64 xc, .int .i64 xn]), (w.heap.size + 1, #[.int .i64 f.params, .int .i64 f.regs, .slice f.ca f.code.length f.ccap, .slice f.sa f.sels.length f.scap]), (w.heap.size, #[.slice P.va P.vars.length P.vcap, .int .i64 P.locks, .slice P.ha P.chans.length P.hcap, .slice P.fa P.funcs.length P.fcap])])
        · have yx := M2.h0.cell; have yi := M2.tl.h0.cell; have yf := M2.tl.tl.h0.cell; have yp := M2.tl.tl.tl.h0.cell; have lx := M2.h0.lt; have li := M2.tl.h0.lt; have lf := M2.tl.tl.h0.lt; have lp := M2.tl.tl.tl.h0.lt
          go_region_held3 (fun W => (∀ o, W.cell? ⟨w.heap.size + 1 + 1 + 1, o, none⟩ = (#[.int .i64 xa, .int .i64 xb, .int .i64 xc, .int .i64 xn] : Array Value)[o]?) ∧ (∀ o, W.cell? ⟨w.heap.size + 1 + 1, o, none⟩ = (#[.int .i64 op, .int .i64 xa, .int .i64 xb, .int .i64 xc, .int .i64 xn] : Array Value)[o]?) ∧ (∀ o, W.cell? ⟨w.heap.size + 1, o, none⟩ = (#[.int .i64 f.params, .int .i64 f.regs, .slice f.ca f.code.length f.ccap, .slice f.sa f.sels.length f.scap] : Array Value)[o]?) ∧ ∀ o, W.cell? ⟨w.heap.size, o, none⟩ = (#[.slice P.va P.vars.length P.vcap, .int .i64 P.locks, .slice P.ha P.chans.length P.hcap, .slice P.fa P.funcs.length P.fcap] : Array Value)[o]?) (first | assumption | exact M2.cells4 | exact M2.drew.cells4 | exact (M2.next hb).cells4 | exact (M2.drew.next hb).cells4)
            (first | (go_at_call 103; ((with_reducible refine (c2.out h1 _ (by first | exact M2.acc | exact M2.acc.drew)).mono ?_); rintro e w' ⟨rfl, hb⟩)))
          all_goals exact ToS.mk (M2.next (by first | exact hb | exact Below.trans (Below.drew (Below.refl _ _)) hb))
        intro W3 M3
        clear M2
        by_cases h2 : e2 = 0
        rotate_left
        · go_wp2
          have hr' := hr.out
          rw [if_pos h0, if_pos h1, if_neg h2] at hr'
          rw [hr']
          go_ret
          exact ⟨rfl, M3.acc⟩
        go_wp2
        rw [rounds_succ]; go_wp2
        apply wp_toS (Env w [(w.heap.size + 1 + 1 + 1, #[.int .i64 xa, .int .i64 xb, .int .i64 xc, .int .i64 xn]), (w.heap.size + 1 + 1, #[.int .i64 op, .int .i64 xa, .int .i64 xb, .int .i64 xc, .int .i64 xn]), (w.heap.size + 1, #[.int .i64 f.params, .int .i64 f.regs, .slice f.ca f.code.length f.ccap, .slice f.sa f.sels.length f.scap]), (w.heap.size, #[.slice P.va P.vars.length P.vcap, .int .i64 P.locks, .slice P.ha P.chans.length P.hcap, .slice P.fa P.funcs.length P.fcap])])
        · have yx := M3.h0.cell; have yi := M3.tl.h0.cell; have yf := M3.tl.tl.h0.cell; have yp := M3.tl.tl.tl.h0.cell; have lx := M3.h0.lt; have li := M3.tl.h0.lt; have lf := M3.tl.tl.h0.lt; have lp := M3.tl.tl.tl.h0.lt
          go_region_held3 (fun W => (∀ o, W.cell? ⟨w.heap.size + 1 + 1 + 1, o, none⟩ = (#[.int .i64 xa, .int .i64 xb, .int .i64 xc, .int .i64 xn] : Array Value)[o]?) ∧ (∀ o, W.cell? ⟨w.heap.size + 1 + 1, o, none⟩ = (#[.int .i64 op, .int .i64 xa, .int .i64 xb, .int .i64 xc, .int .i64 xn] : Array Value)[o]?) ∧ (∀ o, W.cell? ⟨w.heap.size + 1, o, none⟩ = (#[.int .i64 f.params, .int .i64 f.regs, .slice f.ca f.code.length f.ccap, .slice f.sa f.sels.length f.scap] : Array Value)[o]?) ∧ ∀ o, W.cell? ⟨w.heap.size, o, none⟩ = (#[.slice P.va P.vars.length P.vcap, .int .i64 P.locks, .slice P.ha P.chans.length P.hcap, .slice P.fa P.funcs.length P.fcap] : Array Value)[o]?) (first | assumption | exact M3.cells4 | exact M3.drew.cells4 | exact (M3.next hb).cells4 | exact (M3.drew.next hb).cells4)
            (first | (go_at_call 103; ((with_reducible refine (c3.out _ (by first | exact M3.acc | exact M3.acc.drew)).mono ?_); rintro e w' ⟨rfl, hb⟩)))
          all_goals exact ToS.mk (M3.next (by first | exact hb | exact Below.trans (Below.drew (Below.refl _ _)) hb))
        intro W4 M4
        clear M3
        by_cases h3 : e3 = 0
        rotate_left
        · go_wp2
          have hr' := hr.out
          rw [if_pos h0, if_pos h1, if_pos h2] at hr'
          rw [hr']
          go_ret
          exact ⟨rfl, M4.acc⟩
        go_wp2
        rw [rounds_succ]; go_wp2
        have hr' := hr.out
        rw [if_pos h0, if_pos h1, if_pos h2, h3] at hr'
        rw [hr']
        go_ret
        exact ⟨rfl, M4.acc⟩
theorem rinstr_walk (x : Ins) (P : Pg) (f : Fn) (w : World) (I : P.In w) (J : f.In w) (hr : 0 ≤ f.regs ∧ f.regs ≤ 8) (hx : x.ok) : Calls Tryz.prog 63 #[P.v, f.v, x.v] w fun e w' => e = .returned (.int .i64 (ins P f x)) ∧ Below w.heap.size w w' := by
  rcases form_cases x.op with h | h
  · rw [show ins P f x = 33 from if_pos h]
    exact rinstr_none x P f w h
  · obtain ⟨b0, b1, b2, b3, h⟩ := four_bytes _ h
    rw [ins_four P f x b0 b1 b2 b3 h]
    obtain ⟨l0, l1, l2, l3, p0, p1, p3, p2⟩ := form_letters x.op b0 b1 b2 b3 h
    obtain ⟨_, ha, hb, hc, hn⟩ := id hx
    by_cases hu : b0.toNat = 45 ∧ x.a ≠ 0 ∨ b1.toNat = 45 ∧ x.b ≠ 0 ∨ b2.toNat = 45 ∧ x.c ≠ 0 ∨ b3.toNat = 45 ∧ x.n ≠ 0
    · rw [if_pos hu]
      exact rinstr_unused x P f w b0 b1 b2 b3 hx h hu
    · rw [if_neg hu]
      refine rinstr_run x P f w b0 b1 b2 b3 hx h _ _ _ _ (by omega) (by omega) (by omega) (by omega) (Lib.hid fun W hW => roperand_walk _ _ x P f W (I.below hW) (J.below hW) hr l0 (fun q => absurd q p0) ha)
        (Lib.hid fun W hW => roperand_walk _ _ x P f W (I.below hW) (J.below hW) hr l1 (fun q => absurd q p1) hb) (Lib.hid fun e1 W hW => roperand_walk _ _ x P f W (I.below hW) (J.below hW) hr l2 (fun q => ?_) hc) (Lib.hid fun W hW => roperand_walk _ _ x P f W (I.below hW) (J.below hW) hr l3 (fun q => absurd q p3) hn)
      rw [p2 q] at e1
      have e1 : obj x.b P.funcs.length = 0 := e1
      unfold obj at e1
      split at e1
      · assumption
      · cases e1
end Go.Proofs.YtlhhmlfcodmebaaGreatDoor.Pg
