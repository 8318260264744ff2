/- The reference's checker of programs, walked: operands. -/
import Derived.Test.YtlhhmlfcodmebaaGreatDoorZC1
import Derived.Deep.QuietTactic
import Derived.BigQuiet
namespace Go.Proofs.YtlhhmlfcodmebaaGreatDoor.Pg
set_option linter.unusedVariables false
set_option linter.unusedSimpArgs false
open Go.ChangeShapes Go.WideShapes Go.RowKit
set_option linter.unusedVariables false
theorem rlen64 {n : Nat} (h : Len n) : I64 n := by unfold Len at h; unfold I64; omega
set_option maxHeartbeats 4000000 in
set_option maxRecDepth 100000 in
theorem roperand_r (n : Int) (x : Ins) (P : Pg) (f : Fn) (w : World) (I : P.In w) (J : f.In w) : Calls Tryz.prog 103 #[P.v, f.v, .int .u8 114, .int .i64 n, x.v] w fun e w' => e = .returned (.int .i64 (opd P f x 114 n)) ∧ Below w.heap.size w w' := by
  have cR := Lib.hid (fun W => rwithin_walk n f.regs W J.reg)
  unfold Pg.v Fn.v
  by_cases h : 0 ≤ n ∧ n < (f.regs : Int)
  · rw [show decide (0 ≤ n ∧ n < (f.regs : Int)) = true by simpa using h] at cR
    rw [show opd P f x 114 n = 0 from if_pos h]
    clear h I J
    obtain ⟨op, xa, xb, xc, xn⟩ := x
    unfold Ins.v
    go_enter Tryz.func103, Tryz.ntmps103
    go_wp2_with ((go_at_call 100; ((with_reducible refine (cR.out _).mono ?_); rintro e w' ⟨rfl, rfl⟩)))
    repeat (go_quiet ((go_at_call 100; refine Calls.quiet_of_same (cR.out _))); go_wp2_with ((go_at_call 100; ((with_reducible refine (cR.out _).mono ?_); rintro e w' ⟨rfl, rfl⟩))))
    all_goals go_ret
    all_goals first | exact ⟨rfl, (by repeat (first | (with_reducible exact Below.refl _ _) | (with_reducible refine Below.drew ?_) | (with_reducible refine below_drewN ?_ _) | (with_reducible refine Below.alloc ?_ (by first | omega | (simp <;> omega)) _)))⟩ | (exfalso; simp_all; done)
  · rw [show decide (0 ≤ n ∧ n < (f.regs : Int)) = false by simpa using h] at cR
    rw [show opd P f x 114 n = 35 from if_neg h]
    clear h I J
    obtain ⟨op, xa, xb, xc, xn⟩ := x
    unfold Ins.v
    go_enter Tryz.func103, Tryz.ntmps103
    go_wp2_with ((go_at_call 100; ((with_reducible refine (cR.out _).mono ?_); rintro e w' ⟨rfl, rfl⟩)))
    repeat (go_quiet ((go_at_call 100; refine Calls.quiet_of_same (cR.out _))); go_wp2_with ((go_at_call 100; ((with_reducible refine (cR.out _).mono ?_); rintro e w' ⟨rfl, rfl⟩))))
    all_goals go_ret
    all_goals first | exact ⟨rfl, (by repeat (first | (with_reducible exact Below.refl _ _) | (with_reducible refine Below.drew ?_) | (with_reducible refine below_drewN ?_ _) | (with_reducible refine Below.alloc ?_ (by first | omega | (simp <;> omega)) _)))⟩ | (exfalso; simp_all; done)
set_option maxHeartbeats 4000000 in
set_option maxRecDepth 100000 in
theorem roperand_w (n : Int) (x : Ins) (P : Pg) (f : Fn) (w : World) (I : P.In w) (J : f.In w) : Calls Tryz.prog 103 #[P.v, f.v, .int .u8 119, .int .i64 n, x.v] w fun e w' => e = .returned (.int .i64 (opd P f x 119 n)) ∧ Below w.heap.size w w' := by
  have cR := Lib.hid (fun W => rwithin_walk n f.regs W J.reg)
  unfold Pg.v Fn.v
  by_cases h : 0 ≤ n ∧ n < (f.regs : Int)
  · rw [show decide (0 ≤ n ∧ n < (f.regs : Int)) = true by simpa using h] at cR
    rw [show opd P f x 119 n = 0 from if_pos h]
    clear h I J
    obtain ⟨op, xa, xb, xc, xn⟩ := x
    unfold Ins.v
    go_enter Tryz.func103, Tryz.ntmps103
    go_wp2_with ((go_at_call 100; ((with_reducible refine (cR.out _).mono ?_); rintro e w' ⟨rfl, rfl⟩)))
    repeat (go_quiet ((go_at_call 100; refine Calls.quiet_of_same (cR.out _))); go_wp2_with ((go_at_call 100; ((with_reducible refine (cR.out _).mono ?_); rintro e w' ⟨rfl, rfl⟩))))
    all_goals go_ret
    all_goals first | exact ⟨rfl, (by repeat (first | (with_reducible exact Below.refl _ _) | (with_reducible refine Below.drew ?_) | (with_reducible refine below_drewN ?_ _) | (with_reducible refine Below.alloc ?_ (by first | omega | (simp <;> omega)) _)))⟩ | (exfalso; simp_all; done)
  · rw [show decide (0 ≤ n ∧ n < (f.regs : Int)) = false by simpa using h] at cR
    rw [show opd P f x 119 n = 35 from if_neg h]
    clear h I J
    obtain ⟨op, xa, xb, xc, xn⟩ := x
    unfold Ins.v
    go_enter Tryz.func103, Tryz.ntmps103
    go_wp2_with ((go_at_call 100; ((with_reducible refine (cR.out _).mono ?_); rintro e w' ⟨rfl, rfl⟩)))
    repeat (go_quiet ((go_at_call 100; refine Calls.quiet_of_same (cR.out _))); go_wp2_with ((go_at_call 100; ((with_reducible refine (cR.out _).mono ?_); rintro e w' ⟨rfl, rfl⟩))))
    all_goals go_ret
    all_goals first | exact ⟨rfl, (by repeat (first | (with_reducible exact Below.refl _ _) | (with_reducible refine Below.drew ?_) | (with_reducible refine below_drewN ?_ _) | (with_reducible refine Below.alloc ?_ (by first | omega | (simp <;> omega)) _)))⟩ | (exfalso; simp_all; done)
set_option maxHeartbeats 4000000 in
set_option maxRecDepth 100000 in
theorem roperand_v (n : Int) (x : Ins) (P : Pg) (f : Fn) (w : World) (I : P.In w) (J : f.In w) : Calls Tryz.prog 103 #[P.v, f.v, .int .u8 118, .int .i64 n, x.v] w fun e w' => e = .returned (.int .i64 (opd P f x 118 n)) ∧ Below w.heap.size w w' := by
  have cR := Lib.hid (fun W => rwithin_walk n P.vars.length W (rlen64 I.lenV))
  unfold Pg.v Fn.v
  by_cases h : 0 ≤ n ∧ n < (P.vars.length : Int)
  · rw [show decide (0 ≤ n ∧ n < (P.vars.length : Int)) = true by simpa using h] at cR
    rw [show opd P f x 118 n = 0 from if_pos h]
    clear h I J
    obtain ⟨op, xa, xb, xc, xn⟩ := x
    unfold Ins.v
    go_enter Tryz.func103, Tryz.ntmps103
    go_wp2_with ((go_at_call 100; ((with_reducible refine (cR.out _).mono ?_); rintro e w' ⟨rfl, rfl⟩)))
    repeat (go_quiet ((go_at_call 100; refine Calls.quiet_of_same (cR.out _))); go_wp2_with ((go_at_call 100; ((with_reducible refine (cR.out _).mono ?_); rintro e w' ⟨rfl, rfl⟩))))
    all_goals go_ret
    all_goals first | exact ⟨rfl, (by repeat (first | (with_reducible exact Below.refl _ _) | (with_reducible refine Below.drew ?_) | (with_reducible refine below_drewN ?_ _) | (with_reducible refine Below.alloc ?_ (by first | omega | (simp <;> omega)) _)))⟩ | (exfalso; simp_all; done)
  · rw [show decide (0 ≤ n ∧ n < (P.vars.length : Int)) = false by simpa using h] at cR
    rw [show opd P f x 118 n = 36 from if_neg h]
    clear h I J
    obtain ⟨op, xa, xb, xc, xn⟩ := x
    unfold Ins.v
    go_enter Tryz.func103, Tryz.ntmps103
    go_wp2_with ((go_at_call 100; ((with_reducible refine (cR.out _).mono ?_); rintro e w' ⟨rfl, rfl⟩)))
    repeat (go_quiet ((go_at_call 100; refine Calls.quiet_of_same (cR.out _))); go_wp2_with ((go_at_call 100; ((with_reducible refine (cR.out _).mono ?_); rintro e w' ⟨rfl, rfl⟩))))
    all_goals go_ret
    all_goals first | exact ⟨rfl, (by repeat (first | (with_reducible exact Below.refl _ _) | (with_reducible refine Below.drew ?_) | (with_reducible refine below_drewN ?_ _) | (with_reducible refine Below.alloc ?_ (by first | omega | (simp <;> omega)) _)))⟩ | (exfalso; simp_all; done)
set_option maxHeartbeats 4000000 in
set_option maxRecDepth 100000 in
theorem roperand_l (n : Int) (x : Ins) (P : Pg) (f : Fn) (w : World) (I : P.In w) (J : f.In w) : Calls Tryz.prog 103 #[P.v, f.v, .int .u8 108, .int .i64 n, x.v] w fun e w' => e = .returned (.int .i64 (opd P f x 108 n)) ∧ Below w.heap.size w w' := by
  have cR := Lib.hid (fun W => rwithin_walk n P.locks W I.locks)
  unfold Pg.v Fn.v
  by_cases h : 0 ≤ n ∧ n < (P.locks : Int)
  · rw [show decide (0 ≤ n ∧ n < (P.locks : Int)) = true by simpa using h] at cR
    rw [show opd P f x 108 n = 0 from if_pos h]
    clear h I J
    obtain ⟨op, xa, xb, xc, xn⟩ := x
    unfold Ins.v
    go_enter Tryz.func103, Tryz.ntmps103
    go_wp2_with ((go_at_call 100; ((with_reducible refine (cR.out _).mono ?_); rintro e w' ⟨rfl, rfl⟩)))
    repeat (go_quiet ((go_at_call 100; refine Calls.quiet_of_same (cR.out _))); go_wp2_with ((go_at_call 100; ((with_reducible refine (cR.out _).mono ?_); rintro e w' ⟨rfl, rfl⟩))))
    all_goals go_ret
    all_goals first | exact ⟨rfl, (by repeat (first | (with_reducible exact Below.refl _ _) | (with_reducible refine Below.drew ?_) | (with_reducible refine below_drewN ?_ _) | (with_reducible refine Below.alloc ?_ (by first | omega | (simp <;> omega)) _)))⟩ | (exfalso; simp_all; done)
  · rw [show decide (0 ≤ n ∧ n < (P.locks : Int)) = false by simpa using h] at cR
    rw [show opd P f x 108 n = 36 from if_neg h]
    clear h I J
    obtain ⟨op, xa, xb, xc, xn⟩ := x
    unfold Ins.v
    go_enter Tryz.func103, Tryz.ntmps103
    go_wp2_with ((go_at_call 100; ((with_reducible refine (cR.out _).mono ?_); rintro e w' ⟨rfl, rfl⟩)))
    repeat (go_quiet ((go_at_call 100; refine Calls.quiet_of_same (cR.out _))); go_wp2_with ((go_at_call 100; ((with_reducible refine (cR.out _).mono ?_); rintro e w' ⟨rfl, rfl⟩))))
    all_goals go_ret
    all_goals first | exact ⟨rfl, (by repeat (first | (with_reducible exact Below.refl _ _) | (with_reducible refine Below.drew ?_) | (with_reducible refine below_drewN ?_ _) | (with_reducible refine Below.alloc ?_ (by first | omega | (simp <;> omega)) _)))⟩ | (exfalso; simp_all; done)
set_option maxHeartbeats 4000000 in
set_option maxRecDepth 100000 in
theorem roperand_c (n : Int) (x : Ins) (P : Pg) (f : Fn) (w : World) (I : P.In w) (J : f.In w) : Calls Tryz.prog 103 #[P.v, f.v, .int .u8 99, .int .i64 n, x.v] w fun e w' => e = .returned (.int .i64 (opd P f x 99 n)) ∧ Below w.heap.size w w' := by
  have cR := Lib.hid (fun W => rwithin_walk n P.chans.length W (rlen64 I.lenH))
  unfold Pg.v Fn.v
  by_cases h : 0 ≤ n ∧ n < (P.chans.length : Int)
  · rw [show decide (0 ≤ n ∧ n < (P.chans.length : Int)) = true by simpa using h] at cR
    rw [show opd P f x 99 n = 0 from if_pos h]
    clear h I J
    obtain ⟨op, xa, xb, xc, xn⟩ := x
    unfold Ins.v
    go_enter Tryz.func103, Tryz.ntmps103
    go_wp2_with ((go_at_call 100; ((with_reducible refine (cR.out _).mono ?_); rintro e w' ⟨rfl, rfl⟩)))
    repeat (go_quiet ((go_at_call 100; refine Calls.quiet_of_same (cR.out _))); go_wp2_with ((go_at_call 100; ((with_reducible refine (cR.out _).mono ?_); rintro e w' ⟨rfl, rfl⟩))))
    all_goals go_ret
    all_goals first | exact ⟨rfl, (by repeat (first | (with_reducible exact Below.refl _ _) | (with_reducible refine Below.drew ?_) | (with_reducible refine below_drewN ?_ _) | (with_reducible refine Below.alloc ?_ (by first | omega | (simp <;> omega)) _)))⟩ | (exfalso; simp_all; done)
  · rw [show decide (0 ≤ n ∧ n < (P.chans.length : Int)) = false by simpa using h] at cR
    rw [show opd P f x 99 n = 36 from if_neg h]
    clear h I J
    obtain ⟨op, xa, xb, xc, xn⟩ := x
    unfold Ins.v
    go_enter Tryz.func103, Tryz.ntmps103
    go_wp2_with ((go_at_call 100; ((with_reducible refine (cR.out _).mono ?_); rintro e w' ⟨rfl, rfl⟩)))
    repeat (go_quiet ((go_at_call 100; refine Calls.quiet_of_same (cR.out _))); go_wp2_with ((go_at_call 100; ((with_reducible refine (cR.out _).mono ?_); rintro e w' ⟨rfl, rfl⟩))))
    all_goals go_ret
    all_goals first | exact ⟨rfl, (by repeat (first | (with_reducible exact Below.refl _ _) | (with_reducible refine Below.drew ?_) | (with_reducible refine below_drewN ?_ _) | (with_reducible refine Below.alloc ?_ (by first | omega | (simp <;> omega)) _)))⟩ | (exfalso; simp_all; done)
set_option maxHeartbeats 4000000 in
set_option maxRecDepth 100000 in
theorem roperand_s (n : Int) (x : Ins) (P : Pg) (f : Fn) (w : World) (I : P.In w) (J : f.In w) : Calls Tryz.prog 103 #[P.v, f.v, .int .u8 115, .int .i64 n, x.v] w fun e w' => e = .returned (.int .i64 (opd P f x 115 n)) ∧ Below w.heap.size w w' := by
  have cR := Lib.hid (fun W => rwithin_walk n f.sels.length W (rlen64 J.lenS))
  unfold Pg.v Fn.v
  by_cases h : 0 ≤ n ∧ n < (f.sels.length : Int)
  · rw [show decide (0 ≤ n ∧ n < (f.sels.length : Int)) = true by simpa using h] at cR
    rw [show opd P f x 115 n = 0 from if_pos h]
    clear h I J
    obtain ⟨op, xa, xb, xc, xn⟩ := x
    unfold Ins.v
    go_enter Tryz.func103, Tryz.ntmps103
    go_wp2_with ((go_at_call 100; ((with_reducible refine (cR.out _).mono ?_); rintro e w' ⟨rfl, rfl⟩)))
    repeat (go_quiet ((go_at_call 100; refine Calls.quiet_of_same (cR.out _))); go_wp2_with ((go_at_call 100; ((with_reducible refine (cR.out _).mono ?_); rintro e w' ⟨rfl, rfl⟩))))
    all_goals go_ret
    all_goals first | exact ⟨rfl, (by repeat (first | (with_reducible exact Below.refl _ _) | (with_reducible refine Below.drew ?_) | (with_reducible refine below_drewN ?_ _) | (with_reducible refine Below.alloc ?_ (by first | omega | (simp <;> omega)) _)))⟩ | (exfalso; simp_all; done)
  · rw [show decide (0 ≤ n ∧ n < (f.sels.length : Int)) = false by simpa using h] at cR
    rw [show opd P f x 115 n = 36 from if_neg h]
    clear h I J
    obtain ⟨op, xa, xb, xc, xn⟩ := x
    unfold Ins.v
    go_enter Tryz.func103, Tryz.ntmps103
    go_wp2_with ((go_at_call 100; ((with_reducible refine (cR.out _).mono ?_); rintro e w' ⟨rfl, rfl⟩)))
    repeat (go_quiet ((go_at_call 100; refine Calls.quiet_of_same (cR.out _))); go_wp2_with ((go_at_call 100; ((with_reducible refine (cR.out _).mono ?_); rintro e w' ⟨rfl, rfl⟩))))
    all_goals go_ret
    all_goals first | exact ⟨rfl, (by repeat (first | (with_reducible exact Below.refl _ _) | (with_reducible refine Below.drew ?_) | (with_reducible refine below_drewN ?_ _) | (with_reducible refine Below.alloc ?_ (by first | omega | (simp <;> omega)) _)))⟩ | (exfalso; simp_all; done)
set_option maxHeartbeats 4000000 in
set_option maxRecDepth 100000 in
theorem roperand_f (n : Int) (x : Ins) (P : Pg) (f : Fn) (w : World) (I : P.In w) (J : f.In w) : Calls Tryz.prog 103 #[P.v, f.v, .int .u8 102, .int .i64 n, x.v] w fun e w' => e = .returned (.int .i64 (opd P f x 102 n)) ∧ Below w.heap.size w w' := by
  have cR := Lib.hid (fun W => rwithin_walk n P.funcs.length W (rlen64 I.lenF))
  unfold Pg.v Fn.v
  by_cases h : 0 ≤ n ∧ n < (P.funcs.length : Int)
  · rw [show decide (0 ≤ n ∧ n < (P.funcs.length : Int)) = true by simpa using h] at cR
    rw [show opd P f x 102 n = 0 from if_pos h]
    clear h I J
    obtain ⟨op, xa, xb, xc, xn⟩ := x
    unfold Ins.v
    go_enter Tryz.func103, Tryz.ntmps103
    go_wp2_with ((go_at_call 100; ((with_reducible refine (cR.out _).mono ?_); rintro e w' ⟨rfl, rfl⟩)))
    repeat (go_quiet ((go_at_call 100; refine Calls.quiet_of_same (cR.out _))); go_wp2_with ((go_at_call 100; ((with_reducible refine (cR.out _).mono ?_); rintro e w' ⟨rfl, rfl⟩))))
    all_goals go_ret
    all_goals first | exact ⟨rfl, (by repeat (first | (with_reducible exact Below.refl _ _) | (with_reducible refine Below.drew ?_) | (with_reducible refine below_drewN ?_ _) | (with_reducible refine Below.alloc ?_ (by first | omega | (simp <;> omega)) _)))⟩ | (exfalso; simp_all; done)
  · rw [show decide (0 ≤ n ∧ n < (P.funcs.length : Int)) = false by simpa using h] at cR
    rw [show opd P f x 102 n = 36 from if_neg h]
    clear h I J
    obtain ⟨op, xa, xb, xc, xn⟩ := x
    unfold Ins.v
    go_enter Tryz.func103, Tryz.ntmps103
    go_wp2_with ((go_at_call 100; ((with_reducible refine (cR.out _).mono ?_); rintro e w' ⟨rfl, rfl⟩)))
    repeat (go_quiet ((go_at_call 100; refine Calls.quiet_of_same (cR.out _))); go_wp2_with ((go_at_call 100; ((with_reducible refine (cR.out _).mono ?_); rintro e w' ⟨rfl, rfl⟩))))
    all_goals go_ret
    all_goals first | exact ⟨rfl, (by repeat (first | (with_reducible exact Below.refl _ _) | (with_reducible refine Below.drew ?_) | (with_reducible refine below_drewN ?_ _) | (with_reducible refine Below.alloc ?_ (by first | omega | (simp <;> omega)) _)))⟩ | (exfalso; simp_all; done)
set_option maxHeartbeats 4000000 in
set_option maxRecDepth 100000 in
theorem roperand_t (n : Int) (x : Ins) (P : Pg) (f : Fn) (w : World) (I : P.In w) (J : f.In w) : Calls Tryz.prog 103 #[P.v, f.v, .int .u8 116, .int .i64 n, x.v] w fun e w' => e = .returned (.int .i64 (opd P f x 116 n)) ∧ Below w.heap.size w w' := by
  have cR := Lib.hid (fun W => rwithin_walk n f.code.length W (rlen64 J.lenC))
  unfold Pg.v Fn.v
  by_cases h : 0 ≤ n ∧ n < (f.code.length : Int)
  · rw [show decide (0 ≤ n ∧ n < (f.code.length : Int)) = true by simpa using h] at cR
    rw [show opd P f x 116 n = 0 from if_pos h]
    clear h I J
    obtain ⟨op, xa, xb, xc, xn⟩ := x
    unfold Ins.v
    go_enter Tryz.func103, Tryz.ntmps103
    go_wp2_with ((go_at_call 100; ((with_reducible refine (cR.out _).mono ?_); rintro e w' ⟨rfl, rfl⟩)))
    repeat (go_quiet ((go_at_call 100; refine Calls.quiet_of_same (cR.out _))); go_wp2_with ((go_at_call 100; ((with_reducible refine (cR.out _).mono ?_); rintro e w' ⟨rfl, rfl⟩))))
    all_goals go_ret
    all_goals first | exact ⟨rfl, (by repeat (first | (with_reducible exact Below.refl _ _) | (with_reducible refine Below.drew ?_) | (with_reducible refine below_drewN ?_ _) | (with_reducible refine Below.alloc ?_ (by first | omega | (simp <;> omega)) _)))⟩ | (exfalso; simp_all; done)
  · rw [show decide (0 ≤ n ∧ n < (f.code.length : Int)) = false by simpa using h] at cR
    rw [show opd P f x 116 n = 38 from if_neg h]
    clear h I J
    obtain ⟨op, xa, xb, xc, xn⟩ := x
    unfold Ins.v
    go_enter Tryz.func103, Tryz.ntmps103
    go_wp2_with ((go_at_call 100; ((with_reducible refine (cR.out _).mono ?_); rintro e w' ⟨rfl, rfl⟩)))
    repeat (go_quiet ((go_at_call 100; refine Calls.quiet_of_same (cR.out _))); go_wp2_with ((go_at_call 100; ((with_reducible refine (cR.out _).mono ?_); rintro e w' ⟨rfl, rfl⟩))))
    all_goals go_ret
    all_goals first | exact ⟨rfl, (by repeat (first | (with_reducible exact Below.refl _ _) | (with_reducible refine Below.drew ?_) | (with_reducible refine below_drewN ?_ _) | (with_reducible refine Below.alloc ?_ (by first | omega | (simp <;> omega)) _)))⟩ | (exfalso; simp_all; done)
set_option maxHeartbeats 4000000 in
set_option maxRecDepth 100000 in
theorem roperand_o (n : Int) (x : Ins) (P : Pg) (f : Fn) (w : World) (J : f.In w) : Calls Tryz.prog 103 #[P.v, f.v, .int .u8 111, .int .i64 n, x.v] w fun e w' => e = .returned (.int .i64 (opd P f x 111 n)) ∧ Below w.heap.size w w' := by
  have cR := Lib.hid (fun W => rwithin_walk n f.regs W J.reg)
  unfold Pg.v Fn.v
  by_cases hm : n = -1
  · rw [show opd P f x 111 n = 0 from if_pos hm]
    have hb : (n != -1) = false := by simpa using hm
    clear cR hm J
    obtain ⟨op, xa, xb, xc, xn⟩ := x
    unfold Ins.v
    go_enter Tryz.func103, Tryz.ntmps103
    go_wp2
    repeat (go_quiet (fail); go_wp2)
    all_goals go_ret
    all_goals exact ⟨rfl, (by repeat (first | (with_reducible exact Below.refl _ _) | (with_reducible refine Below.drew ?_) | (with_reducible refine below_drewN ?_ _) | (with_reducible refine Below.alloc ?_ (by first | omega | (simp <;> omega)) _)))⟩
  · rw [show opd P f x 111 n = reg f n from if_neg hm]
    have hb : (n != -1) = true := by simpa using hm
    clear hm J
    unfold reg
    by_cases h : 0 ≤ n ∧ n < (f.regs : Int)
    · rw [show decide (0 ≤ n ∧ n < (f.regs : Int)) = true by simpa using h] at cR
      rw [if_pos h]
      clear h
      obtain ⟨op, xa, xb, xc, xn⟩ := x
      unfold Ins.v
      go_enter Tryz.func103, Tryz.ntmps103
      go_wp2_with ((go_at_call 100; ((with_reducible refine (cR.out _).mono ?_); rintro e w' ⟨rfl, rfl⟩)))
      repeat (go_quiet ((go_at_call 100; refine Calls.quiet_of_same (cR.out _))); go_wp2_with ((go_at_call 100; ((with_reducible refine (cR.out _).mono ?_); rintro e w' ⟨rfl, rfl⟩))))
      all_goals go_ret
      all_goals first | exact ⟨rfl, (by repeat (first | (with_reducible exact Below.refl _ _) | (with_reducible refine Below.drew ?_) | (with_reducible refine below_drewN ?_ _) | (with_reducible refine Below.alloc ?_ (by first | omega | (simp <;> omega)) _)))⟩ | (exfalso; simp_all; done)
    · rw [show decide (0 ≤ n ∧ n < (f.regs : Int)) = false by simpa using h] at cR
      rw [if_neg h]
      clear h
      obtain ⟨op, xa, xb, xc, xn⟩ := x
      unfold Ins.v
      go_enter Tryz.func103, Tryz.ntmps103
      go_wp2_with ((go_at_call 100; ((with_reducible refine (cR.out _).mono ?_); rintro e w' ⟨rfl, rfl⟩)))
      repeat (go_quiet ((go_at_call 100; refine Calls.quiet_of_same (cR.out _))); go_wp2_with ((go_at_call 100; ((with_reducible refine (cR.out _).mono ?_); rintro e w' ⟨rfl, rfl⟩))))
      all_goals go_ret
      all_goals first | exact ⟨rfl, (by repeat (first | (with_reducible exact Below.refl _ _) | (with_reducible refine Below.drew ?_) | (with_reducible refine below_drewN ?_ _) | (with_reducible refine Below.alloc ?_ (by first | omega | (simp <;> omega)) _)))⟩ | (exfalso; simp_all; done)
set_option maxHeartbeats 4000000 in
set_option maxRecDepth 100000 in
theorem roperand_a (n : Int) (x : Ins) (P : Pg) (f : Fn) (w : World) (I : P.In w) : Calls Tryz.prog 103 #[P.v, f.v, .int .u8 97, .int .i64 n, x.v] w fun e w' => e = .returned (.int .i64 (opd P f x 97 n)) ∧ Below w.heap.size w w' := by
  have cR := Lib.hid (fun W => rwithin_walk n P.vars.length W (rlen64 I.lenV))
  unfold Pg.v Fn.v
  by_cases h : 0 ≤ n ∧ n < (P.vars.length : Int)
  · rw [show decide (0 ≤ n ∧ n < (P.vars.length : Int)) = true by simpa using h] at cR
    have h0 : obj n P.vars.length = 0 := if_pos h
    obtain ⟨k, rfl⟩ : ∃ k : Nat, n = k := ⟨n.toNat, by omega⟩
    have hk : k < P.vars.length := by omega
    have ho : opd P f x 97 k = if P.vars[k].atomic = true then 0 else 37 := by
      show (if obj (k : Int) P.vars.length = 0 then (if (P.vars.getD (k : Int).toNat default).atomic = true then 0 else 37) else 36) = _
      rw [if_pos h0]; simp [hk]
    rw [ho]
    clear ho h0
    obtain ⟨b, o, hva, hbl, hV⟩ := I.var (by omega)
    have hV0 := hV k P.vars[k] (by simp) 0 _ rfl
    simp only [Nat.add_zero] at hV0
    have hbl1 : b < w.heap.size + 1 := by omega
    have hbl2 : b < w.heap.size + 1 + 1 := by omega
    rw [hva]
    clear hV hva I
    generalize P.vars[k] = V at *
    obtain ⟨a, i⟩ := V
    obtain ⟨op, xa, xb, xc, xn⟩ := x
    unfold Ins.v
    cases a
    all_goals go_enter Tryz.func103, Tryz.ntmps103
    all_goals (go_wp2_with ((go_at_call 100; ((with_reducible refine (cR.out _).mono ?_); rintro e w' ⟨rfl, rfl⟩))); repeat (go_quiet ((go_at_call 100; refine Calls.quiet_of_same (cR.out _))); go_wp2_with ((go_at_call 100; ((with_reducible refine (cR.out _).mono ?_); rintro e w' ⟨rfl, rfl⟩)))))
    all_goals go_ret
    all_goals exact ⟨rfl, (by repeat (first | (with_reducible exact Below.refl _ _) | (with_reducible refine Below.drew ?_) | (with_reducible refine below_drewN ?_ _) | (with_reducible refine Below.alloc ?_ (by first | omega | (simp <;> omega)) _)))⟩
  · rw [show decide (0 ≤ n ∧ n < (P.vars.length : Int)) = false by simpa using h] at cR
    have ho : opd P f x 97 n = 36 := by
      show (if obj (n : Int) P.vars.length = 0 then (if (P.vars.getD (n : Int).toNat default).atomic = true then 0 else 37) else 36) = _
      rw [show obj n P.vars.length = 36 from if_neg h, if_neg (by decide)]
    rw [ho]
    clear ho h I
    obtain ⟨op, xa, xb, xc, xn⟩ := x
    unfold Ins.v
    go_enter Tryz.func103, Tryz.ntmps103
    go_wp2_with ((go_at_call 100; ((with_reducible refine (cR.out _).mono ?_); rintro e w' ⟨rfl, rfl⟩)))
    all_goals go_ret
    all_goals exact ⟨rfl, (by repeat (first | (with_reducible exact Below.refl _ _) | (with_reducible refine Below.drew ?_) | (with_reducible refine below_drewN ?_ _) | (with_reducible refine Below.alloc ?_ (by first | omega | (simp <;> omega)) _)))⟩
set_option maxHeartbeats 4000000 in
set_option maxRecDepth 100000 in
theorem roperand_dash (n : Int) (x : Ins) (P : Pg) (f : Fn) (w : World) (l : Nat) (hl : l = 45 ∨ l = 110) : Calls Tryz.prog 103 #[P.v, f.v, .int .u8 l, .int .i64 n, x.v] w fun e w' => e = .returned (.int .i64 (opd P f x l n)) ∧ Below w.heap.size w w' := by
  unfold Pg.v Fn.v
  obtain ⟨op, xa, xb, xc, xn⟩ := x
  unfold Ins.v
  rcases hl with rfl | rfl
  all_goals go_enter Tryz.func103, Tryz.ntmps103
  all_goals go_wp2
  all_goals go_ret
  all_goals exact ⟨rfl, (by repeat (first | (with_reducible exact Below.refl _ _) | (with_reducible refine Below.drew ?_) | (with_reducible refine below_drewN ?_ _) | (with_reducible refine Below.alloc ?_ (by first | omega | (simp <;> omega)) _)))⟩
set_option maxHeartbeats 4000000 in
set_option maxRecDepth 100000 in
theorem roperand_p (n : Int) (x : Ins) (P : Pg) (f : Fn) (w : World) (I : P.In w) (hr : 0 ≤ f.regs ∧ f.regs ≤ 8) (hb : 0 ≤ x.b ∧ x.b < P.funcs.length) (hn : I64 n) : Calls Tryz.prog 103 #[P.v, f.v, .int .u8 112, .int .i64 n, x.v] w fun e w' => e = .returned (.int .i64 (opd P f x 112 n)) ∧ Below w.heap.size w w' := by
  unfold Pg.v Fn.v
  obtain ⟨b, o, hfa, hbl, hF⟩ := I.func (by omega)
  obtain ⟨k, hk⟩ : ∃ k : Nat, x.b = k := ⟨x.b.toNat, by omega⟩
  have hkl : k < P.funcs.length := by omega
  have hF0 := hF k P.funcs[k] (by simp) 0 _ rfl
  have hq := (I.funcs P.funcs[k] (List.getElem_mem _)).par
  have ho : opd P f x 112 n = if P.funcs[k].params = 0 ∧ n ≠ 0 ∨ 0 < P.funcs[k].params ∧ (n < 0 ∨ f.regs - P.funcs[k].params < n) then 35 else 0 := by
    unfold opd
    rw [if_neg (by decide), if_neg (by decide), if_neg (by decide), if_neg (by decide), if_neg (by decide), if_neg (by decide), if_neg (by decide), if_neg (by decide), if_neg (by decide), if_pos rfl, hk]
    simp [hkl]
  rw [ho]
  rw [hfa]
  obtain ⟨op, xa, xb, xc, xn⟩ := x
  simp only at hk hb
  subst hk
  simp only [Nat.add_zero] at hF0
  have hbl1 : b < w.heap.size + 1 := by omega
  have hbl2 : b < w.heap.size + 1 + 1 := by omega
  clear hF hfa I ho
  obtain ⟨n0, n1⟩ := hn
  obtain ⟨r0, r1⟩ := hr
  obtain ⟨q0, q1⟩ := hq
  generalize P.funcs[k] = F at *
  generalize F.params = Q at *
  unfold Ins.v
  go_enter Tryz.func103, Tryz.ntmps103
  go_wp2
  all_goals (repeat (go_quiet (fail); go_wp2))
  all_goals go_ret
  all_goals refine ⟨?_, (by repeat (first | (with_reducible exact Below.refl _ _) | (with_reducible refine Below.drew ?_) | (with_reducible refine below_drewN ?_ _) | (with_reducible refine Below.alloc ?_ (by first | omega | (simp <;> omega)) _)))⟩
  all_goals first | rfl | (exfalso; omega) | (rw [if_pos (by omega)]; rfl) | (rw [if_neg (by omega)]; rfl)
/-- The letters that stand in a form. -/
def rletter (l : Nat) : Prop := l = 111 ∨ l = 114 ∨ l = 119 ∨ l = 118 ∨ l = 97 ∨ l = 108 ∨ l = 99 ∨ l = 115 ∨ l = 102 ∨ l = 116 ∨ l = 112 ∨ l = 45 ∨ l = 110
theorem roperand_walk (l : Nat) (n : Int) (x : Ins) (P : Pg) (f : Fn) (w : World) (I : P.In w) (J : f.In w) (hr : 0 ≤ f.regs ∧ f.regs ≤ 8) (hl : rletter l) (hb : l = 112 → 0 ≤ x.b ∧ x.b < P.funcs.length) (hn : I64 n) :
    Calls Tryz.prog 103 #[P.v, f.v, .int .u8 l, .int .i64 n, x.v] w fun e w' => e = .returned (.int .i64 (opd P f x l n)) ∧ Below w.heap.size w w' := by
  rcases hl with rfl | rfl | rfl | rfl | rfl | rfl | rfl | rfl | rfl | rfl | rfl | hd
  · exact roperand_o n x P f w J
  · exact roperand_r n x P f w I J
  · exact roperand_w n x P f w I J
  · exact roperand_v n x P f w I J
  · exact roperand_a n x P f w I
  · exact roperand_l n x P f w I J
  · exact roperand_c n x P f w I J
  · exact roperand_s n x P f w I J
  · exact roperand_f n x P f w I J
  · exact roperand_t n x P f w I J
  · exact roperand_p n x P f w I hr (hb rfl) hn
  · exact roperand_dash n x P f w l hd
end Go.Proofs.YtlhhmlfcodmebaaGreatDoor.Pg
