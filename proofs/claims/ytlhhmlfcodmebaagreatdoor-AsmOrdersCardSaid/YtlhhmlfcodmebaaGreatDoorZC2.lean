/- The checker of programs, walked: registers, targets, operands. -/
import Derived.Test.YtlhhmlfcodmebaaGreatDoorZC1
import Derived.Deep.QuietTactic
import Derived.BigQuiet
import Derived.Deep.RegionWith
namespace Go.Proofs.YtlhhmlfcodmebaaGreatDoor.Pg
set_option linter.unusedVariables false
set_option linter.unusedSimpArgs false
open Go.ChangeShapes Go.WideShapes Go.RowKit
/-- A checker in memory. -/
structure Ck (w : World) (B : Nat) (P : Pg) (f : Fn) : Prop where
  c0 : w.cell? ⟨B, 0, none⟩ = some (.slice P.va P.vars.length P.vcap)
  c1 : w.cell? ⟨B, 1, none⟩ = some (.int .i64 P.locks)
  c2 : w.cell? ⟨B, 2, none⟩ = some (.slice P.ha P.chans.length P.hcap)
  c3 : w.cell? ⟨B, 3, none⟩ = some (.slice P.fa P.funcs.length P.fcap)
  c4 : w.cell? ⟨B, 4, none⟩ = some (.int .i64 f.params)
  c5 : w.cell? ⟨B, 5, none⟩ = some (.int .i64 f.regs)
  c6 : w.cell? ⟨B, 6, none⟩ = some (.slice f.ca f.code.length f.ccap)
  c7 : w.cell? ⟨B, 7, none⟩ = some (.slice f.sa f.sels.length f.scap)
  lt : B < w.heap.size
  inP : P.In w
  inF : f.In w
theorem Ck.below {w w1 : World} {B : Nat} {P : Pg} {f : Fn} (h : Ck w B P f) (hb : Below w.heap.size w w1) : Ck w1 B P f := by
  have hl := h.lt
  have g : ∀ o, w1.cell? ⟨B, o, none⟩ = w.cell? ⟨B, o, none⟩ := fun o => hb.cell (by simpa using hl)
  exact ⟨(g 0).trans h.c0, (g 1).trans h.c1, (g 2).trans h.c2, (g 3).trans h.c3, (g 4).trans h.c4, (g 5).trans h.c5, (g 6).trans h.c6, (g 7).trans h.c7, by have := hb.size; omega, h.inP.below hb, h.inF.below hb⟩
set_option maxHeartbeats 1600000 in
set_option maxRecDepth 100000 in
theorem register_walk (n : Int) (B : Nat) (P : Pg) (f : Fn) (w : World) (C : Ck w B P f) : Calls Tryz.prog 96 #[.pointer (some ⟨B, 0, none⟩), .int .i64 n] w fun e w' => e = .returned (.int .i64 (reg f n)) ∧ w' = w := by
  have cW := Lib.hid (fun w => within_walk n f.regs w C.inF.reg)
  have k5 := C.c5
  clear C
  by_cases h : 0 ≤ n ∧ n < f.regs
  · rw [show reg f n = 0 from if_pos h]
    rw [show decide (0 ≤ n ∧ n < f.regs) = true by simpa using h] at cW
    clear h
    go_enter Tryz.func96, Tryz.ntmps96
    go_wp2_with (go_at_call 120; ((with_reducible refine (cW.out _).mono ?_); rintro e w' ⟨rfl, rfl⟩))
    go_ret
    exact ⟨rfl, rfl⟩
  · rw [show reg f n = 35 from if_neg h]
    rw [show decide (0 ≤ n ∧ n < f.regs) = false by simpa using h] at cW
    clear h
    go_enter Tryz.func96, Tryz.ntmps96
    go_wp2_with (go_at_call 120; ((with_reducible refine (cW.out _).mono ?_); rintro e w' ⟨rfl, rfl⟩))
    go_ret
    exact ⟨rfl, rfl⟩
theorem len64 {n : Nat} (h : Len n) : I64 n := by unfold Len at h; unfold I64; omega
set_option maxHeartbeats 1600000 in
set_option maxRecDepth 100000 in
theorem target_walk (n : Int) (B : Nat) (P : Pg) (f : Fn) (w : World) (C : Ck w B P f) : Calls Tryz.prog 97 #[.pointer (some ⟨B, 0, none⟩), .int .i64 n] w fun e w' => e = .returned (.int .i64 (tgt f n)) ∧ w' = w := by
  have cW := Lib.hid (fun w => within_walk n f.code.length w (len64 C.inF.lenC))
  have k6 := C.c6
  clear C
  by_cases h : 0 ≤ n ∧ n < f.code.length
  · rw [show tgt f n = 0 from if_pos h]
    rw [show decide (0 ≤ n ∧ n < (f.code.length : Int)) = true by simpa using h] at cW
    clear h
    go_enter Tryz.func97, Tryz.ntmps97
    go_wp2_with (go_at_call 120; ((with_reducible refine (cW.out _).mono ?_); rintro e w' ⟨rfl, rfl⟩))
    go_ret
    exact ⟨rfl, rfl⟩
  · rw [show tgt f n = 38 from if_neg h]
    rw [show decide (0 ≤ n ∧ n < (f.code.length : Int)) = false by simpa using h] at cW
    clear h
    go_enter Tryz.func97, Tryz.ntmps97
    go_wp2_with (go_at_call 120; ((with_reducible refine (cW.out _).mono ?_); rintro e w' ⟨rfl, rfl⟩))
    go_ret
    exact ⟨rfl, rfl⟩
set_option maxHeartbeats 4000000 in
set_option maxRecDepth 100000 in
theorem operand_p (n : Int) (x : Ins) (B : Nat) (P : Pg) (f : Fn) (w : World) (C : Ck w B P f) (hr : 0 ≤ f.regs ∧ f.regs ≤ 8) (hb : 0 ≤ x.b ∧ x.b < P.funcs.length) (hn : I64 n) : Calls Tryz.prog 99 #[.pointer (some ⟨B, 0, none⟩), .int .u8 112, .int .i64 n, x.v] w fun e w' => e = .returned (.int .i64 (opd P f x 112 n)) ∧ Below w.heap.size w w' := by
  obtain ⟨b, o, hfa, hbl, hF⟩ := C.inP.func (by omega)
  obtain ⟨k, hk⟩ : ∃ k : Nat, x.b = k := ⟨x.b.toNat, by omega⟩
  have hkl : k < P.funcs.length := by omega
  have hF0 := hF k P.funcs[k] (by simp) 0 _ rfl
  have hq := (C.inP.funcs P.funcs[k] (List.getElem_mem _)).par
  have c3 := C.c3
  have c5 := C.c5
  have hlt := C.lt
  have ho : opd P f x 112 n = if P.funcs[k].params = 0 ∧ n ≠ 0 ∨ 0 < P.funcs[k].params ∧ (n < 0 ∨ f.regs - P.funcs[k].params < n) then 35 else 0 := by
    unfold opd
    rw [if_neg (by decide), if_neg (by decide), if_neg (by decide), if_neg (by decide), if_neg (by decide), if_neg (by decide), if_neg (by decide), if_neg (by decide), if_neg (by decide), if_pos rfl, hk]
    simp [hkl]
  rw [ho]
  rw [hfa] at c3
  obtain ⟨op, xa, xb, xc, xn⟩ := x
  simp only at hk hb
  subst hk
  simp only [Nat.add_zero] at hF0
  clear hF hfa C ho
  obtain ⟨n0, n1⟩ := hn
  obtain ⟨r0, r1⟩ := hr
  obtain ⟨q0, q1⟩ := hq
  generalize P.funcs[k] = F at *
  generalize F.params = Q at *
  unfold Ins.v
  go_enter Tryz.func99, Tryz.ntmps99
  go_wp2
  go_quiet (fail)
  go_wp2
  all_goals go_ret
  all_goals refine ⟨?_, (by repeat (first | (with_reducible exact Below.refl _ _) | (with_reducible refine Below.drew ?_) | (with_reducible refine below_drewN ?_ _) | (with_reducible refine Below.alloc ?_ (by first | omega | (simp <;> omega)) _)))⟩
  all_goals first | rfl | (exfalso; omega) | (rw [if_pos (by omega)]; rfl) | (rw [if_neg (by omega)]; rfl)
set_option maxHeartbeats 4000000 in
set_option maxRecDepth 100000 in
theorem operand_r (n : Int) (x : Ins) (B : Nat) (P : Pg) (f : Fn) (w : World) (C : Ck w B P f) : Calls Tryz.prog 99 #[.pointer (some ⟨B, 0, none⟩), .int .u8 114, .int .i64 n, x.v] w fun e w' => e = .returned (.int .i64 (opd P f x 114 n)) ∧ Below w.heap.size w w' := by
  have cR := Lib.hid (fun W (hb : Below w.heap.size w W) => register_walk n B P f W (C.below hb))
  clear C
  obtain ⟨op, xa, xb, xc, xn⟩ := x
  unfold Ins.v
  go_enter Tryz.func99, Tryz.ntmps99
  go_wp2_with ((go_at_call 96; ((with_reducible refine (cR.out _ (by repeat (first | (with_reducible exact Below.refl _ _) | (with_reducible refine Below.drew ?_) | (with_reducible refine below_drewN ?_ _) | (with_reducible refine Below.alloc ?_ (by first | omega | (simp <;> omega)) _)))).mono ?_); rintro e w' ⟨rfl, rfl⟩)))
  all_goals go_ret
  all_goals exact ⟨rfl, (by repeat (first | (with_reducible exact Below.refl _ _) | (with_reducible refine Below.drew ?_) | (with_reducible refine below_drewN ?_ _) | (with_reducible refine Below.alloc ?_ (by first | omega | (simp <;> omega)) _)))⟩
set_option maxHeartbeats 4000000 in
set_option maxRecDepth 100000 in
theorem operand_w (n : Int) (x : Ins) (B : Nat) (P : Pg) (f : Fn) (w : World) (C : Ck w B P f) : Calls Tryz.prog 99 #[.pointer (some ⟨B, 0, none⟩), .int .u8 119, .int .i64 n, x.v] w fun e w' => e = .returned (.int .i64 (opd P f x 119 n)) ∧ Below w.heap.size w w' := by
  have cR := Lib.hid (fun W (hb : Below w.heap.size w W) => register_walk n B P f W (C.below hb))
  clear C
  obtain ⟨op, xa, xb, xc, xn⟩ := x
  unfold Ins.v
  go_enter Tryz.func99, Tryz.ntmps99
  go_wp2_with ((go_at_call 96; ((with_reducible refine (cR.out _ (by repeat (first | (with_reducible exact Below.refl _ _) | (with_reducible refine Below.drew ?_) | (with_reducible refine below_drewN ?_ _) | (with_reducible refine Below.alloc ?_ (by first | omega | (simp <;> omega)) _)))).mono ?_); rintro e w' ⟨rfl, rfl⟩)))
  all_goals go_ret
  all_goals exact ⟨rfl, (by repeat (first | (with_reducible exact Below.refl _ _) | (with_reducible refine Below.drew ?_) | (with_reducible refine below_drewN ?_ _) | (with_reducible refine Below.alloc ?_ (by first | omega | (simp <;> omega)) _)))⟩
set_option maxHeartbeats 4000000 in
set_option maxRecDepth 100000 in
theorem operand_t (n : Int) (x : Ins) (B : Nat) (P : Pg) (f : Fn) (w : World) (C : Ck w B P f) : Calls Tryz.prog 99 #[.pointer (some ⟨B, 0, none⟩), .int .u8 116, .int .i64 n, x.v] w fun e w' => e = .returned (.int .i64 (opd P f x 116 n)) ∧ Below w.heap.size w w' := by
  have cR := Lib.hid (fun W (hb : Below w.heap.size w W) => target_walk n B P f W (C.below hb))
  clear C
  obtain ⟨op, xa, xb, xc, xn⟩ := x
  unfold Ins.v
  go_enter Tryz.func99, Tryz.ntmps99
  go_wp2_with ((go_at_call 97; ((with_reducible refine (cR.out _ (by repeat (first | (with_reducible exact Below.refl _ _) | (with_reducible refine Below.drew ?_) | (with_reducible refine below_drewN ?_ _) | (with_reducible refine Below.alloc ?_ (by first | omega | (simp <;> omega)) _)))).mono ?_); rintro e w' ⟨rfl, rfl⟩)))
  all_goals go_ret
  all_goals exact ⟨rfl, (by repeat (first | (with_reducible exact Below.refl _ _) | (with_reducible refine Below.drew ?_) | (with_reducible refine below_drewN ?_ _) | (with_reducible refine Below.alloc ?_ (by first | omega | (simp <;> omega)) _)))⟩
set_option maxHeartbeats 4000000 in
set_option maxRecDepth 100000 in
theorem operand_l (n : Int) (x : Ins) (B : Nat) (P : Pg) (f : Fn) (w : World) (C : Ck w B P f) : Calls Tryz.prog 99 #[.pointer (some ⟨B, 0, none⟩), .int .u8 108, .int .i64 n, x.v] w fun e w' => e = .returned (.int .i64 (opd P f x 108 n)) ∧ Below w.heap.size w w' := by
  have cO := Lib.hid (fun W => object_walk n P.locks W C.inP.locks)
  have c0 := C.c1
  have hlt := C.lt
  clear C
  obtain ⟨op, xa, xb, xc, xn⟩ := x
  unfold Ins.v
  go_enter Tryz.func99, Tryz.ntmps99
  go_wp2_with ((go_at_call 95; ((with_reducible refine (cO.out _).mono ?_); rintro e w' ⟨rfl, rfl⟩)))
  all_goals go_ret
  all_goals exact ⟨rfl, (by repeat (first | (with_reducible exact Below.refl _ _) | (with_reducible refine Below.drew ?_) | (with_reducible refine below_drewN ?_ _) | (with_reducible refine Below.alloc ?_ (by first | omega | (simp <;> omega)) _)))⟩
set_option maxHeartbeats 4000000 in
set_option maxRecDepth 100000 in
theorem operand_c (n : Int) (x : Ins) (B : Nat) (P : Pg) (f : Fn) (w : World) (C : Ck w B P f) : Calls Tryz.prog 99 #[.pointer (some ⟨B, 0, none⟩), .int .u8 99, .int .i64 n, x.v] w fun e w' => e = .returned (.int .i64 (opd P f x 99 n)) ∧ Below w.heap.size w w' := by
  have cO := Lib.hid (fun W => object_walk n P.chans.length W (len64 C.inP.lenH))
  have c0 := C.c2
  have hlt := C.lt
  clear C
  obtain ⟨op, xa, xb, xc, xn⟩ := x
  unfold Ins.v
  go_enter Tryz.func99, Tryz.ntmps99
  go_wp2_with ((go_at_call 95; ((with_reducible refine (cO.out _).mono ?_); rintro e w' ⟨rfl, rfl⟩)))
  all_goals go_ret
  all_goals exact ⟨rfl, (by repeat (first | (with_reducible exact Below.refl _ _) | (with_reducible refine Below.drew ?_) | (with_reducible refine below_drewN ?_ _) | (with_reducible refine Below.alloc ?_ (by first | omega | (simp <;> omega)) _)))⟩
set_option maxHeartbeats 4000000 in
set_option maxRecDepth 100000 in
theorem operand_s (n : Int) (x : Ins) (B : Nat) (P : Pg) (f : Fn) (w : World) (C : Ck w B P f) : Calls Tryz.prog 99 #[.pointer (some ⟨B, 0, none⟩), .int .u8 115, .int .i64 n, x.v] w fun e w' => e = .returned (.int .i64 (opd P f x 115 n)) ∧ Below w.heap.size w w' := by
  have cO := Lib.hid (fun W => object_walk n f.sels.length W (len64 C.inF.lenS))
  have c0 := C.c7
  have hlt := C.lt
  clear C
  obtain ⟨op, xa, xb, xc, xn⟩ := x
  unfold Ins.v
  go_enter Tryz.func99, Tryz.ntmps99
  go_wp2_with ((go_at_call 95; ((with_reducible refine (cO.out _).mono ?_); rintro e w' ⟨rfl, rfl⟩)))
  all_goals go_ret
  all_goals exact ⟨rfl, (by repeat (first | (with_reducible exact Below.refl _ _) | (with_reducible refine Below.drew ?_) | (with_reducible refine below_drewN ?_ _) | (with_reducible refine Below.alloc ?_ (by first | omega | (simp <;> omega)) _)))⟩
set_option maxHeartbeats 4000000 in
set_option maxRecDepth 100000 in
theorem operand_f (n : Int) (x : Ins) (B : Nat) (P : Pg) (f : Fn) (w : World) (C : Ck w B P f) : Calls Tryz.prog 99 #[.pointer (some ⟨B, 0, none⟩), .int .u8 102, .int .i64 n, x.v] w fun e w' => e = .returned (.int .i64 (opd P f x 102 n)) ∧ Below w.heap.size w w' := by
  have cO := Lib.hid (fun W => object_walk n P.funcs.length W (len64 C.inP.lenF))
  have c0 := C.c3
  have hlt := C.lt
  clear C
  obtain ⟨op, xa, xb, xc, xn⟩ := x
  unfold Ins.v
  go_enter Tryz.func99, Tryz.ntmps99
  go_wp2_with ((go_at_call 95; ((with_reducible refine (cO.out _).mono ?_); rintro e w' ⟨rfl, rfl⟩)))
  all_goals go_ret
  all_goals exact ⟨rfl, (by repeat (first | (with_reducible exact Below.refl _ _) | (with_reducible refine Below.drew ?_) | (with_reducible refine below_drewN ?_ _) | (with_reducible refine Below.alloc ?_ (by first | omega | (simp <;> omega)) _)))⟩
set_option maxHeartbeats 4000000 in
set_option maxRecDepth 100000 in
theorem operand_v (n : Int) (x : Ins) (B : Nat) (P : Pg) (f : Fn) (w : World) (C : Ck w B P f) : Calls Tryz.prog 99 #[.pointer (some ⟨B, 0, none⟩), .int .u8 118, .int .i64 n, x.v] w fun e w' => e = .returned (.int .i64 (opd P f x 118 n)) ∧ Below w.heap.size w w' := by
  have cO := Lib.hid (fun W => object_walk n P.vars.length W (len64 C.inP.lenV))
  have c0 := C.c0
  have hlt := C.lt
  clear C
  obtain ⟨op, xa, xb, xc, xn⟩ := x
  unfold Ins.v
  go_enter Tryz.func99, Tryz.ntmps99
  go_wp2_with ((go_at_call 95; ((with_reducible refine (cO.out _).mono ?_); rintro e w' ⟨rfl, rfl⟩)))
  all_goals go_ret
  · exact ⟨rfl, (by repeat (first | (with_reducible exact Below.refl _ _) | (with_reducible refine Below.drew ?_) | (with_reducible refine below_drewN ?_ _) | (with_reducible refine Below.alloc ?_ (by first | omega | (simp <;> omega)) _)))⟩
  · have h0 : obj n P.vars.length = 0 := by simpa using ‹(obj n (P.vars.length : Int) != 0) = false›
    refine ⟨?_, (by repeat (first | (with_reducible exact Below.refl _ _) | (with_reducible refine Below.drew ?_) | (with_reducible refine below_drewN ?_ _) | (with_reducible refine Below.alloc ?_ (by first | omega | (simp <;> omega)) _)))⟩
    show _ = Ending.returned (.int .i64 (obj n P.vars.length))
    rw [h0]; rfl
set_option maxHeartbeats 4000000 in
set_option maxRecDepth 100000 in
theorem operand_a (n : Int) (x : Ins) (B : Nat) (P : Pg) (f : Fn) (w : World) (C : Ck w B P f) : Calls Tryz.prog 99 #[.pointer (some ⟨B, 0, none⟩), .int .u8 97, .int .i64 n, x.v] w fun e w' => e = .returned (.int .i64 (opd P f x 97 n)) ∧ Below w.heap.size w w' := by
  by_cases h : 0 ≤ n ∧ n < P.vars.length
  · have h0 : obj n P.vars.length = 0 := if_pos h
    have cO := Lib.hid (fun W => object_walk n P.vars.length W (len64 C.inP.lenV))
    rw [h0] at cO
    obtain ⟨k, rfl⟩ : ∃ k : Nat, n = k := ⟨n.toNat, by omega⟩
    have hk : k < P.vars.length := by omega
    have ho : opd P f x 97 k = if P.vars[k].atomic = true then 0 else 37 := by
      show (if obj (k : Int) P.vars.length = 0 then (if (P.vars.getD (k : Int).toNat default).atomic = true then 0 else 37) else 36) = _
      rw [if_pos h0]; simp [hk]
    rw [ho]
    clear ho h0
    obtain ⟨b, o, hva, hbl, hV⟩ := C.inP.var (by omega)
    have hV0 := hV k P.vars[k] (by simp) 0 _ rfl
    have c0 := C.c0
    have hlt := C.lt
    rw [hva] at c0
    simp only [Nat.add_zero] at hV0
    clear hV hva C
    generalize P.vars[k] = V at *
    obtain ⟨a, i⟩ := V
    obtain ⟨op, xa, xb, xc, xn⟩ := x
    unfold Ins.v
    cases a
    · go_enter Tryz.func99, Tryz.ntmps99
      go_wp2_with ((go_at_call 95; ((with_reducible refine (cO.out _).mono ?_); rintro e w' ⟨rfl, rfl⟩)))
      all_goals go_ret
      all_goals exact ⟨rfl, (by repeat (first | (with_reducible exact Below.refl _ _) | (with_reducible refine Below.drew ?_) | (with_reducible refine below_drewN ?_ _) | (with_reducible refine Below.alloc ?_ (by first | omega | (simp <;> omega)) _)))⟩
    · go_enter Tryz.func99, Tryz.ntmps99
      go_wp2_with ((go_at_call 95; ((with_reducible refine (cO.out _).mono ?_); rintro e w' ⟨rfl, rfl⟩)))
      all_goals go_ret
      all_goals exact ⟨rfl, (by repeat (first | (with_reducible exact Below.refl _ _) | (with_reducible refine Below.drew ?_) | (with_reducible refine below_drewN ?_ _) | (with_reducible refine Below.alloc ?_ (by first | omega | (simp <;> omega)) _)))⟩
  · have h0 : obj n P.vars.length = 36 := if_neg h
    have cO := Lib.hid (fun W => object_walk n P.vars.length W (len64 C.inP.lenV))
    rw [h0] at cO
    have ho : opd P f x 97 n = 36 := by
      show (if obj (n : Int) P.vars.length = 0 then (if (P.vars.getD (n : Int).toNat default).atomic = true then 0 else 37) else 36) = _
      rw [h0, if_neg (by decide)]
    rw [ho]
    clear ho h0 h
    have c0 := C.c0
    have hlt := C.lt
    clear C
    obtain ⟨op, xa, xb, xc, xn⟩ := x
    unfold Ins.v
    go_enter Tryz.func99, Tryz.ntmps99
    go_wp2_with ((go_at_call 95; ((with_reducible refine (cO.out _).mono ?_); rintro e w' ⟨rfl, rfl⟩)))
    all_goals go_ret
    all_goals exact ⟨rfl, (by repeat (first | (with_reducible exact Below.refl _ _) | (with_reducible refine Below.drew ?_) | (with_reducible refine below_drewN ?_ _) | (with_reducible refine Below.alloc ?_ (by first | omega | (simp <;> omega)) _)))⟩
set_option maxHeartbeats 4000000 in
set_option maxRecDepth 100000 in
theorem operand_o (n : Int) (x : Ins) (B : Nat) (P : Pg) (f : Fn) (w : World) (C : Ck w B P f) : Calls Tryz.prog 99 #[.pointer (some ⟨B, 0, none⟩), .int .u8 111, .int .i64 n, x.v] w fun e w' => e = .returned (.int .i64 (opd P f x 111 n)) ∧ Below w.heap.size w w' := by
  have cR := Lib.hid (fun W (hb : Below w.heap.size w W) => register_walk n B P f W (C.below hb))
  clear C
  obtain ⟨op, xa, xb, xc, xn⟩ := x
  unfold Ins.v
  by_cases h : n = -1
  · subst h
    go_enter Tryz.func99, Tryz.ntmps99
    go_wp2
    all_goals go_ret
    all_goals exact ⟨rfl, (by repeat (first | (with_reducible exact Below.refl _ _) | (with_reducible refine Below.drew ?_) | (with_reducible refine below_drewN ?_ _) | (with_reducible refine Below.alloc ?_ (by first | omega | (simp <;> omega)) _)))⟩
  · rw [show opd P f ⟨op, xa, xb, xc, xn⟩ 111 n = reg f n from if_neg h]
    go_enter Tryz.func99, Tryz.ntmps99
    go_wp2_with ((go_at_call 96; ((with_reducible refine (cR.out _ (by repeat (first | (with_reducible exact Below.refl _ _) | (with_reducible refine Below.drew ?_) | (with_reducible refine below_drewN ?_ _) | (with_reducible refine Below.alloc ?_ (by first | omega | (simp <;> omega)) _)))).mono ?_); rintro e w' ⟨rfl, rfl⟩)))
    all_goals go_ret
    all_goals exact ⟨rfl, (by repeat (first | (with_reducible exact Below.refl _ _) | (with_reducible refine Below.drew ?_) | (with_reducible refine below_drewN ?_ _) | (with_reducible refine Below.alloc ?_ (by first | omega | (simp <;> omega)) _)))⟩
set_option maxHeartbeats 4000000 in
set_option maxRecDepth 100000 in
theorem operand_dash (n : Int) (x : Ins) (B : Nat) (P : Pg) (f : Fn) (w : World) (l : Nat) (hl : l = 45 ∨ l = 110) : Calls Tryz.prog 99 #[.pointer (some ⟨B, 0, none⟩), .int .u8 l, .int .i64 n, x.v] w fun e w' => e = .returned (.int .i64 (opd P f x l n)) ∧ Below w.heap.size w w' := by
  obtain ⟨op, xa, xb, xc, xn⟩ := x
  unfold Ins.v
  rcases hl with rfl | rfl
  all_goals go_enter Tryz.func99, Tryz.ntmps99
  all_goals go_wp2
  all_goals go_ret
  all_goals exact ⟨rfl, (by repeat (first | (with_reducible exact Below.refl _ _) | (with_reducible refine Below.drew ?_) | (with_reducible refine below_drewN ?_ _) | (with_reducible refine Below.alloc ?_ (by first | omega | (simp <;> omega)) _)))⟩
/-- The letters that stand in a form. -/
def letter (l : Nat) : Prop := l = 111 ∨ l = 114 ∨ l = 119 ∨ l = 118 ∨ l = 97 ∨ l = 108 ∨ l = 99 ∨ l = 115 ∨ l = 102 ∨ l = 116 ∨ l = 112 ∨ l = 45 ∨ l = 110
theorem operand_walk (l : Nat) (n : Int) (x : Ins) (B : Nat) (P : Pg) (f : Fn) (w : World) (C : Ck w B P f) (hr : 0 ≤ f.regs ∧ f.regs ≤ 8) (hl : letter l) (hb : l = 112 → 0 ≤ x.b ∧ x.b < P.funcs.length) (hn : I64 n) :
    Calls Tryz.prog 99 #[.pointer (some ⟨B, 0, none⟩), .int .u8 l, .int .i64 n, x.v] w fun e w' => e = .returned (.int .i64 (opd P f x l n)) ∧ Below w.heap.size w w' := by
  rcases hl with rfl | rfl | rfl | rfl | rfl | rfl | rfl | rfl | rfl | rfl | rfl | hd
  · exact operand_o n x B P f w C
  · exact operand_r n x B P f w C
  · exact operand_w n x B P f w C
  · exact operand_v n x B P f w C
  · exact operand_a n x B P f w C
  · exact operand_l n x B P f w C
  · exact operand_c n x B P f w C
  · exact operand_s n x B P f w C
  · exact operand_f n x B P f w C
  · exact operand_t n x B P f w C
  · exact operand_p n x B P f w C hr (hb rfl) hn
  · exact operand_dash n x B P f w l hd
end Go.Proofs.YtlhhmlfcodmebaaGreatDoor.Pg
