/- States, walked: is a goroutine one of a program, by the reference. -/
import Derived.Test.YtbcdeanmjhcgeaaDoorZV2
namespace Go.Proofs.YtbcdeanmjhcgeaaDoor.Pg
set_option linter.unusedVariables false
set_option linter.unusedSimpArgs false
open Go.ChangeShapes Go.WideShapes Go.RowKit
set_option linter.unusedVariables false
set_option maxHeartbeats 8000000 in
set_option maxRecDepth 100000 in
theorem go_no (P : Pg) (g : Gr) (w : World) (I : P.In w) (G : g.ok) (hs : ¬ stands P g = true) : Calls Tryd.prog 40 #[P.v, g.v] w fun e w' => e = .returned (.bool (fits P g)) ∧ Below w.heap.size w w' := by
  rw [show fits P g = false by rw [fits_eq, show stands P g = false by simpa using hs, Bool.false_and]]
  obtain ⟨r0, r1, r2, r3, r4, r5, r6, r7, hrg⟩ := eight G.len
  obtain ⟨st, fn, pc, why, regs⟩ := g
  simp only at hrg
  subst hrg
  have hlf := I.lenF
  unfold Len at hlf
  unfold stands at hs
  simp only [Bool.and_eq_true, decide_eq_true_eq] at hs
  unfold Pg.v Gr.v Gr.cs
  simp only [List.map_cons, List.map_nil, List.cons_append, List.nil_append]
  by_cases h1 : 1 ≤ st ∧ st ≤ 5 ∧ 0 ≤ fn ∧ fn < (P.funcs.length : Int)
  · have hs : ¬ (0 ≤ pc ∧ pc < ((P.fn fn).code.length : Int)) := fun h => hs ⟨h1, h⟩
    obtain ⟨a1, a2, a3, a4⟩ := h1
    obtain ⟨k, rfl⟩ : ∃ k : Nat, fn = k := ⟨fn.toNat, by omega⟩
    have hkl : k < P.funcs.length := by omega
    obtain ⟨fb, fo, hfa, hfl, hF⟩ := I.func (by omega)
    have s0 := hF k P.funcs[k] (by simp) 0 _ rfl
    have s1 := hF k P.funcs[k] (by simp) 1 _ rfl
    have s2 := hF k P.funcs[k] (by simp) 2 _ rfl
    have s3 := hF k P.funcs[k] (by simp) 3 _ rfl
    have J := I.funcs P.funcs[k] (List.getElem_mem _)
    have hfn : P.fn (k : Int) = P.funcs[k] := by unfold Pg.fn; simp [hkl]
    rw [hfn] at hs
    generalize P.funcs[k] = f at *
    simp only [Nat.add_zero] at s0
    have hlc := J.lenC
    unfold Len at hlc
    have hfl1 : fb < w.heap.size + 1 := by omega
    have hfl2 : fb < w.heap.size + 1 + 1 := by omega
    rw [hfa]
    clear hF hfa hfn G
    rcases (show pc < 0 ∨ (0 ≤ pc ∧ (f.code.length : Int) ≤ pc) by omega) with c | ⟨c, c'⟩
    · skip
      have : decide (st < 1) = false := by first | (simp; done) | (simp; omega)
      have : decide (5 < st) = false := by first | (simp; done) | (simp; omega)
      have : decide ((k : Int) < 0) = false := by first | (simp; done) | (simp; omega)
      have : decide ((P.funcs.length : Int) ≤ (k : Int)) = false := by first | (simp; done) | (simp; omega)
      have : decide (P.funcs.length ≤ k) = false := by first | (simp; done) | (simp; omega)
      have : decide (pc < 0) = true := by first | (simp; done) | (simp; omega)
      go_enter Tryd.func40, Tryd.ntmps40
      go_wp2
      repeat (go_quiet (fail); go_wp2)
      all_goals go_ret
      all_goals exact ⟨rfl, by repeat (first | assumption | (with_reducible exact Below.refl _ _) | (with_reducible refine Below.drew ?_) | (with_reducible refine below_drewN ?_ _) | (with_reducible refine Below.alloc ?_ (by first | omega | (simp <;> omega)) _))⟩
    · skip
      have : decide (st < 1) = false := by first | (simp; done) | (simp; omega)
      have : decide (5 < st) = false := by first | (simp; done) | (simp; omega)
      have : decide ((k : Int) < 0) = false := by first | (simp; done) | (simp; omega)
      have : decide ((P.funcs.length : Int) ≤ (k : Int)) = false := by first | (simp; done) | (simp; omega)
      have : decide (P.funcs.length ≤ k) = false := by first | (simp; done) | (simp; omega)
      have : decide (pc < 0) = false := by first | (simp; done) | (simp; omega)
      have : decide ((f.code.length : Int) ≤ pc) = true := by first | (simp; done) | (simp; omega)
      go_enter Tryd.func40, Tryd.ntmps40
      go_wp2
      repeat (go_quiet (fail); go_wp2)
      all_goals go_ret
      all_goals exact ⟨rfl, by repeat (first | assumption | (with_reducible exact Below.refl _ _) | (with_reducible refine Below.drew ?_) | (with_reducible refine below_drewN ?_ _) | (with_reducible refine Below.alloc ?_ (by first | omega | (simp <;> omega)) _))⟩
  · clear hs G
    rcases (show st < 1 ∨ (1 ≤ st ∧ 5 < st) ∨ (1 ≤ st ∧ st ≤ 5 ∧ fn < 0) ∨ (1 ≤ st ∧ st ≤ 5 ∧ 0 ≤ fn ∧ (P.funcs.length : Int) ≤ fn) by omega) with c | ⟨c, d⟩ | ⟨c, d, e⟩ | ⟨c, d, e, e'⟩
    · skip
      have : decide (st < 1) = true := by first | (simp; done) | (simp; omega)
      go_enter Tryd.func40, Tryd.ntmps40
      go_wp2
      repeat (go_quiet (fail); go_wp2)
      all_goals go_ret
      all_goals exact ⟨rfl, by repeat (first | assumption | (with_reducible exact Below.refl _ _) | (with_reducible refine Below.drew ?_) | (with_reducible refine below_drewN ?_ _) | (with_reducible refine Below.alloc ?_ (by first | omega | (simp <;> omega)) _))⟩
    · skip
      have : decide (st < 1) = false := by first | (simp; done) | (simp; omega)
      have : decide (5 < st) = true := by first | (simp; done) | (simp; omega)
      go_enter Tryd.func40, Tryd.ntmps40
      go_wp2
      repeat (go_quiet (fail); go_wp2)
      all_goals go_ret
      all_goals exact ⟨rfl, by repeat (first | assumption | (with_reducible exact Below.refl _ _) | (with_reducible refine Below.drew ?_) | (with_reducible refine below_drewN ?_ _) | (with_reducible refine Below.alloc ?_ (by first | omega | (simp <;> omega)) _))⟩
    · skip
      have : decide (st < 1) = false := by first | (simp; done) | (simp; omega)
      have : decide (5 < st) = false := by first | (simp; done) | (simp; omega)
      have : decide (fn < 0) = true := by first | (simp; done) | (simp; omega)
      go_enter Tryd.func40, Tryd.ntmps40
      go_wp2
      repeat (go_quiet (fail); go_wp2)
      all_goals go_ret
      all_goals exact ⟨rfl, by repeat (first | assumption | (with_reducible exact Below.refl _ _) | (with_reducible refine Below.drew ?_) | (with_reducible refine below_drewN ?_ _) | (with_reducible refine Below.alloc ?_ (by first | omega | (simp <;> omega)) _))⟩
    · skip
      have : decide (st < 1) = false := by first | (simp; done) | (simp; omega)
      have : decide (5 < st) = false := by first | (simp; done) | (simp; omega)
      have : decide (fn < 0) = false := by first | (simp; done) | (simp; omega)
      have : decide ((P.funcs.length : Int) ≤ fn) = true := by first | (simp; done) | (simp; omega)
      go_enter Tryd.func40, Tryd.ntmps40
      go_wp2
      repeat (go_quiet (fail); go_wp2)
      all_goals go_ret
      all_goals exact ⟨rfl, by repeat (first | assumption | (with_reducible exact Below.refl _ _) | (with_reducible refine Below.drew ?_) | (with_reducible refine below_drewN ?_ _) | (with_reducible refine Below.alloc ?_ (by first | omega | (simp <;> omega)) _))⟩
set_option maxHeartbeats 8000000 in
set_option maxRecDepth 100000 in
theorem go_1 (P : Pg) (g : Gr) (w : World) (I : P.In w) (G : g.ok) (hR : ∀ f ∈ P.funcs, 0 ≤ f.regs ∧ f.regs ≤ 8) (hs : stands P g = true) (hst : g.status = 1) : Calls Tryd.prog 40 #[P.v, g.v] w fun e w' => e = .returned (.bool (fits P g)) ∧ Below w.heap.size w w' := by
  obtain ⟨r, hr⟩ : ∃ r, Hid (r = fits P g) := ⟨_, Lib.hid rfl⟩
  rw [← hr.out]
  have hfe := fits_eq P g
  rw [hs, Bool.true_and] at hfe
  obtain ⟨r0, r1, r2, r3, r4, r5, r6, r7, hrg⟩ := eight G.len
  obtain ⟨st, fn, pc, why, regs⟩ := g
  simp only at hrg hst
  subst hrg
  subst hst
  have hlf := I.lenF
  unfold Len at hlf
  unfold stands at hs
  simp only [Bool.and_eq_true, decide_eq_true_eq] at hs
  obtain ⟨⟨_, _, a3, a4⟩, b1, b2⟩ := hs
  obtain ⟨w0, w1⟩ := G.why
  unfold Pg.v Gr.v Gr.cs
  simp only [List.map_cons, List.map_nil, List.cons_append, List.nil_append]
  obtain ⟨k, rfl⟩ : ∃ k : Nat, fn = k := ⟨fn.toNat, by omega⟩
  obtain ⟨m, rfl⟩ : ∃ m : Nat, pc = m := ⟨pc.toNat, by omega⟩
  have hkl : k < P.funcs.length := by omega
  obtain ⟨fb, fo, hfa, hfl, hF⟩ := I.func (by omega)
  have s0 := hF k P.funcs[k] (by simp) 0 _ rfl
  have s1 := hF k P.funcs[k] (by simp) 1 _ rfl
  have s2 := hF k P.funcs[k] (by simp) 2 _ rfl
  have s3 := hF k P.funcs[k] (by simp) 3 _ rfl
  have J := I.funcs P.funcs[k] (List.getElem_mem _)
  have hRf := hR P.funcs[k] (List.getElem_mem _)
  have hfn : P.fn (k : Int) = P.funcs[k] := by unfold Pg.fn; simp [hkl]
  unfold Gr.ins at hfe
  simp only at hfe
  rw [hfn] at b2 hfe
  generalize P.funcs[k] = f at *
  have hml : m < f.code.length := by omega
  obtain ⟨cb, co, hca, hcbl, hC⟩ := J.ins (by omega)
  have t0 := hC m f.code[m] (by simp) 0 _ rfl
  have hat : f.at (m : Int) = f.code[m] := by unfold Fn.at; simp [hml]
  rw [hat] at hfe
  generalize f.code[m] = x at *
  obtain ⟨op, xa, xb, xc, xn⟩ := x
  simp only [Nat.add_zero] at s0 t0
  simp only at hfe
  have hlc := J.lenC
  unfold Len at hlc
  obtain ⟨g0, g1⟩ := J.reg
  have hfl1 : fb < w.heap.size + 1 := by omega
  have hfl2 : fb < w.heap.size + 1 + 1 := by omega
  have hcl1 : cb < w.heap.size + 1 := by omega
  have hcl2 : cb < w.heap.size + 1 + 1 := by omega
  have hcl3 : cb < w.heap.size + 1 + 1 + 1 := by omega
  rw [hfa]
  rw [hca] at s2
  have hrr := Lib.hid (show r = (zeros (f.regs) [r0, r1, r2, r3, r4, r5, r6, r7] && decide (why = 0)) by rw [hr.out, hfe]; simp [ends])
  have cM := Lib.hid (fun W => failing_walk why op W)
  have cL := Lib.hid (fun W => rlocal_walk op W)
  clear hF hfa hfn hC hca hat hfe hr G
  obtain ⟨n, hn⟩ : ∃ n : Nat, f.regs = n := ⟨f.regs.toNat, by omega⟩
  rw [hn] at s1 hrr
  have hn8 : n ≤ 8 := by omega
  clear hn
  go_enter Tryd.func40, Tryd.ntmps40
  go_wp2
  repeat (go_quiet (fail); go_wp2)
  go_loop [6] (fun i => ∃ j : Nat, j ≤ 8 ∧ n ≤ j ∧ i = .int .i64 j ∧ Hid (∀ q : Nat, q < j → (q : Int) < (n : Nat) ∨ [r0, r1, r2, r3, r4, r5, r6, r7].getD q 0 = 0)) (fun i => 8 - (intOf i).toNat)
  case atStart => exact ⟨n, by omega, by omega, rfl, Lib.hid (fun q hq => by omega)⟩
  case round =>
    obtain ⟨j, hj, hnj, rfl, hz⟩ := hrel
    by_cases hj8 : j < 8
    · rcases (show j = 0 ∨ j = 1 ∨ j = 2 ∨ j = 3 ∨ j = 4 ∨ j = 5 ∨ j = 6 ∨ j = 7 by omega) with rfl | rfl | rfl | rfl | rfl | rfl | rfl | rfl
      · by_cases hv0 : r0 = 0
        · have hnx := Lib.hid (show ∀ q : Nat, q < 0 + 1 → (q : Int) < (n : Nat) ∨ [r0, r1, r2, r3, r4, r5, r6, r7].getD q 0 = 0 from fun q hq => by
            by_cases hqj : q < 0
            · exact hz.out q hqj
            · obtain rfl : q = 0 := by omega
              exact .inr hv0)
          have hvb : (r0 != 0) = false := by simpa using hv0
          clear hv0
          go_wp2
          go_round
          case rel => exact ⟨1, by omega, by omega, rfl, hnx⟩
          case measure => simp [intOf]
        · have hvb : (r0 != 0) = true := by simpa using hv0
          have hrv := Lib.hid (show r = false by rw [hrr.out, zeros_no (j := 0) (by simp) (by omega) (by exact hv0), Bool.false_and])
          clear hv0
          go_wp2
          go_ret
          exact ⟨by first | rfl | (rw [hrv.out]; rfl), by repeat (first | assumption | (with_reducible exact Below.refl _ _) | (with_reducible refine Below.drew ?_) | (with_reducible refine below_drewN ?_ _) | (with_reducible refine Below.alloc ?_ (by first | omega | (simp <;> omega)) _))⟩
      · by_cases hv0 : r1 = 0
        · have hnx := Lib.hid (show ∀ q : Nat, q < 1 + 1 → (q : Int) < (n : Nat) ∨ [r0, r1, r2, r3, r4, r5, r6, r7].getD q 0 = 0 from fun q hq => by
            by_cases hqj : q < 1
            · exact hz.out q hqj
            · obtain rfl : q = 1 := by omega
              exact .inr hv0)
          have hvb : (r1 != 0) = false := by simpa using hv0
          clear hv0
          go_wp2
          go_round
          case rel => exact ⟨2, by omega, by omega, rfl, hnx⟩
          case measure => simp [intOf]
        · have hvb : (r1 != 0) = true := by simpa using hv0
          have hrv := Lib.hid (show r = false by rw [hrr.out, zeros_no (j := 1) (by simp) (by omega) (by exact hv0), Bool.false_and])
          clear hv0
          go_wp2
          go_ret
          exact ⟨by first | rfl | (rw [hrv.out]; rfl), by repeat (first | assumption | (with_reducible exact Below.refl _ _) | (with_reducible refine Below.drew ?_) | (with_reducible refine below_drewN ?_ _) | (with_reducible refine Below.alloc ?_ (by first | omega | (simp <;> omega)) _))⟩
      · by_cases hv0 : r2 = 0
        · have hnx := Lib.hid (show ∀ q : Nat, q < 2 + 1 → (q : Int) < (n : Nat) ∨ [r0, r1, r2, r3, r4, r5, r6, r7].getD q 0 = 0 from fun q hq => by
            by_cases hqj : q < 2
            · exact hz.out q hqj
            · obtain rfl : q = 2 := by omega
              exact .inr hv0)
          have hvb : (r2 != 0) = false := by simpa using hv0
          clear hv0
          go_wp2
          go_round
          case rel => exact ⟨3, by omega, by omega, rfl, hnx⟩
          case measure => simp [intOf]
        · have hvb : (r2 != 0) = true := by simpa using hv0
          have hrv := Lib.hid (show r = false by rw [hrr.out, zeros_no (j := 2) (by simp) (by omega) (by exact hv0), Bool.false_and])
          clear hv0
          go_wp2
          go_ret
          exact ⟨by first | rfl | (rw [hrv.out]; rfl), by repeat (first | assumption | (with_reducible exact Below.refl _ _) | (with_reducible refine Below.drew ?_) | (with_reducible refine below_drewN ?_ _) | (with_reducible refine Below.alloc ?_ (by first | omega | (simp <;> omega)) _))⟩
      · by_cases hv0 : r3 = 0
        · have hnx := Lib.hid (show ∀ q : Nat, q < 3 + 1 → (q : Int) < (n : Nat) ∨ [r0, r1, r2, r3, r4, r5, r6, r7].getD q 0 = 0 from fun q hq => by
            by_cases hqj : q < 3
            · exact hz.out q hqj
            · obtain rfl : q = 3 := by omega
              exact .inr hv0)
          have hvb : (r3 != 0) = false := by simpa using hv0
          clear hv0
          go_wp2
          go_round
          case rel => exact ⟨4, by omega, by omega, rfl, hnx⟩
          case measure => simp [intOf]
        · have hvb : (r3 != 0) = true := by simpa using hv0
          have hrv := Lib.hid (show r = false by rw [hrr.out, zeros_no (j := 3) (by simp) (by omega) (by exact hv0), Bool.false_and])
          clear hv0
          go_wp2
          go_ret
          exact ⟨by first | rfl | (rw [hrv.out]; rfl), by repeat (first | assumption | (with_reducible exact Below.refl _ _) | (with_reducible refine Below.drew ?_) | (with_reducible refine below_drewN ?_ _) | (with_reducible refine Below.alloc ?_ (by first | omega | (simp <;> omega)) _))⟩
      · by_cases hv0 : r4 = 0
        · have hnx := Lib.hid (show ∀ q : Nat, q < 4 + 1 → (q : Int) < (n : Nat) ∨ [r0, r1, r2, r3, r4, r5, r6, r7].getD q 0 = 0 from fun q hq => by
            by_cases hqj : q < 4
            · exact hz.out q hqj
            · obtain rfl : q = 4 := by omega
              exact .inr hv0)
          have hvb : (r4 != 0) = false := by simpa using hv0
          clear hv0
          go_wp2
          go_round
          case rel => exact ⟨5, by omega, by omega, rfl, hnx⟩
          case measure => simp [intOf]
        · have hvb : (r4 != 0) = true := by simpa using hv0
          have hrv := Lib.hid (show r = false by rw [hrr.out, zeros_no (j := 4) (by simp) (by omega) (by exact hv0), Bool.false_and])
          clear hv0
          go_wp2
          go_ret
          exact ⟨by first | rfl | (rw [hrv.out]; rfl), by repeat (first | assumption | (with_reducible exact Below.refl _ _) | (with_reducible refine Below.drew ?_) | (with_reducible refine below_drewN ?_ _) | (with_reducible refine Below.alloc ?_ (by first | omega | (simp <;> omega)) _))⟩
      · by_cases hv0 : r5 = 0
        · have hnx := Lib.hid (show ∀ q : Nat, q < 5 + 1 → (q : Int) < (n : Nat) ∨ [r0, r1, r2, r3, r4, r5, r6, r7].getD q 0 = 0 from fun q hq => by
            by_cases hqj : q < 5
            · exact hz.out q hqj
            · obtain rfl : q = 5 := by omega
              exact .inr hv0)
          have hvb : (r5 != 0) = false := by simpa using hv0
          clear hv0
          go_wp2
          go_round
          case rel => exact ⟨6, by omega, by omega, rfl, hnx⟩
          case measure => simp [intOf]
        · have hvb : (r5 != 0) = true := by simpa using hv0
          have hrv := Lib.hid (show r = false by rw [hrr.out, zeros_no (j := 5) (by simp) (by omega) (by exact hv0), Bool.false_and])
          clear hv0
          go_wp2
          go_ret
          exact ⟨by first | rfl | (rw [hrv.out]; rfl), by repeat (first | assumption | (with_reducible exact Below.refl _ _) | (with_reducible refine Below.drew ?_) | (with_reducible refine below_drewN ?_ _) | (with_reducible refine Below.alloc ?_ (by first | omega | (simp <;> omega)) _))⟩
      · by_cases hv0 : r6 = 0
        · have hnx := Lib.hid (show ∀ q : Nat, q < 6 + 1 → (q : Int) < (n : Nat) ∨ [r0, r1, r2, r3, r4, r5, r6, r7].getD q 0 = 0 from fun q hq => by
            by_cases hqj : q < 6
            · exact hz.out q hqj
            · obtain rfl : q = 6 := by omega
              exact .inr hv0)
          have hvb : (r6 != 0) = false := by simpa using hv0
          clear hv0
          go_wp2
          go_round
          case rel => exact ⟨7, by omega, by omega, rfl, hnx⟩
          case measure => simp [intOf]
        · have hvb : (r6 != 0) = true := by simpa using hv0
          have hrv := Lib.hid (show r = false by rw [hrr.out, zeros_no (j := 6) (by simp) (by omega) (by exact hv0), Bool.false_and])
          clear hv0
          go_wp2
          go_ret
          exact ⟨by first | rfl | (rw [hrv.out]; rfl), by repeat (first | assumption | (with_reducible exact Below.refl _ _) | (with_reducible refine Below.drew ?_) | (with_reducible refine below_drewN ?_ _) | (with_reducible refine Below.alloc ?_ (by first | omega | (simp <;> omega)) _))⟩
      · by_cases hv0 : r7 = 0
        · have hnx := Lib.hid (show ∀ q : Nat, q < 7 + 1 → (q : Int) < (n : Nat) ∨ [r0, r1, r2, r3, r4, r5, r6, r7].getD q 0 = 0 from fun q hq => by
            by_cases hqj : q < 7
            · exact hz.out q hqj
            · obtain rfl : q = 7 := by omega
              exact .inr hv0)
          have hvb : (r7 != 0) = false := by simpa using hv0
          clear hv0
          go_wp2
          go_round
          case rel => exact ⟨8, by omega, by omega, rfl, hnx⟩
          case measure => simp [intOf]
        · have hvb : (r7 != 0) = true := by simpa using hv0
          have hrv := Lib.hid (show r = false by rw [hrr.out, zeros_no (j := 7) (by simp) (by omega) (by exact hv0), Bool.false_and])
          clear hv0
          go_wp2
          go_ret
          exact ⟨by first | rfl | (rw [hrv.out]; rfl), by repeat (first | assumption | (with_reducible exact Below.refl _ _) | (with_reducible refine Below.drew ?_) | (with_reducible refine below_drewN ?_ _) | (with_reducible refine Below.alloc ?_ (by first | omega | (simp <;> omega)) _))⟩
    · obtain rfl : j = 8 := by omega
      have hrv := hrr.out
      have hzz : zeros ((n : Int)) [r0, r1, r2, r3, r4, r5, r6, r7] = true := (zeros_iff _ _).2 (fun q hq => hz.out q (by simpa using hq))
      rw [hzz, Bool.true_and] at hrv
      have hrv := Lib.hid hrv
      by_cases hw : why = 0
      · subst hw
        have hrv := Lib.hid (show r = true by rw [hrv.out]; rfl)
        go_wp2_with (first | (go_at_call 54; ((with_reducible refine (cM.out _).mono ?_); rintro e w' ⟨rfl, rfl⟩)) | (go_at_call 49; ((with_reducible refine (cL.out _).mono ?_); rintro e w' ⟨rfl, rfl⟩)))
        repeat (go_quiet (first | (go_at_call 54; refine Calls.quiet_of_same (cM.out _)) | (go_at_call 49; refine Calls.quiet_of_same (cL.out _))); go_wp2_with (first | (go_at_call 54; ((with_reducible refine (cM.out _).mono ?_); rintro e w' ⟨rfl, rfl⟩)) | (go_at_call 49; ((with_reducible refine (cL.out _).mono ?_); rintro e w' ⟨rfl, rfl⟩))))
        all_goals go_ret
        all_goals exact ⟨by first | rfl | (rw [hrv.out]; first | rfl | (simp; done) | (simp; omega)) | (simp; done) | (simp; omega), by repeat (first | assumption | (with_reducible exact Below.refl _ _) | (with_reducible refine Below.drew ?_) | (with_reducible refine below_drewN ?_ _) | (with_reducible refine Below.alloc ?_ (by first | omega | (simp <;> omega)) _))⟩
      · have hwb : (why == 0) = false := by simpa using hw
        have hrv := Lib.hid (show r = false by rw [hrv.out]; simp [hw])
        go_wp2_with (first | (go_at_call 54; ((with_reducible refine (cM.out _).mono ?_); rintro e w' ⟨rfl, rfl⟩)) | (go_at_call 49; ((with_reducible refine (cL.out _).mono ?_); rintro e w' ⟨rfl, rfl⟩)))
        repeat (go_quiet (first | (go_at_call 54; refine Calls.quiet_of_same (cM.out _)) | (go_at_call 49; refine Calls.quiet_of_same (cL.out _))); go_wp2_with (first | (go_at_call 54; ((with_reducible refine (cM.out _).mono ?_); rintro e w' ⟨rfl, rfl⟩)) | (go_at_call 49; ((with_reducible refine (cL.out _).mono ?_); rintro e w' ⟨rfl, rfl⟩))))
        all_goals go_ret
        all_goals exact ⟨by first | rfl | (rw [hrv.out]; first | rfl | (simp; done) | (simp; omega)) | (simp; done) | (simp; omega), by repeat (first | assumption | (with_reducible exact Below.refl _ _) | (with_reducible refine Below.drew ?_) | (with_reducible refine below_drewN ?_ _) | (with_reducible refine Below.alloc ?_ (by first | omega | (simp <;> omega)) _))⟩
set_option maxHeartbeats 8000000 in
set_option maxRecDepth 100000 in
theorem go_2 (P : Pg) (g : Gr) (w : World) (I : P.In w) (G : g.ok) (hR : ∀ f ∈ P.funcs, 0 ≤ f.regs ∧ f.regs ≤ 8) (hs : stands P g = true) (hst : g.status = 2) : Calls Tryd.prog 40 #[P.v, g.v] w fun e w' => e = .returned (.bool (fits P g)) ∧ Below w.heap.size w w' := by
  obtain ⟨r, hr⟩ : ∃ r, Hid (r = fits P g) := ⟨_, Lib.hid rfl⟩
  rw [← hr.out]
  have hfe := fits_eq P g
  rw [hs, Bool.true_and] at hfe
  obtain ⟨r0, r1, r2, r3, r4, r5, r6, r7, hrg⟩ := eight G.len
  obtain ⟨st, fn, pc, why, regs⟩ := g
  simp only at hrg hst
  subst hrg
  subst hst
  have hlf := I.lenF
  unfold Len at hlf
  unfold stands at hs
  simp only [Bool.and_eq_true, decide_eq_true_eq] at hs
  obtain ⟨⟨_, _, a3, a4⟩, b1, b2⟩ := hs
  obtain ⟨w0, w1⟩ := G.why
  unfold Pg.v Gr.v Gr.cs
  simp only [List.map_cons, List.map_nil, List.cons_append, List.nil_append]
  obtain ⟨k, rfl⟩ : ∃ k : Nat, fn = k := ⟨fn.toNat, by omega⟩
  obtain ⟨m, rfl⟩ : ∃ m : Nat, pc = m := ⟨pc.toNat, by omega⟩
  have hkl : k < P.funcs.length := by omega
  obtain ⟨fb, fo, hfa, hfl, hF⟩ := I.func (by omega)
  have s0 := hF k P.funcs[k] (by simp) 0 _ rfl
  have s1 := hF k P.funcs[k] (by simp) 1 _ rfl
  have s2 := hF k P.funcs[k] (by simp) 2 _ rfl
  have s3 := hF k P.funcs[k] (by simp) 3 _ rfl
  have J := I.funcs P.funcs[k] (List.getElem_mem _)
  have hRf := hR P.funcs[k] (List.getElem_mem _)
  have hfn : P.fn (k : Int) = P.funcs[k] := by unfold Pg.fn; simp [hkl]
  unfold Gr.ins at hfe
  simp only at hfe
  rw [hfn] at b2 hfe
  generalize P.funcs[k] = f at *
  have hml : m < f.code.length := by omega
  obtain ⟨cb, co, hca, hcbl, hC⟩ := J.ins (by omega)
  have t0 := hC m f.code[m] (by simp) 0 _ rfl
  have hat : f.at (m : Int) = f.code[m] := by unfold Fn.at; simp [hml]
  rw [hat] at hfe
  generalize f.code[m] = x at *
  obtain ⟨op, xa, xb, xc, xn⟩ := x
  simp only [Nat.add_zero] at s0 t0
  simp only at hfe
  have hlc := J.lenC
  unfold Len at hlc
  obtain ⟨g0, g1⟩ := J.reg
  have hfl1 : fb < w.heap.size + 1 := by omega
  have hfl2 : fb < w.heap.size + 1 + 1 := by omega
  have hcl1 : cb < w.heap.size + 1 := by omega
  have hcl2 : cb < w.heap.size + 1 + 1 := by omega
  have hcl3 : cb < w.heap.size + 1 + 1 + 1 := by omega
  rw [hfa]
  rw [hca] at s2
  have hrr := Lib.hid (show r = (zeros (f.regs) [r0, r1, r2, r3, r4, r5, r6, r7] && decide (why = 0)) by rw [hr.out, hfe]; simp [ends])
  have cM := Lib.hid (fun W => failing_walk why op W)
  have cL := Lib.hid (fun W => rlocal_walk op W)
  clear hF hfa hfn hC hca hat hfe hr G
  obtain ⟨n, hn⟩ : ∃ n : Nat, f.regs = n := ⟨f.regs.toNat, by omega⟩
  rw [hn] at s1 hrr
  have hn8 : n ≤ 8 := by omega
  clear hn
  go_enter Tryd.func40, Tryd.ntmps40
  go_wp2
  repeat (go_quiet (fail); go_wp2)
  go_loop [6] (fun i => ∃ j : Nat, j ≤ 8 ∧ n ≤ j ∧ i = .int .i64 j ∧ Hid (∀ q : Nat, q < j → (q : Int) < (n : Nat) ∨ [r0, r1, r2, r3, r4, r5, r6, r7].getD q 0 = 0)) (fun i => 8 - (intOf i).toNat)
  case atStart => exact ⟨n, by omega, by omega, rfl, Lib.hid (fun q hq => by omega)⟩
  case round =>
    obtain ⟨j, hj, hnj, rfl, hz⟩ := hrel
    by_cases hj8 : j < 8
    · rcases (show j = 0 ∨ j = 1 ∨ j = 2 ∨ j = 3 ∨ j = 4 ∨ j = 5 ∨ j = 6 ∨ j = 7 by omega) with rfl | rfl | rfl | rfl | rfl | rfl | rfl | rfl
      · by_cases hv0 : r0 = 0
        · have hnx := Lib.hid (show ∀ q : Nat, q < 0 + 1 → (q : Int) < (n : Nat) ∨ [r0, r1, r2, r3, r4, r5, r6, r7].getD q 0 = 0 from fun q hq => by
            by_cases hqj : q < 0
            · exact hz.out q hqj
            · obtain rfl : q = 0 := by omega
              exact .inr hv0)
          have hvb : (r0 != 0) = false := by simpa using hv0
          clear hv0
          go_wp2
          go_round
          case rel => exact ⟨1, by omega, by omega, rfl, hnx⟩
          case measure => simp [intOf]
        · have hvb : (r0 != 0) = true := by simpa using hv0
          have hrv := Lib.hid (show r = false by rw [hrr.out, zeros_no (j := 0) (by simp) (by omega) (by exact hv0), Bool.false_and])
          clear hv0
          go_wp2
          go_ret
          exact ⟨by first | rfl | (rw [hrv.out]; rfl), by repeat (first | assumption | (with_reducible exact Below.refl _ _) | (with_reducible refine Below.drew ?_) | (with_reducible refine below_drewN ?_ _) | (with_reducible refine Below.alloc ?_ (by first | omega | (simp <;> omega)) _))⟩
      · by_cases hv0 : r1 = 0
        · have hnx := Lib.hid (show ∀ q : Nat, q < 1 + 1 → (q : Int) < (n : Nat) ∨ [r0, r1, r2, r3, r4, r5, r6, r7].getD q 0 = 0 from fun q hq => by
            by_cases hqj : q < 1
            · exact hz.out q hqj
            · obtain rfl : q = 1 := by omega
              exact .inr hv0)
          have hvb : (r1 != 0) = false := by simpa using hv0
          clear hv0
          go_wp2
          go_round
          case rel => exact ⟨2, by omega, by omega, rfl, hnx⟩
          case measure => simp [intOf]
        · have hvb : (r1 != 0) = true := by simpa using hv0
          have hrv := Lib.hid (show r = false by rw [hrr.out, zeros_no (j := 1) (by simp) (by omega) (by exact hv0), Bool.false_and])
          clear hv0
          go_wp2
          go_ret
          exact ⟨by first | rfl | (rw [hrv.out]; rfl), by repeat (first | assumption | (with_reducible exact Below.refl _ _) | (with_reducible refine Below.drew ?_) | (with_reducible refine below_drewN ?_ _) | (with_reducible refine Below.alloc ?_ (by first | omega | (simp <;> omega)) _))⟩
      · by_cases hv0 : r2 = 0
        · have hnx := Lib.hid (show ∀ q : Nat, q < 2 + 1 → (q : Int) < (n : Nat) ∨ [r0, r1, r2, r3, r4, r5, r6, r7].getD q 0 = 0 from fun q hq => by
            by_cases hqj : q < 2
            · exact hz.out q hqj
            · obtain rfl : q = 2 := by omega
              exact .inr hv0)
          have hvb : (r2 != 0) = false := by simpa using hv0
          clear hv0
          go_wp2
          go_round
          case rel => exact ⟨3, by omega, by omega, rfl, hnx⟩
          case measure => simp [intOf]
        · have hvb : (r2 != 0) = true := by simpa using hv0
          have hrv := Lib.hid (show r = false by rw [hrr.out, zeros_no (j := 2) (by simp) (by omega) (by exact hv0), Bool.false_and])
          clear hv0
          go_wp2
          go_ret
          exact ⟨by first | rfl | (rw [hrv.out]; rfl), by repeat (first | assumption | (with_reducible exact Below.refl _ _) | (with_reducible refine Below.drew ?_) | (with_reducible refine below_drewN ?_ _) | (with_reducible refine Below.alloc ?_ (by first | omega | (simp <;> omega)) _))⟩
      · by_cases hv0 : r3 = 0
        · have hnx := Lib.hid (show ∀ q : Nat, q < 3 + 1 → (q : Int) < (n : Nat) ∨ [r0, r1, r2, r3, r4, r5, r6, r7].getD q 0 = 0 from fun q hq => by
            by_cases hqj : q < 3
            · exact hz.out q hqj
            · obtain rfl : q = 3 := by omega
              exact .inr hv0)
          have hvb : (r3 != 0) = false := by simpa using hv0
          clear hv0
          go_wp2
          go_round
          case rel => exact ⟨4, by omega, by omega, rfl, hnx⟩
          case measure => simp [intOf]
        · have hvb : (r3 != 0) = true := by simpa using hv0
          have hrv := Lib.hid (show r = false by rw [hrr.out, zeros_no (j := 3) (by simp) (by omega) (by exact hv0), Bool.false_and])
          clear hv0
          go_wp2
          go_ret
          exact ⟨by first | rfl | (rw [hrv.out]; rfl), by repeat (first | assumption | (with_reducible exact Below.refl _ _) | (with_reducible refine Below.drew ?_) | (with_reducible refine below_drewN ?_ _) | (with_reducible refine Below.alloc ?_ (by first | omega | (simp <;> omega)) _))⟩
      · by_cases hv0 : r4 = 0
        · have hnx := Lib.hid (show ∀ q : Nat, q < 4 + 1 → (q : Int) < (n : Nat) ∨ [r0, r1, r2, r3, r4, r5, r6, r7].getD q 0 = 0 from fun q hq => by
            by_cases hqj : q < 4
            · exact hz.out q hqj
            · obtain rfl : q = 4 := by omega
              exact .inr hv0)
          have hvb : (r4 != 0) = false := by simpa using hv0
          clear hv0
          go_wp2
          go_round
          case rel => exact ⟨5, by omega, by omega, rfl, hnx⟩
          case measure => simp [intOf]
        · have hvb : (r4 != 0) = true := by simpa using hv0
          have hrv := Lib.hid (show r = false by rw [hrr.out, zeros_no (j := 4) (by simp) (by omega) (by exact hv0), Bool.false_and])
          clear hv0
          go_wp2
          go_ret
          exact ⟨by first | rfl | (rw [hrv.out]; rfl), by repeat (first | assumption | (with_reducible exact Below.refl _ _) | (with_reducible refine Below.drew ?_) | (with_reducible refine below_drewN ?_ _) | (with_reducible refine Below.alloc ?_ (by first | omega | (simp <;> omega)) _))⟩
      · by_cases hv0 : r5 = 0
        · have hnx := Lib.hid (show ∀ q : Nat, q < 5 + 1 → (q : Int) < (n : Nat) ∨ [r0, r1, r2, r3, r4, r5, r6, r7].getD q 0 = 0 from fun q hq => by
            by_cases hqj : q < 5
            · exact hz.out q hqj
            · obtain rfl : q = 5 := by omega
              exact .inr hv0)
          have hvb : (r5 != 0) = false := by simpa using hv0
          clear hv0
          go_wp2
          go_round
          case rel => exact ⟨6, by omega, by omega, rfl, hnx⟩
          case measure => simp [intOf]
        · have hvb : (r5 != 0) = true := by simpa using hv0
          have hrv := Lib.hid (show r = false by rw [hrr.out, zeros_no (j := 5) (by simp) (by omega) (by exact hv0), Bool.false_and])
          clear hv0
          go_wp2
          go_ret
          exact ⟨by first | rfl | (rw [hrv.out]; rfl), by repeat (first | assumption | (with_reducible exact Below.refl _ _) | (with_reducible refine Below.drew ?_) | (with_reducible refine below_drewN ?_ _) | (with_reducible refine Below.alloc ?_ (by first | omega | (simp <;> omega)) _))⟩
      · by_cases hv0 : r6 = 0
        · have hnx := Lib.hid (show ∀ q : Nat, q < 6 + 1 → (q : Int) < (n : Nat) ∨ [r0, r1, r2, r3, r4, r5, r6, r7].getD q 0 = 0 from fun q hq => by
            by_cases hqj : q < 6
            · exact hz.out q hqj
            · obtain rfl : q = 6 := by omega
              exact .inr hv0)
          have hvb : (r6 != 0) = false := by simpa using hv0
          clear hv0
          go_wp2
          go_round
          case rel => exact ⟨7, by omega, by omega, rfl, hnx⟩
          case measure => simp [intOf]
        · have hvb : (r6 != 0) = true := by simpa using hv0
          have hrv := Lib.hid (show r = false by rw [hrr.out, zeros_no (j := 6) (by simp) (by omega) (by exact hv0), Bool.false_and])
          clear hv0
          go_wp2
          go_ret
          exact ⟨by first | rfl | (rw [hrv.out]; rfl), by repeat (first | assumption | (with_reducible exact Below.refl _ _) | (with_reducible refine Below.drew ?_) | (with_reducible refine below_drewN ?_ _) | (with_reducible refine Below.alloc ?_ (by first | omega | (simp <;> omega)) _))⟩
      · by_cases hv0 : r7 = 0
        · have hnx := Lib.hid (show ∀ q : Nat, q < 7 + 1 → (q : Int) < (n : Nat) ∨ [r0, r1, r2, r3, r4, r5, r6, r7].getD q 0 = 0 from fun q hq => by
            by_cases hqj : q < 7
            · exact hz.out q hqj
            · obtain rfl : q = 7 := by omega
              exact .inr hv0)
          have hvb : (r7 != 0) = false := by simpa using hv0
          clear hv0
          go_wp2
          go_round
          case rel => exact ⟨8, by omega, by omega, rfl, hnx⟩
          case measure => simp [intOf]
        · have hvb : (r7 != 0) = true := by simpa using hv0
          have hrv := Lib.hid (show r = false by rw [hrr.out, zeros_no (j := 7) (by simp) (by omega) (by exact hv0), Bool.false_and])
          clear hv0
          go_wp2
          go_ret
          exact ⟨by first | rfl | (rw [hrv.out]; rfl), by repeat (first | assumption | (with_reducible exact Below.refl _ _) | (with_reducible refine Below.drew ?_) | (with_reducible refine below_drewN ?_ _) | (with_reducible refine Below.alloc ?_ (by first | omega | (simp <;> omega)) _))⟩
    · obtain rfl : j = 8 := by omega
      have hrv := hrr.out
      have hzz : zeros ((n : Int)) [r0, r1, r2, r3, r4, r5, r6, r7] = true := (zeros_iff _ _).2 (fun q hq => hz.out q (by simpa using hq))
      rw [hzz, Bool.true_and] at hrv
      have hrv := Lib.hid hrv
      by_cases hw : why = 0
      · subst hw
        have hrv := Lib.hid (show r = true by rw [hrv.out]; rfl)
        go_wp2_with (first | (go_at_call 54; ((with_reducible refine (cM.out _).mono ?_); rintro e w' ⟨rfl, rfl⟩)) | (go_at_call 49; ((with_reducible refine (cL.out _).mono ?_); rintro e w' ⟨rfl, rfl⟩)))
        repeat (go_quiet (first | (go_at_call 54; refine Calls.quiet_of_same (cM.out _)) | (go_at_call 49; refine Calls.quiet_of_same (cL.out _))); go_wp2_with (first | (go_at_call 54; ((with_reducible refine (cM.out _).mono ?_); rintro e w' ⟨rfl, rfl⟩)) | (go_at_call 49; ((with_reducible refine (cL.out _).mono ?_); rintro e w' ⟨rfl, rfl⟩))))
        all_goals go_ret
        all_goals exact ⟨by first | rfl | (rw [hrv.out]; first | rfl | (simp; done) | (simp; omega)) | (simp; done) | (simp; omega), by repeat (first | assumption | (with_reducible exact Below.refl _ _) | (with_reducible refine Below.drew ?_) | (with_reducible refine below_drewN ?_ _) | (with_reducible refine Below.alloc ?_ (by first | omega | (simp <;> omega)) _))⟩
      · have hwb : (why == 0) = false := by simpa using hw
        have hrv := Lib.hid (show r = false by rw [hrv.out]; simp [hw])
        go_wp2_with (first | (go_at_call 54; ((with_reducible refine (cM.out _).mono ?_); rintro e w' ⟨rfl, rfl⟩)) | (go_at_call 49; ((with_reducible refine (cL.out _).mono ?_); rintro e w' ⟨rfl, rfl⟩)))
        repeat (go_quiet (first | (go_at_call 54; refine Calls.quiet_of_same (cM.out _)) | (go_at_call 49; refine Calls.quiet_of_same (cL.out _))); go_wp2_with (first | (go_at_call 54; ((with_reducible refine (cM.out _).mono ?_); rintro e w' ⟨rfl, rfl⟩)) | (go_at_call 49; ((with_reducible refine (cL.out _).mono ?_); rintro e w' ⟨rfl, rfl⟩))))
        all_goals go_ret
        all_goals exact ⟨by first | rfl | (rw [hrv.out]; first | rfl | (simp; done) | (simp; omega)) | (simp; done) | (simp; omega), by repeat (first | assumption | (with_reducible exact Below.refl _ _) | (with_reducible refine Below.drew ?_) | (with_reducible refine below_drewN ?_ _) | (with_reducible refine Below.alloc ?_ (by first | omega | (simp <;> omega)) _))⟩
set_option maxHeartbeats 8000000 in
set_option maxRecDepth 100000 in
theorem go_3 (P : Pg) (g : Gr) (w : World) (I : P.In w) (G : g.ok) (hR : ∀ f ∈ P.funcs, 0 ≤ f.regs ∧ f.regs ≤ 8) (hs : stands P g = true) (hst : g.status = 3) : Calls Tryd.prog 40 #[P.v, g.v] w fun e w' => e = .returned (.bool (fits P g)) ∧ Below w.heap.size w w' := by
  obtain ⟨r, hr⟩ : ∃ r, Hid (r = fits P g) := ⟨_, Lib.hid rfl⟩
  rw [← hr.out]
  have hfe := fits_eq P g
  rw [hs, Bool.true_and] at hfe
  obtain ⟨r0, r1, r2, r3, r4, r5, r6, r7, hrg⟩ := eight G.len
  obtain ⟨st, fn, pc, why, regs⟩ := g
  simp only at hrg hst
  subst hrg
  subst hst
  have hlf := I.lenF
  unfold Len at hlf
  unfold stands at hs
  simp only [Bool.and_eq_true, decide_eq_true_eq] at hs
  obtain ⟨⟨_, _, a3, a4⟩, b1, b2⟩ := hs
  obtain ⟨w0, w1⟩ := G.why
  unfold Pg.v Gr.v Gr.cs
  simp only [List.map_cons, List.map_nil, List.cons_append, List.nil_append]
  obtain ⟨k, rfl⟩ : ∃ k : Nat, fn = k := ⟨fn.toNat, by omega⟩
  obtain ⟨m, rfl⟩ : ∃ m : Nat, pc = m := ⟨pc.toNat, by omega⟩
  have hkl : k < P.funcs.length := by omega
  obtain ⟨fb, fo, hfa, hfl, hF⟩ := I.func (by omega)
  have s0 := hF k P.funcs[k] (by simp) 0 _ rfl
  have s1 := hF k P.funcs[k] (by simp) 1 _ rfl
  have s2 := hF k P.funcs[k] (by simp) 2 _ rfl
  have s3 := hF k P.funcs[k] (by simp) 3 _ rfl
  have J := I.funcs P.funcs[k] (List.getElem_mem _)
  have hRf := hR P.funcs[k] (List.getElem_mem _)
  have hfn : P.fn (k : Int) = P.funcs[k] := by unfold Pg.fn; simp [hkl]
  unfold Gr.ins at hfe
  simp only at hfe
  rw [hfn] at b2 hfe
  generalize P.funcs[k] = f at *
  have hml : m < f.code.length := by omega
  obtain ⟨cb, co, hca, hcbl, hC⟩ := J.ins (by omega)
  have t0 := hC m f.code[m] (by simp) 0 _ rfl
  have hat : f.at (m : Int) = f.code[m] := by unfold Fn.at; simp [hml]
  rw [hat] at hfe
  generalize f.code[m] = x at *
  obtain ⟨op, xa, xb, xc, xn⟩ := x
  simp only [Nat.add_zero] at s0 t0
  simp only at hfe
  have hlc := J.lenC
  unfold Len at hlc
  obtain ⟨g0, g1⟩ := J.reg
  have hfl1 : fb < w.heap.size + 1 := by omega
  have hfl2 : fb < w.heap.size + 1 + 1 := by omega
  have hcl1 : cb < w.heap.size + 1 := by omega
  have hcl2 : cb < w.heap.size + 1 + 1 := by omega
  have hcl3 : cb < w.heap.size + 1 + 1 + 1 := by omega
  rw [hfa]
  rw [hca] at s2
  have hrr := Lib.hid (show r = (zeros (0) [r0, r1, r2, r3, r4, r5, r6, r7] && (decide (why = 0) && decide (op = 45))) by rw [hr.out, hfe]; simp [ends])
  have cM := Lib.hid (fun W => failing_walk why op W)
  have cL := Lib.hid (fun W => rlocal_walk op W)
  clear hF hfa hfn hC hca hat hfe hr G
  obtain ⟨n, hn⟩ : ∃ n : Nat, n = 0 := ⟨0, rfl⟩
  go_enter Tryd.func40, Tryd.ntmps40
  go_wp2
  repeat (go_quiet (fail); go_wp2)
  go_loop [6] (fun i => ∃ j : Nat, j ≤ 8 ∧ 0 ≤ j ∧ i = .int .i64 j ∧ Hid (∀ q : Nat, q < j → (q : Int) < (0 : Nat) ∨ [r0, r1, r2, r3, r4, r5, r6, r7].getD q 0 = 0)) (fun i => 8 - (intOf i).toNat)
  case atStart => exact ⟨0, by omega, by omega, rfl, Lib.hid (fun q hq => by omega)⟩
  case round =>
    obtain ⟨j, hj, hnj, rfl, hz⟩ := hrel
    by_cases hj8 : j < 8
    · rcases (show j = 0 ∨ j = 1 ∨ j = 2 ∨ j = 3 ∨ j = 4 ∨ j = 5 ∨ j = 6 ∨ j = 7 by omega) with rfl | rfl | rfl | rfl | rfl | rfl | rfl | rfl
      · by_cases hv0 : r0 = 0
        · have hnx := Lib.hid (show ∀ q : Nat, q < 0 + 1 → (q : Int) < (0 : Nat) ∨ [r0, r1, r2, r3, r4, r5, r6, r7].getD q 0 = 0 from fun q hq => by
            by_cases hqj : q < 0
            · exact hz.out q hqj
            · obtain rfl : q = 0 := by omega
              exact .inr hv0)
          have hvb : (r0 != 0) = false := by simpa using hv0
          clear hv0
          go_wp2
          go_round
          case rel => exact ⟨1, by omega, by omega, rfl, hnx⟩
          case measure => simp [intOf]
        · have hvb : (r0 != 0) = true := by simpa using hv0
          have hrv := Lib.hid (show r = false by rw [hrr.out, zeros_no (j := 0) (by simp) (by omega) (by exact hv0), Bool.false_and])
          clear hv0
          go_wp2
          go_ret
          exact ⟨by first | rfl | (rw [hrv.out]; rfl), by repeat (first | assumption | (with_reducible exact Below.refl _ _) | (with_reducible refine Below.drew ?_) | (with_reducible refine below_drewN ?_ _) | (with_reducible refine Below.alloc ?_ (by first | omega | (simp <;> omega)) _))⟩
      · by_cases hv0 : r1 = 0
        · have hnx := Lib.hid (show ∀ q : Nat, q < 1 + 1 → (q : Int) < (0 : Nat) ∨ [r0, r1, r2, r3, r4, r5, r6, r7].getD q 0 = 0 from fun q hq => by
            by_cases hqj : q < 1
            · exact hz.out q hqj
            · obtain rfl : q = 1 := by omega
              exact .inr hv0)
          have hvb : (r1 != 0) = false := by simpa using hv0
          clear hv0
          go_wp2
          go_round
          case rel => exact ⟨2, by omega, by omega, rfl, hnx⟩
          case measure => simp [intOf]
        · have hvb : (r1 != 0) = true := by simpa using hv0
          have hrv := Lib.hid (show r = false by rw [hrr.out, zeros_no (j := 1) (by simp) (by omega) (by exact hv0), Bool.false_and])
          clear hv0
          go_wp2
          go_ret
          exact ⟨by first | rfl | (rw [hrv.out]; rfl), by repeat (first | assumption | (with_reducible exact Below.refl _ _) | (with_reducible refine Below.drew ?_) | (with_reducible refine below_drewN ?_ _) | (with_reducible refine Below.alloc ?_ (by first | omega | (simp <;> omega)) _))⟩
      · by_cases hv0 : r2 = 0
        · have hnx := Lib.hid (show ∀ q : Nat, q < 2 + 1 → (q : Int) < (0 : Nat) ∨ [r0, r1, r2, r3, r4, r5, r6, r7].getD q 0 = 0 from fun q hq => by
            by_cases hqj : q < 2
            · exact hz.out q hqj
            · obtain rfl : q = 2 := by omega
              exact .inr hv0)
          have hvb : (r2 != 0) = false := by simpa using hv0
          clear hv0
          go_wp2
          go_round
          case rel => exact ⟨3, by omega, by omega, rfl, hnx⟩
          case measure => simp [intOf]
        · have hvb : (r2 != 0) = true := by simpa using hv0
          have hrv := Lib.hid (show r = false by rw [hrr.out, zeros_no (j := 2) (by simp) (by omega) (by exact hv0), Bool.false_and])
          clear hv0
          go_wp2
          go_ret
          exact ⟨by first | rfl | (rw [hrv.out]; rfl), by repeat (first | assumption | (with_reducible exact Below.refl _ _) | (with_reducible refine Below.drew ?_) | (with_reducible refine below_drewN ?_ _) | (with_reducible refine Below.alloc ?_ (by first | omega | (simp <;> omega)) _))⟩
      · by_cases hv0 : r3 = 0
        · have hnx := Lib.hid (show ∀ q : Nat, q < 3 + 1 → (q : Int) < (0 : Nat) ∨ [r0, r1, r2, r3, r4, r5, r6, r7].getD q 0 = 0 from fun q hq => by
            by_cases hqj : q < 3
            · exact hz.out q hqj
            · obtain rfl : q = 3 := by omega
              exact .inr hv0)
          have hvb : (r3 != 0) = false := by simpa using hv0
          clear hv0
          go_wp2
          go_round
          case rel => exact ⟨4, by omega, by omega, rfl, hnx⟩
          case measure => simp [intOf]
        · have hvb : (r3 != 0) = true := by simpa using hv0
          have hrv := Lib.hid (show r = false by rw [hrr.out, zeros_no (j := 3) (by simp) (by omega) (by exact hv0), Bool.false_and])
          clear hv0
          go_wp2
          go_ret
          exact ⟨by first | rfl | (rw [hrv.out]; rfl), by repeat (first | assumption | (with_reducible exact Below.refl _ _) | (with_reducible refine Below.drew ?_) | (with_reducible refine below_drewN ?_ _) | (with_reducible refine Below.alloc ?_ (by first | omega | (simp <;> omega)) _))⟩
      · by_cases hv0 : r4 = 0
        · have hnx := Lib.hid (show ∀ q : Nat, q < 4 + 1 → (q : Int) < (0 : Nat) ∨ [r0, r1, r2, r3, r4, r5, r6, r7].getD q 0 = 0 from fun q hq => by
            by_cases hqj : q < 4
            · exact hz.out q hqj
            · obtain rfl : q = 4 := by omega
              exact .inr hv0)
          have hvb : (r4 != 0) = false := by simpa using hv0
          clear hv0
          go_wp2
          go_round
          case rel => exact ⟨5, by omega, by omega, rfl, hnx⟩
          case measure => simp [intOf]
        · have hvb : (r4 != 0) = true := by simpa using hv0
          have hrv := Lib.hid (show r = false by rw [hrr.out, zeros_no (j := 4) (by simp) (by omega) (by exact hv0), Bool.false_and])
          clear hv0
          go_wp2
          go_ret
          exact ⟨by first | rfl | (rw [hrv.out]; rfl), by repeat (first | assumption | (with_reducible exact Below.refl _ _) | (with_reducible refine Below.drew ?_) | (with_reducible refine below_drewN ?_ _) | (with_reducible refine Below.alloc ?_ (by first | omega | (simp <;> omega)) _))⟩
      · by_cases hv0 : r5 = 0
        · have hnx := Lib.hid (show ∀ q : Nat, q < 5 + 1 → (q : Int) < (0 : Nat) ∨ [r0, r1, r2, r3, r4, r5, r6, r7].getD q 0 = 0 from fun q hq => by
            by_cases hqj : q < 5
            · exact hz.out q hqj
            · obtain rfl : q = 5 := by omega
              exact .inr hv0)
          have hvb : (r5 != 0) = false := by simpa using hv0
          clear hv0
          go_wp2
          go_round
          case rel => exact ⟨6, by omega, by omega, rfl, hnx⟩
          case measure => simp [intOf]
        · have hvb : (r5 != 0) = true := by simpa using hv0
          have hrv := Lib.hid (show r = false by rw [hrr.out, zeros_no (j := 5) (by simp) (by omega) (by exact hv0), Bool.false_and])
          clear hv0
          go_wp2
          go_ret
          exact ⟨by first | rfl | (rw [hrv.out]; rfl), by repeat (first | assumption | (with_reducible exact Below.refl _ _) | (with_reducible refine Below.drew ?_) | (with_reducible refine below_drewN ?_ _) | (with_reducible refine Below.alloc ?_ (by first | omega | (simp <;> omega)) _))⟩
      · by_cases hv0 : r6 = 0
        · have hnx := Lib.hid (show ∀ q : Nat, q < 6 + 1 → (q : Int) < (0 : Nat) ∨ [r0, r1, r2, r3, r4, r5, r6, r7].getD q 0 = 0 from fun q hq => by
            by_cases hqj : q < 6
            · exact hz.out q hqj
            · obtain rfl : q = 6 := by omega
              exact .inr hv0)
          have hvb : (r6 != 0) = false := by simpa using hv0
          clear hv0
          go_wp2
          go_round
          case rel => exact ⟨7, by omega, by omega, rfl, hnx⟩
          case measure => simp [intOf]
        · have hvb : (r6 != 0) = true := by simpa using hv0
          have hrv := Lib.hid (show r = false by rw [hrr.out, zeros_no (j := 6) (by simp) (by omega) (by exact hv0), Bool.false_and])
          clear hv0
          go_wp2
          go_ret
          exact ⟨by first | rfl | (rw [hrv.out]; rfl), by repeat (first | assumption | (with_reducible exact Below.refl _ _) | (with_reducible refine Below.drew ?_) | (with_reducible refine below_drewN ?_ _) | (with_reducible refine Below.alloc ?_ (by first | omega | (simp <;> omega)) _))⟩
      · by_cases hv0 : r7 = 0
        · have hnx := Lib.hid (show ∀ q : Nat, q < 7 + 1 → (q : Int) < (0 : Nat) ∨ [r0, r1, r2, r3, r4, r5, r6, r7].getD q 0 = 0 from fun q hq => by
            by_cases hqj : q < 7
            · exact hz.out q hqj
            · obtain rfl : q = 7 := by omega
              exact .inr hv0)
          have hvb : (r7 != 0) = false := by simpa using hv0
          clear hv0
          go_wp2
          go_round
          case rel => exact ⟨8, by omega, by omega, rfl, hnx⟩
          case measure => simp [intOf]
        · have hvb : (r7 != 0) = true := by simpa using hv0
          have hrv := Lib.hid (show r = false by rw [hrr.out, zeros_no (j := 7) (by simp) (by omega) (by exact hv0), Bool.false_and])
          clear hv0
          go_wp2
          go_ret
          exact ⟨by first | rfl | (rw [hrv.out]; rfl), by repeat (first | assumption | (with_reducible exact Below.refl _ _) | (with_reducible refine Below.drew ?_) | (with_reducible refine below_drewN ?_ _) | (with_reducible refine Below.alloc ?_ (by first | omega | (simp <;> omega)) _))⟩
    · obtain rfl : j = 8 := by omega
      have hrv := hrr.out
      have hzz : zeros (0) [r0, r1, r2, r3, r4, r5, r6, r7] = true := (zeros_iff _ _).2 (fun q hq => hz.out q (by simpa using hq))
      rw [hzz, Bool.true_and] at hrv
      have hrv := Lib.hid hrv
      by_cases hw : why = 0
      · subst hw
        by_cases ho : op = 45
        · subst ho
          have hrv := Lib.hid (show r = true by rw [hrv.out]; rfl)
          go_wp2_with (first | (go_at_call 54; ((with_reducible refine (cM.out _).mono ?_); rintro e w' ⟨rfl, rfl⟩)) | (go_at_call 49; ((with_reducible refine (cL.out _).mono ?_); rintro e w' ⟨rfl, rfl⟩)))
          repeat (go_quiet (first | (go_at_call 54; refine Calls.quiet_of_same (cM.out _)) | (go_at_call 49; refine Calls.quiet_of_same (cL.out _))); go_wp2_with (first | (go_at_call 54; ((with_reducible refine (cM.out _).mono ?_); rintro e w' ⟨rfl, rfl⟩)) | (go_at_call 49; ((with_reducible refine (cL.out _).mono ?_); rintro e w' ⟨rfl, rfl⟩))))
          all_goals go_ret
          all_goals exact ⟨by first | rfl | (rw [hrv.out]; first | rfl | (simp; done) | (simp; omega)) | (simp; done) | (simp; omega), by repeat (first | assumption | (with_reducible exact Below.refl _ _) | (with_reducible refine Below.drew ?_) | (with_reducible refine below_drewN ?_ _) | (with_reducible refine Below.alloc ?_ (by first | omega | (simp <;> omega)) _))⟩
        · have hob : (op == 45) = false := by simpa using ho
          have hrv := Lib.hid (show r = false by rw [hrv.out]; simpa using ho)
          go_wp2_with (first | (go_at_call 54; ((with_reducible refine (cM.out _).mono ?_); rintro e w' ⟨rfl, rfl⟩)) | (go_at_call 49; ((with_reducible refine (cL.out _).mono ?_); rintro e w' ⟨rfl, rfl⟩)))
          repeat (go_quiet (first | (go_at_call 54; refine Calls.quiet_of_same (cM.out _)) | (go_at_call 49; refine Calls.quiet_of_same (cL.out _))); go_wp2_with (first | (go_at_call 54; ((with_reducible refine (cM.out _).mono ?_); rintro e w' ⟨rfl, rfl⟩)) | (go_at_call 49; ((with_reducible refine (cL.out _).mono ?_); rintro e w' ⟨rfl, rfl⟩))))
          all_goals go_ret
          all_goals exact ⟨by first | rfl | (rw [hrv.out]; first | rfl | (simp; done) | (simp; omega)) | (simp; done) | (simp; omega), by repeat (first | assumption | (with_reducible exact Below.refl _ _) | (with_reducible refine Below.drew ?_) | (with_reducible refine below_drewN ?_ _) | (with_reducible refine Below.alloc ?_ (by first | omega | (simp <;> omega)) _))⟩
      · have hwb : (why == 0) = false := by simpa using hw
        have hrv := Lib.hid (show r = false by rw [hrv.out]; simp [hw])
        go_wp2_with (first | (go_at_call 54; ((with_reducible refine (cM.out _).mono ?_); rintro e w' ⟨rfl, rfl⟩)) | (go_at_call 49; ((with_reducible refine (cL.out _).mono ?_); rintro e w' ⟨rfl, rfl⟩)))
        repeat (go_quiet (first | (go_at_call 54; refine Calls.quiet_of_same (cM.out _)) | (go_at_call 49; refine Calls.quiet_of_same (cL.out _))); go_wp2_with (first | (go_at_call 54; ((with_reducible refine (cM.out _).mono ?_); rintro e w' ⟨rfl, rfl⟩)) | (go_at_call 49; ((with_reducible refine (cL.out _).mono ?_); rintro e w' ⟨rfl, rfl⟩))))
        all_goals go_ret
        all_goals exact ⟨by first | rfl | (rw [hrv.out]; first | rfl | (simp; done) | (simp; omega)) | (simp; done) | (simp; omega), by repeat (first | assumption | (with_reducible exact Below.refl _ _) | (with_reducible refine Below.drew ?_) | (with_reducible refine below_drewN ?_ _) | (with_reducible refine Below.alloc ?_ (by first | omega | (simp <;> omega)) _))⟩
set_option maxHeartbeats 8000000 in
set_option maxRecDepth 100000 in
theorem go_4 (P : Pg) (g : Gr) (w : World) (I : P.In w) (G : g.ok) (hR : ∀ f ∈ P.funcs, 0 ≤ f.regs ∧ f.regs ≤ 8) (hs : stands P g = true) (hst : g.status = 4) : Calls Tryd.prog 40 #[P.v, g.v] w fun e w' => e = .returned (.bool (fits P g)) ∧ Below w.heap.size w w' := by
  obtain ⟨r, hr⟩ : ∃ r, Hid (r = fits P g) := ⟨_, Lib.hid rfl⟩
  rw [← hr.out]
  have hfe := fits_eq P g
  rw [hs, Bool.true_and] at hfe
  obtain ⟨r0, r1, r2, r3, r4, r5, r6, r7, hrg⟩ := eight G.len
  obtain ⟨st, fn, pc, why, regs⟩ := g
  simp only at hrg hst
  subst hrg
  subst hst
  have hlf := I.lenF
  unfold Len at hlf
  unfold stands at hs
  simp only [Bool.and_eq_true, decide_eq_true_eq] at hs
  obtain ⟨⟨_, _, a3, a4⟩, b1, b2⟩ := hs
  obtain ⟨w0, w1⟩ := G.why
  unfold Pg.v Gr.v Gr.cs
  simp only [List.map_cons, List.map_nil, List.cons_append, List.nil_append]
  obtain ⟨k, rfl⟩ : ∃ k : Nat, fn = k := ⟨fn.toNat, by omega⟩
  obtain ⟨m, rfl⟩ : ∃ m : Nat, pc = m := ⟨pc.toNat, by omega⟩
  have hkl : k < P.funcs.length := by omega
  obtain ⟨fb, fo, hfa, hfl, hF⟩ := I.func (by omega)
  have s0 := hF k P.funcs[k] (by simp) 0 _ rfl
  have s1 := hF k P.funcs[k] (by simp) 1 _ rfl
  have s2 := hF k P.funcs[k] (by simp) 2 _ rfl
  have s3 := hF k P.funcs[k] (by simp) 3 _ rfl
  have J := I.funcs P.funcs[k] (List.getElem_mem _)
  have hRf := hR P.funcs[k] (List.getElem_mem _)
  have hfn : P.fn (k : Int) = P.funcs[k] := by unfold Pg.fn; simp [hkl]
  unfold Gr.ins at hfe
  simp only at hfe
  rw [hfn] at b2 hfe
  generalize P.funcs[k] = f at *
  have hml : m < f.code.length := by omega
  obtain ⟨cb, co, hca, hcbl, hC⟩ := J.ins (by omega)
  have t0 := hC m f.code[m] (by simp) 0 _ rfl
  have hat : f.at (m : Int) = f.code[m] := by unfold Fn.at; simp [hml]
  rw [hat] at hfe
  generalize f.code[m] = x at *
  obtain ⟨op, xa, xb, xc, xn⟩ := x
  simp only [Nat.add_zero] at s0 t0
  simp only at hfe
  have hlc := J.lenC
  unfold Len at hlc
  obtain ⟨g0, g1⟩ := J.reg
  have hfl1 : fb < w.heap.size + 1 := by omega
  have hfl2 : fb < w.heap.size + 1 + 1 := by omega
  have hcl1 : cb < w.heap.size + 1 := by omega
  have hcl2 : cb < w.heap.size + 1 + 1 := by omega
  have hcl3 : cb < w.heap.size + 1 + 1 + 1 := by omega
  rw [hfa]
  rw [hca] at s2
  have hrr := Lib.hid (show r = (zeros (0) [r0, r1, r2, r3, r4, r5, r6, r7] && may why op) by rw [hr.out, hfe]; simp [ends])
  have cM := Lib.hid (fun W => failing_walk why op W)
  have cL := Lib.hid (fun W => rlocal_walk op W)
  clear hF hfa hfn hC hca hat hfe hr G
  obtain ⟨n, hn⟩ : ∃ n : Nat, n = 0 := ⟨0, rfl⟩
  go_enter Tryd.func40, Tryd.ntmps40
  go_wp2
  repeat (go_quiet (fail); go_wp2)
  go_loop [6] (fun i => ∃ j : Nat, j ≤ 8 ∧ 0 ≤ j ∧ i = .int .i64 j ∧ Hid (∀ q : Nat, q < j → (q : Int) < (0 : Nat) ∨ [r0, r1, r2, r3, r4, r5, r6, r7].getD q 0 = 0)) (fun i => 8 - (intOf i).toNat)
  case atStart => exact ⟨0, by omega, by omega, rfl, Lib.hid (fun q hq => by omega)⟩
  case round =>
    obtain ⟨j, hj, hnj, rfl, hz⟩ := hrel
    by_cases hj8 : j < 8
    · rcases (show j = 0 ∨ j = 1 ∨ j = 2 ∨ j = 3 ∨ j = 4 ∨ j = 5 ∨ j = 6 ∨ j = 7 by omega) with rfl | rfl | rfl | rfl | rfl | rfl | rfl | rfl
      · by_cases hv0 : r0 = 0
        · have hnx := Lib.hid (show ∀ q : Nat, q < 0 + 1 → (q : Int) < (0 : Nat) ∨ [r0, r1, r2, r3, r4, r5, r6, r7].getD q 0 = 0 from fun q hq => by
            by_cases hqj : q < 0
            · exact hz.out q hqj
            · obtain rfl : q = 0 := by omega
              exact .inr hv0)
          have hvb : (r0 != 0) = false := by simpa using hv0
          clear hv0
          go_wp2
          go_round
          case rel => exact ⟨1, by omega, by omega, rfl, hnx⟩
          case measure => simp [intOf]
        · have hvb : (r0 != 0) = true := by simpa using hv0
          have hrv := Lib.hid (show r = false by rw [hrr.out, zeros_no (j := 0) (by simp) (by omega) (by exact hv0), Bool.false_and])
          clear hv0
          go_wp2
          go_ret
          exact ⟨by first | rfl | (rw [hrv.out]; rfl), by repeat (first | assumption | (with_reducible exact Below.refl _ _) | (with_reducible refine Below.drew ?_) | (with_reducible refine below_drewN ?_ _) | (with_reducible refine Below.alloc ?_ (by first | omega | (simp <;> omega)) _))⟩
      · by_cases hv0 : r1 = 0
        · have hnx := Lib.hid (show ∀ q : Nat, q < 1 + 1 → (q : Int) < (0 : Nat) ∨ [r0, r1, r2, r3, r4, r5, r6, r7].getD q 0 = 0 from fun q hq => by
            by_cases hqj : q < 1
            · exact hz.out q hqj
            · obtain rfl : q = 1 := by omega
              exact .inr hv0)
          have hvb : (r1 != 0) = false := by simpa using hv0
          clear hv0
          go_wp2
          go_round
          case rel => exact ⟨2, by omega, by omega, rfl, hnx⟩
          case measure => simp [intOf]
        · have hvb : (r1 != 0) = true := by simpa using hv0
          have hrv := Lib.hid (show r = false by rw [hrr.out, zeros_no (j := 1) (by simp) (by omega) (by exact hv0), Bool.false_and])
          clear hv0
          go_wp2
          go_ret
          exact ⟨by first | rfl | (rw [hrv.out]; rfl), by repeat (first | assumption | (with_reducible exact Below.refl _ _) | (with_reducible refine Below.drew ?_) | (with_reducible refine below_drewN ?_ _) | (with_reducible refine Below.alloc ?_ (by first | omega | (simp <;> omega)) _))⟩
      · by_cases hv0 : r2 = 0
        · have hnx := Lib.hid (show ∀ q : Nat, q < 2 + 1 → (q : Int) < (0 : Nat) ∨ [r0, r1, r2, r3, r4, r5, r6, r7].getD q 0 = 0 from fun q hq => by
            by_cases hqj : q < 2
            · exact hz.out q hqj
            · obtain rfl : q = 2 := by omega
              exact .inr hv0)
          have hvb : (r2 != 0) = false := by simpa using hv0
          clear hv0
          go_wp2
          go_round
          case rel => exact ⟨3, by omega, by omega, rfl, hnx⟩
          case measure => simp [intOf]
        · have hvb : (r2 != 0) = true := by simpa using hv0
          have hrv := Lib.hid (show r = false by rw [hrr.out, zeros_no (j := 2) (by simp) (by omega) (by exact hv0), Bool.false_and])
          clear hv0
          go_wp2
          go_ret
          exact ⟨by first | rfl | (rw [hrv.out]; rfl), by repeat (first | assumption | (with_reducible exact Below.refl _ _) | (with_reducible refine Below.drew ?_) | (with_reducible refine below_drewN ?_ _) | (with_reducible refine Below.alloc ?_ (by first | omega | (simp <;> omega)) _))⟩
      · by_cases hv0 : r3 = 0
        · have hnx := Lib.hid (show ∀ q : Nat, q < 3 + 1 → (q : Int) < (0 : Nat) ∨ [r0, r1, r2, r3, r4, r5, r6, r7].getD q 0 = 0 from fun q hq => by
            by_cases hqj : q < 3
            · exact hz.out q hqj
            · obtain rfl : q = 3 := by omega
              exact .inr hv0)
          have hvb : (r3 != 0) = false := by simpa using hv0
          clear hv0
          go_wp2
          go_round
          case rel => exact ⟨4, by omega, by omega, rfl, hnx⟩
          case measure => simp [intOf]
        · have hvb : (r3 != 0) = true := by simpa using hv0
          have hrv := Lib.hid (show r = false by rw [hrr.out, zeros_no (j := 3) (by simp) (by omega) (by exact hv0), Bool.false_and])
          clear hv0
          go_wp2
          go_ret
          exact ⟨by first | rfl | (rw [hrv.out]; rfl), by repeat (first | assumption | (with_reducible exact Below.refl _ _) | (with_reducible refine Below.drew ?_) | (with_reducible refine below_drewN ?_ _) | (with_reducible refine Below.alloc ?_ (by first | omega | (simp <;> omega)) _))⟩
      · by_cases hv0 : r4 = 0
        · have hnx := Lib.hid (show ∀ q : Nat, q < 4 + 1 → (q : Int) < (0 : Nat) ∨ [r0, r1, r2, r3, r4, r5, r6, r7].getD q 0 = 0 from fun q hq => by
            by_cases hqj : q < 4
            · exact hz.out q hqj
            · obtain rfl : q = 4 := by omega
              exact .inr hv0)
          have hvb : (r4 != 0) = false := by simpa using hv0
          clear hv0
          go_wp2
          go_round
          case rel => exact ⟨5, by omega, by omega, rfl, hnx⟩
          case measure => simp [intOf]
        · have hvb : (r4 != 0) = true := by simpa using hv0
          have hrv := Lib.hid (show r = false by rw [hrr.out, zeros_no (j := 4) (by simp) (by omega) (by exact hv0), Bool.false_and])
          clear hv0
          go_wp2
          go_ret
          exact ⟨by first | rfl | (rw [hrv.out]; rfl), by repeat (first | assumption | (with_reducible exact Below.refl _ _) | (with_reducible refine Below.drew ?_) | (with_reducible refine below_drewN ?_ _) | (with_reducible refine Below.alloc ?_ (by first | omega | (simp <;> omega)) _))⟩
      · by_cases hv0 : r5 = 0
        · have hnx := Lib.hid (show ∀ q : Nat, q < 5 + 1 → (q : Int) < (0 : Nat) ∨ [r0, r1, r2, r3, r4, r5, r6, r7].getD q 0 = 0 from fun q hq => by
            by_cases hqj : q < 5
            · exact hz.out q hqj
            · obtain rfl : q = 5 := by omega
              exact .inr hv0)
          have hvb : (r5 != 0) = false := by simpa using hv0
          clear hv0
          go_wp2
          go_round
          case rel => exact ⟨6, by omega, by omega, rfl, hnx⟩
          case measure => simp [intOf]
        · have hvb : (r5 != 0) = true := by simpa using hv0
          have hrv := Lib.hid (show r = false by rw [hrr.out, zeros_no (j := 5) (by simp) (by omega) (by exact hv0), Bool.false_and])
          clear hv0
          go_wp2
          go_ret
          exact ⟨by first | rfl | (rw [hrv.out]; rfl), by repeat (first | assumption | (with_reducible exact Below.refl _ _) | (with_reducible refine Below.drew ?_) | (with_reducible refine below_drewN ?_ _) | (with_reducible refine Below.alloc ?_ (by first | omega | (simp <;> omega)) _))⟩
      · by_cases hv0 : r6 = 0
        · have hnx := Lib.hid (show ∀ q : Nat, q < 6 + 1 → (q : Int) < (0 : Nat) ∨ [r0, r1, r2, r3, r4, r5, r6, r7].getD q 0 = 0 from fun q hq => by
            by_cases hqj : q < 6
            · exact hz.out q hqj
            · obtain rfl : q = 6 := by omega
              exact .inr hv0)
          have hvb : (r6 != 0) = false := by simpa using hv0
          clear hv0
          go_wp2
          go_round
          case rel => exact ⟨7, by omega, by omega, rfl, hnx⟩
          case measure => simp [intOf]
        · have hvb : (r6 != 0) = true := by simpa using hv0
          have hrv := Lib.hid (show r = false by rw [hrr.out, zeros_no (j := 6) (by simp) (by omega) (by exact hv0), Bool.false_and])
          clear hv0
          go_wp2
          go_ret
          exact ⟨by first | rfl | (rw [hrv.out]; rfl), by repeat (first | assumption | (with_reducible exact Below.refl _ _) | (with_reducible refine Below.drew ?_) | (with_reducible refine below_drewN ?_ _) | (with_reducible refine Below.alloc ?_ (by first | omega | (simp <;> omega)) _))⟩
      · by_cases hv0 : r7 = 0
        · have hnx := Lib.hid (show ∀ q : Nat, q < 7 + 1 → (q : Int) < (0 : Nat) ∨ [r0, r1, r2, r3, r4, r5, r6, r7].getD q 0 = 0 from fun q hq => by
            by_cases hqj : q < 7
            · exact hz.out q hqj
            · obtain rfl : q = 7 := by omega
              exact .inr hv0)
          have hvb : (r7 != 0) = false := by simpa using hv0
          clear hv0
          go_wp2
          go_round
          case rel => exact ⟨8, by omega, by omega, rfl, hnx⟩
          case measure => simp [intOf]
        · have hvb : (r7 != 0) = true := by simpa using hv0
          have hrv := Lib.hid (show r = false by rw [hrr.out, zeros_no (j := 7) (by simp) (by omega) (by exact hv0), Bool.false_and])
          clear hv0
          go_wp2
          go_ret
          exact ⟨by first | rfl | (rw [hrv.out]; rfl), by repeat (first | assumption | (with_reducible exact Below.refl _ _) | (with_reducible refine Below.drew ?_) | (with_reducible refine below_drewN ?_ _) | (with_reducible refine Below.alloc ?_ (by first | omega | (simp <;> omega)) _))⟩
    · obtain rfl : j = 8 := by omega
      have hrv := hrr.out
      have hzz : zeros (0) [r0, r1, r2, r3, r4, r5, r6, r7] = true := (zeros_iff _ _).2 (fun q hq => hz.out q (by simpa using hq))
      rw [hzz, Bool.true_and] at hrv
      have hrv := Lib.hid hrv
      go_wp2_with (first | (go_at_call 54; ((with_reducible refine (cM.out _).mono ?_); rintro e w' ⟨rfl, rfl⟩)) | (go_at_call 49; ((with_reducible refine (cL.out _).mono ?_); rintro e w' ⟨rfl, rfl⟩)))
      repeat (go_quiet (first | (go_at_call 54; refine Calls.quiet_of_same (cM.out _)) | (go_at_call 49; refine Calls.quiet_of_same (cL.out _))); go_wp2_with (first | (go_at_call 54; ((with_reducible refine (cM.out _).mono ?_); rintro e w' ⟨rfl, rfl⟩)) | (go_at_call 49; ((with_reducible refine (cL.out _).mono ?_); rintro e w' ⟨rfl, rfl⟩))))
      all_goals go_ret
      all_goals exact ⟨by first | rfl | (rw [hrv.out]; first | rfl | (simp; done) | (simp; omega)) | (simp; done) | (simp; omega), by repeat (first | assumption | (with_reducible exact Below.refl _ _) | (with_reducible refine Below.drew ?_) | (with_reducible refine below_drewN ?_ _) | (with_reducible refine Below.alloc ?_ (by first | omega | (simp <;> omega)) _))⟩
set_option maxHeartbeats 8000000 in
set_option maxRecDepth 100000 in
theorem go_5 (P : Pg) (g : Gr) (w : World) (I : P.In w) (G : g.ok) (hR : ∀ f ∈ P.funcs, 0 ≤ f.regs ∧ f.regs ≤ 8) (hs : stands P g = true) (hst : g.status = 5) : Calls Tryd.prog 40 #[P.v, g.v] w fun e w' => e = .returned (.bool (fits P g)) ∧ Below w.heap.size w w' := by
  obtain ⟨r, hr⟩ : ∃ r, Hid (r = fits P g) := ⟨_, Lib.hid rfl⟩
  rw [← hr.out]
  have hfe := fits_eq P g
  rw [hs, Bool.true_and] at hfe
  obtain ⟨r0, r1, r2, r3, r4, r5, r6, r7, hrg⟩ := eight G.len
  obtain ⟨st, fn, pc, why, regs⟩ := g
  simp only at hrg hst
  subst hrg
  subst hst
  have hlf := I.lenF
  unfold Len at hlf
  unfold stands at hs
  simp only [Bool.and_eq_true, decide_eq_true_eq] at hs
  obtain ⟨⟨_, _, a3, a4⟩, b1, b2⟩ := hs
  obtain ⟨w0, w1⟩ := G.why
  unfold Pg.v Gr.v Gr.cs
  simp only [List.map_cons, List.map_nil, List.cons_append, List.nil_append]
  obtain ⟨k, rfl⟩ : ∃ k : Nat, fn = k := ⟨fn.toNat, by omega⟩
  obtain ⟨m, rfl⟩ : ∃ m : Nat, pc = m := ⟨pc.toNat, by omega⟩
  have hkl : k < P.funcs.length := by omega
  obtain ⟨fb, fo, hfa, hfl, hF⟩ := I.func (by omega)
  have s0 := hF k P.funcs[k] (by simp) 0 _ rfl
  have s1 := hF k P.funcs[k] (by simp) 1 _ rfl
  have s2 := hF k P.funcs[k] (by simp) 2 _ rfl
  have s3 := hF k P.funcs[k] (by simp) 3 _ rfl
  have J := I.funcs P.funcs[k] (List.getElem_mem _)
  have hRf := hR P.funcs[k] (List.getElem_mem _)
  have hfn : P.fn (k : Int) = P.funcs[k] := by unfold Pg.fn; simp [hkl]
  unfold Gr.ins at hfe
  simp only at hfe
  rw [hfn] at b2 hfe
  generalize P.funcs[k] = f at *
  have hml : m < f.code.length := by omega
  obtain ⟨cb, co, hca, hcbl, hC⟩ := J.ins (by omega)
  have t0 := hC m f.code[m] (by simp) 0 _ rfl
  have hat : f.at (m : Int) = f.code[m] := by unfold Fn.at; simp [hml]
  rw [hat] at hfe
  generalize f.code[m] = x at *
  obtain ⟨op, xa, xb, xc, xn⟩ := x
  simp only [Nat.add_zero] at s0 t0
  simp only at hfe
  have hlc := J.lenC
  unfold Len at hlc
  obtain ⟨g0, g1⟩ := J.reg
  have hfl1 : fb < w.heap.size + 1 := by omega
  have hfl2 : fb < w.heap.size + 1 + 1 := by omega
  have hcl1 : cb < w.heap.size + 1 := by omega
  have hcl2 : cb < w.heap.size + 1 + 1 := by omega
  have hcl3 : cb < w.heap.size + 1 + 1 + 1 := by omega
  rw [hfa]
  rw [hca] at s2
  have hrr := Lib.hid (show r = (zeros (f.regs) [r0, r1, r2, r3, r4, r5, r6, r7] && (decide (why = 0) && loc op)) by rw [hr.out, hfe]; simp [ends])
  have cM := Lib.hid (fun W => failing_walk why op W)
  have cL := Lib.hid (fun W => rlocal_walk op W)
  clear hF hfa hfn hC hca hat hfe hr G
  obtain ⟨n, hn⟩ : ∃ n : Nat, f.regs = n := ⟨f.regs.toNat, by omega⟩
  rw [hn] at s1 hrr
  have hn8 : n ≤ 8 := by omega
  clear hn
  go_enter Tryd.func40, Tryd.ntmps40
  go_wp2
  repeat (go_quiet (fail); go_wp2)
  go_loop [6] (fun i => ∃ j : Nat, j ≤ 8 ∧ n ≤ j ∧ i = .int .i64 j ∧ Hid (∀ q : Nat, q < j → (q : Int) < (n : Nat) ∨ [r0, r1, r2, r3, r4, r5, r6, r7].getD q 0 = 0)) (fun i => 8 - (intOf i).toNat)
  case atStart => exact ⟨n, by omega, by omega, rfl, Lib.hid (fun q hq => by omega)⟩
  case round =>
    obtain ⟨j, hj, hnj, rfl, hz⟩ := hrel
    by_cases hj8 : j < 8
    · rcases (show j = 0 ∨ j = 1 ∨ j = 2 ∨ j = 3 ∨ j = 4 ∨ j = 5 ∨ j = 6 ∨ j = 7 by omega) with rfl | rfl | rfl | rfl | rfl | rfl | rfl | rfl
      · by_cases hv0 : r0 = 0
        · have hnx := Lib.hid (show ∀ q : Nat, q < 0 + 1 → (q : Int) < (n : Nat) ∨ [r0, r1, r2, r3, r4, r5, r6, r7].getD q 0 = 0 from fun q hq => by
            by_cases hqj : q < 0
            · exact hz.out q hqj
            · obtain rfl : q = 0 := by omega
              exact .inr hv0)
          have hvb : (r0 != 0) = false := by simpa using hv0
          clear hv0
          go_wp2
          go_round
          case rel => exact ⟨1, by omega, by omega, rfl, hnx⟩
          case measure => simp [intOf]
        · have hvb : (r0 != 0) = true := by simpa using hv0
          have hrv := Lib.hid (show r = false by rw [hrr.out, zeros_no (j := 0) (by simp) (by omega) (by exact hv0), Bool.false_and])
          clear hv0
          go_wp2
          go_ret
          exact ⟨by first | rfl | (rw [hrv.out]; rfl), by repeat (first | assumption | (with_reducible exact Below.refl _ _) | (with_reducible refine Below.drew ?_) | (with_reducible refine below_drewN ?_ _) | (with_reducible refine Below.alloc ?_ (by first | omega | (simp <;> omega)) _))⟩
      · by_cases hv0 : r1 = 0
        · have hnx := Lib.hid (show ∀ q : Nat, q < 1 + 1 → (q : Int) < (n : Nat) ∨ [r0, r1, r2, r3, r4, r5, r6, r7].getD q 0 = 0 from fun q hq => by
            by_cases hqj : q < 1
            · exact hz.out q hqj
            · obtain rfl : q = 1 := by omega
              exact .inr hv0)
          have hvb : (r1 != 0) = false := by simpa using hv0
          clear hv0
          go_wp2
          go_round
          case rel => exact ⟨2, by omega, by omega, rfl, hnx⟩
          case measure => simp [intOf]
        · have hvb : (r1 != 0) = true := by simpa using hv0
          have hrv := Lib.hid (show r = false by rw [hrr.out, zeros_no (j := 1) (by simp) (by omega) (by exact hv0), Bool.false_and])
          clear hv0
          go_wp2
          go_ret
          exact ⟨by first | rfl | (rw [hrv.out]; rfl), by repeat (first | assumption | (with_reducible exact Below.refl _ _) | (with_reducible refine Below.drew ?_) | (with_reducible refine below_drewN ?_ _) | (with_reducible refine Below.alloc ?_ (by first | omega | (simp <;> omega)) _))⟩
      · by_cases hv0 : r2 = 0
        · have hnx := Lib.hid (show ∀ q : Nat, q < 2 + 1 → (q : Int) < (n : Nat) ∨ [r0, r1, r2, r3, r4, r5, r6, r7].getD q 0 = 0 from fun q hq => by
            by_cases hqj : q < 2
            · exact hz.out q hqj
            · obtain rfl : q = 2 := by omega
              exact .inr hv0)
          have hvb : (r2 != 0) = false := by simpa using hv0
          clear hv0
          go_wp2
          go_round
          case rel => exact ⟨3, by omega, by omega, rfl, hnx⟩
          case measure => simp [intOf]
        · have hvb : (r2 != 0) = true := by simpa using hv0
          have hrv := Lib.hid (show r = false by rw [hrr.out, zeros_no (j := 2) (by simp) (by omega) (by exact hv0), Bool.false_and])
          clear hv0
          go_wp2
          go_ret
          exact ⟨by first | rfl | (rw [hrv.out]; rfl), by repeat (first | assumption | (with_reducible exact Below.refl _ _) | (with_reducible refine Below.drew ?_) | (with_reducible refine below_drewN ?_ _) | (with_reducible refine Below.alloc ?_ (by first | omega | (simp <;> omega)) _))⟩
      · by_cases hv0 : r3 = 0
        · have hnx := Lib.hid (show ∀ q : Nat, q < 3 + 1 → (q : Int) < (n : Nat) ∨ [r0, r1, r2, r3, r4, r5, r6, r7].getD q 0 = 0 from fun q hq => by
            by_cases hqj : q < 3
            · exact hz.out q hqj
            · obtain rfl : q = 3 := by omega
              exact .inr hv0)
          have hvb : (r3 != 0) = false := by simpa using hv0
          clear hv0
          go_wp2
          go_round
          case rel => exact ⟨4, by omega, by omega, rfl, hnx⟩
          case measure => simp [intOf]
        · have hvb : (r3 != 0) = true := by simpa using hv0
          have hrv := Lib.hid (show r = false by rw [hrr.out, zeros_no (j := 3) (by simp) (by omega) (by exact hv0), Bool.false_and])
          clear hv0
          go_wp2
          go_ret
          exact ⟨by first | rfl | (rw [hrv.out]; rfl), by repeat (first | assumption | (with_reducible exact Below.refl _ _) | (with_reducible refine Below.drew ?_) | (with_reducible refine below_drewN ?_ _) | (with_reducible refine Below.alloc ?_ (by first | omega | (simp <;> omega)) _))⟩
      · by_cases hv0 : r4 = 0
        · have hnx := Lib.hid (show ∀ q : Nat, q < 4 + 1 → (q : Int) < (n : Nat) ∨ [r0, r1, r2, r3, r4, r5, r6, r7].getD q 0 = 0 from fun q hq => by
            by_cases hqj : q < 4
            · exact hz.out q hqj
            · obtain rfl : q = 4 := by omega
              exact .inr hv0)
          have hvb : (r4 != 0) = false := by simpa using hv0
          clear hv0
          go_wp2
          go_round
          case rel => exact ⟨5, by omega, by omega, rfl, hnx⟩
          case measure => simp [intOf]
        · have hvb : (r4 != 0) = true := by simpa using hv0
          have hrv := Lib.hid (show r = false by rw [hrr.out, zeros_no (j := 4) (by simp) (by omega) (by exact hv0), Bool.false_and])
          clear hv0
          go_wp2
          go_ret
          exact ⟨by first | rfl | (rw [hrv.out]; rfl), by repeat (first | assumption | (with_reducible exact Below.refl _ _) | (with_reducible refine Below.drew ?_) | (with_reducible refine below_drewN ?_ _) | (with_reducible refine Below.alloc ?_ (by first | omega | (simp <;> omega)) _))⟩
      · by_cases hv0 : r5 = 0
        · have hnx := Lib.hid (show ∀ q : Nat, q < 5 + 1 → (q : Int) < (n : Nat) ∨ [r0, r1, r2, r3, r4, r5, r6, r7].getD q 0 = 0 from fun q hq => by
            by_cases hqj : q < 5
            · exact hz.out q hqj
            · obtain rfl : q = 5 := by omega
              exact .inr hv0)
          have hvb : (r5 != 0) = false := by simpa using hv0
          clear hv0
          go_wp2
          go_round
          case rel => exact ⟨6, by omega, by omega, rfl, hnx⟩
          case measure => simp [intOf]
        · have hvb : (r5 != 0) = true := by simpa using hv0
          have hrv := Lib.hid (show r = false by rw [hrr.out, zeros_no (j := 5) (by simp) (by omega) (by exact hv0), Bool.false_and])
          clear hv0
          go_wp2
          go_ret
          exact ⟨by first | rfl | (rw [hrv.out]; rfl), by repeat (first | assumption | (with_reducible exact Below.refl _ _) | (with_reducible refine Below.drew ?_) | (with_reducible refine below_drewN ?_ _) | (with_reducible refine Below.alloc ?_ (by first | omega | (simp <;> omega)) _))⟩
      · by_cases hv0 : r6 = 0
        · have hnx := Lib.hid (show ∀ q : Nat, q < 6 + 1 → (q : Int) < (n : Nat) ∨ [r0, r1, r2, r3, r4, r5, r6, r7].getD q 0 = 0 from fun q hq => by
            by_cases hqj : q < 6
            · exact hz.out q hqj
            · obtain rfl : q = 6 := by omega
              exact .inr hv0)
          have hvb : (r6 != 0) = false := by simpa using hv0
          clear hv0
          go_wp2
          go_round
          case rel => exact ⟨7, by omega, by omega, rfl, hnx⟩
          case measure => simp [intOf]
        · have hvb : (r6 != 0) = true := by simpa using hv0
          have hrv := Lib.hid (show r = false by rw [hrr.out, zeros_no (j := 6) (by simp) (by omega) (by exact hv0), Bool.false_and])
          clear hv0
          go_wp2
          go_ret
          exact ⟨by first | rfl | (rw [hrv.out]; rfl), by repeat (first | assumption | (with_reducible exact Below.refl _ _) | (with_reducible refine Below.drew ?_) | (with_reducible refine below_drewN ?_ _) | (with_reducible refine Below.alloc ?_ (by first | omega | (simp <;> omega)) _))⟩
      · by_cases hv0 : r7 = 0
        · have hnx := Lib.hid (show ∀ q : Nat, q < 7 + 1 → (q : Int) < (n : Nat) ∨ [r0, r1, r2, r3, r4, r5, r6, r7].getD q 0 = 0 from fun q hq => by
            by_cases hqj : q < 7
            · exact hz.out q hqj
            · obtain rfl : q = 7 := by omega
              exact .inr hv0)
          have hvb : (r7 != 0) = false := by simpa using hv0
          clear hv0
          go_wp2
          go_round
          case rel => exact ⟨8, by omega, by omega, rfl, hnx⟩
          case measure => simp [intOf]
        · have hvb : (r7 != 0) = true := by simpa using hv0
          have hrv := Lib.hid (show r = false by rw [hrr.out, zeros_no (j := 7) (by simp) (by omega) (by exact hv0), Bool.false_and])
          clear hv0
          go_wp2
          go_ret
          exact ⟨by first | rfl | (rw [hrv.out]; rfl), by repeat (first | assumption | (with_reducible exact Below.refl _ _) | (with_reducible refine Below.drew ?_) | (with_reducible refine below_drewN ?_ _) | (with_reducible refine Below.alloc ?_ (by first | omega | (simp <;> omega)) _))⟩
    · obtain rfl : j = 8 := by omega
      have hrv := hrr.out
      have hzz : zeros ((n : Int)) [r0, r1, r2, r3, r4, r5, r6, r7] = true := (zeros_iff _ _).2 (fun q hq => hz.out q (by simpa using hq))
      rw [hzz, Bool.true_and] at hrv
      have hrv := Lib.hid hrv
      by_cases hw : why = 0
      · subst hw
        have hrv := Lib.hid (show r = loc op by rw [hrv.out]; simp)
        go_wp2_with (first | (go_at_call 54; ((with_reducible refine (cM.out _).mono ?_); rintro e w' ⟨rfl, rfl⟩)) | (go_at_call 49; ((with_reducible refine (cL.out _).mono ?_); rintro e w' ⟨rfl, rfl⟩)))
        repeat (go_quiet (first | (go_at_call 54; refine Calls.quiet_of_same (cM.out _)) | (go_at_call 49; refine Calls.quiet_of_same (cL.out _))); go_wp2_with (first | (go_at_call 54; ((with_reducible refine (cM.out _).mono ?_); rintro e w' ⟨rfl, rfl⟩)) | (go_at_call 49; ((with_reducible refine (cL.out _).mono ?_); rintro e w' ⟨rfl, rfl⟩))))
        all_goals go_ret
        all_goals exact ⟨by first | rfl | (rw [hrv.out]; first | rfl | (simp; done) | (simp; omega)) | (simp; done) | (simp; omega), by repeat (first | assumption | (with_reducible exact Below.refl _ _) | (with_reducible refine Below.drew ?_) | (with_reducible refine below_drewN ?_ _) | (with_reducible refine Below.alloc ?_ (by first | omega | (simp <;> omega)) _))⟩
      · have hwb : (why == 0) = false := by simpa using hw
        have hrv := Lib.hid (show r = false by rw [hrv.out]; simp [hw])
        go_wp2_with (first | (go_at_call 54; ((with_reducible refine (cM.out _).mono ?_); rintro e w' ⟨rfl, rfl⟩)) | (go_at_call 49; ((with_reducible refine (cL.out _).mono ?_); rintro e w' ⟨rfl, rfl⟩)))
        repeat (go_quiet (first | (go_at_call 54; refine Calls.quiet_of_same (cM.out _)) | (go_at_call 49; refine Calls.quiet_of_same (cL.out _))); go_wp2_with (first | (go_at_call 54; ((with_reducible refine (cM.out _).mono ?_); rintro e w' ⟨rfl, rfl⟩)) | (go_at_call 49; ((with_reducible refine (cL.out _).mono ?_); rintro e w' ⟨rfl, rfl⟩))))
        all_goals go_ret
        all_goals exact ⟨by first | rfl | (rw [hrv.out]; first | rfl | (simp; done) | (simp; omega)) | (simp; done) | (simp; omega), by repeat (first | assumption | (with_reducible exact Below.refl _ _) | (with_reducible refine Below.drew ?_) | (with_reducible refine below_drewN ?_ _) | (with_reducible refine Below.alloc ?_ (by first | omega | (simp <;> omega)) _))⟩
theorem go_walk (P : Pg) (g : Gr) (w : World) (I : P.In w) (G : g.ok) (hR : ∀ f ∈ P.funcs, 0 ≤ f.regs ∧ f.regs ≤ 8) : Calls Tryd.prog 40 #[P.v, g.v] w fun e w' => e = .returned (.bool (fits P g)) ∧ Below w.heap.size w w' := by
  by_cases hs : stands P g = true
  · have h := hs
    unfold stands at h
    simp only [Bool.and_eq_true, decide_eq_true_eq] at h
    rcases (show g.status = 1 ∨ g.status = 2 ∨ g.status = 3 ∨ g.status = 4 ∨ g.status = 5 by omega) with e | e | e | e | e
    · exact go_1 P g w I G hR hs e
    · exact go_2 P g w I G hR hs e
    · exact go_3 P g w I G hR hs e
    · exact go_4 P g w I G hR hs e
    · exact go_5 P g w I G hR hs e
  · exact go_no P g w I G hs
end Go.Proofs.YtbcdeanmjhcgeaaDoor.Pg
