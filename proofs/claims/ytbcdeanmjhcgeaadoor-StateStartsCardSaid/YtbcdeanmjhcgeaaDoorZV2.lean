/- States, walked: is a goroutine one of a program. -/
import Derived.Test.YtbcdeanmjhcgeaaDoorZa
import Derived.Test.YtbcdeanmjhcgeaaDoorZc
namespace Go.Proofs.YtbcdeanmjhcgeaaDoor.Pg
set_option linter.unusedVariables false
set_option linter.unusedSimpArgs false
open Go.ChangeShapes Go.WideShapes Go.RowKit
set_option linter.unusedVariables false
theorem info2 : (Tryd.prog.info? 2).isSome = true := by kernel_rfl
theorem cells2 : Tryd.prog.cellsOf 2 = 1 := by kernel_rfl
theorem plain2 : Tryd.prog.plainKey 2 = true := by kernel_rfl
/-- A register of eight. -/
theorem index8 (cs : Array Value) (k : Nat) (hk : k < 8) (v : Value) (hv : cs[k]? = some v) (w : World) : (Instr.index 22 (.agg cs) (.int .i64 k)).run Tryd.prog w = .ok v w := by
  obtain ⟨i, hi⟩ := Option.isSome_iff_exists.1 info2
  exact index_one Tryd.underlying22 hi cells2 plain2 cs k hk v hv w
theorem eight {l : List Int} (h : l.length = 8) : ∃ a b c d e f g i, l = [a, b, c, d, e, f, g, i] := by
  match l, h with
  | [a, b, c, d, e, f, g, i], _ => exact ⟨a, b, c, d, e, f, g, i, rfl⟩
theorem zeros_iff (n : Int) (l : List Int) : zeros n l = true ↔ ∀ j, j < l.length → (j : Int) < n ∨ l.getD j 0 = 0 := by
  unfold zeros
  simp only [List.all_eq_true, List.mem_range, Bool.or_eq_true, decide_eq_true_eq]
theorem zeros_no {n : Int} {l : List Int} {j : Nat} (h : j < l.length) (h1 : ¬ (j : Int) < n) (h2 : ¬ l.getD j 0 = 0) : zeros n l = false := by
  rw [← Bool.not_eq_true, zeros_iff]
  exact fun q => by rcases q j h with h | h <;> contradiction
theorem fits_eq (P : Pg) (g : Gr) : fits P g = (stands P g && (zeros (if ends g = true then 0 else (P.fn g.func).regs) g.regs && (if g.status = 4 then may g.why (g.ins P).op else decide (g.why = 0) && (decide (g.status ≠ 3) || decide ((g.ins P).op = 45)) && (decide (g.status ≠ 5) || loc (g.ins P).op)))) := rfl
set_option maxHeartbeats 8000000 in
set_option maxRecDepth 100000 in
theorem fits_no (P : Pg) (g : Gr) (w : World) (I : P.In w) (G : g.ok) (hs : ¬ stands P g = true) : Calls Tryd.prog 38 #[P.v, g.v] w fun e w' => e = .returned (.bool (fits P g)) ∧ Below w.heap.size w w' := by
  rw [show fits P g = false by rw [fits_eq, show stands P g = false by simpa using hs, Bool.false_and]]
  obtain ⟨r0, r1, r2, r3, r4, r5, r6, r7, hrg⟩ := eight G.len
  obtain ⟨st, fn, pc, why, regs⟩ := g
  simp only at hrg
  subst hrg
  have hlf := I.lenF
  unfold Len at hlf
  unfold stands at hs
  simp only [Bool.and_eq_true, decide_eq_true_eq] at hs
  unfold Pg.v Gr.v Gr.cs
  simp only [List.map_cons, List.map_nil, List.cons_append, List.nil_append]
  by_cases h1 : 1 ≤ st ∧ st ≤ 5 ∧ 0 ≤ fn ∧ fn < (P.funcs.length : Int)
  · have hs : ¬ (0 ≤ pc ∧ pc < ((P.fn fn).code.length : Int)) := fun h => hs ⟨h1, h⟩
    obtain ⟨a1, a2, a3, a4⟩ := h1
    obtain ⟨k, rfl⟩ : ∃ k : Nat, fn = k := ⟨fn.toNat, by omega⟩
    have hkl : k < P.funcs.length := by omega
    obtain ⟨fb, fo, hfa, hfl, hF⟩ := I.func (by omega)
    have s0 := hF k P.funcs[k] (by simp) 0 _ rfl
    have s1 := hF k P.funcs[k] (by simp) 1 _ rfl
    have s2 := hF k P.funcs[k] (by simp) 2 _ rfl
    have s3 := hF k P.funcs[k] (by simp) 3 _ rfl
    have J := I.funcs P.funcs[k] (List.getElem_mem _)
    have hfn : P.fn (k : Int) = P.funcs[k] := by unfold Pg.fn; simp [hkl]
    rw [hfn] at hs
    generalize P.funcs[k] = f at *
    simp only [Nat.add_zero] at s0
    have hlc := J.lenC
    unfold Len at hlc
    have hfl1 : fb < w.heap.size + 1 := by omega
    have hfl2 : fb < w.heap.size + 1 + 1 := by omega
    rw [hfa]
    clear hF hfa hfn G
    go_enter Tryd.func38, Tryd.ntmps38
    go_wp2
    all_goals first
      | (exfalso; omega)
      | (go_ret; exact ⟨rfl, by repeat (first | assumption | (with_reducible exact Below.refl _ _) | (with_reducible refine Below.drew ?_) | (with_reducible refine below_drewN ?_ _) | (with_reducible refine Below.alloc ?_ (by first | omega | (simp <;> omega)) _))⟩)
  · clear hs G
    go_enter Tryd.func38, Tryd.ntmps38
    go_wp2
    all_goals first
      | (exfalso; omega)
      | (go_ret; exact ⟨rfl, by repeat (first | assumption | (with_reducible exact Below.refl _ _) | (with_reducible refine Below.drew ?_) | (with_reducible refine below_drewN ?_ _) | (with_reducible refine Below.alloc ?_ (by first | omega | (simp <;> omega)) _))⟩)
set_option maxHeartbeats 8000000 in
set_option maxRecDepth 100000 in
theorem fits_1 (P : Pg) (g : Gr) (w : World) (I : P.In w) (G : g.ok) (hs : stands P g = true) (hst : g.status = 1) : Calls Tryd.prog 38 #[P.v, g.v] w fun e w' => e = .returned (.bool (fits P g)) ∧ Below w.heap.size w w' := by
  obtain ⟨r, hr⟩ : ∃ r, Hid (r = fits P g) := ⟨_, Lib.hid rfl⟩
  rw [← hr.out]
  have hfe := fits_eq P g
  rw [hs, Bool.true_and] at hfe
  obtain ⟨r0, r1, r2, r3, r4, r5, r6, r7, hrg⟩ := eight G.len
  obtain ⟨st, fn, pc, why, regs⟩ := g
  simp only at hrg hst
  subst hrg
  subst hst
  have hlf := I.lenF
  unfold Len at hlf
  unfold stands at hs
  simp only [Bool.and_eq_true, decide_eq_true_eq] at hs
  obtain ⟨⟨_, _, a3, a4⟩, b1, b2⟩ := hs
  obtain ⟨w0, w1⟩ := G.why
  unfold Pg.v Gr.v Gr.cs
  simp only [List.map_cons, List.map_nil, List.cons_append, List.nil_append]
  obtain ⟨k, rfl⟩ : ∃ k : Nat, fn = k := ⟨fn.toNat, by omega⟩
  obtain ⟨m, rfl⟩ : ∃ m : Nat, pc = m := ⟨pc.toNat, by omega⟩
  have hkl : k < P.funcs.length := by omega
  obtain ⟨fb, fo, hfa, hfl, hF⟩ := I.func (by omega)
  have s0 := hF k P.funcs[k] (by simp) 0 _ rfl
  have s1 := hF k P.funcs[k] (by simp) 1 _ rfl
  have s2 := hF k P.funcs[k] (by simp) 2 _ rfl
  have s3 := hF k P.funcs[k] (by simp) 3 _ rfl
  have J := I.funcs P.funcs[k] (List.getElem_mem _)
  have hfn : P.fn (k : Int) = P.funcs[k] := by unfold Pg.fn; simp [hkl]
  unfold Gr.ins at hfe
  simp only at hfe
  rw [hfn] at b2 hfe
  generalize P.funcs[k] = f at *
  have hml : m < f.code.length := by omega
  obtain ⟨cb, co, hca, hcbl, hC⟩ := J.ins (by omega)
  have t0 := hC m f.code[m] (by simp) 0 _ rfl
  have hat : f.at (m : Int) = f.code[m] := by unfold Fn.at; simp [hml]
  rw [hat] at hfe
  generalize f.code[m] = x at *
  obtain ⟨op, xa, xb, xc, xn⟩ := x
  simp only [Nat.add_zero] at s0 t0
  simp only at hfe
  have hlc := J.lenC
  unfold Len at hlc
  obtain ⟨g0, g1⟩ := J.reg
  have hfl1 : fb < w.heap.size + 1 := by omega
  have hfl2 : fb < w.heap.size + 1 + 1 := by omega
  have hcl1 : cb < w.heap.size + 1 := by omega
  have hcl2 : cb < w.heap.size + 1 + 1 := by omega
  have hcl3 : cb < w.heap.size + 1 + 1 + 1 := by omega
  rw [hfa]
  rw [hca] at s2
  have hrr := Lib.hid (show r = (zeros (f.regs) [r0, r1, r2, r3, r4, r5, r6, r7] && decide (why = 0)) by rw [hr.out, hfe]; simp [ends])
  have cM := Lib.hid (fun W => may_walk why op W)
  have cL := Lib.hid (fun W => local_walk op W)
  clear hF hfa hfn hC hca hat hfe hr G
  go_enter Tryd.func38, Tryd.ntmps38
  go_wp2
  go_loop [58] (fun i => ∃ j : Nat, j ≤ 8 ∧ i = .int .i64 j ∧ Hid (∀ q, q < j → (q : Int) < f.regs ∨ [r0, r1, r2, r3, r4, r5, r6, r7].getD q 0 = 0)) (fun i => 8 - (intOf i).toNat)
  case atStart => exact ⟨0, by omega, rfl, Lib.hid (fun q hq => by omega)⟩
  case round =>
    obtain ⟨j, hj, rfl, hz⟩ := hrel
    by_cases hj8 : j < 8
    · obtain ⟨v, hv⟩ : ∃ v, v = [r0, r1, r2, r3, r4, r5, r6, r7].getD j 0 := ⟨_, rfl⟩
      have hix := index8 #[.int .i64 r0, .int .i64 r1, .int .i64 r2, .int .i64 r3, .int .i64 r4, .int .i64 r5, .int .i64 r6, .int .i64 r7] j hj8 (.int .i64 v) (by rw [hv]; match j, hj8 with | 0, _ | 1, _ | 2, _ | 3, _ | 4, _ | 5, _ | 6, _ | 7, _ => rfl)
      have hv' := Lib.hid hv
      clear hv
      by_cases hv0 : v = 0
      · have hnx := Lib.hid (show ∀ q, q < j + 1 → (q : Int) < f.regs ∨ [r0, r1, r2, r3, r4, r5, r6, r7].getD q 0 = 0 from fun q hq => by
          by_cases hqj : q < j
          · exact hz.out q hqj
          · obtain rfl : q = j := by omega
            exact .inr (by rw [← hv'.out]; exact hv0))
        subst hv0
        go_wp2
        go_round
        case rel => exact ⟨j + 1, by omega, by go_num, hnx⟩
        case measure => simp [intOf]; omega
      · have hvb : (v != 0) = true := by simpa using hv0
        by_cases hjr : (j : Int) < f.regs
        · have hnx := Lib.hid (show ∀ q, q < j + 1 → (q : Int) < f.regs ∨ [r0, r1, r2, r3, r4, r5, r6, r7].getD q 0 = 0 from fun q hq => by
            by_cases hqj : q < j
            · exact hz.out q hqj
            · obtain rfl : q = j := by omega
              exact .inl hjr)
          clear hv0
          go_wp2
          go_round
          case rel => exact ⟨j + 1, by omega, by go_num, hnx⟩
          case measure => simp [intOf]; omega
        · have hrv := Lib.hid (show r = false by rw [hrr.out, zeros_no (j := j) (by simpa using hj8) hjr (by rw [← hv'.out]; exact hv0), Bool.false_and])
          clear hv0
          go_wp2
          go_ret
          exact ⟨by first | rfl | (rw [hrv.out]; rfl) | (simp; omega), by repeat (first | assumption | (with_reducible exact Below.refl _ _) | (with_reducible refine Below.drew ?_) | (with_reducible refine below_drewN ?_ _) | (with_reducible refine Below.alloc ?_ (by first | omega | (simp <;> omega)) _))⟩
    · obtain rfl : j = 8 := by omega
      have hrv := hrr.out
      rw [(zeros_iff _ _).2 (fun q hq => hz.out q (by simpa using hq)), Bool.true_and] at hrv
      have hrv := Lib.hid hrv
      by_cases hw : why = 0
      · subst hw
        go_wp2
        go_ret
        exact ⟨by first | rfl | (rw [hrv.out]; rfl) | (simp; omega), by repeat (first | assumption | (with_reducible exact Below.refl _ _) | (with_reducible refine Below.drew ?_) | (with_reducible refine below_drewN ?_ _) | (with_reducible refine Below.alloc ?_ (by first | omega | (simp <;> omega)) _))⟩
      · have hwb : (why == 0) = false := by simpa using hw
        have hrv := Lib.hid (show r = false by rw [hrv.out]; simpa using hw)
        go_wp2
        go_ret
        exact ⟨by first | rfl | (rw [hrv.out]; first | rfl | (simp; omega)) | (simp; omega), by repeat (first | assumption | (with_reducible exact Below.refl _ _) | (with_reducible refine Below.drew ?_) | (with_reducible refine below_drewN ?_ _) | (with_reducible refine Below.alloc ?_ (by first | omega | (simp <;> omega)) _))⟩
set_option maxHeartbeats 8000000 in
set_option maxRecDepth 100000 in
theorem fits_2 (P : Pg) (g : Gr) (w : World) (I : P.In w) (G : g.ok) (hs : stands P g = true) (hst : g.status = 2) : Calls Tryd.prog 38 #[P.v, g.v] w fun e w' => e = .returned (.bool (fits P g)) ∧ Below w.heap.size w w' := by
  obtain ⟨r, hr⟩ : ∃ r, Hid (r = fits P g) := ⟨_, Lib.hid rfl⟩
  rw [← hr.out]
  have hfe := fits_eq P g
  rw [hs, Bool.true_and] at hfe
  obtain ⟨r0, r1, r2, r3, r4, r5, r6, r7, hrg⟩ := eight G.len
  obtain ⟨st, fn, pc, why, regs⟩ := g
  simp only at hrg hst
  subst hrg
  subst hst
  have hlf := I.lenF
  unfold Len at hlf
  unfold stands at hs
  simp only [Bool.and_eq_true, decide_eq_true_eq] at hs
  obtain ⟨⟨_, _, a3, a4⟩, b1, b2⟩ := hs
  obtain ⟨w0, w1⟩ := G.why
  unfold Pg.v Gr.v Gr.cs
  simp only [List.map_cons, List.map_nil, List.cons_append, List.nil_append]
  obtain ⟨k, rfl⟩ : ∃ k : Nat, fn = k := ⟨fn.toNat, by omega⟩
  obtain ⟨m, rfl⟩ : ∃ m : Nat, pc = m := ⟨pc.toNat, by omega⟩
  have hkl : k < P.funcs.length := by omega
  obtain ⟨fb, fo, hfa, hfl, hF⟩ := I.func (by omega)
  have s0 := hF k P.funcs[k] (by simp) 0 _ rfl
  have s1 := hF k P.funcs[k] (by simp) 1 _ rfl
  have s2 := hF k P.funcs[k] (by simp) 2 _ rfl
  have s3 := hF k P.funcs[k] (by simp) 3 _ rfl
  have J := I.funcs P.funcs[k] (List.getElem_mem _)
  have hfn : P.fn (k : Int) = P.funcs[k] := by unfold Pg.fn; simp [hkl]
  unfold Gr.ins at hfe
  simp only at hfe
  rw [hfn] at b2 hfe
  generalize P.funcs[k] = f at *
  have hml : m < f.code.length := by omega
  obtain ⟨cb, co, hca, hcbl, hC⟩ := J.ins (by omega)
  have t0 := hC m f.code[m] (by simp) 0 _ rfl
  have hat : f.at (m : Int) = f.code[m] := by unfold Fn.at; simp [hml]
  rw [hat] at hfe
  generalize f.code[m] = x at *
  obtain ⟨op, xa, xb, xc, xn⟩ := x
  simp only [Nat.add_zero] at s0 t0
  simp only at hfe
  have hlc := J.lenC
  unfold Len at hlc
  obtain ⟨g0, g1⟩ := J.reg
  have hfl1 : fb < w.heap.size + 1 := by omega
  have hfl2 : fb < w.heap.size + 1 + 1 := by omega
  have hcl1 : cb < w.heap.size + 1 := by omega
  have hcl2 : cb < w.heap.size + 1 + 1 := by omega
  have hcl3 : cb < w.heap.size + 1 + 1 + 1 := by omega
  rw [hfa]
  rw [hca] at s2
  have hrr := Lib.hid (show r = (zeros (f.regs) [r0, r1, r2, r3, r4, r5, r6, r7] && decide (why = 0)) by rw [hr.out, hfe]; simp [ends])
  have cM := Lib.hid (fun W => may_walk why op W)
  have cL := Lib.hid (fun W => local_walk op W)
  clear hF hfa hfn hC hca hat hfe hr G
  go_enter Tryd.func38, Tryd.ntmps38
  go_wp2
  go_loop [58] (fun i => ∃ j : Nat, j ≤ 8 ∧ i = .int .i64 j ∧ Hid (∀ q, q < j → (q : Int) < f.regs ∨ [r0, r1, r2, r3, r4, r5, r6, r7].getD q 0 = 0)) (fun i => 8 - (intOf i).toNat)
  case atStart => exact ⟨0, by omega, rfl, Lib.hid (fun q hq => by omega)⟩
  case round =>
    obtain ⟨j, hj, rfl, hz⟩ := hrel
    by_cases hj8 : j < 8
    · obtain ⟨v, hv⟩ : ∃ v, v = [r0, r1, r2, r3, r4, r5, r6, r7].getD j 0 := ⟨_, rfl⟩
      have hix := index8 #[.int .i64 r0, .int .i64 r1, .int .i64 r2, .int .i64 r3, .int .i64 r4, .int .i64 r5, .int .i64 r6, .int .i64 r7] j hj8 (.int .i64 v) (by rw [hv]; match j, hj8 with | 0, _ | 1, _ | 2, _ | 3, _ | 4, _ | 5, _ | 6, _ | 7, _ => rfl)
      have hv' := Lib.hid hv
      clear hv
      by_cases hv0 : v = 0
      · have hnx := Lib.hid (show ∀ q, q < j + 1 → (q : Int) < f.regs ∨ [r0, r1, r2, r3, r4, r5, r6, r7].getD q 0 = 0 from fun q hq => by
          by_cases hqj : q < j
          · exact hz.out q hqj
          · obtain rfl : q = j := by omega
            exact .inr (by rw [← hv'.out]; exact hv0))
        subst hv0
        go_wp2
        go_round
        case rel => exact ⟨j + 1, by omega, by go_num, hnx⟩
        case measure => simp [intOf]; omega
      · have hvb : (v != 0) = true := by simpa using hv0
        by_cases hjr : (j : Int) < f.regs
        · have hnx := Lib.hid (show ∀ q, q < j + 1 → (q : Int) < f.regs ∨ [r0, r1, r2, r3, r4, r5, r6, r7].getD q 0 = 0 from fun q hq => by
            by_cases hqj : q < j
            · exact hz.out q hqj
            · obtain rfl : q = j := by omega
              exact .inl hjr)
          clear hv0
          go_wp2
          go_round
          case rel => exact ⟨j + 1, by omega, by go_num, hnx⟩
          case measure => simp [intOf]; omega
        · have hrv := Lib.hid (show r = false by rw [hrr.out, zeros_no (j := j) (by simpa using hj8) hjr (by rw [← hv'.out]; exact hv0), Bool.false_and])
          clear hv0
          go_wp2
          go_ret
          exact ⟨by first | rfl | (rw [hrv.out]; rfl) | (simp; omega), by repeat (first | assumption | (with_reducible exact Below.refl _ _) | (with_reducible refine Below.drew ?_) | (with_reducible refine below_drewN ?_ _) | (with_reducible refine Below.alloc ?_ (by first | omega | (simp <;> omega)) _))⟩
    · obtain rfl : j = 8 := by omega
      have hrv := hrr.out
      rw [(zeros_iff _ _).2 (fun q hq => hz.out q (by simpa using hq)), Bool.true_and] at hrv
      have hrv := Lib.hid hrv
      by_cases hw : why = 0
      · subst hw
        go_wp2
        go_ret
        exact ⟨by first | rfl | (rw [hrv.out]; rfl) | (simp; omega), by repeat (first | assumption | (with_reducible exact Below.refl _ _) | (with_reducible refine Below.drew ?_) | (with_reducible refine below_drewN ?_ _) | (with_reducible refine Below.alloc ?_ (by first | omega | (simp <;> omega)) _))⟩
      · have hwb : (why == 0) = false := by simpa using hw
        have hrv := Lib.hid (show r = false by rw [hrv.out]; simpa using hw)
        go_wp2
        go_ret
        exact ⟨by first | rfl | (rw [hrv.out]; first | rfl | (simp; omega)) | (simp; omega), by repeat (first | assumption | (with_reducible exact Below.refl _ _) | (with_reducible refine Below.drew ?_) | (with_reducible refine below_drewN ?_ _) | (with_reducible refine Below.alloc ?_ (by first | omega | (simp <;> omega)) _))⟩
set_option maxHeartbeats 8000000 in
set_option maxRecDepth 100000 in
theorem fits_3 (P : Pg) (g : Gr) (w : World) (I : P.In w) (G : g.ok) (hs : stands P g = true) (hst : g.status = 3) : Calls Tryd.prog 38 #[P.v, g.v] w fun e w' => e = .returned (.bool (fits P g)) ∧ Below w.heap.size w w' := by
  obtain ⟨r, hr⟩ : ∃ r, Hid (r = fits P g) := ⟨_, Lib.hid rfl⟩
  rw [← hr.out]
  have hfe := fits_eq P g
  rw [hs, Bool.true_and] at hfe
  obtain ⟨r0, r1, r2, r3, r4, r5, r6, r7, hrg⟩ := eight G.len
  obtain ⟨st, fn, pc, why, regs⟩ := g
  simp only at hrg hst
  subst hrg
  subst hst
  have hlf := I.lenF
  unfold Len at hlf
  unfold stands at hs
  simp only [Bool.and_eq_true, decide_eq_true_eq] at hs
  obtain ⟨⟨_, _, a3, a4⟩, b1, b2⟩ := hs
  obtain ⟨w0, w1⟩ := G.why
  unfold Pg.v Gr.v Gr.cs
  simp only [List.map_cons, List.map_nil, List.cons_append, List.nil_append]
  obtain ⟨k, rfl⟩ : ∃ k : Nat, fn = k := ⟨fn.toNat, by omega⟩
  obtain ⟨m, rfl⟩ : ∃ m : Nat, pc = m := ⟨pc.toNat, by omega⟩
  have hkl : k < P.funcs.length := by omega
  obtain ⟨fb, fo, hfa, hfl, hF⟩ := I.func (by omega)
  have s0 := hF k P.funcs[k] (by simp) 0 _ rfl
  have s1 := hF k P.funcs[k] (by simp) 1 _ rfl
  have s2 := hF k P.funcs[k] (by simp) 2 _ rfl
  have s3 := hF k P.funcs[k] (by simp) 3 _ rfl
  have J := I.funcs P.funcs[k] (List.getElem_mem _)
  have hfn : P.fn (k : Int) = P.funcs[k] := by unfold Pg.fn; simp [hkl]
  unfold Gr.ins at hfe
  simp only at hfe
  rw [hfn] at b2 hfe
  generalize P.funcs[k] = f at *
  have hml : m < f.code.length := by omega
  obtain ⟨cb, co, hca, hcbl, hC⟩ := J.ins (by omega)
  have t0 := hC m f.code[m] (by simp) 0 _ rfl
  have hat : f.at (m : Int) = f.code[m] := by unfold Fn.at; simp [hml]
  rw [hat] at hfe
  generalize f.code[m] = x at *
  obtain ⟨op, xa, xb, xc, xn⟩ := x
  simp only [Nat.add_zero] at s0 t0
  simp only at hfe
  have hlc := J.lenC
  unfold Len at hlc
  obtain ⟨g0, g1⟩ := J.reg
  have hfl1 : fb < w.heap.size + 1 := by omega
  have hfl2 : fb < w.heap.size + 1 + 1 := by omega
  have hcl1 : cb < w.heap.size + 1 := by omega
  have hcl2 : cb < w.heap.size + 1 + 1 := by omega
  have hcl3 : cb < w.heap.size + 1 + 1 + 1 := by omega
  rw [hfa]
  rw [hca] at s2
  have hrr := Lib.hid (show r = (zeros (0) [r0, r1, r2, r3, r4, r5, r6, r7] && (decide (why = 0) && decide (op = 45))) by rw [hr.out, hfe]; simp [ends])
  have cM := Lib.hid (fun W => may_walk why op W)
  have cL := Lib.hid (fun W => local_walk op W)
  clear hF hfa hfn hC hca hat hfe hr G
  go_enter Tryd.func38, Tryd.ntmps38
  go_wp2
  go_loop [58] (fun i => ∃ j : Nat, j ≤ 8 ∧ i = .int .i64 j ∧ Hid (∀ q, q < j → (q : Int) < 0 ∨ [r0, r1, r2, r3, r4, r5, r6, r7].getD q 0 = 0)) (fun i => 8 - (intOf i).toNat)
  case atStart => exact ⟨0, by omega, rfl, Lib.hid (fun q hq => by omega)⟩
  case round =>
    obtain ⟨j, hj, rfl, hz⟩ := hrel
    by_cases hj8 : j < 8
    · obtain ⟨v, hv⟩ : ∃ v, v = [r0, r1, r2, r3, r4, r5, r6, r7].getD j 0 := ⟨_, rfl⟩
      have hix := index8 #[.int .i64 r0, .int .i64 r1, .int .i64 r2, .int .i64 r3, .int .i64 r4, .int .i64 r5, .int .i64 r6, .int .i64 r7] j hj8 (.int .i64 v) (by rw [hv]; match j, hj8 with | 0, _ | 1, _ | 2, _ | 3, _ | 4, _ | 5, _ | 6, _ | 7, _ => rfl)
      have hv' := Lib.hid hv
      clear hv
      by_cases hv0 : v = 0
      · have hnx := Lib.hid (show ∀ q, q < j + 1 → (q : Int) < 0 ∨ [r0, r1, r2, r3, r4, r5, r6, r7].getD q 0 = 0 from fun q hq => by
          by_cases hqj : q < j
          · exact hz.out q hqj
          · obtain rfl : q = j := by omega
            exact .inr (by rw [← hv'.out]; exact hv0))
        subst hv0
        go_wp2
        go_round
        case rel => exact ⟨j + 1, by omega, by go_num, hnx⟩
        case measure => simp [intOf]; omega
      · have hvb : (v != 0) = true := by simpa using hv0
        have hrv := Lib.hid (show r = false by rw [hrr.out, zeros_no (j := j) (by simpa using hj8) (by omega) (by rw [← hv'.out]; exact hv0), Bool.false_and])
        clear hv0
        go_wp2
        go_ret
        exact ⟨by first | rfl | (rw [hrv.out]; rfl) | (simp; omega), by repeat (first | assumption | (with_reducible exact Below.refl _ _) | (with_reducible refine Below.drew ?_) | (with_reducible refine below_drewN ?_ _) | (with_reducible refine Below.alloc ?_ (by first | omega | (simp <;> omega)) _))⟩
    · obtain rfl : j = 8 := by omega
      have hrv := hrr.out
      rw [(zeros_iff _ _).2 (fun q hq => hz.out q (by simpa using hq)), Bool.true_and] at hrv
      have hrv := Lib.hid hrv
      by_cases hw : why = 0
      · subst hw
        by_cases ho : op = 45
        · subst ho
          have hrv := Lib.hid (show r = true by rw [hrv.out]; rfl)
          go_wp2
          go_ret
          exact ⟨by first | rfl | (rw [hrv.out]; rfl) | (simp; omega), by repeat (first | assumption | (with_reducible exact Below.refl _ _) | (with_reducible refine Below.drew ?_) | (with_reducible refine below_drewN ?_ _) | (with_reducible refine Below.alloc ?_ (by first | omega | (simp <;> omega)) _))⟩
        · have hob : (op == 45) = false := by simpa using ho
          have hrv := Lib.hid (show r = false by rw [hrv.out]; simpa using ho)
          go_wp2
          all_goals go_ret
          all_goals exact ⟨by first | rfl | (rw [hrv.out]; first | rfl | (simp; omega)) | (simp; omega), by repeat (first | assumption | (with_reducible exact Below.refl _ _) | (with_reducible refine Below.drew ?_) | (with_reducible refine below_drewN ?_ _) | (with_reducible refine Below.alloc ?_ (by first | omega | (simp <;> omega)) _))⟩
      · have hwb : (why == 0) = false := by simpa using hw
        have hrv := Lib.hid (show r = false by rw [hrv.out]; simp [hw])
        go_wp2
        all_goals go_ret
        all_goals exact ⟨by first | rfl | (rw [hrv.out]; first | rfl | (simp; omega)) | (simp; omega), by repeat (first | assumption | (with_reducible exact Below.refl _ _) | (with_reducible refine Below.drew ?_) | (with_reducible refine below_drewN ?_ _) | (with_reducible refine Below.alloc ?_ (by first | omega | (simp <;> omega)) _))⟩
set_option maxHeartbeats 8000000 in
set_option maxRecDepth 100000 in
theorem fits_4 (P : Pg) (g : Gr) (w : World) (I : P.In w) (G : g.ok) (hs : stands P g = true) (hst : g.status = 4) : Calls Tryd.prog 38 #[P.v, g.v] w fun e w' => e = .returned (.bool (fits P g)) ∧ Below w.heap.size w w' := by
  obtain ⟨r, hr⟩ : ∃ r, Hid (r = fits P g) := ⟨_, Lib.hid rfl⟩
  rw [← hr.out]
  have hfe := fits_eq P g
  rw [hs, Bool.true_and] at hfe
  obtain ⟨r0, r1, r2, r3, r4, r5, r6, r7, hrg⟩ := eight G.len
  obtain ⟨st, fn, pc, why, regs⟩ := g
  simp only at hrg hst
  subst hrg
  subst hst
  have hlf := I.lenF
  unfold Len at hlf
  unfold stands at hs
  simp only [Bool.and_eq_true, decide_eq_true_eq] at hs
  obtain ⟨⟨_, _, a3, a4⟩, b1, b2⟩ := hs
  obtain ⟨w0, w1⟩ := G.why
  unfold Pg.v Gr.v Gr.cs
  simp only [List.map_cons, List.map_nil, List.cons_append, List.nil_append]
  obtain ⟨k, rfl⟩ : ∃ k : Nat, fn = k := ⟨fn.toNat, by omega⟩
  obtain ⟨m, rfl⟩ : ∃ m : Nat, pc = m := ⟨pc.toNat, by omega⟩
  have hkl : k < P.funcs.length := by omega
  obtain ⟨fb, fo, hfa, hfl, hF⟩ := I.func (by omega)
  have s0 := hF k P.funcs[k] (by simp) 0 _ rfl
  have s1 := hF k P.funcs[k] (by simp) 1 _ rfl
  have s2 := hF k P.funcs[k] (by simp) 2 _ rfl
  have s3 := hF k P.funcs[k] (by simp) 3 _ rfl
  have J := I.funcs P.funcs[k] (List.getElem_mem _)
  have hfn : P.fn (k : Int) = P.funcs[k] := by unfold Pg.fn; simp [hkl]
  unfold Gr.ins at hfe
  simp only at hfe
  rw [hfn] at b2 hfe
  generalize P.funcs[k] = f at *
  have hml : m < f.code.length := by omega
  obtain ⟨cb, co, hca, hcbl, hC⟩ := J.ins (by omega)
  have t0 := hC m f.code[m] (by simp) 0 _ rfl
  have hat : f.at (m : Int) = f.code[m] := by unfold Fn.at; simp [hml]
  rw [hat] at hfe
  generalize f.code[m] = x at *
  obtain ⟨op, xa, xb, xc, xn⟩ := x
  simp only [Nat.add_zero] at s0 t0
  simp only at hfe
  have hlc := J.lenC
  unfold Len at hlc
  obtain ⟨g0, g1⟩ := J.reg
  have hfl1 : fb < w.heap.size + 1 := by omega
  have hfl2 : fb < w.heap.size + 1 + 1 := by omega
  have hcl1 : cb < w.heap.size + 1 := by omega
  have hcl2 : cb < w.heap.size + 1 + 1 := by omega
  have hcl3 : cb < w.heap.size + 1 + 1 + 1 := by omega
  rw [hfa]
  rw [hca] at s2
  have hrr := Lib.hid (show r = (zeros (0) [r0, r1, r2, r3, r4, r5, r6, r7] && may why op) by rw [hr.out, hfe]; simp [ends])
  have cM := Lib.hid (fun W => may_walk why op W)
  have cL := Lib.hid (fun W => local_walk op W)
  clear hF hfa hfn hC hca hat hfe hr G
  go_enter Tryd.func38, Tryd.ntmps38
  go_wp2
  go_loop [58] (fun i => ∃ j : Nat, j ≤ 8 ∧ i = .int .i64 j ∧ Hid (∀ q, q < j → (q : Int) < 0 ∨ [r0, r1, r2, r3, r4, r5, r6, r7].getD q 0 = 0)) (fun i => 8 - (intOf i).toNat)
  case atStart => exact ⟨0, by omega, rfl, Lib.hid (fun q hq => by omega)⟩
  case round =>
    obtain ⟨j, hj, rfl, hz⟩ := hrel
    by_cases hj8 : j < 8
    · obtain ⟨v, hv⟩ : ∃ v, v = [r0, r1, r2, r3, r4, r5, r6, r7].getD j 0 := ⟨_, rfl⟩
      have hix := index8 #[.int .i64 r0, .int .i64 r1, .int .i64 r2, .int .i64 r3, .int .i64 r4, .int .i64 r5, .int .i64 r6, .int .i64 r7] j hj8 (.int .i64 v) (by rw [hv]; match j, hj8 with | 0, _ | 1, _ | 2, _ | 3, _ | 4, _ | 5, _ | 6, _ | 7, _ => rfl)
      have hv' := Lib.hid hv
      clear hv
      by_cases hv0 : v = 0
      · have hnx := Lib.hid (show ∀ q, q < j + 1 → (q : Int) < 0 ∨ [r0, r1, r2, r3, r4, r5, r6, r7].getD q 0 = 0 from fun q hq => by
          by_cases hqj : q < j
          · exact hz.out q hqj
          · obtain rfl : q = j := by omega
            exact .inr (by rw [← hv'.out]; exact hv0))
        subst hv0
        go_wp2
        go_round
        case rel => exact ⟨j + 1, by omega, by go_num, hnx⟩
        case measure => simp [intOf]; omega
      · have hvb : (v != 0) = true := by simpa using hv0
        have hrv := Lib.hid (show r = false by rw [hrr.out, zeros_no (j := j) (by simpa using hj8) (by omega) (by rw [← hv'.out]; exact hv0), Bool.false_and])
        clear hv0
        go_wp2
        go_ret
        exact ⟨by first | rfl | (rw [hrv.out]; rfl) | (simp; omega), by repeat (first | assumption | (with_reducible exact Below.refl _ _) | (with_reducible refine Below.drew ?_) | (with_reducible refine below_drewN ?_ _) | (with_reducible refine Below.alloc ?_ (by first | omega | (simp <;> omega)) _))⟩
    · obtain rfl : j = 8 := by omega
      have hrv := hrr.out
      rw [(zeros_iff _ _).2 (fun q hq => hz.out q (by simpa using hq)), Bool.true_and] at hrv
      have hrv := Lib.hid hrv
      go_wp2_with ((go_at_call 52; ((with_reducible refine (cM.out _).mono ?_); rintro e w' ⟨rfl, rfl⟩)))
      go_ret
      exact ⟨by first | rfl | (rw [hrv.out]; rfl) | (simp; omega), by repeat (first | assumption | (with_reducible exact Below.refl _ _) | (with_reducible refine Below.drew ?_) | (with_reducible refine below_drewN ?_ _) | (with_reducible refine Below.alloc ?_ (by first | omega | (simp <;> omega)) _))⟩
set_option maxHeartbeats 8000000 in
set_option maxRecDepth 100000 in
theorem fits_5 (P : Pg) (g : Gr) (w : World) (I : P.In w) (G : g.ok) (hs : stands P g = true) (hst : g.status = 5) : Calls Tryd.prog 38 #[P.v, g.v] w fun e w' => e = .returned (.bool (fits P g)) ∧ Below w.heap.size w w' := by
  obtain ⟨r, hr⟩ : ∃ r, Hid (r = fits P g) := ⟨_, Lib.hid rfl⟩
  rw [← hr.out]
  have hfe := fits_eq P g
  rw [hs, Bool.true_and] at hfe
  obtain ⟨r0, r1, r2, r3, r4, r5, r6, r7, hrg⟩ := eight G.len
  obtain ⟨st, fn, pc, why, regs⟩ := g
  simp only at hrg hst
  subst hrg
  subst hst
  have hlf := I.lenF
  unfold Len at hlf
  unfold stands at hs
  simp only [Bool.and_eq_true, decide_eq_true_eq] at hs
  obtain ⟨⟨_, _, a3, a4⟩, b1, b2⟩ := hs
  obtain ⟨w0, w1⟩ := G.why
  unfold Pg.v Gr.v Gr.cs
  simp only [List.map_cons, List.map_nil, List.cons_append, List.nil_append]
  obtain ⟨k, rfl⟩ : ∃ k : Nat, fn = k := ⟨fn.toNat, by omega⟩
  obtain ⟨m, rfl⟩ : ∃ m : Nat, pc = m := ⟨pc.toNat, by omega⟩
  have hkl : k < P.funcs.length := by omega
  obtain ⟨fb, fo, hfa, hfl, hF⟩ := I.func (by omega)
  have s0 := hF k P.funcs[k] (by simp) 0 _ rfl
  have s1 := hF k P.funcs[k] (by simp) 1 _ rfl
  have s2 := hF k P.funcs[k] (by simp) 2 _ rfl
  have s3 := hF k P.funcs[k] (by simp) 3 _ rfl
  have J := I.funcs P.funcs[k] (List.getElem_mem _)
  have hfn : P.fn (k : Int) = P.funcs[k] := by unfold Pg.fn; simp [hkl]
  unfold Gr.ins at hfe
  simp only at hfe
  rw [hfn] at b2 hfe
  generalize P.funcs[k] = f at *
  have hml : m < f.code.length := by omega
  obtain ⟨cb, co, hca, hcbl, hC⟩ := J.ins (by omega)
  have t0 := hC m f.code[m] (by simp) 0 _ rfl
  have hat : f.at (m : Int) = f.code[m] := by unfold Fn.at; simp [hml]
  rw [hat] at hfe
  generalize f.code[m] = x at *
  obtain ⟨op, xa, xb, xc, xn⟩ := x
  simp only [Nat.add_zero] at s0 t0
  simp only at hfe
  have hlc := J.lenC
  unfold Len at hlc
  obtain ⟨g0, g1⟩ := J.reg
  have hfl1 : fb < w.heap.size + 1 := by omega
  have hfl2 : fb < w.heap.size + 1 + 1 := by omega
  have hcl1 : cb < w.heap.size + 1 := by omega
  have hcl2 : cb < w.heap.size + 1 + 1 := by omega
  have hcl3 : cb < w.heap.size + 1 + 1 + 1 := by omega
  rw [hfa]
  rw [hca] at s2
  have hrr := Lib.hid (show r = (zeros (f.regs) [r0, r1, r2, r3, r4, r5, r6, r7] && (decide (why = 0) && loc op)) by rw [hr.out, hfe]; simp [ends])
  have cM := Lib.hid (fun W => may_walk why op W)
  have cL := Lib.hid (fun W => local_walk op W)
  clear hF hfa hfn hC hca hat hfe hr G
  go_enter Tryd.func38, Tryd.ntmps38
  go_wp2
  go_loop [58] (fun i => ∃ j : Nat, j ≤ 8 ∧ i = .int .i64 j ∧ Hid (∀ q, q < j → (q : Int) < f.regs ∨ [r0, r1, r2, r3, r4, r5, r6, r7].getD q 0 = 0)) (fun i => 8 - (intOf i).toNat)
  case atStart => exact ⟨0, by omega, rfl, Lib.hid (fun q hq => by omega)⟩
  case round =>
    obtain ⟨j, hj, rfl, hz⟩ := hrel
    by_cases hj8 : j < 8
    · obtain ⟨v, hv⟩ : ∃ v, v = [r0, r1, r2, r3, r4, r5, r6, r7].getD j 0 := ⟨_, rfl⟩
      have hix := index8 #[.int .i64 r0, .int .i64 r1, .int .i64 r2, .int .i64 r3, .int .i64 r4, .int .i64 r5, .int .i64 r6, .int .i64 r7] j hj8 (.int .i64 v) (by rw [hv]; match j, hj8 with | 0, _ | 1, _ | 2, _ | 3, _ | 4, _ | 5, _ | 6, _ | 7, _ => rfl)
      have hv' := Lib.hid hv
      clear hv
      by_cases hv0 : v = 0
      · have hnx := Lib.hid (show ∀ q, q < j + 1 → (q : Int) < f.regs ∨ [r0, r1, r2, r3, r4, r5, r6, r7].getD q 0 = 0 from fun q hq => by
          by_cases hqj : q < j
          · exact hz.out q hqj
          · obtain rfl : q = j := by omega
            exact .inr (by rw [← hv'.out]; exact hv0))
        subst hv0
        go_wp2
        go_round
        case rel => exact ⟨j + 1, by omega, by go_num, hnx⟩
        case measure => simp [intOf]; omega
      · have hvb : (v != 0) = true := by simpa using hv0
        by_cases hjr : (j : Int) < f.regs
        · have hnx := Lib.hid (show ∀ q, q < j + 1 → (q : Int) < f.regs ∨ [r0, r1, r2, r3, r4, r5, r6, r7].getD q 0 = 0 from fun q hq => by
            by_cases hqj : q < j
            · exact hz.out q hqj
            · obtain rfl : q = j := by omega
              exact .inl hjr)
          clear hv0
          go_wp2
          go_round
          case rel => exact ⟨j + 1, by omega, by go_num, hnx⟩
          case measure => simp [intOf]; omega
        · have hrv := Lib.hid (show r = false by rw [hrr.out, zeros_no (j := j) (by simpa using hj8) hjr (by rw [← hv'.out]; exact hv0), Bool.false_and])
          clear hv0
          go_wp2
          go_ret
          exact ⟨by first | rfl | (rw [hrv.out]; rfl) | (simp; omega), by repeat (first | assumption | (with_reducible exact Below.refl _ _) | (with_reducible refine Below.drew ?_) | (with_reducible refine below_drewN ?_ _) | (with_reducible refine Below.alloc ?_ (by first | omega | (simp <;> omega)) _))⟩
    · obtain rfl : j = 8 := by omega
      have hrv := hrr.out
      rw [(zeros_iff _ _).2 (fun q hq => hz.out q (by simpa using hq)), Bool.true_and] at hrv
      have hrv := Lib.hid hrv
      by_cases hw : why = 0
      · subst hw
        have hrv := Lib.hid (show r = loc op by rw [hrv.out]; simp)
        go_wp2_with ((go_at_call 47; ((with_reducible refine (cL.out _).mono ?_); rintro e w' ⟨rfl, rfl⟩)))
        repeat (go_quiet ((go_at_call 47; refine Calls.quiet_of_same (cL.out _))); go_wp2)
        all_goals go_ret
        all_goals exact ⟨by first | rfl | (rw [hrv.out]; first | rfl | simp) | simp, by repeat (first | assumption | (with_reducible exact Below.refl _ _) | (with_reducible refine Below.drew ?_) | (with_reducible refine below_drewN ?_ _) | (with_reducible refine Below.alloc ?_ (by first | omega | (simp <;> omega)) _))⟩
      · have hwb : (why == 0) = false := by simpa using hw
        have hrv := Lib.hid (show r = false by rw [hrv.out]; simp [hw])
        go_wp2
        repeat (go_quiet (fail); go_wp2)
        all_goals go_ret
        all_goals exact ⟨by first | rfl | (rw [hrv.out]; first | rfl | (simp; omega)) | (simp; omega), by repeat (first | assumption | (with_reducible exact Below.refl _ _) | (with_reducible refine Below.drew ?_) | (with_reducible refine below_drewN ?_ _) | (with_reducible refine Below.alloc ?_ (by first | omega | (simp <;> omega)) _))⟩
theorem fits_walk (P : Pg) (g : Gr) (w : World) (I : P.In w) (G : g.ok) : Calls Tryd.prog 38 #[P.v, g.v] w fun e w' => e = .returned (.bool (fits P g)) ∧ Below w.heap.size w w' := by
  by_cases hs : stands P g = true
  · have h := hs
    unfold stands at h
    simp only [Bool.and_eq_true, decide_eq_true_eq] at h
    rcases (show g.status = 1 ∨ g.status = 2 ∨ g.status = 3 ∨ g.status = 4 ∨ g.status = 5 by omega) with e | e | e | e | e
    · exact fits_1 P g w I G hs e
    · exact fits_2 P g w I G hs e
    · exact fits_3 P g w I G hs e
    · exact fits_4 P g w I G hs e
    · exact fits_5 P g w I G hs e
  · exact fits_no P g w I G hs
end Go.Proofs.YtbcdeanmjhcgeaaDoor.Pg
