/- States, walked: is a channel one of a program, by the reference: with an offer. -/
import Derived.Test.YtbcdeanmjhcgeaaDoorZV6
namespace Go.Proofs.YtbcdeanmjhcgeaaDoor.Pg
set_option linter.unusedVariables false
set_option linter.unusedSimpArgs false
open Go.ChangeShapes Go.WideShapes Go.RowKit
set_option linter.unusedVariables false
set_option maxHeartbeats 16000000 in
set_option maxRecDepth 100000 in
theorem rchan_1 (P : Pg) (s : St) (k : Nat) (hb ho : Nat) (w : World) (I : P.In w) (hs : s.ok) (hst : Stand P s) (hhl : hb < w.heap.size) (hk : k < P.chans.length) (hk4 : k < 4) (cap b0 b1 b2 b3 len off frm val : Int) (cl : Bool) (hlh : P.chans.length ≤ 140737488351232) (hha : P.ha = some ⟨hb, ho, none⟩)
  (z0 : w.cell? ⟨hb, ho + k, none⟩ = some (.int .i64 cap)) (hx : s.chans.getD k default = ⟨[b0, b1, b2, b3], len, cl, off, frm, val⟩)
  (hl : len = 0) (hof : off = 1) (hcz : cap = 0) (hcl : cl = false) (q0 : b0 = 0) (q1 : b1 = 0) (q2 : b2 = 0) (q3 : b3 = 0) : Calls Tryd.prog 41 #[P.v, s.v, .int .i64 k] w fun e w' => e = .returned (.bool (waits P s frm k)) ∧ Below w.heap.size w w' := by
  subst hl
  subst hof
  subst hcz
  subst hcl
  subst q0
  subst q1
  subst q2
  subst q3
  obtain ⟨r, hr⟩ : ∃ r, Hid (r = waits P s frm k) := ⟨_, Lib.hid rfl⟩
  rw [← hr.out]
  have hw := waits_eq P s frm k
  have e0 := St.get_chan hs k hk4 0 _ (by rw [hx]; rfl)
  have e1 := St.get_chan hs k hk4 1 _ (by rw [hx]; rfl)
  have e2 := St.get_chan hs k hk4 2 _ (by rw [hx]; rfl)
  have e3 := St.get_chan hs k hk4 3 _ (by rw [hx]; rfl)
  have e4 := St.get_chan hs k hk4 4 _ (by rw [hx]; rfl)
  have e5 := St.get_chan hs k hk4 5 _ (by rw [hx]; rfl)
  have e6 := St.get_chan hs k hk4 6 _ (by rw [hx]; rfl)
  have e7 := St.get_chan hs k hk4 7 _ (by rw [hx]; rfl)
  have e8 := St.get_chan hs k hk4 8 _ (by rw [hx]; rfl)
  have hcnt := St.get_count hs
  have hlf := I.lenF
  unfold Len at hlf
  obtain ⟨_, _⟩ := hs.count
  unfold St.v Pg.v
  rw [hha]
  simp only [Nat.add_zero] at e0
  have h1' : hb < w.heap.size + 1 := by omega
  have h2' : hb < w.heap.size + 1 + 1 := by omega
  clear hx hha
  by_cases h1 : 0 ≤ frm ∧ frm < s.count
  rotate_left
  · have hrv := Lib.hid (show r = false by rw [hr.out, hw, show decide (0 ≤ frm ∧ frm < s.count) = false by simpa using h1, Bool.false_and])
    generalize s.cs.toArray = st at *
    rcases (show frm < 0 ∨ (0 ≤ frm ∧ s.count ≤ frm) by omega) with h2 | ⟨h2, h3⟩
    · have : decide (frm < 0) = true := by first | (simp; done) | (simp; omega)
      clear hr hw hs hst h1
      go_enter Tryd.func41, Tryd.ntmps41
      go_wp2
      repeat (go_quiet (fail); go_wp2)
      refine wp_loop_rounds 5 ?_
      iterate 5 (rw [rounds_succ]; go_wp2)
      all_goals (repeat (go_quiet (fail); go_wp2))
      all_goals go_ret
      all_goals exact ⟨by first | rfl | (rw [hrv.out]; rfl) | (simp; done) | (simp; omega) | (rw [hrv.out]; simp; done), by repeat (first | assumption | (with_reducible exact Below.refl _ _) | (with_reducible refine Below.drew ?_) | (with_reducible refine below_drewN ?_ _) | (with_reducible refine Below.alloc ?_ (by first | omega | (simp <;> omega)) _))⟩
    · have : decide (frm < 0) = false := by first | (simp; done) | (simp; omega)
      have : decide (s.count ≤ frm) = true := by first | (simp; done) | (simp; omega)
      clear hr hw hs hst h1
      go_enter Tryd.func41, Tryd.ntmps41
      go_wp2
      repeat (go_quiet (fail); go_wp2)
      refine wp_loop_rounds 5 ?_
      iterate 5 (rw [rounds_succ]; go_wp2)
      all_goals (repeat (go_quiet (fail); go_wp2))
      all_goals go_ret
      all_goals exact ⟨by first | rfl | (rw [hrv.out]; rfl) | (simp; done) | (simp; omega) | (rw [hrv.out]; simp; done), by repeat (first | assumption | (with_reducible exact Below.refl _ _) | (with_reducible refine Below.drew ?_) | (with_reducible refine below_drewN ?_ _) | (with_reducible refine Below.alloc ?_ (by first | omega | (simp <;> omega)) _))⟩
  obtain ⟨h2, h3⟩ := h1
  have h6 := hst.1
  obtain ⟨g, rfl⟩ : ∃ g : Nat, frm = g := ⟨frm.toNat, by omega⟩
  have hg6 : g < 6 := by omega
  have hstand := hst.2 g h3
  have g0 := St.get_go hs g hg6 0 _ rfl
  have g1 := St.get_go hs g hg6 1 _ rfl
  have g2 := St.get_go hs g hg6 2 _ rfl
  rw [show decide (0 ≤ (g : Int) ∧ (g : Int) < s.count) = true by simp; omega, Bool.true_and, Int.toNat_natCast] at hw
  generalize s.gos.getD g default = q at *
  generalize s.cs.toArray = st at *
  simp only [Nat.add_zero] at g0
  have d1 : decide ((g : Int) < 0) = false := by simp
  have d2 : decide (s.count ≤ (g : Int)) = false := by simp; omega
  by_cases hs2 : q.status = 2
  rotate_left
  · have d3 : (q.status != 2) = true := by simpa using hs2
    have hrv := Lib.hid (show r = false by rw [hr.out, hw]; simp [hs2])
    clear hr hw hs hst hs2 hstand
    go_enter Tryd.func41, Tryd.ntmps41
    go_wp2
    repeat (go_quiet (fail); go_wp2)
    refine wp_loop_rounds 5 ?_
    iterate 5 (rw [rounds_succ]; go_wp2)
    all_goals (repeat (go_quiet (fail); go_wp2))
    all_goals go_ret
    all_goals exact ⟨by first | rfl | (rw [hrv.out]; rfl) | (simp; done) | (simp; omega) | (rw [hrv.out]; simp; done), by repeat (first | assumption | (with_reducible exact Below.refl _ _) | (with_reducible refine Below.drew ?_) | (with_reducible refine below_drewN ?_ _) | (with_reducible refine Below.alloc ?_ (by first | omega | (simp <;> omega)) _))⟩
  have d3 : (q.status != 2) = false := by simpa using hs2
  unfold stands at hstand
  simp only [Bool.and_eq_true, decide_eq_true_eq] at hstand
  obtain ⟨⟨_, _, a3, a4⟩, b1, b2⟩ := hstand
  rw [show decide (q.status = 2) = true by simpa using hs2, Bool.true_and] at hw
  unfold Gr.ins at hw
  generalize q.func = fn at *
  generalize q.pc = pc at *
  obtain ⟨n, rfl⟩ : ∃ n : Nat, fn = n := ⟨fn.toNat, by omega⟩
  obtain ⟨m, rfl⟩ : ∃ m : Nat, pc = m := ⟨pc.toNat, by omega⟩
  have hkl : n < P.funcs.length := by omega
  obtain ⟨fb, fo, hfa, hfl, hF⟩ := I.func (by omega)
  have s2 := hF n P.funcs[n] (by simp) 2 _ rfl
  have J := I.funcs P.funcs[n] (List.getElem_mem _)
  have hfn : P.fn (n : Int) = P.funcs[n] := by unfold Pg.fn; simp [hkl]
  rw [hfn] at b2 hw
  generalize P.funcs[n] = f at *
  have hml : m < f.code.length := by omega
  obtain ⟨cb, co, hca, hcbl, hC⟩ := J.ins (by omega)
  have t0 := hC m f.code[m] (by simp) 0 _ rfl
  have t1 := hC m f.code[m] (by simp) 1 _ rfl
  have t2 := hC m f.code[m] (by simp) 2 _ rfl
  have t3 := hC m f.code[m] (by simp) 3 _ rfl
  have t4 := hC m f.code[m] (by simp) 4 _ rfl
  have hat : f.at (m : Int) = f.code[m] := by unfold Fn.at; simp [hml]
  rw [hat] at hw
  generalize f.code[m] = x at *
  obtain ⟨op, xa, xb, xc, xn⟩ := x
  simp only [Nat.add_zero] at t0
  simp only at hw
  have hlc := J.lenC
  unfold Len at hlc
  have hfl1 : fb < w.heap.size + 1 := by omega
  have hfl2 : fb < w.heap.size + 1 + 1 := by omega
  have hfl3 : fb < w.heap.size + 1 + 1 + 1 := by omega
  have hcl1 : cb < w.heap.size + 1 := by omega
  have hcl2 : cb < w.heap.size + 1 + 1 := by omega
  have hcl3 : cb < w.heap.size + 1 + 1 + 1 := by omega
  rw [hfa]
  rw [hca] at s2
  have hrr := Lib.hid (show r = decide (op = 58 ∧ xa = (k : Int)) by rw [hr.out, hw])
  clear hF hfa hfn hC hca hat hr hw hs hst hs2
  by_cases ho : op = 58
  · subst ho
    have hrv := Lib.hid (show r = (xa == (k : Int)) by rw [hrr.out, Bool.eq_iff_iff]; simp)
    go_enter Tryd.func41, Tryd.ntmps41
    go_wp2
    repeat (go_quiet (fail); go_wp2)
    refine wp_loop_rounds 5 ?_
    iterate 5 (rw [rounds_succ]; go_wp2)
    repeat (go_quiet (fail); go_wp2)
    (try (go_region; all_goals go_wp2))
    all_goals (repeat (go_quiet (fail); go_wp2))
    all_goals go_ret
    all_goals exact ⟨by first | rfl | (rw [hrv.out]; rfl) | (simp; done) | (simp; omega) | (rw [hrv.out]; simp; done), by repeat (first | assumption | (with_reducible exact Below.refl _ _) | (with_reducible refine Below.drew ?_) | (with_reducible refine below_drewN ?_ _) | (with_reducible refine Below.alloc ?_ (by first | omega | (simp <;> omega)) _))⟩
  · have hob : (op == 58) = false := by simpa using ho
    have hrv := Lib.hid (show r = false by rw [hrr.out]; simp [ho])
    clear ho
    go_enter Tryd.func41, Tryd.ntmps41
    go_wp2
    repeat (go_quiet (fail); go_wp2)
    refine wp_loop_rounds 5 ?_
    iterate 5 (rw [rounds_succ]; go_wp2)
    repeat (go_quiet (fail); go_wp2)
    (try (go_region; all_goals go_wp2))
    all_goals (repeat (go_quiet (fail); go_wp2))
    all_goals go_ret
    all_goals exact ⟨by first | rfl | (rw [hrv.out]; rfl) | (simp; done) | (simp; omega) | (rw [hrv.out]; simp; done), by repeat (first | assumption | (with_reducible exact Below.refl _ _) | (with_reducible refine Below.drew ?_) | (with_reducible refine below_drewN ?_ _) | (with_reducible refine Below.alloc ?_ (by first | omega | (simp <;> omega)) _))⟩
set_option maxHeartbeats 16000000 in
set_option maxRecDepth 100000 in
theorem rchan_2 (P : Pg) (s : St) (k : Nat) (hb ho : Nat) (w : World) (I : P.In w) (hs : s.ok) (hst : Stand P s) (hhl : hb < w.heap.size) (hk : k < P.chans.length) (hk4 : k < 4) (cap b0 b1 b2 b3 len off frm val : Int) (cl : Bool) (hlh : P.chans.length ≤ 140737488351232) (hha : P.ha = some ⟨hb, ho, none⟩)
  (z0 : w.cell? ⟨hb, ho + k, none⟩ = some (.int .i64 cap)) (hx : s.chans.getD k default = ⟨[b0, b1, b2, b3], len, cl, off, frm, val⟩)
  (hl : len = 0) (hof : off = 2) (hcz : cap = 0) (hv : val = 0) (q0 : b0 = 0) (q1 : b1 = 0) (q2 : b2 = 0) (q3 : b3 = 0) : Calls Tryd.prog 41 #[P.v, s.v, .int .i64 k] w fun e w' => e = .returned (.bool (waits P s frm k)) ∧ Below w.heap.size w w' := by
  subst hl
  subst hof
  subst hcz
  subst hv
  subst q0
  subst q1
  subst q2
  subst q3
  obtain ⟨r, hr⟩ : ∃ r, Hid (r = waits P s frm k) := ⟨_, Lib.hid rfl⟩
  rw [← hr.out]
  have hw := waits_eq P s frm k
  have e0 := St.get_chan hs k hk4 0 _ (by rw [hx]; rfl)
  have e1 := St.get_chan hs k hk4 1 _ (by rw [hx]; rfl)
  have e2 := St.get_chan hs k hk4 2 _ (by rw [hx]; rfl)
  have e3 := St.get_chan hs k hk4 3 _ (by rw [hx]; rfl)
  have e4 := St.get_chan hs k hk4 4 _ (by rw [hx]; rfl)
  have e5 := St.get_chan hs k hk4 5 _ (by rw [hx]; rfl)
  have e6 := St.get_chan hs k hk4 6 _ (by rw [hx]; rfl)
  have e7 := St.get_chan hs k hk4 7 _ (by rw [hx]; rfl)
  have e8 := St.get_chan hs k hk4 8 _ (by rw [hx]; rfl)
  have hcnt := St.get_count hs
  have hlf := I.lenF
  unfold Len at hlf
  obtain ⟨_, _⟩ := hs.count
  unfold St.v Pg.v
  rw [hha]
  simp only [Nat.add_zero] at e0
  have h1' : hb < w.heap.size + 1 := by omega
  have h2' : hb < w.heap.size + 1 + 1 := by omega
  clear hx hha
  by_cases h1 : 0 ≤ frm ∧ frm < s.count
  rotate_left
  · have hrv := Lib.hid (show r = false by rw [hr.out, hw, show decide (0 ≤ frm ∧ frm < s.count) = false by simpa using h1, Bool.false_and])
    generalize s.cs.toArray = st at *
    rcases (show frm < 0 ∨ (0 ≤ frm ∧ s.count ≤ frm) by omega) with h2 | ⟨h2, h3⟩
    · have : decide (frm < 0) = true := by first | (simp; done) | (simp; omega)
      clear hr hw hs hst h1
      go_enter Tryd.func41, Tryd.ntmps41
      go_wp2
      repeat (go_quiet (fail); go_wp2)
      refine wp_loop_rounds 5 ?_
      iterate 5 (rw [rounds_succ]; go_wp2)
      all_goals (repeat (go_quiet (fail); go_wp2))
      all_goals go_ret
      all_goals exact ⟨by first | rfl | (rw [hrv.out]; rfl) | (simp; done) | (simp; omega) | (rw [hrv.out]; simp; done), by repeat (first | assumption | (with_reducible exact Below.refl _ _) | (with_reducible refine Below.drew ?_) | (with_reducible refine below_drewN ?_ _) | (with_reducible refine Below.alloc ?_ (by first | omega | (simp <;> omega)) _))⟩
    · have : decide (frm < 0) = false := by first | (simp; done) | (simp; omega)
      have : decide (s.count ≤ frm) = true := by first | (simp; done) | (simp; omega)
      clear hr hw hs hst h1
      go_enter Tryd.func41, Tryd.ntmps41
      go_wp2
      repeat (go_quiet (fail); go_wp2)
      refine wp_loop_rounds 5 ?_
      iterate 5 (rw [rounds_succ]; go_wp2)
      all_goals (repeat (go_quiet (fail); go_wp2))
      all_goals go_ret
      all_goals exact ⟨by first | rfl | (rw [hrv.out]; rfl) | (simp; done) | (simp; omega) | (rw [hrv.out]; simp; done), by repeat (first | assumption | (with_reducible exact Below.refl _ _) | (with_reducible refine Below.drew ?_) | (with_reducible refine below_drewN ?_ _) | (with_reducible refine Below.alloc ?_ (by first | omega | (simp <;> omega)) _))⟩
  obtain ⟨h2, h3⟩ := h1
  have h6 := hst.1
  obtain ⟨g, rfl⟩ : ∃ g : Nat, frm = g := ⟨frm.toNat, by omega⟩
  have hg6 : g < 6 := by omega
  have hstand := hst.2 g h3
  have g0 := St.get_go hs g hg6 0 _ rfl
  have g1 := St.get_go hs g hg6 1 _ rfl
  have g2 := St.get_go hs g hg6 2 _ rfl
  rw [show decide (0 ≤ (g : Int) ∧ (g : Int) < s.count) = true by simp; omega, Bool.true_and, Int.toNat_natCast] at hw
  generalize s.gos.getD g default = q at *
  generalize s.cs.toArray = st at *
  simp only [Nat.add_zero] at g0
  have d1 : decide ((g : Int) < 0) = false := by simp
  have d2 : decide (s.count ≤ (g : Int)) = false := by simp; omega
  by_cases hs2 : q.status = 2
  rotate_left
  · have d3 : (q.status != 2) = true := by simpa using hs2
    have hrv := Lib.hid (show r = false by rw [hr.out, hw]; simp [hs2])
    clear hr hw hs hst hs2 hstand
    go_enter Tryd.func41, Tryd.ntmps41
    go_wp2
    repeat (go_quiet (fail); go_wp2)
    refine wp_loop_rounds 5 ?_
    iterate 5 (rw [rounds_succ]; go_wp2)
    all_goals (repeat (go_quiet (fail); go_wp2))
    all_goals go_ret
    all_goals exact ⟨by first | rfl | (rw [hrv.out]; rfl) | (simp; done) | (simp; omega) | (rw [hrv.out]; simp; done), by repeat (first | assumption | (with_reducible exact Below.refl _ _) | (with_reducible refine Below.drew ?_) | (with_reducible refine below_drewN ?_ _) | (with_reducible refine Below.alloc ?_ (by first | omega | (simp <;> omega)) _))⟩
  have d3 : (q.status != 2) = false := by simpa using hs2
  unfold stands at hstand
  simp only [Bool.and_eq_true, decide_eq_true_eq] at hstand
  obtain ⟨⟨_, _, a3, a4⟩, b1, b2⟩ := hstand
  rw [show decide (q.status = 2) = true by simpa using hs2, Bool.true_and] at hw
  unfold Gr.ins at hw
  generalize q.func = fn at *
  generalize q.pc = pc at *
  obtain ⟨n, rfl⟩ : ∃ n : Nat, fn = n := ⟨fn.toNat, by omega⟩
  obtain ⟨m, rfl⟩ : ∃ m : Nat, pc = m := ⟨pc.toNat, by omega⟩
  have hkl : n < P.funcs.length := by omega
  obtain ⟨fb, fo, hfa, hfl, hF⟩ := I.func (by omega)
  have s2 := hF n P.funcs[n] (by simp) 2 _ rfl
  have J := I.funcs P.funcs[n] (List.getElem_mem _)
  have hfn : P.fn (n : Int) = P.funcs[n] := by unfold Pg.fn; simp [hkl]
  rw [hfn] at b2 hw
  generalize P.funcs[n] = f at *
  have hml : m < f.code.length := by omega
  obtain ⟨cb, co, hca, hcbl, hC⟩ := J.ins (by omega)
  have t0 := hC m f.code[m] (by simp) 0 _ rfl
  have t1 := hC m f.code[m] (by simp) 1 _ rfl
  have t2 := hC m f.code[m] (by simp) 2 _ rfl
  have t3 := hC m f.code[m] (by simp) 3 _ rfl
  have t4 := hC m f.code[m] (by simp) 4 _ rfl
  have hat : f.at (m : Int) = f.code[m] := by unfold Fn.at; simp [hml]
  rw [hat] at hw
  generalize f.code[m] = x at *
  obtain ⟨op, xa, xb, xc, xn⟩ := x
  simp only [Nat.add_zero] at t0
  simp only at hw
  have hlc := J.lenC
  unfold Len at hlc
  have hfl1 : fb < w.heap.size + 1 := by omega
  have hfl2 : fb < w.heap.size + 1 + 1 := by omega
  have hfl3 : fb < w.heap.size + 1 + 1 + 1 := by omega
  have hcl1 : cb < w.heap.size + 1 := by omega
  have hcl2 : cb < w.heap.size + 1 + 1 := by omega
  have hcl3 : cb < w.heap.size + 1 + 1 + 1 := by omega
  rw [hfa]
  rw [hca] at s2
  have hrr := Lib.hid (show r = decide (op = 58 ∧ xa = (k : Int)) by rw [hr.out, hw])
  clear hF hfa hfn hC hca hat hr hw hs hst hs2
  by_cases ho : op = 58
  · subst ho
    have hrv := Lib.hid (show r = (xa == (k : Int)) by rw [hrr.out, Bool.eq_iff_iff]; simp)
    go_enter Tryd.func41, Tryd.ntmps41
    go_wp2
    repeat (go_quiet (fail); go_wp2)
    refine wp_loop_rounds 5 ?_
    iterate 5 (rw [rounds_succ]; go_wp2)
    repeat (go_quiet (fail); go_wp2)
    (try (go_region; all_goals go_wp2))
    all_goals (repeat (go_quiet (fail); go_wp2))
    all_goals go_ret
    all_goals exact ⟨by first | rfl | (rw [hrv.out]; rfl) | (simp; done) | (simp; omega) | (rw [hrv.out]; simp; done), by repeat (first | assumption | (with_reducible exact Below.refl _ _) | (with_reducible refine Below.drew ?_) | (with_reducible refine below_drewN ?_ _) | (with_reducible refine Below.alloc ?_ (by first | omega | (simp <;> omega)) _))⟩
  · have hob : (op == 58) = false := by simpa using ho
    have hrv := Lib.hid (show r = false by rw [hrr.out]; simp [ho])
    clear ho
    go_enter Tryd.func41, Tryd.ntmps41
    go_wp2
    repeat (go_quiet (fail); go_wp2)
    refine wp_loop_rounds 5 ?_
    iterate 5 (rw [rounds_succ]; go_wp2)
    repeat (go_quiet (fail); go_wp2)
    (try (go_region; all_goals go_wp2))
    all_goals (repeat (go_quiet (fail); go_wp2))
    all_goals go_ret
    all_goals exact ⟨by first | rfl | (rw [hrv.out]; rfl) | (simp; done) | (simp; omega) | (rw [hrv.out]; simp; done), by repeat (first | assumption | (with_reducible exact Below.refl _ _) | (with_reducible refine Below.drew ?_) | (with_reducible refine below_drewN ?_ _) | (with_reducible refine Below.alloc ?_ (by first | omega | (simp <;> omega)) _))⟩
set_option maxHeartbeats 16000000 in
set_option maxRecDepth 100000 in
theorem rchan_3 (P : Pg) (s : St) (k : Nat) (hb ho : Nat) (w : World) (I : P.In w) (hs : s.ok) (hst : Stand P s) (hhl : hb < w.heap.size) (hk : k < P.chans.length) (hk4 : k < 4) (cap b0 b1 b2 b3 len off frm val : Int) (cl : Bool) (hlh : P.chans.length ≤ 140737488351232) (hha : P.ha = some ⟨hb, ho, none⟩)
  (z0 : w.cell? ⟨hb, ho + k, none⟩ = some (.int .i64 cap)) (hx : s.chans.getD k default = ⟨[b0, b1, b2, b3], len, cl, off, frm, val⟩)
  (hl : len = 0) (hof : off = 3) (hcz : cap = 0) (hv : val = 0) (hcl : cl = true) (q0 : b0 = 0) (q1 : b1 = 0) (q2 : b2 = 0) (q3 : b3 = 0) : Calls Tryd.prog 41 #[P.v, s.v, .int .i64 k] w fun e w' => e = .returned (.bool (waits P s frm k)) ∧ Below w.heap.size w w' := by
  subst hl
  subst hof
  subst hcz
  subst hv
  subst hcl
  subst q0
  subst q1
  subst q2
  subst q3
  obtain ⟨r, hr⟩ : ∃ r, Hid (r = waits P s frm k) := ⟨_, Lib.hid rfl⟩
  rw [← hr.out]
  have hw := waits_eq P s frm k
  have e0 := St.get_chan hs k hk4 0 _ (by rw [hx]; rfl)
  have e1 := St.get_chan hs k hk4 1 _ (by rw [hx]; rfl)
  have e2 := St.get_chan hs k hk4 2 _ (by rw [hx]; rfl)
  have e3 := St.get_chan hs k hk4 3 _ (by rw [hx]; rfl)
  have e4 := St.get_chan hs k hk4 4 _ (by rw [hx]; rfl)
  have e5 := St.get_chan hs k hk4 5 _ (by rw [hx]; rfl)
  have e6 := St.get_chan hs k hk4 6 _ (by rw [hx]; rfl)
  have e7 := St.get_chan hs k hk4 7 _ (by rw [hx]; rfl)
  have e8 := St.get_chan hs k hk4 8 _ (by rw [hx]; rfl)
  have hcnt := St.get_count hs
  have hlf := I.lenF
  unfold Len at hlf
  obtain ⟨_, _⟩ := hs.count
  unfold St.v Pg.v
  rw [hha]
  simp only [Nat.add_zero] at e0
  have h1' : hb < w.heap.size + 1 := by omega
  have h2' : hb < w.heap.size + 1 + 1 := by omega
  clear hx hha
  by_cases h1 : 0 ≤ frm ∧ frm < s.count
  rotate_left
  · have hrv := Lib.hid (show r = false by rw [hr.out, hw, show decide (0 ≤ frm ∧ frm < s.count) = false by simpa using h1, Bool.false_and])
    generalize s.cs.toArray = st at *
    rcases (show frm < 0 ∨ (0 ≤ frm ∧ s.count ≤ frm) by omega) with h2 | ⟨h2, h3⟩
    · have : decide (frm < 0) = true := by first | (simp; done) | (simp; omega)
      clear hr hw hs hst h1
      go_enter Tryd.func41, Tryd.ntmps41
      go_wp2
      repeat (go_quiet (fail); go_wp2)
      refine wp_loop_rounds 5 ?_
      iterate 5 (rw [rounds_succ]; go_wp2)
      all_goals (repeat (go_quiet (fail); go_wp2))
      all_goals go_ret
      all_goals exact ⟨by first | rfl | (rw [hrv.out]; rfl) | (simp; done) | (simp; omega) | (rw [hrv.out]; simp; done), by repeat (first | assumption | (with_reducible exact Below.refl _ _) | (with_reducible refine Below.drew ?_) | (with_reducible refine below_drewN ?_ _) | (with_reducible refine Below.alloc ?_ (by first | omega | (simp <;> omega)) _))⟩
    · have : decide (frm < 0) = false := by first | (simp; done) | (simp; omega)
      have : decide (s.count ≤ frm) = true := by first | (simp; done) | (simp; omega)
      clear hr hw hs hst h1
      go_enter Tryd.func41, Tryd.ntmps41
      go_wp2
      repeat (go_quiet (fail); go_wp2)
      refine wp_loop_rounds 5 ?_
      iterate 5 (rw [rounds_succ]; go_wp2)
      all_goals (repeat (go_quiet (fail); go_wp2))
      all_goals go_ret
      all_goals exact ⟨by first | rfl | (rw [hrv.out]; rfl) | (simp; done) | (simp; omega) | (rw [hrv.out]; simp; done), by repeat (first | assumption | (with_reducible exact Below.refl _ _) | (with_reducible refine Below.drew ?_) | (with_reducible refine below_drewN ?_ _) | (with_reducible refine Below.alloc ?_ (by first | omega | (simp <;> omega)) _))⟩
  obtain ⟨h2, h3⟩ := h1
  have h6 := hst.1
  obtain ⟨g, rfl⟩ : ∃ g : Nat, frm = g := ⟨frm.toNat, by omega⟩
  have hg6 : g < 6 := by omega
  have hstand := hst.2 g h3
  have g0 := St.get_go hs g hg6 0 _ rfl
  have g1 := St.get_go hs g hg6 1 _ rfl
  have g2 := St.get_go hs g hg6 2 _ rfl
  rw [show decide (0 ≤ (g : Int) ∧ (g : Int) < s.count) = true by simp; omega, Bool.true_and, Int.toNat_natCast] at hw
  generalize s.gos.getD g default = q at *
  generalize s.cs.toArray = st at *
  simp only [Nat.add_zero] at g0
  have d1 : decide ((g : Int) < 0) = false := by simp
  have d2 : decide (s.count ≤ (g : Int)) = false := by simp; omega
  by_cases hs2 : q.status = 2
  rotate_left
  · have d3 : (q.status != 2) = true := by simpa using hs2
    have hrv := Lib.hid (show r = false by rw [hr.out, hw]; simp [hs2])
    clear hr hw hs hst hs2 hstand
    go_enter Tryd.func41, Tryd.ntmps41
    go_wp2
    repeat (go_quiet (fail); go_wp2)
    refine wp_loop_rounds 5 ?_
    iterate 5 (rw [rounds_succ]; go_wp2)
    all_goals (repeat (go_quiet (fail); go_wp2))
    all_goals go_ret
    all_goals exact ⟨by first | rfl | (rw [hrv.out]; rfl) | (simp; done) | (simp; omega) | (rw [hrv.out]; simp; done), by repeat (first | assumption | (with_reducible exact Below.refl _ _) | (with_reducible refine Below.drew ?_) | (with_reducible refine below_drewN ?_ _) | (with_reducible refine Below.alloc ?_ (by first | omega | (simp <;> omega)) _))⟩
  have d3 : (q.status != 2) = false := by simpa using hs2
  unfold stands at hstand
  simp only [Bool.and_eq_true, decide_eq_true_eq] at hstand
  obtain ⟨⟨_, _, a3, a4⟩, b1, b2⟩ := hstand
  rw [show decide (q.status = 2) = true by simpa using hs2, Bool.true_and] at hw
  unfold Gr.ins at hw
  generalize q.func = fn at *
  generalize q.pc = pc at *
  obtain ⟨n, rfl⟩ : ∃ n : Nat, fn = n := ⟨fn.toNat, by omega⟩
  obtain ⟨m, rfl⟩ : ∃ m : Nat, pc = m := ⟨pc.toNat, by omega⟩
  have hkl : n < P.funcs.length := by omega
  obtain ⟨fb, fo, hfa, hfl, hF⟩ := I.func (by omega)
  have s2 := hF n P.funcs[n] (by simp) 2 _ rfl
  have J := I.funcs P.funcs[n] (List.getElem_mem _)
  have hfn : P.fn (n : Int) = P.funcs[n] := by unfold Pg.fn; simp [hkl]
  rw [hfn] at b2 hw
  generalize P.funcs[n] = f at *
  have hml : m < f.code.length := by omega
  obtain ⟨cb, co, hca, hcbl, hC⟩ := J.ins (by omega)
  have t0 := hC m f.code[m] (by simp) 0 _ rfl
  have t1 := hC m f.code[m] (by simp) 1 _ rfl
  have t2 := hC m f.code[m] (by simp) 2 _ rfl
  have t3 := hC m f.code[m] (by simp) 3 _ rfl
  have t4 := hC m f.code[m] (by simp) 4 _ rfl
  have hat : f.at (m : Int) = f.code[m] := by unfold Fn.at; simp [hml]
  rw [hat] at hw
  generalize f.code[m] = x at *
  obtain ⟨op, xa, xb, xc, xn⟩ := x
  simp only [Nat.add_zero] at t0
  simp only at hw
  have hlc := J.lenC
  unfold Len at hlc
  have hfl1 : fb < w.heap.size + 1 := by omega
  have hfl2 : fb < w.heap.size + 1 + 1 := by omega
  have hfl3 : fb < w.heap.size + 1 + 1 + 1 := by omega
  have hcl1 : cb < w.heap.size + 1 := by omega
  have hcl2 : cb < w.heap.size + 1 + 1 := by omega
  have hcl3 : cb < w.heap.size + 1 + 1 + 1 := by omega
  rw [hfa]
  rw [hca] at s2
  have hrr := Lib.hid (show r = decide (op = 58 ∧ xa = (k : Int)) by rw [hr.out, hw])
  clear hF hfa hfn hC hca hat hr hw hs hst hs2
  by_cases ho : op = 58
  · subst ho
    have hrv := Lib.hid (show r = (xa == (k : Int)) by rw [hrr.out, Bool.eq_iff_iff]; simp)
    go_enter Tryd.func41, Tryd.ntmps41
    go_wp2
    repeat (go_quiet (fail); go_wp2)
    refine wp_loop_rounds 5 ?_
    iterate 5 (rw [rounds_succ]; go_wp2)
    repeat (go_quiet (fail); go_wp2)
    (try (go_region; all_goals go_wp2))
    all_goals (repeat (go_quiet (fail); go_wp2))
    all_goals go_ret
    all_goals exact ⟨by first | rfl | (rw [hrv.out]; rfl) | (simp; done) | (simp; omega) | (rw [hrv.out]; simp; done), by repeat (first | assumption | (with_reducible exact Below.refl _ _) | (with_reducible refine Below.drew ?_) | (with_reducible refine below_drewN ?_ _) | (with_reducible refine Below.alloc ?_ (by first | omega | (simp <;> omega)) _))⟩
  · have hob : (op == 58) = false := by simpa using ho
    have hrv := Lib.hid (show r = false by rw [hrr.out]; simp [ho])
    clear ho
    go_enter Tryd.func41, Tryd.ntmps41
    go_wp2
    repeat (go_quiet (fail); go_wp2)
    refine wp_loop_rounds 5 ?_
    iterate 5 (rw [rounds_succ]; go_wp2)
    repeat (go_quiet (fail); go_wp2)
    (try (go_region; all_goals go_wp2))
    all_goals (repeat (go_quiet (fail); go_wp2))
    all_goals go_ret
    all_goals exact ⟨by first | rfl | (rw [hrv.out]; rfl) | (simp; done) | (simp; omega) | (rw [hrv.out]; simp; done), by repeat (first | assumption | (with_reducible exact Below.refl _ _) | (with_reducible refine Below.drew ?_) | (with_reducible refine below_drewN ?_ _) | (with_reducible refine Below.alloc ?_ (by first | omega | (simp <;> omega)) _))⟩
end Go.Proofs.YtbcdeanmjhcgeaaDoor.Pg
