/- Several texts of one proof, one behind the other. States, walked: does a goroutine wait at a send. | Eight registers against none, and a goroutine against none: as the model runs it. | Four buffered against none, and a channel against none: as the model runs it. -/
import Derived.Test.YtbcdeanmjhcgeaaDoorZa
import Derived.Test.YtbcdeanmjhcgeaaDoorZV2
import Derived.BigRegion
import Derived.Laws.StructEq
import Derived.ChangeKeysEq
namespace Go.Proofs.YtbcdeanmjhcgeaaDoor.Pg
set_option linter.unusedVariables false
set_option linter.unusedSimpArgs false
open Go.ChangeShapes Go.WideShapes Go.RowKit
set_option linter.unusedVariables false
theorem waits_eq (P : Pg) (s : St) (g c : Int) : waits P s g c = (decide (0 ≤ g ∧ g < s.count) && (decide ((s.gos.getD g.toNat default).status = 2) && decide (((s.gos.getD g.toNat default).ins P).op = 58 ∧ ((s.gos.getD g.toNat default).ins P).a = c))) := rfl
/-- All goroutines so far stand in the program. -/
def Stand (P : Pg) (s : St) : Prop := s.count ≤ 6 ∧ ∀ k : Nat, (k : Int) < s.count → stands P (s.gos.getD k default) = true
set_option maxHeartbeats 8000000 in
set_option maxRecDepth 100000 in
theorem waits_walk (P : Pg) (s : St) (g c : Int) (w : World) (I : P.In w) (hs : s.ok) (hst : Stand P s) : Calls Tryd.prog 53 #[P.v, s.v, .int .i64 g, .int .i64 c] w fun e w' => e = .returned (.bool (waits P s g c)) ∧ Below w.heap.size w w' := by
  obtain ⟨r, hr⟩ : ∃ r, Hid (r = waits P s g c) := ⟨_, Lib.hid rfl⟩
  rw [← hr.out]
  have hw := waits_eq P s g c
  have hcnt := St.get_count hs
  have hlf := I.lenF
  unfold Len at hlf
  obtain ⟨_, _⟩ := hs.count
  unfold St.v Pg.v
  by_cases h1 : 0 ≤ g ∧ g < s.count
  · obtain ⟨h2, h3⟩ := h1
    have h6 := hst.1
    obtain ⟨k, rfl⟩ : ∃ k : Nat, g = k := ⟨g.toNat, by omega⟩
    have hk6 : k < 6 := by omega
    have hstand := hst.2 k h3
    have e0 := St.get_go hs k hk6 0 _ rfl
    have e1 := St.get_go hs k hk6 1 _ rfl
    have e2 := St.get_go hs k hk6 2 _ rfl
    rw [show decide (0 ≤ (k : Int) ∧ (k : Int) < s.count) = true by simp; omega, Bool.true_and, Int.toNat_natCast] at hw
    generalize s.gos.getD k default = q at *
    generalize s.cs.toArray = st at *
    simp only [Nat.add_zero] at e0
    have d1 : decide ((k : Int) < 0) = false := by simp
    have d2 : decide (s.count ≤ (k : Int)) = false := by simp; omega
    by_cases hs2 : q.status = 2
    · have d3 : (q.status != 2) = false := by simpa using hs2
      unfold stands at hstand
      simp only [Bool.and_eq_true, decide_eq_true_eq] at hstand
      obtain ⟨⟨_, _, a3, a4⟩, b1, b2⟩ := hstand
      rw [show decide (q.status = 2) = true by simpa using hs2, Bool.true_and] at hw
      unfold Gr.ins at hw
      generalize q.func = fn at *
      generalize q.pc = pc at *
      obtain ⟨n, rfl⟩ : ∃ n : Nat, fn = n := ⟨fn.toNat, by omega⟩
      obtain ⟨m, rfl⟩ : ∃ m : Nat, pc = m := ⟨pc.toNat, by omega⟩
      have hkl : n < P.funcs.length := by omega
      obtain ⟨fb, fo, hfa, hfl, hF⟩ := I.func (by omega)
      have s2 := hF n P.funcs[n] (by simp) 2 _ rfl
      have J := I.funcs P.funcs[n] (List.getElem_mem _)
      have hfn : P.fn (n : Int) = P.funcs[n] := by unfold Pg.fn; simp [hkl]
      rw [hfn] at b2 hw
      generalize P.funcs[n] = f at *
      have hml : m < f.code.length := by omega
      obtain ⟨cb, co, hca, hcbl, hC⟩ := J.ins (by omega)
      have t0 := hC m f.code[m] (by simp) 0 _ rfl
      have t1 := hC m f.code[m] (by simp) 1 _ rfl
      have t2 := hC m f.code[m] (by simp) 2 _ rfl
      have t3 := hC m f.code[m] (by simp) 3 _ rfl
      have t4 := hC m f.code[m] (by simp) 4 _ rfl
      have hat : f.at (m : Int) = f.code[m] := by unfold Fn.at; simp [hml]
      rw [hat] at hw
      generalize f.code[m] = x at *
      obtain ⟨op, xa, xb, xc, xn⟩ := x
      simp only [Nat.add_zero] at t0
      simp only at hw
      have hlc := J.lenC
      unfold Len at hlc
      have hfl1 : fb < w.heap.size + 1 := by omega
      have hfl2 : fb < w.heap.size + 1 + 1 := by omega
      have hcl1 : cb < w.heap.size + 1 := by omega
      have hcl2 : cb < w.heap.size + 1 + 1 := by omega
      have hcl3 : cb < w.heap.size + 1 + 1 + 1 := by omega
      rw [hfa]
      rw [hca] at s2
      have hrr := Lib.hid (show r = decide (op = 58 ∧ xa = c) by rw [hr.out, hw])
      clear hF hfa hfn hC hca hat hr hw hs hst hs2
      by_cases ho : op = 58
      · subst ho
        have hrv := Lib.hid (show r = (xa == c) by rw [hrr.out, Bool.eq_iff_iff]; simp)
        go_enter Tryd.func53, Tryd.ntmps53
        go_wp2
        repeat (go_quiet (fail); go_wp2)
        go_region
        all_goals go_wp2
        all_goals (repeat (go_quiet (fail); go_wp2))
        all_goals go_ret
        all_goals exact ⟨by first | rfl | (rw [hrv.out]; rfl), (by repeat (first | (with_reducible exact Below.refl _ _) | (with_reducible refine Below.drew ?_) | (with_reducible refine below_drewN ?_ _) | (with_reducible refine Below.alloc ?_ (by first | omega | (simp <;> omega)) _)))⟩
      · have hob : (op == 58) = false := by simpa using ho
        have hrv := Lib.hid (show r = false by rw [hrr.out]; simp [ho])
        clear ho
        go_enter Tryd.func53, Tryd.ntmps53
        go_wp2
        repeat (go_quiet (fail); go_wp2)
        go_region
        all_goals go_wp2
        all_goals (repeat (go_quiet (fail); go_wp2))
        all_goals go_ret
        all_goals exact ⟨by first | rfl | (rw [hrv.out]; rfl), (by repeat (first | (with_reducible exact Below.refl _ _) | (with_reducible refine Below.drew ?_) | (with_reducible refine below_drewN ?_ _) | (with_reducible refine Below.alloc ?_ (by first | omega | (simp <;> omega)) _)))⟩
    · have d3 : (q.status != 2) = true := by simpa using hs2
      have hrv := Lib.hid (show r = false by rw [hr.out, hw]; simp [hs2])
      clear hr hw hs hst hs2 hstand
      go_enter Tryd.func53, Tryd.ntmps53
      go_wp2
      repeat (go_quiet (fail); go_wp2)
      all_goals go_ret
      all_goals exact ⟨by first | rfl | (rw [hrv.out]; rfl), (by repeat (first | (with_reducible exact Below.refl _ _) | (with_reducible refine Below.drew ?_) | (with_reducible refine below_drewN ?_ _) | (with_reducible refine Below.alloc ?_ (by first | omega | (simp <;> omega)) _)))⟩
  · have hrv := Lib.hid (show r = false by rw [hr.out, hw, show decide (0 ≤ g ∧ g < s.count) = false by simpa using h1, Bool.false_and])
    generalize s.cs.toArray = st at *
    rcases (show g < 0 ∨ (0 ≤ g ∧ s.count ≤ g) by omega) with h2 | ⟨h2, h3⟩
    · have d1 : decide (g < 0) = true := by simpa using h2
      clear hr hw hs hst h1
      go_enter Tryd.func53, Tryd.ntmps53
      go_wp2
      repeat (go_quiet (fail); go_wp2)
      all_goals go_ret
      all_goals exact ⟨by first | rfl | (rw [hrv.out]; rfl), (by repeat (first | (with_reducible exact Below.refl _ _) | (with_reducible refine Below.drew ?_) | (with_reducible refine below_drewN ?_ _) | (with_reducible refine Below.alloc ?_ (by first | omega | (simp <;> omega)) _)))⟩
    · have d1 : decide (g < 0) = false := by simpa using h2
      have d2 : decide (s.count ≤ g) = true := by simpa using h3
      clear hr hw hs hst h1
      go_enter Tryd.func53, Tryd.ntmps53
      go_wp2
      repeat (go_quiet (fail); go_wp2)
      all_goals go_ret
      all_goals exact ⟨by first | rfl | (rw [hrv.out]; rfl), (by repeat (first | (with_reducible exact Below.refl _ _) | (with_reducible refine Below.drew ?_) | (with_reducible refine below_drewN ?_ _) | (with_reducible refine Below.alloc ?_ (by first | omega | (simp <;> omega)) _)))⟩
end Go.Proofs.YtbcdeanmjhcgeaaDoor.Pg
namespace Go.Proofs.YtbcdeanmjhcgeaaDoor.Pg
set_option linter.unusedVariables false
set_option linter.unusedSimpArgs false
open Go.ChangeShapes Go.WideShapes Go.RowKit
theorem eqp (a b c d e f g i : Value) (w : World) : ((part 2 #[a, b, c, d, e, f, g, i] 0).run Tryd.prog w = .ok a w ∧ (part 2 #[a, b, c, d, e, f, g, i] 1).run Tryd.prog w = .ok b w ∧ (part 2 #[a, b, c, d, e, f, g, i] 2).run Tryd.prog w = .ok c w ∧ (part 2 #[a, b, c, d, e, f, g, i] 3).run Tryd.prog w = .ok d w) ∧ (part 2 #[a, b, c, d, e, f, g, i] 4).run Tryd.prog w = .ok e w ∧ (part 2 #[a, b, c, d, e, f, g, i] 5).run Tryd.prog w = .ok f w ∧ (part 2 #[a, b, c, d, e, f, g, i] 6).run Tryd.prog w = .ok g w ∧ (part 2 #[a, b, c, d, e, f, g, i] 7).run Tryd.prog w = .ok i w :=
  ⟨⟨by kernel_rfl, by kernel_rfl, by kernel_rfl, by kernel_rfl⟩, by kernel_rfl, by kernel_rfl, by kernel_rfl, by kernel_rfl⟩
theorem eq8_run (n : Nat) (a b c d e f g i : Int) (w : World) : (Op.equalIn (n + 2) 22 (.agg #[.int .i64 a, .int .i64 b, .int .i64 c, .int .i64 d, .int .i64 e, .int .i64 f, .int .i64 g, .int .i64 i]) (.agg #[.int .i64 0, .int .i64 0, .int .i64 0, .int .i64 0, .int .i64 0, .int .i64 0, .int .i64 0, .int .i64 0])).run Tryd.prog w =
    .ok (decide (a = 0 ∧ b = 0 ∧ c = 0 ∧ d = 0 ∧ e = 0 ∧ f = 0 ∧ g = 0 ∧ i = 0)) w := by
  obtain ⟨j, hj⟩ := Option.isSome_iff_exists.1 info2
  rw [show n + 2 = (n + 1) + 1 from rfl, run_equalIn_array w (n + 1) _ _ Tryd.underlying22 hj, cells2, show List.range 8 = [0, 1, 2, 3, 4, 5, 6, 7] from rfl]
  have E := fun (a b : Int) (w : World) => run_equalIn_int (P := Tryd.prog) w n 2 .i64 .i64 a b Tryd.underlying2
  obtain ⟨⟨p0, p1, p2, p3⟩, p4, p5, p6, p7⟩ := eqp (.int .i64 a) (.int .i64 b) (.int .i64 c) (.int .i64 d) (.int .i64 e) (.int .i64 f) (.int .i64 g) (.int .i64 i) w
  obtain ⟨⟨z0, z1, z2, z3⟩, z4, z5, z6, z7⟩ := eqp (.int .i64 0) (.int .i64 0) (.int .i64 0) (.int .i64 0) (.int .i64 0) (.int .i64 0) (.int .i64 0) (.int .i64 0) w
  simp only [Op.eqItems, Sem.run_bind, Nat.reduceMul, p0, p1, p2, p3, p4, p5, p6, p7, z0, z1, z2, z3, z4, z5, z6, z7, Result.andThen_ok, E, Sem.run_ite, Sem.run_pure]
  by_cases h0 : a = 0 <;> by_cases h1 : b = 0 <;> by_cases h2 : c = 0 <;> by_cases h3 : d = 0 <;> by_cases h4 : e = 0 <;> by_cases h5 : f = 0 <;> by_cases h6 : g = 0 <;> by_cases h7 : i = 0 <;> simp [h0, h1, h2, h3, h4, h5, h6, h7]
theorem gr_default (gs gf gpc gw a b c d e f g i : Int) : decide ((⟨gs, gf, gpc, gw, [a, b, c, d, e, f, g, i]⟩ : Gr) = default) = decide (gs = 0 ∧ gf = 0 ∧ gpc = 0 ∧ gw = 0 ∧ a = 0 ∧ b = 0 ∧ c = 0 ∧ d = 0 ∧ e = 0 ∧ f = 0 ∧ g = 0 ∧ i = 0) := by
  rw [decide_eq_decide]
  constructor
  · intro h
    have h : (⟨gs, gf, gpc, gw, [a, b, c, d, e, f, g, i]⟩ : Gr) = ⟨0, 0, 0, 0, [0, 0, 0, 0, 0, 0, 0, 0]⟩ := h
    simpa using h
  · rintro ⟨rfl, rfl, rfl, rfl, rfl, rfl, rfl, rfl, rfl, rfl, rfl, rfl⟩
    rfl
end Go.Proofs.YtbcdeanmjhcgeaaDoor.Pg
namespace Go.Proofs.YtbcdeanmjhcgeaaDoor.Pg
set_option linter.unusedVariables false
set_option linter.unusedSimpArgs false
open Go.ChangeShapes Go.WideShapes Go.RowKit
theorem eqq (a b c d : Value) (w : World) : ((part 2 #[a, b, c, d] 0).run Tryd.prog w = .ok a w ∧ (part 2 #[a, b, c, d] 1).run Tryd.prog w = .ok b w) ∧ (part 2 #[a, b, c, d] 2).run Tryd.prog w = .ok c w ∧ (part 2 #[a, b, c, d] 3).run Tryd.prog w = .ok d w :=
  ⟨⟨by kernel_rfl, by kernel_rfl⟩, by kernel_rfl, by kernel_rfl⟩
theorem eq4_run (n : Nat) (a b c d : Int) (w : World) : (Op.equalIn (n + 2) 24 (.agg #[.int .i64 a, .int .i64 b, .int .i64 c, .int .i64 d]) (.agg #[.int .i64 0, .int .i64 0, .int .i64 0, .int .i64 0])).run Tryd.prog w =
    .ok (decide (a = 0 ∧ b = 0 ∧ c = 0 ∧ d = 0)) w := by
  obtain ⟨j, hj⟩ := Option.isSome_iff_exists.1 info2
  rw [show n + 2 = (n + 1) + 1 from rfl, run_equalIn_array w (n + 1) _ _ Tryd.underlying24 hj, cells2, show List.range 4 = [0, 1, 2, 3] from rfl]
  have E := fun (a b : Int) (w : World) => run_equalIn_int (P := Tryd.prog) w n 2 .i64 .i64 a b Tryd.underlying2
  obtain ⟨⟨p0, p1⟩, p2, p3⟩ := eqq (.int .i64 a) (.int .i64 b) (.int .i64 c) (.int .i64 d) w
  obtain ⟨⟨z0, z1⟩, z2, z3⟩ := eqq (.int .i64 0) (.int .i64 0) (.int .i64 0) (.int .i64 0) w
  simp only [Op.eqItems, Sem.run_bind, Nat.reduceMul, p0, p1, p2, p3, z0, z1, z2, z3, Result.andThen_ok, E, Sem.run_ite, Sem.run_pure]
  by_cases h0 : a = 0 <;> by_cases h1 : b = 0 <;> by_cases h2 : c = 0 <;> by_cases h3 : d = 0 <;> simp [h0, h1, h2, h3]
theorem ch_default (a b c d len : Int) (cl : Bool) (off frm val : Int) : decide ((⟨[a, b, c, d], len, cl, off, frm, val⟩ : Ch) = default) = decide (a = 0 ∧ b = 0 ∧ c = 0 ∧ d = 0 ∧ len = 0 ∧ cl = false ∧ off = 0 ∧ frm = 0 ∧ val = 0) := by
  rw [decide_eq_decide]
  constructor
  · intro h
    have h : (⟨[a, b, c, d], len, cl, off, frm, val⟩ : Ch) = ⟨[0, 0, 0, 0], 0, false, 0, 0, 0⟩ := h
    simp at h
    obtain ⟨⟨e0, e1, e2, e3⟩, e4, e5, e6, e7, e8⟩ := h
    exact ⟨e0, e1, e2, e3, e4, e5, e6, e7, e8⟩
  · rintro ⟨rfl, rfl, rfl, rfl, rfl, rfl, rfl, rfl, rfl⟩
    rfl
/-- Offers of a goroutine among the first channels. -/
def offs (s : St) (j g : Nat) : Nat := (s.chans.take j).countP fun c => decide (c.offer ≠ 0 ∧ c.frm = (g : Int))
theorem offs_zero (s : St) (g : Nat) : offs s 0 g = 0 := rfl
theorem offs_le (s : St) (j g : Nat) : offs s j g ≤ j := by
  unfold offs
  exact Nat.le_trans List.countP_le_length (List.length_take_le _ _)
theorem offs_all {s : St} (h : s.ok) (g : Nat) : offs s 4 g = offers s g := by
  unfold offs offers
  rw [List.take_of_length_le (by rw [h.lc]; omega)]
theorem offs_next {s : St} (h : s.ok) (j g : Nat) (hj : j < 4) : offs s (j + 1) g = offs s j g + if (s.chans.getD j default).offer ≠ 0 ∧ (s.chans.getD j default).frm = (g : Int) then 1 else 0 := by
  have hj' : j < s.chans.length := by rw [h.lc]; exact hj
  unfold offs
  rw [show s.chans.getD j default = s.chans[j] by simp [hj'], List.take_succ_eq_append_getElem hj', List.countP_append, List.countP_singleton]
  simp only [decide_eq_true_eq]
end Go.Proofs.YtbcdeanmjhcgeaaDoor.Pg
