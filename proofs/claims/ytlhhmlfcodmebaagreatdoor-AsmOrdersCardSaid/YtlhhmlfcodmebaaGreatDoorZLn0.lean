/- Line, plainly and walked, both sides. The conditions: the table and the variables as listed; the program in memory. -/
import Derived.Test.YtlhhmlfcodmebaaGreatDoorZIb
import Derived.Test.YtlhhmlfcodmebaaGreatDoorZd
import Derived.Test.YtlhhmlfcodmebaaGreatDoorZc
namespace Go.Proofs.YtlhhmlfcodmebaaGreatDoor.Pg
set_option linter.unusedVariables false
set_option linter.unusedSimpArgs false
open Go.RowKit Go.WideShapes Go.ChangeShapes
open Go.Proofs.YtlhhmlfcodmebaaGreatDoor.Wd (bt)
set_option linter.unusedVariables false
set_option linter.unusedSimpArgs false
/-- An instruction's place is one. -/
def atOk (P : Pg) (f pc : Int) : Prop := 0 ≤ f ∧ f < P.funcs.length ∧ 0 ≤ pc ∧ pc < (P.funcs.getD f.toNat default).code.length
instance (P : Pg) (f pc : Int) : Decidable (atOk P f pc) := by unfold atOk; infer_instance
/-- A line: the text, the error. -/
def lineT (P : Pg) (f pc : Int) : List UInt8 × Int :=
  if chk P ≠ 0 then ([], 3) else if atOk P f pc then (insT ((P.funcs.getD f.toNat default).code.getD pc.toNat default), 0) else ([], 1)
/-- What lies at a place. -/
structure At (P : Pg) (W : World) (f pc : Int) (b o : Nat) (cb co : Nat) (x : Ins) (F : Fn) : Prop where
  fa : P.fa = some ⟨b, o, none⟩
  blt : b < W.heap.size
  ca : F.ca = some ⟨cb, co, none⟩
  clt : cb < W.heap.size
  hf : P.funcs[f.toNat]? = some F
  hx : F.code[pc.toNat]? = some x
  c2 : W.cell? ⟨b, o + f.toNat * 4 + 2, none⟩ = some (.slice F.ca F.code.length F.ccap)
  cs : W.rangeAt cb (co + pc.toNat * 5) x.cs
theorem place_of {P : Pg} {W : World} (I : P.In W) {f pc : Int} (h : atOk P f pc) : ∃ b o cb co x F, At P W f pc b o cb co x F ∧ x = (P.funcs.getD f.toNat default).code.getD pc.toNat default ∧ F ∈ P.funcs ∧ x ∈ F.code := by
  obtain ⟨h1, h2, h3, h4⟩ := h
  have hl : f.toNat < P.funcs.length := by omega
  have e : P.funcs.getD f.toNat default = P.funcs[f.toNat] := by rw [List.getD_eq_getElem?_getD, List.getElem?_eq_getElem hl]; rfl
  rw [e] at h4 ⊢
  have hc : pc.toNat < P.funcs[f.toNat].code.length := by omega
  have e2 : P.funcs[f.toNat].code.getD pc.toNat default = P.funcs[f.toNat].code[pc.toNat] := by rw [List.getD_eq_getElem?_getD, List.getElem?_eq_getElem hc]; rfl
  obtain ⟨b, o, ha, hlt, hC⟩ := I.func (by omega)
  have FI := I.funcs _ (List.getElem_mem hl)
  obtain ⟨cb, co, hca, hclt, hD⟩ := FI.ins (by omega)
  have q1 := hC f.toNat _ (List.getElem?_eq_getElem hl)
  have q2 := hD pc.toNat _ (List.getElem?_eq_getElem hc)
  exact ⟨b, o, cb, co, P.funcs[f.toNat].code[pc.toNat], P.funcs[f.toNat], ⟨ha, hlt, hca, hclt, List.getElem?_eq_getElem hl, List.getElem?_eq_getElem hc, q1 2 _ rfl, q2⟩, e2.symm, List.getElem_mem _, List.getElem_mem _⟩
set_option maxHeartbeats 8000000 in
set_option maxRecDepth 100000 in
theorem aline_walk (P : Pg) (f pc : Int) (w : World) (hL : Wd.Lies w) (I : P.In w) (hf : I64 f) (hp : I64 pc) : Calls Tryz.prog 14 #[P.v, .int .i64 f, .int .i64 pc] w fun e w' => e = .returned (.tuple #[.string (bt (lineT P f pc).1), .int .i64 (lineT P f pc).2]) ∧ Below w.heap.size w w' := by
  have E0 := (Env.nil (w := w)).push w.heap.size rfl #[.slice P.va P.vars.length P.vcap, .int .i64 P.locks, .slice P.ha P.chans.length P.hcap, .slice P.fa P.funcs.length P.fcap] 26
  have hlf := I.lenF
  unfold Len at hlf
  obtain ⟨hf0, hf1⟩ := hf
  obtain ⟨hp0, hp1⟩ := hp
  have cK := Lib.hid (fun W (hb : Below w.heap.size w W) => check_walk P W (I.below hb))
  by_cases hc : chk P = 0
  rotate_left
  · have hr : lineT P f pc = ([], 3) := by unfold lineT; rw [if_pos hc]
    rw [hr]
    have hc' : (chk P == 0) = false := beq_eq_false_iff_ne.2 hc
    generalize chk P = n at *
    unfold Pg.v at *
    go_enter Tryz.func14, Tryz.ntmps14
    go_wp2_with ((go_at_call 26; ((with_reducible refine (cK.out _ E0.acc).mono ?_); rintro e w' ⟨⟨v, rfl, av, bv, rfl⟩, hb1⟩; have E1 := E0.next hb1; have y1 := fun O => (E1.skip O).h0.cell)))
    go_ret2
    exact ⟨rfl, (by repeat (first | (with_reducible exact E1.acc) | (with_reducible refine Below.drew ?_) | (with_reducible refine below_drewN ?_ _) | (with_reducible refine Below.alloc ?_ (by have := E1.acc.size; first | omega | (simp; omega)) _)))⟩
  rw [hc] at cK
  have hno : ¬ atOk P f pc → lineT P f pc = ([], 1) := fun h => by unfold lineT; rw [if_neg (by rw [hc]; decide), if_neg h]
  have hyes : atOk P f pc → lineT P f pc = (insT ((P.funcs.getD f.toNat default).code.getD pc.toNat default), 0) := fun h => by unfold lineT; rw [if_neg (by rw [hc]; decide), if_pos h]
  by_cases h1 : f < 0
  · rw [hno (fun h => by have := h.1; have := h.2.1; have := h.2.2.1; omega)]
    have d1 : decide (f < 0) = true := decide_eq_true h1
    clear hno hyes
    unfold Pg.v at *
    go_enter Tryz.func14, Tryz.ntmps14
    go_wp2_with ((go_at_call 26; ((with_reducible refine (cK.out _ E0.acc).mono ?_); rintro e w' ⟨⟨v, rfl, av, bv, rfl⟩, hb1⟩; have E1 := E0.next hb1; have y1 := fun O => (E1.skip O).h0.cell)))
    all_goals (repeat (go_quiet (fail); go_wp2))
    all_goals go_ret2
    all_goals exact ⟨rfl, (by repeat (first | (with_reducible exact E1.acc) | (with_reducible refine Below.drew ?_) | (with_reducible refine below_drewN ?_ _) | (with_reducible refine Below.alloc ?_ (by have := E1.acc.size; first | omega | (simp; omega)) _)))⟩
  by_cases h2 : (P.funcs.length : Int) ≤ f
  · rw [hno (fun h => by have := h.1; have := h.2.1; have := h.2.2.1; omega)]
    have d1 : decide (f < 0) = false := decide_eq_false h1
    have d2 : decide ((P.funcs.length : Int) ≤ f) = true := decide_eq_true h2
    clear hno hyes
    unfold Pg.v at *
    go_enter Tryz.func14, Tryz.ntmps14
    go_wp2_with ((go_at_call 26; ((with_reducible refine (cK.out _ E0.acc).mono ?_); rintro e w' ⟨⟨v, rfl, av, bv, rfl⟩, hb1⟩; have E1 := E0.next hb1; have y1 := fun O => (E1.skip O).h0.cell)))
    all_goals (repeat (go_quiet (fail); go_wp2))
    all_goals go_ret2
    all_goals exact ⟨rfl, (by repeat (first | (with_reducible exact E1.acc) | (with_reducible refine Below.drew ?_) | (with_reducible refine below_drewN ?_ _) | (with_reducible refine Below.alloc ?_ (by have := E1.acc.size; first | omega | (simp; omega)) _)))⟩
  by_cases h3 : pc < 0
  · rw [hno (fun h => by have := h.1; have := h.2.1; have := h.2.2.1; omega)]
    have d1 : decide (f < 0) = false := decide_eq_false h1
    have d2 : decide ((P.funcs.length : Int) ≤ f) = false := decide_eq_false h2
    have d3 : decide (pc < 0) = true := decide_eq_true h3
    clear hno hyes
    unfold Pg.v at *
    go_enter Tryz.func14, Tryz.ntmps14
    go_wp2_with ((go_at_call 26; ((with_reducible refine (cK.out _ E0.acc).mono ?_); rintro e w' ⟨⟨v, rfl, av, bv, rfl⟩, hb1⟩; have E1 := E0.next hb1; have y1 := fun O => (E1.skip O).h0.cell)))
    all_goals (repeat (go_quiet (fail); go_wp2))
    all_goals go_ret2
    all_goals exact ⟨rfl, (by repeat (first | (with_reducible exact E1.acc) | (with_reducible refine Below.drew ?_) | (with_reducible refine below_drewN ?_ _) | (with_reducible refine Below.alloc ?_ (by have := E1.acc.size; first | omega | (simp; omega)) _)))⟩
  have hl : f.toNat < P.funcs.length := by omega
  have ef : P.funcs.getD f.toNat default = P.funcs[f.toNat] := by rw [List.getD_eq_getElem?_getD, List.getElem?_eq_getElem hl]; rfl
  obtain ⟨b, o, ha, hlt, hC⟩ := I.func (by omega)
  have q2 := hC f.toNat _ (List.getElem?_eq_getElem hl) 2 _ rfl
  have FI := I.funcs _ (List.getElem_mem hl)
  have hlc := FI.lenC
  unfold Len at hlc
  unfold atOk at hno hyes
  rw [ef] at hno hyes
  have hcl : ∀ W, Below w.heap.size w W → W.cell? ⟨b, o + f.toNat * 4 + 2, none⟩ = some (.slice P.funcs[f.toNat].ca P.funcs[f.toNat].code.length P.funcs[f.toNat].ccap) := fun W hb => by rw [hb.cell (by simpa using hlt)]; exact q2
  by_cases h4 : (P.funcs[f.toNat].code.length : Int) ≤ pc
  · rw [hno (fun h => by have := h.2.2.2; omega)]
    clear hno hyes FI hC q2 ef I
    generalize P.funcs[f.toNat] = F at *
    have d1 : decide (f < 0) = false := decide_eq_false h1
    have d2 : decide ((P.funcs.length : Int) ≤ f) = false := decide_eq_false h2
    have d3 : decide (pc < 0) = false := decide_eq_false h3
    have d4 : decide ((F.code.length : Int) ≤ pc) = true := decide_eq_true h4
    replace hcl := Lib.hid hcl
    unfold Pg.v at *
    rw [ha] at cK E0
    rw [ha]
    go_enter Tryz.func14, Tryz.ntmps14
    go_wp2_with ((go_at_call 26; ((with_reducible refine (cK.out _ E0.acc).mono ?_); rintro e w' ⟨⟨v, rfl, av, bv, rfl⟩, hb1⟩; have E1 := E0.next hb1; have y1 := fun O => (E1.skip O).h0.cell; have c2 := fun O => hcl.out _ (E1.skip O).acc)))
    all_goals (repeat (go_quiet (fail); go_wp2))
    all_goals go_ret2
    all_goals exact ⟨rfl, (by repeat (first | (with_reducible exact E1.acc) | (with_reducible refine Below.drew ?_) | (with_reducible refine below_drewN ?_ _) | (with_reducible refine Below.alloc ?_ (by have := E1.acc.size; first | omega | (simp; omega)) _)))⟩
  · have hxl : pc.toNat < P.funcs[f.toNat].code.length := by omega
    have ex : P.funcs[f.toNat].code.getD pc.toNat default = P.funcs[f.toNat].code[pc.toNat] := by rw [List.getD_eq_getElem?_getD, List.getElem?_eq_getElem hxl]; rfl
    rw [hyes ⟨by omega, by omega, by omega, by omega⟩, ex]
    obtain ⟨cb, co, hca, hclt, hD⟩ := FI.ins (by omega)
    have hv := hD pc.toNat _ (List.getElem?_eq_getElem hxl)
    have hok := ((pg_ok hc I.ints).funcs _ (List.getElem_mem hl)).code _ (List.getElem_mem hxl)
    have xok := FI.oks _ (List.getElem_mem hxl)
    clear hno hyes FI hC q2 ef I ex hD
    generalize P.funcs[f.toNat].code[pc.toNat] = x at *
    generalize P.funcs[f.toNat] = F at *
    have d1 : decide (f < 0) = false := decide_eq_false h1
    have d2 : decide ((P.funcs.length : Int) ≤ f) = false := decide_eq_false h2
    have d3 : decide (pc < 0) = false := decide_eq_false h3
    have d4 : decide ((F.code.length : Int) ≤ pc) = false := decide_eq_false h4
    have hin : ∀ W, Below w.heap.size w W → ∀ j v, x.cs[j]? = some v → W.cell? ⟨cb, co + pc.toNat * 5 + j, none⟩ = some v := fun W hb j v hj => by rw [hb.cell (by simpa using hclt)]; exact hv j v hj
    rw [hca] at hcl
    have cI := Lib.hid (fun W (hb : Below w.heap.size w W) => itext_walk x W (hL.below hb) xok hok)
    replace hcl := Lib.hid hcl
    replace hin := Lib.hid hin
    clear hv
    unfold Pg.v Ins.v at *
    rw [ha] at cK E0
    rw [ha]
    go_enter Tryz.func14, Tryz.ntmps14
    go_wp2_with ((go_at_call 26; ((with_reducible refine (cK.out _ E0.acc).mono ?_); rintro e w' ⟨⟨v, rfl, av, bv, rfl⟩, hb1⟩; have E1 := E0.next hb1; have y1 := fun O => (E1.skip O).h0.cell; have c2 := fun O => hcl.out _ (E1.skip O).acc; have x0 := fun O => hin.out _ (E1.skip O).acc 0 _ rfl; have x1 := fun O => hin.out _ (E1.skip O).acc 1 _ rfl; have x2 := fun O => hin.out _ (E1.skip O).acc 2 _ rfl; have x3 := fun O => hin.out _ (E1.skip O).acc 3 _ rfl; have x4 := fun O => hin.out _ (E1.skip O).acc 4 _ rfl; simp only [Nat.add_zero] at x0)))
    have hbI : Below w.heap.size w _ := (E1.skip (.cells #[.int .i64 av, .int .i64 bv] 69)).acc
    refine (cI.out _ hbI).mono ?_
    rintro r6 w6 ⟨rfl, b6⟩
    go_wp2_with (fail)
    go_ret2
    exact ⟨rfl, hbI.trans (b6.mono hbI.size)⟩
set_option maxHeartbeats 8000000 in
set_option maxRecDepth 100000 in
theorem rline_walk (P : Pg) (f pc : Int) (w : World) (hL : Wd.Lies w) (I : P.In w) (hf : I64 f) (hp : I64 pc) : Calls Tryz.prog 15 #[P.v, .int .i64 f, .int .i64 pc] w fun e w' => e = .returned (.tuple #[.string (bt (lineT P f pc).1), .int .i64 (lineT P f pc).2]) ∧ Below w.heap.size w w' := by
  have E0 := (Env.nil (w := w)).push w.heap.size rfl #[.slice P.va P.vars.length P.vcap, .int .i64 P.locks, .slice P.ha P.chans.length P.hcap, .slice P.fa P.funcs.length P.fcap] 26
  have hlf := I.lenF
  unfold Len at hlf
  obtain ⟨hf0, hf1⟩ := hf
  obtain ⟨hp0, hp1⟩ := hp
  have cK := Lib.hid (fun W (hb : Below w.heap.size w W) => rright_walk P W (I.below hb))
  by_cases hc : chk P = 0
  rotate_left
  · have hr : lineT P f pc = ([], 3) := by unfold lineT; rw [if_pos hc]
    rw [hr]
    have hrt : right P = false := beq_eq_false_iff_ne.2 hc
    rw [hrt] at cK
    clear hrt
    unfold Pg.v at *
    go_enter Tryz.func15, Tryz.ntmps15
    go_wp2_with ((go_at_call 16; ((with_reducible refine (cK.out _ E0.acc).mono ?_); rintro e w' ⟨rfl, hb1⟩; have E1 := E0.next hb1; have y1 := E1.h0.cell)))
    go_ret2
    exact ⟨rfl, (by repeat (first | (with_reducible exact E1.acc) | (with_reducible refine Below.drew ?_) | (with_reducible refine below_drewN ?_ _) | (with_reducible refine Below.alloc ?_ (by have := E1.acc.size; first | omega | (simp; omega)) _)))⟩
  have hrt : right P = true := by unfold right; rw [hc]; rfl
  rw [hrt] at cK
  clear hrt
  have hno : ¬ atOk P f pc → lineT P f pc = ([], 1) := fun h => by unfold lineT; rw [if_neg (by rw [hc]; decide), if_neg h]
  have hyes : atOk P f pc → lineT P f pc = (insT ((P.funcs.getD f.toNat default).code.getD pc.toNat default), 0) := fun h => by unfold lineT; rw [if_neg (by rw [hc]; decide), if_pos h]
  by_cases h1 : f < 0
  · rw [hno (fun h => by have := h.1; have := h.2.1; have := h.2.2.1; omega)]
    have d1 : decide (f < 0) = true := decide_eq_true h1
    clear hno hyes
    unfold Pg.v at *
    go_enter Tryz.func15, Tryz.ntmps15
    go_wp2_with ((go_at_call 16; ((with_reducible refine (cK.out _ E0.acc).mono ?_); rintro e w' ⟨rfl, hb1⟩; have E1 := E0.next hb1; have y1 := E1.h0.cell)))
    all_goals (repeat (go_quiet (fail); go_wp2))
    all_goals go_ret2
    all_goals exact ⟨rfl, (by repeat (first | (with_reducible exact E1.acc) | (with_reducible refine Below.drew ?_) | (with_reducible refine below_drewN ?_ _) | (with_reducible refine Below.alloc ?_ (by have := E1.acc.size; first | omega | (simp; omega)) _)))⟩
  by_cases h2 : (P.funcs.length : Int) ≤ f
  · rw [hno (fun h => by have := h.1; have := h.2.1; have := h.2.2.1; omega)]
    have d1 : decide (f < 0) = false := decide_eq_false h1
    have d2 : decide ((P.funcs.length : Int) ≤ f) = true := decide_eq_true h2
    clear hno hyes
    unfold Pg.v at *
    go_enter Tryz.func15, Tryz.ntmps15
    go_wp2_with ((go_at_call 16; ((with_reducible refine (cK.out _ E0.acc).mono ?_); rintro e w' ⟨rfl, hb1⟩; have E1 := E0.next hb1; have y1 := E1.h0.cell)))
    all_goals (repeat (go_quiet (fail); go_wp2))
    all_goals go_ret2
    all_goals exact ⟨rfl, (by repeat (first | (with_reducible exact E1.acc) | (with_reducible refine Below.drew ?_) | (with_reducible refine below_drewN ?_ _) | (with_reducible refine Below.alloc ?_ (by have := E1.acc.size; first | omega | (simp; omega)) _)))⟩
  by_cases h3 : pc < 0
  · rw [hno (fun h => by have := h.1; have := h.2.1; have := h.2.2.1; omega)]
    have d1 : decide (f < 0) = false := decide_eq_false h1
    have d2 : decide ((P.funcs.length : Int) ≤ f) = false := decide_eq_false h2
    have d3 : decide (pc < 0) = true := decide_eq_true h3
    clear hno hyes
    unfold Pg.v at *
    go_enter Tryz.func15, Tryz.ntmps15
    go_wp2_with ((go_at_call 16; ((with_reducible refine (cK.out _ E0.acc).mono ?_); rintro e w' ⟨rfl, hb1⟩; have E1 := E0.next hb1; have y1 := E1.h0.cell)))
    all_goals (repeat (go_quiet (fail); go_wp2))
    all_goals go_ret2
    all_goals exact ⟨rfl, (by repeat (first | (with_reducible exact E1.acc) | (with_reducible refine Below.drew ?_) | (with_reducible refine below_drewN ?_ _) | (with_reducible refine Below.alloc ?_ (by have := E1.acc.size; first | omega | (simp; omega)) _)))⟩
  have hl : f.toNat < P.funcs.length := by omega
  have ef : P.funcs.getD f.toNat default = P.funcs[f.toNat] := by rw [List.getD_eq_getElem?_getD, List.getElem?_eq_getElem hl]; rfl
  obtain ⟨b, o, ha, hlt, hC⟩ := I.func (by omega)
  have q2 := hC f.toNat _ (List.getElem?_eq_getElem hl) 2 _ rfl
  have FI := I.funcs _ (List.getElem_mem hl)
  have hlc := FI.lenC
  unfold Len at hlc
  unfold atOk at hno hyes
  rw [ef] at hno hyes
  have hcl : ∀ W, Below w.heap.size w W → W.cell? ⟨b, o + f.toNat * 4 + 2, none⟩ = some (.slice P.funcs[f.toNat].ca P.funcs[f.toNat].code.length P.funcs[f.toNat].ccap) := fun W hb => by rw [hb.cell (by simpa using hlt)]; exact q2
  by_cases h4 : (P.funcs[f.toNat].code.length : Int) ≤ pc
  · rw [hno (fun h => by have := h.2.2.2; omega)]
    clear hno hyes FI hC q2 ef I
    generalize P.funcs[f.toNat] = F at *
    have d1 : decide (f < 0) = false := decide_eq_false h1
    have d2 : decide ((P.funcs.length : Int) ≤ f) = false := decide_eq_false h2
    have d3 : decide (pc < 0) = false := decide_eq_false h3
    have d4 : decide ((F.code.length : Int) ≤ pc) = true := decide_eq_true h4
    replace hcl := Lib.hid hcl
    unfold Pg.v at *
    rw [ha] at cK E0
    rw [ha]
    go_enter Tryz.func15, Tryz.ntmps15
    go_wp2_with ((go_at_call 16; ((with_reducible refine (cK.out _ E0.acc).mono ?_); rintro e w' ⟨rfl, hb1⟩; have E1 := E0.next hb1; have y1 := E1.h0.cell; have c2 := hcl.out _ E1.acc)))
    all_goals (repeat (go_quiet (fail); go_wp2))
    all_goals go_ret2
    all_goals exact ⟨rfl, (by repeat (first | (with_reducible exact E1.acc) | (with_reducible refine Below.drew ?_) | (with_reducible refine below_drewN ?_ _) | (with_reducible refine Below.alloc ?_ (by have := E1.acc.size; first | omega | (simp; omega)) _)))⟩
  · have hxl : pc.toNat < P.funcs[f.toNat].code.length := by omega
    have ex : P.funcs[f.toNat].code.getD pc.toNat default = P.funcs[f.toNat].code[pc.toNat] := by rw [List.getD_eq_getElem?_getD, List.getElem?_eq_getElem hxl]; rfl
    rw [hyes ⟨by omega, by omega, by omega, by omega⟩, ex]
    obtain ⟨cb, co, hca, hclt, hD⟩ := FI.ins (by omega)
    have hv := hD pc.toNat _ (List.getElem?_eq_getElem hxl)
    have hok := ((pg_ok hc I.ints).funcs _ (List.getElem_mem hl)).code _ (List.getElem_mem hxl)
    have xok := FI.oks _ (List.getElem_mem hxl)
    clear hno hyes FI hC q2 ef I ex hD
    generalize P.funcs[f.toNat].code[pc.toNat] = x at *
    generalize P.funcs[f.toNat] = F at *
    have d1 : decide (f < 0) = false := decide_eq_false h1
    have d2 : decide ((P.funcs.length : Int) ≤ f) = false := decide_eq_false h2
    have d3 : decide (pc < 0) = false := decide_eq_false h3
    have d4 : decide ((F.code.length : Int) ≤ pc) = false := decide_eq_false h4
    have hin : ∀ W, Below w.heap.size w W → ∀ j v, x.cs[j]? = some v → W.cell? ⟨cb, co + pc.toNat * 5 + j, none⟩ = some v := fun W hb j v hj => by rw [hb.cell (by simpa using hclt)]; exact hv j v hj
    rw [hca] at hcl
    have cI := Lib.hid (fun W (hb : Below w.heap.size w W) => ritext_walk x W (hL.below hb) xok hok)
    replace hcl := Lib.hid hcl
    replace hin := Lib.hid hin
    clear hv
    unfold Pg.v Ins.v at *
    rw [ha] at cK E0
    rw [ha]
    go_enter Tryz.func15, Tryz.ntmps15
    go_wp2_with ((go_at_call 16; ((with_reducible refine (cK.out _ E0.acc).mono ?_); rintro e w' ⟨rfl, hb1⟩; have E1 := E0.next hb1; have y1 := E1.h0.cell; have c2 := hcl.out _ E1.acc; have x0 := hin.out _ E1.acc 0 _ rfl; have x1 := hin.out _ E1.acc 1 _ rfl; have x2 := hin.out _ E1.acc 2 _ rfl; have x3 := hin.out _ E1.acc 3 _ rfl; have x4 := hin.out _ E1.acc 4 _ rfl; simp only [Nat.add_zero] at x0)))
    have hbI := E1.acc
    refine (cI.out _ hbI).mono ?_
    rintro r6 w6 ⟨rfl, b6⟩
    go_wp2_with (fail)
    go_ret2
    exact ⟨rfl, hbI.trans (b6.mono hbI.size)⟩
end Go.Proofs.YtlhhmlfcodmebaaGreatDoor.Pg
