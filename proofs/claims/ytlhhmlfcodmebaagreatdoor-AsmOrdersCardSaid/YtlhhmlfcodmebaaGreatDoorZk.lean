/- Several texts of one proof, one behind the other. May a line stand there; the last function; choose: walked. The condition: the reader in memory. | A case's line, walked. The condition: the reader in memory. -/
import Derived.Test.YtlhhmlfcodmebaaGreatDoorZVd
namespace Go.Proofs.YtlhhmlfcodmebaaGreatDoor.Pg
set_option linter.unusedVariables false
set_option linter.unusedSimpArgs false
open Go.RowKit Go.WideShapes Go.ChangeShapes
open Go.Proofs.YtlhhmlfcodmebaaGreatDoor.Wd (sml_walk nmb_walk ltr_walk num)
set_option linter.unusedVariables false
set_option linter.unusedSimpArgs false
set_option maxHeartbeats 8000000 in
set_option maxRecDepth 100000 in
theorem may0_walk (w0 : World) (n0 r N : Nat) (p : Pg) (a : Int) (W : World) (R : Rd w0 n0 r N p a W) :
    Calls Tryz.prog 79 #[.pointer (some ⟨r, 0, none⟩)] W fun e w' => e = .returned (.bool (decide (a = 0))) ∧ Below W.heap.size W w' := by
  have c4 : W.cell? ⟨r, 4, none⟩ = some (.int .i64 a) := R.cell 4
  by_cases h : a = 0
  · rw [decide_eq_true h]
    subst h
    go_enter Tryz.func79, Tryz.ntmps79
    go_wp2
    go_ret
    exact ⟨rfl, Below.refl _ _⟩
  · rw [decide_eq_false h]
    have h' : (a == 0) = false := beq_eq_false_iff_ne.2 h
    go_enter Tryz.func79, Tryz.ntmps79
    go_wp2
    go_ret
    exact ⟨by first | rfl | rw [h'], Below.refl _ _⟩
set_option maxHeartbeats 8000000 in
set_option maxRecDepth 100000 in
theorem may1_walk (w0 : World) (n0 r N : Nat) (p : Pg) (a : Int) (W : World) (R : Rd w0 n0 r N p a W) :
    Calls Tryz.prog 84 #[.pointer (some ⟨r, 0, none⟩)] W fun e w' => e = .returned (.bool (decide (0 < a))) ∧ Below W.heap.size W w' := by
  have c4 : W.cell? ⟨r, 4, none⟩ = some (.int .i64 a) := R.cell 4
  go_enter Tryz.func84, Tryz.ntmps84
  go_wp2
  go_ret
  exact ⟨rfl, Below.refl _ _⟩
set_option maxHeartbeats 8000000 in
set_option maxRecDepth 100000 in
theorem may4_walk (w0 : World) (n0 r N : Nat) (p : Pg) (a : Int) (W : World) (R : Rd w0 n0 r N p a W) :
    Calls Tryz.prog 86 #[.pointer (some ⟨r, 0, none⟩)] W fun e w' => e = .returned (.bool (decide (a = 4))) ∧ Below W.heap.size W w' := by
  have c4 : W.cell? ⟨r, 4, none⟩ = some (.int .i64 a) := R.cell 4
  by_cases h : a = 4
  · rw [decide_eq_true h]
    subst h
    go_enter Tryz.func86, Tryz.ntmps86
    go_wp2
    go_ret
    exact ⟨rfl, Below.refl _ _⟩
  · rw [decide_eq_false h]
    have h' : (a == 4) = false := beq_eq_false_iff_ne.2 h
    go_enter Tryz.func86, Tryz.ntmps86
    go_wp2
    go_ret
    exact ⟨by first | rfl | rw [h'], Below.refl _ _⟩
set_option maxHeartbeats 8000000 in
set_option maxRecDepth 100000 in
theorem mayTo_walk (w0 : World) (n0 r N b : Nat) (n : Int) (p : Pg) (a : Int) (W : World) (R : Rd w0 n0 r N p a W) (hb : W.cell? ⟨b, 0, none⟩ = some (.int .i64 n)) :
    Calls Tryz.prog 78 #[.pointer (some ⟨r, 0, none⟩), .pointer (some ⟨b, 0, none⟩)] W fun e w' => e = .returned (.bool (decide (0 < a ∧ a ≤ n))) ∧ Below W.heap.size W w' := by
  have c4 : W.cell? ⟨r, 4, none⟩ = some (.int .i64 a) := R.cell 4
  by_cases h : 0 < a
  · by_cases h2 : a ≤ n
    · rw [decide_eq_true ⟨h, h2⟩]
      have hd : decide (0 < a) = true := decide_eq_true h
      have hd2 : decide (a ≤ n) = true := decide_eq_true h2
      go_enter Tryz.func78, Tryz.ntmps78
      go_wp2
      repeat (go_quiet (fail); go_wp2)
      go_ret
      exact ⟨by first | rfl | rw [hd2] | rw [hd, hd2], (by repeat (first | (with_reducible exact Below.refl _ _) | (with_reducible refine Below.drew ?_) | (with_reducible refine below_drewN ?_ _) | (with_reducible refine Below.alloc ?_ (by first | omega | (simp <;> omega)) _)))⟩
    · rw [decide_eq_false (fun q => h2 q.2)]
      have hd : decide (0 < a) = true := decide_eq_true h
      have hd2 : decide (a ≤ n) = false := decide_eq_false h2
      go_enter Tryz.func78, Tryz.ntmps78
      go_wp2
      repeat (go_quiet (fail); go_wp2)
      go_ret
      exact ⟨by first | rfl | rw [hd2] | rw [hd, hd2], (by repeat (first | (with_reducible exact Below.refl _ _) | (with_reducible refine Below.drew ?_) | (with_reducible refine below_drewN ?_ _) | (with_reducible refine Below.alloc ?_ (by first | omega | (simp <;> omega)) _)))⟩
  · rw [decide_eq_false (fun q => h q.1)]
    have hd : decide (0 < a) = false := decide_eq_false h
    go_enter Tryz.func78, Tryz.ntmps78
    go_wp2
    repeat (go_quiet (fail); go_wp2)
    go_ret
    exact ⟨by first | rfl | rw [hd], (by repeat (first | (with_reducible exact Below.refl _ _) | (with_reducible refine Below.drew ?_) | (with_reducible refine below_drewN ?_ _) | (with_reducible refine Below.alloc ?_ (by first | omega | (simp <;> omega)) _)))⟩
/-- Where the last function lies. -/
structure Lst (W : World) (n0 : Nat) (p : Pg) (fs : List Fn) (f : Fn) (b : Nat) : Prop where
  fa : p.fa = some ⟨b, 0, none⟩
  ge : n0 ≤ b
  lt : b < W.heap.size
  c2 : W.cell? ⟨b, fs.length * 4 + 2, none⟩ = some (.slice f.ca f.code.length f.ccap)
  c3 : W.cell? ⟨b, fs.length * 4 + 3, none⟩ = some (.slice f.sa f.sels.length f.scap)
  fr : ∀ o, W.frozen? ⟨b, o, none⟩ = false
theorem Rd.last {w0 W : World} {n0 r N : Nat} {p : Pg} {a : Int} (R : Rd w0 n0 r N p a W) (fs : List Fn) (f : Fn) (hp : p.funcs = fs ++ [f]) : ∃ b, Lst W n0 p fs f b := by
  obtain ⟨b, h1, h2, h3, h4, h5⟩ := func_block R (by rw [hp]; simp)
  have hf := h4 fs.length f (by rw [hp]; simp)
  exact ⟨b, h1, h2, h3, hf 2 _ rfl, hf 3 _ rfl, h5⟩
theorem Lst.below {W W' : World} {n0 : Nat} {p : Pg} {fs : List Fn} {f : Fn} {b : Nat} (h : Lst W n0 p fs f b) (hb : Below W.heap.size W W') : Lst W' n0 p fs f b :=
  ⟨h.fa, h.ge, Nat.lt_of_lt_of_le h.lt hb.size, by rw [hb.cell (by simpa using h.lt)]; exact h.c2, by rw [hb.cell (by simpa using h.lt)]; exact h.c3, fun o => by rw [hb.frozen (by simpa using h.lt)]; exact h.fr o⟩
set_option maxHeartbeats 8000000 in
set_option maxRecDepth 100000 in
theorem last_quiet (w0 : World) (n0 r N b : Nat) (p : Pg) (a : Int) (W : World) (R : Rd w0 n0 r N p a W) (fs : List Fn) (f : Fn) (hp : p.funcs = fs ++ [f]) (hb : p.fa = some ⟨b, 0, none⟩) (hN : N ≤ 1000000) :
    Calls Tryz.prog 94 #[.pointer (some ⟨r, 0, none⟩)] W fun e w' => e = .returned (.pointer (some ⟨b, fs.length * 4, none⟩)) ∧ ∃ m, w' = W.drewN m := by
  have c3 : W.cell? ⟨r, 3, none⟩ = some (.slice (some ⟨b, 0, none⟩) (fs.length + 1) p.fcap) := by
    have := R.cell 3
    rw [hb, hp, List.length_append] at this
    exact this
  have hl := R.few.lenF
  rw [hp, List.length_append, List.length_singleton] at hl
  go_enter Tryz.func94, Tryz.ntmps94
  go_wp2
  repeat (go_quiet (fail); go_wp2)
  go_ret
  exact ⟨rfl, _, rfl⟩
theorem last_walk (w0 : World) (n0 r N b : Nat) (p : Pg) (a : Int) (W : World) (R : Rd w0 n0 r N p a W) (fs : List Fn) (f : Fn) (hp : p.funcs = fs ++ [f]) (hb : p.fa = some ⟨b, 0, none⟩) (hN : N ≤ 1000000) :
    Calls Tryz.prog 94 #[.pointer (some ⟨r, 0, none⟩)] W fun e w' => e = .returned (.pointer (some ⟨b, fs.length * 4, none⟩)) ∧ Below W.heap.size W w' :=
  (last_quiet w0 n0 r N b p a W R fs f hp hb hN).mono fun e w' ⟨h, m, hm⟩ => ⟨h, by rw [hm]; exact below_drewN (Below.refl _ _) _⟩
theorem Rd.drewN {w0 W : World} {n0 r N : Nat} {p : Pg} {a : Int} (R : Rd w0 n0 r N p a W) (k : Nat) : Rd w0 n0 r N p a (W.drewN k) := R.below (below_drewN (Below.refl _ _) _)
/-- What a line's doing comes to. -/
structure Does (w0 : World) (n0 r N : Nat) (W : World) (err : Int) (q : Pg) (a : Int) (e : Ending) (w' : World) : Prop where
  out : e = .returned (.int .i64 err)
  frm : Frm n0 r W w'
  ok : err = 0 → ∃ p', p'.bare = q ∧ Rd w0 n0 r (N + 1) p' a w'
set_option maxHeartbeats 8000000 in
set_option maxRecDepth 100000 in
theorem choose_walk (w0 : World) (n0 r N g cap : Nat) (p : Pg) (a : Int) (W : World) (x0 x1 : ByteArray) (R : Rd w0 n0 r N p a W) (fs : List Fn) (f : Fn) (hp : p.funcs = fs ++ [f]) (hw : Ws n0 r g [x0, x1] W) (h1 : x1.size ≤ 281474976710656) (hc : 2 ≤ cap) (hN : N ≤ 1000000) :
    Calls Tryz.prog 87 #[.pointer (some ⟨r, 0, none⟩), .slice (some ⟨g, 0, none⟩) 2 cap] W fun e w' => e = .returned (.int .i64 (ltr x1.data.toList 64 true).2) ∧ Frm n0 r W w' ∧
      ∃ p', p'.bare = taken p.bare 7 0 [(ltr x1.data.toList 64 true).1] ∧ Rd w0 n0 r (N + 1) p' a w' := by
  obtain ⟨b, hL⟩ := R.last fs f hp
  have w1 := hw.cell 1 _ rfl
  have cS := Lib.hid (fun W hL => ltr_walk x1 64 true W hL h1)
  have cL := Lib.hid (fun W R => last_walk w0 n0 r N b p a W R fs f hp hL.fa hN)
  have hn : I64 (ltr x1.data.toList 64 true).1 := ltr_64 _ _ _
  have hlf := (R.few.funcs f (by rw [hp]; simp)).lenS
  generalize ltr x1.data.toList 64 true = y at *
  obtain ⟨n, e⟩ := y
  go_enter Tryz.func87, Tryz.ntmps87
  go_wp2_with (first
    | (go_at_call 115; ((with_reducible refine (cS.out _ R.lie).mono ?_); rintro e W2 ⟨rfl, b2⟩; have R2 := R.below b2; have f2 := Frm.below (r := r) R.hi b2))
    | (go_at_call 94; ((with_reducible refine (cL.out _ R2).mono ?_); rintro e W3 ⟨rfl, b3⟩; have R3 := R2.below b3; have f3 := f2.trans (Frm.below R2.hi b3); have L3 := (hL.below b2).below b3; have d3 := L3.c3; have z3 := L3.fr))
    | (at_builtin; refine wpList_app (R3.rows.perm ((rows_last p fs f hp).trans ((List.Perm.cons _ (List.Perm.swap _ _ _)).trans (List.Perm.swap _ _ _)))) R3.hi rfl _ _ _ rfl (Sel.mk none 0 [] n).cs 93 rfl (.agg #[.slice none 0 0, .int .i64 0]) 32 Tryz.underlying43 info_sel rfl (Nat.succ_pos _) rfl rfl rfl (by simp [Vr.cs, Fn.cs, Sel.cs, Cas.cs, Ins.cs, Fn.new, Value.oneCell']) (by show (f.sels.length + 1) * 32 ≤ _; omega) (by show f.sels.length + 1 ≤ _; omega) ?_; intro g2 cap2 W4 k1 k2 k3 k4 k5; have d4 : W4.cell? ⟨b, fs.length * 4 + 3, none⟩ = some (.slice f.sa f.sels.length f.scap) := ((k2.cell_far ⟨b, fs.length * 4 + 3, none⟩ L3.lt (fun e => R3.sel_ne fs f hp L3.fa e.symm)).trans d3); have z4 : ∀ o, W4.frozen? ⟨b, o, none⟩ = false := (fun o => (k2.frozen_far ⟨b, o, none⟩ L3.lt (fun e => R3.sel_ne fs f hp L3.fa e.symm)).trans (L3.fr o))))
  obtain ⟨R5, f5⟩ := R3.sel fs f hp hn hL.fa k1 k2
  go_ret
  exact ⟨rfl, f3.trans f5, _, by simp [Pg.bare, taken, hp, onLast_snoc, Fn.bare, Sel.bare], R5⟩
end Go.Proofs.YtlhhmlfcodmebaaGreatDoor.Pg
namespace Go.Proofs.YtlhhmlfcodmebaaGreatDoor.Pg
set_option linter.unusedVariables false
set_option linter.unusedSimpArgs false
open Go.RowKit Go.WideShapes Go.ChangeShapes
open Go.Proofs.YtlhhmlfcodmebaaGreatDoor.Wd (sml_walk nmb_walk ltr_walk num)
set_option linter.unusedVariables false
set_option linter.unusedSimpArgs false
set_option maxHeartbeats 8000000 in
set_option maxRecDepth 100000 in
theorem inSel_no (w0 : World) (n0 r N : Nat) (p : Pg) (a : Int) (W : World) (R : Rd w0 n0 r N p a W) (ha : a ≠ 4) :
    Calls Tryz.prog 88 #[.pointer (some ⟨r, 0, none⟩)] W fun e w' => e = .returned (.bool false) ∧ Below W.heap.size W w' := by
  have c4 : W.cell? ⟨r, 4, none⟩ = some (.int .i64 a) := R.cell 4
  have h' : (a == 4) = false := beq_eq_false_iff_ne.2 ha
  go_enter Tryz.func88, Tryz.ntmps88
  go_wp2_with (fail)
  all_goals go_ret
  all_goals exact ⟨by first | rfl | rw [h'], Below.refl _ _⟩
set_option maxHeartbeats 8000000 in
set_option maxRecDepth 100000 in
theorem inSel_walk (w0 : World) (n0 r N : Nat) (p : Pg) (W : World) (R : Rd w0 n0 r N p 4 W) (fs : List Fn) (f : Fn) (hp : p.funcs = fs ++ [f]) (hN : N ≤ 1000000) :
    Calls Tryz.prog 88 #[.pointer (some ⟨r, 0, none⟩)] W fun e w' => e = .returned (.bool (decide (0 < f.sels.length))) ∧ Below W.heap.size W w' := by
  have c4 : W.cell? ⟨r, 4, none⟩ = some (.int .i64 4) := R.cell 4
  obtain ⟨b, hL⟩ := R.last fs f hp
  have cL := Lib.hid (last_walk w0 n0 r N b p 4 W R fs f hp hL.fa hN)
  go_enter Tryz.func88, Tryz.ntmps88
  go_wp2_with (go_at_call 94; ((with_reducible refine (cL.out).mono ?_); rintro e W3 ⟨rfl, b3⟩; have L3 := hL.below b3; have d3 := L3.c3))
  all_goals go_ret
  all_goals exact ⟨by first | rfl | simp, b3⟩
theorem Rd.free {w0 W : World} {n0 r N : Nat} {p : Pg} {a : Int} (R : Rd w0 n0 r N p a W) {c : Nat} (hc : n0 ≤ c) (h : ∀ row ∈ p.rows, row.blk ≠ some c) (o : Nat) (v : Value) :
    Rd w0 n0 r N p a (W.setCell ⟨c, o, none⟩ v) ∧ Frm n0 r W (W.setCell ⟨c, o, none⟩ v) := by
  have hlo := R.lo
  have hf : Frm n0 r W (W.setCell ⟨c, o, none⟩ v) := Frm.grown R.hi (grown_cell W c o v) (fun j e => by cases e; exact .inr hc)
  exact ⟨⟨R.blk.setOther c o v (by omega), ⟨fun row hr => World.ownsRow.kept (R.rows.own row hr) (grown_cell W c o v) (.inr (h row hr)), R.rows.apart⟩, R.lo, by simpa [World.setCell] using R.hi, R.few, hf.acc R.acc R.base R.lo, R.base, R.lies⟩, hf⟩
theorem Ws.free {n0 r g : Nat} {ws : List ByteArray} {W : World} (h : Ws n0 r g ws W) {c : Nat} (hc : g ≠ c) (o : Nat) (v : Value) : Ws n0 r g ws (W.setCell ⟨c, o, none⟩ v) :=
  ⟨h.ne, by simpa [World.setCell] using h.lt, fun k x hk => by rw [World.cell?_setCell_other _ _ _ _ (by simp only [ne_eq, Addr.mk.injEq]; exact fun e => hc e.1.symm)]; exact h.cell k x hk⟩
/-- Where the last select lies. -/
structure Lss (W : World) (n0 : Nat) (f : Fn) (ss : List Sel) (s : Sel) (b : Nat) : Prop where
  sa : f.sa = some ⟨b, 0, none⟩
  ge : n0 ≤ b
  lt : b < W.heap.size
  c0 : W.cell? ⟨b, ss.length * 2, none⟩ = some (.slice s.a s.cases.length s.cap)
  fr : ∀ o, W.frozen? ⟨b, o, none⟩ = false
theorem Rd.lastS {w0 W : World} {n0 r N : Nat} {p : Pg} {a : Int} (R : Rd w0 n0 r N p a W) (fs : List Fn) (f : Fn) (hp : p.funcs = fs ++ [f]) (ss : List Sel) (s : Sel) (hs : f.sels = ss ++ [s]) : ∃ b, Lss W n0 f ss s b := by
  have h := R.rows.own f.selRow (last_mem p fs f hp (by simp [Fn.rows]))
  have hl : 0 < f.sels.length := by rw [hs]; simp
  obtain ⟨g, cap, hv, hb, hlt⟩ := World.ownsRow.form h hl
  simp only [Fn.selRow, Value.slice.injEq] at hv
  refine ⟨g, hv.1, hb, hlt, ?_, fun o => ?_⟩
  · have h2 := World.ownsRow.cells h (g := g) (by simp [Fn.selRow, hv.1, Value.ownBlock]) (ss.length * 2 + 0) (.slice s.a s.cases.length s.cap) (flat_get Sel.cs 2 Sel.cs_len f.sels ss.length s (by rw [hs]; simp) 0 _ rfl)
    rwa [Addr.add_lit, Nat.zero_add, Nat.add_zero] at h2
  · have h3 : W.ownsRow n0 f.selRow.t f.selRow.sz (.slice (some ⟨g, 0, none⟩) f.selRow.n f.scap) f.selRow.n f.selRow.xs := by
      have e : f.selRow.v = .slice (some ⟨g, 0, none⟩) f.selRow.n f.scap := by simp [Fn.selRow, hv.1]
      rw [← e]; exact h
    exact World.ownsRow.frozenAt h3 o
def cs3 (e1 e2 e3 : Int) : Int := if e1 ≠ 0 then e1 else if e2 ≠ 0 then e2 else e3
set_option maxHeartbeats 8000000 in
set_option maxRecDepth 100000 in
theorem onCase_walk (w0 : World) (n0 r N g cap : Nat) (p : Pg) (a : Int) (W : World) (x0 x1 x2 x3 : ByteArray) (R : Rd w0 n0 r N p a W) (fs : List Fn) (f : Fn) (hp : p.funcs = fs ++ [f]) (ss : List Sel) (s : Sel) (hs : f.sels = ss ++ [s])
    (hw : Ws n0 r g [x0, x1, x2, x3] W) (h1 : x1.size ≤ 281474976710656) (h2 : x2.size ≤ 281474976710656) (h3 : x3.size ≤ 281474976710656) (hc : 4 ≤ cap) (hN : N ≤ 1000000) (d : Bool) (hx0 : (x0.toList == [111, 110, 115, 101, 110, 100]) = d) :
    Calls Tryz.prog 89 #[.pointer (some ⟨r, 0, none⟩), .slice (some ⟨g, 0, none⟩) 4 cap] W
      (Does w0 n0 r N W (cs3 (ltr x1.data.toList 99 false).2 (ltr x2.data.toList 114 (!d)).2 (ltr x3.data.toList 64 false).2) (taken p.bare (if d then 8 else 9) 0 [(ltr x1.data.toList 99 false).1, (ltr x2.data.toList 114 (!d)).1, (ltr x3.data.toList 64 false).1]) a) := by
  have cA := Lib.hid (fun W hL => ltr_walk x1 99 false W hL h1)
  have cB := Lib.hid (fun W hL => ltr_walk x2 114 (!d) W hL h2)
  have cC := Lib.hid (fun W hL => ltr_walk x3 64 false W hL h3)
  have hnA : I64 (ltr x1.data.toList 99 false).1 := ltr_64 _ _ _
  have hnB : I64 (ltr x2.data.toList 114 (!d)).1 := ltr_64 _ _ _
  have hnC : I64 (ltr x3.data.toList 64 false).1 := ltr_64 _ _ _
  generalize ltr x1.data.toList 99 false = yA at *
  generalize ltr x2.data.toList 114 (!d) = yB at *
  generalize ltr x3.data.toList 64 false = yC at *
  obtain ⟨nA, eA⟩ := yA
  obtain ⟨nB, eB⟩ := yB
  obtain ⟨nC, eC⟩ := yC
  have hlt := hw.lt
  have hC : ∀ row ∈ p.rows, row.blk ≠ some W.heap.size := fun row hr e => by have := (R.blk_ge hr e).2; omega
  have hgC : g ≠ W.heap.size := by omega
  have bb1 : Below W.heap.size W (W.alloc (.cells #[.bool d, .int .i64 0, .int .i64 0, .int .i64 0] 105)) := (Below.refl _ _).alloc (Nat.le_refl _) _
  have R1 := R.below bb1
  have hw1 := hw.below bb1
  have B1 : Blk W.heap.size #[.bool d, .int .i64 0, .int .i64 0, .int .i64 0] (W.alloc (.cells #[.bool d, .int .i64 0, .int .i64 0, .int .i64 0] 105)) := Blk.new _ _ _
  have f1 := Frm.below (r := r) R.hi bb1
  have hn0 := R.hi
  have v0 := hw.cell 0 _ rfl
  have v1 := hw1.cell 1 _ rfl
  obtain ⟨q, hq⟩ : ∃ q, Hid (q = taken p.bare (if d then 8 else 9) 0 [nA, nB, nC]) := ⟨_, Lib.hid rfl⟩
  rw [← hq.out]
  by_cases h1 : eA = 0
  · subst h1
    go_enter Tryz.func89, Tryz.ntmps89
    go_wp2_with (go_at_call 115; ((with_reducible refine (cA.out _ R1.lie).mono ?_); rintro e W2 ⟨rfl, b2⟩; have R2 := R1.below b2; have B2 := B1.below b2; have hw2 := hw1.below b2; have d1 : W2.cell? ⟨W.heap.size, 1, none⟩ = some (.int .i64 0) := B2.cell 1; have z2 := B2.fr; have f2 := f1.trans (Frm.below R1.hi b2)))
    have R3 := (R2.free hn0 hC 1 (.int .i64 nA)).1
    have f3 := f2.trans (R2.free hn0 hC 1 (.int .i64 nA)).2
    have hw3 := hw2.free hgC 1 (.int .i64 nA)
    have B3 := B2.set 1 (by simp) (.int .i64 nA)
    simp only [List.setIfInBounds_toArray, List.set_cons_succ, List.set_cons_zero] at B3
    generalize W2.setCell ⟨W.heap.size, 1, none⟩ (.int .i64 nA) = W3 at *
    have dr : Below W3.heap.size W3 W3.drew := Below.drew (Below.refl _ _)
    have KS := Lib.hid (fun W' (hb : Below W3.heap.size W3 W') => (⟨(hw3.below hb).cell 2 _ rfl, (B3.below hb).cell 0⟩ : W'.cell? ⟨g, 2, none⟩ = some (.string x2) ∧ W'.cell? ⟨W.heap.size, 0, none⟩ = some (.bool d)))
    have KT := Lib.hid (fun W' (hb : Below W3.heap.size W3 W') (v : Value) => (⟨((hw3.below hb).free hgC 2 v).cell 2 _ rfl, ((B3.below hb).set 2 (by simp) v).cell 0⟩ : (W'.setCell ⟨W.heap.size, 2, none⟩ v).cell? ⟨g, 2, none⟩ = some (.string x2) ∧ (W'.setCell ⟨W.heap.size, 2, none⟩ v).cell? ⟨W.heap.size, 0, none⟩ = some (.bool d)))
    go_region_held3 (fun W' => W'.cell? ⟨g, 2, none⟩ = some (.string x2) ∧ W'.cell? ⟨W.heap.size, 0, none⟩ = some (.bool d))
      (first | assumption | exact KS.out _ (Below.refl _ _) | exact KS.out _ dr | exact KS.out _ (dr.trans b4) | exact KT.out _ (dr.trans b4) _)
      ((go_at_call 115; ((with_reducible refine (cB.out _ (R3.below dr).lie).mono ?_); rintro e W4 ⟨rfl, b4⟩; have d4 : W4.cell? ⟨W.heap.size, 2, none⟩ = some (.int .i64 0) := ((B3.below dr).below b4).cell 2; have z4 := ((B3.below dr).below b4).fr)))
    have bb4 := dr.trans b4
    have R4 := R3.below bb4
    have f4 := f3.trans (Frm.below R3.hi bb4)
    have hw4 := hw3.below bb4
    have B4 := B3.below bb4
    have R5 := (R4.free hn0 hC 2 (.int .i64 nB)).1
    have f5 := f4.trans (R4.free hn0 hC 2 (.int .i64 nB)).2
    have hw5 := hw4.free hgC 2 (.int .i64 nB)
    have B5 := B4.set 2 (by simp) (.int .i64 nB)
    simp only [List.setIfInBounds_toArray, List.set_cons_succ, List.set_cons_zero] at B5
    generalize W4.setCell ⟨W.heap.size, 2, none⟩ (.int .i64 nB) = W5 at *
    clear KS KT d4 z4 b4 bb4 dr R4 f4 hw4 B4 R3 f3 hw3 B3 cA cB d1 z2 R2 B2 hw2 f2 b2 v0 v1
    by_cases h2 : eB = 0
    · subst h2
      have v3 := hw5.cell 3 _ rfl
      have hcs : cs3 0 0 eC = eC := by unfold cs3; simp
      by_cases h3 : eC = 0
      · subst h3
        go_wp2_with (go_at_call 115; ((with_reducible refine (cC.out _ R5.lie).mono ?_); rintro e W6 ⟨rfl, b6⟩; have R6 := R5.below b6; have B6 := B5.below b6; have hw6 := hw5.below b6; have d6 : W6.cell? ⟨W.heap.size, 3, none⟩ = some (.int .i64 0) := B6.cell 3; have z6 := B6.fr; have f6 := f5.trans (Frm.below R5.hi b6)))
        have R7 := (R6.free hn0 hC 3 (.int .i64 nC)).1
        have f7 := f6.trans (R6.free hn0 hC 3 (.int .i64 nC)).2
        have B7 := B6.set 3 (by simp) (.int .i64 nC)
        simp only [List.setIfInBounds_toArray, List.set_cons_succ, List.set_cons_zero] at B7
        generalize W6.setCell ⟨W.heap.size, 3, none⟩ (.int .i64 nC) = W7 at *
        clear R6 f6 B6 hw6 d6 z6 b6 hw5 R5 f5 B5 v3 hw1 R1 B1 f1
        obtain ⟨b, hL⟩ := R7.last fs f hp
        obtain ⟨sb, hS⟩ := R7.lastS fs f hp ss s hs
        have cL := Lib.hid (fun W R => last_quiet w0 n0 r N b p a W R fs f hp hL.fa hN)
        have hls : f.sels.length = ss.length + 1 := by rw [hs]; simp
        have hlN := (R.few.funcs f (by rw [hp]; simp)).lenS
        have hcN := ((R.few.funcs f (by rw [hp]; simp)).sels s (by rw [hs]; simp)).2.2
        have d3 : W7.cell? ⟨b, fs.length * 4 + 3, none⟩ = some (.slice (some ⟨sb, 0, none⟩) (ss.length + 1) f.scap) := by rw [hL.c3, hS.sa, hls]
        go_quiet ((go_at_call 94; refine Calls.quiet_of (cL.out _ (R7.drewN _))))
        have R8 := R7.drewN nq
        have B8 := B7.drewN nq
        have f8 := f7.trans (Frm.below R7.hi (below_drewN (Below.refl _ _) nq))
        generalize W7.drewN nq = W8 at *
        obtain ⟨sb', hS'⟩ := R8.lastS fs f hp ss s hs
        obtain rfl : sb = sb' := by
          have := hS.sa.symm.trans hS'.sa
          simpa using this
        have dr : Below W8.heap.size W8 W8.drew := Below.drew (Below.refl _ _)
        have R9 := R8.below dr
        have f9 := f8.trans (Frm.below R8.hi dr)
        have hS9 := hS'.c0
        have c0 : W8.cell? ⟨W.heap.size, 0, none⟩ = some (.bool d) := B8.cell 0
        have c1 : W8.cell? ⟨W.heap.size, 1, none⟩ = some (.int .i64 nA) := B8.cell 1
        have c2 : W8.cell? ⟨W.heap.size, 2, none⟩ = some (.int .i64 nB) := B8.cell 2
        have c3 : W8.cell? ⟨W.heap.size, 3, none⟩ = some (.int .i64 nC) := B8.cell 3
        have cA : ∀ t u v x, (W8.alloc (.cells #[t, u, v, x] 105)).cell? ⟨sb, ss.length * 2, none⟩ = some (.slice s.a s.cases.length s.cap) := fun t u v x => (((Below.refl W8.heap.size W8).alloc (Nat.le_refl _) _).cell (by simpa using hS'.lt)).trans hS9
        go_wp2
        go_region_law ((refine step_app (R9.rows.perm (rows_case p fs f hp ss s hs)) R9.hi rfl _ _ _ (by rfl) (Cas.mk d nA nB nC).cs 105 (by rfl) (.agg #[.bool false, .int .i64 0, .int .i64 0, .int .i64 0]) 32 Tryz.underlying91 info_case rfl (Nat.succ_pos _) (by rfl) (by rfl) rfl (by simp [Cas.cs, Value.oneCell']) (by show (s.cases.length + 1) * 32 ≤ _; omega) (by show s.cases.length + 1 ≤ _; omega) ?_; intro g2 cap2 W10 k1 k2 k3 k4 k5; have d10 : W10.cell? ⟨sb, ss.length * 2, none⟩ = some (.slice s.a s.cases.length s.cap) := (k2.cell_far ⟨sb, ss.length * 2, none⟩ hS'.lt (fun e => R9.case_ne fs f hp ss s hs hS'.sa e.symm)).trans hS9; have z10 : ∀ o, W10.frozen? ⟨sb, o, none⟩ = false := (fun o => (k2.frozen_far ⟨sb, o, none⟩ hS'.lt (fun e => R9.case_ne fs f hp ss s hs hS'.sa e.symm)).trans (hS'.fr o))))
        all_goals go_wp2
        all_goals obtain ⟨R11, f11⟩ := R9.case fs f hp ss s hs (x := ⟨d, nA, nB, nC⟩) ⟨hnA, hnB, hnC⟩ hS'.sa k1 k2
        all_goals go_ret
        all_goals exact ⟨by unfold cs3; rfl, f9.trans f11, fun _ => ⟨_, by rw [hq.out]; cases d <;> simp [Pg.bare, taken, hp, hs, onLast_snoc, Fn.bare, Sel.bare], R11⟩⟩
      · have hcs2 : cs3 0 0 eC = eC := by unfold cs3; simp
        go_wp2_with (go_at_call 115; ((with_reducible refine (cC.out _ R5.lie).mono ?_); rintro e W6 ⟨rfl, b6⟩; have R6 := R5.below b6; have B6 := B5.below b6; have hw6 := hw5.below b6; have d6 : W6.cell? ⟨W.heap.size, 3, none⟩ = some (.int .i64 0) := B6.cell 3; have z6 := B6.fr; have f6 := f5.trans (Frm.below R5.hi b6)))
        all_goals go_ret
        all_goals exact ⟨by rw [hcs2]; rfl, f6.trans (R6.free hn0 hC 3 _).2, fun q => absurd (by rw [hcs2] at q; exact q) h3⟩
    · have hcs : cs3 0 eB eC = eB := by unfold cs3; simp [h2]
      go_wp2_with (fail)
      go_ret
      exact ⟨by rw [hcs]; rfl, f5, fun q => absurd (by rw [hcs] at q; exact q) h2⟩
  · go_enter Tryz.func89, Tryz.ntmps89
    go_wp2_with (go_at_call 115; ((with_reducible refine (cA.out _ R1.lie).mono ?_); rintro e W2 ⟨rfl, b2⟩; have R2 := R1.below b2; have B2 := B1.below b2; have hw2 := hw1.below b2; have d1 : W2.cell? ⟨W.heap.size, 1, none⟩ = some (.int .i64 0) := B2.cell 1; have z2 := B2.fr; have f2 := f1.trans (Frm.below R1.hi b2)))
    go_ret
    exact ⟨by unfold cs3; rw [if_pos h1]; rfl, f2.trans (R2.free hn0 hC 1 _).2, fun q => absurd (by unfold cs3 at q; rwa [if_pos h1] at q) h1⟩
end Go.Proofs.YtlhhmlfcodmebaaGreatDoor.Pg
