/- The reference's goroutine, run with its fuel: walked. -/
import Derived.Test.YtbcdeanmjhcgeaaDoorZR2
import Derived.Test.YtbcdeanmjhcgeaaDoorZL2
namespace Go.Proofs.YtbcdeanmjhcgeaaDoor.Pg
set_option linter.unusedVariables false
set_option linter.unusedSimpArgs false
open Go.ChangeShapes Go.WideShapes Go.RowKit
set_option linter.unusedVariables false
/-- What the walks need of the reference's Apply, in later worlds: A is what it gives. -/
def AppR (A : Int → Int → Int → Int × Int) (w : World) : Prop := ∀ W, Below w.heap.size w W → ∀ op a b : Int, 1 ≤ op → op ≤ 36 → I64 a → I64 b → Calls Tryd.prog 50 #[.int .i64 op, .int .i64 a, .int .i64 b] W fun e w' => e = .returned (.tuple #[.int .i64 (A op a b).1, .int .i64 (A op a b).2]) ∧ Below W.heap.size W w'
theorem AppR.below {A : Int → Int → Int → Int × Int} {w w1 : World} (h : AppR A w) (hb : Below w.heap.size w w1) : AppR A w1 := fun W hW => h W (hb.trans (hW.mono hb.size))
def Gr.live (g : Gr) : Gr := ⟨1, g.func, g.pc, g.why, g.regs⟩
theorem Stood.live {P : Pg} {g : Gr} (h : Stood P g) : Stood P g.live := ⟨⟨i64_small (n := 1) (by omega) (by omega), h.ok.fn, h.ok.pc, h.ok.why, h.ok.regs, h.ok.len⟩, h.f0, h.f1, h.p0, h.p1⟩
theorem Gr.lit4 {g : Gr} (h : g.ok) : ∃ x0 x1 x2 x3 x4 x5 x6 x7 : Int, g.cs.toArray = #[.int .i64 g.status, .int .i64 g.func, .int .i64 g.pc, .int .i64 g.why, .int .i64 x0, .int .i64 x1, .int .i64 x2, .int .i64 x3, .int .i64 x4, .int .i64 x5, .int .i64 x6, .int .i64 x7] := by
  obtain ⟨x0, x1, x2, x3, x4, x5, x6, x7, hx⟩ := eight h.len
  exact ⟨x0, x1, x2, x3, x4, x5, x6, x7, by unfold Gr.cs; rw [hx]; rfl⟩
theorem set_get2 {arr : Array Value} {v x : Value} {k : Nat} (h : arr[2]? = some x) : (arr.setIfInBounds (4 + k) v)[2]? = some x := by
  rw [Array.getElem?_setIfInBounds_ne (by omega)]; exact h
theorem set_swap {arr : Array Value} {u v : Value} {k : Nat} : (arr.setIfInBounds (4 + k) u).setIfInBounds 2 v = (arr.setIfInBounds 2 v).setIfInBounds (4 + k) u := Array.setIfInBounds_comm _ _ (by omega)
theorem Env.cells01 {w W : World} {b0 b1 : Nat} {a0 a1 : Array Value} {bs : List (Nat × Array Value)} (E : Env w ((b0, a0) :: (b1, a1) :: bs) W) :
    (∀ o, W.cell? ⟨b0, o, none⟩ = a0[o]?) ∧ ∀ o, W.cell? ⟨b1, o, none⟩ = a1[o]? := ⟨E.h0.cell, E.tl.h0.cell⟩
set_option maxHeartbeats 16000000 in
set_option maxRecDepth 100000 in
theorem rsettled_walk {A : Int → Int → Int → Int × Int} (AI : AluOk A) (AW : AluWhy A) (P : Pg) (R : Rt P) (g : Gr) (n : Nat) (w : World) (I : P.In w) (hg : Stood P g) (hn : n ≤ 4096) (hA : AppR A w) :
    Calls Tryd.prog 36 #[P.v, g.v, .int .i64 n] w fun e w' => e = .returned (settle A P n g.live).v ∧ Below w.heap.size w w' := by
  obtain ⟨r, hr⟩ : ∃ r, Hid (r = settle A P n g.live) := ⟨_, Lib.hid rfl⟩
  rw [← hr.out]
  obtain ⟨k, hk⟩ : ∃ k : Nat, g.func = k := ⟨g.func.toNat, by have := hg.f0; omega⟩
  have hkl : k < P.funcs.length := by have := hg.f1; omega
  obtain ⟨fb, fo, hfa, hfl, hF⟩ := I.func (by omega)
  have hs2 := Lib.hid (hF k P.funcs[k] (by simp) 2 _ rfl)
  have J := I.funcs P.funcs[k] (List.getElem_mem _)
  have hfn : P.fn (k : Int) = P.funcs[k] := by unfold Pg.fn; simp [hkl]
  have hlf := I.lenF; have hlc := J.lenC
  unfold Len at hlf hlc
  rw [← hfn] at hs2 J hlc
  obtain ⟨cb, co, hca, hcbl, _⟩ := J.at g.pc.toNat (by have := hg.p0; have := hg.p1; rw [hk] at this; omega)
  rw [hca] at hs2
  have hg' := Lib.hid hg.live; have hk' := Lib.hid hk
  have hI := Lib.hid I; have hJ := Lib.hid J; have hca' := Lib.hid hca
  clear hF hfn J hg hk hca
  have h0 : g.cs.toArray[0]? = some (.int .i64 g.status) := by simp [Gr.cs]
  have hlv := Lib.hid (show g.live.cs.toArray = g.cs.toArray.setIfInBounds 0 (.int .i64 1) by apply Array.toList_inj.1; simp [Gr.cs, Gr.live])
  unfold Gr.v Pg.v
  rw [hfa]
  have hfl1 : fb < w.heap.size + 1 := by omega
  have hfl2 : fb < w.heap.size + 1 + 1 := by omega
  have hfl3 : fb < w.heap.size + 1 + 1 + 1 := by omega
  obtain ⟨ga, hga⟩ : ∃ ga, Hid (ga = g.cs.toArray) := ⟨_, Lib.hid rfl⟩
  rw [← hga.out] at h0 hlv ⊢
  go_enter Tryd.func36, Tryd.ntmps36
  go_wp2
  rw [← hlv.out]
  have E0 := ((((Env.nil (w := w)).push w.heap.size rfl #[.slice P.va P.vars.length P.vcap, .int .i64 P.locks, .slice P.ha P.chans.length P.hcap, .slice (some ⟨fb, fo, none⟩) P.funcs.length P.fcap] 41).push (w.heap.size + 1) (by simp) g.live.cs.toArray 29).push (w.heap.size + 1 + 1) (by simp) #[.int .i64 0, .int .i64 0, .int .i64 0, .int .i64 0, .int .i64 0, .int .i64 0, .int .i64 0, .int .i64 0, .int .i64 0, .int .i64 0, .int .i64 0, .int .i64 0] 29).sub (cs := [(w.heap.size + 1, g.live.cs.toArray), (w.heap.size, #[.slice P.va P.vars.length P.vcap, .int .i64 P.locks, .slice P.ha P.chans.length P.hcap, .slice (some ⟨fb, fo, none⟩) P.funcs.length P.fcap]), (w.heap.size + 1 + 1, #[.int .i64 0, .int .i64 0, .int .i64 0, .int .i64 0, .int .i64 0, .int .i64 0, .int .i64 0, .int .i64 0, .int .i64 0, .int .i64 0, .int .i64 0, .int .i64 0])]) (fun p hp => by simp only [List.mem_cons, List.not_mem_nil, or_false] at hp ⊢; rcases hp with rfl | rfl | rfl <;> simp)
  go_loopw [2] (fun f wr => ∃ m : Nat, ∃ g' : Gr, m ≤ 4096 ∧ f = .int .i64 m ∧ Env w [(w.heap.size + 1, g'.cs.toArray), (w.heap.size, #[.slice P.va P.vars.length P.vcap, .int .i64 P.locks, .slice P.ha P.chans.length P.hcap, .slice (some ⟨fb, fo, none⟩) P.funcs.length P.fcap]), (w.heap.size + 1 + 1, #[.int .i64 0, .int .i64 0, .int .i64 0, .int .i64 0, .int .i64 0, .int .i64 0, .int .i64 0, .int .i64 0, .int .i64 0, .int .i64 0, .int .i64 0, .int .i64 0])] wr ∧ Hid (g'.status = 1) ∧ Hid (g'.func = k) ∧ Hid (Stood P g') ∧ Hid (r = settle A P m g')) (fun f _ => (intOf f).toNat)
  case atStart => exact ⟨n, g.live, hn, rfl, E0, Lib.hid rfl, hk', hg', hr⟩
  case round =>
    clear E0 hr hg' hk' hga hn h0 hlv
    obtain ⟨m, q, hm, rfl, E1, hq1, hqf, hq, hr⟩ := hrel
    obtain ⟨pc, hpc⟩ : ∃ pc : Nat, q.pc = pc := ⟨q.pc.toNat, by have := hq.out.p0; omega⟩
    have hpl : pc < (P.fn k).code.length := by have := hq.out.p1; rw [hqf.out] at this; omega
    have J := hJ.out.below E1.acc
    obtain ⟨cb', co', hca2, hcl, hC⟩ := J.at pc hpl
    obtain ⟨rfl, rfl⟩ : cb' = cb ∧ co' = co := by have e := hca2.symm.trans hca'.out; simp at e; exact ⟨e.1, e.2⟩
    have hin : q.ins P = (P.fn k).at pc := by unfold Gr.ins; rw [hqf.out, hpc]
    have hxok := Lib.hid (hin ▸ J.at_ok pc hpl : (q.ins P).ok)
    have t0 := hC 0 _ rfl
    have t1 := hC 1 _ rfl
    have t2 := hC 2 _ rfl
    have t3 := hC 3 _ rfl
    have t4 := hC 4 _ rfl
    have s2 := (E1.acc.cell (p := ⟨fb, fo + k * 4 + 2, none⟩) hfl).trans hs2.out
    have hq0 := hq.out
    have hloc := Lib.hid (fun (hl : loc (q.ins P).op = true) => hq0.step R AI AW hxok.out hl)
    have hbnd := Lib.hid (hq0.bnd R)
    have hp64 := hq0.pc64 R
    have hsf := Lib.hid (step_func A (q.ins P) q)
    have hst0 := Lib.hid (fun h => settle_stop (A := A) (P := P) (n := m) (g := q) h)
    have hst1 := Lib.hid (fun h => settle_spun (A := A) (P := P) (g := q) h)
    have hst2 := Lib.hid (fun j h => settle_next (A := A) (P := P) (n := j) (g := q) h)
    have hqok := Lib.hid hq0.ok
    have hcsz := Lib.hid (Gr.cs_size hq0.ok)
    obtain ⟨x0, x1, x2, x3, x4, x5, x6, x7, hlit⟩ := Gr.lit4 hq0.ok
    rw [hq1.out, hqf.out, hpc] at hlit
    replace hlit := Lib.hid hlit
    have c0 : q.cs.toArray[0]? = some (.int .i64 1) := by simp [Gr.cs, hq1.out]
    have c1 : q.cs.toArray[1]? = some (.int .i64 k) := by simp [Gr.cs, hqf.out]
    have c2 : q.cs.toArray[2]? = some (.int .i64 pc) := by simp [Gr.cs, hpc]
    have hreg := Lib.hid (fun a (h : a < 8) => Gr.cs_r hq0.ok a h)
    have hput := Lib.hid (fun (a : Nat) v => Gr.cs_put hq0.ok a v)
    have hto := Lib.hid (fun v => Gr.cs_to q v)
    have hrok := Lib.hid (fun a => Gr.r_ok hq0.ok a)
    have hnx := Lib.hid (hq0.next R)
    rw [hpc] at hput hp64
    clear hq hC hq0 hca2 J
    rw [hin] at *
    clear hin
    generalize (P.fn k).at pc = x at *
    obtain ⟨op, xa, xb, xc, xn⟩ := x
    simp only [Nat.add_zero] at t0
    simp only at hst0 hst1 hst2 hloc hnx hbnd
    obtain ⟨bA, bB, bC⟩ := hbnd.out
    simp only at bA bB bC
    have hstp := Lib.hid (fun (h : 1 ≤ op ∧ op ≤ 36) => step_num (A := A) (x := ⟨op, xa, xb, xc, xn⟩) (g := q) h)
    simp only at hstp
    generalize hgq : q.cs.toArray = gq at *
    replace hgq := Lib.hid hgq
    have y0 := E1.h0.cell; have yp := E1.tl.h0.cell; have l0 := E1.h0.lt; have lp := E1.tl.h0.lt; have l2 := E1.tl.tl.h0.lt
    have acc := E1.acc; have hsz := acc.size
    have hfw : fb < wr.heap.size := by omega
    go_wp2
    apply wp_toS (Env w [(w.heap.size + 1, gq), (wr.heap.size, #[.int .i64 op, .int .i64 xa, .int .i64 xb, .int .i64 xc, .int .i64 xn]), (w.heap.size, #[.slice P.va P.vars.length P.vcap, .int .i64 P.locks, .slice P.ha P.chans.length P.hcap, .slice (some ⟨fb, fo, none⟩) P.funcs.length P.fcap]), (w.heap.size + 1 + 1, #[.int .i64 0, .int .i64 0, .int .i64 0, .int .i64 0, .int .i64 0, .int .i64 0, .int .i64 0, .int .i64 0, .int .i64 0, .int .i64 0, .int .i64 0, .int .i64 0])])
    · go_region
      all_goals exact ToS.mk (((E1.push wr.heap.size rfl #[.int .i64 op, .int .i64 xa, .int .i64 xb, .int .i64 xc, .int .i64 xn] 88).drew).sub (fun p hp => by simp only [List.mem_cons, List.not_mem_nil, or_false] at hp ⊢; rcases hp with rfl | rfl | rfl | rfl <;> simp))
    intro W1 E2
    have hpc' := Lib.hid hpc; clear hpc
    have hbi := l2
    clear y0 yp l0 lp l2 acc hsz t0 t1 t2 t3 t4 s2 E1 hcl hs2 hca' hfw
    generalize wr.heap.size = bi at *
    have y0 := E2.h0.cell; have y1 := E2.tl.h0.cell; have y2 := E2.tl.tl.tl.h0.cell; have z0 := E2.h0.fr; have z2 := E2.tl.tl.tl.h0.fr; have l0 := E2.h0.lt; have l1 := E2.tl.h0.lt; have l2 := E2.tl.tl.tl.h0.lt; have acc := E2.acc; have hsz := acc.size
    have cLo := fun W => rlocal_walk op W
    obtain ⟨bl, hbl⟩ : ∃ bl, Hid (bl = loc op) := ⟨_, Lib.hid rfl⟩
    rw [← hbl.out] at hst0 hst1 hst2 hloc
    simp only [← hbl.out] at cLo
    cases bl
    · have hrv := Lib.hid (hr.out.trans (hst0.out (fun h => by simp at h)))
      clear hr hst0 hst1 hst2 hloc
      go_wp2_with (first | ((go_at_call 49; ((with_reducible refine (cLo _).mono ?_); rintro e w' ⟨rfl, rfl⟩))) | (refine list_load rfl _ _ rfl _ rfl _ (go12_lit E2.h0 hlit.out rfl) ?_))
      refine bodyPost_ret (v := .agg #[.int .i64 1, .int .i64 (k : Int), .int .i64 (pc : Int), .int .i64 q.why, .int .i64 x0, .int .i64 x1, .int .i64 x2, .int .i64 x3, .int .i64 x4, .int .i64 x5, .int .i64 x6, .int .i64 x7]) (by simp [results, Tryd.results36, go_sem, y2]) rfl ⟨by rw [hrv.out, hgq.out, hlit.out], (by repeat (first | (with_reducible assumption) | (with_reducible exact Below.refl _ _) | (with_reducible refine Below.drew ?_) | (with_reducible refine below_drewN ?_ _) | (with_reducible refine Below.setCell ?_ (by first | (simp; done) | (simp <;> omega)) _) | (with_reducible refine Below.alloc ?_ (by first | omega | (simp <;> omega)) _)))⟩
    cases m with
    | zero =>
      have hrv := Lib.hid (hr.out.trans (hst1.out ⟨hq1.out, rfl⟩))
      clear hr hst0 hst1 hst2 hloc
      have hl5 := Lib.hid (show gq.setIfInBounds 0 (.int .i64 5) = #[.int .i64 5, .int .i64 (k : Int), .int .i64 (pc : Int), .int .i64 q.why, .int .i64 x0, .int .i64 x1, .int .i64 x2, .int .i64 x3, .int .i64 x4, .int .i64 x5, .int .i64 x6, .int .i64 x7] by rw [hlit.out]; rfl)
      have hr5 := Lib.hid (show r.cs.toArray = #[.int .i64 5, .int .i64 (k : Int), .int .i64 (pc : Int), .int .i64 q.why, .int .i64 x0, .int .i64 x1, .int .i64 x2, .int .i64 x3, .int .i64 x4, .int .i64 x5, .int .i64 x6, .int .i64 x7] by rw [hrv.out, ← hl5.out, ← hgq.out]; apply Array.toList_inj.1; simp [Gr.cs])
      have E3 := E2.set (by omega) (fun p hp => by simp only [List.mem_cons, List.not_mem_nil, or_false] at hp; rcases hp with rfl | rfl | rfl <;> (simp only; omega)) 0 (by rw [hcsz.out]; omega) (.int .i64 5)
      have y3 := E3.tl.tl.tl.h0.cell; have z3 := E3.tl.tl.tl.h0.fr; have l3 := E3.tl.tl.tl.h0.lt
      go_wp2_with (first | ((go_at_call 49; ((with_reducible refine (cLo _).mono ?_); rintro e w' ⟨rfl, rfl⟩))) | (refine list_load rfl _ _ rfl _ rfl _ (go12_lit E3.h0 hl5.out rfl) ?_))
      refine bodyPost_ret (v := .agg #[.int .i64 5, .int .i64 (k : Int), .int .i64 (pc : Int), .int .i64 q.why, .int .i64 x0, .int .i64 x1, .int .i64 x2, .int .i64 x3, .int .i64 x4, .int .i64 x5, .int .i64 x6, .int .i64 x7]) (by simp [results, Tryd.results36, go_sem, y3]) rfl ⟨by rw [hr5.out], (by repeat (first | (with_reducible assumption) | (with_reducible exact Below.refl _ _) | (with_reducible refine Below.drew ?_) | (with_reducible refine below_drewN ?_ _) | (with_reducible refine Below.setCell ?_ (by first | (simp; done) | (simp <;> omega)) _) | (with_reducible refine Below.alloc ?_ (by first | omega | (simp <;> omega)) _)))⟩
    | succ m =>
    have hrn := Lib.hid (hr.out.trans (hst2.out m ⟨hq1.out, rfl⟩))
    have hlc := Lib.hid (hloc.out (by first | trivial | rfl))
    have hlo := of_decide_eq_true hbl.out.symm
    clear hr hst0 hst1 hst2 hloc hbl
    by_cases c40 : op = 40
    · skip
      subst c40
      obtain ⟨ha0, ha8⟩ := bA (by omega)
      have hse : step A ⟨40, xa, xb, xc, xn⟩ q = q.put xa xn := by simp [step]
      rw [hse] at hrn hlc
      clear hse
      obtain ⟨a, rfl⟩ : ∃ a : Nat, xa = a := ⟨xa.toNat, by omega⟩
      have ca := hreg.out a (by omega)
      have E3 := E2.set (by omega) (fun p hp => by simp only [List.mem_cons, List.not_mem_nil, or_false] at hp; rcases hp with rfl | rfl | rfl <;> (simp only; omega)) (4 + a) (by rw [hcsz.out]; omega) (.int .i64 xn)
      have y3 := E3.h0.cell; have z3 := E3.h0.fr; have c2' := set_get2 (k := a) (v := .int .i64 xn) c2
      have E4 := E3.set (by omega) (fun p hp => by simp only [List.mem_cons, List.not_mem_nil, or_false] at hp; rcases hp with rfl | rfl | rfl <;> (simp only; omega)) 2 (by rw [Array.size_setIfInBounds, hcsz.out]; omega) (.int .i64 ((pc : Int) + 1))
      go_wp2_with ((go_at_call 49; ((with_reducible refine (cLo _).mono ?_); rintro e w' ⟨rfl, rfl⟩)))
      refine ⟨⟨m, q.put a xn, by omega, by go_num, by rw [hput.out, ← set_swap]; exact E4.sub (fun p hp => by simp only [List.mem_cons, List.not_mem_nil, or_false] at hp ⊢; rcases hp with rfl | rfl | rfl <;> simp), Lib.hid hq1.out, Lib.hid hqf.out, hlc, hrn⟩, by simp [intOf]⟩
    by_cases c41 : op = 41
    · skip
      subst c41
      obtain ⟨ha0, ha8⟩ := bA (by omega)
      obtain ⟨hb0, hb8⟩ := bB (by omega)
      have hse : step A ⟨41, xa, xb, xc, xn⟩ q = q.put xa (q.r xb) := by simp [step]
      rw [hse] at hrn hlc
      clear hse
      obtain ⟨a, rfl⟩ : ∃ a : Nat, xa = a := ⟨xa.toNat, by omega⟩
      obtain ⟨b, rfl⟩ : ∃ b : Nat, xb = b := ⟨xb.toNat, by omega⟩
      have ca := hreg.out a (by omega); have cb := hreg.out b (by omega)
      generalize q.r b = rb at *
      have E3 := E2.set (by omega) (fun p hp => by simp only [List.mem_cons, List.not_mem_nil, or_false] at hp; rcases hp with rfl | rfl | rfl <;> (simp only; omega)) (4 + a) (by rw [hcsz.out]; omega) (.int .i64 rb)
      go_wp2_with ((go_at_call 49; ((with_reducible refine (cLo _).mono ?_); rintro e w' ⟨rfl, rfl⟩)))
      apply wp_toS (Env w [(w.heap.size + 1, gq.setIfInBounds (4 + a) (.int .i64 rb)), (bi, #[.int .i64 41, .int .i64 a, .int .i64 b, .int .i64 xc, .int .i64 xn]), (w.heap.size, #[.slice P.va P.vars.length P.vcap, .int .i64 P.locks, .slice P.ha P.chans.length P.hcap, .slice (some ⟨fb, fo, none⟩) P.funcs.length P.fcap]), (w.heap.size + 1 + 1, #[.int .i64 0, .int .i64 0, .int .i64 0, .int .i64 0, .int .i64 0, .int .i64 0, .int .i64 0, .int .i64 0, .int .i64 0, .int .i64 0, .int .i64 0, .int .i64 0])])
      · go_region
        all_goals exact ToS.mk (by first | exact E3.drew | exact E3)
      intro W2 E5
      clear y0 y1 y2 z0 z2 l0 l1 l2 acc hsz
      have y3 := E5.h0.cell; have z3 := E5.h0.fr; have l3 := E5.h0.lt; have c2' := set_get2 (k := a) (v := .int .i64 rb) c2
      have E4 := E5.set (by omega) (fun p hp => by simp only [List.mem_cons, List.not_mem_nil, or_false] at hp; rcases hp with rfl | rfl | rfl <;> (simp only; omega)) 2 (by rw [Array.size_setIfInBounds, hcsz.out]; omega) (.int .i64 ((pc : Int) + 1))
      go_wp2
      refine ⟨⟨m, q.put a rb, by omega, by go_num, by rw [hput.out, ← set_swap]; exact E4.sub (fun p hp => by simp only [List.mem_cons, List.not_mem_nil, or_false] at hp ⊢; rcases hp with rfl | rfl | rfl <;> simp), Lib.hid hq1.out, Lib.hid hqf.out, hlc, hrn⟩, by simp [intOf]⟩
    by_cases c42 : op = 42
    · skip
      subst c42
      have hse : step A ⟨42, xa, xb, xc, xn⟩ q = q.to xa := by simp [step]
      rw [hse] at hrn hlc
      clear hse
      have E4 := E2.set (by omega) (fun p hp => by simp only [List.mem_cons, List.not_mem_nil, or_false] at hp; rcases hp with rfl | rfl | rfl <;> (simp only; omega)) 2 (by rw [hcsz.out]; omega) (.int .i64 xa)
      go_wp2_with ((go_at_call 49; ((with_reducible refine (cLo _).mono ?_); rintro e w' ⟨rfl, rfl⟩)))
      refine ⟨⟨m, q.to xa, by omega, by go_num, by rw [hto.out]; exact E4.sub (fun p hp => by simp only [List.mem_cons, List.not_mem_nil, or_false] at hp ⊢; rcases hp with rfl | rfl | rfl <;> simp), Lib.hid hq1.out, Lib.hid hqf.out, hlc, hrn⟩, by simp [intOf]⟩
    by_cases c43y : op = 43 ∧ q.r xa ≠ 0
    · skip
      obtain ⟨c43, hz⟩ := c43y
      subst c43
      obtain ⟨ha0, ha8⟩ := bA (by omega)
      have hse : step A ⟨43, xa, xb, xc, xn⟩ q = q.to xb := by simp [step, hz]
      rw [hse] at hrn hlc
      clear hse
      obtain ⟨a, rfl⟩ : ∃ a : Nat, xa = a := ⟨xa.toNat, by omega⟩
      have ca := hreg.out a (by omega)
      generalize q.r a = ra at *
      have hzb : (ra != 0) = true := by simpa using hz
      replace hz := Lib.hid hz
      have E4 := E2.set (by omega) (fun p hp => by simp only [List.mem_cons, List.not_mem_nil, or_false] at hp; rcases hp with rfl | rfl | rfl <;> (simp only; omega)) 2 (by rw [hcsz.out]; omega) (.int .i64 xb)
      go_wp2_with ((go_at_call 49; ((with_reducible refine (cLo _).mono ?_); rintro e w' ⟨rfl, rfl⟩)))
      refine ⟨⟨m, q.to xb, by omega, by go_num, by rw [hto.out]; exact E4.sub (fun p hp => by simp only [List.mem_cons, List.not_mem_nil, or_false] at hp ⊢; rcases hp with rfl | rfl | rfl <;> simp), Lib.hid hq1.out, Lib.hid hqf.out, hlc, hrn⟩, by simp [intOf]⟩
    by_cases c43n : op = 43
    · skip
      subst c43n
      have hz : q.r xa = 0 := by by_cases h : q.r xa = 0; (· exact h); (· exact absurd ⟨rfl, h⟩ c43y)
      clear c43y
      obtain ⟨ha0, ha8⟩ := bA (by omega)
      have hse : step A ⟨43, xa, xb, xc, xn⟩ q = q.to (q.pc + 1) := by simp [step, hz]
      rw [hse] at hrn hlc
      clear hse
      obtain ⟨a, rfl⟩ : ∃ a : Nat, xa = a := ⟨xa.toNat, by omega⟩
      have ca := hreg.out a (by omega)
      generalize q.r a = ra at *
      have hzb : (ra != 0) = false := by simpa using hz
      replace hz := Lib.hid hz
      have E4 := E2.set (by omega) (fun p hp => by simp only [List.mem_cons, List.not_mem_nil, or_false] at hp; rcases hp with rfl | rfl | rfl <;> (simp only; omega)) 2 (by rw [hcsz.out]; omega) (.int .i64 ((pc : Int) + 1))
      go_wp2_with ((go_at_call 49; ((with_reducible refine (cLo _).mono ?_); rintro e w' ⟨rfl, rfl⟩)))
      refine ⟨⟨m, q.to (q.pc + 1), by omega, by go_num, by rw [hto.out, hpc'.out]; exact E4.sub (fun p hp => by simp only [List.mem_cons, List.not_mem_nil, or_false] at hp ⊢; rcases hp with rfl | rfl | rfl <;> simp), Lib.hid hq1.out, Lib.hid hqf.out, hlc, hrn⟩, by simp [intOf]⟩
    by_cases c44n : op = 44 ∧ q.r xa ≠ 0
    · skip
      obtain ⟨c44, hz⟩ := c44n
      subst c44
      obtain ⟨ha0, ha8⟩ := bA (by omega)
      have hse : step A ⟨44, xa, xb, xc, xn⟩ q = q.to (q.pc + 1) := by simp [step, hz]
      rw [hse] at hrn hlc
      clear hse
      obtain ⟨a, rfl⟩ : ∃ a : Nat, xa = a := ⟨xa.toNat, by omega⟩
      have ca := hreg.out a (by omega)
      generalize q.r a = ra at *
      have hzb : (ra == 0) = false := by simpa using hz
      replace hz := Lib.hid hz
      have E4 := E2.set (by omega) (fun p hp => by simp only [List.mem_cons, List.not_mem_nil, or_false] at hp; rcases hp with rfl | rfl | rfl <;> (simp only; omega)) 2 (by rw [hcsz.out]; omega) (.int .i64 ((pc : Int) + 1))
      go_wp2_with ((go_at_call 49; ((with_reducible refine (cLo _).mono ?_); rintro e w' ⟨rfl, rfl⟩)))
      refine ⟨⟨m, q.to (q.pc + 1), by omega, by go_num, by rw [hto.out, hpc'.out]; exact E4.sub (fun p hp => by simp only [List.mem_cons, List.not_mem_nil, or_false] at hp ⊢; rcases hp with rfl | rfl | rfl <;> simp), Lib.hid hq1.out, Lib.hid hqf.out, hlc, hrn⟩, by simp [intOf]⟩
    by_cases c44y : op = 44
    · skip
      subst c44y
      have hz : q.r xa = 0 := by by_cases h : q.r xa = 0; (· exact h); (· exact absurd ⟨rfl, h⟩ c44n)
      clear c44n
      obtain ⟨ha0, ha8⟩ := bA (by omega)
      have hse : step A ⟨44, xa, xb, xc, xn⟩ q = q.fin 4 1 := by simp [step, hz]
      rw [hse] at hrn hlc
      clear hse
      obtain ⟨a, rfl⟩ : ∃ a : Nat, xa = a := ⟨xa.toNat, by omega⟩
      have ca := hreg.out a (by omega)
      generalize q.r a = ra at *
      have hzb : (ra == 0) = true := by simpa using hz
      replace hz := Lib.hid hz
      have hrf := Lib.hid (show r.cs.toArray = #[.int .i64 4, .int .i64 (k : Int), .int .i64 (pc : Int), .int .i64 1, .int .i64 0, .int .i64 0, .int .i64 0, .int .i64 0, .int .i64 0, .int .i64 0, .int .i64 0, .int .i64 0] by rw [hrn.out, settle_stop (by simp [Gr.fin])]; simp [Gr.fin, Gr.cs, hqf.out, hpc'.out])
      clear hrn hlc
      go_wp2_with (first | ((go_at_call 49; ((with_reducible refine (cLo _).mono ?_); rintro e w' ⟨rfl, rfl⟩))) | ((go_at_call 51; ((with_reducible refine (ended_run _ _ _ _ _ _ _ _ _ _ _ _ _ _ _).mono ?_); rintro e w' ⟨rfl, hb⟩)); have E6 := E2.next hb; have y6 := E6.tl.tl.tl.h0.cell; have z6 := E6.tl.tl.tl.h0.fr; have l6 := E6.tl.tl.tl.h0.lt; have acc6 := E6.acc) | (refine list_load rfl _ _ rfl _ rfl _ (go12_lit E2.h0 hlit.out rfl) ?_))
      refine bodyPost_ret (v := .agg #[.int .i64 4, .int .i64 (k : Int), .int .i64 (pc : Int), .int .i64 1, .int .i64 0, .int .i64 0, .int .i64 0, .int .i64 0, .int .i64 0, .int .i64 0, .int .i64 0, .int .i64 0]) (by simp [results, Tryd.results36, go_sem, y6]) rfl ⟨by rw [hrf.out], (by repeat (first | (with_reducible assumption) | (with_reducible exact Below.refl _ _) | (with_reducible refine Below.drew ?_) | (with_reducible refine below_drewN ?_ _) | (with_reducible refine Below.setCell ?_ (by first | (simp; done) | (simp <;> omega)) _) | (with_reducible refine Below.alloc ?_ (by first | omega | (simp <;> omega)) _)))⟩
    by_cases c45 : op = 45
    · skip
      subst c45
      have hse : step A ⟨45, xa, xb, xc, xn⟩ q = q.fin 3 0 := by simp [step]
      rw [hse] at hrn hlc
      clear hse
      have hrf := Lib.hid (show r.cs.toArray = #[.int .i64 3, .int .i64 (k : Int), .int .i64 (pc : Int), .int .i64 0, .int .i64 0, .int .i64 0, .int .i64 0, .int .i64 0, .int .i64 0, .int .i64 0, .int .i64 0, .int .i64 0] by rw [hrn.out, settle_stop (by simp [Gr.fin])]; simp [Gr.fin, Gr.cs, hqf.out, hpc'.out])
      clear hrn hlc
      go_wp2_with (first | ((go_at_call 49; ((with_reducible refine (cLo _).mono ?_); rintro e w' ⟨rfl, rfl⟩))) | ((go_at_call 51; ((with_reducible refine (ended_run _ _ _ _ _ _ _ _ _ _ _ _ _ _ _).mono ?_); rintro e w' ⟨rfl, hb⟩)); have E6 := E2.next hb; have y6 := E6.tl.tl.tl.h0.cell; have z6 := E6.tl.tl.tl.h0.fr; have l6 := E6.tl.tl.tl.h0.lt; have acc6 := E6.acc) | (refine list_load rfl _ _ rfl _ rfl _ (go12_lit E2.h0 hlit.out rfl) ?_))
      refine bodyPost_ret (v := .agg #[.int .i64 3, .int .i64 (k : Int), .int .i64 (pc : Int), .int .i64 0, .int .i64 0, .int .i64 0, .int .i64 0, .int .i64 0, .int .i64 0, .int .i64 0, .int .i64 0, .int .i64 0]) (by simp [results, Tryd.results36, go_sem, y6]) rfl ⟨by rw [hrf.out], (by repeat (first | (with_reducible assumption) | (with_reducible exact Below.refl _ _) | (with_reducible refine Below.drew ?_) | (with_reducible refine below_drewN ?_ _) | (with_reducible refine Below.setCell ?_ (by first | (simp; done) | (simp <;> omega)) _) | (with_reducible refine Below.alloc ?_ (by first | omega | (simp <;> omega)) _)))⟩
    have hn : 1 ≤ op ∧ op ≤ 36 := by omega
    rw [hstp.out hn] at hrn hlc
    have q40 : (op == 40) = false := by simp; omega
    have q41 : (op == 41) = false := by simp; omega
    have q42 : (op == 42) = false := by simp; omega
    have q43 : (op == 43) = false := by simp; omega
    have q44 : (op == 44) = false := by simp; omega
    have q36 : decide (op ≤ 36) = true := by simp; omega
    obtain ⟨ha0, ha8⟩ := bA (by omega)
    obtain ⟨hb0, hb8⟩ := bB (by omega)
    by_cases cn0 : op ≤ 15
    · skip
      have q15 : decide (op ≤ 15) = true := by simp; omega
      rw [if_pos (show op ≤ 15 by omega)] at hrn hlc
      have hw := AW op (q.r xb) 0
      rw [if_neg (fun h => by have := hw.1 h; omega), if_neg (fun h => by have := hw.2 h; omega)] at hrn hlc
      clear hw
      obtain ⟨a, rfl⟩ : ∃ a : Nat, xa = a := ⟨xa.toNat, by omega⟩
      obtain ⟨b, rfl⟩ : ∃ b : Nat, xb = b := ⟨xb.toNat, by omega⟩
      have ca := Lib.hid (hreg.out a (by omega)); have cb := hreg.out b (by omega)
      have hap := Lib.hid (fun W hW => hA W hW op (q.r b) 0 hn.1 hn.2 (hrok.out _) ⟨by decide, by decide⟩)
      generalize A op (q.r b) 0 = D at *
      generalize q.r a = ra at *
      generalize q.r b = rb at *
      go_wp2_with ((go_at_call 49; ((with_reducible refine (cLo _).mono ?_); rintro e w' ⟨rfl, rfl⟩)))
      apply wp_toS (Env w [(w.heap.size + 1, gq), (bi, #[.int .i64 op, .int .i64 a, .int .i64 b, .int .i64 xc, .int .i64 xn]), (w.heap.size, #[.slice P.va P.vars.length P.vcap, .int .i64 P.locks, .slice P.ha P.chans.length P.hcap, .slice (some ⟨fb, fo, none⟩) P.funcs.length P.fcap]), (w.heap.size + 1 + 1, #[.int .i64 0, .int .i64 0, .int .i64 0, .int .i64 0, .int .i64 0, .int .i64 0, .int .i64 0, .int .i64 0, .int .i64 0, .int .i64 0, .int .i64 0, .int .i64 0])])
      · go_region_held3 (fun W => (∀ o, W.cell? ⟨w.heap.size + 1, o, none⟩ = gq[o]?) ∧ ∀ o, W.cell? ⟨bi, o, none⟩ = (#[.int .i64 op, .int .i64 a, .int .i64 b, .int .i64 xc, .int .i64 xn] : Array Value)[o]?) (first | assumption | exact E2.cells01 | exact E2.drew.cells01 | exact (E2.next hb1).cells01 | exact (E2.drew.next hb1).cells01)
          (first | (go_at_call 50; ((with_reducible refine (hap.out _ (by first | exact E2.acc | exact E2.acc.drew)).mono ?_); rintro e w' ⟨rfl, hb1⟩)))
        all_goals exact ToS.mk (E2.next (by first | exact hb1 | exact Below.trans (Below.drew (Below.refl _ _)) hb1))
      intro W2 E5
      clear y0 y1 y2 z0 z2 l0 l1 l2 acc hsz E2 hap
      have y0 := E5.h0.cell; have y1 := E5.tl.h0.cell; have y2 := E5.tl.tl.tl.h0.cell; have z0 := E5.h0.fr; have z2 := E5.tl.tl.tl.h0.fr; have l0 := E5.h0.lt; have l1 := E5.tl.h0.lt; have l2 := E5.tl.tl.tl.h0.lt; have acc := E5.acc; have hsz := acc.size
      have ca' := ca.out
      have E3 := E5.set (by omega) (fun p hp => by simp only [List.mem_cons, List.not_mem_nil, or_false] at hp; rcases hp with rfl | rfl | rfl <;> (simp only; omega)) (4 + a) (by rw [hcsz.out]; omega) (.int .i64 D.1)
      have y3 := E3.h0.cell; have z3 := E3.h0.fr; have l3 := E3.h0.lt; have c2' := set_get2 (k := a) (v := .int .i64 D.1) c2
      have E4 := E3.set (by omega) (fun p hp => by simp only [List.mem_cons, List.not_mem_nil, or_false] at hp; rcases hp with rfl | rfl | rfl <;> (simp only; omega)) 2 (by rw [Array.size_setIfInBounds, hcsz.out]; omega) (.int .i64 ((pc : Int) + 1))
      go_wp2
      refine ⟨⟨m, q.put a D.1, by omega, by go_num, by rw [hput.out, ← set_swap]; exact E4.sub (fun p hp => by simp only [List.mem_cons, List.not_mem_nil, or_false] at hp ⊢; rcases hp with rfl | rfl | rfl <;> simp), Lib.hid hq1.out, Lib.hid hqf.out, hlc, hrn⟩, by simp [intOf]⟩
    skip
    have q15 : decide (op ≤ 15) = false := by simp; omega
    obtain ⟨hc0, hc8⟩ := hbnd.out.c (by simp only; omega)
    simp only at hc0 hc8
    rw [if_neg (show ¬ op ≤ 15 by omega)] at hrn hlc
    obtain ⟨a, rfl⟩ : ∃ a : Nat, xa = a := ⟨xa.toNat, by omega⟩
    obtain ⟨b, rfl⟩ : ∃ b : Nat, xb = b := ⟨xb.toNat, by omega⟩
    obtain ⟨c, rfl⟩ : ∃ c : Nat, xc = c := ⟨xc.toNat, by omega⟩
    have ca := Lib.hid (hreg.out a (by omega)); have cb := hreg.out b (by omega)
    have cc := hreg.out c (by omega)
    have hap := Lib.hid (fun W hW => hA W hW op (q.r b) (q.r c) hn.1 hn.2 (hrok.out _) (hrok.out _))
    generalize A op (q.r b) (q.r c) = D at *
    generalize q.r a = ra at *
    generalize q.r b = rb at *
    generalize q.r c = rc at *
    go_wp2_with ((go_at_call 49; ((with_reducible refine (cLo _).mono ?_); rintro e w' ⟨rfl, rfl⟩)))
    apply wp_toS (Env w [(w.heap.size + 1, gq), (bi, #[.int .i64 op, .int .i64 a, .int .i64 b, .int .i64 c, .int .i64 xn]), (w.heap.size, #[.slice P.va P.vars.length P.vcap, .int .i64 P.locks, .slice P.ha P.chans.length P.hcap, .slice (some ⟨fb, fo, none⟩) P.funcs.length P.fcap]), (w.heap.size + 1 + 1, #[.int .i64 0, .int .i64 0, .int .i64 0, .int .i64 0, .int .i64 0, .int .i64 0, .int .i64 0, .int .i64 0, .int .i64 0, .int .i64 0, .int .i64 0, .int .i64 0])])
    · go_region_held3 (fun W => (∀ o, W.cell? ⟨w.heap.size + 1, o, none⟩ = gq[o]?) ∧ ∀ o, W.cell? ⟨bi, o, none⟩ = (#[.int .i64 op, .int .i64 a, .int .i64 b, .int .i64 c, .int .i64 xn] : Array Value)[o]?) (first | assumption | exact E2.cells01 | exact E2.drew.cells01 | exact (E2.next hb1).cells01 | exact (E2.drew.next hb1).cells01)
        (first | (go_at_call 50; ((with_reducible refine (hap.out _ (by first | exact E2.acc | exact E2.acc.drew)).mono ?_); rintro e w' ⟨rfl, hb1⟩)))
      all_goals exact ToS.mk (E2.next (by first | exact hb1 | exact Below.trans (Below.drew (Below.refl _ _)) hb1))
    intro W2 E5
    clear y0 y1 y2 z0 z2 l0 l1 l2 acc hsz E2 hap
    have y0 := E5.h0.cell; have y1 := E5.tl.h0.cell; have y2 := E5.tl.tl.tl.h0.cell; have z0 := E5.h0.fr; have z2 := E5.tl.tl.tl.h0.fr; have l0 := E5.h0.lt; have l1 := E5.tl.h0.lt; have l2 := E5.tl.tl.tl.h0.lt; have acc := E5.acc; have hsz := acc.size
    by_cases e1 : D.2 = 20
    · rw [if_pos e1] at hrn hlc
      have e20 : (D.2 == 20) = true := by simpa using e1
      replace e1 := Lib.hid e1
      have hrf := Lib.hid (show r.cs.toArray = #[.int .i64 4, .int .i64 (k : Int), .int .i64 (pc : Int), .int .i64 2, .int .i64 0, .int .i64 0, .int .i64 0, .int .i64 0, .int .i64 0, .int .i64 0, .int .i64 0, .int .i64 0] by rw [hrn.out, settle_stop (by simp [Gr.fin])]; simp [Gr.fin, Gr.cs, hqf.out, hpc'.out])
      clear hrn hlc
      go_wp2_with (first | ((go_at_call 49; ((with_reducible refine (cLo _).mono ?_); rintro e w' ⟨rfl, rfl⟩))) | ((go_at_call 51; ((with_reducible refine (ended_run _ _ _ _ _ _ _ _ _ _ _ _ _ _ _).mono ?_); rintro e w' ⟨rfl, hb⟩)); have E6 := E5.next hb; have y6 := E6.tl.tl.tl.h0.cell; have z6 := E6.tl.tl.tl.h0.fr; have l6 := E6.tl.tl.tl.h0.lt; have acc6 := E6.acc) | (refine list_load rfl _ _ rfl _ rfl _ (go12_lit E5.h0 hlit.out rfl) ?_))
      refine bodyPost_ret (v := .agg #[.int .i64 4, .int .i64 (k : Int), .int .i64 (pc : Int), .int .i64 2, .int .i64 0, .int .i64 0, .int .i64 0, .int .i64 0, .int .i64 0, .int .i64 0, .int .i64 0, .int .i64 0]) (by simp [results, Tryd.results36, go_sem, y6]) rfl ⟨by rw [hrf.out], (by repeat (first | (with_reducible assumption) | (with_reducible exact Below.refl _ _) | (with_reducible refine Below.drew ?_) | (with_reducible refine below_drewN ?_ _) | (with_reducible refine Below.setCell ?_ (by first | (simp; done) | (simp <;> omega)) _) | (with_reducible refine Below.alloc ?_ (by first | omega | (simp <;> omega)) _)))⟩
    have e20 : (D.2 == 20) = false := by simpa using e1
    rw [if_neg e1] at hrn hlc
    replace e1 := Lib.hid e1
    by_cases e2 : D.2 = 21
    · rw [if_pos e2] at hrn hlc
      have e21 : (D.2 == 21) = true := by simpa using e2
      replace e2 := Lib.hid e2
      have hrf := Lib.hid (show r.cs.toArray = #[.int .i64 4, .int .i64 (k : Int), .int .i64 (pc : Int), .int .i64 3, .int .i64 0, .int .i64 0, .int .i64 0, .int .i64 0, .int .i64 0, .int .i64 0, .int .i64 0, .int .i64 0] by rw [hrn.out, settle_stop (by simp [Gr.fin])]; simp [Gr.fin, Gr.cs, hqf.out, hpc'.out])
      clear hrn hlc
      go_wp2_with (first | ((go_at_call 49; ((with_reducible refine (cLo _).mono ?_); rintro e w' ⟨rfl, rfl⟩))) | ((go_at_call 51; ((with_reducible refine (ended_run _ _ _ _ _ _ _ _ _ _ _ _ _ _ _).mono ?_); rintro e w' ⟨rfl, hb⟩)); have E6 := E5.next hb; have y6 := E6.tl.tl.tl.h0.cell; have z6 := E6.tl.tl.tl.h0.fr; have l6 := E6.tl.tl.tl.h0.lt; have acc6 := E6.acc) | (refine list_load rfl _ _ rfl _ rfl _ (go12_lit E5.h0 hlit.out rfl) ?_))
      refine bodyPost_ret (v := .agg #[.int .i64 4, .int .i64 (k : Int), .int .i64 (pc : Int), .int .i64 3, .int .i64 0, .int .i64 0, .int .i64 0, .int .i64 0, .int .i64 0, .int .i64 0, .int .i64 0, .int .i64 0]) (by simp [results, Tryd.results36, go_sem, y6]) rfl ⟨by rw [hrf.out], (by repeat (first | (with_reducible assumption) | (with_reducible exact Below.refl _ _) | (with_reducible refine Below.drew ?_) | (with_reducible refine below_drewN ?_ _) | (with_reducible refine Below.setCell ?_ (by first | (simp; done) | (simp <;> omega)) _) | (with_reducible refine Below.alloc ?_ (by first | omega | (simp <;> omega)) _)))⟩
    have e21 : (D.2 == 21) = false := by simpa using e2
    rw [if_neg e2] at hrn hlc
    replace e2 := Lib.hid e2
    have ca' := ca.out
    have E3 := E5.set (by omega) (fun p hp => by simp only [List.mem_cons, List.not_mem_nil, or_false] at hp; rcases hp with rfl | rfl | rfl <;> (simp only; omega)) (4 + a) (by rw [hcsz.out]; omega) (.int .i64 D.1)
    have y3 := E3.h0.cell; have z3 := E3.h0.fr; have l3 := E3.h0.lt; have c2' := set_get2 (k := a) (v := .int .i64 D.1) c2
    have E4 := E3.set (by omega) (fun p hp => by simp only [List.mem_cons, List.not_mem_nil, or_false] at hp; rcases hp with rfl | rfl | rfl <;> (simp only; omega)) 2 (by rw [Array.size_setIfInBounds, hcsz.out]; omega) (.int .i64 ((pc : Int) + 1))
    go_wp2
    refine ⟨⟨m, q.put a D.1, by omega, by go_num, by rw [hput.out, ← set_swap]; exact E4.sub (fun p hp => by simp only [List.mem_cons, List.not_mem_nil, or_false] at hp ⊢; rcases hp with rfl | rfl | rfl <;> simp), Lib.hid hq1.out, Lib.hid hqf.out, hlc, hrn⟩, by simp [intOf]⟩
end Go.Proofs.YtbcdeanmjhcgeaaDoor.Pg
