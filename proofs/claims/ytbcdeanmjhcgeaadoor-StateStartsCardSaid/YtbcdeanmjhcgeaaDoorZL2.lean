/- Local instructions, walked: all of them, and all that a goroutine runs with its fuel. -/
import Derived.Test.YtbcdeanmjhcgeaaDoorZL1
namespace Go.Proofs.YtbcdeanmjhcgeaaDoor.Pg
set_option linter.unusedVariables false
set_option linter.unusedSimpArgs false
open Go.ChangeShapes Go.WideShapes Go.RowKit
set_option linter.unusedVariables false
theorem local_any {A : Int → Int → Int → Int × Int} (x : Ins) (g : Gr) (w : World) (hg : g.ok) (hp : 0 ≤ g.pc ∧ g.pc < 64) (hx : Bnd x) (hl : loc x.op = true) (hA : AppW A w) :
    Calls Tryd.prog 48 #[g.v, x.v] w fun e w' => e = .returned (step A x g).v ∧ Below w.heap.size w w' := by
  obtain ⟨op, xa, xb, xc, xn⟩ := x
  unfold loc at hl
  simp only [decide_eq_true_eq] at hl
  obtain ⟨ha, hb, hc⟩ := hx
  simp only at ha hb hc
  unfold Ins.v
  by_cases h0 : op = 40
  · subst h0
    rw [show step A ⟨40, xa, xb, xc, xn⟩ g = g.put xa xn by simp [step]]
    exact local_40 A g xa xb xc xn w hg hp (ha (by omega))
  by_cases h1 : op = 41
  · subst h1
    rw [show step A ⟨41, xa, xb, xc, xn⟩ g = g.put xa (g.r xb) by simp [step]]
    exact local_41 A g xa xb xc xn w hg hp (ha (by omega)) (hb (by omega))
  by_cases h2 : op = 42
  · subst h2
    rw [show step A ⟨42, xa, xb, xc, xn⟩ g = g.to xa by simp [step]]
    exact local_42 A g xa xb xc xn w hg hp
  by_cases h3 : op = 43
  · subst h3
    by_cases hz : g.r xa = 0
    · rw [show step A ⟨43, xa, xb, xc, xn⟩ g = g.to (g.pc + 1) by simp [step, hz]]
      exact local_43n A g xa xb xc xn w hg hp (ha (by omega)) hz
    · rw [show step A ⟨43, xa, xb, xc, xn⟩ g = g.to xb by simp [step, hz]]
      exact local_43y A g xa xb xc xn w hg hp (ha (by omega)) hz
  by_cases h4 : op = 44
  · subst h4
    by_cases hz : g.r xa = 0
    · rw [show step A ⟨44, xa, xb, xc, xn⟩ g = g.fin 4 1 by simp [step, hz]]
      exact local_44y A g xa xb xc xn w hg hp (ha (by omega)) hz
    · rw [show step A ⟨44, xa, xb, xc, xn⟩ g = g.to (g.pc + 1) by simp [step, hz]]
      exact local_44n A g xa xb xc xn w hg hp (ha (by omega)) hz
  by_cases h5 : op = 45
  · subst h5
    rw [show step A ⟨45, xa, xb, xc, xn⟩ g = g.fin 3 0 by simp [step]]
    exact local_45 A g xa xb xc xn w hg hp
  have hn : 1 ≤ op ∧ op ≤ 36 := by omega
  rw [step_num (x := ⟨op, xa, xb, xc, xn⟩) hn]
  simp only
  by_cases h15 : op ≤ 15
  · rw [if_pos h15]
    by_cases e1 : (A op (g.r xb) 0).2 = 20
    · rw [if_pos e1]
      exact local_n0_20 A g op xa xb xc xn w hg hp (ha (by omega)) (hb (by omega)) (by omega) hA e1
    · rw [if_neg e1]
      by_cases e2 : (A op (g.r xb) 0).2 = 21
      · rw [if_pos e2]
        exact local_n0_21 A g op xa xb xc xn w hg hp (ha (by omega)) (hb (by omega)) (by omega) hA e2
      · rw [if_neg e2]
        exact local_n0_0 A g op xa xb xc xn w hg hp (ha (by omega)) (hb (by omega)) (by omega) hA ⟨e1, e2⟩
  · rw [if_neg h15]
    by_cases e1 : (A op (g.r xb) (g.r xc)).2 = 20
    · rw [if_pos e1]
      exact local_n1_20 A g op xa xb xc xn w hg hp (ha (by omega)) (hb (by omega)) (hc (by omega)) (by omega) hA e1
    · rw [if_neg e1]
      by_cases e2 : (A op (g.r xb) (g.r xc)).2 = 21
      · rw [if_pos e2]
        exact local_n1_21 A g op xa xb xc xn w hg hp (ha (by omega)) (hb (by omega)) (hc (by omega)) (by omega) hA e2
      · rw [if_neg e2]
        exact local_n1_0 A g op xa xb xc xn w hg hp (ha (by omega)) (hb (by omega)) (hc (by omega)) (by omega) hA ⟨e1, e2⟩
theorem settle_stop {A : Int → Int → Int → Int × Int} {P : Pg} {n : Nat} {g : Gr} (h : ¬ (g.status = 1 ∧ loc (g.ins P).op = true)) : settle A P n g = g := by
  cases n with
  | zero => unfold settle; rw [if_neg h]
  | succ n => unfold settle; rw [if_neg h]
theorem settle_spun {A : Int → Int → Int → Int × Int} {P : Pg} {g : Gr} (h : g.status = 1 ∧ loc (g.ins P).op = true) : settle A P 0 g = ⟨5, g.func, g.pc, g.why, g.regs⟩ := by unfold settle; rw [if_pos h]
theorem settle_next {A : Int → Int → Int → Int × Int} {P : Pg} {n : Nat} {g : Gr} (h : g.status = 1 ∧ loc (g.ins P).op = true) : settle A P (n + 1) g = settle A P n (step A (g.ins P) g) := by
  rw [settle, if_pos h]
theorem Env.sets12 {w W : World} {b : Nat} {bs : List (Nat × Array Value)} {a0 a1 a2 a3 a4 a5 a6 a7 a8 a9 a10 a11 : Value} (v0 v1 v2 v3 v4 v5 v6 v7 v8 v9 v10 v11 : Value) (E : Env w ((b, #[a0, a1, a2, a3, a4, a5, a6, a7, a8, a9, a10, a11]) :: bs) W) (hb : w.heap.size ≤ b) (ne : ∀ p ∈ bs, p.1 ≠ b) :
    Env w ((b, #[v0, v1, v2, v3, v4, v5, v6, v7, v8, v9, v10, v11]) :: bs) ((((((((((((W.setCell ⟨b, 0, none⟩ v0).setCell ⟨b, 1, none⟩ v1).setCell ⟨b, 2, none⟩ v2).setCell ⟨b, 3, none⟩ v3).setCell ⟨b, 4, none⟩ v4).setCell ⟨b, 5, none⟩ v5).setCell ⟨b, 6, none⟩ v6).setCell ⟨b, 7, none⟩ v7).setCell ⟨b, 8, none⟩ v8).setCell ⟨b, 9, none⟩ v9).setCell ⟨b, 10, none⟩ v10).setCell ⟨b, 11, none⟩ v11) := by
  replace E := E.set hb ne 0 (by simp) v0
  replace E := E.set hb ne 1 (by simp) v1
  replace E := E.set hb ne 2 (by simp) v2
  replace E := E.set hb ne 3 (by simp) v3
  replace E := E.set hb ne 4 (by simp) v4
  replace E := E.set hb ne 5 (by simp) v5
  replace E := E.set hb ne 6 (by simp) v6
  replace E := E.set hb ne 7 (by simp) v7
  replace E := E.set hb ne 8 (by simp) v8
  replace E := E.set hb ne 9 (by simp) v9
  replace E := E.set hb ne 10 (by simp) v10
  replace E := E.set hb ne 11 (by simp) v11
  simpa using E
/-- The instruction's cells. -/
theorem Fn.In.at {w : World} {f : Fn} (J : f.In w) (m : Nat) (hm : m < f.code.length) : ∃ cb co, f.ca = some ⟨cb, co, none⟩ ∧ cb < w.heap.size ∧ w.rangeAt cb (co + m * 5) (f.at m).cs := by
  obtain ⟨cb, co, hca, hcbl, hC⟩ := J.ins (by omega)
  refine ⟨cb, co, hca, hcbl, hC m _ ?_⟩
  unfold Fn.at
  simp [hm]
theorem Fn.In.at_ok {w : World} {f : Fn} (J : f.In w) (m : Nat) (hm : m < f.code.length) : (f.at m).ok := by
  refine J.oks _ ?_
  unfold Fn.at
  rw [List.getD_eq_getElem?_getD, List.getElem?_eq_getElem (by simpa using hm)]
  exact List.getElem_mem _
set_option maxHeartbeats 8000000 in
set_option maxRecDepth 100000 in
theorem settled_walk {A : Int → Int → Int → Int × Int} (AI : AluOk A) (AW : AluWhy A) (P : Pg) (R : Rt P) (g : Gr) (n : Nat) (w : World) (I : P.In w) (hg : Stood P g) (hn : n ≤ 4096) (hA : AppW A w) :
    Calls Tryd.prog 35 #[P.v, g.v, .int .i64 n] w fun e w' => e = .returned (settle A P n g).v ∧ Below w.heap.size w w' := by
  obtain ⟨r, hr⟩ : ∃ r, Hid (r = settle A P n g) := ⟨_, Lib.hid rfl⟩
  rw [← hr.out]
  obtain ⟨k, hk⟩ : ∃ k : Nat, g.func = k := ⟨g.func.toNat, by have := hg.f0; omega⟩
  have hkl : k < P.funcs.length := by have := hg.f1; omega
  obtain ⟨fb, fo, hfa, hfl, hF⟩ := I.func (by omega)
  have s2 := hF k P.funcs[k] (by simp) 2 _ rfl
  have J := I.funcs P.funcs[k] (List.getElem_mem _)
  have hfn : P.fn (k : Int) = P.funcs[k] := by unfold Pg.fn; simp [hkl]
  have hlf := I.lenF; have hlc := J.lenC
  unfold Len at hlf hlc
  have c1 : g.cs.toArray[1]? = some (.int .i64 k) := by simp [Gr.cs, hk]
  rw [← hfn] at s2 J hlc
  obtain ⟨cb, co, hca, hcbl, _⟩ := J.at g.pc.toNat (by have := hg.p0; have := hg.p1; rw [hk] at this; omega)
  rw [hca] at s2
  have hg' := Lib.hid hg; have hk' := Lib.hid hk
  have hI := Lib.hid I; have hJ := Lib.hid J; have hca' := Lib.hid hca
  clear hF hfn J hg hk hca
  unfold Gr.v Pg.v
  rw [hfa]
  have hfl1 : fb < w.heap.size + 1 := by omega
  have hfl2 : fb < w.heap.size + 1 + 1 := by omega
  have hfl3 : fb < w.heap.size + 1 + 1 + 1 := by omega
  have hga' := Lib.hid (rfl : g.cs.toArray = g.cs.toArray)
  obtain ⟨ga, hga⟩ : ∃ ga, Hid (ga = g.cs.toArray) := ⟨_, Lib.hid rfl⟩
  rw [← hga.out] at c1 ⊢
  clear hga'
  go_enter Tryd.func35, Tryd.ntmps35
  go_wp2
  have E0 := ((((Env.nil (w := w)).push w.heap.size rfl #[.slice P.va P.vars.length P.vcap, .int .i64 P.locks, .slice P.ha P.chans.length P.hcap, .slice (some ⟨fb, fo, none⟩) P.funcs.length P.fcap] 41).push (w.heap.size + 1) (by simp) ga 29).push (w.heap.size + 1 + 1) (by simp) #[.int .i64 0, .int .i64 0, .int .i64 0, .int .i64 0, .int .i64 0, .int .i64 0, .int .i64 0, .int .i64 0, .int .i64 0, .int .i64 0, .int .i64 0, .int .i64 0] 29).sub (cs := [(w.heap.size + 1, ga), (w.heap.size, #[.slice P.va P.vars.length P.vcap, .int .i64 P.locks, .slice P.ha P.chans.length P.hcap, .slice (some ⟨fb, fo, none⟩) P.funcs.length P.fcap]), (w.heap.size + 1 + 1, #[.int .i64 0, .int .i64 0, .int .i64 0, .int .i64 0, .int .i64 0, .int .i64 0, .int .i64 0, .int .i64 0, .int .i64 0, .int .i64 0, .int .i64 0, .int .i64 0])]) (fun p hp => by simp only [List.mem_cons, List.not_mem_nil, or_false] at hp ⊢; rcases hp with rfl | rfl | rfl <;> simp)
  go_loopw [2] (fun f wr => ∃ m : Nat, ∃ g' : Gr, m ≤ 4096 ∧ f = .int .i64 m ∧ Env w [(w.heap.size + 1, g'.cs.toArray), (w.heap.size, #[.slice P.va P.vars.length P.vcap, .int .i64 P.locks, .slice P.ha P.chans.length P.hcap, .slice (some ⟨fb, fo, none⟩) P.funcs.length P.fcap]), (w.heap.size + 1 + 1, #[.int .i64 0, .int .i64 0, .int .i64 0, .int .i64 0, .int .i64 0, .int .i64 0, .int .i64 0, .int .i64 0, .int .i64 0, .int .i64 0, .int .i64 0, .int .i64 0])] wr ∧ Hid (g'.func = k) ∧ Hid (Stood P g') ∧ Hid (r = settle A P m g')) (fun f _ => (intOf f).toNat)
  case atStart => exact ⟨n, g, hn, rfl, by rw [← hga.out]; exact E0, hk', hg', hr⟩
  case round =>
    clear E0 hr hg' hk' hga c1 s2 hn
    obtain ⟨m, q, hm, rfl, E1, hqf, hq, hr⟩ := hrel
    obtain ⟨pc, hpc⟩ : ∃ pc : Nat, q.pc = pc := ⟨q.pc.toNat, by have := hq.out.p0; omega⟩
    have hpl : pc < (P.fn k).code.length := by have := hq.out.p1; rw [hqf.out] at this; omega
    have J := hJ.out.below E1.acc
    obtain ⟨cb', co', hca2, hcl, hC⟩ := J.at pc hpl
    obtain ⟨rfl, rfl⟩ : cb' = cb ∧ co' = co := by have e := hca2.symm.trans hca'.out; simp at e; exact ⟨e.1, e.2⟩
    have hin : q.ins P = (P.fn k).at pc := by unfold Gr.ins; rw [hqf.out, hpc]
    have hxok := Lib.hid (hin ▸ J.at_ok pc hpl : (q.ins P).ok)
    have t0 := hC 0 _ rfl
    have t1 := hC 1 _ rfl
    have t2 := hC 2 _ rfl
    have t3 := hC 3 _ rfl
    have t4 := hC 4 _ rfl
    have hq0 := hq.out
    have hloc := Lib.hid (fun (hl : loc (q.ins P).op = true) => hq0.step R AI AW hxok.out hl)
    have hbnd := Lib.hid (hq0.bnd R)
    have hp64 := Lib.hid (hq0.pc64 R)
    have hsf := Lib.hid (step_func A (q.ins P) q)
    have hst0 := Lib.hid (fun h => settle_stop (A := A) (P := P) (n := m) (g := q) h)
    have hst1 := Lib.hid (fun h => settle_spun (A := A) (P := P) (g := q) h)
    have hst2 := Lib.hid (fun j h => settle_next (A := A) (P := P) (n := j) (g := q) h)
    obtain ⟨sg, hsg⟩ : ∃ sg, Hid (sg = step A (q.ins P) q) := ⟨_, Lib.hid rfl⟩
    rw [← hsg.out] at hloc hsf hst2
    have cL := Lib.hid (fun (hl : loc (q.ins P).op = true) W hW => local_any (A := A) (q.ins P) q W hq0.ok hp64.out hbnd.out hl (hA.below hW))
    rw [← hsg.out] at cL
    have hqok := Lib.hid hq0.ok
    have hsl := Lib.hid (fun (hl : loc (q.ins P).op = true) => Gr.lit (hloc.out hl).ok.len)
    clear hq hC hq0 hca2 hsg hp64 hbnd J
    rw [hin] at *
    clear hin
    generalize (P.fn k).at pc = x at *
    obtain ⟨op, xa, xb, xc, xn⟩ := x
    simp only [Nat.add_zero] at t0
    unfold Ins.v at cL
    simp only at cL hst0 hst1 hst2 hsl hloc
    obtain ⟨x0, x1, x2, x3, x4, x5, x6, x7, hrg⟩ := eight hqok.out.len
    obtain ⟨gs, gf, gpc, gw, regs⟩ := q
    simp only at hrg hpc
    obtain rfl : gf = k := hqf.out
    subst hrg; subst hpc
    unfold Gr.cs at E1
    simp only [List.map_cons, List.map_nil, List.cons_append, List.nil_append] at E1
    simp only at hst0 hst1 hst2
    have y0 := E1.h0.cell; have y1 := E1.tl.h0.cell; have y2 := E1.tl.tl.h0.cell; have z0 := E1.h0.fr; have z2 := E1.tl.tl.h0.fr; have l0 := E1.h0.lt; have l1 := E1.tl.h0.lt; have l2 := E1.tl.tl.h0.lt
    by_cases hs1 : gs = 1
    · subst hs1
      obtain ⟨bl, hbl⟩ : ∃ bl, Hid (bl = loc op) := ⟨_, Lib.hid rfl⟩
      have cLo := fun W => local_walk op W
      rw [← hbl.out] at cL hst0 hst1 hst2 hsl hloc
      simp only [← hbl.out] at cLo
      cases bl
      · have hrv := Lib.hid (hr.out.trans (hst0.out (fun h => by simp at h)))
        clear hr hst0 hst1 hst2 cL hloc hsl
        go_wp2_with ((go_at_call 47; ((with_reducible refine (cLo _).mono ?_); rintro e w' ⟨rfl, rfl⟩)))
        have acc := E1.acc; have hsz := acc.size
        refine bodyPost_ret (v := .agg #[.int .i64 1, .int .i64 (k : Int), .int .i64 pc, .int .i64 gw, .int .i64 x0, .int .i64 x1, .int .i64 x2, .int .i64 x3, .int .i64 x4, .int .i64 x5, .int .i64 x6, .int .i64 x7]) (by simp [results, Tryd.results35, go_sem, y2]) rfl ⟨by rw [hrv.out]; rfl, (by repeat (first | (with_reducible assumption) | (with_reducible exact Below.refl _ _) | (with_reducible refine Below.drew ?_) | (with_reducible refine below_drewN ?_ _) | (with_reducible refine Below.setCell ?_ (by first | (simp; done) | (simp <;> omega)) _) | (with_reducible refine Below.alloc ?_ (by first | omega | (simp <;> omega)) _)))⟩
      · cases m with
        | zero =>
          have hrv := Lib.hid (hr.out.trans (hst1.out ⟨rfl, rfl⟩))
          clear hr hst0 hst1 hst2 cL hloc hsl
          go_wp2_with ((go_at_call 47; ((with_reducible refine (cLo _).mono ?_); rintro e w' ⟨rfl, rfl⟩)))
          have acc := E1.acc; have hsz := acc.size
          refine bodyPost_ret (v := .agg #[.int .i64 5, .int .i64 (k : Int), .int .i64 pc, .int .i64 gw, .int .i64 x0, .int .i64 x1, .int .i64 x2, .int .i64 x3, .int .i64 x4, .int .i64 x5, .int .i64 x6, .int .i64 x7]) (by simp [results, Tryd.results35, go_sem, y2]) rfl ⟨by rw [hrv.out]; rfl, (by repeat (first | (with_reducible assumption) | (with_reducible exact Below.refl _ _) | (with_reducible refine Below.drew ?_) | (with_reducible refine below_drewN ?_ _) | (with_reducible refine Below.setCell ?_ (by first | (simp; done) | (simp <;> omega)) _) | (with_reducible refine Below.alloc ?_ (by first | omega | (simp <;> omega)) _)))⟩
        | succ m =>
          have hrn := Lib.hid (hr.out.trans (hst2.out m ⟨rfl, rfl⟩))
          clear hr hst0 hst1 hst2
          obtain ⟨v0, v1, v2, v3, v4, v5, v6, v7, v8, v9, v10, v11, hY⟩ := hsl.out rfl
          have cL' := Lib.hid (fun W hW => cL.out rfl W hW)
          rw [show sg.v = .agg #[.int .i64 v0, .int .i64 v1, .int .i64 v2, .int .i64 v3, .int .i64 v4, .int .i64 v5, .int .i64 v6, .int .i64 v7, .int .i64 v8, .int .i64 v9, .int .i64 v10, .int .i64 v11] by unfold Gr.v; rw [hY]] at cL'
          have hY' := Lib.hid hY; clear hY cL hsl
          unfold Gr.v Gr.cs at cL'
          simp only [List.map_cons, List.map_nil, List.cons_append, List.nil_append] at cL'
          go_wp2_with ((go_at_call 47; ((with_reducible refine (cLo _).mono ?_); rintro e w' ⟨rfl, rfl⟩)))
          have J := hJ.out
          apply wp_toS (Env w [(w.heap.size + 1, #[.int .i64 v0, .int .i64 v1, .int .i64 v2, .int .i64 v3, .int .i64 v4, .int .i64 v5, .int .i64 v6, .int .i64 v7, .int .i64 v8, .int .i64 v9, .int .i64 v10, .int .i64 v11]), (w.heap.size, #[.slice P.va P.vars.length P.vcap, .int .i64 P.locks, .slice P.ha P.chans.length P.hcap, .slice (some ⟨fb, fo, none⟩) P.funcs.length P.fcap]), (w.heap.size + 1 + 1, #[.int .i64 0, .int .i64 0, .int .i64 0, .int .i64 0, .int .i64 0, .int .i64 0, .int .i64 0, .int .i64 0, .int .i64 0, .int .i64 0, .int .i64 0, .int .i64 0])])
          · have acc := E1.acc; have hsz := acc.size
            go_region_with (first | ((go_at_call 48; ((with_reducible refine (cL'.out _ (by first | exact acc | exact acc.drew | exact below_drewN acc _)).mono ?_); rintro e w' ⟨rfl, hb1⟩)); have E2 : Env w [(w.heap.size + 1, #[.int .i64 1, .int .i64 (k : Int), .int .i64 pc, .int .i64 gw, .int .i64 x0, .int .i64 x1, .int .i64 x2, .int .i64 x3, .int .i64 x4, .int .i64 x5, .int .i64 x6, .int .i64 x7]), (w.heap.size, #[.slice P.va P.vars.length P.vcap, .int .i64 P.locks, .slice P.ha P.chans.length P.hcap, .slice (some ⟨fb, fo, none⟩) P.funcs.length P.fcap]), (w.heap.size + 1 + 1, #[.int .i64 0, .int .i64 0, .int .i64 0, .int .i64 0, .int .i64 0, .int .i64 0, .int .i64 0, .int .i64 0, .int .i64 0, .int .i64 0, .int .i64 0, .int .i64 0])] w' := (by first | exact E1.next hb1 | exact E1.drew.next hb1 | exact (E1.drewN _).next hb1); have y3 := E2.h0.cell; have z3 := E2.h0.fr; have l3 := E2.h0.lt))
            all_goals exact ToS.mk (E2.sets12 _ _ _ _ _ _ _ _ _ _ _ _ (by omega) (fun p hp => by simp only [List.mem_cons, List.not_mem_nil, or_false] at hp; rcases hp with rfl | rfl <;> (simp only; omega)))
          intro W1 E3
          go_wp2
          refine ⟨⟨m, sg, by omega, by go_num, by rw [hY'.out]; exact E3, Lib.hid hsf.out, Lib.hid (hloc.out (by first | trivial | rfl)), hrn⟩, by simp [intOf]⟩
    · have hsb : (gs == 1) = false := by simpa using hs1
      have hrv := Lib.hid (hr.out.trans (hst0.out (fun h => hs1 h.1)))
      clear hr hst0 hst1 hst2 cL hloc hsl
      replace hs1 := Lib.hid hs1
      go_wp2
      have acc := E1.acc; have hsz := acc.size
      refine bodyPost_ret (v := .agg #[.int .i64 gs, .int .i64 (k : Int), .int .i64 pc, .int .i64 gw, .int .i64 x0, .int .i64 x1, .int .i64 x2, .int .i64 x3, .int .i64 x4, .int .i64 x5, .int .i64 x6, .int .i64 x7]) (by simp [results, Tryd.results35, go_sem, y2]) rfl ⟨by rw [hrv.out]; rfl, (by repeat (first | (with_reducible assumption) | (with_reducible exact Below.refl _ _) | (with_reducible refine Below.drew ?_) | (with_reducible refine below_drewN ?_ _) | (with_reducible refine Below.setCell ?_ (by first | (simp; done) | (simp <;> omega)) _) | (with_reducible refine Below.alloc ?_ (by first | omega | (simp <;> omega)) _)))⟩
end Go.Proofs.YtbcdeanmjhcgeaaDoor.Pg
