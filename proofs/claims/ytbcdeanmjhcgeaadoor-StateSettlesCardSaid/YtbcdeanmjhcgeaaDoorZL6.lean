/- Settle, walked: a goroutine that runs, and one that is left. Both sides. -/
import Derived.Test.YtbcdeanmjhcgeaaDoorZL5
namespace Go.Proofs.YtbcdeanmjhcgeaaDoor.Pg
set_option linter.unusedVariables false
set_option linter.unusedSimpArgs false
open Go.ChangeShapes Go.WideShapes Go.RowKit
set_option linter.unusedVariables false
theorem valid_right {P : Pg} {s : St} (h : valid P s = true) : right P = true := by
  rw [valid_eq, Bool.and_eq_true] at h; exact h.1
theorem valid_count {P : Pg} {s : St} (h : valid P s = true) : 1 ≤ s.count ∧ s.count ≤ 6 := by
  rw [valid_eq, Bool.and_eq_true, Bool.and_eq_true, decide_eq_true_eq] at h; exact h.2.1
theorem valid_gos {P : Pg} {s : St} (h : valid P s = true) : gosOk P s = true := by
  rw [valid_eq] at h
  simp only [Bool.and_eq_true] at h
  exact h.2.2.2.2.1
theorem valid_fits {P : Pg} {s : St} (h : valid P s = true) (k : Nat) (hk : (k : Int) < s.count) : fits P (s.gos.getD k default) = true := by
  have hc := valid_count h
  have hg := valid_gos h
  unfold gosOk at hg
  rw [List.all_eq_true] at hg
  have := hg k (List.mem_range.2 (by omega))
  rw [if_pos hk] at this
  exact this
theorem stood_of {P : Pg} {g : Gr} (hg : g.ok) (h : stands P g = true) : Stood P g := by
  unfold stands at h
  simp only [Bool.and_eq_true, decide_eq_true_eq] at h
  exact ⟨hg, h.1.2.2.1, h.1.2.2.2, h.2.1, h.2.2⟩
theorem valid_stood {P : Pg} {s : St} (hs : s.ok) (h : valid P s = true) (k : Nat) (hk : (k : Int) < s.count) : Stood P (s.gos.getD k default) := by
  have hc := valid_count h
  have hf := valid_fits h k hk
  rw [fits_eq, Bool.and_eq_true] at hf
  exact stood_of (go_ok hs k (by omega)) hf.1
theorem Stood.settle {A : Int → Int → Int → Int × Int} {P : Pg} (R : Rt P) (hA : AluOk A) (W : AluWhy A) (hx : ∀ f ∈ P.funcs, ∀ x ∈ f.code, x.ok) : ∀ (n : Nat) (g : Gr), Stood P g → Stood P (settle A P n g) := by
  intro n
  induction n with
  | zero =>
    intro g h
    by_cases hc : g.status = 1 ∧ loc (g.ins P).op = true
    · rw [settle_spun hc]
      exact ⟨⟨i64_small (n := 5) (by omega) (by omega), h.ok.fn, h.ok.pc, h.ok.why, h.ok.regs, h.ok.len⟩, h.f0, h.f1, h.p0, h.p1⟩
    · rw [settle_stop hc]; exact h
  | succ n ih =>
    intro g h
    by_cases hc : g.status = 1 ∧ loc (g.ins P).op = true
    · rw [settle_next hc]
      exact ih _ (h.step R hA W (hx _ h.fn_mem _ h.ins_mem) hc.2)
    · rw [settle_stop hc]; exact h
theorem Pg.In.insOk {P : Pg} {w : World} (I : P.In w) : ∀ f ∈ P.funcs, ∀ x ∈ f.code, x.ok := fun f hf x hx => (I.funcs f hf).oks x hx
theorem list_load_st {ops : Array Oper} {rest : List Oper} {op : Oper} {a : Act} {w : World} {Q : Exit → Act → World → Prop} (hgd : op.guard = none) (x : Operand) (ho : op.op = .load 32 x) {b : Nat} (hx : a.eval x = .pointer (some ⟨b, 0, none⟩)) {arr : Array Value} (B : Blk b arr w) (hs : arr.size = 121)
    (h : wpList Tryd.prog ops Q rest (a.put op.dst (.agg arr)) w) : wpList Tryd.prog ops Q (op :: rest) a w := list_load hgd _ x ho _ hx _ (load_whole B hs) h
theorem one12 (v0 v1 v2 v3 v4 v5 v6 v7 v8 v9 v10 v11 : Int) : (#[.int .i64 v0, .int .i64 v1, .int .i64 v2, .int .i64 v3, .int .i64 v4, .int .i64 v5, .int .i64 v6, .int .i64 v7, .int .i64 v8, .int .i64 v9, .int .i64 v10, .int .i64 v11] : Array Value).all (·.oneCell') = true :=
  all_oneCell_toArray (cs := [.int .i64 v0, .int .i64 v1, .int .i64 v2, .int .i64 v3, .int .i64 v4, .int .i64 v5, .int .i64 v6, .int .i64 v7, .int .i64 v8, .int .i64 v9, .int .i64 v10, .int .i64 v11]) (fun v hv => by simp only [List.mem_cons, List.not_mem_nil, or_false] at hv; rcases hv with rfl | rfl | rfl | rfl | rfl | rfl | rfl | rfl | rfl | rfl | rfl | rfl <;> rfl)
set_option maxHeartbeats 8000000 in
set_option maxRecDepth 100000 in
theorem settleS_stay (P : Pg) (s : St) (k n : Nat) (w : World) (I : P.In w) (hs : s.ok) (hR : right P = true) (hV : valid P s = true) (hk : k < 6) (hc : (k : Int) < s.count) (hn : n ≤ 4096) (hq1 : (s.gos.getD k default).status ≠ 1) (hq5 : (s.gos.getD k default).status ≠ 5) :
    Calls Tryd.prog 22 #[P.v, s.v, .int .i64 k, .int .i64 n] w fun e w' => e = .returned (.tuple #[s.v, .int .i64 0]) ∧ Below w.heap.size w w' := by
  have cR := Lib.hid (fun W (hb : Below w.heap.size w W) => right_walk P W (I.below hb))
  rw [hR] at cR
  have cV := Lib.hid (fun W (hb : Below w.heap.size w W) => valid_walk P s W (I.below hb) hs)
  rw [hV] at cV
  have h121 := Lib.hid (show s.cs.toArray.size = 121 by simpa using St.cs_len hs)
  have hcnt := St.get_count hs
  have d1 : decide ((k : Int) < 0) = false := by simp
  have d2 : decide (6 ≤ (k : Int)) = false := by simp; omega
  have d3 : decide ((n : Int) < 0) = false := by simp
  have d4 : decide (4096 < (n : Int)) = false := by simp; omega
  have d5 : decide (s.count ≤ (k : Int)) = false := by simp; omega
  have cF := Lib.hid (fun W => fuelled_walk n W)
  rw [show decide (0 ≤ (n : Int) ∧ (n : Int) ≤ 4096) = true by simp; omega] at cF
  have hgo := go_ok hs k hk
  have hge := Lib.hid (fun i v h => St.get_go hs k hk i v h)
  have hone := Lib.hid (St.one_cell (s := s)); have hsl := Lib.hid (fun b W (B : Blk b s.cs.toArray W) => load_st hs B)
  generalize hgk : s.gos.getD k default = q at *
  obtain ⟨x0, x1, x2, x3, x4, x5, x6, x7, hrg⟩ := eight hgo.len
  obtain ⟨gs, gf, gpc, gw, regs⟩ := q
  simp only at hrg
  subst hrg
  have g0 := hge.out 0 _ rfl
  have g1 := hge.out 1 _ rfl
  have g2 := hge.out 2 _ rfl
  have g3 := hge.out 3 _ rfl
  have g4 := hge.out 4 _ rfl
  have g5 := hge.out 5 _ rfl
  have g6 := hge.out 6 _ rfl
  have g7 := hge.out 7 _ rfl
  have g8 := hge.out 8 _ rfl
  have g9 := hge.out 9 _ rfl
  have g10 := hge.out 10 _ rfl
  have g11 := hge.out 11 _ rfl
  simp only [Nat.add_zero] at g0
  clear hge
  have q1 : (gs == 1) = false := by simpa using hq1
  have q5 : (gs == 5) = false := by simpa using hq5
  clear hq1 hq5 hgk
  unfold St.v Pg.v at *
  generalize s.cs.toArray = st at *
  go_enter Tryd.func22, Tryd.ntmps22
  have E0 := ((((Env.nil (w := w)).push w.heap.size rfl #[.slice P.va P.vars.length P.vcap, .int .i64 P.locks, .slice P.ha P.chans.length P.hcap, .slice P.fa P.funcs.length P.fcap] 41).push (w.heap.size + 1) (by simp) st 32).push (w.heap.size + 1 + 1) (by simp) Tryd.zeroCells32 32).sub (cs := [(w.heap.size + 1 + 1, Tryd.zeroCells32), (w.heap.size + 1, st), (w.heap.size, #[.slice P.va P.vars.length P.vcap, .int .i64 P.locks, .slice P.ha P.chans.length P.hcap, .slice P.fa P.funcs.length P.fcap])]) (fun p hp => by simp only [List.mem_cons, List.not_mem_nil, or_false] at hp ⊢; rcases hp with rfl | rfl | rfl <;> simp)
  have hno := Lib.hid (show Tryd.zeroCells32.size = 121 by rw [zc]; simpa using St.cs_len St.none_ok)
  go_wp2_with (first | (refine wpList_store_mid rfl 32 _ _ rfl (w.heap.size + 1 + 1) 0 _ rfl rfl ((E2.skip (.cells #[.int .i64 gs, .int .i64 gf, .int .i64 gpc, .int .i64 gw, .int .i64 x0, .int .i64 x1, .int .i64 x2, .int .i64 x3, .int .i64 x4, .int .i64 x5, .int .i64 x6, .int .i64 x7] 29)).h0.there _ _ (by rw [hno.out, h121.out]; omega)) (by rw [size32, h121.out]) hone.out ?_) | (refine list_load_st rfl _ rfl (b := w.heap.size + 1) rfl (E2.skip (.cells #[.int .i64 gs, .int .i64 gf, .int .i64 gpc, .int .i64 gw, .int .i64 x0, .int .i64 x1, .int .i64 x2, .int .i64 x3, .int .i64 x4, .int .i64 x5, .int .i64 x6, .int .i64 x7] 29)).tl.h0 h121.out ?_) | (go_at_call 34; ((with_reducible refine (cF.out _).mono ?_); rintro e w' ⟨rfl, rfl⟩)) | (refine list_load_st rfl _ rfl (b := w.heap.size + 1) rfl B1 h121.out ?_) | ((go_at_call 20; ((with_reducible refine (cV.out _ (by with_reducible assumption)).mono ?_); rintro e w' ⟨rfl, hb2⟩)); have E2 := E1.next hb2; have y3 := E2.h0.cell; have y4 := E2.tl.h0.cell; have y5 := E2.tl.tl.h0.cell; have B2 := E2.tl.h0; have acc2 := E2.acc; have l3 := E2.h0.lt; have l4 := E2.tl.h0.lt; have l5 := E2.tl.tl.h0.lt; have z4 := E2.tl.h0.fr; have z3 := E2.h0.fr) | ((go_at_call 33; ((with_reducible refine (cR.out _ (by repeat (first | (with_reducible exact Below.refl _ _) | (with_reducible refine Below.drew ?_) | (with_reducible refine below_drewN ?_ _) | (with_reducible refine Below.alloc ?_ (by first | omega | (simp <;> omega)) _)))).mono ?_); rintro e w' ⟨rfl, hb1⟩)); have E1 := E0.next hb1; have y0 := E1.h0.cell; have y1 := E1.tl.h0.cell; have y2 := E1.tl.tl.h0.cell; have B1 := E1.tl.h0; have acc1 := E1.acc))
  have E5 := Env.setRow (by omega) (fun p hp => by simp only [List.mem_cons, List.not_mem_nil, or_false] at hp; rcases hp with rfl | rfl <;> (simp only; omega)) st.toList _ 0 _ (E2.skip (.cells #[.int .i64 gs, .int .i64 gf, .int .i64 gpc, .int .i64 gw, .int .i64 x0, .int .i64 x1, .int .i64 x2, .int .i64 x3, .int .i64 x4, .int .i64 x5, .int .i64 x6, .int .i64 x7] 29)) (by rw [hno.out]; simp [h121.out])
  rw [putRow_all _ _ (by rw [hno.out]; simp [h121.out])] at E5
  have hl := hsl.out _ _ (E5.h0.cast (by simp))
  refine bodyPost_ret (v := .tuple #[.agg st, .int .i64 0]) (by simp [results, Tryd.results22, asAddr, hl]) rfl ⟨rfl, E5.acc⟩
set_option maxHeartbeats 8000000 in
set_option maxRecDepth 100000 in
theorem settleS_run (P : Pg) (s : St) (k n : Nat) (w : World) (I : P.In w) (hs : s.ok) (hR : right P = true) (hV : valid P s = true) (hk : k < 6) (hc : (k : Int) < s.count) (hn : n ≤ 4096) {A : Int → Int → Int → Int × Int} (AI : AluOk A) (AW : AluWhy A) (hA : AppW A w) (hq : (s.gos.getD k default).status = 1 ∨ (s.gos.getD k default).status = 5) :
    Calls Tryd.prog 22 #[P.v, s.v, .int .i64 k, .int .i64 n] w fun e w' => e = .returned (.tuple #[(s.setGo k (settle A P n (s.gos.getD k default).live)).v, .int .i64 0]) ∧ Below w.heap.size w w' := by
  have cR := Lib.hid (fun W (hb : Below w.heap.size w W) => right_walk P W (I.below hb))
  rw [hR] at cR
  have cV := Lib.hid (fun W (hb : Below w.heap.size w W) => valid_walk P s W (I.below hb) hs)
  rw [hV] at cV
  have h121 := Lib.hid (show s.cs.toArray.size = 121 by simpa using St.cs_len hs)
  have hcnt := St.get_count hs
  have d1 : decide ((k : Int) < 0) = false := by simp
  have d2 : decide (6 ≤ (k : Int)) = false := by simp; omega
  have d3 : decide ((n : Int) < 0) = false := by simp
  have d4 : decide (4096 < (n : Int)) = false := by simp; omega
  have d5 : decide (s.count ≤ (k : Int)) = false := by simp; omega
  have cF := Lib.hid (fun W => fuelled_walk n W)
  rw [show decide (0 ≤ (n : Int) ∧ (n : Int) ≤ 4096) = true by simp; omega] at cF
  have hgo := go_ok hs k hk
  have hge := Lib.hid (fun i v h => St.get_go hs k hk i v h)
  have R := Rt.of hR
  have hsd := valid_stood hs hV k hc
  have hrs := Stood.settle R AI AW I.insOk n _ hsd.live
  have hqk := go_ok hs k hk
  have cS := Lib.hid (fun W (hb : Below w.heap.size w W) => settled_walk AI AW P R _ n W (I.below hb) hsd.live hn (hA.below hb))
  obtain ⟨v0, v1, v2, v3, v4, v5, v6, v7, v8, v9, v10, v11, hY⟩ := Gr.lit hrs.ok.len
  have hso := St.setGo_ok hs k hrs.ok
  have hput := Lib.hid (show putRow s.cs.toArray (48 + k * 12) [.int .i64 v0, .int .i64 v1, .int .i64 v2, .int .i64 v3, .int .i64 v4, .int .i64 v5, .int .i64 v6, .int .i64 v7, .int .i64 v8, .int .i64 v9, .int .i64 v10, .int .i64 v11] = (s.setGo k (settle A P n (s.gos.getD k default).live)).cs.toArray by rw [St.cs_setGo hs k hk hrs.ok, show (settle A P n (s.gos.getD k default).live).cs = [.int .i64 v0, .int .i64 v1, .int .i64 v2, .int .i64 v3, .int .i64 v4, .int .i64 v5, .int .i64 v6, .int .i64 v7, .int .i64 v8, .int .i64 v9, .int .i64 v10, .int .i64 v11] by simpa using congrArg Array.toList hY])
  rw [show (settle A P n (s.gos.getD k default).live).v = .agg #[.int .i64 v0, .int .i64 v1, .int .i64 v2, .int .i64 v3, .int .i64 v4, .int .i64 v5, .int .i64 v6, .int .i64 v7, .int .i64 v8, .int .i64 v9, .int .i64 v10, .int .i64 v11] by unfold Gr.v; rw [hY]] at cS
  have hone := Lib.hid (St.one_cell (s := s.setGo k (settle A P n (s.gos.getD k default).live))); have hsl := Lib.hid (fun b W (B : Blk b (s.setGo k (settle A P n (s.gos.getD k default).live)).cs.toArray W) => load_st hso B); have hsr := Lib.hid (show (s.setGo k (settle A P n (s.gos.getD k default).live)).cs.toArray.size = 121 by simpa using St.cs_len hso)
  clear hY hrs hsd hso hqk
  unfold St.v Pg.v at *
  generalize (s.setGo k (settle A P n (s.gos.getD k default).live)).cs.toArray = sr at *
  generalize s.cs.toArray = st at *
  generalize hgk : s.gos.getD k default = q at *
  obtain ⟨x0, x1, x2, x3, x4, x5, x6, x7, hrg⟩ := eight hgo.len
  obtain ⟨gs, gf, gpc, gw, regs⟩ := q
  simp only at hrg
  subst hrg
  have g0 := hge.out 0 _ rfl
  have g1 := hge.out 1 _ rfl
  have g2 := hge.out 2 _ rfl
  have g3 := hge.out 3 _ rfl
  have g4 := hge.out 4 _ rfl
  have g5 := hge.out 5 _ rfl
  have g6 := hge.out 6 _ rfl
  have g7 := hge.out 7 _ rfl
  have g8 := hge.out 8 _ rfl
  have g9 := hge.out 9 _ rfl
  have g10 := hge.out 10 _ rfl
  have g11 := hge.out 11 _ rfl
  simp only [Nat.add_zero] at g0
  clear hge
  clear hgk
  unfold Gr.live Gr.v Gr.cs at cS
  simp only [List.map_cons, List.map_nil, List.cons_append, List.nil_append] at cS
  simp only at hq
  rcases hq with rfl | rfl
  · skip
    go_enter Tryd.func22, Tryd.ntmps22
    have E0 := ((((Env.nil (w := w)).push w.heap.size rfl #[.slice P.va P.vars.length P.vcap, .int .i64 P.locks, .slice P.ha P.chans.length P.hcap, .slice P.fa P.funcs.length P.fcap] 41).push (w.heap.size + 1) (by simp) st 32).push (w.heap.size + 1 + 1) (by simp) Tryd.zeroCells32 32).sub (cs := [(w.heap.size + 1 + 1, Tryd.zeroCells32), (w.heap.size + 1, st), (w.heap.size, #[.slice P.va P.vars.length P.vcap, .int .i64 P.locks, .slice P.ha P.chans.length P.hcap, .slice P.fa P.funcs.length P.fcap])]) (fun p hp => by simp only [List.mem_cons, List.not_mem_nil, or_false] at hp ⊢; rcases hp with rfl | rfl | rfl <;> simp)
    have hno := Lib.hid (show Tryd.zeroCells32.size = 121 by rw [zc]; simpa using St.cs_len St.none_ok)
    go_wp2_with (first | (refine wpList_store_mid rfl 32 _ _ rfl (w.heap.size + 1 + 1) 0 _ rfl rfl (E7.tl.h0.there _ _ (by rw [hno.out, hsr.out]; omega)) (by rw [size32, hsr.out]) hone.out ?_) | (refine list_load_st rfl _ rfl (b := w.heap.size + 1) rfl E7.h0 hsr.out ?_) | (refine wpList_store_mid rfl 29 _ _ rfl (w.heap.size + 1) (48 + k * 12) _ rfl rfl (E6.h0.there _ _ (by rw [h121.out]; simp; omega)) (by rw [size12]; rfl) (one12 _ _ _ _ _ _ _ _ _ _ _ _) ?_; have E7 := Env.setRow (by omega) (fun p hp => by simp only [List.mem_cons, List.not_mem_nil, or_false] at hp; rcases hp with rfl | rfl <;> (simp only; omega)) [.int .i64 v0, .int .i64 v1, .int .i64 v2, .int .i64 v3, .int .i64 v4, .int .i64 v5, .int .i64 v6, .int .i64 v7, .int .i64 v8, .int .i64 v9, .int .i64 v10, .int .i64 v11] _ (48 + k * 12) _ E6 (by rw [h121.out]; simp; omega); rw [hput.out] at E7) | ((go_at_call 35; ((with_reducible refine (cS.out _ (by repeat (first | (with_reducible assumption) | (with_reducible exact Below.refl _ _) | (with_reducible refine Below.drew ?_) | (with_reducible refine below_drewN ?_ _) | (with_reducible refine Below.setCell ?_ (by first | (simp; done) | (simp <;> omega)) _) | (with_reducible refine Below.alloc ?_ (by first | omega | (simp <;> omega)) _)))).mono ?_); rintro e w' ⟨rfl, hb3⟩)); have E6 := ((E2.skip _).next hb3).sub (cs := [(w.heap.size + 1, st), (w.heap.size + 1 + 1, Tryd.zeroCells32), (w.heap.size, #[.slice P.va P.vars.length P.vcap, .int .i64 P.locks, .slice P.ha P.chans.length P.hcap, .slice P.fa P.funcs.length P.fcap])]) (fun p hp => by simp only [List.mem_cons, List.not_mem_nil, or_false] at hp ⊢; rcases hp with rfl | rfl | rfl <;> simp)) | (go_at_call 34; ((with_reducible refine (cF.out _).mono ?_); rintro e w' ⟨rfl, rfl⟩)) | (refine list_load_st rfl _ rfl (b := w.heap.size + 1) rfl B1 h121.out ?_) | ((go_at_call 20; ((with_reducible refine (cV.out _ (by with_reducible assumption)).mono ?_); rintro e w' ⟨rfl, hb2⟩)); have E2 := E1.next hb2; have y3 := E2.h0.cell; have y4 := E2.tl.h0.cell; have y5 := E2.tl.tl.h0.cell; have B2 := E2.tl.h0; have acc2 := E2.acc; have l3 := E2.h0.lt; have l4 := E2.tl.h0.lt; have l5 := E2.tl.tl.h0.lt; have z4 := E2.tl.h0.fr; have z3 := E2.h0.fr) | ((go_at_call 33; ((with_reducible refine (cR.out _ (by repeat (first | (with_reducible exact Below.refl _ _) | (with_reducible refine Below.drew ?_) | (with_reducible refine below_drewN ?_ _) | (with_reducible refine Below.alloc ?_ (by first | omega | (simp <;> omega)) _)))).mono ?_); rintro e w' ⟨rfl, hb1⟩)); have E1 := E0.next hb1; have y0 := E1.h0.cell; have y1 := E1.tl.h0.cell; have y2 := E1.tl.tl.h0.cell; have B1 := E1.tl.h0; have acc1 := E1.acc))
    have E8 := Env.setRow (by omega) (fun p hp => by simp only [List.mem_cons, List.not_mem_nil, or_false] at hp; rcases hp with rfl | rfl <;> (simp only; omega)) sr.toList _ 0 _ (E7.sub (cs := [(w.heap.size + 1 + 1, Tryd.zeroCells32), (w.heap.size + 1, sr), (w.heap.size, #[.slice P.va P.vars.length P.vcap, .int .i64 P.locks, .slice P.ha P.chans.length P.hcap, .slice P.fa P.funcs.length P.fcap])]) (fun p hp => by simp only [List.mem_cons, List.not_mem_nil, or_false] at hp ⊢; rcases hp with rfl | rfl | rfl <;> simp)) (by rw [hno.out]; simp [hsr.out])
    rw [putRow_all _ _ (by rw [hno.out]; simp [hsr.out])] at E8
    have hl := hsl.out _ _ (E8.h0.cast (by simp))
    refine bodyPost_ret (v := .tuple #[.agg sr, .int .i64 0]) (by simp [results, Tryd.results22, asAddr, hl]) rfl ⟨rfl, E8.acc⟩
  · skip
    go_enter Tryd.func22, Tryd.ntmps22
    have E0 := ((((Env.nil (w := w)).push w.heap.size rfl #[.slice P.va P.vars.length P.vcap, .int .i64 P.locks, .slice P.ha P.chans.length P.hcap, .slice P.fa P.funcs.length P.fcap] 41).push (w.heap.size + 1) (by simp) st 32).push (w.heap.size + 1 + 1) (by simp) Tryd.zeroCells32 32).sub (cs := [(w.heap.size + 1 + 1, Tryd.zeroCells32), (w.heap.size + 1, st), (w.heap.size, #[.slice P.va P.vars.length P.vcap, .int .i64 P.locks, .slice P.ha P.chans.length P.hcap, .slice P.fa P.funcs.length P.fcap])]) (fun p hp => by simp only [List.mem_cons, List.not_mem_nil, or_false] at hp ⊢; rcases hp with rfl | rfl | rfl <;> simp)
    have hno := Lib.hid (show Tryd.zeroCells32.size = 121 by rw [zc]; simpa using St.cs_len St.none_ok)
    go_wp2_with (first | (refine wpList_store_mid rfl 32 _ _ rfl (w.heap.size + 1 + 1) 0 _ rfl rfl (E7.tl.h0.there _ _ (by rw [hno.out, hsr.out]; omega)) (by rw [size32, hsr.out]) hone.out ?_) | (refine list_load_st rfl _ rfl (b := w.heap.size + 1) rfl E7.h0 hsr.out ?_) | (refine wpList_store_mid rfl 29 _ _ rfl (w.heap.size + 1) (48 + k * 12) _ rfl rfl (E6.h0.there _ _ (by rw [h121.out]; simp; omega)) (by rw [size12]; rfl) (one12 _ _ _ _ _ _ _ _ _ _ _ _) ?_; have E7 := Env.setRow (by omega) (fun p hp => by simp only [List.mem_cons, List.not_mem_nil, or_false] at hp; rcases hp with rfl | rfl <;> (simp only; omega)) [.int .i64 v0, .int .i64 v1, .int .i64 v2, .int .i64 v3, .int .i64 v4, .int .i64 v5, .int .i64 v6, .int .i64 v7, .int .i64 v8, .int .i64 v9, .int .i64 v10, .int .i64 v11] _ (48 + k * 12) _ E6 (by rw [h121.out]; simp; omega); rw [hput.out] at E7) | ((go_at_call 35; ((with_reducible refine (cS.out _ (by repeat (first | (with_reducible assumption) | (with_reducible exact Below.refl _ _) | (with_reducible refine Below.drew ?_) | (with_reducible refine below_drewN ?_ _) | (with_reducible refine Below.setCell ?_ (by first | (simp; done) | (simp <;> omega)) _) | (with_reducible refine Below.alloc ?_ (by first | omega | (simp <;> omega)) _)))).mono ?_); rintro e w' ⟨rfl, hb3⟩)); have E6 := ((E2.skip _).next hb3).sub (cs := [(w.heap.size + 1, st), (w.heap.size + 1 + 1, Tryd.zeroCells32), (w.heap.size, #[.slice P.va P.vars.length P.vcap, .int .i64 P.locks, .slice P.ha P.chans.length P.hcap, .slice P.fa P.funcs.length P.fcap])]) (fun p hp => by simp only [List.mem_cons, List.not_mem_nil, or_false] at hp ⊢; rcases hp with rfl | rfl | rfl <;> simp)) | (go_at_call 34; ((with_reducible refine (cF.out _).mono ?_); rintro e w' ⟨rfl, rfl⟩)) | (refine list_load_st rfl _ rfl (b := w.heap.size + 1) rfl B1 h121.out ?_) | ((go_at_call 20; ((with_reducible refine (cV.out _ (by with_reducible assumption)).mono ?_); rintro e w' ⟨rfl, hb2⟩)); have E2 := E1.next hb2; have y3 := E2.h0.cell; have y4 := E2.tl.h0.cell; have y5 := E2.tl.tl.h0.cell; have B2 := E2.tl.h0; have acc2 := E2.acc; have l3 := E2.h0.lt; have l4 := E2.tl.h0.lt; have l5 := E2.tl.tl.h0.lt; have z4 := E2.tl.h0.fr; have z3 := E2.h0.fr) | ((go_at_call 33; ((with_reducible refine (cR.out _ (by repeat (first | (with_reducible exact Below.refl _ _) | (with_reducible refine Below.drew ?_) | (with_reducible refine below_drewN ?_ _) | (with_reducible refine Below.alloc ?_ (by first | omega | (simp <;> omega)) _)))).mono ?_); rintro e w' ⟨rfl, hb1⟩)); have E1 := E0.next hb1; have y0 := E1.h0.cell; have y1 := E1.tl.h0.cell; have y2 := E1.tl.tl.h0.cell; have B1 := E1.tl.h0; have acc1 := E1.acc))
    have E8 := Env.setRow (by omega) (fun p hp => by simp only [List.mem_cons, List.not_mem_nil, or_false] at hp; rcases hp with rfl | rfl <;> (simp only; omega)) sr.toList _ 0 _ (E7.sub (cs := [(w.heap.size + 1 + 1, Tryd.zeroCells32), (w.heap.size + 1, sr), (w.heap.size, #[.slice P.va P.vars.length P.vcap, .int .i64 P.locks, .slice P.ha P.chans.length P.hcap, .slice P.fa P.funcs.length P.fcap])]) (fun p hp => by simp only [List.mem_cons, List.not_mem_nil, or_false] at hp ⊢; rcases hp with rfl | rfl | rfl <;> simp)) (by rw [hno.out]; simp [hsr.out])
    rw [putRow_all _ _ (by rw [hno.out]; simp [hsr.out])] at E8
    have hl := hsl.out _ _ (E8.h0.cast (by simp))
    refine bodyPost_ret (v := .tuple #[.agg sr, .int .i64 0]) (by simp [results, Tryd.results22, asAddr, hl]) rfl ⟨rfl, E8.acc⟩
set_option maxHeartbeats 8000000 in
set_option maxRecDepth 100000 in
theorem settleR_stay (P : Pg) (s : St) (k n : Nat) (w : World) (I : P.In w) (hs : s.ok) (hR : right P = true) (hV : valid P s = true) (hk : k < 6) (hc : (k : Int) < s.count) (hn : n ≤ 4096) (hq1 : (s.gos.getD k default).status ≠ 1) (hq5 : (s.gos.getD k default).status ≠ 5) :
    Calls Tryd.prog 23 #[P.v, s.v, .int .i64 k, .int .i64 n] w fun e w' => e = .returned (.tuple #[s.v, .int .i64 0]) ∧ Below w.heap.size w w' := by
  have cR := Lib.hid (fun W (hb : Below w.heap.size w W) => rright_walk P W (I.below hb))
  rw [hR] at cR
  have cV := Lib.hid (fun W (hb : Below w.heap.size w W) => rvalid_walk P s W (I.below hb) hs)
  rw [hV] at cV
  have h121 := Lib.hid (show s.cs.toArray.size = 121 by simpa using St.cs_len hs)
  have hcnt := St.get_count hs
  have d1 : decide ((k : Int) < 0) = false := by simp
  have d2 : decide (6 ≤ (k : Int)) = false := by simp; omega
  have d3 : decide ((n : Int) < 0) = false := by simp
  have d4 : decide (4096 < (n : Int)) = false := by simp; omega
  have d5 : decide (s.count ≤ (k : Int)) = false := by simp; omega
  have hgo := go_ok hs k hk
  have hge := Lib.hid (fun i v h => St.get_go hs k hk i v h)
  have hone := Lib.hid (St.one_cell (s := s)); have hsl := Lib.hid (fun b W (B : Blk b s.cs.toArray W) => load_st hs B)
  generalize hgk : s.gos.getD k default = q at *
  obtain ⟨x0, x1, x2, x3, x4, x5, x6, x7, hrg⟩ := eight hgo.len
  obtain ⟨gs, gf, gpc, gw, regs⟩ := q
  simp only at hrg
  subst hrg
  have g0 := hge.out 0 _ rfl
  have g1 := hge.out 1 _ rfl
  have g2 := hge.out 2 _ rfl
  have g3 := hge.out 3 _ rfl
  have g4 := hge.out 4 _ rfl
  have g5 := hge.out 5 _ rfl
  have g6 := hge.out 6 _ rfl
  have g7 := hge.out 7 _ rfl
  have g8 := hge.out 8 _ rfl
  have g9 := hge.out 9 _ rfl
  have g10 := hge.out 10 _ rfl
  have g11 := hge.out 11 _ rfl
  simp only [Nat.add_zero] at g0
  clear hge
  have q1 : (gs == 1) = false := by simpa using hq1
  have q5 : (gs == 5) = false := by simpa using hq5
  clear hq1 hq5 hgk
  unfold St.v Pg.v at *
  generalize s.cs.toArray = st at *
  go_enter Tryd.func23, Tryd.ntmps23
  have E0 := ((((Env.nil (w := w)).push w.heap.size rfl #[.slice P.va P.vars.length P.vcap, .int .i64 P.locks, .slice P.ha P.chans.length P.hcap, .slice P.fa P.funcs.length P.fcap] 41).push (w.heap.size + 1) (by simp) st 32).push (w.heap.size + 1 + 1) (by simp) Tryd.zeroCells32 32).sub (cs := [(w.heap.size + 1 + 1, Tryd.zeroCells32), (w.heap.size + 1, st), (w.heap.size, #[.slice P.va P.vars.length P.vcap, .int .i64 P.locks, .slice P.ha P.chans.length P.hcap, .slice P.fa P.funcs.length P.fcap])]) (fun p hp => by simp only [List.mem_cons, List.not_mem_nil, or_false] at hp ⊢; rcases hp with rfl | rfl | rfl <;> simp)
  have hno := Lib.hid (show Tryd.zeroCells32.size = 121 by rw [zc]; simpa using St.cs_len St.none_ok)
  go_wp2_with (first | (refine wpList_store_mid rfl 32 _ _ rfl (w.heap.size + 1 + 1) 0 _ rfl rfl (E2.h0.there _ _ (by rw [hno.out, h121.out]; omega)) (by rw [size32, h121.out]) hone.out ?_) | (refine list_load_st rfl _ rfl (b := w.heap.size + 1) rfl E2.tl.h0 h121.out ?_) | (refine list_load_st rfl _ rfl (b := w.heap.size + 1) rfl B1 h121.out ?_) | ((go_at_call 21; ((with_reducible refine (cV.out _ (by with_reducible assumption)).mono ?_); rintro e w' ⟨rfl, hb2⟩)); have E2 := E1.next hb2; have y3 := E2.h0.cell; have y4 := E2.tl.h0.cell; have y5 := E2.tl.tl.h0.cell; have B2 := E2.tl.h0; have acc2 := E2.acc; have l3 := E2.h0.lt; have l4 := E2.tl.h0.lt; have l5 := E2.tl.tl.h0.lt; have z4 := E2.tl.h0.fr; have z3 := E2.h0.fr) | ((go_at_call 24; ((with_reducible refine (cR.out _ (by repeat (first | (with_reducible exact Below.refl _ _) | (with_reducible refine Below.drew ?_) | (with_reducible refine below_drewN ?_ _) | (with_reducible refine Below.alloc ?_ (by first | omega | (simp <;> omega)) _)))).mono ?_); rintro e w' ⟨rfl, hb1⟩)); have E1 := E0.next hb1; have y0 := E1.h0.cell; have y1 := E1.tl.h0.cell; have y2 := E1.tl.tl.h0.cell; have B1 := E1.tl.h0; have acc1 := E1.acc))
  have E5 := Env.setRow (by omega) (fun p hp => by simp only [List.mem_cons, List.not_mem_nil, or_false] at hp; rcases hp with rfl | rfl <;> (simp only; omega)) st.toList _ 0 _ E2 (by rw [hno.out]; simp [h121.out])
  rw [putRow_all _ _ (by rw [hno.out]; simp [h121.out])] at E5
  have hl := hsl.out _ _ (E5.h0.cast (by simp))
  refine bodyPost_ret (v := .tuple #[.agg st, .int .i64 0]) (by simp [results, Tryd.results23, asAddr, hl]) rfl ⟨rfl, E5.acc⟩
set_option maxHeartbeats 8000000 in
set_option maxRecDepth 100000 in
theorem settleR_run (P : Pg) (s : St) (k n : Nat) (w : World) (I : P.In w) (hs : s.ok) (hR : right P = true) (hV : valid P s = true) (hk : k < 6) (hc : (k : Int) < s.count) (hn : n ≤ 4096) {A : Int → Int → Int → Int × Int} (AI : AluOk A) (AW : AluWhy A) (hA : AppR A w) (hq : (s.gos.getD k default).status = 1 ∨ (s.gos.getD k default).status = 5) :
    Calls Tryd.prog 23 #[P.v, s.v, .int .i64 k, .int .i64 n] w fun e w' => e = .returned (.tuple #[(s.setGo k (settle A P n (s.gos.getD k default).live)).v, .int .i64 0]) ∧ Below w.heap.size w w' := by
  have cR := Lib.hid (fun W (hb : Below w.heap.size w W) => rright_walk P W (I.below hb))
  rw [hR] at cR
  have cV := Lib.hid (fun W (hb : Below w.heap.size w W) => rvalid_walk P s W (I.below hb) hs)
  rw [hV] at cV
  have h121 := Lib.hid (show s.cs.toArray.size = 121 by simpa using St.cs_len hs)
  have hcnt := St.get_count hs
  have d1 : decide ((k : Int) < 0) = false := by simp
  have d2 : decide (6 ≤ (k : Int)) = false := by simp; omega
  have d3 : decide ((n : Int) < 0) = false := by simp
  have d4 : decide (4096 < (n : Int)) = false := by simp; omega
  have d5 : decide (s.count ≤ (k : Int)) = false := by simp; omega
  have hgo := go_ok hs k hk
  have hge := Lib.hid (fun i v h => St.get_go hs k hk i v h)
  have R := Rt.of hR
  have hsd := valid_stood hs hV k hc
  have hrs := Stood.settle R AI AW I.insOk n _ hsd.live
  have hqk := go_ok hs k hk
  have cS := Lib.hid (fun W (hb : Below w.heap.size w W) => rsettled_walk AI AW P R _ n W (I.below hb) hsd hn (hA.below hb))
  obtain ⟨v0, v1, v2, v3, v4, v5, v6, v7, v8, v9, v10, v11, hY⟩ := Gr.lit hrs.ok.len
  have hso := St.setGo_ok hs k hrs.ok
  have hput := Lib.hid (show putRow s.cs.toArray (48 + k * 12) [.int .i64 v0, .int .i64 v1, .int .i64 v2, .int .i64 v3, .int .i64 v4, .int .i64 v5, .int .i64 v6, .int .i64 v7, .int .i64 v8, .int .i64 v9, .int .i64 v10, .int .i64 v11] = (s.setGo k (settle A P n (s.gos.getD k default).live)).cs.toArray by rw [St.cs_setGo hs k hk hrs.ok, show (settle A P n (s.gos.getD k default).live).cs = [.int .i64 v0, .int .i64 v1, .int .i64 v2, .int .i64 v3, .int .i64 v4, .int .i64 v5, .int .i64 v6, .int .i64 v7, .int .i64 v8, .int .i64 v9, .int .i64 v10, .int .i64 v11] by simpa using congrArg Array.toList hY])
  rw [show (settle A P n (s.gos.getD k default).live).v = .agg #[.int .i64 v0, .int .i64 v1, .int .i64 v2, .int .i64 v3, .int .i64 v4, .int .i64 v5, .int .i64 v6, .int .i64 v7, .int .i64 v8, .int .i64 v9, .int .i64 v10, .int .i64 v11] by unfold Gr.v; rw [hY]] at cS
  have hone := Lib.hid (St.one_cell (s := s.setGo k (settle A P n (s.gos.getD k default).live))); have hsl := Lib.hid (fun b W (B : Blk b (s.setGo k (settle A P n (s.gos.getD k default).live)).cs.toArray W) => load_st hso B); have hsr := Lib.hid (show (s.setGo k (settle A P n (s.gos.getD k default).live)).cs.toArray.size = 121 by simpa using St.cs_len hso)
  clear hY hrs hsd hso hqk
  unfold St.v Pg.v at *
  generalize (s.setGo k (settle A P n (s.gos.getD k default).live)).cs.toArray = sr at *
  generalize s.cs.toArray = st at *
  generalize hgk : s.gos.getD k default = q at *
  obtain ⟨x0, x1, x2, x3, x4, x5, x6, x7, hrg⟩ := eight hgo.len
  obtain ⟨gs, gf, gpc, gw, regs⟩ := q
  simp only at hrg
  subst hrg
  have g0 := hge.out 0 _ rfl
  have g1 := hge.out 1 _ rfl
  have g2 := hge.out 2 _ rfl
  have g3 := hge.out 3 _ rfl
  have g4 := hge.out 4 _ rfl
  have g5 := hge.out 5 _ rfl
  have g6 := hge.out 6 _ rfl
  have g7 := hge.out 7 _ rfl
  have g8 := hge.out 8 _ rfl
  have g9 := hge.out 9 _ rfl
  have g10 := hge.out 10 _ rfl
  have g11 := hge.out 11 _ rfl
  simp only [Nat.add_zero] at g0
  clear hge
  clear hgk
  unfold Gr.v Gr.cs at cS
  simp only [List.map_cons, List.map_nil, List.cons_append, List.nil_append] at cS
  simp only at hq
  rcases hq with rfl | rfl
  · skip
    go_enter Tryd.func23, Tryd.ntmps23
    have E0 := ((((Env.nil (w := w)).push w.heap.size rfl #[.slice P.va P.vars.length P.vcap, .int .i64 P.locks, .slice P.ha P.chans.length P.hcap, .slice P.fa P.funcs.length P.fcap] 41).push (w.heap.size + 1) (by simp) st 32).push (w.heap.size + 1 + 1) (by simp) Tryd.zeroCells32 32).sub (cs := [(w.heap.size + 1 + 1, Tryd.zeroCells32), (w.heap.size + 1, st), (w.heap.size, #[.slice P.va P.vars.length P.vcap, .int .i64 P.locks, .slice P.ha P.chans.length P.hcap, .slice P.fa P.funcs.length P.fcap])]) (fun p hp => by simp only [List.mem_cons, List.not_mem_nil, or_false] at hp ⊢; rcases hp with rfl | rfl | rfl <;> simp)
    have hno := Lib.hid (show Tryd.zeroCells32.size = 121 by rw [zc]; simpa using St.cs_len St.none_ok)
    go_wp2_with (first | (refine list_load_st rfl _ rfl (b := w.heap.size + 1) rfl B1 h121.out ?_) | ((go_at_call 21; ((with_reducible refine (cV.out _ (by with_reducible assumption)).mono ?_); rintro e w' ⟨rfl, hb2⟩)); have E2 := E1.next hb2; have y3 := E2.h0.cell; have y4 := E2.tl.h0.cell; have y5 := E2.tl.tl.h0.cell; have B2 := E2.tl.h0; have acc2 := E2.acc; have l3 := E2.h0.lt; have l4 := E2.tl.h0.lt; have l5 := E2.tl.tl.h0.lt; have z4 := E2.tl.h0.fr; have z3 := E2.h0.fr) | ((go_at_call 24; ((with_reducible refine (cR.out _ (by repeat (first | (with_reducible exact Below.refl _ _) | (with_reducible refine Below.drew ?_) | (with_reducible refine below_drewN ?_ _) | (with_reducible refine Below.alloc ?_ (by first | omega | (simp <;> omega)) _)))).mono ?_); rintro e w' ⟨rfl, hb1⟩)); have E1 := E0.next hb1; have y0 := E1.h0.cell; have y1 := E1.tl.h0.cell; have y2 := E1.tl.tl.h0.cell; have B1 := E1.tl.h0; have acc1 := E1.acc))
    apply wp_toS (Env w [(w.heap.size + 1, sr), (w.heap.size + 1 + 1, Tryd.zeroCells32), (w.heap.size, #[.slice P.va P.vars.length P.vcap, .int .i64 P.locks, .slice P.ha P.chans.length P.hcap, .slice P.fa P.funcs.length P.fcap])])
    · have k6 : (k : Int) < 6 := by omega
      refine wp_region_any (by kernel_rfl) ?_
      try (change wpAny _ _ _ _ _ _ _ (World.drew _))
      refine wpAny_take (i := 0) (v := ?_) rfl (by kernel_rfl) (by kernel_rfl) (by kernel_rfl) (fun _ _ _ h => h) (Or.inl ⟨by rfl, ?_⟩) ?_
      rotate_left
      · intro w; go_simp <;> (try with_reducible rfl)
      simp only [Act.put, List.getElem_toArray, List.getElem_cons_zero, List.getElem_cons_succ, List.setIfInBounds_toArray, List.set_cons_zero, List.set_cons_succ]
      refine wpAny_take (i := 2) (v := ?_) rfl (by kernel_rfl) (by kernel_rfl) (by kernel_rfl) (fun _ _ _ h => h) (Or.inl ⟨by rfl, ?_⟩) ?_
      rotate_left
      · intro w; go_simp <;> (try with_reducible rfl)
      simp only [Act.put, List.getElem_toArray, List.getElem_cons_zero, List.getElem_cons_succ, List.setIfInBounds_toArray, List.set_cons_zero, List.set_cons_succ]
      refine wpAny_take (i := 3) (v := ?_) rfl (by kernel_rfl) (by kernel_rfl) (by kernel_rfl) (fun _ _ _ h => h) (Or.inl ⟨by rfl, ?_⟩) ?_
      rotate_left
      · intro w; go_simp <;> (try with_reducible rfl)
      simp only [Act.put, List.getElem_toArray, List.getElem_cons_zero, List.getElem_cons_succ, List.setIfInBounds_toArray, List.set_cons_zero, List.set_cons_succ]
      refine wpAny_take (i := 4) (v := ?_) rfl (by kernel_rfl) (by kernel_rfl) (by kernel_rfl) (fun _ _ _ h => h) (Or.inl ⟨by rfl, ?_⟩) ?_
      rotate_left
      · intro w; go_simp <;> (try with_reducible rfl)
      simp only [Act.put, List.getElem_toArray, List.getElem_cons_zero, List.getElem_cons_succ, List.setIfInBounds_toArray, List.set_cons_zero, List.set_cons_succ]
      refine wpAny_take (i := 6) (v := ?_) rfl (by kernel_rfl) (by kernel_rfl) (by kernel_rfl) (fun _ _ _ h => h) (Or.inl ⟨by rfl, ?_⟩) ?_
      rotate_left
      · intro w; go_simp <;> (try with_reducible rfl)
      simp only [Act.put, List.getElem_toArray, List.getElem_cons_zero, List.getElem_cons_succ, List.setIfInBounds_toArray, List.set_cons_zero, List.set_cons_succ]
      refine wpAny_take (i := 8) (v := ?_) rfl (by kernel_rfl) (by kernel_rfl) (by kernel_rfl) (fun _ _ _ h => h) (Or.inl ⟨by rfl, ?_⟩) ?_
      rotate_left
      · intro w; go_simp <;> (try with_reducible rfl)
      simp only [Act.put, List.getElem_toArray, List.getElem_cons_zero, List.getElem_cons_succ, List.setIfInBounds_toArray, List.set_cons_zero, List.set_cons_succ]
      refine wpAny_ready (rs := [1, 5]) (by kernel_rfl) (by simp) (AllReady.cons rfl (fun K hK => ?_) (AllReady.cons rfl (fun K hK => ?_) AllReady.nil))
      · go_simp
        refine hK _ _ ?_; clear hK K
        try simp only [Act.put, List.getElem_toArray, List.getElem_cons_zero, List.getElem_cons_succ, List.setIfInBounds_toArray, List.set_cons_zero, List.set_cons_succ]
        refine wpAny_ready (rs := [5]) (by kernel_rfl) (by simp) (AllReady.cons rfl (fun K hK => ?_) AllReady.nil)
        go_simp
        refine hK _ _ ?_; clear hK K
        try simp only [Act.put, List.getElem_toArray, List.getElem_cons_zero, List.getElem_cons_succ, List.setIfInBounds_toArray, List.set_cons_zero, List.set_cons_succ]
        refine wpAny_ready (rs := [7]) (by kernel_rfl) (by simp) (AllReady.cons rfl (fun K hK => ?_) AllReady.nil)
        go_simp
        ((go_at_call 36; ((with_reducible refine (cS.out _ (by first | exact E2.acc | exact E2.acc.drew)).mono ?_); rintro e w' ⟨rfl, hb3⟩)))
        have E6 := (E2.drew.next hb3).sub (cs := [(w.heap.size + 1, st), (w.heap.size + 1 + 1, Tryd.zeroCells32), (w.heap.size, #[.slice P.va P.vars.length P.vcap, .int .i64 P.locks, .slice P.ha P.chans.length P.hcap, .slice P.fa P.funcs.length P.fcap])]) (fun p hp => by simp only [List.mem_cons, List.not_mem_nil, or_false] at hp ⊢; rcases hp with rfl | rfl | rfl <;> simp)
        try go_wp2_with fail
        first | (refine hK _ _ ?_; clear hK K) | skip
        try simp only [Act.put, List.getElem_toArray, List.getElem_cons_zero, List.getElem_cons_succ, List.setIfInBounds_toArray, List.set_cons_zero, List.set_cons_succ]
        refine wpAny_take (i := 9) (v := ?_) rfl (by kernel_rfl) (by kernel_rfl) (by kernel_rfl) (fun _ _ _ h => h) (Or.inl ⟨by rfl, ?_⟩) ?_
        rotate_left
        · intro w; go_simp <;> (try with_reducible rfl)
        simp only [Act.put, List.getElem_toArray, List.getElem_cons_zero, List.getElem_cons_succ, List.setIfInBounds_toArray, List.set_cons_zero, List.set_cons_succ]
        refine wpAny_ready (rs := [10]) (by kernel_rfl) (by simp) (AllReady.cons rfl (fun K hK => ?_) AllReady.nil)
        rw [if_pos (by rfl)]
        refine wp_store_mid 29 _ _ rfl (w.heap.size + 1) (48 + k * 12) _ rfl rfl (E6.h0.there _ _ (by rw [h121.out]; simp; omega)) (by rw [size12]; rfl) (one12 _ _ _ _ _ _ _ _ _ _ _ _) ?_
        refine hK _ _ ?_; clear hK K
        try simp only [Act.put, List.getElem_toArray, List.getElem_cons_zero, List.getElem_cons_succ, List.setIfInBounds_toArray, List.set_cons_zero, List.set_cons_succ]
        refine wpAny_done (by kernel_rfl) ?_ _
        have E7 := Env.setRow (by omega) (fun p hp => by simp only [List.mem_cons, List.not_mem_nil, or_false] at hp; rcases hp with rfl | rfl <;> (simp only; omega)) [.int .i64 v0, .int .i64 v1, .int .i64 v2, .int .i64 v3, .int .i64 v4, .int .i64 v5, .int .i64 v6, .int .i64 v7, .int .i64 v8, .int .i64 v9, .int .i64 v10, .int .i64 v11] _ (48 + k * 12) _ E6 (by rw [h121.out]; simp; omega)
        rw [hput.out] at E7
        exact ToS.mk E7
      · go_simp
        refine hK _ _ ?_; clear hK K
        try simp only [Act.put, List.getElem_toArray, List.getElem_cons_zero, List.getElem_cons_succ, List.setIfInBounds_toArray, List.set_cons_zero, List.set_cons_succ]
        refine wpAny_ready (rs := [1]) (by kernel_rfl) (by simp) (AllReady.cons rfl (fun K hK => ?_) AllReady.nil)
        go_simp
        refine hK _ _ ?_; clear hK K
        try simp only [Act.put, List.getElem_toArray, List.getElem_cons_zero, List.getElem_cons_succ, List.setIfInBounds_toArray, List.set_cons_zero, List.set_cons_succ]
        refine wpAny_ready (rs := [7]) (by kernel_rfl) (by simp) (AllReady.cons rfl (fun K hK => ?_) AllReady.nil)
        go_simp
        ((go_at_call 36; ((with_reducible refine (cS.out _ (by first | exact E2.acc | exact E2.acc.drew)).mono ?_); rintro e w' ⟨rfl, hb3⟩)))
        have E6 := (E2.drew.next hb3).sub (cs := [(w.heap.size + 1, st), (w.heap.size + 1 + 1, Tryd.zeroCells32), (w.heap.size, #[.slice P.va P.vars.length P.vcap, .int .i64 P.locks, .slice P.ha P.chans.length P.hcap, .slice P.fa P.funcs.length P.fcap])]) (fun p hp => by simp only [List.mem_cons, List.not_mem_nil, or_false] at hp ⊢; rcases hp with rfl | rfl | rfl <;> simp)
        try go_wp2_with fail
        first | (refine hK _ _ ?_; clear hK K) | skip
        try simp only [Act.put, List.getElem_toArray, List.getElem_cons_zero, List.getElem_cons_succ, List.setIfInBounds_toArray, List.set_cons_zero, List.set_cons_succ]
        refine wpAny_take (i := 9) (v := ?_) rfl (by kernel_rfl) (by kernel_rfl) (by kernel_rfl) (fun _ _ _ h => h) (Or.inl ⟨by rfl, ?_⟩) ?_
        rotate_left
        · intro w; go_simp <;> (try with_reducible rfl)
        simp only [Act.put, List.getElem_toArray, List.getElem_cons_zero, List.getElem_cons_succ, List.setIfInBounds_toArray, List.set_cons_zero, List.set_cons_succ]
        refine wpAny_ready (rs := [10]) (by kernel_rfl) (by simp) (AllReady.cons rfl (fun K hK => ?_) AllReady.nil)
        rw [if_pos (by rfl)]
        refine wp_store_mid 29 _ _ rfl (w.heap.size + 1) (48 + k * 12) _ rfl rfl (E6.h0.there _ _ (by rw [h121.out]; simp; omega)) (by rw [size12]; rfl) (one12 _ _ _ _ _ _ _ _ _ _ _ _) ?_
        refine hK _ _ ?_; clear hK K
        try simp only [Act.put, List.getElem_toArray, List.getElem_cons_zero, List.getElem_cons_succ, List.setIfInBounds_toArray, List.set_cons_zero, List.set_cons_succ]
        refine wpAny_done (by kernel_rfl) ?_ _
        have E7 := Env.setRow (by omega) (fun p hp => by simp only [List.mem_cons, List.not_mem_nil, or_false] at hp; rcases hp with rfl | rfl <;> (simp only; omega)) [.int .i64 v0, .int .i64 v1, .int .i64 v2, .int .i64 v3, .int .i64 v4, .int .i64 v5, .int .i64 v6, .int .i64 v7, .int .i64 v8, .int .i64 v9, .int .i64 v10, .int .i64 v11] _ (48 + k * 12) _ E6 (by rw [h121.out]; simp; omega)
        rw [hput.out] at E7
        exact ToS.mk E7
    intro W3 E7
    go_wp2_with (first | (refine wpList_store_mid rfl 32 _ _ rfl (w.heap.size + 1 + 1) 0 _ rfl rfl (E7.tl.h0.there _ _ (by rw [hno.out, hsr.out]; omega)) (by rw [size32, hsr.out]) hone.out ?_) | (refine list_load_st rfl _ rfl (b := w.heap.size + 1) rfl E7.h0 hsr.out ?_))
    have E8 := Env.setRow (by omega) (fun p hp => by simp only [List.mem_cons, List.not_mem_nil, or_false] at hp; rcases hp with rfl | rfl <;> (simp only; omega)) sr.toList _ 0 _ (E7.sub (cs := [(w.heap.size + 1 + 1, Tryd.zeroCells32), (w.heap.size + 1, sr), (w.heap.size, #[.slice P.va P.vars.length P.vcap, .int .i64 P.locks, .slice P.ha P.chans.length P.hcap, .slice P.fa P.funcs.length P.fcap])]) (fun p hp => by simp only [List.mem_cons, List.not_mem_nil, or_false] at hp ⊢; rcases hp with rfl | rfl | rfl <;> simp)) (by rw [hno.out]; simp [hsr.out])
    rw [putRow_all _ _ (by rw [hno.out]; simp [hsr.out])] at E8
    have hl := hsl.out _ _ (E8.h0.cast (by simp))
    refine bodyPost_ret (v := .tuple #[.agg sr, .int .i64 0]) (by simp [results, Tryd.results23, asAddr, hl]) rfl ⟨rfl, E8.acc⟩
  · skip
    go_enter Tryd.func23, Tryd.ntmps23
    have E0 := ((((Env.nil (w := w)).push w.heap.size rfl #[.slice P.va P.vars.length P.vcap, .int .i64 P.locks, .slice P.ha P.chans.length P.hcap, .slice P.fa P.funcs.length P.fcap] 41).push (w.heap.size + 1) (by simp) st 32).push (w.heap.size + 1 + 1) (by simp) Tryd.zeroCells32 32).sub (cs := [(w.heap.size + 1 + 1, Tryd.zeroCells32), (w.heap.size + 1, st), (w.heap.size, #[.slice P.va P.vars.length P.vcap, .int .i64 P.locks, .slice P.ha P.chans.length P.hcap, .slice P.fa P.funcs.length P.fcap])]) (fun p hp => by simp only [List.mem_cons, List.not_mem_nil, or_false] at hp ⊢; rcases hp with rfl | rfl | rfl <;> simp)
    have hno := Lib.hid (show Tryd.zeroCells32.size = 121 by rw [zc]; simpa using St.cs_len St.none_ok)
    go_wp2_with (first | (refine list_load_st rfl _ rfl (b := w.heap.size + 1) rfl B1 h121.out ?_) | ((go_at_call 21; ((with_reducible refine (cV.out _ (by with_reducible assumption)).mono ?_); rintro e w' ⟨rfl, hb2⟩)); have E2 := E1.next hb2; have y3 := E2.h0.cell; have y4 := E2.tl.h0.cell; have y5 := E2.tl.tl.h0.cell; have B2 := E2.tl.h0; have acc2 := E2.acc; have l3 := E2.h0.lt; have l4 := E2.tl.h0.lt; have l5 := E2.tl.tl.h0.lt; have z4 := E2.tl.h0.fr; have z3 := E2.h0.fr) | ((go_at_call 24; ((with_reducible refine (cR.out _ (by repeat (first | (with_reducible exact Below.refl _ _) | (with_reducible refine Below.drew ?_) | (with_reducible refine below_drewN ?_ _) | (with_reducible refine Below.alloc ?_ (by first | omega | (simp <;> omega)) _)))).mono ?_); rintro e w' ⟨rfl, hb1⟩)); have E1 := E0.next hb1; have y0 := E1.h0.cell; have y1 := E1.tl.h0.cell; have y2 := E1.tl.tl.h0.cell; have B1 := E1.tl.h0; have acc1 := E1.acc))
    apply wp_toS (Env w [(w.heap.size + 1, sr), (w.heap.size + 1 + 1, Tryd.zeroCells32), (w.heap.size, #[.slice P.va P.vars.length P.vcap, .int .i64 P.locks, .slice P.ha P.chans.length P.hcap, .slice P.fa P.funcs.length P.fcap])])
    · have k6 : (k : Int) < 6 := by omega
      refine wp_region_any (by kernel_rfl) ?_
      try (change wpAny _ _ _ _ _ _ _ (World.drew _))
      refine wpAny_take (i := 0) (v := ?_) rfl (by kernel_rfl) (by kernel_rfl) (by kernel_rfl) (fun _ _ _ h => h) (Or.inl ⟨by rfl, ?_⟩) ?_
      rotate_left
      · intro w; go_simp <;> (try with_reducible rfl)
      simp only [Act.put, List.getElem_toArray, List.getElem_cons_zero, List.getElem_cons_succ, List.setIfInBounds_toArray, List.set_cons_zero, List.set_cons_succ]
      refine wpAny_take (i := 2) (v := ?_) rfl (by kernel_rfl) (by kernel_rfl) (by kernel_rfl) (fun _ _ _ h => h) (Or.inl ⟨by rfl, ?_⟩) ?_
      rotate_left
      · intro w; go_simp <;> (try with_reducible rfl)
      simp only [Act.put, List.getElem_toArray, List.getElem_cons_zero, List.getElem_cons_succ, List.setIfInBounds_toArray, List.set_cons_zero, List.set_cons_succ]
      refine wpAny_take (i := 3) (v := ?_) rfl (by kernel_rfl) (by kernel_rfl) (by kernel_rfl) (fun _ _ _ h => h) (Or.inl ⟨by rfl, ?_⟩) ?_
      rotate_left
      · intro w; go_simp <;> (try with_reducible rfl)
      simp only [Act.put, List.getElem_toArray, List.getElem_cons_zero, List.getElem_cons_succ, List.setIfInBounds_toArray, List.set_cons_zero, List.set_cons_succ]
      refine wpAny_take (i := 4) (v := ?_) rfl (by kernel_rfl) (by kernel_rfl) (by kernel_rfl) (fun _ _ _ h => h) (Or.inl ⟨by rfl, ?_⟩) ?_
      rotate_left
      · intro w; go_simp <;> (try with_reducible rfl)
      simp only [Act.put, List.getElem_toArray, List.getElem_cons_zero, List.getElem_cons_succ, List.setIfInBounds_toArray, List.set_cons_zero, List.set_cons_succ]
      refine wpAny_take (i := 6) (v := ?_) rfl (by kernel_rfl) (by kernel_rfl) (by kernel_rfl) (fun _ _ _ h => h) (Or.inl ⟨by rfl, ?_⟩) ?_
      rotate_left
      · intro w; go_simp <;> (try with_reducible rfl)
      simp only [Act.put, List.getElem_toArray, List.getElem_cons_zero, List.getElem_cons_succ, List.setIfInBounds_toArray, List.set_cons_zero, List.set_cons_succ]
      refine wpAny_take (i := 8) (v := ?_) rfl (by kernel_rfl) (by kernel_rfl) (by kernel_rfl) (fun _ _ _ h => h) (Or.inl ⟨by rfl, ?_⟩) ?_
      rotate_left
      · intro w; go_simp <;> (try with_reducible rfl)
      simp only [Act.put, List.getElem_toArray, List.getElem_cons_zero, List.getElem_cons_succ, List.setIfInBounds_toArray, List.set_cons_zero, List.set_cons_succ]
      refine wpAny_ready (rs := [1, 5]) (by kernel_rfl) (by simp) (AllReady.cons rfl (fun K hK => ?_) (AllReady.cons rfl (fun K hK => ?_) AllReady.nil))
      · go_simp
        refine hK _ _ ?_; clear hK K
        try simp only [Act.put, List.getElem_toArray, List.getElem_cons_zero, List.getElem_cons_succ, List.setIfInBounds_toArray, List.set_cons_zero, List.set_cons_succ]
        refine wpAny_ready (rs := [5]) (by kernel_rfl) (by simp) (AllReady.cons rfl (fun K hK => ?_) AllReady.nil)
        go_simp
        refine hK _ _ ?_; clear hK K
        try simp only [Act.put, List.getElem_toArray, List.getElem_cons_zero, List.getElem_cons_succ, List.setIfInBounds_toArray, List.set_cons_zero, List.set_cons_succ]
        refine wpAny_ready (rs := [7]) (by kernel_rfl) (by simp) (AllReady.cons rfl (fun K hK => ?_) AllReady.nil)
        go_simp
        ((go_at_call 36; ((with_reducible refine (cS.out _ (by first | exact E2.acc | exact E2.acc.drew)).mono ?_); rintro e w' ⟨rfl, hb3⟩)))
        have E6 := (E2.drew.next hb3).sub (cs := [(w.heap.size + 1, st), (w.heap.size + 1 + 1, Tryd.zeroCells32), (w.heap.size, #[.slice P.va P.vars.length P.vcap, .int .i64 P.locks, .slice P.ha P.chans.length P.hcap, .slice P.fa P.funcs.length P.fcap])]) (fun p hp => by simp only [List.mem_cons, List.not_mem_nil, or_false] at hp ⊢; rcases hp with rfl | rfl | rfl <;> simp)
        try go_wp2_with fail
        first | (refine hK _ _ ?_; clear hK K) | skip
        try simp only [Act.put, List.getElem_toArray, List.getElem_cons_zero, List.getElem_cons_succ, List.setIfInBounds_toArray, List.set_cons_zero, List.set_cons_succ]
        refine wpAny_take (i := 9) (v := ?_) rfl (by kernel_rfl) (by kernel_rfl) (by kernel_rfl) (fun _ _ _ h => h) (Or.inl ⟨by rfl, ?_⟩) ?_
        rotate_left
        · intro w; go_simp <;> (try with_reducible rfl)
        simp only [Act.put, List.getElem_toArray, List.getElem_cons_zero, List.getElem_cons_succ, List.setIfInBounds_toArray, List.set_cons_zero, List.set_cons_succ]
        refine wpAny_ready (rs := [10]) (by kernel_rfl) (by simp) (AllReady.cons rfl (fun K hK => ?_) AllReady.nil)
        rw [if_pos (by rfl)]
        refine wp_store_mid 29 _ _ rfl (w.heap.size + 1) (48 + k * 12) _ rfl rfl (E6.h0.there _ _ (by rw [h121.out]; simp; omega)) (by rw [size12]; rfl) (one12 _ _ _ _ _ _ _ _ _ _ _ _) ?_
        refine hK _ _ ?_; clear hK K
        try simp only [Act.put, List.getElem_toArray, List.getElem_cons_zero, List.getElem_cons_succ, List.setIfInBounds_toArray, List.set_cons_zero, List.set_cons_succ]
        refine wpAny_done (by kernel_rfl) ?_ _
        have E7 := Env.setRow (by omega) (fun p hp => by simp only [List.mem_cons, List.not_mem_nil, or_false] at hp; rcases hp with rfl | rfl <;> (simp only; omega)) [.int .i64 v0, .int .i64 v1, .int .i64 v2, .int .i64 v3, .int .i64 v4, .int .i64 v5, .int .i64 v6, .int .i64 v7, .int .i64 v8, .int .i64 v9, .int .i64 v10, .int .i64 v11] _ (48 + k * 12) _ E6 (by rw [h121.out]; simp; omega)
        rw [hput.out] at E7
        exact ToS.mk E7
      · go_simp
        refine hK _ _ ?_; clear hK K
        try simp only [Act.put, List.getElem_toArray, List.getElem_cons_zero, List.getElem_cons_succ, List.setIfInBounds_toArray, List.set_cons_zero, List.set_cons_succ]
        refine wpAny_ready (rs := [1]) (by kernel_rfl) (by simp) (AllReady.cons rfl (fun K hK => ?_) AllReady.nil)
        go_simp
        refine hK _ _ ?_; clear hK K
        try simp only [Act.put, List.getElem_toArray, List.getElem_cons_zero, List.getElem_cons_succ, List.setIfInBounds_toArray, List.set_cons_zero, List.set_cons_succ]
        refine wpAny_ready (rs := [7]) (by kernel_rfl) (by simp) (AllReady.cons rfl (fun K hK => ?_) AllReady.nil)
        go_simp
        ((go_at_call 36; ((with_reducible refine (cS.out _ (by first | exact E2.acc | exact E2.acc.drew)).mono ?_); rintro e w' ⟨rfl, hb3⟩)))
        have E6 := (E2.drew.next hb3).sub (cs := [(w.heap.size + 1, st), (w.heap.size + 1 + 1, Tryd.zeroCells32), (w.heap.size, #[.slice P.va P.vars.length P.vcap, .int .i64 P.locks, .slice P.ha P.chans.length P.hcap, .slice P.fa P.funcs.length P.fcap])]) (fun p hp => by simp only [List.mem_cons, List.not_mem_nil, or_false] at hp ⊢; rcases hp with rfl | rfl | rfl <;> simp)
        try go_wp2_with fail
        first | (refine hK _ _ ?_; clear hK K) | skip
        try simp only [Act.put, List.getElem_toArray, List.getElem_cons_zero, List.getElem_cons_succ, List.setIfInBounds_toArray, List.set_cons_zero, List.set_cons_succ]
        refine wpAny_take (i := 9) (v := ?_) rfl (by kernel_rfl) (by kernel_rfl) (by kernel_rfl) (fun _ _ _ h => h) (Or.inl ⟨by rfl, ?_⟩) ?_
        rotate_left
        · intro w; go_simp <;> (try with_reducible rfl)
        simp only [Act.put, List.getElem_toArray, List.getElem_cons_zero, List.getElem_cons_succ, List.setIfInBounds_toArray, List.set_cons_zero, List.set_cons_succ]
        refine wpAny_ready (rs := [10]) (by kernel_rfl) (by simp) (AllReady.cons rfl (fun K hK => ?_) AllReady.nil)
        rw [if_pos (by rfl)]
        refine wp_store_mid 29 _ _ rfl (w.heap.size + 1) (48 + k * 12) _ rfl rfl (E6.h0.there _ _ (by rw [h121.out]; simp; omega)) (by rw [size12]; rfl) (one12 _ _ _ _ _ _ _ _ _ _ _ _) ?_
        refine hK _ _ ?_; clear hK K
        try simp only [Act.put, List.getElem_toArray, List.getElem_cons_zero, List.getElem_cons_succ, List.setIfInBounds_toArray, List.set_cons_zero, List.set_cons_succ]
        refine wpAny_done (by kernel_rfl) ?_ _
        have E7 := Env.setRow (by omega) (fun p hp => by simp only [List.mem_cons, List.not_mem_nil, or_false] at hp; rcases hp with rfl | rfl <;> (simp only; omega)) [.int .i64 v0, .int .i64 v1, .int .i64 v2, .int .i64 v3, .int .i64 v4, .int .i64 v5, .int .i64 v6, .int .i64 v7, .int .i64 v8, .int .i64 v9, .int .i64 v10, .int .i64 v11] _ (48 + k * 12) _ E6 (by rw [h121.out]; simp; omega)
        rw [hput.out] at E7
        exact ToS.mk E7
    intro W3 E7
    go_wp2_with (first | (refine wpList_store_mid rfl 32 _ _ rfl (w.heap.size + 1 + 1) 0 _ rfl rfl (E7.tl.h0.there _ _ (by rw [hno.out, hsr.out]; omega)) (by rw [size32, hsr.out]) hone.out ?_) | (refine list_load_st rfl _ rfl (b := w.heap.size + 1) rfl E7.h0 hsr.out ?_))
    have E8 := Env.setRow (by omega) (fun p hp => by simp only [List.mem_cons, List.not_mem_nil, or_false] at hp; rcases hp with rfl | rfl <;> (simp only; omega)) sr.toList _ 0 _ (E7.sub (cs := [(w.heap.size + 1 + 1, Tryd.zeroCells32), (w.heap.size + 1, sr), (w.heap.size, #[.slice P.va P.vars.length P.vcap, .int .i64 P.locks, .slice P.ha P.chans.length P.hcap, .slice P.fa P.funcs.length P.fcap])]) (fun p hp => by simp only [List.mem_cons, List.not_mem_nil, or_false] at hp ⊢; rcases hp with rfl | rfl | rfl <;> simp)) (by rw [hno.out]; simp [hsr.out])
    rw [putRow_all _ _ (by rw [hno.out]; simp [hsr.out])] at E8
    have hl := hsl.out _ _ (E8.h0.cast (by simp))
    refine bodyPost_ret (v := .tuple #[.agg sr, .int .i64 0]) (by simp [results, Tryd.results23, asAddr, hl]) rfl ⟨rfl, E8.acc⟩
end Go.Proofs.YtbcdeanmjhcgeaaDoor.Pg
