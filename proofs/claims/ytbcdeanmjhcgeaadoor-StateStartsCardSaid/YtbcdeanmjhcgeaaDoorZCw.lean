/- The copy of a program, walked. No condition. -/
import Derived.Test.YtbcdeanmjhcgeaaDoorZC1
import Derived.Test.YtbcdeanmjhcgeaaDoorZn
namespace Go.Proofs.YtbcdeanmjhcgeaaDoor.Pg
set_option linter.unusedVariables false
set_option linter.unusedSimpArgs false
open Go.ChangeShapes Go.WideShapes Go.RowKit
set_option linter.unusedVariables false
theorem i_var : (Tryd.prog.info? 83).map (fun i => (i.zero, i.size, i.bytes)) = some (some (.agg #[.bool false, .int .i64 0]), 2, 16) := by kernel_rfl
theorem i_int : (Tryd.prog.info? 3).map (fun i => (i.zero, i.size, i.bytes)) = some (some (.int .i64 0), 1, 8) := by kernel_rfl
theorem i_ins : (Tryd.prog.info? 88).map (fun i => (i.zero, i.size, i.bytes)) = some (some (.agg #[.int .i64 0, .int .i64 0, .int .i64 0, .int .i64 0, .int .i64 0]), 5, 40) := by kernel_rfl
theorem i_cas : (Tryd.prog.info? 105).map (fun i => (i.zero, i.size, i.bytes)) = some (some (.agg #[.bool false, .int .i64 0, .int .i64 0, .int .i64 0]), 4, 32) := by kernel_rfl
theorem i_sel : (Tryd.prog.info? 80).map (fun i => (i.zero, i.size, i.bytes)) = some (some (.agg #[.slice none 0 0, .int .i64 0]), 2, 32) := by kernel_rfl
theorem i_fun : (Tryd.prog.info? 77).map (fun i => (i.zero, i.size, i.bytes)) = some (some (.agg #[.int .i64 0, .int .i64 0, .slice none 0 0, .slice none 0 0]), 4, 64) := by kernel_rfl
theorem lies_new (W : World) (b : Nat) (hb : b = W.heap.size) (arr : Array Value) (T : TypeId) (l : List Value) (hl : l = arr.toList) : Lies (W.alloc (.cells arr T)) (some ⟨b, 0, none⟩) l := by
  subst hb; subst hl
  refine .inr ⟨_, 0, rfl, by simp, fun j v hv => ?_⟩
  rw [Nat.zero_add, World.cell?_alloc_new]; simpa using hv
set_option maxHeartbeats 12000000 in
set_option maxRecDepth 100000 in
theorem prog_walk (P : Pg) (w : World) (I : P.In w) (Z : P.Sized) : Calls Tryd.prog 15 #[P.v] w fun e w' => ∃ Q : Pg, e = .returned Q.v ∧ Q.bare = P.bare ∧ Q.In w' ∧ Below w.heap.size w w' := by
  obtain ⟨hz1, hz2, hz3, hz4⟩ := Z
  replace hz1 := Lib.hid hz1
  replace hz2 := Lib.hid hz2
  replace hz3 := Lib.hid hz3
  replace hz4 := Lib.hid hz4
  have hlV := Lib.hid I.varL
  have hlH := Lib.hid I.chanL
  have hlen := I.lenF
  unfold Len at hlen
  unfold Pg.v
  go_enter Tryd.func15, Tryd.ntmps15
  go_wp2_with (first
    | (at_builtin; (
       refine wpList_append_lst rfl (.tmp 20) (.tmp 22) 34 rfl (w.heap.size + 1 + 1 + 1) 3 _ 1 8 Tryd.underlying34 i_int rfl (by decide) (.slice none 0 0) 0 [] rfl (World.ownsRow_nil _ _ _ _) P.ha P.chans.length P.hcap (P.chans.map (Value.int .i64)) rfl (by simp) (hlH.out.below E2.acc) (one_int _) (by have := hz2.out; omega) (by decide) (by have := E2.h0.lt; omega) ?_
       intro v2 w2 o2 g2 t2
       simp only [Nat.zero_add, List.nil_append] at o2
       obtain ⟨ha, hc, rfl, _, _⟩ := ownsRow_form o2 (by decide)
       have E3 := E2.grown g2 (fun k hk => by cases hk)
       have E4 := E3.set (by omega) (by intro p hp; simp only [List.mem_cons, List.not_mem_nil, or_false] at hp; rcases hp with rfl | rfl <;> (simp only; omega)) 2 (by simp) (.slice ha P.chans.length hc)
       simp only [List.setIfInBounds_toArray, List.set_cons_zero, List.set_cons_succ] at E4
       have y3 := E3.h0.cell
       have z3 := E3.h0.fr
       have x3 : ∀ o, World.cell? w2 ⟨w.heap.size, o, none⟩ = (#[.slice P.va P.vars.length P.vcap, .int .i64 P.locks, .slice P.ha P.chans.length P.hcap, .slice P.fa P.funcs.length P.fcap] : Array Value)[o]? := (E3.tl.tl.h0).cell))
    | (at_builtin; (
       refine wpList_append_lst rfl (.tmp 14) (.tmp 16) 38 rfl (w.heap.size + 1 + 1 + 1) 83 _ 2 16 Tryd.underlying38 i_var rfl (by decide) (.slice none 0 0) 0 [] rfl (World.ownsRow_nil _ _ _ _) P.va P.vars.length P.vcap (P.vars.flatMap Vr.cs) rfl (flat_lenC Vr.cs_len _) (hlV.out.below (by repeat (first | (with_reducible exact Below.refl _ _) | (with_reducible refine Below.drew ?_) | (with_reducible refine below_drewN ?_ _) | (with_reducible refine Below.alloc ?_ (by first | omega | (simp <;> omega)) _)))) (flat_oneC Vr.one _) (by have := hz1.out; omega) (by decide) (by simp) ?_
       intro v1 w1 o1 g1 t1
       simp only [Nat.zero_add, List.nil_append] at o1
       obtain ⟨va, vc, rfl, _, _⟩ := ownsRow_form o1 (by decide)
       have E0 := (((Env.nil (w := w)).push w.heap.size rfl P.cs.toArray 41).push (w.heap.size + 1) (by simp) #[.slice none 0 0, .int .i64 0, .slice none 0 0, .slice none 0 0] 41).push (w.heap.size + 1 + 1) (by simp) #[.slice none 0 0, .int .i64 P.locks, .slice none 0 0, .slice none 0 0] 41
       have E1 := E0.grown g1 (fun k hk => by cases hk)
       have E2 := E1.set (by omega) (by intro p hp; simp only [List.mem_cons, List.not_mem_nil, or_false] at hp; rcases hp with rfl | rfl <;> (simp only; omega)) 0 (by simp) (.slice va P.vars.length vc)
       simp only [List.setIfInBounds_toArray, List.set_cons_zero, List.set_cons_succ] at E2
       have y1 := E1.h0.cell
       have z1 := E1.h0.fr
       have x1 : ∀ o, World.cell? w1 ⟨w.heap.size, o, none⟩ = (#[.slice P.va P.vars.length P.vcap, .int .i64 P.locks, .slice P.ha P.chans.length P.hcap, .slice P.fa P.funcs.length P.fcap] : Array Value)[o]? := (E1.tl.tl.h0).cell)))
  have S0 : OutR w (w.heap.size + 1) (w.heap.size + 1 + 1) P va vc ha hc 0 (w2.setCell ⟨w.heap.size + 1 + 1, 2, none⟩ (.slice ha P.chans.length hc)) none 0 [] := by
    have hx : ∀ y ∈ [some (w.heap.size + 1), some (w.heap.size + 1 + 1), (Value.slice none 0 0).ownBlock], y = none ∨ ∃ k, y = some k ∧ k < w.heap.size + 1 + 1 + 1 := fun y hy => by
      simp only [List.mem_cons, List.not_mem_nil, or_false] at hy
      rcases hy with rfl | rfl | rfl
      · exact .inr ⟨_, rfl, by omega⟩
      · exact .inr ⟨_, rfl, by omega⟩
      · exact .inl rfl
    have hx' : ∀ y ∈ [some (w.heap.size + 1), some (w.heap.size + 1 + 1), (Value.slice none 0 0).ownBlock], ∀ z, y = none ∨ (∃ k, y = some k ∧ k < w.heap.size + 1 + 1 + 1) ∨ z := fun y hy z => (hx y hy).imp id .inl
    have q1 := (((Own.row o1 (by decide) fun y hy => hx' y hy _).grown (grown_set _ (w.heap.size + 1 + 1) 0 (.slice va P.vars.length vc)) (.inr (by simp))).grown g2 (.inl rfl)).grown (grown_set _ (w.heap.size + 1 + 1) 2 (.slice ha P.chans.length hc)) (.inr (by simp))
    have q2 := (Own.row o2 (by decide) fun y hy => hx' y hy _).grown (grown_set _ (w.heap.size + 1 + 1) 2 (.slice ha P.chans.length hc)) (.inr (by simp))
    exact ⟨E4, World.ownsRow_nil _ _ _ _, ((Owns.nil _ _).cons q2).cons q1, E4.h0.lt, rfl⟩
  clear y1 z1 x1 y3 z3 x3 E0 E1 E2 E3 E4 g1 g2 t1 t2 o1 o2
  replace S0 := Lib.hid S0
  go_loopw [28] (fun i wr => ∃ (k : Nat) (fa : Option Addr) (fc : Nat) (Qs : List Fn), k ≤ P.funcs.length ∧ i = .int .i64 k ∧ OutR w (w.heap.size + 1) (w.heap.size + 1 + 1) P va vc ha hc k wr fa fc Qs) (fun i _ => P.funcs.length - (intOf i).toNat)
  case atStart => exact ⟨0, none, 0, [], by omega, rfl, S0.out⟩
  case round =>
    clear S0
    obtain ⟨wo, rfl⟩ : ∃ wo : World, wo = wr := ⟨_, rfl⟩
    obtain ⟨k, fa, fc, Qs, hk, rfl, R⟩ := hrel
    have acc := R.env.acc
    have hsz := acc.size
    by_cases hkl : k < P.funcs.length
    · obtain ⟨fb, fo, hfa, hfl, hF⟩ := I.func (by omega)
      have s0 := hF k P.funcs[k] (by simp) 0 _ rfl
      have s1 := hF k P.funcs[k] (by simp) 1 _ rfl
      have s2 := hF k P.funcs[k] (by simp) 2 _ rfl
      have s3 := hF k P.funcs[k] (by simp) 3 _ rfl
      have hin := I.funcs P.funcs[k] (List.getElem_mem _)
      have zF := Lib.hid (hz4.out P.funcs[k] (List.getElem_mem _))
      have hT := Lib.hid (List.take_succ_eq_append_getElem hkl)
      rw [← acc.cell (by simpa using hfl)] at s0 s1 s2 s3
      have hfl' := Nat.lt_of_lt_of_le hfl acc.size
      have hkn := Lib.hid hkl
      simp only [Nat.add_zero] at s0
      clear hF
      generalize P.funcs[k] = f at *
      have lC := Lib.hid hin.code
      replace hin := Lib.hid hin
      rw [hfa]
      have y0 := R.env.h0.cell
      have z0 := R.env.h0.fr
      have R' := Lib.hid R
      have E5 := ((R.env.push wo.heap.size rfl f.cs.toArray 77).push (wo.heap.size + 1) (by simp) #[.int .i64 f.params, .int .i64 f.regs, .slice none 0 0, .slice none 0 0] 77)
      have hbig := R.big
      clear R
      go_wp2_with (first
        | (at_builtin; (
       refine wpList_append_lst rfl (.tmp 39) (.tmp 41) 74 rfl (w.heap.size + 1 + 1 + 1) 88 _ 5 40 Tryd.underlying74 i_ins rfl (by decide) (.slice none 0 0) 0 [] rfl (World.ownsRow_nil _ _ _ _) f.ca f.code.length f.ccap (f.code.flatMap Ins.cs) rfl (flat_lenC Ins.cs_len _) (lC.out.below E5.acc) (flat_oneC Ins.one _) (by have := zF.out.1; omega) (by decide) (by simp; omega) ?_
       intro v3 w3 o3 g3 t3
       simp only [Nat.zero_add, List.nil_append] at o3
       obtain ⟨ca, cc, rfl, _, _⟩ := ownsRow_form o3 (by decide)
       have E6 := E5.grown g3 (fun k hk => by cases hk)
       have y6 := E6.h0.cell
       have z6 := E6.h0.fr
       have x6 : ∀ o, World.cell? w3 ⟨wo.heap.size, o, none⟩ = (#[.int .i64 f.params, .int .i64 f.regs, .slice f.ca f.code.length f.ccap, .slice f.sa f.sels.length f.scap] : Array Value)[o]? := E6.tl.h0.cell
       have T0 := Lib.hid (R'.out.inner f (by omega) (by omega) g3 o3 (t3.imp id (fun e => e.trans (by simp)))))))
      clear y6 z6 x6 E5 E6 g3 t3 o3 y0 z0 s0 s1 s2 s3
      go_loopw [47] (fun i wr => ∃ (j : Nat) (sa : Option Addr) (sc : Nat) (ts : List Sel), j ≤ f.sels.length ∧ i = .int .i64 j ∧ InR w (w.heap.size + 1) (w.heap.size + 1 + 1) wo.heap.size (wo.heap.size + 1) P va vc ha hc k fa fc Qs f ca cc j wr sa sc ts) (fun i _ => f.sels.length - (intOf i).toNat)
      case atStart => exact ⟨0, none, 0, [], by omega, rfl, T0.out⟩
      case round =>
        clear T0
        obtain ⟨j, sa, sc, ts, hj, rfl, J⟩ := hrel
        have acc' := J.env.acc
        have hsz' := acc'.size
        have hls := hin.out.lenS
        unfold Len at hls
        obtain ⟨b1, b2, b3⟩ := J.big
        by_cases hjl : j < f.sels.length
        · obtain ⟨sb, so, hsa, hsl, hS⟩ := hin.out.sel (by omega)
          have u0 := hS j f.sels[j] (by simp) 0 _ rfl
          have u1 := hS j f.sels[j] (by simp) 1 _ rfl
          have lS := Lib.hid (hin.out.sels f.sels[j] (List.getElem_mem _)).lies
          have zS := Lib.hid (zF.out.2.2 f.sels[j] (List.getElem_mem _))
          have hT' := Lib.hid (List.take_succ_eq_append_getElem hjl)
          rw [← acc'.cell (by simpa using hsl)] at u0 u1
          have hsl' := Nat.lt_of_lt_of_le hsl acc'.size
          simp only [Nat.add_zero] at u0
          clear hS
          have hfs := Lib.hid (rfl : f.sels = f.sels)
          generalize f.sels[j] = s at *
          rw [hsa]
          have y7 := J.env.h0.cell
          have z7 := J.env.h0.fr
          have E7 := (J.env.skip (.cells s.cs.toArray 80)).push (wr.heap.size + 1) (by simp) #[.slice none 0 0, .int .i64 s.els] 80
          have J' := Lib.hid J
          clear J
          go_wp2_with (first
            | (at_builtin; (
       refine wpList_append_lst rfl (.tmp 61) (.tmp 63) 75 rfl (wo.heap.size + 1 + 1) 80 _ 2 32 Tryd.underlying75 i_sel rfl (by decide) (.slice sa j sc) j (ts.flatMap Sel.cs) rfl ((kept_set (kept_none ((J'.out.rowS.alloc (.cells s.cs.toArray 80)).alloc (.cells #[.slice none 0 0, .int .i64 s.els] 80)) g4) (wr.heap.size + 1) 0 (.slice ta s.cases.length tc) (own_ne J'.out.rowS (by omega))).alloc (.cells #[.slice ta s.cases.length tc, .int .i64 s.els] 80)) (some ⟨w4.heap.size, 0, none⟩) 1 1 [.slice ta s.cases.length tc, .int .i64 s.els] rfl rfl (lies_new _ _ (by simp [World.setCell]) _ _ _ rfl) (by simp [Value.oneCell']) (by have := zF.out.2.1; omega) (by decide) (by have := g4.size; simp [World.setCell] at this ⊢; omega) ?_
       intro v5 w5 o5 g5 t5
       obtain ⟨sa', sc', rfl, _, _⟩ := ownsRow_form o5 (by decide)
       have s4 := g4.size
       simp at s4
       have E9 := E8.set (by omega) (by intro p hp; simp only [List.mem_cons, List.not_mem_nil, or_false] at hp; rcases hp with rfl | rfl | rfl | rfl | rfl <;> (simp only; omega)) 0 (by simp) (.slice ta s.cases.length tc)
       simp only [List.setIfInBounds_toArray, List.set_cons_zero, List.set_cons_succ] at E9
       have E10 := (E9.skip (.cells #[.slice ta s.cases.length tc, .int .i64 s.els] 80)).grown g5 (fun k hk => by have hkk := J'.out.rowS.lt k hk; refine ⟨by omega, fun p hp => ?_⟩; simp only [List.mem_cons, List.not_mem_nil, or_false] at hp; rcases hp with rfl | rfl | rfl | rfl | rfl | rfl <;> (simp only; omega))
       have y10 := E10.tl.h0.cell
       have z10 := E10.tl.h0.fr
       have T5 := Lib.hid (J'.out.step s (by omega) (by omega) hT'.out g4 o4 (t4.imp id (fun e => e.trans (by simp))) g5 o5 (t5.imp id (fun e => e.trans (by simp [World.setCell]))))))
            | (at_builtin; (
       refine wpList_append_lst rfl (.tmp 55) (.tmp 57) 78 rfl (w.heap.size + 1 + 1 + 1) 105 _ 4 32 Tryd.underlying78 i_cas rfl (by decide) (.slice none 0 0) 0 [] rfl (World.ownsRow_nil _ _ _ _) s.a s.cases.length s.cap (s.cases.flatMap Cas.cs) rfl (flat_lenC Cas.cs_len _) (lS.out.below E7.acc) (flat_oneC Cas.one _) (by have := zS.out; omega) (by decide) (by simp; omega) ?_
       intro v4 w4 o4 g4 t4
       simp only [Nat.zero_add, List.nil_append] at o4
       obtain ⟨ta, tc, rfl, _, _⟩ := ownsRow_form o4 (by decide)
       have E8 := E7.grown g4 (fun k hk => by cases hk)
       have y8 := E8.h0.cell
       have z8 := E8.h0.fr
       have y9 := E8.tl.h0.cell
       have z9 := E8.tl.h0.fr)))
          go_roundw
          case rel => exact ⟨j + 1, sa', sc', ts ++ [⟨ta, tc, s.cases, s.els⟩], by omega, by go_num, T5.out⟩
          case measure => simp [intOf]; omega
        · obtain rfl : j = f.sels.length := by omega
          have y7 := J.env.h0.cell
          have z7 := J.env.h0.fr
          have y8 := J.env.tl.tl.h0.cell
          have z8 := J.env.tl.tl.h0.fr
          have J' := Lib.hid J
          clear J
          go_wp2_with (first
            | (at_builtin; (
       refine wpList_append_lst rfl (.tmp 68) (.tmp 70) 39 rfl (w.heap.size + 1 + 1 + 1) 77 _ 4 64 Tryd.underlying39 i_fun rfl (by decide) (.slice fa k fc) k (Qs.flatMap Fn.cs) rfl (J'.out.rowF.alloc (.cells #[.int .i64 f.params, .int .i64 f.regs, .slice ca f.code.length cc, .slice sa f.sels.length sc] 77)) (some ⟨wr.heap.size, 0, none⟩) 1 1 [.int .i64 f.params, .int .i64 f.regs, .slice ca f.code.length cc, .slice sa f.sels.length sc] rfl rfl (lies_new _ _ (by simp [World.setCell]) _ _ _ rfl) (by simp [Value.oneCell']) (by have := hz3.out; have := hkn.out; omega) (by decide) (by simp; omega) ?_
       intro v6 w6 o6 g6 t6
       obtain ⟨fa', fc', rfl, _, _⟩ := ownsRow_form o6 (by decide)
       have E10 := (J'.out.env.tl.tl.skip (.cells #[.int .i64 f.params, .int .i64 f.regs, .slice ca f.code.length cc, .slice sa f.sels.length sc] 77)).grown g6 (fun k hk => by have hkk := J'.out.rowF.lt k hk; refine ⟨by omega, fun p hp => ?_⟩; simp only [List.mem_cons, List.not_mem_nil, or_false] at hp; rcases hp with rfl | rfl | rfl <;> (simp only; omega))
       have y10 := E10.h0.cell
       have z10 := E10.h0.fr
       have T6 := Lib.hid (J'.out.out (by omega) (by omega) hT.out g6 o6 (t6.imp id (fun e => e.trans (by simp)))))))
          go_roundw
          case rel => exact ⟨k + 1, fa', fc', Qs ++ [⟨f.params, f.regs, ca, cc, f.code, sa, sc, ts⟩], by have := hkn.out; omega, by go_num, T6.out⟩
          case measure => have := hkn.out; simp [intOf]; omega
    · obtain rfl : k = P.funcs.length := by omega
      have y0 := R.env.h0.cell
      have z0 := R.env.h0.fr
      have y1 := R.env.tl.h0.cell
      have z1 := R.env.tl.h0.fr
      have l1 := R.env.tl.h0.lt
      have R' := Lib.hid R
      clear R
      go_wp2_with (fail)
      have g := (((grown_set wo (w.heap.size + 1) 0 (.slice va P.vars.length vc)).trans (grown_set _ (w.heap.size + 1) 1 (.int .i64 P.locks))).trans (grown_set _ (w.heap.size + 1) 2 (.slice ha P.chans.length hc))).trans (grown_set _ (w.heap.size + 1) 3 (.slice fa P.funcs.length fc))
      have D := R'.out.done (by omega) (by omega) I g
      have ne : ∀ p ∈ [(w.heap.size, P.cs.toArray)], p.1 ≠ w.heap.size + 1 := by intro p hp; simp only [List.mem_cons, List.not_mem_nil, or_false] at hp; rcases hp with rfl; simp only; omega
      have E := (((R'.out.env.tl.set (by omega) ne 0 (by simp) (.slice va P.vars.length vc)).set (by omega) ne 1 (by simp) (.int .i64 P.locks)).set (by omega) ne 2 (by simp) (.slice ha P.chans.length hc)).set (by omega) ne 3 (by simp) (.slice fa P.funcs.length fc)
      simp only [List.setIfInBounds_toArray, List.set_cons_zero, List.set_cons_succ] at E
      have yF := E.h0.cell
      obtain ⟨D1, D2, D3, D4⟩ := D
      refine bodyPost_ret (v := .agg #[.slice va P.vars.length vc, .int .i64 P.locks, .slice ha P.chans.length hc, .slice fa P.funcs.length fc]) (by simp [results, Tryd.results15, go_sem, yF]) rfl ⟨⟨va, vc, P.vars, P.locks, ha, hc, P.chans, fa, fc, Qs⟩, ?_, D1, D2, D3⟩
      simp only [D4]
end Go.Proofs.YtbcdeanmjhcgeaaDoor.Pg
