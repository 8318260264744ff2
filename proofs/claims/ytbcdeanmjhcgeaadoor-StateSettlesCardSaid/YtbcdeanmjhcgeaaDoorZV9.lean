/- States, walked: the reference's Valid. -/
import Derived.Test.YtbcdeanmjhcgeaaDoorZL3
import Derived.Test.YtbcdeanmjhcgeaaDoorZV8
import Derived.Test.YtbcdeanmjhcgeaaDoorZV3
import Derived.BigRegion
import Derived.Deep.RegionHeld3
namespace Go.Proofs.YtbcdeanmjhcgeaaDoor.Pg
set_option linter.unusedVariables false
set_option linter.unusedSimpArgs false
open Go.ChangeShapes Go.WideShapes Go.RowKit
set_option linter.unusedVariables false
set_option maxHeartbeats 16000000 in
set_option maxRecDepth 100000 in
theorem rvalid_walk (P : Pg) (s : St) (w : World) (I : P.In w) (hs : s.ok) : Calls Tryd.prog 21 #[P.v, s.v] w fun e w' => e = .returned (.bool (valid P s)) ∧ Below w.heap.size w w' := by
  obtain ⟨r, hr⟩ : ∃ r, Hid (r = valid P s) := ⟨_, Lib.hid rfl⟩
  rw [← hr.out]
  have hv := valid_eq P s
  have cR := Lib.hid (fun W (hb : Below w.heap.size w W) => rright_walk P W (I.below hb))
  have hcnt := St.get_count hs
  have hlf := I.lenF; have hlv := I.lenV; have hlh := I.lenH
  unfold Len at hlf hlv hlh
  obtain ⟨_, _⟩ := hs.count
  unfold St.v Pg.v at *
  by_cases hR : right P = true
  · rw [hR] at cR
    have hVE := Lib.hid (fun k hk => St.get_var hs k hk)
    have hOE := Lib.hid (fun k hk => St.get_owner hs k hk)
    have hGE := Lib.hid (fun k hk j v h => St.get_go hs k hk j v h)
    have hCE := Lib.hid (fun k hk j v h => St.get_chan hs k hk j v h)
    have hnv := (Rt.of hR).nv; have hnc := (Rt.of hR).nc
    have h121 := Lib.hid (show s.cs.toArray.size = 121 by simpa using St.cs_len hs)
    have hV1 := Lib.hid (vars_yes (P := P) (s := s))
    have hV0 := Lib.hid (vars_no (P := P) (s := s))
    have hO1 := Lib.hid (owners_yes (P := P) (s := s))
    have hO0 := Lib.hid (owners_no (P := P) (s := s))
    obtain ⟨X, hX⟩ : ∃ X : Nat → Int, X = fun k => s.vars.getD k 0 := ⟨_, rfl⟩
    obtain ⟨O, hO⟩ : ∃ O : Nat → Int, O = fun k => s.owner.getD k 0 := ⟨_, rfl⟩
    have hXk : ∀ k, s.vars.getD k 0 = X k := fun k => by rw [hX]
    have hOk : ∀ k, s.owner.getD k 0 = O k := fun k => by rw [hO]
    simp only [hXk] at hVE hV1 hV0
    simp only [hOk] at hOE hO1 hO0
    have X64 : ∀ k, I64 (X k) := fun k => by rw [← hXk k, List.getD_eq_getElem?_getD]; by_cases hk : k < s.vars.length; (· simpa [hk] using hs.vars _ (List.getElem_mem hk)); (· rw [List.getElem?_eq_none (by omega)]; exact ⟨by decide, by decide⟩)
    clear hXk hOk hX hO
    have hF := Lib.hid (fun (k : Nat) W (hk : k < 6) (hb : Below w.heap.size w W) => go_walk P (s.gos.getD k default) W (I.below hb) (by rw [show s.gos.getD k default = s.gos[k]'(by rw [hs.lg]; exact hk) by simp [show k < s.gos.length by rw [hs.lg]; exact hk]]; exact hs.gos _ (List.getElem_mem _)) (fun f hf => ⟨((Rt.of hR).fn f hf).r0, ((Rt.of hR).fn f hf).r8⟩))
    have hCap := Lib.hid (fun k => ((Rt.of hR).cap k).2)
    have hGo := Lib.hid (fun (k : Nat) (hk : k < 6) => show (s.gos.getD k default).ok by rw [show s.gos.getD k default = s.gos[k]'(by rw [hs.lg]; exact hk) by simp [show k < s.gos.length by rw [hs.lg]; exact hk]]; exact hs.gos _ (List.getElem_mem _))
    unfold Pg.v at hF
    have hK := Lib.hid (fun (k : Nat) W (hb : Below w.heap.size w W) (hst : Stand P s) hk hk4 hcap => rchannel_walk P s k W (I.below hb) hs hst hk hk4 hcap)
    unfold Pg.v St.v at hK
    have hCk := Lib.hid (fun (k : Nat) (hk : k < 4) => chan_facts (P := P) hs k hk)
    generalize s.cs.toArray = st at *
    rcases (show s.count < 1 ∨ (1 ≤ s.count ∧ 6 < s.count) ∨ (1 ≤ s.count ∧ s.count ≤ 6) by omega) with h | ⟨h, h'⟩ | ⟨h, h'⟩
    · skip
      have d1 : decide (s.count < 1) = true := by simp; omega
      have hrv := Lib.hid (show r = false by rw [hr.out, hv, show decide (1 ≤ s.count ∧ s.count ≤ 6) = false by simp; omega, Bool.false_and, Bool.and_false])
      clear hv hR hr hV1 hV0 hO1 hO0 X64
      go_enter Tryd.func21, Tryd.ntmps21
      have E0 := ((Env.nil (w := w)).push w.heap.size rfl #[.slice P.va P.vars.length P.vcap, .int .i64 P.locks, .slice P.ha P.chans.length P.hcap, .slice P.fa P.funcs.length P.fcap] 41).push (w.heap.size + 1) (by simp) st 32
      go_wp2_with ((go_at_call 24; ((with_reducible refine (cR.out _ (by repeat (first | (with_reducible exact Below.refl _ _) | (with_reducible refine Below.drew ?_) | (with_reducible refine below_drewN ?_ _) | (with_reducible refine Below.alloc ?_ (by first | omega | (simp <;> omega)) _)))).mono ?_); rintro e w' ⟨rfl, hb1⟩)); have E1 := E0.next hb1; have y0 := E1.tl.h0.cell; have y1 := E1.h0.cell; have l0 := E1.tl.h0.lt; have l1 := E1.h0.lt)
      repeat (go_quiet (fail); go_wp2)
      go_ret
      exact ⟨by first | rfl | (rw [hrv.out]; rfl), by have acc := E1.acc; have hsz := acc.size; exact (by repeat (first | (with_reducible assumption) | (with_reducible exact Below.refl _ _) | (with_reducible refine Below.drew ?_) | (with_reducible refine below_drewN ?_ _) | (with_reducible refine Below.alloc ?_ (by first | omega | (simp <;> omega)) _)))⟩
    · skip
      have d1 : decide (s.count < 1) = false := by simp; omega
      have d2 : decide (6 < s.count) = true := by simp; omega
      have hrv := Lib.hid (show r = false by rw [hr.out, hv, show decide (1 ≤ s.count ∧ s.count ≤ 6) = false by simp; omega, Bool.false_and, Bool.and_false])
      clear hv hR hr hV1 hV0 hO1 hO0 X64
      go_enter Tryd.func21, Tryd.ntmps21
      have E0 := ((Env.nil (w := w)).push w.heap.size rfl #[.slice P.va P.vars.length P.vcap, .int .i64 P.locks, .slice P.ha P.chans.length P.hcap, .slice P.fa P.funcs.length P.fcap] 41).push (w.heap.size + 1) (by simp) st 32
      go_wp2_with ((go_at_call 24; ((with_reducible refine (cR.out _ (by repeat (first | (with_reducible exact Below.refl _ _) | (with_reducible refine Below.drew ?_) | (with_reducible refine below_drewN ?_ _) | (with_reducible refine Below.alloc ?_ (by first | omega | (simp <;> omega)) _)))).mono ?_); rintro e w' ⟨rfl, hb1⟩)); have E1 := E0.next hb1; have y0 := E1.tl.h0.cell; have y1 := E1.h0.cell; have l0 := E1.tl.h0.lt; have l1 := E1.h0.lt)
      repeat (go_quiet (fail); go_wp2)
      go_ret
      exact ⟨by first | rfl | (rw [hrv.out]; rfl), by have acc := E1.acc; have hsz := acc.size; exact (by repeat (first | (with_reducible assumption) | (with_reducible exact Below.refl _ _) | (with_reducible refine Below.drew ?_) | (with_reducible refine below_drewN ?_ _) | (with_reducible refine Below.alloc ?_ (by first | omega | (simp <;> omega)) _)))⟩
    · have d1 : decide (s.count < 1) = false := by simp; omega
      have d2 : decide (6 < s.count) = false := by simp; omega
      have hrr := Lib.hid (show r = (gosOk P s && (varsOk P s && (ownersOk P s && (chansOk P s && waitsOk s)))) by rw [hr.out, hv, hR, show decide (1 ≤ s.count ∧ s.count ≤ 6) = true by simp; omega, Bool.true_and, Bool.true_and]; cases varsOk P s <;> cases ownersOk P s <;> cases gosOk P s <;> rfl)
      clear hv hR hr
      obtain ⟨gp, hgpe⟩ : ∃ gp : Nat → Bool, gp = fun k : Nat => if (k : Int) < s.count then fits P (s.gos.getD k default) else decide (s.gos.getD k default = default) := ⟨_, rfl⟩
      have hgp0 := Lib.hid (fun k : Nat => show gp k = if (k : Int) < s.count then fits P (s.gos.getD k default) else decide (s.gos.getD k default = default) by rw [hgpe])
      have hG1 := Lib.hid (gos_yes hgp0.out)
      have hG0 := Lib.hid (gos_no hgp0.out)
      clear hgpe
      obtain ⟨cp, hcpe⟩ : ∃ cp : Nat → Bool, cp = fun k : Nat => if k < P.chans.length then chanOk P s k (s.chans.getD k default) else decide (s.chans.getD k default = default) := ⟨_, rfl⟩
      have hcp0 := Lib.hid (fun k : Nat => show cp k = if k < P.chans.length then chanOk P s k (s.chans.getD k default) else decide (s.chans.getD k default = default) by rw [hcpe])
      have hC1 := Lib.hid (chans_yes hcp0.out)
      have hC0 := Lib.hid (chans_no hcp0.out)
      clear hcpe
      generalize varsOk P s = bV at *
      generalize ownersOk P s = bO at *
      go_enter Tryd.func21, Tryd.ntmps21
      have E0 := ((Env.nil (w := w)).push w.heap.size rfl #[.slice P.va P.vars.length P.vcap, .int .i64 P.locks, .slice P.ha P.chans.length P.hcap, .slice P.fa P.funcs.length P.fcap] 41).push (w.heap.size + 1) (by simp) st 32
      generalize P.vars.length = nv at *
      generalize P.chans.length = nc at *
      go_wp2_with ((go_at_call 24; ((with_reducible refine (cR.out _ (by repeat (first | (with_reducible exact Below.refl _ _) | (with_reducible refine Below.drew ?_) | (with_reducible refine below_drewN ?_ _) | (with_reducible refine Below.alloc ?_ (by first | omega | (simp <;> omega)) _)))).mono ?_); rintro e w' ⟨rfl, hb1⟩)); have E1 := E0.next hb1; have y0 := E1.tl.h0.cell; have y1 := E1.h0.cell; have l0 := E1.tl.h0.lt; have l1 := E1.h0.lt)
      repeat (go_quiet (fail); go_wp2)
      go_loopw [5, 25] (fun a i wr => ∃ j : Nat, j ≤ 6 ∧ i = .int .i64 j ∧ Env w [(w.heap.size + 1, st), (w.heap.size, #[.slice P.va nv P.vcap, .int .i64 P.locks, .slice P.ha nc P.hcap, .slice P.fa P.funcs.length P.fcap])] wr ∧ Hid (∀ q < j, gp q = true)) (fun a i _ => 6 - (intOf i).toNat)
      case atStart => exact ⟨0, by omega, rfl, E1, Lib.hid (fun q hq => by omega)⟩
      case round =>
        clear E0 y0 y1 l0 l1 E1 hb1 cR
        obtain ⟨j, hj, rfl, E1, hz⟩ := hrel
        have y0 := E1.tl.h0.cell; have y1 := E1.h0.cell; have l0 := E1.tl.h0.lt; have l1 := E1.h0.lt; have z1 := E1.h0.fr; have acc := E1.acc; have hsz := acc.size
        by_cases hj6 : j < 6
        · have cQ := hF.out j
          have hgo := hGo.out j hj6
          have hge := Lib.hid (fun i v h => hGE.out j hj6 i v h)
          have hgp := Lib.hid (hgp0.out j)
          generalize s.gos.getD j default = g at *
          obtain ⟨x0, x1, x2, x3, x4, x5, x6, x7, hrg⟩ := eight hgo.len
          obtain ⟨gs, gf, gpc, gw, regs⟩ := g
          simp only at hrg
          subst hrg
          have g0 := hge.out 0 _ rfl
          have g1 := hge.out 1 _ rfl
          have g2 := hge.out 2 _ rfl
          have g3 := hge.out 3 _ rfl
          have g4 := hge.out 4 _ rfl
          have g5 := hge.out 5 _ rfl
          have g6 := hge.out 6 _ rfl
          have g7 := hge.out 7 _ rfl
          have g8 := hge.out 8 _ rfl
          have g9 := hge.out 9 _ rfl
          have g10 := hge.out 10 _ rfl
          have g11 := hge.out 11 _ rfl
          simp only [Nat.add_zero] at g0
          clear hge
          unfold Gr.v Gr.cs at *
          simp only [List.map_cons, List.map_nil, List.cons_append, List.nil_append] at *
          by_cases hc : (j : Int) < s.count
          · have d4 : decide (s.count ≤ (j : Int)) = false := by simp; omega
            have d5 : decide ((j : Int) < s.count) = true := by simp; omega
            have hgj := hgp.out
            rw [if_pos hc] at hgj
            have cQ' := Lib.hid (fun W hb => cQ W hj6 hb)
            rw [← hgj] at cQ'
            clear cQ hgj hgp
            obtain ⟨bf, hbf⟩ : ∃ bf, Hid (bf = gp j) := ⟨_, Lib.hid rfl⟩
            rw [← hbf.out] at cQ'
            cases bf
            · have hrv := Lib.hid (show r = false by rw [hrr.out, hG0.out j hj6 hbf.out.symm, Bool.false_and])
              go_wp2
              apply wp_toS (Env w [(w.heap.size + 1, st), (w.heap.size, #[.slice P.va nv P.vcap, .int .i64 P.locks, .slice P.ha nc P.hcap, .slice P.fa P.funcs.length P.fcap])])
              · refine wp_region_held_drew (S := (fun W => (∀ o, W.cell? ⟨w.heap.size + 1, o, none⟩ = st[o]?) ∧ ∀ o, W.cell? ⟨w.heap.size, o, none⟩ = (#[.slice P.va nv P.vcap, .int .i64 P.locks, .slice P.ha nc P.hcap, .slice P.fa P.funcs.length P.fcap] : Array Value)[o]?)) (by kernel_rfl) (by first | exact E1.drew.cells01 | exact E1.cells01) (fun hHeld => ?_)
                refine wpAnyH_take (i := 0) (v := ?_) rfl (by kernel_rfl) (by kernel_rfl) (by kernel_rfl) (fun _ _ _ h => h) (Or.inl ⟨by rfl, ?_⟩) (by assumption) ?_
                rotate_left
                · intro w hSw; (try dsimp only at hSw); go_simp <;> (try with_reducible rfl)
                simp only [Act.put, List.getElem_toArray, List.getElem_cons_zero, List.getElem_cons_succ, List.setIfInBounds_toArray, List.set_cons_zero, List.set_cons_succ]
                refine wpAnyH_take (i := 1) (v := ?_) rfl (by kernel_rfl) (by kernel_rfl) (by kernel_rfl) (fun _ _ _ h => h) (Or.inl ⟨by rfl, ?_⟩) (by assumption) ?_
                rotate_left
                · intro w hSw; (try dsimp only at hSw); go_simp <;> (try with_reducible rfl)
                simp only [Act.put, List.getElem_toArray, List.getElem_cons_zero, List.getElem_cons_succ, List.setIfInBounds_toArray, List.set_cons_zero, List.set_cons_succ]
                refine wpAnyH_take (i := 2) (v := ?_) rfl (by kernel_rfl) (by kernel_rfl) (by kernel_rfl) (fun _ _ _ h => h) (Or.inl ⟨by rfl, ?_⟩) (by assumption) ?_
                rotate_left
                · intro w hSw; (try dsimp only at hSw); go_simp <;> (try with_reducible rfl)
                simp only [Act.put, List.getElem_toArray, List.getElem_cons_zero, List.getElem_cons_succ, List.setIfInBounds_toArray, List.set_cons_zero, List.set_cons_succ]
                refine wpAnyH_take (i := 3) (v := ?_) rfl (by kernel_rfl) (by kernel_rfl) (by kernel_rfl) (fun _ _ _ h => h) (Or.inl ⟨by rfl, ?_⟩) (by assumption) ?_
                rotate_left
                · intro w hSw; (try dsimp only at hSw); go_simp <;> (try with_reducible rfl)
                simp only [Act.put, List.getElem_toArray, List.getElem_cons_zero, List.getElem_cons_succ, List.setIfInBounds_toArray, List.set_cons_zero, List.set_cons_succ]
                refine wpAnyH_take (i := 4) (v := ?_) rfl (by kernel_rfl) (by kernel_rfl) (by kernel_rfl) (fun _ _ _ h => h) (Or.inl ⟨by rfl, ?_⟩) (by assumption) ?_
                rotate_left
                · intro w hSw; (try dsimp only at hSw); go_simp <;> (try with_reducible rfl)
                simp only [Act.put, List.getElem_toArray, List.getElem_cons_zero, List.getElem_cons_succ, List.setIfInBounds_toArray, List.set_cons_zero, List.set_cons_succ]
                refine wpAnyH_take (i := 5) (v := ?_) rfl (by kernel_rfl) (by kernel_rfl) (by kernel_rfl) (fun _ _ _ h => h) (Or.inl ⟨by rfl, ?_⟩) (by assumption) ?_
                rotate_left
                · intro w hSw; (try dsimp only at hSw); go_simp <;> (try with_reducible rfl)
                simp only [Act.put, List.getElem_toArray, List.getElem_cons_zero, List.getElem_cons_succ, List.setIfInBounds_toArray, List.set_cons_zero, List.set_cons_succ]
                refine wpAnyH_take (i := 6) (v := ?_) rfl (by kernel_rfl) (by kernel_rfl) (by kernel_rfl) (fun _ _ _ h => h) (Or.inl ⟨by rfl, ?_⟩) (by assumption) ?_
                rotate_left
                · intro w hSw; (try dsimp only at hSw); go_simp <;> (try with_reducible rfl)
                simp only [Act.put, List.getElem_toArray, List.getElem_cons_zero, List.getElem_cons_succ, List.setIfInBounds_toArray, List.set_cons_zero, List.set_cons_succ]
                refine wpAnyH_take (i := 7) (v := ?_) rfl (by kernel_rfl) (by kernel_rfl) (by kernel_rfl) (fun _ _ _ h => h) (Or.inl ⟨by rfl, ?_⟩) (by assumption) ?_
                rotate_left
                · intro w hSw; (try dsimp only at hSw); go_simp <;> (try with_reducible rfl)
                simp only [Act.put, List.getElem_toArray, List.getElem_cons_zero, List.getElem_cons_succ, List.setIfInBounds_toArray, List.set_cons_zero, List.set_cons_succ]
                refine wpAnyH_take (i := 8) (v := ?_) rfl (by kernel_rfl) (by kernel_rfl) (by kernel_rfl) (fun _ _ _ h => h) (Or.inl ⟨by rfl, ?_⟩) (by assumption) ?_
                rotate_left
                · intro w hSw; (try dsimp only at hSw); go_simp <;> (try with_reducible rfl)
                simp only [Act.put, List.getElem_toArray, List.getElem_cons_zero, List.getElem_cons_succ, List.setIfInBounds_toArray, List.set_cons_zero, List.set_cons_succ]
                refine wpAnyH_take (i := 9) (v := ?_) rfl (by kernel_rfl) (by kernel_rfl) (by kernel_rfl) (fun _ _ _ h => h) (Or.inl ⟨by rfl, ?_⟩) (by assumption) ?_
                rotate_left
                · intro w hSw; (try dsimp only at hSw); go_simp <;> (try with_reducible rfl)
                simp only [Act.put, List.getElem_toArray, List.getElem_cons_zero, List.getElem_cons_succ, List.setIfInBounds_toArray, List.set_cons_zero, List.set_cons_succ]
                refine wpAnyH_ready (rs := [10]) (by kernel_rfl) (by simp) (AllReadyH.cons rfl (fun K hK => ?_) AllReadyH.nil)
                go_simp
                ((go_at_call 40; ((with_reducible refine (cQ'.out _ (by first | exact E1.acc | exact E1.acc.drew)).mono ?_); rintro e w' ⟨rfl, hb2⟩)))
                try go_wp2_with fail
                refine hK.out _ _ (by first | exact (E1.drew.next hb2).cells01 | exact (E1.next hb2).cells01) (fun hHeld2 => ?_)
                clear hK K hHeld
                try simp only [Act.put, List.getElem_toArray, List.getElem_cons_zero, List.getElem_cons_succ, List.setIfInBounds_toArray, List.set_cons_zero, List.set_cons_succ]
                refine wpAnyH_take (i := 11) (v := ?_) rfl (by kernel_rfl) (by kernel_rfl) (by kernel_rfl) (fun _ _ _ h => h) (Or.inl ⟨by rfl, ?_⟩) (by assumption) ?_
                rotate_left
                · intro w hSw; (try dsimp only at hSw); go_simp <;> (try with_reducible rfl)
                simp only [Act.put, List.getElem_toArray, List.getElem_cons_zero, List.getElem_cons_succ, List.setIfInBounds_toArray, List.set_cons_zero, List.set_cons_succ]
                refine wpAnyH_take (i := 12) (v := ?_) rfl (by kernel_rfl) (by kernel_rfl) (by kernel_rfl) (fun _ _ _ h => h) (Or.inl ⟨by rfl, ?_⟩) (by assumption) ?_
                rotate_left
                · intro w hSw; (try dsimp only at hSw); go_simp <;> (try with_reducible rfl)
                simp only [Act.put, List.getElem_toArray, List.getElem_cons_zero, List.getElem_cons_succ, List.setIfInBounds_toArray, List.set_cons_zero, List.set_cons_succ]
                refine wpAnyH_take (i := 13) (v := ?_) rfl (by kernel_rfl) (by kernel_rfl) (by kernel_rfl) (fun _ _ _ h => h) (Or.inl ⟨by rfl, ?_⟩) (by assumption) ?_
                rotate_left
                · intro w hSw; (try dsimp only at hSw); go_simp <;> (try with_reducible rfl)
                simp only [Act.put, List.getElem_toArray, List.getElem_cons_zero, List.getElem_cons_succ, List.setIfInBounds_toArray, List.set_cons_zero, List.set_cons_succ]
                refine wpAnyH_take (i := 14) (v := undef) rfl (by kernel_rfl) (by kernel_rfl) (by kernel_rfl) (fun _ _ _ h => h) (Or.inr ⟨by rfl, rfl⟩) (by assumption) ?_
                simp only [Act.put, List.getElem_toArray, List.getElem_cons_zero, List.getElem_cons_succ, List.setIfInBounds_toArray, List.set_cons_zero, List.set_cons_succ]
                refine wpAnyH_take (i := 15) (v := undef) rfl (by kernel_rfl) (by kernel_rfl) (by kernel_rfl) (fun _ _ _ h => h) (Or.inr ⟨by rfl, rfl⟩) (by assumption) ?_
                simp only [Act.put, List.getElem_toArray, List.getElem_cons_zero, List.getElem_cons_succ, List.setIfInBounds_toArray, List.set_cons_zero, List.set_cons_succ]
                refine wpAnyH_take (i := 16) (v := undef) rfl (by kernel_rfl) (by kernel_rfl) (by kernel_rfl) (fun _ _ _ h => h) (Or.inr ⟨by rfl, rfl⟩) (by assumption) ?_
                simp only [Act.put, List.getElem_toArray, List.getElem_cons_zero, List.getElem_cons_succ, List.setIfInBounds_toArray, List.set_cons_zero, List.set_cons_succ]
                refine wpAnyH_take (i := 17) (v := undef) rfl (by kernel_rfl) (by kernel_rfl) (by kernel_rfl) (fun _ _ _ h => h) (Or.inr ⟨by rfl, rfl⟩) (by assumption) ?_
                simp only [Act.put, List.getElem_toArray, List.getElem_cons_zero, List.getElem_cons_succ, List.setIfInBounds_toArray, List.set_cons_zero, List.set_cons_succ]
                refine wpAnyH_take (i := 18) (v := undef) rfl (by kernel_rfl) (by kernel_rfl) (by kernel_rfl) (fun _ _ _ h => h) (Or.inr ⟨by rfl, rfl⟩) (by assumption) ?_
                simp only [Act.put, List.getElem_toArray, List.getElem_cons_zero, List.getElem_cons_succ, List.setIfInBounds_toArray, List.set_cons_zero, List.set_cons_succ]
                refine wpAnyH_take (i := 19) (v := undef) rfl (by kernel_rfl) (by kernel_rfl) (by kernel_rfl) (fun _ _ _ h => h) (Or.inr ⟨by rfl, rfl⟩) (by assumption) ?_
                simp only [Act.put, List.getElem_toArray, List.getElem_cons_zero, List.getElem_cons_succ, List.setIfInBounds_toArray, List.set_cons_zero, List.set_cons_succ]
                refine wpAnyH_take (i := 20) (v := undef) rfl (by kernel_rfl) (by kernel_rfl) (by kernel_rfl) (fun _ _ _ h => h) (Or.inr ⟨by rfl, rfl⟩) (by assumption) ?_
                simp only [Act.put, List.getElem_toArray, List.getElem_cons_zero, List.getElem_cons_succ, List.setIfInBounds_toArray, List.set_cons_zero, List.set_cons_succ]
                refine wpAnyH_take (i := 21) (v := undef) rfl (by kernel_rfl) (by kernel_rfl) (by kernel_rfl) (fun _ _ _ h => h) (Or.inr ⟨by rfl, rfl⟩) (by assumption) ?_
                simp only [Act.put, List.getElem_toArray, List.getElem_cons_zero, List.getElem_cons_succ, List.setIfInBounds_toArray, List.set_cons_zero, List.set_cons_succ]
                refine wpAnyH_take (i := 22) (v := undef) rfl (by kernel_rfl) (by kernel_rfl) (by kernel_rfl) (fun _ _ _ h => h) (Or.inr ⟨by rfl, rfl⟩) (by assumption) ?_
                simp only [Act.put, List.getElem_toArray, List.getElem_cons_zero, List.getElem_cons_succ, List.setIfInBounds_toArray, List.set_cons_zero, List.set_cons_succ]
                refine wpAnyH_take (i := 23) (v := undef) rfl (by kernel_rfl) (by kernel_rfl) (by kernel_rfl) (fun _ _ _ h => h) (Or.inr ⟨by rfl, rfl⟩) (by assumption) ?_
                simp only [Act.put, List.getElem_toArray, List.getElem_cons_zero, List.getElem_cons_succ, List.setIfInBounds_toArray, List.set_cons_zero, List.set_cons_succ]
                refine wpAnyH_take (i := 24) (v := undef) rfl (by kernel_rfl) (by kernel_rfl) (by kernel_rfl) (fun _ _ _ h => h) (Or.inr ⟨by rfl, rfl⟩) (by assumption) ?_
                simp only [Act.put, List.getElem_toArray, List.getElem_cons_zero, List.getElem_cons_succ, List.setIfInBounds_toArray, List.set_cons_zero, List.set_cons_succ]
                refine wpAnyH_take (i := 25) (v := undef) rfl (by kernel_rfl) (by kernel_rfl) (by kernel_rfl) (fun _ _ _ h => h) (Or.inr ⟨by rfl, rfl⟩) (by assumption) ?_
                simp only [Act.put, List.getElem_toArray, List.getElem_cons_zero, List.getElem_cons_succ, List.setIfInBounds_toArray, List.set_cons_zero, List.set_cons_succ]
                refine wpAnyH_take (i := 26) (v := ?_) rfl (by kernel_rfl) (by kernel_rfl) (by kernel_rfl) (fun _ _ _ h => h) (Or.inl ⟨by rfl, ?_⟩) (by assumption) ?_
                rotate_left
                · intro w hSw; (try dsimp only at hSw); go_simp <;> (try with_reducible rfl)
                simp only [Act.put, List.getElem_toArray, List.getElem_cons_zero, List.getElem_cons_succ, List.setIfInBounds_toArray, List.set_cons_zero, List.set_cons_succ]
                refine wpAnyH_done (by kernel_rfl) ?_ _
                exact ToS.mk (E1.next (by first | exact hb2 | exact Below.trans (Below.drew (Below.refl _ _)) hb2))
              intro W1 E2
              clear y0 y1 l0 l1 z1 acc hsz E1
              go_wp2
              go_ret
              exact ⟨by first | rfl | (rw [hrv.out]; rfl), E2.acc⟩
            · go_wp2
              apply wp_toS (Env w [(w.heap.size + 1, st), (w.heap.size, #[.slice P.va nv P.vcap, .int .i64 P.locks, .slice P.ha nc P.hcap, .slice P.fa P.funcs.length P.fcap])])
              · refine wp_region_held_drew (S := (fun W => (∀ o, W.cell? ⟨w.heap.size + 1, o, none⟩ = st[o]?) ∧ ∀ o, W.cell? ⟨w.heap.size, o, none⟩ = (#[.slice P.va nv P.vcap, .int .i64 P.locks, .slice P.ha nc P.hcap, .slice P.fa P.funcs.length P.fcap] : Array Value)[o]?)) (by kernel_rfl) (by first | exact E1.drew.cells01 | exact E1.cells01) (fun hHeld => ?_)
                refine wpAnyH_take (i := 0) (v := ?_) rfl (by kernel_rfl) (by kernel_rfl) (by kernel_rfl) (fun _ _ _ h => h) (Or.inl ⟨by rfl, ?_⟩) (by assumption) ?_
                rotate_left
                · intro w hSw; (try dsimp only at hSw); go_simp <;> (try with_reducible rfl)
                simp only [Act.put, List.getElem_toArray, List.getElem_cons_zero, List.getElem_cons_succ, List.setIfInBounds_toArray, List.set_cons_zero, List.set_cons_succ]
                refine wpAnyH_take (i := 1) (v := ?_) rfl (by kernel_rfl) (by kernel_rfl) (by kernel_rfl) (fun _ _ _ h => h) (Or.inl ⟨by rfl, ?_⟩) (by assumption) ?_
                rotate_left
                · intro w hSw; (try dsimp only at hSw); go_simp <;> (try with_reducible rfl)
                simp only [Act.put, List.getElem_toArray, List.getElem_cons_zero, List.getElem_cons_succ, List.setIfInBounds_toArray, List.set_cons_zero, List.set_cons_succ]
                refine wpAnyH_take (i := 2) (v := ?_) rfl (by kernel_rfl) (by kernel_rfl) (by kernel_rfl) (fun _ _ _ h => h) (Or.inl ⟨by rfl, ?_⟩) (by assumption) ?_
                rotate_left
                · intro w hSw; (try dsimp only at hSw); go_simp <;> (try with_reducible rfl)
                simp only [Act.put, List.getElem_toArray, List.getElem_cons_zero, List.getElem_cons_succ, List.setIfInBounds_toArray, List.set_cons_zero, List.set_cons_succ]
                refine wpAnyH_take (i := 3) (v := ?_) rfl (by kernel_rfl) (by kernel_rfl) (by kernel_rfl) (fun _ _ _ h => h) (Or.inl ⟨by rfl, ?_⟩) (by assumption) ?_
                rotate_left
                · intro w hSw; (try dsimp only at hSw); go_simp <;> (try with_reducible rfl)
                simp only [Act.put, List.getElem_toArray, List.getElem_cons_zero, List.getElem_cons_succ, List.setIfInBounds_toArray, List.set_cons_zero, List.set_cons_succ]
                refine wpAnyH_take (i := 4) (v := ?_) rfl (by kernel_rfl) (by kernel_rfl) (by kernel_rfl) (fun _ _ _ h => h) (Or.inl ⟨by rfl, ?_⟩) (by assumption) ?_
                rotate_left
                · intro w hSw; (try dsimp only at hSw); go_simp <;> (try with_reducible rfl)
                simp only [Act.put, List.getElem_toArray, List.getElem_cons_zero, List.getElem_cons_succ, List.setIfInBounds_toArray, List.set_cons_zero, List.set_cons_succ]
                refine wpAnyH_take (i := 5) (v := ?_) rfl (by kernel_rfl) (by kernel_rfl) (by kernel_rfl) (fun _ _ _ h => h) (Or.inl ⟨by rfl, ?_⟩) (by assumption) ?_
                rotate_left
                · intro w hSw; (try dsimp only at hSw); go_simp <;> (try with_reducible rfl)
                simp only [Act.put, List.getElem_toArray, List.getElem_cons_zero, List.getElem_cons_succ, List.setIfInBounds_toArray, List.set_cons_zero, List.set_cons_succ]
                refine wpAnyH_take (i := 6) (v := ?_) rfl (by kernel_rfl) (by kernel_rfl) (by kernel_rfl) (fun _ _ _ h => h) (Or.inl ⟨by rfl, ?_⟩) (by assumption) ?_
                rotate_left
                · intro w hSw; (try dsimp only at hSw); go_simp <;> (try with_reducible rfl)
                simp only [Act.put, List.getElem_toArray, List.getElem_cons_zero, List.getElem_cons_succ, List.setIfInBounds_toArray, List.set_cons_zero, List.set_cons_succ]
                refine wpAnyH_take (i := 7) (v := ?_) rfl (by kernel_rfl) (by kernel_rfl) (by kernel_rfl) (fun _ _ _ h => h) (Or.inl ⟨by rfl, ?_⟩) (by assumption) ?_
                rotate_left
                · intro w hSw; (try dsimp only at hSw); go_simp <;> (try with_reducible rfl)
                simp only [Act.put, List.getElem_toArray, List.getElem_cons_zero, List.getElem_cons_succ, List.setIfInBounds_toArray, List.set_cons_zero, List.set_cons_succ]
                refine wpAnyH_take (i := 8) (v := ?_) rfl (by kernel_rfl) (by kernel_rfl) (by kernel_rfl) (fun _ _ _ h => h) (Or.inl ⟨by rfl, ?_⟩) (by assumption) ?_
                rotate_left
                · intro w hSw; (try dsimp only at hSw); go_simp <;> (try with_reducible rfl)
                simp only [Act.put, List.getElem_toArray, List.getElem_cons_zero, List.getElem_cons_succ, List.setIfInBounds_toArray, List.set_cons_zero, List.set_cons_succ]
                refine wpAnyH_take (i := 9) (v := ?_) rfl (by kernel_rfl) (by kernel_rfl) (by kernel_rfl) (fun _ _ _ h => h) (Or.inl ⟨by rfl, ?_⟩) (by assumption) ?_
                rotate_left
                · intro w hSw; (try dsimp only at hSw); go_simp <;> (try with_reducible rfl)
                simp only [Act.put, List.getElem_toArray, List.getElem_cons_zero, List.getElem_cons_succ, List.setIfInBounds_toArray, List.set_cons_zero, List.set_cons_succ]
                refine wpAnyH_ready (rs := [10]) (by kernel_rfl) (by simp) (AllReadyH.cons rfl (fun K hK => ?_) AllReadyH.nil)
                go_simp
                ((go_at_call 40; ((with_reducible refine (cQ'.out _ (by first | exact E1.acc | exact E1.acc.drew)).mono ?_); rintro e w' ⟨rfl, hb2⟩)))
                try go_wp2_with fail
                refine hK.out _ _ (by first | exact (E1.drew.next hb2).cells01 | exact (E1.next hb2).cells01) (fun hHeld2 => ?_)
                clear hK K hHeld
                try simp only [Act.put, List.getElem_toArray, List.getElem_cons_zero, List.getElem_cons_succ, List.setIfInBounds_toArray, List.set_cons_zero, List.set_cons_succ]
                refine wpAnyH_take (i := 11) (v := ?_) rfl (by kernel_rfl) (by kernel_rfl) (by kernel_rfl) (fun _ _ _ h => h) (Or.inl ⟨by rfl, ?_⟩) (by assumption) ?_
                rotate_left
                · intro w hSw; (try dsimp only at hSw); go_simp <;> (try with_reducible rfl)
                simp only [Act.put, List.getElem_toArray, List.getElem_cons_zero, List.getElem_cons_succ, List.setIfInBounds_toArray, List.set_cons_zero, List.set_cons_succ]
                refine wpAnyH_take (i := 12) (v := ?_) rfl (by kernel_rfl) (by kernel_rfl) (by kernel_rfl) (fun _ _ _ h => h) (Or.inl ⟨by rfl, ?_⟩) (by assumption) ?_
                rotate_left
                · intro w hSw; (try dsimp only at hSw); go_simp <;> (try with_reducible rfl)
                simp only [Act.put, List.getElem_toArray, List.getElem_cons_zero, List.getElem_cons_succ, List.setIfInBounds_toArray, List.set_cons_zero, List.set_cons_succ]
                refine wpAnyH_take (i := 13) (v := ?_) rfl (by kernel_rfl) (by kernel_rfl) (by kernel_rfl) (fun _ _ _ h => h) (Or.inl ⟨by rfl, ?_⟩) (by assumption) ?_
                rotate_left
                · intro w hSw; (try dsimp only at hSw); go_simp <;> (try with_reducible rfl)
                simp only [Act.put, List.getElem_toArray, List.getElem_cons_zero, List.getElem_cons_succ, List.setIfInBounds_toArray, List.set_cons_zero, List.set_cons_succ]
                refine wpAnyH_take (i := 14) (v := ?_) rfl (by kernel_rfl) (by kernel_rfl) (by kernel_rfl) (fun _ _ _ h => h) (Or.inl ⟨by rfl, ?_⟩) (by assumption) ?_
                rotate_left
                · intro w hSw; (try dsimp only at hSw); go_simp <;> (try with_reducible rfl)
                simp only [Act.put, List.getElem_toArray, List.getElem_cons_zero, List.getElem_cons_succ, List.setIfInBounds_toArray, List.set_cons_zero, List.set_cons_succ]
                refine wpAnyH_take (i := 15) (v := ?_) rfl (by kernel_rfl) (by kernel_rfl) (by kernel_rfl) (fun _ _ _ h => h) (Or.inl ⟨by rfl, ?_⟩) (by assumption) ?_
                rotate_left
                · intro w hSw; (try dsimp only at hSw); go_simp <;> (try with_reducible rfl)
                simp only [Act.put, List.getElem_toArray, List.getElem_cons_zero, List.getElem_cons_succ, List.setIfInBounds_toArray, List.set_cons_zero, List.set_cons_succ]
                refine wpAnyH_take (i := 16) (v := ?_) rfl (by kernel_rfl) (by kernel_rfl) (by kernel_rfl) (fun _ _ _ h => h) (Or.inl ⟨by rfl, ?_⟩) (by assumption) ?_
                rotate_left
                · intro w hSw; (try dsimp only at hSw); go_simp <;> (try with_reducible rfl)
                simp only [Act.put, List.getElem_toArray, List.getElem_cons_zero, List.getElem_cons_succ, List.setIfInBounds_toArray, List.set_cons_zero, List.set_cons_succ]
                refine wpAnyH_take (i := 17) (v := ?_) rfl (by kernel_rfl) (by kernel_rfl) (by kernel_rfl) (fun _ _ _ h => h) (Or.inl ⟨by rfl, ?_⟩) (by assumption) ?_
                rotate_left
                · intro w hSw; (try dsimp only at hSw); go_simp <;> (try with_reducible rfl)
                simp only [Act.put, List.getElem_toArray, List.getElem_cons_zero, List.getElem_cons_succ, List.setIfInBounds_toArray, List.set_cons_zero, List.set_cons_succ]
                refine wpAnyH_take (i := 18) (v := ?_) rfl (by kernel_rfl) (by kernel_rfl) (by kernel_rfl) (fun _ _ _ h => h) (Or.inl ⟨by rfl, ?_⟩) (by assumption) ?_
                rotate_left
                · intro w hSw; (try dsimp only at hSw); go_simp <;> (try with_reducible rfl)
                simp only [Act.put, List.getElem_toArray, List.getElem_cons_zero, List.getElem_cons_succ, List.setIfInBounds_toArray, List.set_cons_zero, List.set_cons_succ]
                refine wpAnyH_take (i := 19) (v := undef) rfl (by kernel_rfl) (by kernel_rfl) (by kernel_rfl) (fun _ _ _ h => h) (Or.inr ⟨by rfl, rfl⟩) (by assumption) ?_
                simp only [Act.put, List.getElem_toArray, List.getElem_cons_zero, List.getElem_cons_succ, List.setIfInBounds_toArray, List.set_cons_zero, List.set_cons_succ]
                refine wpAnyH_take (i := 20) (v := undef) rfl (by kernel_rfl) (by kernel_rfl) (by kernel_rfl) (fun _ _ _ h => h) (Or.inr ⟨by rfl, rfl⟩) (by assumption) ?_
                simp only [Act.put, List.getElem_toArray, List.getElem_cons_zero, List.getElem_cons_succ, List.setIfInBounds_toArray, List.set_cons_zero, List.set_cons_succ]
                refine wpAnyH_take (i := 21) (v := undef) rfl (by kernel_rfl) (by kernel_rfl) (by kernel_rfl) (fun _ _ _ h => h) (Or.inr ⟨by rfl, rfl⟩) (by assumption) ?_
                simp only [Act.put, List.getElem_toArray, List.getElem_cons_zero, List.getElem_cons_succ, List.setIfInBounds_toArray, List.set_cons_zero, List.set_cons_succ]
                refine wpAnyH_take (i := 22) (v := undef) rfl (by kernel_rfl) (by kernel_rfl) (by kernel_rfl) (fun _ _ _ h => h) (Or.inr ⟨by rfl, rfl⟩) (by assumption) ?_
                simp only [Act.put, List.getElem_toArray, List.getElem_cons_zero, List.getElem_cons_succ, List.setIfInBounds_toArray, List.set_cons_zero, List.set_cons_succ]
                refine wpAnyH_take (i := 23) (v := undef) rfl (by kernel_rfl) (by kernel_rfl) (by kernel_rfl) (fun _ _ _ h => h) (Or.inr ⟨by rfl, rfl⟩) (by assumption) ?_
                simp only [Act.put, List.getElem_toArray, List.getElem_cons_zero, List.getElem_cons_succ, List.setIfInBounds_toArray, List.set_cons_zero, List.set_cons_succ]
                refine wpAnyH_take (i := 24) (v := undef) rfl (by kernel_rfl) (by kernel_rfl) (by kernel_rfl) (fun _ _ _ h => h) (Or.inr ⟨by rfl, rfl⟩) (by assumption) ?_
                simp only [Act.put, List.getElem_toArray, List.getElem_cons_zero, List.getElem_cons_succ, List.setIfInBounds_toArray, List.set_cons_zero, List.set_cons_succ]
                refine wpAnyH_take (i := 25) (v := ?_) rfl (by kernel_rfl) (by kernel_rfl) (by kernel_rfl) (fun _ _ _ h => h) (Or.inl ⟨by rfl, ?_⟩) (by assumption) ?_
                rotate_left
                · intro w hSw; (try dsimp only at hSw); go_simp <;> (try with_reducible rfl)
                simp only [Act.put, List.getElem_toArray, List.getElem_cons_zero, List.getElem_cons_succ, List.setIfInBounds_toArray, List.set_cons_zero, List.set_cons_succ]
                refine wpAnyH_take (i := 26) (v := ?_) rfl (by kernel_rfl) (by kernel_rfl) (by kernel_rfl) (fun _ _ _ h => h) (Or.inl ⟨by rfl, ?_⟩) (by assumption) ?_
                rotate_left
                · intro w hSw; (try dsimp only at hSw); go_simp <;> (try with_reducible rfl)
                simp only [Act.put, List.getElem_toArray, List.getElem_cons_zero, List.getElem_cons_succ, List.setIfInBounds_toArray, List.set_cons_zero, List.set_cons_succ]
                refine wpAnyH_done (by kernel_rfl) ?_ _
                exact ToS.mk (E1.next (by first | exact hb2 | exact Below.trans (Below.drew (Below.refl _ _)) hb2))
              intro W1 E2
              clear y0 y1 l0 l1 z1 acc hsz E1
              go_wp2
              refine ⟨⟨j + 1, by omega, by go_num, E2, Lib.hid (fun q hq => ?_)⟩, by simp [intOf]; omega⟩
              by_cases hqj : q < j
              · exact hz.out q hqj
              · obtain rfl : q = j := by omega
                exact hbf.out.symm
          · have d4 : decide (s.count ≤ (j : Int)) = true := by simp; omega
            have d5 : decide ((j : Int) < s.count) = false := by simp; omega
            have hgj := hgp.out
            rw [if_neg hc] at hgj
            clear cQ hgp
            rw [gr_default] at hgj
            replace hgj := Lib.hid hgj
            obtain ⟨be, hbe⟩ : ∃ be, Hid (be = decide (x0 = 0 ∧ x1 = 0 ∧ x2 = 0 ∧ x3 = 0 ∧ x4 = 0 ∧ x5 = 0 ∧ x6 = 0 ∧ x7 = 0)) := ⟨_, Lib.hid rfl⟩
            have e8 := fun W => eq8_run 9997 x0 x1 x2 x3 x4 x5 x6 x7 W
            simp only [← hbe.out, Nat.reduceAdd] at e8
            by_cases hg0 : gs = 0 ∧ gf = 0 ∧ gpc = 0 ∧ gw = 0
            · obtain ⟨rfl, rfl, rfl, rfl⟩ := hg0
              cases be
              · have hrv := Lib.hid (show r = false by rw [hrr.out, hG0.out j hj6 (by rw [hgj.out]; exact decide_eq_false (by have hb := of_decide_eq_false hbe.out.symm; omega)), Bool.false_and])
                go_wp2
                repeat (go_quiet (fail); go_wp2)
                go_ret
                exact ⟨by first | rfl | (rw [hrv.out]; rfl), by have acc := E1.acc; have hsz := acc.size; exact (by repeat (first | (with_reducible assumption) | (with_reducible exact Below.refl _ _) | (with_reducible refine Below.drew ?_) | (with_reducible refine below_drewN ?_ _) | (with_reducible refine Below.alloc ?_ (by first | omega | (simp <;> omega)) _)))⟩
              · have hgt := Lib.hid (show gp j = true by rw [hgj.out]; exact decide_eq_true (by have hb := of_decide_eq_true hbe.out.symm; omega))
                go_wp2
                repeat (go_quiet (fail); go_wp2)
                refine ⟨⟨j + 1, by omega, by go_num, by first | exact E1 | exact E1.drew | exact E1.drewN _, Lib.hid (fun q hq => ?_)⟩, by simp [intOf]; omega⟩
                by_cases hqj : q < j
                · exact hz.out q hqj
                · obtain rfl : q = j := by omega
                  exact hgt.out
            · have hrv := Lib.hid (show r = false by rw [hrr.out, hG0.out j hj6 (by rw [hgj.out]; exact decide_eq_false (by omega)), Bool.false_and])
              have q0 : (gs == 0) = decide (gs = 0) := rfl; have q1 : (gf == 0) = decide (gf = 0) := rfl
              clear q0 q1
              rcases (show gs ≠ 0 ∨ (gs = 0 ∧ gf ≠ 0) ∨ (gs = 0 ∧ gf = 0 ∧ gpc ≠ 0) ∨ (gs = 0 ∧ gf = 0 ∧ gpc = 0 ∧ gw ≠ 0) by omega) with h1 | ⟨rfl, h1⟩ | ⟨rfl, rfl, h1⟩ | ⟨rfl, rfl, rfl, h1⟩
              · have qb : (gs == 0) = false := by simpa using h1
                clear hg0 hgj h1
                go_wp2
                repeat (go_quiet (fail); go_wp2)
                all_goals (go_ret; exact ⟨by first | rfl | (rw [hrv.out]; rfl), by have acc := E1.acc; have hsz := acc.size; exact (by repeat (first | (with_reducible assumption) | (with_reducible exact Below.refl _ _) | (with_reducible refine Below.drew ?_) | (with_reducible refine below_drewN ?_ _) | (with_reducible refine Below.alloc ?_ (by first | omega | (simp <;> omega)) _)))⟩)
              · have qb : (gf == 0) = false := by simpa using h1
                clear hg0 hgj h1
                go_wp2
                repeat (go_quiet (fail); go_wp2)
                all_goals (go_ret; exact ⟨by first | rfl | (rw [hrv.out]; rfl), by have acc := E1.acc; have hsz := acc.size; exact (by repeat (first | (with_reducible assumption) | (with_reducible exact Below.refl _ _) | (with_reducible refine Below.drew ?_) | (with_reducible refine below_drewN ?_ _) | (with_reducible refine Below.alloc ?_ (by first | omega | (simp <;> omega)) _)))⟩)
              · have qb : (gpc == 0) = false := by simpa using h1
                clear hg0 hgj h1
                go_wp2
                repeat (go_quiet (fail); go_wp2)
                all_goals (go_ret; exact ⟨by first | rfl | (rw [hrv.out]; rfl), by have acc := E1.acc; have hsz := acc.size; exact (by repeat (first | (with_reducible assumption) | (with_reducible exact Below.refl _ _) | (with_reducible refine Below.drew ?_) | (with_reducible refine below_drewN ?_ _) | (with_reducible refine Below.alloc ?_ (by first | omega | (simp <;> omega)) _)))⟩)
              · have qb : (gw == 0) = false := by simpa using h1
                clear hg0 hgj h1
                go_wp2
                repeat (go_quiet (fail); go_wp2)
                all_goals (go_ret; exact ⟨by first | rfl | (rw [hrv.out]; rfl), by have acc := E1.acc; have hsz := acc.size; exact (by repeat (first | (with_reducible assumption) | (with_reducible exact Below.refl _ _) | (with_reducible refine Below.drew ?_) | (with_reducible refine below_drewN ?_ _) | (with_reducible refine Below.alloc ?_ (by first | omega | (simp <;> omega)) _)))⟩)
        · obtain rfl : j = 6 := by omega
          replace hrr := Lib.hid (show r = (bV && (bO && (chansOk P s && waitsOk s))) by rw [hrr.out, hG1.out hz.out, Bool.true_and])
          have hSt : Stand P s := ⟨h', fun k hk => by have h6 := hz.out k (by omega); rw [hgp0.out k, if_pos hk, fits_eq, Bool.and_eq_true] at h6; exact h6.1⟩
          have hK2 := Lib.hid (fun k W hb => hK.out k W hb hSt)
          have hGN := Lib.hid (fun (k : Nat) (hk : k < 6) (hk2 : s.count ≤ (k : Int)) => show (s.gos.getD k default).status ≠ 2 by have h6 := hz.out k hk; rw [hgp0.out k, if_neg (by omega), decide_eq_true_eq] at h6; rw [h6]; decide)
          clear hG1 hG0 hz hgp0 hF hK hSt
          go_wp2
          repeat (go_quiet (fail); go_wp2)
          go_loopw [6] (fun i wr => ∃ j : Nat, nv ≤ j ∧ j ≤ 8 ∧ i = .int .i64 j ∧ Env w [(w.heap.size + 1, st), (w.heap.size, #[.slice P.va nv P.vcap, .int .i64 P.locks, .slice P.ha nc P.hcap, .slice P.fa P.funcs.length P.fcap])] wr ∧ Hid (∀ q < j, q < nv ∨ X q = 0)) (fun i _ => 8 - (intOf i).toNat)
          case atStart => exact ⟨nv, by omega, hnv, rfl, E1, Lib.hid (fun q hq => .inl hq)⟩
          case round =>
            clear E1 y0 y1 l0 l1 z1 acc hsz
            obtain ⟨j, hnj, hj, rfl, E1, hz⟩ := hrel
            have y0 := E1.tl.h0.cell; have y1 := E1.h0.cell; have l0 := E1.tl.h0.lt; have l1 := E1.h0.lt; have z1 := E1.h0.fr; have acc := E1.acc; have hsz := acc.size
            by_cases hj8 : j < 8
            · have vj := hVE.out j hj8
              by_cases hv0 : X j = 0
              · have hvb : (X j != 0) = false := by simpa using hv0
                have hnx := Lib.hid (show ∀ q < j + 1, q < nv ∨ X q = 0 from fun q hq => by
                  by_cases hqj : q < j
                  · exact hz.out q hqj
                  · obtain rfl : q = j := by omega
                    exact .inr hv0)
                clear hz
                replace hv0 := Lib.hid hv0
                go_wp2
                repeat (go_quiet (fail); go_wp2)
                refine ⟨⟨j + 1, by omega, by omega, by go_num, by first | exact E1 | exact E1.drew | exact E1.drewN _, hnx⟩, by simp [intOf]; omega⟩
              · have hvb : (X j != 0) = true := by simpa using hv0
                have hrv := Lib.hid (show r = false by rw [hrr.out, hV0.out j (by omega) (by omega) hv0, Bool.false_and])
                clear hV1 hV0 hO1 hO0 hrr hz hv0
                go_wp2
                repeat (go_quiet (fail); go_wp2)
                go_ret
                exact ⟨by first | rfl | (rw [hrv.out]; rfl), by have acc := E1.acc; have hsz := acc.size; exact (by repeat (first | (with_reducible assumption) | (with_reducible exact Below.refl _ _) | (with_reducible refine Below.drew ?_) | (with_reducible refine below_drewN ?_ _) | (with_reducible refine Below.alloc ?_ (by first | omega | (simp <;> omega)) _)))⟩
            · obtain rfl : j = 8 := by omega
              replace hrr := Lib.hid (show r = (bO && (chansOk P s && waitsOk s)) by rw [hrr.out, hV1.out hz.out, Bool.true_and])
              clear hV1 hV0 hz hVE
              go_wp2
              repeat (go_quiet (fail); go_wp2)
              go_loopw [7, 68] (fun a i wr => ∃ j : Nat, j ≤ 4 ∧ i = .int .i64 j ∧ Env w [(w.heap.size + 1, st), (w.heap.size, #[.slice P.va nv P.vcap, .int .i64 P.locks, .slice P.ha nc P.hcap, .slice P.fa P.funcs.length P.fcap])] wr ∧ Hid (∀ q < j, 0 ≤ O q ∧ O q ≤ s.count ∧ ((q : Int) < P.locks ∨ O q = 0))) (fun a i _ => 4 - (intOf i).toNat)
              case atStart => exact ⟨0, by omega, rfl, E1, Lib.hid (fun q hq => by omega)⟩
              case round =>
                clear E1 y0 y1 l0 l1 z1 acc hsz
                obtain ⟨j, hj, rfl, E1, hz⟩ := hrel
                have y0 := E1.tl.h0.cell; have y1 := E1.h0.cell; have l0 := E1.tl.h0.lt; have l1 := E1.h0.lt; have z1 := E1.h0.fr; have acc := E1.acc; have hsz := acc.size
                by_cases hj4 : j < 4
                · have oj := hOE.out j hj4
                  rcases (show O j < 0 ∨ (0 ≤ O j ∧ s.count < O j) ∨ (0 ≤ O j ∧ O j ≤ s.count ∧ (j : Int) < P.locks) ∨ (0 ≤ O j ∧ O j ≤ s.count ∧ P.locks ≤ (j : Int) ∧ O j = 0) ∨ (0 ≤ O j ∧ O j ≤ s.count ∧ P.locks ≤ (j : Int) ∧ O j ≠ 0) by omega) with c | ⟨c, d⟩ | ⟨c, d, e⟩ | ⟨c, d, e, f⟩ | ⟨c, d, e, f⟩
                  · skip
                    have : decide (O j < 0) = true := by first | (simp; done) | (simp; omega)
                    have hrv := Lib.hid (show r = false by rw [hrr.out, hO0.out j (by omega) (by omega), Bool.false_and])
                    clear hO1 hO0 hrr hz
                    go_wp2
                    repeat (go_quiet (fail); go_wp2)
                    go_ret
                    exact ⟨by first | rfl | (rw [hrv.out]; rfl), by have acc := E1.acc; have hsz := acc.size; exact (by repeat (first | (with_reducible assumption) | (with_reducible exact Below.refl _ _) | (with_reducible refine Below.drew ?_) | (with_reducible refine below_drewN ?_ _) | (with_reducible refine Below.alloc ?_ (by first | omega | (simp <;> omega)) _)))⟩
                  · skip
                    have : decide (O j < 0) = false := by first | (simp; done) | (simp; omega)
                    have : decide (s.count < O j) = true := by first | (simp; done) | (simp; omega)
                    have hrv := Lib.hid (show r = false by rw [hrr.out, hO0.out j (by omega) (by omega), Bool.false_and])
                    clear hO1 hO0 hrr hz
                    go_wp2
                    repeat (go_quiet (fail); go_wp2)
                    go_ret
                    exact ⟨by first | rfl | (rw [hrv.out]; rfl), by have acc := E1.acc; have hsz := acc.size; exact (by repeat (first | (with_reducible assumption) | (with_reducible exact Below.refl _ _) | (with_reducible refine Below.drew ?_) | (with_reducible refine below_drewN ?_ _) | (with_reducible refine Below.alloc ?_ (by first | omega | (simp <;> omega)) _)))⟩
                  · skip
                    have : decide (O j < 0) = false := by first | (simp; done) | (simp; omega)
                    have : decide (s.count < O j) = false := by first | (simp; done) | (simp; omega)
                    have : decide (P.locks ≤ (j : Int)) = false := by first | (simp; done) | (simp; omega)
                    have hnx := Lib.hid (show ∀ q < j + 1, 0 ≤ O q ∧ O q ≤ s.count ∧ ((q : Int) < P.locks ∨ O q = 0) from fun q hq => by
                      by_cases hqj : q < j
                      · exact hz.out q hqj
                      · obtain rfl : q = j := by omega
                        exact ⟨c, d, .inl e⟩)
                    clear hz
                    go_wp2
                    repeat (go_quiet (fail); go_wp2)
                    refine ⟨⟨j + 1, by omega, by go_num, by first | exact E1 | exact E1.drew | exact E1.drewN _, hnx⟩, by simp [intOf]; omega⟩
                  · skip
                    have : decide (O j < 0) = false := by first | (simp; done) | (simp; omega)
                    have : decide (s.count < O j) = false := by first | (simp; done) | (simp; omega)
                    have : decide (P.locks ≤ (j : Int)) = true := by first | (simp; done) | (simp; omega)
                    have hvb : (O j != 0) = false := by simpa using f
                    have hnx := Lib.hid (show ∀ q < j + 1, 0 ≤ O q ∧ O q ≤ s.count ∧ ((q : Int) < P.locks ∨ O q = 0) from fun q hq => by
                      by_cases hqj : q < j
                      · exact hz.out q hqj
                      · obtain rfl : q = j := by omega
                        exact ⟨c, d, .inr f⟩)
                    clear hz
                    replace f := Lib.hid f
                    go_wp2
                    repeat (go_quiet (fail); go_wp2)
                    refine ⟨⟨j + 1, by omega, by go_num, by first | exact E1 | exact E1.drew | exact E1.drewN _, hnx⟩, by simp [intOf]; omega⟩
                  · skip
                    have : decide (O j < 0) = false := by first | (simp; done) | (simp; omega)
                    have : decide (s.count < O j) = false := by first | (simp; done) | (simp; omega)
                    have : decide (P.locks ≤ (j : Int)) = true := by first | (simp; done) | (simp; omega)
                    have hvb : (O j != 0) = true := by simpa using f
                    have hrv := Lib.hid (show r = false by rw [hrr.out, hO0.out j (by omega) (by omega), Bool.false_and])
                    clear hO1 hO0 hrr hz
                    go_wp2
                    repeat (go_quiet (fail); go_wp2)
                    go_ret
                    exact ⟨by first | rfl | (rw [hrv.out]; rfl), by have acc := E1.acc; have hsz := acc.size; exact (by repeat (first | (with_reducible assumption) | (with_reducible exact Below.refl _ _) | (with_reducible refine Below.drew ?_) | (with_reducible refine below_drewN ?_ _) | (with_reducible refine Below.alloc ?_ (by first | omega | (simp <;> omega)) _)))⟩
                · obtain rfl : j = 4 := by omega
                  replace hrr := Lib.hid (show r = (chansOk P s && waitsOk s) by rw [hrr.out, hO1.out hz.out, Bool.true_and])
                  clear hO1 hO0 hz hOE
                  go_wp2
                  repeat (go_quiet (fail); go_wp2)
                  go_loopw [8, 99] (fun a i wr => ∃ j : Nat, j ≤ 4 ∧ i = .int .i64 j ∧ Env w [(w.heap.size + 1, st), (w.heap.size, #[.slice P.va nv P.vcap, .int .i64 P.locks, .slice P.ha nc P.hcap, .slice P.fa P.funcs.length P.fcap])] wr ∧ Hid (∀ q < j, cp q = true)) (fun a i _ => 4 - (intOf i).toNat)
                  case atStart => exact ⟨0, by omega, rfl, E1, Lib.hid (fun q hq => by omega)⟩
                  case round =>
                    clear E1 y0 y1 l0 l1 z1 acc hsz
                    obtain ⟨j, hj, rfl, E1, hz⟩ := hrel
                    have y0 := E1.tl.h0.cell; have y1 := E1.h0.cell; have l0 := E1.tl.h0.lt; have l1 := E1.h0.lt; have z1 := E1.h0.fr; have acc := E1.acc; have hsz := acc.size
                    by_cases hj4 : j < 4
                    · obtain ⟨b0, b1, b2, b3, len, off, frm, val, cl, hx⟩ := hCk.out j hj4
                      have hcj := hcp0.out j
                      rw [hx] at hcj
                      by_cases hc : nc ≤ j
                      · have hce := Lib.hid (fun i v h => hCE.out j hj4 i v h)
                        rw [hx] at hce
                        have f0 := hce.out 0 _ rfl
                        have f1 := hce.out 1 _ rfl
                        have f2 := hce.out 2 _ rfl
                        have f3 := hce.out 3 _ rfl
                        have f4 := hce.out 4 _ rfl
                        have f5 := hce.out 5 _ rfl
                        have f6 := hce.out 6 _ rfl
                        have f7 := hce.out 7 _ rfl
                        have f8 := hce.out 8 _ rfl
                        simp only [Nat.add_zero] at f0
                        clear hce
                        have : decide ((nc : Int) ≤ j) = true := by first | (simp; done) | (simp; omega)
                        have : decide (nc ≤ j) = true := by first | (simp; done) | (simp; omega)
                        have : decide ((j : Int) < nc) = false := by first | (simp; done) | (simp; omega)
                        have : decide (j < nc) = false := by first | (simp; done) | (simp; omega)
                        rw [if_neg (by omega), ch_default] at hcj
                        clear hK2 hx
                        obtain ⟨be, hbe⟩ : ∃ be, Hid (be = decide (b0 = 0 ∧ b1 = 0 ∧ b2 = 0 ∧ b3 = 0)) := ⟨_, Lib.hid rfl⟩
                        have e4 := fun W => eq4_run 9997 b0 b1 b2 b3 W
                        simp only [← hbe.out, Nat.reduceAdd] at e4
                        rcases cl with _ | _
                        · simp only [Bool.false_eq_true, Bool.true_eq_false, true_and, and_true, and_false, false_and] at hcj
                          replace hcj := Lib.hid hcj
                          cases be
                          · go_wp2
                            repeat (go_quiet (fail); go_wp2)
                            all_goals first
                              | (go_ret; exact ⟨by rw [show r = false by rw [hrr.out, hC0.out j hj4 (by rw [hcj.out]; first | rfl | exact decide_eq_false (by have hb := of_decide_eq_false hbe.out.symm; omega) | exact decide_eq_false id), Bool.false_and]]; rfl, by first | exact E1.acc | exact E1.drew.acc | exact (E1.drewN _).acc⟩)
                              | (have hnx := Lib.hid (show ∀ q < j + 1, cp q = true from fun q hq => by by_cases hqj : q < j; (· exact hz.out q hqj); (· obtain rfl : q = j := (by omega); rw [hcj.out]; exact decide_eq_true (by have hb := of_decide_eq_false hbe.out.symm; omega))); (first | (refine ⟨⟨j + 1, by omega, by go_num, (by first | exact E1 | exact E1.drew | exact E1.drewN _), hnx⟩, (by first | (simp [intOf]; done) | (simp [intOf]; omega) | omega)⟩) | (refine ⟨?_, (by first | (simp [intOf]; done) | (simp [intOf]; omega) | omega)⟩; (repeat apply Exists.intro); exact ⟨⟨j + 1, by omega, by go_num, (by first | exact E1 | exact E1.drew | exact E1.drewN _), hnx⟩, rfl⟩) | (refine ⟨⟨_, _, ?_, rfl, rfl⟩, (by first | (simp [intOf]; done) | (simp [intOf]; omega) | omega)⟩; first | exact ⟨j + 1, by omega, by go_num, hnx⟩ | exact ⟨j + 1, by omega, by go_num, (by first | exact E1 | exact E1.drew | exact E1.drewN _), hnx⟩) | (refine ⟨⟨_, _, _, ?_, rfl, rfl, rfl⟩, (by first | (simp [intOf]; done) | (simp [intOf]; omega) | omega)⟩; first | exact ⟨j + 1, by omega, by go_num, hnx⟩ | exact ⟨j + 1, by omega, by go_num, (by first | exact E1 | exact E1.drew | exact E1.drewN _), hnx⟩) | (refine ⟨⟨_, _, _, _, ?_, rfl, rfl, rfl, rfl⟩, (by first | (simp [intOf]; done) | (simp [intOf]; omega) | omega)⟩; first | exact ⟨j + 1, by omega, by go_num, hnx⟩ | exact ⟨j + 1, by omega, by go_num, (by first | exact E1 | exact E1.drew | exact E1.drewN _), hnx⟩) | (refine ⟨⟨_, _, _, _, _, ?_, rfl, rfl, rfl, rfl, rfl⟩, (by first | (simp [intOf]; done) | (simp [intOf]; omega) | omega)⟩; first | exact ⟨j + 1, by omega, by go_num, hnx⟩ | exact ⟨j + 1, by omega, by go_num, (by first | exact E1 | exact E1.drew | exact E1.drewN _), hnx⟩) | (refine ⟨⟨_, _, _, _, _, _, ?_, rfl, rfl, rfl, rfl, rfl, rfl⟩, (by first | (simp [intOf]; done) | (simp [intOf]; omega) | omega)⟩; first | exact ⟨j + 1, by omega, by go_num, hnx⟩ | exact ⟨j + 1, by omega, by go_num, (by first | exact E1 | exact E1.drew | exact E1.drewN _), hnx⟩)))
                          · go_wp2
                            repeat (go_quiet (fail); go_wp2)
                            all_goals first
                              | (go_ret; exact ⟨by rw [show r = false by rw [hrr.out, hC0.out j hj4 (by rw [hcj.out]; first | rfl | exact decide_eq_false (by have hb := of_decide_eq_true hbe.out.symm; omega) | exact decide_eq_false id), Bool.false_and]]; rfl, by first | exact E1.acc | exact E1.drew.acc | exact (E1.drewN _).acc⟩)
                              | (have hnx := Lib.hid (show ∀ q < j + 1, cp q = true from fun q hq => by by_cases hqj : q < j; (· exact hz.out q hqj); (· obtain rfl : q = j := (by omega); rw [hcj.out]; exact decide_eq_true (by have hb := of_decide_eq_true hbe.out.symm; omega))); (first | (refine ⟨⟨j + 1, by omega, by go_num, (by first | exact E1 | exact E1.drew | exact E1.drewN _), hnx⟩, (by first | (simp [intOf]; done) | (simp [intOf]; omega) | omega)⟩) | (refine ⟨?_, (by first | (simp [intOf]; done) | (simp [intOf]; omega) | omega)⟩; (repeat apply Exists.intro); exact ⟨⟨j + 1, by omega, by go_num, (by first | exact E1 | exact E1.drew | exact E1.drewN _), hnx⟩, rfl⟩) | (refine ⟨⟨_, _, ?_, rfl, rfl⟩, (by first | (simp [intOf]; done) | (simp [intOf]; omega) | omega)⟩; first | exact ⟨j + 1, by omega, by go_num, hnx⟩ | exact ⟨j + 1, by omega, by go_num, (by first | exact E1 | exact E1.drew | exact E1.drewN _), hnx⟩) | (refine ⟨⟨_, _, _, ?_, rfl, rfl, rfl⟩, (by first | (simp [intOf]; done) | (simp [intOf]; omega) | omega)⟩; first | exact ⟨j + 1, by omega, by go_num, hnx⟩ | exact ⟨j + 1, by omega, by go_num, (by first | exact E1 | exact E1.drew | exact E1.drewN _), hnx⟩) | (refine ⟨⟨_, _, _, _, ?_, rfl, rfl, rfl, rfl⟩, (by first | (simp [intOf]; done) | (simp [intOf]; omega) | omega)⟩; first | exact ⟨j + 1, by omega, by go_num, hnx⟩ | exact ⟨j + 1, by omega, by go_num, (by first | exact E1 | exact E1.drew | exact E1.drewN _), hnx⟩) | (refine ⟨⟨_, _, _, _, _, ?_, rfl, rfl, rfl, rfl, rfl⟩, (by first | (simp [intOf]; done) | (simp [intOf]; omega) | omega)⟩; first | exact ⟨j + 1, by omega, by go_num, hnx⟩ | exact ⟨j + 1, by omega, by go_num, (by first | exact E1 | exact E1.drew | exact E1.drewN _), hnx⟩) | (refine ⟨⟨_, _, _, _, _, _, ?_, rfl, rfl, rfl, rfl, rfl, rfl⟩, (by first | (simp [intOf]; done) | (simp [intOf]; omega) | omega)⟩; first | exact ⟨j + 1, by omega, by go_num, hnx⟩ | exact ⟨j + 1, by omega, by go_num, (by first | exact E1 | exact E1.drew | exact E1.drewN _), hnx⟩)))
                        · simp only [Bool.false_eq_true, Bool.true_eq_false, true_and, and_true, and_false, false_and] at hcj
                          replace hcj := Lib.hid hcj
                          cases be
                          · go_wp2
                            repeat (go_quiet (fail); go_wp2)
                            all_goals first
                              | (go_ret; exact ⟨by rw [show r = false by rw [hrr.out, hC0.out j hj4 (by rw [hcj.out]; first | rfl | exact decide_eq_false (by have hb := of_decide_eq_false hbe.out.symm; omega) | exact decide_eq_false id), Bool.false_and]]; rfl, by first | exact E1.acc | exact E1.drew.acc | exact (E1.drewN _).acc⟩)
                              | (have hnx := Lib.hid (show ∀ q < j + 1, cp q = true from fun q hq => by by_cases hqj : q < j; (· exact hz.out q hqj); (· obtain rfl : q = j := (by omega); rw [hcj.out]; exact decide_eq_true (by have hb := of_decide_eq_false hbe.out.symm; omega))); (first | (refine ⟨⟨j + 1, by omega, by go_num, (by first | exact E1 | exact E1.drew | exact E1.drewN _), hnx⟩, (by first | (simp [intOf]; done) | (simp [intOf]; omega) | omega)⟩) | (refine ⟨?_, (by first | (simp [intOf]; done) | (simp [intOf]; omega) | omega)⟩; (repeat apply Exists.intro); exact ⟨⟨j + 1, by omega, by go_num, (by first | exact E1 | exact E1.drew | exact E1.drewN _), hnx⟩, rfl⟩) | (refine ⟨⟨_, _, ?_, rfl, rfl⟩, (by first | (simp [intOf]; done) | (simp [intOf]; omega) | omega)⟩; first | exact ⟨j + 1, by omega, by go_num, hnx⟩ | exact ⟨j + 1, by omega, by go_num, (by first | exact E1 | exact E1.drew | exact E1.drewN _), hnx⟩) | (refine ⟨⟨_, _, _, ?_, rfl, rfl, rfl⟩, (by first | (simp [intOf]; done) | (simp [intOf]; omega) | omega)⟩; first | exact ⟨j + 1, by omega, by go_num, hnx⟩ | exact ⟨j + 1, by omega, by go_num, (by first | exact E1 | exact E1.drew | exact E1.drewN _), hnx⟩) | (refine ⟨⟨_, _, _, _, ?_, rfl, rfl, rfl, rfl⟩, (by first | (simp [intOf]; done) | (simp [intOf]; omega) | omega)⟩; first | exact ⟨j + 1, by omega, by go_num, hnx⟩ | exact ⟨j + 1, by omega, by go_num, (by first | exact E1 | exact E1.drew | exact E1.drewN _), hnx⟩) | (refine ⟨⟨_, _, _, _, _, ?_, rfl, rfl, rfl, rfl, rfl⟩, (by first | (simp [intOf]; done) | (simp [intOf]; omega) | omega)⟩; first | exact ⟨j + 1, by omega, by go_num, hnx⟩ | exact ⟨j + 1, by omega, by go_num, (by first | exact E1 | exact E1.drew | exact E1.drewN _), hnx⟩) | (refine ⟨⟨_, _, _, _, _, _, ?_, rfl, rfl, rfl, rfl, rfl, rfl⟩, (by first | (simp [intOf]; done) | (simp [intOf]; omega) | omega)⟩; first | exact ⟨j + 1, by omega, by go_num, hnx⟩ | exact ⟨j + 1, by omega, by go_num, (by first | exact E1 | exact E1.drew | exact E1.drewN _), hnx⟩)))
                          · go_wp2
                            repeat (go_quiet (fail); go_wp2)
                            all_goals first
                              | (go_ret; exact ⟨by rw [show r = false by rw [hrr.out, hC0.out j hj4 (by rw [hcj.out]; first | rfl | exact decide_eq_false (by have hb := of_decide_eq_true hbe.out.symm; omega) | exact decide_eq_false id), Bool.false_and]]; rfl, by first | exact E1.acc | exact E1.drew.acc | exact (E1.drewN _).acc⟩)
                              | (have hnx := Lib.hid (show ∀ q < j + 1, cp q = true from fun q hq => by by_cases hqj : q < j; (· exact hz.out q hqj); (· obtain rfl : q = j := (by omega); rw [hcj.out]; exact decide_eq_true (by have hb := of_decide_eq_true hbe.out.symm; omega))); (first | (refine ⟨⟨j + 1, by omega, by go_num, (by first | exact E1 | exact E1.drew | exact E1.drewN _), hnx⟩, (by first | (simp [intOf]; done) | (simp [intOf]; omega) | omega)⟩) | (refine ⟨?_, (by first | (simp [intOf]; done) | (simp [intOf]; omega) | omega)⟩; (repeat apply Exists.intro); exact ⟨⟨j + 1, by omega, by go_num, (by first | exact E1 | exact E1.drew | exact E1.drewN _), hnx⟩, rfl⟩) | (refine ⟨⟨_, _, ?_, rfl, rfl⟩, (by first | (simp [intOf]; done) | (simp [intOf]; omega) | omega)⟩; first | exact ⟨j + 1, by omega, by go_num, hnx⟩ | exact ⟨j + 1, by omega, by go_num, (by first | exact E1 | exact E1.drew | exact E1.drewN _), hnx⟩) | (refine ⟨⟨_, _, _, ?_, rfl, rfl, rfl⟩, (by first | (simp [intOf]; done) | (simp [intOf]; omega) | omega)⟩; first | exact ⟨j + 1, by omega, by go_num, hnx⟩ | exact ⟨j + 1, by omega, by go_num, (by first | exact E1 | exact E1.drew | exact E1.drewN _), hnx⟩) | (refine ⟨⟨_, _, _, _, ?_, rfl, rfl, rfl, rfl⟩, (by first | (simp [intOf]; done) | (simp [intOf]; omega) | omega)⟩; first | exact ⟨j + 1, by omega, by go_num, hnx⟩ | exact ⟨j + 1, by omega, by go_num, (by first | exact E1 | exact E1.drew | exact E1.drewN _), hnx⟩) | (refine ⟨⟨_, _, _, _, _, ?_, rfl, rfl, rfl, rfl, rfl⟩, (by first | (simp [intOf]; done) | (simp [intOf]; omega) | omega)⟩; first | exact ⟨j + 1, by omega, by go_num, hnx⟩ | exact ⟨j + 1, by omega, by go_num, (by first | exact E1 | exact E1.drew | exact E1.drewN _), hnx⟩) | (refine ⟨⟨_, _, _, _, _, _, ?_, rfl, rfl, rfl, rfl, rfl, rfl⟩, (by first | (simp [intOf]; done) | (simp [intOf]; omega) | omega)⟩; first | exact ⟨j + 1, by omega, by go_num, hnx⟩ | exact ⟨j + 1, by omega, by go_num, (by first | exact E1 | exact E1.drew | exact E1.drewN _), hnx⟩)))
                      · have dn1 : decide ((nc : Int) ≤ j) = false := by first | (simp; done) | (simp; omega)
                        have dn2 : decide (nc ≤ j) = false := by first | (simp; done) | (simp; omega)
                        have : decide ((j : Int) < nc) = true := by first | (simp; done) | (simp; omega)
                        have : decide (j < nc) = true := by first | (simp; done) | (simp; omega)
                        have hjn : j < nc := by omega
                        rw [if_pos hjn] at hcj
                        have cK := Lib.hid (fun W hb => hK2.out j W hb hjn hj4 (hCap.out j))
                        rw [hx, ← hcj] at cK
                        clear hK2 hx hcj
                        obtain ⟨bf, hbf⟩ : ∃ bf, Hid (bf = cp j) := ⟨_, Lib.hid rfl⟩
                        rw [← hbf.out] at cK
                        have B1 := E1.h0; have B0 := E1.tl.h0
                        cases bf
                        · have hrv := Lib.hid (show r = false by rw [hrr.out, hC0.out j hj4 hbf.out.symm, Bool.false_and])
                          go_wp2
                          repeat (go_quiet (fail); go_wp2)
                          refine load_state _ rfl _ rfl st h121.out (by repeat (first | assumption | (with_reducible exact Blk.new' _ _ _ _ (by first | rfl | (simp; done))) | (with_reducible refine Blk.drewN ?_ _) | (with_reducible refine Blk.drew ?_) | (with_reducible refine Blk.alloc ?_ _))) ?_
                          go_wp2_with ((go_at_call 41; ((with_reducible refine (cK.out _ (by repeat (first | (with_reducible assumption) | (with_reducible exact Below.refl _ _) | (with_reducible refine Below.drew ?_) | (with_reducible refine below_drewN ?_ _) | (with_reducible refine Below.alloc ?_ (by first | omega | (simp <;> omega)) _)))).mono ?_); rintro e w' ⟨rfl, hb2⟩)))
                          have E2 := E1.next hb2
                          go_ret
                          exact ⟨by first | rfl | (rw [hrv.out]; rfl), E2.acc⟩
                        · skip
                          go_wp2
                          repeat (go_quiet (fail); go_wp2)
                          refine load_state _ rfl _ rfl st h121.out (by repeat (first | assumption | (with_reducible exact Blk.new' _ _ _ _ (by first | rfl | (simp; done))) | (with_reducible refine Blk.drewN ?_ _) | (with_reducible refine Blk.drew ?_) | (with_reducible refine Blk.alloc ?_ _))) ?_
                          go_wp2_with ((go_at_call 41; ((with_reducible refine (cK.out _ (by repeat (first | (with_reducible assumption) | (with_reducible exact Below.refl _ _) | (with_reducible refine Below.drew ?_) | (with_reducible refine below_drewN ?_ _) | (with_reducible refine Below.alloc ?_ (by first | omega | (simp <;> omega)) _)))).mono ?_); rintro e w' ⟨rfl, hb2⟩)))
                          have E2 := E1.next hb2
                          have hnx := Lib.hid (show ∀ q < j + 1, cp q = true from fun q hq => by by_cases hqj : q < j; (· exact hz.out q hqj); (· obtain rfl : q = j := (by omega); exact hbf.out.symm))
                          (first | (refine ⟨⟨j + 1, by omega, by go_num, E2, hnx⟩, (by first | (simp [intOf]; done) | (simp [intOf]; omega) | omega)⟩) | (refine ⟨?_, (by first | (simp [intOf]; done) | (simp [intOf]; omega) | omega)⟩; (repeat apply Exists.intro); exact ⟨⟨j + 1, by omega, by go_num, E2, hnx⟩, rfl⟩) | (refine ⟨⟨_, _, ?_, rfl, rfl⟩, (by first | (simp [intOf]; done) | (simp [intOf]; omega) | omega)⟩; first | exact ⟨j + 1, by omega, by go_num, hnx⟩ | exact ⟨j + 1, by omega, by go_num, E2, hnx⟩) | (refine ⟨⟨_, _, _, ?_, rfl, rfl, rfl⟩, (by first | (simp [intOf]; done) | (simp [intOf]; omega) | omega)⟩; first | exact ⟨j + 1, by omega, by go_num, hnx⟩ | exact ⟨j + 1, by omega, by go_num, E2, hnx⟩) | (refine ⟨⟨_, _, _, _, ?_, rfl, rfl, rfl, rfl⟩, (by first | (simp [intOf]; done) | (simp [intOf]; omega) | omega)⟩; first | exact ⟨j + 1, by omega, by go_num, hnx⟩ | exact ⟨j + 1, by omega, by go_num, E2, hnx⟩) | (refine ⟨⟨_, _, _, _, _, ?_, rfl, rfl, rfl, rfl, rfl⟩, (by first | (simp [intOf]; done) | (simp [intOf]; omega) | omega)⟩; first | exact ⟨j + 1, by omega, by go_num, hnx⟩ | exact ⟨j + 1, by omega, by go_num, E2, hnx⟩) | (refine ⟨⟨_, _, _, _, _, _, ?_, rfl, rfl, rfl, rfl, rfl, rfl⟩, (by first | (simp [intOf]; done) | (simp [intOf]; omega) | omega)⟩; first | exact ⟨j + 1, by omega, by go_num, hnx⟩ | exact ⟨j + 1, by omega, by go_num, E2, hnx⟩))
                    · obtain rfl : j = 4 := by omega
                      replace hrr := Lib.hid (show r = waitsOk s by rw [hrr.out, hC1.out hz.out, Bool.true_and])
                      have hW1 := Lib.hid (waits_yes (s := s)); have hW0 := Lib.hid (waits_no (s := s))
                      clear hC1 hC0 hz hcp0 hK2 hCap
                      go_wp2
                      repeat (go_quiet (fail); go_wp2)
                      go_loopw [9] (fun i wr => ∃ j : Nat, (j : Int) ≤ s.count ∧ i = .int .i64 j ∧ Env w [(w.heap.size + 1, st), (w.heap.size, #[.slice P.va nv P.vcap, .int .i64 P.locks, .slice P.ha nc P.hcap, .slice P.fa P.funcs.length P.fcap])] wr ∧ Hid (∀ q < j, (s.gos.getD q default).status ≠ 2 ∨ offers s q = 1)) (fun i _ => 6 - (intOf i).toNat)
                      case atStart => exact ⟨0, by omega, rfl, E1, Lib.hid (fun q hq => by omega)⟩
                      case round =>
                        clear E1 y0 y1 l0 l1 z1 acc hsz
                        obtain ⟨j, hj, rfl, E1, hz⟩ := hrel
                        have y0 := E1.tl.h0.cell; have y1 := E1.h0.cell; have l0 := E1.tl.h0.lt; have l1 := E1.h0.lt; have z1 := E1.h0.fr; have acc := E1.acc; have hsz := acc.size
                        by_cases hjc : (j : Int) < s.count
                        · have hj6 : j < 6 := by omega
                          have dj : decide ((j : Int) < s.count) = true := by first | (simp; done) | (simp; omega)
                          have g0 := hGE.out j hj6 0 (.int .i64 (s.gos.getD j default).status) rfl
                          simp only [Nat.add_zero] at g0
                          have hyes := Lib.hid (fun (h : (s.gos.getD j default).status ≠ 2 ∨ offers s j = 1) q (hq : q < j + 1) => show (s.gos.getD q default).status ≠ 2 ∨ offers s q = 1 by
                            by_cases hqj : q < j
                            · exact hz.out q hqj
                            · obtain rfl : q = j := by omega
                              exact h)
                          have hno := Lib.hid (fun (h : (s.gos.getD j default).status = 2) (h' : offers s j ≠ 1) => show r = false by rw [hrr.out, hW0.out j hj6 h h'])
                          clear hz
                          generalize (s.gos.getD j default).status = gs at *
                          go_wp2
                          repeat (go_quiet (fail); go_wp2)
                          obtain ⟨wo, rfl⟩ : ∃ wo : World, wo = wr := ⟨_, rfl⟩
                          go_loopw [10, 11, 136] (fun n a i wr => ∃ m : Nat, m ≤ 4 ∧ i = .int .i64 m ∧ n = .int .i64 (offs s m j : Nat) ∧ Env w [(w.heap.size + 1, st), (w.heap.size, #[.slice P.va nv P.vcap, .int .i64 P.locks, .slice P.ha nc P.hcap, .slice P.fa P.funcs.length P.fcap])] wr) (fun n a i _ => 4 - (intOf i).toNat)
                          case atStart => exact ⟨0, by omega, rfl, rfl, E1⟩
                          case round =>
                            clear E1 y0 y1 l0 l1 z1 acc hsz
                            obtain ⟨m, hm, rfl, rfl, E1⟩ := hrel
                            have y0 := E1.tl.h0.cell; have y1 := E1.h0.cell; have l0 := E1.tl.h0.lt; have l1 := E1.h0.lt; have z1 := E1.h0.fr; have acc := E1.acc; have hsz := acc.size
                            by_cases hm4 : m < 4
                            · have hle := offs_le s m j
                              have hof := Lib.hid (offs_next hs m j hm4)
                              obtain ⟨b0, b1, b2, b3, len, off, frm, val, cl, hx⟩ := hCk.out m hm4
                              have f6 := hCE.out m hm4 6 (.int .i64 off) (by rw [hx]; rfl); have f7 := hCE.out m hm4 7 (.int .i64 frm) (by rw [hx]; rfl)
                              rw [hx] at hof
                              clear hx
                              by_cases ho : off = 0
                              · have hob : (off != 0) = false := by simpa using ho
                                have hof' := Lib.hid (show offs s (m + 1) j = offs s m j by rw [hof.out, if_neg (fun h => h.1 ho), Nat.add_zero])
                                replace ho := Lib.hid ho
                                go_wp2
                                repeat (go_quiet (fail); go_wp2)
                                (first | (refine ⟨⟨m + 1, by omega, by go_num, (by rw [hof'.out]), E1⟩, (by first | (simp [intOf]; done) | (simp [intOf]; omega) | omega)⟩) | (refine ⟨?_, (by first | (simp [intOf]; done) | (simp [intOf]; omega) | omega)⟩; (repeat apply Exists.intro); exact ⟨⟨m + 1, by omega, by go_num, (by rw [hof'.out]), E1⟩, rfl⟩) | (refine ⟨⟨_, _, ?_, rfl, rfl⟩, (by first | (simp [intOf]; done) | (simp [intOf]; omega) | omega)⟩; first | exact ⟨m + 1, by omega, by go_num, (by rw [hof'.out])⟩ | exact ⟨m + 1, by omega, by go_num, (by rw [hof'.out]), E1⟩) | (refine ⟨⟨_, _, _, ?_, rfl, rfl, rfl⟩, (by first | (simp [intOf]; done) | (simp [intOf]; omega) | omega)⟩; first | exact ⟨m + 1, by omega, by go_num, (by rw [hof'.out])⟩ | exact ⟨m + 1, by omega, by go_num, (by rw [hof'.out]), E1⟩) | (refine ⟨⟨_, _, _, _, ?_, rfl, rfl, rfl, rfl⟩, (by first | (simp [intOf]; done) | (simp [intOf]; omega) | omega)⟩; first | exact ⟨m + 1, by omega, by go_num, (by rw [hof'.out])⟩ | exact ⟨m + 1, by omega, by go_num, (by rw [hof'.out]), E1⟩) | (refine ⟨⟨_, _, _, _, _, ?_, rfl, rfl, rfl, rfl, rfl⟩, (by first | (simp [intOf]; done) | (simp [intOf]; omega) | omega)⟩; first | exact ⟨m + 1, by omega, by go_num, (by rw [hof'.out])⟩ | exact ⟨m + 1, by omega, by go_num, (by rw [hof'.out]), E1⟩) | (refine ⟨⟨_, _, _, _, _, _, ?_, rfl, rfl, rfl, rfl, rfl, rfl⟩, (by first | (simp [intOf]; done) | (simp [intOf]; omega) | omega)⟩; first | exact ⟨m + 1, by omega, by go_num, (by rw [hof'.out])⟩ | exact ⟨m + 1, by omega, by go_num, (by rw [hof'.out]), E1⟩))
                              · have hob : (off != 0) = true := by simpa using ho
                                by_cases hf : frm = (j : Int)
                                · have hfb : (frm == (j : Int)) = true := by simpa using hf
                                  have hof' := Lib.hid (show offs s (m + 1) j = offs s m j + 1 by rw [hof.out, if_pos ⟨ho, hf⟩])
                                  replace ho := Lib.hid ho; replace hf := Lib.hid hf
                                  go_wp2
                                  repeat (go_quiet (fail); go_wp2)
                                  (first | (refine ⟨⟨m + 1, by omega, by go_num, (by rw [hof'.out]; go_num), E1⟩, (by first | (simp [intOf]; done) | (simp [intOf]; omega) | omega)⟩) | (refine ⟨?_, (by first | (simp [intOf]; done) | (simp [intOf]; omega) | omega)⟩; (repeat apply Exists.intro); exact ⟨⟨m + 1, by omega, by go_num, (by rw [hof'.out]; go_num), E1⟩, rfl⟩) | (refine ⟨⟨_, _, ?_, rfl, rfl⟩, (by first | (simp [intOf]; done) | (simp [intOf]; omega) | omega)⟩; first | exact ⟨m + 1, by omega, by go_num, (by rw [hof'.out]; go_num)⟩ | exact ⟨m + 1, by omega, by go_num, (by rw [hof'.out]; go_num), E1⟩) | (refine ⟨⟨_, _, _, ?_, rfl, rfl, rfl⟩, (by first | (simp [intOf]; done) | (simp [intOf]; omega) | omega)⟩; first | exact ⟨m + 1, by omega, by go_num, (by rw [hof'.out]; go_num)⟩ | exact ⟨m + 1, by omega, by go_num, (by rw [hof'.out]; go_num), E1⟩) | (refine ⟨⟨_, _, _, _, ?_, rfl, rfl, rfl, rfl⟩, (by first | (simp [intOf]; done) | (simp [intOf]; omega) | omega)⟩; first | exact ⟨m + 1, by omega, by go_num, (by rw [hof'.out]; go_num)⟩ | exact ⟨m + 1, by omega, by go_num, (by rw [hof'.out]; go_num), E1⟩) | (refine ⟨⟨_, _, _, _, _, ?_, rfl, rfl, rfl, rfl, rfl⟩, (by first | (simp [intOf]; done) | (simp [intOf]; omega) | omega)⟩; first | exact ⟨m + 1, by omega, by go_num, (by rw [hof'.out]; go_num)⟩ | exact ⟨m + 1, by omega, by go_num, (by rw [hof'.out]; go_num), E1⟩) | (refine ⟨⟨_, _, _, _, _, _, ?_, rfl, rfl, rfl, rfl, rfl, rfl⟩, (by first | (simp [intOf]; done) | (simp [intOf]; omega) | omega)⟩; first | exact ⟨m + 1, by omega, by go_num, (by rw [hof'.out]; go_num)⟩ | exact ⟨m + 1, by omega, by go_num, (by rw [hof'.out]; go_num), E1⟩))
                                · have hfb : (frm == (j : Int)) = false := by simpa using hf
                                  have hof' := Lib.hid (show offs s (m + 1) j = offs s m j by rw [hof.out, if_neg (fun h => hf h.2), Nat.add_zero])
                                  replace ho := Lib.hid ho; replace hf := Lib.hid hf
                                  go_wp2
                                  repeat (go_quiet (fail); go_wp2)
                                  (first | (refine ⟨⟨m + 1, by omega, by go_num, (by rw [hof'.out]), E1⟩, (by first | (simp [intOf]; done) | (simp [intOf]; omega) | omega)⟩) | (refine ⟨?_, (by first | (simp [intOf]; done) | (simp [intOf]; omega) | omega)⟩; (repeat apply Exists.intro); exact ⟨⟨m + 1, by omega, by go_num, (by rw [hof'.out]), E1⟩, rfl⟩) | (refine ⟨⟨_, _, ?_, rfl, rfl⟩, (by first | (simp [intOf]; done) | (simp [intOf]; omega) | omega)⟩; first | exact ⟨m + 1, by omega, by go_num, (by rw [hof'.out])⟩ | exact ⟨m + 1, by omega, by go_num, (by rw [hof'.out]), E1⟩) | (refine ⟨⟨_, _, _, ?_, rfl, rfl, rfl⟩, (by first | (simp [intOf]; done) | (simp [intOf]; omega) | omega)⟩; first | exact ⟨m + 1, by omega, by go_num, (by rw [hof'.out])⟩ | exact ⟨m + 1, by omega, by go_num, (by rw [hof'.out]), E1⟩) | (refine ⟨⟨_, _, _, _, ?_, rfl, rfl, rfl, rfl⟩, (by first | (simp [intOf]; done) | (simp [intOf]; omega) | omega)⟩; first | exact ⟨m + 1, by omega, by go_num, (by rw [hof'.out])⟩ | exact ⟨m + 1, by omega, by go_num, (by rw [hof'.out]), E1⟩) | (refine ⟨⟨_, _, _, _, _, ?_, rfl, rfl, rfl, rfl, rfl⟩, (by first | (simp [intOf]; done) | (simp [intOf]; omega) | omega)⟩; first | exact ⟨m + 1, by omega, by go_num, (by rw [hof'.out])⟩ | exact ⟨m + 1, by omega, by go_num, (by rw [hof'.out]), E1⟩) | (refine ⟨⟨_, _, _, _, _, _, ?_, rfl, rfl, rfl, rfl, rfl, rfl⟩, (by first | (simp [intOf]; done) | (simp [intOf]; omega) | omega)⟩; first | exact ⟨m + 1, by omega, by go_num, (by rw [hof'.out])⟩ | exact ⟨m + 1, by omega, by go_num, (by rw [hof'.out]), E1⟩))
                            · obtain rfl : m = 4 := by omega
                              have hoa := offs_all hs j
                              generalize offs s 4 j = nf at *
                              rw [← hoa] at hyes hno
                              clear hoa
                              by_cases h2 : gs = 2
                              · by_cases h1 : nf = 1
                                · have hb1 : (((nf : Nat) : Int) != 1) = false := by simpa using (by omega : (nf : Int) = 1)
                                  have ho := Lib.hid (hyes.out (.inr h1))
                                  subst h2
                                  replace h1 := Lib.hid h1
                                  clear hno
                                  go_wp2
                                  repeat (go_quiet (fail); go_wp2)
                                  (first | (refine ⟨⟨j + 1, by omega, by go_num, E1, ho⟩, (by first | (simp [intOf]; done) | (simp [intOf]; omega) | omega)⟩) | (refine ⟨?_, (by first | (simp [intOf]; done) | (simp [intOf]; omega) | omega)⟩; (repeat apply Exists.intro); exact ⟨⟨j + 1, by omega, by go_num, E1, ho⟩, rfl⟩) | (refine ⟨⟨_, _, ?_, rfl, rfl⟩, (by first | (simp [intOf]; done) | (simp [intOf]; omega) | omega)⟩; first | exact ⟨j + 1, by omega, by go_num, ho⟩ | exact ⟨j + 1, by omega, by go_num, E1, ho⟩) | (refine ⟨⟨_, _, _, ?_, rfl, rfl, rfl⟩, (by first | (simp [intOf]; done) | (simp [intOf]; omega) | omega)⟩; first | exact ⟨j + 1, by omega, by go_num, ho⟩ | exact ⟨j + 1, by omega, by go_num, E1, ho⟩) | (refine ⟨⟨_, _, _, _, ?_, rfl, rfl, rfl, rfl⟩, (by first | (simp [intOf]; done) | (simp [intOf]; omega) | omega)⟩; first | exact ⟨j + 1, by omega, by go_num, ho⟩ | exact ⟨j + 1, by omega, by go_num, E1, ho⟩) | (refine ⟨⟨_, _, _, _, _, ?_, rfl, rfl, rfl, rfl, rfl⟩, (by first | (simp [intOf]; done) | (simp [intOf]; omega) | omega)⟩; first | exact ⟨j + 1, by omega, by go_num, ho⟩ | exact ⟨j + 1, by omega, by go_num, E1, ho⟩) | (refine ⟨⟨_, _, _, _, _, _, ?_, rfl, rfl, rfl, rfl, rfl, rfl⟩, (by first | (simp [intOf]; done) | (simp [intOf]; omega) | omega)⟩; first | exact ⟨j + 1, by omega, by go_num, ho⟩ | exact ⟨j + 1, by omega, by go_num, E1, ho⟩))
                                · have hb1 : (((nf : Nat) : Int) != 1) = true := by simpa using (by omega : ¬ (nf : Int) = 1)
                                  have hrv := Lib.hid (hno.out h2 h1)
                                  subst h2
                                  clear h1 hno hyes
                                  go_wp2
                                  repeat (go_quiet (fail); go_wp2)
                                  go_ret
                                  exact ⟨by first | rfl | (rw [hrv.out]; rfl), by have acc := E1.acc; have hsz := acc.size; exact (by repeat (first | (with_reducible assumption) | (with_reducible exact Below.refl _ _) | (with_reducible refine Below.drew ?_) | (with_reducible refine below_drewN ?_ _) | (with_reducible refine Below.alloc ?_ (by first | omega | (simp <;> omega)) _)))⟩
                              · have hb2 : (gs == 2) = false := by simpa using h2
                                have ho := Lib.hid (hyes.out (.inl h2))
                                replace h2 := Lib.hid h2
                                clear hno
                                go_wp2
                                repeat (go_quiet (fail); go_wp2)
                                (first | (refine ⟨⟨j + 1, by omega, by go_num, E1, ho⟩, (by first | (simp [intOf]; done) | (simp [intOf]; omega) | omega)⟩) | (refine ⟨?_, (by first | (simp [intOf]; done) | (simp [intOf]; omega) | omega)⟩; (repeat apply Exists.intro); exact ⟨⟨j + 1, by omega, by go_num, E1, ho⟩, rfl⟩) | (refine ⟨⟨_, _, ?_, rfl, rfl⟩, (by first | (simp [intOf]; done) | (simp [intOf]; omega) | omega)⟩; first | exact ⟨j + 1, by omega, by go_num, ho⟩ | exact ⟨j + 1, by omega, by go_num, E1, ho⟩) | (refine ⟨⟨_, _, _, ?_, rfl, rfl, rfl⟩, (by first | (simp [intOf]; done) | (simp [intOf]; omega) | omega)⟩; first | exact ⟨j + 1, by omega, by go_num, ho⟩ | exact ⟨j + 1, by omega, by go_num, E1, ho⟩) | (refine ⟨⟨_, _, _, _, ?_, rfl, rfl, rfl, rfl⟩, (by first | (simp [intOf]; done) | (simp [intOf]; omega) | omega)⟩; first | exact ⟨j + 1, by omega, by go_num, ho⟩ | exact ⟨j + 1, by omega, by go_num, E1, ho⟩) | (refine ⟨⟨_, _, _, _, _, ?_, rfl, rfl, rfl, rfl, rfl⟩, (by first | (simp [intOf]; done) | (simp [intOf]; omega) | omega)⟩; first | exact ⟨j + 1, by omega, by go_num, ho⟩ | exact ⟨j + 1, by omega, by go_num, E1, ho⟩) | (refine ⟨⟨_, _, _, _, _, _, ?_, rfl, rfl, rfl, rfl, rfl, rfl⟩, (by first | (simp [intOf]; done) | (simp [intOf]; omega) | omega)⟩; first | exact ⟨j + 1, by omega, by go_num, ho⟩ | exact ⟨j + 1, by omega, by go_num, E1, ho⟩))
                        · have dj : decide ((j : Int) < s.count) = false := by first | (simp; done) | (simp; omega)
                          have hrv := Lib.hid (show r = true by rw [hrr.out, hW1.out (fun k hk => by by_cases hkj : k < j; (· exact hz.out k hkj); (· exact .inl (hGN.out k hk (by omega))))])
                          clear hz
                          go_wp2
                          repeat (go_quiet (fail); go_wp2)
                          go_ret
                          exact ⟨by first | rfl | (rw [hrv.out]; rfl), by have acc := E1.acc; have hsz := acc.size; exact (by repeat (first | (with_reducible assumption) | (with_reducible exact Below.refl _ _) | (with_reducible refine Below.drew ?_) | (with_reducible refine below_drewN ?_ _) | (with_reducible refine Below.alloc ?_ (by first | omega | (simp <;> omega)) _)))⟩
  · have hRf : right P = false := by simpa using hR
    have hrv := Lib.hid (show r = false by rw [hr.out, hv, hRf, Bool.false_and])
    rw [hRf] at cR
    clear hv hR hr hRf hcnt
    generalize s.cs.toArray = st at *
    go_enter Tryd.func21, Tryd.ntmps21
    have E0 := ((Env.nil (w := w)).push w.heap.size rfl #[.slice P.va P.vars.length P.vcap, .int .i64 P.locks, .slice P.ha P.chans.length P.hcap, .slice P.fa P.funcs.length P.fcap] 41).push (w.heap.size + 1) (by simp) st 32
    go_wp2_with ((go_at_call 24; ((with_reducible refine (cR.out _ (by repeat (first | (with_reducible exact Below.refl _ _) | (with_reducible refine Below.drew ?_) | (with_reducible refine below_drewN ?_ _) | (with_reducible refine Below.alloc ?_ (by first | omega | (simp <;> omega)) _)))).mono ?_); rintro e w' ⟨rfl, hb1⟩)); have E1 := E0.next hb1; have y0 := E1.tl.h0.cell; have y1 := E1.h0.cell; have l0 := E1.tl.h0.lt; have l1 := E1.h0.lt)
    repeat (go_quiet (fail); go_wp2)
    go_ret
    exact ⟨by first | rfl | (rw [hrv.out]; rfl), by have acc := E1.acc; have hsz := acc.size; exact (by repeat (first | (with_reducible assumption) | (with_reducible exact Below.refl _ _) | (with_reducible refine Below.drew ?_) | (with_reducible refine below_drewN ?_ _) | (with_reducible refine Below.alloc ?_ (by first | omega | (simp <;> omega)) _)))⟩
end Go.Proofs.YtbcdeanmjhcgeaaDoor.Pg
