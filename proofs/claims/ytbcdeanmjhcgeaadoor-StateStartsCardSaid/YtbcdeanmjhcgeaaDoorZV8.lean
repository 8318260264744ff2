/- States, walked: is a state one of a program. -/
import Derived.Test.YtbcdeanmjhcgeaaDoorZa
import Derived.Test.YtbcdeanmjhcgeaaDoorZc
import Derived.Test.YtbcdeanmjhcgeaaDoorZb
import Derived.Test.YtbcdeanmjhcgeaaDoorZV7
import Derived.BigRegion
namespace Go.Proofs.YtbcdeanmjhcgeaaDoor.Pg
set_option linter.unusedVariables false
set_option linter.unusedSimpArgs false
open Go.ChangeShapes Go.WideShapes Go.RowKit
set_option linter.unusedVariables false
theorem info3 : (Tryd.prog.info? 3).isSome = true := by kernel_rfl
theorem cells3 : Tryd.prog.cellsOf 3 = 1 := by kernel_rfl
theorem plain3 : Tryd.prog.plainKey 3 = true := by kernel_rfl
theorem index4 (cs : Array Value) (k : Nat) (hk : k < 4) (v : Value) (hv : cs[k]? = some v) (w : World) : (Instr.index 23 (.agg cs) (.int .i64 k)).run Tryd.prog w = .ok v w := by
  obtain ⟨i, hi⟩ := Option.isSome_iff_exists.1 info3
  exact index_one Tryd.underlying23 hi cells3 plain3 cs k hk v hv w
theorem waits_yes {s : St} (h : ∀ k < 6, (s.gos.getD k default).status ≠ 2 ∨ offers s k = 1) : waitsOk s = true :=
  all_yes fun k hk => by rw [Bool.or_eq_true, decide_eq_true_eq, decide_eq_true_eq]; exact h k hk
theorem waits_no {s : St} (k : Nat) (hk : k < 6) (h : (s.gos.getD k default).status = 2) (h' : offers s k ≠ 1) : waitsOk s = false :=
  all_no k hk (by rw [Bool.or_eq_false_iff]; exact ⟨decide_eq_false (by simpa using h), decide_eq_false h'⟩)
theorem chanOk_offer {P : Pg} {s : St} {k : Nat} {x : Ch} (h : chanOk P s k x = true) (ho : x.offer ≠ 0) : 0 ≤ x.frm ∧ x.frm < s.count := by
  unfold chanOk at h
  simp only [Bool.and_eq_true] at h
  obtain ⟨_, _, h⟩ := h
  rw [if_neg ho] at h
  simp only [Bool.and_eq_true] at h
  have h := h.2
  unfold waits at h
  simp only [Bool.and_eq_true, decide_eq_true_eq] at h
  exact h.1
/-- What a walk of Valid needs of the plain side. -/
theorem vars_yes {P : Pg} {s : St} (h : ∀ k < 8, k < P.vars.length ∨ s.vars.getD k 0 = 0) : varsOk P s = true :=
  all_yes fun k hk => by rw [Bool.or_eq_true, decide_eq_true_eq, decide_eq_true_eq]; exact h k hk
theorem vars_no {P : Pg} {s : St} (k : Nat) (hk : k < 8) (h : ¬ k < P.vars.length) (h' : s.vars.getD k 0 ≠ 0) : varsOk P s = false :=
  all_no k hk (by rw [Bool.or_eq_false_iff]; exact ⟨decide_eq_false h, decide_eq_false h'⟩)
theorem owners_yes {P : Pg} {s : St} (h : ∀ k < 4, 0 ≤ s.owner.getD k 0 ∧ s.owner.getD k 0 ≤ s.count ∧ ((k : Int) < P.locks ∨ s.owner.getD k 0 = 0)) : ownersOk P s = true :=
  all_yes fun k hk => by
    obtain ⟨a, b, c⟩ := h k hk
    rw [Bool.and_eq_true, Bool.or_eq_true, decide_eq_true_eq, decide_eq_true_eq, decide_eq_true_eq]
    exact ⟨⟨a, b⟩, c⟩
theorem owners_no {P : Pg} {s : St} (k : Nat) (hk : k < 4) (h : ¬ (0 ≤ s.owner.getD k 0 ∧ s.owner.getD k 0 ≤ s.count ∧ ((k : Int) < P.locks ∨ s.owner.getD k 0 = 0))) : ownersOk P s = false :=
  all_no k hk (by
    rw [← Bool.not_eq_true, Bool.and_eq_true, Bool.or_eq_true, decide_eq_true_eq, decide_eq_true_eq, decide_eq_true_eq]
    exact fun g => h ⟨g.1.1, g.1.2, g.2⟩)
theorem gos_yes {P : Pg} {s : St} {gp : Nat → Bool} (hg : ∀ k : Nat, gp k = if (k : Int) < s.count then fits P (s.gos.getD k default) else decide (s.gos.getD k default = default)) (h : ∀ k < 6, gp k = true) : gosOk P s = true :=
  all_yes fun k hk => (hg k).symm.trans (h k hk)
theorem gos_no {P : Pg} {s : St} {gp : Nat → Bool} (hg : ∀ k : Nat, gp k = if (k : Int) < s.count then fits P (s.gos.getD k default) else decide (s.gos.getD k default = default)) (k : Nat) (hk : k < 6) (h : gp k = false) : gosOk P s = false :=
  all_no k hk ((hg k).symm.trans h)
theorem chans_yes {P : Pg} {s : St} {cp : Nat → Bool} (hg : ∀ k : Nat, cp k = if k < P.chans.length then chanOk P s k (s.chans.getD k default) else decide (s.chans.getD k default = default)) (h : ∀ k < 4, cp k = true) : chansOk P s = true :=
  all_yes fun k hk => (hg k).symm.trans (h k hk)
theorem chans_no {P : Pg} {s : St} {cp : Nat → Bool} (hg : ∀ k : Nat, cp k = if k < P.chans.length then chanOk P s k (s.chans.getD k default) else decide (s.chans.getD k default = default)) (k : Nat) (hk : k < 4) (h : cp k = false) : chansOk P s = false :=
  all_no k hk ((hg k).symm.trans h)
set_option maxHeartbeats 8000000 in
set_option maxRecDepth 100000 in
theorem valid_walk (P : Pg) (s : St) (w : World) (I : P.In w) (hs : s.ok) : Calls Tryd.prog 20 #[P.v, s.v] w fun e w' => e = .returned (.bool (valid P s)) ∧ Below w.heap.size w w' := by
  obtain ⟨r, hr⟩ : ∃ r, Hid (r = valid P s) := ⟨_, Lib.hid rfl⟩
  rw [← hr.out]
  have hv := valid_eq P s
  have cR := Lib.hid (fun W (hb : Below w.heap.size w W) => right_walk P W (I.below hb))
  have hcnt := St.get_count hs
  have hlf := I.lenF
  unfold Len at hlf
  obtain ⟨_, _⟩ := hs.count
  unfold St.v Pg.v at *
  by_cases hR : right P = true
  · rw [hR] at cR
    have v0 := St.get_var hs 0 (by omega); have v1 := St.get_var hs 1 (by omega); have v2 := St.get_var hs 2 (by omega); have v3 := St.get_var hs 3 (by omega); have v4 := St.get_var hs 4 (by omega); have v5 := St.get_var hs 5 (by omega); have v6 := St.get_var hs 6 (by omega); have v7 := St.get_var hs 7 (by omega)
    have o0 := St.get_owner hs 0 (by omega); have o1 := St.get_owner hs 1 (by omega); have o2 := St.get_owner hs 2 (by omega); have o3 := St.get_owner hs 3 (by omega)
    simp only [Nat.add_zero, Nat.reduceAdd] at o0 o1 o2 o3
    have h121 := Lib.hid (show s.cs.toArray.size = 121 by simpa using St.cs_len hs)
    have hV1 := Lib.hid (vars_yes (P := P) (s := s))
    have hV0 := Lib.hid (vars_no (P := P) (s := s))
    have hO1 := Lib.hid (owners_yes (P := P) (s := s))
    have hO0 := Lib.hid (owners_no (P := P) (s := s))
    obtain ⟨X, hX⟩ : ∃ X : Nat → Int, X = fun k => s.vars.getD k 0 := ⟨_, rfl⟩
    obtain ⟨O, hO⟩ : ∃ O : Nat → Int, O = fun k => s.owner.getD k 0 := ⟨_, rfl⟩
    have hXk : ∀ k, s.vars.getD k 0 = X k := fun k => by rw [hX]
    have hOk : ∀ k, s.owner.getD k 0 = O k := fun k => by rw [hO]
    simp only [hXk] at v0 v1 v2 v3 v4 v5 v6 v7 hV1 hV0
    simp only [hOk] at o0 o1 o2 o3 hO1 hO0
    have X64 : ∀ k, I64 (X k) := fun k => by rw [← hXk k, List.getD_eq_getElem?_getD]; by_cases hk : k < s.vars.length; (· simpa [hk] using hs.vars _ (List.getElem_mem hk)); (· rw [List.getElem?_eq_none (by omega)]; exact ⟨by decide, by decide⟩)
    clear hXk hOk hX hO
    have hLG := Lib.hid (fun (b : Nat) (W : World) y => load_gos hs (b := b) (W := W) y)
    have hLC := Lib.hid (fun (b : Nat) (W : World) y => load_chans hs (b := b) (W := W) y)
    have hF := Lib.hid (fun (k : Nat) W (hk : k < 6) (hb : Below w.heap.size w W) => fits_walk P (s.gos.getD k default) W (I.below hb) (by rw [show s.gos.getD k default = s.gos[k]'(by rw [hs.lg]; exact hk) by simp [show k < s.gos.length by rw [hs.lg]; exact hk]]; exact hs.gos _ (List.getElem_mem _)))
    have hCap := Lib.hid (fun k => ((Rt.of hR).cap k).2)
    have hGo := Lib.hid (fun (k : Nat) (hk : k < 6) => show (s.gos.getD k default).ok by rw [show s.gos.getD k default = s.gos[k]'(by rw [hs.lg]; exact hk) by simp [show k < s.gos.length by rw [hs.lg]; exact hk]]; exact hs.gos _ (List.getElem_mem _))
    unfold Pg.v at hF
    have hK := Lib.hid (fun (k : Nat) W (hb : Below w.heap.size w W) (hst : Stand P s) hk hk4 hcap => channel_walk P s k W (I.below hb) hs hst hk hk4 hcap)
    unfold Pg.v St.v at hK
    have hCk := Lib.hid (fun (k : Nat) (hk : k < 4) => chan_facts (P := P) hs k hk)
    have hIG := Lib.hid (fun k hk W => index_go hs k hk W)
    have hIC := Lib.hid (fun k hk W => index_chan hs k hk W)
    generalize s.gv = gv at *
    generalize s.cv = cv at *
    generalize s.cs.toArray = st at *
    rcases (show s.count < 1 ∨ (1 ≤ s.count ∧ 6 < s.count) ∨ (1 ≤ s.count ∧ s.count ≤ 6) by omega) with h | ⟨h, h'⟩ | ⟨h, h'⟩
    · have d1 : decide (s.count < 1) = true := by simp; omega
      have hrv := Lib.hid (show r = false by rw [hr.out, hv, show decide (1 ≤ s.count ∧ s.count ≤ 6) = false by simp; omega, Bool.false_and, Bool.and_false])
      clear hv hR hr hV1 hV0 hO1 hO0 X64
      go_enter Tryd.func20, Tryd.ntmps20
      have E0 := ((Env.nil (w := w)).push w.heap.size rfl #[.slice P.va P.vars.length P.vcap, .int .i64 P.locks, .slice P.ha P.chans.length P.hcap, .slice P.fa P.funcs.length P.fcap] 41).push (w.heap.size + 1) (by simp) st 32
      go_wp2_with ((go_at_call 33; ((with_reducible refine (cR.out _ (by repeat (first | (with_reducible exact Below.refl _ _) | (with_reducible refine Below.drew ?_) | (with_reducible refine below_drewN ?_ _) | (with_reducible refine Below.alloc ?_ (by first | omega | (simp <;> omega)) _)))).mono ?_); rintro e w' ⟨rfl, hb1⟩)); have E1 := E0.next hb1; have y0 := E1.tl.h0.cell; have y1 := E1.h0.cell; have l0 := E1.tl.h0.lt; have l1 := E1.h0.lt; have lg := hLG.out _ _ y1; have lc := hLC.out _ _ y1)
      repeat (go_quiet (fail); go_wp2)
      go_ret
      exact ⟨by first | rfl | (rw [hrv.out]; rfl), by have acc := E1.acc; have hsz := acc.size; repeat (first | assumption | (with_reducible exact Below.refl _ _) | (with_reducible refine Below.drew ?_) | (with_reducible refine below_drewN ?_ _) | (with_reducible refine Below.alloc ?_ (by first | omega | (simp <;> omega)) _))⟩
    · have d1 : decide (s.count < 1) = false := by simp; omega
      have d2 : decide (6 < s.count) = true := by simp; omega
      have hrv := Lib.hid (show r = false by rw [hr.out, hv, show decide (1 ≤ s.count ∧ s.count ≤ 6) = false by simp; omega, Bool.false_and, Bool.and_false])
      clear hv hR hr hV1 hV0 hO1 hO0 X64
      go_enter Tryd.func20, Tryd.ntmps20
      have E0 := ((Env.nil (w := w)).push w.heap.size rfl #[.slice P.va P.vars.length P.vcap, .int .i64 P.locks, .slice P.ha P.chans.length P.hcap, .slice P.fa P.funcs.length P.fcap] 41).push (w.heap.size + 1) (by simp) st 32
      go_wp2_with ((go_at_call 33; ((with_reducible refine (cR.out _ (by repeat (first | (with_reducible exact Below.refl _ _) | (with_reducible refine Below.drew ?_) | (with_reducible refine below_drewN ?_ _) | (with_reducible refine Below.alloc ?_ (by first | omega | (simp <;> omega)) _)))).mono ?_); rintro e w' ⟨rfl, hb1⟩)); have E1 := E0.next hb1; have y0 := E1.tl.h0.cell; have y1 := E1.h0.cell; have l0 := E1.tl.h0.lt; have l1 := E1.h0.lt; have lg := hLG.out _ _ y1; have lc := hLC.out _ _ y1)
      repeat (go_quiet (fail); go_wp2)
      go_ret
      exact ⟨by first | rfl | (rw [hrv.out]; rfl), by have acc := E1.acc; have hsz := acc.size; repeat (first | assumption | (with_reducible exact Below.refl _ _) | (with_reducible refine Below.drew ?_) | (with_reducible refine below_drewN ?_ _) | (with_reducible refine Below.alloc ?_ (by first | omega | (simp <;> omega)) _))⟩
    · have d1 : decide (s.count < 1) = false := by simp; omega
      have d2 : decide (6 < s.count) = false := by simp; omega
      have hrr := Lib.hid (show r = (varsOk P s && (ownersOk P s && (gosOk P s && (chansOk P s && waitsOk s)))) by rw [hr.out, hv, hR, show decide (1 ≤ s.count ∧ s.count ≤ 6) = true by simp; omega, Bool.true_and, Bool.true_and])
      clear hv hR hr
      obtain ⟨gp, hgpe⟩ : ∃ gp : Nat → Bool, gp = fun k : Nat => if (k : Int) < s.count then fits P (s.gos.getD k default) else decide (s.gos.getD k default = default) := ⟨_, rfl⟩
      have hgp0 := Lib.hid (fun k : Nat => show gp k = if (k : Int) < s.count then fits P (s.gos.getD k default) else decide (s.gos.getD k default = default) by rw [hgpe])
      have hG1 := Lib.hid (gos_yes hgp0.out)
      have hG0 := Lib.hid (gos_no hgp0.out)
      clear hgpe
      obtain ⟨cp, hcpe⟩ : ∃ cp : Nat → Bool, cp = fun k : Nat => if k < P.chans.length then chanOk P s k (s.chans.getD k default) else decide (s.chans.getD k default = default) := ⟨_, rfl⟩
      have hcp0 := Lib.hid (fun k : Nat => show cp k = if k < P.chans.length then chanOk P s k (s.chans.getD k default) else decide (s.chans.getD k default = default) by rw [hcpe])
      have hC1 := Lib.hid (chans_yes hcp0.out)
      have hC0 := Lib.hid (chans_no hcp0.out)
      clear hcpe
      generalize varsOk P s = bV at *
      generalize ownersOk P s = bO at *
      go_enter Tryd.func20, Tryd.ntmps20
      have E0 := ((Env.nil (w := w)).push w.heap.size rfl #[.slice P.va P.vars.length P.vcap, .int .i64 P.locks, .slice P.ha P.chans.length P.hcap, .slice P.fa P.funcs.length P.fcap] 41).push (w.heap.size + 1) (by simp) st 32
      generalize P.vars.length = nv at *
      generalize P.chans.length = nc at *
      go_wp2_with ((go_at_call 33; ((with_reducible refine (cR.out _ (by repeat (first | (with_reducible exact Below.refl _ _) | (with_reducible refine Below.drew ?_) | (with_reducible refine below_drewN ?_ _) | (with_reducible refine Below.alloc ?_ (by first | omega | (simp <;> omega)) _)))).mono ?_); rintro e w' ⟨rfl, hb1⟩)); have E1 := E0.next hb1; have y0 := E1.tl.h0.cell; have y1 := E1.h0.cell; have l0 := E1.tl.h0.lt; have l1 := E1.h0.lt; have lg := hLG.out _ _ y1; have lc := hLC.out _ _ y1)
      repeat (go_quiet (fail); go_wp2)
      go_loop [5, 6, 31] (fun a b i => ∃ j : Nat, j ≤ 8 ∧ i = .int .i64 j ∧ Hid (∀ q < j, q < nv ∨ X q = 0)) (fun a b i => 8 - (intOf i).toNat)
      case atStart => exact ⟨0, by omega, rfl, Lib.hid (fun q hq => by omega)⟩
      case round =>
        obtain ⟨j, hj, rfl, hz⟩ := hrel
        by_cases hj8 : j < 8
        · have hix := index8 #[.int .i64 (X 0), .int .i64 (X 1), .int .i64 (X 2), .int .i64 (X 3), .int .i64 (X 4), .int .i64 (X 5), .int .i64 (X 6), .int .i64 (X 7)] j hj8 (.int .i64 (X j)) (by match j, hj8 with | 0, _ | 1, _ | 2, _ | 3, _ | 4, _ | 5, _ | 6, _ | 7, _ => rfl)
          by_cases hc : nv ≤ j
          · skip
            have : decide ((nv : Int) ≤ j) = true := by first | (simp; done) | (simp; omega)
            have : decide (nv ≤ j) = true := by first | (simp; done) | (simp; omega)
            by_cases hv0 : X j = 0
            · have hvb : (X j != 0) = false := by simpa using hv0
              have hnx := Lib.hid (show ∀ q < j + 1, q < nv ∨ X q = 0 from fun q hq => by
                by_cases hqj : q < j
                · exact hz.out q hqj
                · obtain rfl : q = j := by omega
                  exact .inr hv0)
              clear hz
              go_wp2
              repeat (go_quiet (fail); go_wp2)
              go_round
              case rel => exact ⟨j + 1, by omega, by go_num, hnx⟩
              case measure => simp [intOf]; omega
            · have hvb : (X j != 0) = true := by simpa using hv0
              have hrv := Lib.hid (show r = false by rw [hrr.out, hV0.out j (by omega) (by omega) hv0, Bool.false_and])
              clear hV1 hV0 hO1 hO0 hrr hz hv0
              go_wp2
              repeat (go_quiet (fail); go_wp2)
              go_ret
              exact ⟨by first | rfl | (rw [hrv.out]; rfl), by have acc := E1.acc; have hsz := acc.size; repeat (first | assumption | (with_reducible exact Below.refl _ _) | (with_reducible refine Below.drew ?_) | (with_reducible refine below_drewN ?_ _) | (with_reducible refine Below.alloc ?_ (by first | omega | (simp <;> omega)) _))⟩
          · skip
            have : decide ((nv : Int) ≤ j) = false := by first | (simp; done) | (simp; omega)
            have : decide (nv ≤ j) = false := by first | (simp; done) | (simp; omega)
            have hnx := Lib.hid (show ∀ q < j + 1, q < nv ∨ X q = 0 from fun q hq => by
              by_cases hqj : q < j
              · exact hz.out q hqj
              · obtain rfl : q = j := by omega
                exact .inl (by omega))
            clear hz
            go_wp2
            repeat (go_quiet (fail); go_wp2)
            go_round
            case rel => exact ⟨j + 1, by omega, by go_num, hnx⟩
            case measure => simp [intOf]; omega
        · obtain rfl : j = 8 := by omega
          replace hrr := Lib.hid (show r = (bO && (gosOk P s && (chansOk P s && waitsOk s))) by rw [hrr.out, hV1.out hz.out, Bool.true_and])
          clear hV1 hV0 hz
          go_wp2
          repeat (go_quiet (fail); go_wp2)
          go_loop [7, 8, 47] (fun a b i => ∃ j : Nat, j ≤ 4 ∧ i = .int .i64 j ∧ Hid (∀ q < j, 0 ≤ O q ∧ O q ≤ s.count ∧ ((q : Int) < P.locks ∨ O q = 0))) (fun a b i => 4 - (intOf i).toNat)
          case atStart => exact ⟨0, by omega, rfl, Lib.hid (fun q hq => by omega)⟩
          case round =>
            obtain ⟨j, hj, rfl, hz⟩ := hrel
            by_cases hj4 : j < 4
            · have hix := index4 #[.int .i64 (O 0), .int .i64 (O 1), .int .i64 (O 2), .int .i64 (O 3)] j hj4 (.int .i64 (O j)) (by match j, hj4 with | 0, _ | 1, _ | 2, _ | 3, _ => rfl)
              rcases (show O j < 0 ∨ (0 ≤ O j ∧ s.count < O j) ∨ (0 ≤ O j ∧ O j ≤ s.count ∧ (j : Int) < P.locks) ∨ (0 ≤ O j ∧ O j ≤ s.count ∧ P.locks ≤ (j : Int) ∧ O j = 0) ∨ (0 ≤ O j ∧ O j ≤ s.count ∧ P.locks ≤ (j : Int) ∧ O j ≠ 0) by omega) with c | ⟨c, d⟩ | ⟨c, d, e⟩ | ⟨c, d, e, f⟩ | ⟨c, d, e, f⟩
              · skip
                have : decide (O j < 0) = true := by first | (simp; done) | (simp; omega)
                have hrv := Lib.hid (show r = false by rw [hrr.out, hO0.out j (by omega) (by omega), Bool.false_and])
                clear hO1 hO0 hrr hz
                go_wp2
                repeat (go_quiet (fail); go_wp2)
                go_ret
                exact ⟨by first | rfl | (rw [hrv.out]; rfl), by have acc := E1.acc; have hsz := acc.size; repeat (first | assumption | (with_reducible exact Below.refl _ _) | (with_reducible refine Below.drew ?_) | (with_reducible refine below_drewN ?_ _) | (with_reducible refine Below.alloc ?_ (by first | omega | (simp <;> omega)) _))⟩
              · skip
                have : decide (O j < 0) = false := by first | (simp; done) | (simp; omega)
                have : decide (s.count < O j) = true := by first | (simp; done) | (simp; omega)
                have hrv := Lib.hid (show r = false by rw [hrr.out, hO0.out j (by omega) (by omega), Bool.false_and])
                clear hO1 hO0 hrr hz
                go_wp2
                repeat (go_quiet (fail); go_wp2)
                go_ret
                exact ⟨by first | rfl | (rw [hrv.out]; rfl), by have acc := E1.acc; have hsz := acc.size; repeat (first | assumption | (with_reducible exact Below.refl _ _) | (with_reducible refine Below.drew ?_) | (with_reducible refine below_drewN ?_ _) | (with_reducible refine Below.alloc ?_ (by first | omega | (simp <;> omega)) _))⟩
              · skip
                have : decide (O j < 0) = false := by first | (simp; done) | (simp; omega)
                have : decide (s.count < O j) = false := by first | (simp; done) | (simp; omega)
                have : decide (P.locks ≤ (j : Int)) = false := by first | (simp; done) | (simp; omega)
                have hnx := Lib.hid (show ∀ q < j + 1, 0 ≤ O q ∧ O q ≤ s.count ∧ ((q : Int) < P.locks ∨ O q = 0) from fun q hq => by
                  by_cases hqj : q < j
                  · exact hz.out q hqj
                  · obtain rfl : q = j := by omega
                    exact ⟨c, d, .inl e⟩)
                clear hz
                go_wp2
                repeat (go_quiet (fail); go_wp2)
                go_round
                case rel => exact ⟨j + 1, by omega, by go_num, hnx⟩
                case measure => simp [intOf]; omega
              · skip
                have : decide (O j < 0) = false := by first | (simp; done) | (simp; omega)
                have : decide (s.count < O j) = false := by first | (simp; done) | (simp; omega)
                have : decide (P.locks ≤ (j : Int)) = true := by first | (simp; done) | (simp; omega)
                have hvb : (O j != 0) = false := by simpa using f
                have hnx := Lib.hid (show ∀ q < j + 1, 0 ≤ O q ∧ O q ≤ s.count ∧ ((q : Int) < P.locks ∨ O q = 0) from fun q hq => by
                  by_cases hqj : q < j
                  · exact hz.out q hqj
                  · obtain rfl : q = j := by omega
                    exact ⟨c, d, .inr f⟩)
                clear hz
                go_wp2
                repeat (go_quiet (fail); go_wp2)
                go_round
                case rel => exact ⟨j + 1, by omega, by go_num, hnx⟩
                case measure => simp [intOf]; omega
              · skip
                have : decide (O j < 0) = false := by first | (simp; done) | (simp; omega)
                have : decide (s.count < O j) = false := by first | (simp; done) | (simp; omega)
                have : decide (P.locks ≤ (j : Int)) = true := by first | (simp; done) | (simp; omega)
                have hvb : (O j != 0) = true := by simpa using f
                have hrv := Lib.hid (show r = false by rw [hrr.out, hO0.out j (by omega) (by omega), Bool.false_and])
                clear hO1 hO0 hrr hz
                go_wp2
                repeat (go_quiet (fail); go_wp2)
                go_ret
                exact ⟨by first | rfl | (rw [hrv.out]; rfl), by have acc := E1.acc; have hsz := acc.size; repeat (first | assumption | (with_reducible exact Below.refl _ _) | (with_reducible refine Below.drew ?_) | (with_reducible refine below_drewN ?_ _) | (with_reducible refine Below.alloc ?_ (by first | omega | (simp <;> omega)) _))⟩
            · obtain rfl : j = 4 := by omega
              replace hrr := Lib.hid (show r = (gosOk P s && (chansOk P s && waitsOk s)) by rw [hrr.out, hO1.out hz.out, Bool.true_and])
              clear hO1 hO0 hz
              go_wp2_with (refine list_load rfl _ _ rfl _ rfl _ lg ?_)
              repeat (go_quiet (fail); go_wp2)
              go_loopw [9, 10, 72] (fun a b i wr => ∃ j : Nat, j ≤ 6 ∧ i = .int .i64 j ∧ Env w [(w.heap.size + 1, st), (w.heap.size, #[.slice P.va nv P.vcap, .int .i64 P.locks, .slice P.ha nc P.hcap, .slice P.fa P.funcs.length P.fcap])] wr ∧ Hid (∀ q < j, gp q = true)) (fun a b i _ => 6 - (intOf i).toNat)
              case atStart => exact ⟨0, by omega, rfl, E1, Lib.hid (fun q hq => by omega)⟩
              case round =>
                clear E0 y0 y1 l0 l1 E1 hb1 cR lg lc
                obtain ⟨j, hj, rfl, E1, hz⟩ := hrel
                have y0 := E1.tl.h0.cell; have y1 := E1.h0.cell; have l0 := E1.tl.h0.lt; have l1 := E1.h0.lt; have z1 := E1.h0.fr
                have acc := E1.acc
                have hsz := acc.size
                by_cases hj6 : j < 6
                · have hix := fun W => hIG.out j hj6 W
                  have cQ := hF.out j
                  have hgo := hGo.out j hj6
                  have hgp := Lib.hid (hgp0.out j)
                  generalize s.gos.getD j default = g at *
                  obtain ⟨x0, x1, x2, x3, x4, x5, x6, x7, hrg⟩ := eight hgo.len
                  obtain ⟨gs, gf, gpc, gw, regs⟩ := g
                  simp only at hrg
                  subst hrg
                  unfold Gr.v Gr.cs at *
                  simp only [List.map_cons, List.map_nil, List.cons_append, List.nil_append] at *
                  by_cases hc : (j : Int) < s.count
                  · have d4 : decide (s.count ≤ (j : Int)) = false := by simp; omega
                    have d5 : decide ((j : Int) < s.count) = true := by simp; omega
                    have hgj := hgp.out
                    rw [if_pos hc] at hgj
                    have cQ' := Lib.hid (fun W hb => cQ W hj6 hb)
                    rw [← hgj] at cQ'
                    clear cQ hgj hgp
                    obtain ⟨bf, hbf⟩ : ∃ bf, Hid (bf = gp j) := ⟨_, Lib.hid rfl⟩
                    rw [← hbf.out] at cQ'
                    cases bf
                    · have hrv := Lib.hid (show r = false by rw [hrr.out, hG0.out j hj6 hbf.out.symm, Bool.false_and])
                      go_wp2_with ((go_at_call 38; ((with_reducible refine (cQ'.out _ (by repeat (first | assumption | (with_reducible exact Below.refl _ _) | (with_reducible refine Below.drew ?_) | (with_reducible refine below_drewN ?_ _) | (with_reducible refine Below.alloc ?_ (by first | omega | (simp <;> omega)) _)))).mono ?_); rintro e w' ⟨rfl, hb2⟩)))
                      repeat (go_quiet (fail); go_wp2)
                      have E2 := (E1.skip _).next hb2
                      go_ret
                      exact ⟨by first | rfl | (rw [hrv.out]; rfl), E2.acc⟩
                    · go_wp2_with ((go_at_call 38; ((with_reducible refine (cQ'.out _ (by repeat (first | assumption | (with_reducible exact Below.refl _ _) | (with_reducible refine Below.drew ?_) | (with_reducible refine below_drewN ?_ _) | (with_reducible refine Below.alloc ?_ (by first | omega | (simp <;> omega)) _)))).mono ?_); rintro e w' ⟨rfl, hb2⟩)))
                      repeat (go_quiet (fail); go_wp2)
                      have E2 := (E1.skip _).next hb2
                      refine ⟨⟨j + 1, by omega, by go_num, E2, Lib.hid (fun q hq => ?_)⟩, by simp [intOf]; omega⟩
                      by_cases hqj : q < j
                      · exact hz.out q hqj
                      · obtain rfl : q = j := by omega
                        exact hbf.out.symm
                  · have d4 : decide (s.count ≤ (j : Int)) = true := by simp; omega
                    have d5 : decide ((j : Int) < s.count) = false := by simp; omega
                    have hgj := hgp.out
                    rw [if_neg hc] at hgj
                    clear cQ hgp
                    rw [gr_default] at hgj
                    replace hgj := Lib.hid hgj
                    obtain ⟨be, hbe⟩ : ∃ be, Hid (be = decide (x0 = 0 ∧ x1 = 0 ∧ x2 = 0 ∧ x3 = 0 ∧ x4 = 0 ∧ x5 = 0 ∧ x6 = 0 ∧ x7 = 0)) := ⟨_, Lib.hid rfl⟩
                    have e8 := fun W => eq8_run 9997 x0 x1 x2 x3 x4 x5 x6 x7 W
                    simp only [← hbe.out, Nat.reduceAdd] at e8
                    cases be
                    · go_wp2
                      repeat (go_quiet (fail); go_wp2)
                      all_goals first
                        | (go_ret; exact ⟨by rw [show r = false by rw [hrr.out, hG0.out j hj6 (by rw [hgj.out]; exact decide_eq_false (by have hb := of_decide_eq_false hbe.out.symm; omega)), Bool.false_and]]; rfl, (E1.skip _).acc⟩)
                        | (refine ⟨⟨j + 1, by omega, by go_num, E1.skip _, Lib.hid (fun q hq => ?_)⟩, by simp [intOf]; omega⟩; by_cases hqj : q < j; (· exact hz.out q hqj); (· obtain rfl : q = j := (by omega); rw [hgj.out]; exact decide_eq_true (by have hb := of_decide_eq_false hbe.out.symm; omega)))
                    · go_wp2
                      repeat (go_quiet (fail); go_wp2)
                      all_goals first
                        | (go_ret; exact ⟨by rw [show r = false by rw [hrr.out, hG0.out j hj6 (by rw [hgj.out]; exact decide_eq_false (by have hb := of_decide_eq_true hbe.out.symm; omega)), Bool.false_and]]; rfl, (E1.skip _).acc⟩)
                        | (refine ⟨⟨j + 1, by omega, by go_num, E1.skip _, Lib.hid (fun q hq => ?_)⟩, by simp [intOf]; omega⟩; by_cases hqj : q < j; (· exact hz.out q hqj); (· obtain rfl : q = j := (by omega); rw [hgj.out]; exact decide_eq_true (by have hb := of_decide_eq_true hbe.out.symm; omega)))
                · obtain rfl : j = 6 := by omega
                  replace hrr := Lib.hid (show r = (chansOk P s && waitsOk s) by rw [hrr.out, hG1.out hz.out, Bool.true_and])
                  have hSt : Stand P s := ⟨h', fun k hk => by have h6 := hz.out k (by omega); rw [hgp0.out k, if_pos hk, fits_eq, Bool.and_eq_true] at h6; exact h6.1⟩
                  have hK2 := Lib.hid (fun k W hb => hK.out k W hb hSt)
                  clear hG1 hG0 hz hgp0 hF hK hSt
                  obtain ⟨wo, rfl⟩ : ∃ wo : World, wo = wr := ⟨_, rfl⟩
                  have E3 := E1.push wo.heap.size rfl #[.int .i64 0, .int .i64 0, .int .i64 0, .int .i64 0, .int .i64 0, .int .i64 0] 90
                  have lc := hLC.out _ _ E3.tl.h0.cell
                  go_wp2_with (refine list_load rfl _ _ rfl _ rfl _ lc ?_)
                  repeat (go_quiet (fail); go_wp2)
                  go_loopw [12, 13, 101] (fun a b i wq => ∃ j : Nat, j ≤ 4 ∧ i = .int .i64 j ∧ Env w ((wo.heap.size, #[.int .i64 (offs s j 0 : Nat), .int .i64 (offs s j 1 : Nat), .int .i64 (offs s j 2 : Nat), .int .i64 (offs s j 3 : Nat), .int .i64 (offs s j 4 : Nat), .int .i64 (offs s j 5 : Nat)]) :: [(w.heap.size + 1, st), (w.heap.size, #[.slice P.va nv P.vcap, .int .i64 P.locks, .slice P.ha nc P.hcap, .slice P.fa P.funcs.length P.fcap])]) wq ∧ Hid (∀ q < j, cp q = true)) (fun a b i _ => 4 - (intOf i).toNat)
                  case atStart => exact ⟨0, by omega, rfl, E3, Lib.hid (fun q hq => by omega)⟩
                  case round =>
                    have hwr := l1
                    clear E3 lc E1 y0 y1 l0 l1 z1 acc hsz
                    obtain ⟨j, hj, rfl, E4, hz⟩ := hrel
                    have y2 := E4.h0.cell; have y1 := E4.tl.h0.cell; have y0 := E4.tl.tl.h0.cell; have l2 := E4.h0.lt; have l1 := E4.tl.h0.lt; have l0 := E4.tl.tl.h0.lt; have z2 := E4.h0.fr
                    have acc := E4.acc
                    have hsz := acc.size
                    by_cases hj4 : j < 4
                    · have hix := fun W => hIC.out j hj4 W
                      obtain ⟨b0, b1, b2, b3, len, off, frm, val, cl, hx⟩ := hCk.out j hj4
                      have hcj := hcp0.out j
                      rw [hx] at hcj
                      simp only [hx] at hix
                      unfold Ch.v Ch.cs at hix
                      simp only [List.map_cons, List.map_nil, List.cons_append, List.nil_append] at hix
                      by_cases hc : nc ≤ j
                      · skip
                        have : decide ((nc : Int) ≤ j) = true := by first | (simp; done) | (simp; omega)
                        have : decide (nc ≤ j) = true := by first | (simp; done) | (simp; omega)
                        rw [if_neg (by omega), ch_default] at hcj
                        have hof := Lib.hid (fun g : Nat => show offs s (j + 1) g = offs s j g + if off ≠ 0 ∧ frm = (g : Int) then 1 else 0 by have h := offs_next hs j g hj4; rw [hx] at h; exact h)
                        clear hK2 hx
                        obtain ⟨be, hbe⟩ : ∃ be, Hid (be = decide (b0 = 0 ∧ b1 = 0 ∧ b2 = 0 ∧ b3 = 0)) := ⟨_, Lib.hid rfl⟩
                        have e4 := fun W => eq4_run 9997 b0 b1 b2 b3 W
                        simp only [← hbe.out, Nat.reduceAdd] at e4
                        rcases cl with _ | _
                        · simp only [Bool.false_eq_true, Bool.true_eq_false, true_and, and_true, and_false, false_and] at hcj
                          replace hcj := Lib.hid hcj
                          cases be
                          · go_wp2
                            repeat (go_quiet (fail); go_wp2)
                            all_goals first
                              | (go_ret; exact ⟨by rw [show r = false by rw [hrr.out, hC0.out j hj4 (by rw [hcj.out]; first | rfl | exact decide_eq_false (by have hb := of_decide_eq_false hbe.out.symm; omega) | exact decide_eq_false id), Bool.false_and]]; rfl, (E4.skip _).acc⟩)
                              | (refine ⟨⟨j + 1, by omega, by go_num, by have e : ∀ g : Nat, offs s (j + 1) g = offs s j g := (fun g => by rw [hof.out g, if_neg (by omega), Nat.add_zero]); simp only [e]; exact E4.skip _, Lib.hid (fun q hq => ?_)⟩, by simp [intOf]; omega⟩; by_cases hqj : q < j; (· exact hz.out q hqj); (· obtain rfl : q = j := (by omega); rw [hcj.out]; exact decide_eq_true (by have hb := of_decide_eq_false hbe.out.symm; omega)))
                          · go_wp2
                            repeat (go_quiet (fail); go_wp2)
                            all_goals first
                              | (go_ret; exact ⟨by rw [show r = false by rw [hrr.out, hC0.out j hj4 (by rw [hcj.out]; first | rfl | exact decide_eq_false (by have hb := of_decide_eq_true hbe.out.symm; omega) | exact decide_eq_false id), Bool.false_and]]; rfl, (E4.skip _).acc⟩)
                              | (refine ⟨⟨j + 1, by omega, by go_num, by have e : ∀ g : Nat, offs s (j + 1) g = offs s j g := (fun g => by rw [hof.out g, if_neg (by omega), Nat.add_zero]); simp only [e]; exact E4.skip _, Lib.hid (fun q hq => ?_)⟩, by simp [intOf]; omega⟩; by_cases hqj : q < j; (· exact hz.out q hqj); (· obtain rfl : q = j := (by omega); rw [hcj.out]; exact decide_eq_true (by have hb := of_decide_eq_true hbe.out.symm; omega)))
                        · simp only [Bool.false_eq_true, Bool.true_eq_false, true_and, and_true, and_false, false_and] at hcj
                          replace hcj := Lib.hid hcj
                          cases be
                          · go_wp2
                            repeat (go_quiet (fail); go_wp2)
                            all_goals first
                              | (go_ret; exact ⟨by rw [show r = false by rw [hrr.out, hC0.out j hj4 (by rw [hcj.out]; first | rfl | exact decide_eq_false (by have hb := of_decide_eq_false hbe.out.symm; omega) | exact decide_eq_false id), Bool.false_and]]; rfl, (E4.skip _).acc⟩)
                              | (refine ⟨⟨j + 1, by omega, by go_num, by have e : ∀ g : Nat, offs s (j + 1) g = offs s j g := (fun g => by rw [hof.out g, if_neg (by omega), Nat.add_zero]); simp only [e]; exact E4.skip _, Lib.hid (fun q hq => ?_)⟩, by simp [intOf]; omega⟩; by_cases hqj : q < j; (· exact hz.out q hqj); (· obtain rfl : q = j := (by omega); rw [hcj.out]; exact decide_eq_true (by have hb := of_decide_eq_false hbe.out.symm; omega)))
                          · go_wp2
                            repeat (go_quiet (fail); go_wp2)
                            all_goals first
                              | (go_ret; exact ⟨by rw [show r = false by rw [hrr.out, hC0.out j hj4 (by rw [hcj.out]; first | rfl | exact decide_eq_false (by have hb := of_decide_eq_true hbe.out.symm; omega) | exact decide_eq_false id), Bool.false_and]]; rfl, (E4.skip _).acc⟩)
                              | (refine ⟨⟨j + 1, by omega, by go_num, by have e : ∀ g : Nat, offs s (j + 1) g = offs s j g := (fun g => by rw [hof.out g, if_neg (by omega), Nat.add_zero]); simp only [e]; exact E4.skip _, Lib.hid (fun q hq => ?_)⟩, by simp [intOf]; omega⟩; by_cases hqj : q < j; (· exact hz.out q hqj); (· obtain rfl : q = j := (by omega); rw [hcj.out]; exact decide_eq_true (by have hb := of_decide_eq_true hbe.out.symm; omega)))
                      · have dn1 : decide ((nc : Int) ≤ j) = false := by first | (simp; done) | (simp; omega)
                        have dn2 : decide (nc ≤ j) = false := by first | (simp; done) | (simp; omega)
                        have hjn : j < nc := by omega
                        rw [if_pos hjn] at hcj
                        have cK := Lib.hid (fun W hb => hK2.out j W hb hjn hj4 (hCap.out j))
                        rw [hx, ← hcj] at cK
                        have hof := Lib.hid (fun g : Nat => show offs s (j + 1) g = offs s j g + if off ≠ 0 ∧ frm = (g : Int) then 1 else 0 by have h := offs_next hs j g hj4; rw [hx] at h; exact h)
                        have hoff := Lib.hid (fun (h : cp j = true) (h0 : off ≠ 0) => show 0 ≤ frm ∧ frm < s.count from chanOk_offer (hcj.symm.trans h) h0)
                        clear hK2 hx hcj
                        obtain ⟨bf, hbf⟩ : ∃ bf, Hid (bf = cp j) := ⟨_, Lib.hid rfl⟩
                        rw [← hbf.out] at cK
                        have B1 := E4.tl.h0; have B0 := E4.tl.tl.h0
                        cases bf
                        · have hrv := Lib.hid (show r = false by rw [hrr.out, hC0.out j hj4 hbf.out.symm, Bool.false_and])
                          go_wp2
                          repeat (go_quiet (fail); go_wp2)
                          refine load_state _ rfl _ rfl st h121.out (by repeat (first | assumption | (with_reducible exact Blk.new' _ _ _ _ (by first | rfl | (simp; done))) | (with_reducible refine Blk.drewN ?_ _) | (with_reducible refine Blk.drew ?_) | (with_reducible refine Blk.alloc ?_ _))) ?_
                          go_wp2_with ((go_at_call 39; ((with_reducible refine (cK.out _ (by repeat (first | assumption | (with_reducible exact Below.refl _ _) | (with_reducible refine Below.drew ?_) | (with_reducible refine below_drewN ?_ _) | (with_reducible refine Below.alloc ?_ (by first | omega | (simp <;> omega)) _)))).mono ?_); rintro e w' ⟨rfl, hb2⟩)); have E5 := (E4.push wr.heap.size rfl #[.int .i64 b0, .int .i64 b1, .int .i64 b2, .int .i64 b3, .int .i64 len, .bool cl, .int .i64 off, .int .i64 frm, .int .i64 val] 26).next hb2; skip)
                          go_ret
                          exact ⟨by first | rfl | (rw [hrv.out]; rfl), ((E4.skip _).next hb2).acc⟩
                        · by_cases ho : off = 0
                          · have hob : (off != 0) = false := by simpa using ho
                            have he := Lib.hid (fun g : Nat => show offs s (j + 1) g = offs s j g by rw [hof.out g, if_neg (by omega), Nat.add_zero])
                            clear hof hoff ho
                            go_wp2
                            repeat (go_quiet (fail); go_wp2)
                            refine load_state _ rfl _ rfl st h121.out (by repeat (first | assumption | (with_reducible exact Blk.new' _ _ _ _ (by first | rfl | (simp; done))) | (with_reducible refine Blk.drewN ?_ _) | (with_reducible refine Blk.drew ?_) | (with_reducible refine Blk.alloc ?_ _))) ?_
                            go_wp2_with ((go_at_call 39; ((with_reducible refine (cK.out _ (by repeat (first | assumption | (with_reducible exact Below.refl _ _) | (with_reducible refine Below.drew ?_) | (with_reducible refine below_drewN ?_ _) | (with_reducible refine Below.alloc ?_ (by first | omega | (simp <;> omega)) _)))).mono ?_); rintro e w' ⟨rfl, hb2⟩)); have E5 := (E4.push wr.heap.size rfl #[.int .i64 b0, .int .i64 b1, .int .i64 b2, .int .i64 b3, .int .i64 len, .bool cl, .int .i64 off, .int .i64 frm, .int .i64 val] 26).next hb2; have y3 := E5.h0.cell)
                            refine ⟨⟨j + 1, by omega, by go_num, by simp only [he.out]; exact E5.tl, Lib.hid (fun q hq => ?_)⟩, by simp [intOf]; omega⟩
                            by_cases hqj : q < j
                            · exact hz.out q hqj
                            · obtain rfl : q = j := by omega
                              exact hbf.out.symm
                          · have hob : (off != 0) = true := by simpa using ho
                            obtain ⟨hf0, hf1⟩ := hoff.out hbf.out.symm ho
                            obtain ⟨n, rfl⟩ : ∃ n : Nat, frm = n := ⟨frm.toNat, by omega⟩
                            have hn6 : n < 6 := by omega
                            have hle := offs_le s j n
                            have hset := Lib.hid (show (#[.int .i64 (offs s j 0 : Nat), .int .i64 (offs s j 1 : Nat), .int .i64 (offs s j 2 : Nat), .int .i64 (offs s j 3 : Nat), .int .i64 (offs s j 4 : Nat), .int .i64 (offs s j 5 : Nat)] : Array Value).setIfInBounds n (.int .i64 ((offs s j n : Nat) + 1)) = #[.int .i64 (offs s (j + 1) 0 : Nat), .int .i64 (offs s (j + 1) 1 : Nat), .int .i64 (offs s (j + 1) 2 : Nat), .int .i64 (offs s (j + 1) 3 : Nat), .int .i64 (offs s (j + 1) 4 : Nat), .int .i64 (offs s (j + 1) 5 : Nat)] by
                              match n, hn6 with
                              | 0, _ | 1, _ | 2, _ | 3, _ | 4, _ | 5, _ => simp [hof.out, ho])
                            have hat := Lib.hid (show (#[.int .i64 (offs s j 0 : Nat), .int .i64 (offs s j 1 : Nat), .int .i64 (offs s j 2 : Nat), .int .i64 (offs s j 3 : Nat), .int .i64 (offs s j 4 : Nat), .int .i64 (offs s j 5 : Nat)] : Array Value)[n]? = some (.int .i64 (offs s j n : Nat)) by
                              match n, hn6 with
                              | 0, _ | 1, _ | 2, _ | 3, _ | 4, _ | 5, _ => rfl)
                            clear hof hoff ho
                            go_wp2
                            repeat (go_quiet (fail); go_wp2)
                            refine load_state _ rfl _ rfl st h121.out (by repeat (first | assumption | (with_reducible exact Blk.new' _ _ _ _ (by first | rfl | (simp; done))) | (with_reducible refine Blk.drewN ?_ _) | (with_reducible refine Blk.drew ?_) | (with_reducible refine Blk.alloc ?_ _))) ?_
                            go_wp2_with ((go_at_call 39; ((with_reducible refine (cK.out _ (by repeat (first | assumption | (with_reducible exact Below.refl _ _) | (with_reducible refine Below.drew ?_) | (with_reducible refine below_drewN ?_ _) | (with_reducible refine Below.alloc ?_ (by first | omega | (simp <;> omega)) _)))).mono ?_); rintro e w' ⟨rfl, hb2⟩)); have E5 := (E4.push wr.heap.size rfl #[.int .i64 b0, .int .i64 b1, .int .i64 b2, .int .i64 b3, .int .i64 len, .bool cl, .int .i64 off, .int .i64 (n : Int), .int .i64 val] 26).next hb2; have y3 := E5.h0.cell; have yn := (E5.tl.h0.cell n).trans hat.out; have zn := E5.tl.h0.fr)
                            have E6 := E5.tl.set (by omega) (fun p hp => by simp only [List.mem_cons, List.not_mem_nil, or_false] at hp; rcases hp with rfl | rfl <;> (simp only; omega)) n (by simpa using hn6) (.int .i64 ((offs s j n : Nat) + 1))
                            rw [hset.out] at E6
                            refine ⟨⟨j + 1, by omega, by go_num, E6, Lib.hid (fun q hq => ?_)⟩, by simp [intOf]; omega⟩
                            by_cases hqj : q < j
                            · exact hz.out q hqj
                            · obtain rfl : q = j := by omega
                              exact hbf.out.symm
                    · obtain rfl : j = 4 := by omega
                      replace hrr := Lib.hid (show r = waitsOk s by rw [hrr.out, hC1.out hz.out, Bool.true_and])
                      simp only [offs_all hs] at E4
                      have hW1 := Lib.hid (waits_yes (s := s)); have hW0 := Lib.hid (waits_no (s := s))
                      have lg := hLG.out _ _ E4.tl.h0.cell
                      clear hC1 hC0 hz hcp0 hIC hCk hK2 hCap hLC
                      go_wp2_with (refine list_load rfl _ _ rfl _ rfl _ lg ?_)
                      repeat (go_quiet (fail); go_wp2)
                      go_loopw [14, 15, 130] (fun a b i wz => ∃ j : Nat, j ≤ 6 ∧ i = .int .i64 j ∧ Env w ((wo.heap.size, #[.int .i64 (offers s 0 : Nat), .int .i64 (offers s 1 : Nat), .int .i64 (offers s 2 : Nat), .int .i64 (offers s 3 : Nat), .int .i64 (offers s 4 : Nat), .int .i64 (offers s 5 : Nat)]) :: [(w.heap.size + 1, st), (w.heap.size, #[.slice P.va nv P.vcap, .int .i64 P.locks, .slice P.ha nc P.hcap, .slice P.fa P.funcs.length P.fcap])]) wz ∧ Hid (∀ q < j, (s.gos.getD q default).status ≠ 2 ∨ offers s q = 1)) (fun a b i _ => 6 - (intOf i).toNat)
                      case atStart => exact ⟨0, by omega, rfl, E4, Lib.hid (fun q hq => by omega)⟩
                      case round =>
                        clear E4 lg y0 y1 y2 l0 l1 l2 z2 acc hsz
                        obtain ⟨j, hj, rfl, E4, hz⟩ := hrel
                        by_cases hj6 : j < 6
                        · have hix := fun W => hIG.out j hj6 W
                          have hgo := hGo.out j hj6
                          have hyes := Lib.hid (fun (h : (s.gos.getD j default).status ≠ 2 ∨ offers s j = 1) q (hq : q < j + 1) => show (s.gos.getD q default).status ≠ 2 ∨ offers s q = 1 by
                            by_cases hqj : q < j
                            · exact hz.out q hqj
                            · obtain rfl : q = j := by omega
                              exact h)
                          have hno := Lib.hid (fun (h : (s.gos.getD j default).status = 2) (h' : offers s j ≠ 1) => show r = false by rw [hrr.out, hW0.out j hj6 h h'])
                          have hat := Lib.hid (show (#[.int .i64 (offers s 0 : Nat), .int .i64 (offers s 1 : Nat), .int .i64 (offers s 2 : Nat), .int .i64 (offers s 3 : Nat), .int .i64 (offers s 4 : Nat), .int .i64 (offers s 5 : Nat)] : Array Value)[j]? = some (.int .i64 (offers s j : Nat)) by
                            match j, hj6 with
                            | 0, _ | 1, _ | 2, _ | 3, _ | 4, _ | 5, _ => rfl)
                          have yn := (E4.h0.cell j).trans hat.out; have ln := E4.h0.lt
                          clear hz
                          generalize s.gos.getD j default = g at *
                          generalize offers s j = nf at *
                          obtain ⟨x0, x1, x2, x3, x4, x5, x6, x7, hrg⟩ := eight hgo.len
                          obtain ⟨gs, gf, gpc, gw, regs⟩ := g
                          simp only at hrg
                          subst hrg
                          simp only at hyes hno
                          unfold Gr.v Gr.cs at hix
                          simp only [List.map_cons, List.map_nil, List.cons_append, List.nil_append] at hix
                          by_cases h2 : gs = 2
                          · by_cases h1 : nf = 1
                            · have hb1 : (((nf : Nat) : Int) != 1) = false := by simpa using (by omega : (nf : Int) = 1)
                              have ho := hyes.out (.inr h1)
                              subst h2
                              replace h1 := Lib.hid h1
                              clear hno
                              go_wp2
                              repeat (go_quiet (fail); go_wp2)
                              refine ⟨⟨j + 1, by omega, by go_num, E4.skip _, Lib.hid (hyes.out (.inr h1.out))⟩, by simp [intOf]; omega⟩
                            · have hb1 : (((nf : Nat) : Int) != 1) = true := by simpa using (by omega : ¬ (nf : Int) = 1)
                              have hrv := Lib.hid (hno.out h2 h1)
                              subst h2
                              clear h1 hno hyes
                              go_wp2
                              repeat (go_quiet (fail); go_wp2)
                              go_ret
                              exact ⟨by first | rfl | (rw [hrv.out]; rfl), (E4.skip _).acc⟩
                          · have hb2 : (gs == 2) = false := by simpa using h2
                            replace h2 := Lib.hid h2
                            clear hno
                            go_wp2
                            repeat (go_quiet (fail); go_wp2)
                            refine ⟨⟨j + 1, by omega, by go_num, E4.skip _, Lib.hid (hyes.out (.inl h2.out))⟩, by simp [intOf]; omega⟩
                        · obtain rfl : j = 6 := by omega
                          have hrv := Lib.hid (show r = true by rw [hrr.out, hW1.out hz.out])
                          clear hz
                          go_wp2
                          repeat (go_quiet (fail); go_wp2)
                          go_ret
                          exact ⟨by first | rfl | (rw [hrv.out]; rfl), E4.acc⟩
  · have hRf : right P = false := by simpa using hR
    have hrv := Lib.hid (show r = false by rw [hr.out, hv, hRf, Bool.false_and])
    rw [hRf] at cR
    clear hv hR hr hRf hcnt
    generalize s.cs.toArray = st at *
    go_enter Tryd.func20, Tryd.ntmps20
    have E0 := ((Env.nil (w := w)).push w.heap.size rfl #[.slice P.va P.vars.length P.vcap, .int .i64 P.locks, .slice P.ha P.chans.length P.hcap, .slice P.fa P.funcs.length P.fcap] 41).push (w.heap.size + 1) (by simp) st 32
    go_wp2_with ((go_at_call 33; ((with_reducible refine (cR.out _ (by repeat (first | (with_reducible exact Below.refl _ _) | (with_reducible refine Below.drew ?_) | (with_reducible refine below_drewN ?_ _) | (with_reducible refine Below.alloc ?_ (by first | omega | (simp <;> omega)) _)))).mono ?_); rintro e w' ⟨rfl, hb1⟩)); have E1 := E0.next hb1; have y0 := E1.tl.h0.cell; have y1 := E1.h0.cell; have l0 := E1.tl.h0.lt; have l1 := E1.h0.lt)
    repeat (go_quiet (fail); go_wp2)
    go_ret
    exact ⟨by first | rfl | (rw [hrv.out]; rfl), by have acc := E1.acc; have hsz := acc.size; repeat (first | assumption | (with_reducible exact Below.refl _ _) | (with_reducible refine Below.drew ?_) | (with_reducible refine below_drewN ?_ _) | (with_reducible refine Below.alloc ?_ (by first | omega | (simp <;> omega)) _))⟩
end Go.Proofs.YtbcdeanmjhcgeaaDoor.Pg
