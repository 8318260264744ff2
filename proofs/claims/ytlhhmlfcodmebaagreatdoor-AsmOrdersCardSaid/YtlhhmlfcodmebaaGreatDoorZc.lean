/- Several texts of one proof, one behind the other. The reference's checker of programs, walked: all of it. | Is a program right: both answers, walked. -/
import Derived.Test.YtlhhmlfcodmebaaGreatDoorZR4
namespace Go.Proofs.YtlhhmlfcodmebaaGreatDoor.Pg
set_option linter.unusedVariables false
set_option linter.unusedSimpArgs false
open Go.ChangeShapes Go.WideShapes Go.RowKit
set_option linter.unusedVariables false
set_option maxHeartbeats 20000000 in
set_option maxRecDepth 100000 in
theorem rcheck_walk (P : Pg) (w : World) (I : P.In w) : Calls Tryz.prog 33 #[P.v] w fun e w' => (∃ v, e = .returned v ∧ chkV (chk P) v) ∧ Below w.heap.size w w' := by
  obtain ⟨r, hr⟩ : ∃ r, Hid (r = chk P) := ⟨_, Lib.hid rfl⟩
  rw [← hr.out]
  have hlv := I.lenV
  have hlh := I.lenH
  have hlf := I.lenF
  unfold Len at hlv hlh hlf
  by_cases h : P.vars.length ≤ 8 ∧ 0 ≤ P.locks ∧ P.locks ≤ 4 ∧ P.chans.length ≤ 4 ∧ 1 ≤ P.funcs.length ∧ P.funcs.length ≤ 8
  rotate_left
  · have hrv := Lib.hid (show r = 30 by rw [hr.out]; unfold chk whole; rw [if_neg h]; rfl)
    clear hr
    unfold Pg.v
    go_enter Tryz.func33, Tryz.ntmps33
    have E0 := ((Env.nil (w := w)).push w.heap.size rfl #[.slice P.va P.vars.length P.vcap, .int .i64 P.locks, .slice P.ha P.chans.length P.hcap, .slice P.fa P.funcs.length P.fcap] 26).push (w.heap.size + 1) (by simp) #[.int .i64 0, .int .i64 0] 69
    have y1 := E0.h0.cell; have z1 := E0.h0.fr
    go_wp2
    all_goals first
      | (exfalso; omega)
      | skip
    all_goals refine bodyPost_ret (v := .tuple #[.int .i64 30, .agg #[.int .i64 0, .int .i64 0]]) (by simp [results, Tryz.results33, go_sem]) rfl ⟨⟨_, rfl, by rw [hrv.out]; exact ⟨_, _, rfl⟩⟩, by repeat (first | assumption | (with_reducible exact Below.refl _ _) | (with_reducible refine Below.drew ?_) | (with_reducible refine below_drewN ?_ _) | (with_reducible refine Below.alloc ?_ (by first | omega | (simp <;> omega)) _) | (with_reducible refine Below.setCell ?_ (by simp only; omega) _))⟩
  have hw := Lib.hid (show r = if P.chans.all cap4 = true then fncs P (((0 : Nat) : Int) == 0) (P.funcs.drop 0) else 31 by
    rw [hr.out]; unfold chk whole; rw [if_pos h]
    show (if (if P.chans.all cap4 = true then 0 else 31 : Int) = 0 then fncs P true P.funcs else (if P.chans.all cap4 = true then 0 else 31)) = _
    cases P.chans.all cap4 <;> rfl)
  have cS := Lib.hid (fun f m W (J : Fn.In W f) => formed_walk f m W J)
  have cL := Lib.hid (fun f W (I' : P.In W) (J : Fn.In W f) => rselects_walk P f W I' J)
  obtain ⟨h1, h2, h3, h4, h5, h6⟩ := h
  unfold Pg.v at *
  unfold Fn.v at cS cL
  clear hr
  go_enter Tryz.func33, Tryz.ntmps33
  have E0 := ((Env.nil (w := w)).push w.heap.size rfl #[.slice P.va P.vars.length P.vcap, .int .i64 P.locks, .slice P.ha P.chans.length P.hcap, .slice P.fa P.funcs.length P.fcap] 26).push (w.heap.size + 1) (by simp) #[.int .i64 0, .int .i64 0] 69
  go_wp2
  go_loopw [48] (fun i wr => ∃ k : Nat, k ≤ P.chans.length ∧ i = .int .i64 k ∧ Env w [(w.heap.size + 1, #[.int .i64 0, .int .i64 0]), (w.heap.size, #[.slice P.va P.vars.length P.vcap, .int .i64 P.locks, .slice P.ha P.chans.length P.hcap, .slice P.fa P.funcs.length P.fcap])] wr ∧ Hid (r = if (P.chans.drop k).all cap4 = true then fncs P (((0 : Nat) : Int) == 0) (P.funcs.drop 0) else 31)) (fun i _ => P.chans.length - (intOf i).toNat)
  case atStart => exact ⟨0, by omega, rfl, by first | exact E0 | exact E0.drewN _, hw⟩
  case round =>
    clear E0 hw
    obtain ⟨k, hk, rfl, E1, hq⟩ := hrel
    have y1 := E1.h0.cell; have l1 := E1.h0.lt; have z1 := E1.h0.fr; have yp := E1.tl.h0.cell; have lp := E1.tl.h0.lt; have acc := E1.acc; have hsz := acc.size
    by_cases hkl : k < P.chans.length
    · obtain ⟨hb, ho, hha, hhl, hH⟩ := I.chan (by omega)
      have z0 := hH k P.chans[k] (by simp)
      have hd := all_drop cap4 P.chans k hkl
      rw [← acc.cell (by simpa using hhl)] at z0
      have hhl' := Nat.lt_of_lt_of_le hhl acc.size
      clear hH
      rw [hd] at hq
      generalize P.chans[k] = z at *
      rw [hha]
      by_cases hz : 0 ≤ z ∧ z ≤ 4
      · have hc : cap4 z = true := by unfold cap4; simpa using hz
        rw [hc, Bool.true_and] at hq
        obtain ⟨z1, z2⟩ := hz
        clear hc hd
        go_wp2
        all_goals first
          | (exfalso; omega)
          | (go_roundw
             case rel => exact ⟨k + 1, by omega, by go_num, by first | exact E1 | (rw [← hha]; exact E1), hq⟩
             case measure => simp [intOf]; omega)
      · have hc : cap4 z = false := by unfold cap4; simpa using hz
        rw [hc, Bool.false_and] at hq
        have hrv := Lib.hid (show r = 31 from hq.out)
        clear hc hd hq
        go_wp2
        all_goals first
          | (exfalso; omega)
          | skip
        all_goals refine bodyPost_ret (v := .tuple #[.int .i64 31, .agg #[.int .i64 0, .int .i64 0]]) (by simp [results, Tryz.results33, go_sem, y1]) rfl ⟨⟨_, rfl, by rw [hrv.out]; exact ⟨_, _, rfl⟩⟩, by repeat (first | assumption | (with_reducible exact Below.refl _ _) | (with_reducible refine Below.drew ?_) | (with_reducible refine below_drewN ?_ _) | (with_reducible refine Below.alloc ?_ (by first | omega | (simp <;> omega)) _) | (with_reducible refine Below.setCell ?_ (by simp only; omega) _))⟩
    · rw [List.drop_eq_nil_of_le (by omega)] at hq
      have hq := Lib.hid (show r = fncs P (((0 : Nat) : Int) == 0) (P.funcs.drop 0) from hq.out)
      go_wp2
      go_loopw [63] (fun i wr => ∃ k : Nat, k ≤ P.funcs.length ∧ i = .int .i64 k ∧ Env w [(w.heap.size + 1, #[.int .i64 0, .int .i64 0]), (w.heap.size, #[.slice P.va P.vars.length P.vcap, .int .i64 P.locks, .slice P.ha P.chans.length P.hcap, .slice P.fa P.funcs.length P.fcap])] wr ∧ Hid (r = fncs P ((k : Int) == 0) (P.funcs.drop k))) (fun i _ => P.funcs.length - (intOf i).toNat)
      case atStart => exact ⟨0, by omega, rfl, by first | exact E1 | exact E1.drewN _, hq⟩
      case round =>
        clear E1 hq y1 l1 z1 yp lp acc hsz
        obtain ⟨wo, hwo⟩ : ∃ wo : World, wo = wr := ⟨_, rfl⟩
        subst hwo
        obtain ⟨k, hk, rfl, E1, hq⟩ := hrel
        have y1 := E1.h0.cell; have l1 := E1.h0.lt; have z1 := E1.h0.fr; have yp := E1.tl.h0.cell; have lp := E1.tl.h0.lt; have acc := E1.acc; have hsz := acc.size
        by_cases hkl : k < P.funcs.length
        · obtain ⟨fb, fo, hfa, hfl, hF⟩ := I.func (by omega)
          have s0 := hF k P.funcs[k] (by simp) 0 _ rfl
          have s1 := hF k P.funcs[k] (by simp) 1 _ rfl
          have s2 := hF k P.funcs[k] (by simp) 2 _ rfl
          have s3 := hF k P.funcs[k] (by simp) 3 _ rfl
          have J := I.funcs P.funcs[k] (List.getElem_mem _)
          have hfd := fncs_drop P P.funcs k hkl
          generalize P.funcs[k] = f at *
          rw [← acc.cell (by simpa using hfl)] at s0 s1 s2 s3
          have hfl' := Nat.lt_of_lt_of_le hfl acc.size
          simp only [Nat.add_zero] at s0
          rw [hfd] at hq
          clear hF hfd
          rw [hfa]
          have hfa' := Lib.hid hfa
          clear hfa
          have cS' := Lib.hid (fun W (hb : Below w.heap.size w W) => cS.out f (k : Int) W (J.below hb))
          have cL' := Lib.hid (fun W (hb : Below w.heap.size w W) => cL.out f W (I.below hb) (J.below hb))
          clear cS
          by_cases hs : szs f ((k : Int) == 0) = true
          rotate_left
          · have hs' : szs f ((k : Int) == 0) = false := by simpa using hs
            have hrv := Lib.hid (show r = 32 by rw [hq.out, show fnc P f ((k : Int) == 0) = 32 from if_neg hs]; rfl)
            rw [hs'] at cS'
            clear hs hs' hq
            go_wp2_with ((go_at_call 61; ((with_reducible refine (cS'.out _ (by repeat (first | assumption | (with_reducible exact Below.refl _ _) | (with_reducible refine Below.drew ?_) | (with_reducible refine below_drewN ?_ _) | (with_reducible refine Below.alloc ?_ (by first | omega | (simp <;> omega)) _) | (with_reducible refine Below.setCell ?_ (by simp only; omega) _)))).mono ?_); rintro e w' ⟨rfl, hb1⟩)); have E2 := (E1.push _ rfl _ _).next hb1; have yf := E2.h0.cell; have lf := E2.h0.lt; have y1 := E2.tl.h0.cell; have l1 := E2.tl.h0.lt; have z1 := E2.tl.h0.fr; have yp := E2.tl.tl.h0.cell; have lp := E2.tl.tl.h0.lt; have acc := E2.acc; have hsz := acc.size)
            refine bodyPost_ret (v := .tuple #[.int .i64 (32), .agg #[.int .i64 k, .int .i64 0]]) (by simp [results, Tryz.results33, go_sem, y1]) rfl ⟨⟨_, rfl, by rw [hrv.out]; exact ⟨_, _, rfl⟩⟩, by have acc := E2.acc; have hsz := acc.size; repeat (first | assumption | (with_reducible exact Below.refl _ _) | (with_reducible refine Below.drew ?_) | (with_reducible refine below_drewN ?_ _) | (with_reducible refine Below.alloc ?_ (by first | omega | (simp <;> omega)) _) | (with_reducible refine Below.setCell ?_ (by simp only; omega) _))⟩
          have hr : 0 ≤ f.regs ∧ f.regs ≤ 8 := by unfold szs at hs; simp at hs; omega
          have hcl : 1 ≤ f.code.length := by unfold szs at hs; simp at hs; omega
          rw [hs] at cS'
          have hq' := Lib.hid (show r = if fnc P f ((k : Int) == 0) = 0 then fncs P (((k + 1 : Nat) : Int) == 0) (P.funcs.drop (k + 1)) else fnc P f ((k : Int) == 0) from hq.out)
          have hfn' := Lib.hid (show fnc P f ((k : Int) == 0) = if firstE (sel P f) f.sels = 0 then (if firstE (ins P f) f.code = 0 then (if lastOp f = 42 ∨ lastOp f = 45 ∨ lastOp f = 61 then 0 else 39) else firstE (ins P f) f.code) else firstE (sel P f) f.sels from if_pos hs)
          have cI := Lib.hid (fun x W (hb : Below w.heap.size w W) (hx : x.ok) => rinstr_walk x P f W (I.below hb) (J.below hb) hr hx)
          unfold Ins.v Pg.v Fn.v at cI
          have hlc := J.lenC
          unfold Len at hlc
          clear hq hs hr cL
          by_cases hse : firstE (sel P f) f.sels = 0
          rotate_left
          · have hrv := Lib.hid (show r = firstE (sel P f) f.sels by rw [hq'.out, hfn'.out, if_neg hse, if_neg hse])
            have hsb : (firstE (sel P f) f.sels != 0) = true := by simpa using hse
            clear hse
            go_wp2_with (first
              | (go_at_call 61; ((with_reducible refine (cS'.out _ (by repeat (first | assumption | (with_reducible exact Below.refl _ _) | (with_reducible refine Below.drew ?_) | (with_reducible refine below_drewN ?_ _) | (with_reducible refine Below.alloc ?_ (by first | omega | (simp <;> omega)) _) | (with_reducible refine Below.setCell ?_ (by simp only; omega) _)))).mono ?_); rintro e w' ⟨rfl, hb1⟩)); have E2 := (E1.push _ rfl _ _).next hb1; have yf := E2.h0.cell; have lf := E2.h0.lt; have y1 := E2.tl.h0.cell; have l1 := E2.tl.h0.lt; have z1 := E2.tl.h0.fr; have yp := E2.tl.tl.h0.cell; have lp := E2.tl.tl.h0.lt; have acc := E2.acc; have hsz := acc.size
              | (go_at_call 62; ((with_reducible refine (cL'.out _ (by repeat (first | assumption | (with_reducible exact Below.refl _ _) | (with_reducible refine Below.drew ?_) | (with_reducible refine below_drewN ?_ _) | (with_reducible refine Below.alloc ?_ (by first | omega | (simp <;> omega)) _) | (with_reducible refine Below.setCell ?_ (by simp only; omega) _)))).mono ?_); rintro e w' ⟨rfl, hb2⟩)); have E3 := E2.next hb2; have yf := E3.h0.cell; have lf := E3.h0.lt; have y1 := E3.tl.h0.cell; have l1 := E3.tl.h0.lt; have z1 := E3.tl.h0.fr; have yp := E3.tl.tl.h0.cell; have lp := E3.tl.tl.h0.lt; have acc := E3.acc; have hsz := acc.size)
            refine bodyPost_ret (v := .tuple #[.int .i64 (firstE (sel P f) f.sels), .agg #[.int .i64 k, .int .i64 0]]) (by simp [results, Tryz.results33, go_sem, y1]) rfl ⟨⟨_, rfl, by rw [hrv.out]; exact ⟨_, _, rfl⟩⟩, by repeat (first | assumption | (with_reducible exact Below.refl _ _) | (with_reducible refine Below.drew ?_) | (with_reducible refine below_drewN ?_ _) | (with_reducible refine Below.alloc ?_ (by first | omega | (simp <;> omega)) _) | (with_reducible refine Below.setCell ?_ (by simp only; omega) _))⟩
          rw [hse] at cL'
          obtain ⟨q, hqi⟩ : ∃ q, Hid (q = firstE (ins P f) f.code) := ⟨_, Lib.hid rfl⟩
          have hq2 := Lib.hid (show r = if (if q = 0 then (if lastOp f = 42 ∨ lastOp f = 45 ∨ lastOp f = 61 then 0 else 39 : Int) else q) = 0 then fncs P (((k + 1 : Nat) : Int) == 0) (P.funcs.drop (k + 1)) else (if q = 0 then (if lastOp f = 42 ∨ lastOp f = 45 ∨ lastOp f = 61 then 0 else 39) else q) by
            rw [hq'.out, hfn'.out, if_pos hse, ← hqi.out])
          clear hse hq' hfn'
          go_wp2_with (first
            | (go_at_call 61; ((with_reducible refine (cS'.out _ (by repeat (first | assumption | (with_reducible exact Below.refl _ _) | (with_reducible refine Below.drew ?_) | (with_reducible refine below_drewN ?_ _) | (with_reducible refine Below.alloc ?_ (by first | omega | (simp <;> omega)) _) | (with_reducible refine Below.setCell ?_ (by simp only; omega) _)))).mono ?_); rintro e w' ⟨rfl, hb1⟩)); have E2 := (E1.push _ rfl _ _).next hb1; have yf := E2.h0.cell; have lf := E2.h0.lt; have y1 := E2.tl.h0.cell; have l1 := E2.tl.h0.lt; have z1 := E2.tl.h0.fr; have yp := E2.tl.tl.h0.cell; have lp := E2.tl.tl.h0.lt; have acc := E2.acc; have hsz := acc.size
            | (go_at_call 62; ((with_reducible refine (cL'.out _ (by repeat (first | assumption | (with_reducible exact Below.refl _ _) | (with_reducible refine Below.drew ?_) | (with_reducible refine below_drewN ?_ _) | (with_reducible refine Below.alloc ?_ (by first | omega | (simp <;> omega)) _) | (with_reducible refine Below.setCell ?_ (by simp only; omega) _)))).mono ?_); rintro e w' ⟨rfl, hb2⟩)); have E3 := E2.next hb2; have yf := E3.h0.cell; have lf := E3.h0.lt; have y1 := E3.tl.h0.cell; have l1 := E3.tl.h0.lt; have z1 := E3.tl.h0.fr; have yp := E3.tl.tl.h0.cell; have lp := E3.tl.tl.h0.lt; have acc := E3.acc; have hsz := acc.size)
          go_loopw [85] (fun j wi => ∃ m : Nat, m ≤ f.code.length ∧ j = .int .i64 m ∧ Env w [(wo.heap.size, #[.int .i64 f.params, .int .i64 f.regs, .slice f.ca f.code.length f.ccap, .slice f.sa f.sels.length f.scap]), (w.heap.size + 1, #[.int .i64 0, .int .i64 0]), (w.heap.size, #[.slice P.va P.vars.length P.vcap, .int .i64 P.locks, .slice P.ha P.chans.length P.hcap, .slice P.fa P.funcs.length P.fcap])] wi ∧ Hid (firstE (ins P f) (f.code.drop m) = q)) (fun j _ => f.code.length - (intOf j).toNat)
          case atStart => exact ⟨0, by omega, rfl, E3, Lib.hid hqi.out.symm⟩
          case round =>
            clear E3 E1 y1 l1 z1 yp lp acc hsz yf lf
            obtain ⟨m, hm, rfl, E4, hqm⟩ := hrel
            have yf := E4.h0.cell; have lf := E4.h0.lt; have y1 := E4.tl.h0.cell; have l1 := E4.tl.h0.lt; have z1 := E4.tl.h0.fr; have yp := E4.tl.tl.h0.cell; have lp := E4.tl.tl.h0.lt; have acc := E4.acc; have hsz := acc.size
            by_cases hml : m < f.code.length
            · obtain ⟨cb, co, hca, hcbl, hC⟩ := J.ins (by omega)
              have t0 := hC m f.code[m] (by simp) 0 _ rfl
              have t1 := hC m f.code[m] (by simp) 1 _ rfl
              have t2 := hC m f.code[m] (by simp) 2 _ rfl
              have t3 := hC m f.code[m] (by simp) 3 _ rfl
              have t4 := hC m f.code[m] (by simp) 4 _ rfl
              have hox := J.oks f.code[m] (List.getElem_mem _)
              have hid := firstE_drop (ins P f) f.code m hml
              generalize f.code[m] = x at *
              rw [← acc.cell (by simpa using hcbl)] at t0 t1 t2 t3 t4
              have hcbl' := Nat.lt_of_lt_of_le hcbl acc.size
              simp only [Nat.add_zero] at t0
              rw [hid] at hqm
              clear hC hid
              have hqm' := Lib.hid hqm.out.symm
              clear hqm
              rw [hca] at E4 yf cI ⊢
              have hca' := Lib.hid hca
              clear hca
              by_cases hx0 : ins P f x = 0
              · have hqn := Lib.hid (show q = firstE (ins P f) (f.code.drop (m + 1)) by rw [hqm'.out, if_pos hx0])
                go_wp2_with ((go_at_call 63; ((with_reducible refine (cI.out x _ (by repeat (first | assumption | (with_reducible exact Below.refl _ _) | (with_reducible refine Below.drew ?_) | (with_reducible refine below_drewN ?_ _) | (with_reducible refine Below.alloc ?_ (by first | omega | (simp <;> omega)) _) | (with_reducible refine Below.setCell ?_ (by simp only; omega) _))) hox).mono ?_); rintro e w' ⟨rfl, hb3⟩)); have E5 := (E4.skip _).next hb3; have yf := E5.h0.cell; have lf := E5.h0.lt; have y1 := E5.tl.h0.cell; have l1 := E5.tl.h0.lt; have z1 := E5.tl.h0.fr; have yp := E5.tl.tl.h0.cell; have lp := E5.tl.tl.h0.lt; have acc := E5.acc; have hsz := acc.size)
                go_roundw
                case rel => first | exact ⟨m + 1, by omega, by go_num, by rw [← hca'.out] at E5 ⊢; exact E5, Lib.hid hqn.out.symm⟩ | ((repeat apply Exists.intro); exact ⟨⟨m + 1, by omega, by go_num, by rw [← hca'.out] at E5 ⊢; exact E5, Lib.hid hqn.out.symm⟩, rfl⟩)
                case measure => simp [intOf]; omega
              · have hqn : q = ins P f x := by rw [hqm'.out, if_neg hx0]
                have hrv := Lib.hid (show r = ins P f x by rw [hq2.out, if_neg (by rw [if_neg (by rw [hqn]; exact hx0), hqn]; exact hx0), if_neg (by rw [hqn]; exact hx0), hqn])
                have hxb : (ins P f x != 0) = true := by simpa using hx0
                clear hqn hx0
                go_wp2_with ((go_at_call 63; ((with_reducible refine (cI.out x _ (by repeat (first | assumption | (with_reducible exact Below.refl _ _) | (with_reducible refine Below.drew ?_) | (with_reducible refine below_drewN ?_ _) | (with_reducible refine Below.alloc ?_ (by first | omega | (simp <;> omega)) _) | (with_reducible refine Below.setCell ?_ (by simp only; omega) _))) hox).mono ?_); rintro e w' ⟨rfl, hb3⟩)); have E5 := (E4.skip _).next hb3; have yf := E5.h0.cell; have lf := E5.h0.lt; have y1 := E5.tl.h0.cell; have l1 := E5.tl.h0.lt; have z1 := E5.tl.h0.fr; have yp := E5.tl.tl.h0.cell; have lp := E5.tl.tl.h0.lt; have acc := E5.acc; have hsz := acc.size)
                refine bodyPost_ret (v := .tuple #[.int .i64 (ins P f x), .agg #[.int .i64 k, .int .i64 m]]) (by simp [results, Tryz.results33, go_sem, y1]) rfl ⟨⟨_, rfl, by rw [hrv.out]; exact ⟨_, _, rfl⟩⟩, by have acc := E5.acc; have hsz := acc.size; repeat (first | assumption | (with_reducible exact Below.refl _ _) | (with_reducible refine Below.drew ?_) | (with_reducible refine below_drewN ?_ _) | (with_reducible refine Below.alloc ?_ (by first | omega | (simp <;> omega)) _) | (with_reducible refine Below.setCell ?_ (by simp only; omega) _))⟩
            · have hq0 : q = 0 := by rw [← hqm.out]; exact firstE_end _ _ _ (by omega)
              obtain ⟨L, hL⟩ : ∃ L : Nat, f.code.length = L + 1 := ⟨f.code.length - 1, by omega⟩
              have hLl : L < f.code.length := by omega
              obtain ⟨cb, co, hca, hcbl, hC⟩ := J.ins (by omega)
              have t0 := hC L f.code[L] (by simp) 0 _ rfl
              rw [← acc.cell (by simpa using hcbl)] at t0
              have hcbl' := Nat.lt_of_lt_of_le hcbl acc.size
              simp only [Nat.add_zero] at t0
              have hlo : lastOp f = f.code[L].op := by unfold lastOp; rw [show f.code.length - 1 = L by omega]; simp [hLl]
              have hq3 : r = if (if f.code[L].op = 42 ∨ f.code[L].op = 45 ∨ f.code[L].op = 61 then 0 else 39 : Int) = 0 then fncs P (((k + 1 : Nat) : Int) == 0) (P.funcs.drop (k + 1)) else (if f.code[L].op = 42 ∨ f.code[L].op = 45 ∨ f.code[L].op = 61 then 0 else 39) := by
                have h := hq2.out
                simp only [hq0, ↓reduceIte, hlo] at h
                exact h
              generalize f.code[L] = x at *
              generalize x.op = o at *
              have hq3' := Lib.hid hq3
              clear hq3 hlo hC hq2 hqm hq0
              have hLi : ((f.code.length : Nat) : Int) = (L : Int) + 1 := by omega
              rw [hca] at yf
              clear hca
              by_cases ho : o = 42 ∨ o = 45 ∨ o = 61
              · have hqn := Lib.hid (show r = fncs P (((k + 1 : Nat) : Int) == 0) (P.funcs.drop (k + 1)) by rw [hq3'.out, if_pos ho, if_pos rfl])
                rcases ho with rfl | rfl | rfl
                all_goals (go_wp2; (try (go_quiet (fail); go_wp2)))
                all_goals go_roundw
                all_goals first
                  | exact ⟨k + 1, by omega, by go_num, by rw [← hfa'.out]; exact (E4.tl.drewN _), Lib.hid hqn.out⟩
                  | exact ⟨k + 1, by omega, by go_num, by rw [← hfa'.out]; exact E4.tl, Lib.hid hqn.out⟩
                  | (simp [intOf]; omega)
                  | ((repeat apply Exists.intro); exact ⟨⟨k + 1, by omega, by go_num, by rw [← hfa'.out]; first | exact E4.tl | exact (E4.tl.drewN _), Lib.hid hqn.out⟩, rfl⟩)
              · have hrv := Lib.hid (show r = 39 by rw [hq3'.out, if_neg ho]; rfl)
                have b1 : (o != 42) = true := by simp; omega
                have b2 : (o != 45) = true := by simp; omega
                have b3 : (o != 61) = true := by simp; omega
                go_wp2
                repeat (go_quiet (fail); go_wp2)
                go_region
                all_goals go_wp2
                all_goals refine bodyPost_ret (v := .tuple #[.int .i64 (39), .agg #[.int .i64 k, .int .i64 L]]) (by simp [results, Tryz.results33, go_sem, y1]) rfl ⟨⟨_, rfl, by rw [hrv.out]; exact ⟨_, _, rfl⟩⟩, by have acc := E4.acc; have hsz := acc.size; repeat (first | assumption | (with_reducible exact Below.refl _ _) | (with_reducible refine Below.drew ?_) | (with_reducible refine below_drewN ?_ _) | (with_reducible refine Below.alloc ?_ (by first | omega | (simp <;> omega)) _) | (with_reducible refine Below.setCell ?_ (by simp only; omega) _))⟩
        · rw [List.drop_eq_nil_of_le (by omega)] at hq
          have hrv := Lib.hid (show r = 0 from hq.out)
          clear hq
          go_wp2
          refine bodyPost_ret (v := .tuple #[.int .i64 (0), .agg #[.int .i64 0, .int .i64 0]]) (by simp [results, Tryz.results33, go_sem, y1]) rfl ⟨⟨_, rfl, by rw [hrv.out]; exact ⟨_, _, rfl⟩⟩, by have acc := E1.acc; have hsz := acc.size; repeat (first | assumption | (with_reducible exact Below.refl _ _) | (with_reducible refine Below.drew ?_) | (with_reducible refine below_drewN ?_ _) | (with_reducible refine Below.alloc ?_ (by first | omega | (simp <;> omega)) _) | (with_reducible refine Below.setCell ?_ (by simp only; omega) _))⟩
end Go.Proofs.YtlhhmlfcodmebaaGreatDoor.Pg
namespace Go.Proofs.YtlhhmlfcodmebaaGreatDoor.Pg
set_option linter.unusedVariables false
set_option linter.unusedSimpArgs false
open Go.ChangeShapes Go.WideShapes Go.RowKit
set_option linter.unusedVariables false
set_option maxHeartbeats 4000000 in
set_option maxRecDepth 100000 in
theorem rright_walk (P : Pg) (w : World) (I : P.In w) : Calls Tryz.prog 16 #[P.v] w fun e w' => e = .returned (.bool (right P)) ∧ Below w.heap.size w w' := by
  have cK := Lib.hid (fun W (hb : Below w.heap.size w W) => rcheck_walk P W (I.below hb))
  obtain ⟨r, hr⟩ : ∃ r, Hid (r = right P) := ⟨_, Lib.hid rfl⟩
  rw [← hr.out]
  have hc := Lib.hid (show r = (chk P == 0) from hr.out)
  generalize chk P = n at *
  clear hr
  unfold Pg.v at *
  go_enter Tryz.func16, Tryz.ntmps16
  go_wp2_with (go_at_call 33; ((with_reducible refine (cK.out _ (by repeat (first | (with_reducible exact Below.refl _ _) | (with_reducible refine Below.drew ?_) | (with_reducible refine below_drewN ?_ _) | (with_reducible refine Below.alloc ?_ (by first | omega | (simp <;> omega)) _)))).mono ?_); rintro e w' ⟨⟨v, rfl, a, b, rfl⟩, hb1⟩))
  go_ret
  exact ⟨by rw [hc.out]; rfl, Env.acc (bs := []) (by repeat (first | exact ((Env.nil.skip _).next hb1) | (with_reducible refine Env.drewN ?_ _) | (with_reducible refine Env.drew ?_) | (with_reducible refine Env.skip ?_ _)))⟩
end Go.Proofs.YtlhhmlfcodmebaaGreatDoor.Pg
