/- The reference's checker of programs, walked: selects. -/
import Derived.Test.YtlhhmlfcodmebaaGreatDoorZR2
namespace Go.Proofs.YtlhhmlfcodmebaaGreatDoor.Pg
set_option linter.unusedVariables false
set_option linter.unusedSimpArgs false
open Go.ChangeShapes Go.WideShapes Go.RowKit
set_option linter.unusedVariables false
set_option maxHeartbeats 8000000 in
set_option maxRecDepth 100000 in
theorem rselects_walk (P : Pg) (f : Fn) (w : World) (I : P.In w) (J : f.In w) : Calls Tryz.prog 62 #[P.v, f.v] w fun e w' => e = .returned (.int .i64 (firstE (sel P f) f.sels)) ∧ Below w.heap.size w w' := by
  have hls := J.lenS
  unfold Len at hls
  obtain ⟨r, hr⟩ : ∃ r, Hid (r = firstE (sel P f) f.sels) := ⟨_, Lib.hid rfl⟩
  rw [← hr.out]
  unfold Pg.v Fn.v
  go_enter Tryz.func62, Tryz.ntmps62
  go_wp2
  go_loopw [12] (fun i wr => ∃ k : Nat, k ≤ f.sels.length ∧ i = .int .i64 k ∧ Env w [(w.heap.size + 1, #[.int .i64 f.params, .int .i64 f.regs, .slice f.ca f.code.length f.ccap, .slice f.sa f.sels.length f.scap]), (w.heap.size, #[.slice P.va P.vars.length P.vcap, .int .i64 P.locks, .slice P.ha P.chans.length P.hcap, .slice P.fa P.funcs.length P.fcap])] wr ∧ Hid (firstE (sel P f) (f.sels.drop k) = r)) (fun i _ => f.sels.length - (intOf i).toNat)
  case atStart => exact ⟨0, by omega, rfl, by first | exact Env.push (Env.push Env.nil _ rfl _ _) _ (by simp) _ _ | exact Env.drewN (Env.push (Env.push Env.nil _ rfl _ _) _ (by simp) _ _) _, Lib.hid hr.out.symm⟩
  case round =>
    obtain ⟨k, hk, rfl, E1, hq⟩ := hrel
    have acc := E1.acc
    have hsz := acc.size
    by_cases hkl : k < f.sels.length
    · obtain ⟨sb, so, hsa, hsl, hS⟩ := J.sel (by omega)
      have s0 := hS k f.sels[k] (by simp) 0 _ rfl
      have s1 := hS k f.sels[k] (by simp) 1 _ rfl
      have hin := J.sels f.sels[k] (List.getElem_mem _)
      have hsv := firstE_drop (sel P f) f.sels k hkl
      rw [hq.out] at hsv
      generalize f.sels[k] = s at *
      rw [← acc.cell (by simpa using hsl)] at s0 s1
      have hsl' := Nat.lt_of_lt_of_le hsl acc.size
      simp only [Nat.add_zero] at s0
      have hsv' := Lib.hid hsv
      clear hS hsv hq
      have hlc := hin.len
      unfold Len at hlc
      rw [hsa]
      obtain ⟨wo, hwo⟩ : ∃ wo : World, wo = wr := ⟨_, rfl⟩
      subst hwo
      obtain ⟨q, hq⟩ : ∃ q, Hid (q = firstE (cas P f) s.cases) := ⟨_, Lib.hid rfl⟩
      go_wp2
      go_loopw [19] (fun j wi => ∃ m : Nat, m ≤ s.cases.length ∧ j = .int .i64 m ∧ Env w ((wo.heap.size, #[.slice s.a s.cases.length s.cap, .int .i64 s.els]) :: [(w.heap.size + 1, #[.int .i64 f.params, .int .i64 f.regs, .slice f.ca f.code.length f.ccap, .slice f.sa f.sels.length f.scap]), (w.heap.size, #[.slice P.va P.vars.length P.vcap, .int .i64 P.locks, .slice P.ha P.chans.length P.hcap, .slice P.fa P.funcs.length P.fcap])]) wi ∧ Hid (firstE (cas P f) (s.cases.drop m) = q)) (fun j _ => s.cases.length - (intOf j).toNat)
      case atStart => exact ⟨0, by omega, rfl, by first | exact Env.push E1 _ rfl _ _ | exact Env.drewN (Env.push E1 _ rfl _ _) _, Lib.hid hq.out.symm⟩
      case round =>
        obtain ⟨m, hm, rfl, E2', hqm⟩ := hrel
        have E2 := E2'
        have acc' := E2.acc
        have hsz' := acc'.size
        have ys := E2.h0.cell; have yf := E2.tl.h0.cell; have yp := E2.tl.tl.h0.cell; have ls := E2.h0.lt; have lf := E2.tl.h0.lt; have lp := E2.tl.tl.h0.lt
        by_cases hml : m < s.cases.length
        · obtain ⟨cb, co, hca, hcl, hC⟩ := hin.case (by omega)
          have t0 := hC m s.cases[m] (by simp) 0 _ rfl
          have t1 := hC m s.cases[m] (by simp) 1 _ rfl
          have t2 := hC m s.cases[m] (by simp) 2 _ rfl
          have t3 := hC m s.cases[m] (by simp) 3 _ rfl
          have hcv := firstE_drop (cas P f) s.cases m hml
          have hok := hin.oks s.cases[m] (List.getElem_mem _)
          rw [hqm.out] at hcv
          generalize s.cases[m] = c at *
          rw [← acc'.cell (by simpa using hcl)] at t0 t1 t2 t3
          have hcl' := Nat.lt_of_lt_of_le hcl acc'.size
          simp only [Nat.add_zero] at t0
          have hcv' := Lib.hid hcv
          clear hC hcv hqm s0 s1
          obtain ⟨sd, ch, rg, to⟩ := c
          have k0 : I64 ch := hok.1
          have k1 : I64 rg := hok.2.1
          have k2 : I64 to := hok.2.2
          obtain ⟨_, _⟩ := k0
          obtain ⟨_, _⟩ := k1
          obtain ⟨_, _⟩ := k2
          simp only at t0 t1 t2 t3
          clear hok
          rw [hca]
          have cA := Lib.hid (fun W => rwithin_walk ch P.chans.length W (rlen64 I.lenH))
          have cB := Lib.hid (fun W => rwithin_walk rg f.regs W J.reg)
          have cC := Lib.hid (fun W => rwithin_walk to f.code.length W (rlen64 J.lenC))
          have hrq : ∀ v, q = v → v ≠ 0 → r = v := fun v e hv => by
            have e3 : sel P f s = v := by unfold sel; rw [← hq.out, e, if_neg hv]
            rw [hsv'.out, e3, if_neg hv]
          have hrc : ∀ v, cas P f ⟨sd, ch, rg, to⟩ = v → v ≠ 0 → r = v := fun v e hv => hrq v (by rw [hcv'.out, e, if_neg hv]) hv
          by_cases h0' : 0 ≤ ch ∧ ch < (P.chans.length : Int)
          · have h0 : obj ch P.chans.length = 0 := if_pos h0'
            rw [show decide (0 ≤ ch ∧ ch < (P.chans.length : Int)) = true by simpa using h0'] at cA
            obtain ⟨n, rfl⟩ : ∃ n : Nat, ch = n := ⟨ch.toNat, by omega⟩
            have hn : n < P.chans.length := by omega
            obtain ⟨hb, ho, hha, hhl, hH⟩ := I.chan (by omega)
            have z0 := hH n P.chans[n] (by simp)
            have hcas : cas P f ⟨sd, n, rg, to⟩ = if (sd = true ∨ rg ≠ -1) ∧ ¬ reg f rg = 0 then 35 else if sd = true ∧ P.chans[n] = 0 then 37 else tgt f to := by
              unfold cas; rw [if_pos h0]; simp [hn]
            rw [hha] at yp
            rw [← acc'.cell (by simpa using hhl)] at z0
            have hhl' := Nat.lt_of_lt_of_le hhl acc'.size
            clear hH h0 h0' hha
            generalize P.chans[n] = z at *
            by_cases hg : 0 ≤ rg ∧ rg < (f.regs : Int)
            · have hg0 : reg f rg = 0 := if_pos hg
              rw [show decide (0 ≤ rg ∧ rg < (f.regs : Int)) = true by simpa using hg] at cB
              clear hg
              cases sd with
              | false =>
                have hct : cas P f ⟨false, (n : Int), rg, to⟩ = tgt f to := by rw [hcas, if_neg (by simp [hg0]), if_neg (by simp)]
                by_cases ht : 0 ≤ to ∧ to < (f.code.length : Int)
                · rw [show decide (0 ≤ to ∧ to < (f.code.length : Int)) = true by simpa using ht] at cC
                  have hcq := Lib.hid (show q = firstE (cas P f) (s.cases.drop (m + 1)) by rw [hcv'.out, if_pos (by rw [hct]; exact if_pos ht)])
                  clear hrc hrq hcas hg0 hct ht
                  go_wp2_with (first | (go_at_call 100; ((with_reducible refine (cA.out _).mono ?_); rintro e w' ⟨rfl, rfl⟩)) | (go_at_call 100; ((with_reducible refine (cB.out _).mono ?_); rintro e w' ⟨rfl, rfl⟩)) | (go_at_call 100; ((with_reducible refine (cC.out _).mono ?_); rintro e w' ⟨rfl, rfl⟩)))
                  repeat (go_quiet (first | (go_at_call 100; refine Calls.quiet_of_same (cA.out _)) | (go_at_call 100; refine Calls.quiet_of_same (cB.out _)) | (go_at_call 100; refine Calls.quiet_of_same (cC.out _))); go_wp2_with (first | (go_at_call 100; ((with_reducible refine (cA.out _).mono ?_); rintro e w' ⟨rfl, rfl⟩)) | (go_at_call 100; ((with_reducible refine (cB.out _).mono ?_); rintro e w' ⟨rfl, rfl⟩)) | (go_at_call 100; ((with_reducible refine (cC.out _).mono ?_); rintro e w' ⟨rfl, rfl⟩))))
                  go_roundw
                  case rel => first | exact ⟨m + 1, by omega, by go_num, by rw [← hca]; repeat (first | exact E2' | (with_reducible refine Env.drewN ?_ _) | (with_reducible refine Env.skip ?_ _)), Lib.hid hcq.out.symm⟩ | ((repeat apply Exists.intro); exact ⟨⟨m + 1, by omega, by go_num, by rw [← hca]; repeat (first | exact E2' | (with_reducible refine Env.drewN ?_ _) | (with_reducible refine Env.skip ?_ _)), Lib.hid hcq.out.symm⟩, rfl⟩)
                  case measure => simp [intOf]; omega
                · rw [show decide (0 ≤ to ∧ to < (f.code.length : Int)) = false by simpa using ht] at cC
                  have hrv := Lib.hid (hrc 38 (by rw [hct]; exact if_neg ht) (by decide))
                  clear hrc hrq hcas hg0 hct ht
                  go_wp2_with (first | (go_at_call 100; ((with_reducible refine (cA.out _).mono ?_); rintro e w' ⟨rfl, rfl⟩)) | (go_at_call 100; ((with_reducible refine (cB.out _).mono ?_); rintro e w' ⟨rfl, rfl⟩)) | (go_at_call 100; ((with_reducible refine (cC.out _).mono ?_); rintro e w' ⟨rfl, rfl⟩)))
                  repeat (go_quiet (first | (go_at_call 100; refine Calls.quiet_of_same (cA.out _)) | (go_at_call 100; refine Calls.quiet_of_same (cB.out _)) | (go_at_call 100; refine Calls.quiet_of_same (cC.out _))); go_wp2_with (first | (go_at_call 100; ((with_reducible refine (cA.out _).mono ?_); rintro e w' ⟨rfl, rfl⟩)) | (go_at_call 100; ((with_reducible refine (cB.out _).mono ?_); rintro e w' ⟨rfl, rfl⟩)) | (go_at_call 100; ((with_reducible refine (cC.out _).mono ?_); rintro e w' ⟨rfl, rfl⟩))))
                  all_goals go_ret
                  all_goals exact ⟨by rw [hrv.out]; rfl, by have acc := E2.acc; repeat (first | assumption | (with_reducible refine Below.drew ?_) | (with_reducible refine below_drewN ?_ _) | (with_reducible refine Below.alloc ?_ (by first | omega | (simp <;> omega)) _))⟩
              | true =>
                by_cases hz : z = 0
                · subst hz
                  have hrv := Lib.hid (hrc 37 (by rw [hcas, if_neg (by simp [hg0]), if_pos (by simp)]) (by decide))
                  clear hrc hrq hcas hg0
                  go_wp2_with (first | (go_at_call 100; ((with_reducible refine (cA.out _).mono ?_); rintro e w' ⟨rfl, rfl⟩)) | (go_at_call 100; ((with_reducible refine (cB.out _).mono ?_); rintro e w' ⟨rfl, rfl⟩)) | (go_at_call 100; ((with_reducible refine (cC.out _).mono ?_); rintro e w' ⟨rfl, rfl⟩)))
                  repeat (go_quiet (first | (go_at_call 100; refine Calls.quiet_of_same (cA.out _)) | (go_at_call 100; refine Calls.quiet_of_same (cB.out _)) | (go_at_call 100; refine Calls.quiet_of_same (cC.out _))); go_wp2_with (first | (go_at_call 100; ((with_reducible refine (cA.out _).mono ?_); rintro e w' ⟨rfl, rfl⟩)) | (go_at_call 100; ((with_reducible refine (cB.out _).mono ?_); rintro e w' ⟨rfl, rfl⟩)) | (go_at_call 100; ((with_reducible refine (cC.out _).mono ?_); rintro e w' ⟨rfl, rfl⟩))))
                  all_goals go_ret
                  all_goals exact ⟨by rw [hrv.out]; rfl, by have acc := E2.acc; repeat (first | assumption | (with_reducible refine Below.drew ?_) | (with_reducible refine below_drewN ?_ _) | (with_reducible refine Below.alloc ?_ (by first | omega | (simp <;> omega)) _))⟩
                · have hzb : (z == 0) = false := by simpa using hz
                  have hct : cas P f ⟨true, (n : Int), rg, to⟩ = tgt f to := by rw [hcas, if_neg (by simp [hg0]), if_neg (by simp [hz])]
                  by_cases ht : 0 ≤ to ∧ to < (f.code.length : Int)
                  · rw [show decide (0 ≤ to ∧ to < (f.code.length : Int)) = true by simpa using ht] at cC
                    have hcq := Lib.hid (show q = firstE (cas P f) (s.cases.drop (m + 1)) by rw [hcv'.out, if_pos (by rw [hct]; exact if_pos ht)])
                    clear hrc hrq hcas hg0 hz hct ht
                    go_wp2_with (first | (go_at_call 100; ((with_reducible refine (cA.out _).mono ?_); rintro e w' ⟨rfl, rfl⟩)) | (go_at_call 100; ((with_reducible refine (cB.out _).mono ?_); rintro e w' ⟨rfl, rfl⟩)) | (go_at_call 100; ((with_reducible refine (cC.out _).mono ?_); rintro e w' ⟨rfl, rfl⟩)))
                    repeat (go_quiet (first | (go_at_call 100; refine Calls.quiet_of_same (cA.out _)) | (go_at_call 100; refine Calls.quiet_of_same (cB.out _)) | (go_at_call 100; refine Calls.quiet_of_same (cC.out _))); go_wp2_with (first | (go_at_call 100; ((with_reducible refine (cA.out _).mono ?_); rintro e w' ⟨rfl, rfl⟩)) | (go_at_call 100; ((with_reducible refine (cB.out _).mono ?_); rintro e w' ⟨rfl, rfl⟩)) | (go_at_call 100; ((with_reducible refine (cC.out _).mono ?_); rintro e w' ⟨rfl, rfl⟩))))
                    go_roundw
                    case rel => first | exact ⟨m + 1, by omega, by go_num, by rw [← hca]; repeat (first | exact E2' | (with_reducible refine Env.drewN ?_ _) | (with_reducible refine Env.skip ?_ _)), Lib.hid hcq.out.symm⟩ | ((repeat apply Exists.intro); exact ⟨⟨m + 1, by omega, by go_num, by rw [← hca]; repeat (first | exact E2' | (with_reducible refine Env.drewN ?_ _) | (with_reducible refine Env.skip ?_ _)), Lib.hid hcq.out.symm⟩, rfl⟩)
                    case measure => simp [intOf]; omega
                  · rw [show decide (0 ≤ to ∧ to < (f.code.length : Int)) = false by simpa using ht] at cC
                    have hrv := Lib.hid (hrc 38 (by rw [hct]; exact if_neg ht) (by decide))
                    clear hrc hrq hcas hg0 hz hct ht
                    go_wp2_with (first | (go_at_call 100; ((with_reducible refine (cA.out _).mono ?_); rintro e w' ⟨rfl, rfl⟩)) | (go_at_call 100; ((with_reducible refine (cB.out _).mono ?_); rintro e w' ⟨rfl, rfl⟩)) | (go_at_call 100; ((with_reducible refine (cC.out _).mono ?_); rintro e w' ⟨rfl, rfl⟩)))
                    repeat (go_quiet (first | (go_at_call 100; refine Calls.quiet_of_same (cA.out _)) | (go_at_call 100; refine Calls.quiet_of_same (cB.out _)) | (go_at_call 100; refine Calls.quiet_of_same (cC.out _))); go_wp2_with (first | (go_at_call 100; ((with_reducible refine (cA.out _).mono ?_); rintro e w' ⟨rfl, rfl⟩)) | (go_at_call 100; ((with_reducible refine (cB.out _).mono ?_); rintro e w' ⟨rfl, rfl⟩)) | (go_at_call 100; ((with_reducible refine (cC.out _).mono ?_); rintro e w' ⟨rfl, rfl⟩))))
                    all_goals go_ret
                    all_goals exact ⟨by rw [hrv.out]; rfl, by have acc := E2.acc; repeat (first | assumption | (with_reducible refine Below.drew ?_) | (with_reducible refine below_drewN ?_ _) | (with_reducible refine Below.alloc ?_ (by first | omega | (simp <;> omega)) _))⟩
            · have hg35 : ¬ reg f rg = 0 := by unfold reg; rw [if_neg hg]; decide
              rw [show decide (0 ≤ rg ∧ rg < (f.regs : Int)) = false by simpa using hg] at cB
              clear hg
              cases sd with
              | false =>
                by_cases hr1 : rg = -1
                · subst hr1
                  have hct : cas P f ⟨false, (n : Int), -1, to⟩ = tgt f to := by rw [hcas, if_neg (by simp), if_neg (by simp)]
                  by_cases ht : 0 ≤ to ∧ to < (f.code.length : Int)
                  · rw [show decide (0 ≤ to ∧ to < (f.code.length : Int)) = true by simpa using ht] at cC
                    have hcq := Lib.hid (show q = firstE (cas P f) (s.cases.drop (m + 1)) by rw [hcv'.out, if_pos (by rw [hct]; exact if_pos ht)])
                    clear hrc hrq hcas hg35 hct ht
                    go_wp2_with (first | (go_at_call 100; ((with_reducible refine (cA.out _).mono ?_); rintro e w' ⟨rfl, rfl⟩)) | (go_at_call 100; ((with_reducible refine (cB.out _).mono ?_); rintro e w' ⟨rfl, rfl⟩)) | (go_at_call 100; ((with_reducible refine (cC.out _).mono ?_); rintro e w' ⟨rfl, rfl⟩)))
                    repeat (go_quiet (first | (go_at_call 100; refine Calls.quiet_of_same (cA.out _)) | (go_at_call 100; refine Calls.quiet_of_same (cB.out _)) | (go_at_call 100; refine Calls.quiet_of_same (cC.out _))); go_wp2_with (first | (go_at_call 100; ((with_reducible refine (cA.out _).mono ?_); rintro e w' ⟨rfl, rfl⟩)) | (go_at_call 100; ((with_reducible refine (cB.out _).mono ?_); rintro e w' ⟨rfl, rfl⟩)) | (go_at_call 100; ((with_reducible refine (cC.out _).mono ?_); rintro e w' ⟨rfl, rfl⟩))))
                    go_roundw
                    case rel => first | exact ⟨m + 1, by omega, by go_num, by rw [← hca]; repeat (first | exact E2' | (with_reducible refine Env.drewN ?_ _) | (with_reducible refine Env.skip ?_ _)), Lib.hid hcq.out.symm⟩ | ((repeat apply Exists.intro); exact ⟨⟨m + 1, by omega, by go_num, by rw [← hca]; repeat (first | exact E2' | (with_reducible refine Env.drewN ?_ _) | (with_reducible refine Env.skip ?_ _)), Lib.hid hcq.out.symm⟩, rfl⟩)
                    case measure => simp [intOf]; omega
                  · rw [show decide (0 ≤ to ∧ to < (f.code.length : Int)) = false by simpa using ht] at cC
                    have hrv := Lib.hid (hrc 38 (by rw [hct]; exact if_neg ht) (by decide))
                    clear hrc hrq hcas hg35 hct ht
                    go_wp2_with (first | (go_at_call 100; ((with_reducible refine (cA.out _).mono ?_); rintro e w' ⟨rfl, rfl⟩)) | (go_at_call 100; ((with_reducible refine (cB.out _).mono ?_); rintro e w' ⟨rfl, rfl⟩)) | (go_at_call 100; ((with_reducible refine (cC.out _).mono ?_); rintro e w' ⟨rfl, rfl⟩)))
                    repeat (go_quiet (first | (go_at_call 100; refine Calls.quiet_of_same (cA.out _)) | (go_at_call 100; refine Calls.quiet_of_same (cB.out _)) | (go_at_call 100; refine Calls.quiet_of_same (cC.out _))); go_wp2_with (first | (go_at_call 100; ((with_reducible refine (cA.out _).mono ?_); rintro e w' ⟨rfl, rfl⟩)) | (go_at_call 100; ((with_reducible refine (cB.out _).mono ?_); rintro e w' ⟨rfl, rfl⟩)) | (go_at_call 100; ((with_reducible refine (cC.out _).mono ?_); rintro e w' ⟨rfl, rfl⟩))))
                    all_goals go_ret
                    all_goals exact ⟨by rw [hrv.out]; rfl, by have acc := E2.acc; repeat (first | assumption | (with_reducible refine Below.drew ?_) | (with_reducible refine below_drewN ?_ _) | (with_reducible refine Below.alloc ?_ (by first | omega | (simp <;> omega)) _))⟩
                · have hrb : (rg != -1) = true := by simpa using hr1
                  have hrv := Lib.hid (hrc 35 (by rw [hcas, if_pos ⟨Or.inr hr1, hg35⟩]) (by decide))
                  clear hrc hrq hcas hg35 hr1
                  go_wp2_with (first | (go_at_call 100; ((with_reducible refine (cA.out _).mono ?_); rintro e w' ⟨rfl, rfl⟩)) | (go_at_call 100; ((with_reducible refine (cB.out _).mono ?_); rintro e w' ⟨rfl, rfl⟩)) | (go_at_call 100; ((with_reducible refine (cC.out _).mono ?_); rintro e w' ⟨rfl, rfl⟩)))
                  repeat (go_quiet (first | (go_at_call 100; refine Calls.quiet_of_same (cA.out _)) | (go_at_call 100; refine Calls.quiet_of_same (cB.out _)) | (go_at_call 100; refine Calls.quiet_of_same (cC.out _))); go_wp2_with (first | (go_at_call 100; ((with_reducible refine (cA.out _).mono ?_); rintro e w' ⟨rfl, rfl⟩)) | (go_at_call 100; ((with_reducible refine (cB.out _).mono ?_); rintro e w' ⟨rfl, rfl⟩)) | (go_at_call 100; ((with_reducible refine (cC.out _).mono ?_); rintro e w' ⟨rfl, rfl⟩))))
                  all_goals go_ret
                  all_goals exact ⟨by rw [hrv.out]; rfl, by have acc := E2.acc; repeat (first | assumption | (with_reducible refine Below.drew ?_) | (with_reducible refine below_drewN ?_ _) | (with_reducible refine Below.alloc ?_ (by first | omega | (simp <;> omega)) _))⟩
              | true =>
                have hrv := Lib.hid (hrc 35 (by rw [hcas, if_pos ⟨Or.inl rfl, hg35⟩]) (by decide))
                clear hrc hrq hcas hg35
                go_wp2_with (first | (go_at_call 100; ((with_reducible refine (cA.out _).mono ?_); rintro e w' ⟨rfl, rfl⟩)) | (go_at_call 100; ((with_reducible refine (cB.out _).mono ?_); rintro e w' ⟨rfl, rfl⟩)) | (go_at_call 100; ((with_reducible refine (cC.out _).mono ?_); rintro e w' ⟨rfl, rfl⟩)))
                repeat (go_quiet (first | (go_at_call 100; refine Calls.quiet_of_same (cA.out _)) | (go_at_call 100; refine Calls.quiet_of_same (cB.out _)) | (go_at_call 100; refine Calls.quiet_of_same (cC.out _))); go_wp2_with (first | (go_at_call 100; ((with_reducible refine (cA.out _).mono ?_); rintro e w' ⟨rfl, rfl⟩)) | (go_at_call 100; ((with_reducible refine (cB.out _).mono ?_); rintro e w' ⟨rfl, rfl⟩)) | (go_at_call 100; ((with_reducible refine (cC.out _).mono ?_); rintro e w' ⟨rfl, rfl⟩))))
                all_goals go_ret
                all_goals exact ⟨by rw [hrv.out]; rfl, by have acc := E2.acc; repeat (first | assumption | (with_reducible refine Below.drew ?_) | (with_reducible refine below_drewN ?_ _) | (with_reducible refine Below.alloc ?_ (by first | omega | (simp <;> omega)) _))⟩
          · rw [show decide (0 ≤ ch ∧ ch < (P.chans.length : Int)) = false by simpa using h0'] at cA
            have hcas : cas P f ⟨sd, ch, rg, to⟩ = 36 := by unfold cas; exact if_neg (by unfold obj; rw [if_neg h0']; decide)
            have hrv := Lib.hid (hrc 36 (hcas) (by decide))
            clear hrc hrq hcas h0'
            go_wp2_with (first | (go_at_call 100; ((with_reducible refine (cA.out _).mono ?_); rintro e w' ⟨rfl, rfl⟩)) | (go_at_call 100; ((with_reducible refine (cB.out _).mono ?_); rintro e w' ⟨rfl, rfl⟩)) | (go_at_call 100; ((with_reducible refine (cC.out _).mono ?_); rintro e w' ⟨rfl, rfl⟩)))
            repeat (go_quiet (first | (go_at_call 100; refine Calls.quiet_of_same (cA.out _)) | (go_at_call 100; refine Calls.quiet_of_same (cB.out _)) | (go_at_call 100; refine Calls.quiet_of_same (cC.out _))); go_wp2_with (first | (go_at_call 100; ((with_reducible refine (cA.out _).mono ?_); rintro e w' ⟨rfl, rfl⟩)) | (go_at_call 100; ((with_reducible refine (cB.out _).mono ?_); rintro e w' ⟨rfl, rfl⟩)) | (go_at_call 100; ((with_reducible refine (cC.out _).mono ?_); rintro e w' ⟨rfl, rfl⟩))))
            all_goals go_ret
            all_goals exact ⟨by rw [hrv.out]; rfl, by have acc := E2.acc; repeat (first | assumption | (with_reducible refine Below.drew ?_) | (with_reducible refine below_drewN ?_ _) | (with_reducible refine Below.alloc ?_ (by first | omega | (simp <;> omega)) _))⟩
        · have hq0 : q = 0 := by rw [← hqm.out]; exact firstE_end _ _ _ (by omega)
          by_cases he : s.els = -1
          · have h1 : sel P f s = 0 := by unfold sel; rw [← hq.out, if_pos hq0, if_pos he]
            have h2' := Lib.hid (show r = firstE (sel P f) (f.sels.drop (k + 1)) by rw [hsv'.out, if_pos h1])
            have hb : (s.els != -1) = false := by simpa using he
            clear h1 hq0
            go_wp2
            repeat (go_quiet (fail); go_wp2)
            go_roundw
            case rel => exact ⟨k + 1, by omega, by go_num, by repeat (first | exact E2.tl | (with_reducible refine Env.drewN ?_ _) | (with_reducible refine Env.skip ?_ _) | rw [← hsa]), Lib.hid h2'.out.symm⟩
            case measure => simp [intOf]; omega
          · have h1 : sel P f s = tgt f s.els := by unfold sel; rw [← hq.out, if_pos hq0, if_neg he]
            have cC := Lib.hid (fun W => rwithin_walk s.els f.code.length W (rlen64 J.lenC))
            have hb : (s.els != -1) = true := by simpa using he
            by_cases ht : 0 ≤ s.els ∧ s.els < (f.code.length : Int)
            · rw [show decide (0 ≤ s.els ∧ s.els < (f.code.length : Int)) = true by simpa using ht] at cC
              have h2' := Lib.hid (show r = firstE (sel P f) (f.sels.drop (k + 1)) by rw [hsv'.out, if_pos (by rw [h1]; exact if_pos ht)])
              clear h1 hq0 ht he
              go_wp2_with ((go_at_call 100; ((with_reducible refine (cC.out _).mono ?_); rintro e w' ⟨rfl, rfl⟩)))
              repeat (go_quiet ((go_at_call 100; refine Calls.quiet_of_same (cC.out _))); go_wp2)
              go_roundw
              case rel => exact ⟨k + 1, by omega, by go_num, by repeat (first | exact E2.tl | (with_reducible refine Env.drewN ?_ _) | (with_reducible refine Env.skip ?_ _) | rw [← hsa]), Lib.hid h2'.out.symm⟩
              case measure => simp [intOf]; omega
            · rw [show decide (0 ≤ s.els ∧ s.els < (f.code.length : Int)) = false by simpa using ht] at cC
              have h38 : tgt f s.els = 38 := if_neg ht
              have hrv := Lib.hid (show r = 38 by rw [hsv'.out, h1, h38]; rfl)
              clear ht h1 hq0 h38 he
              go_wp2_with ((go_at_call 100; ((with_reducible refine (cC.out _).mono ?_); rintro e w' ⟨rfl, rfl⟩)))
              repeat (go_quiet ((go_at_call 100; refine Calls.quiet_of_same (cC.out _))); go_wp2)
              go_ret
              exact ⟨by rw [hrv.out]; rfl, by have acc := E2.acc; repeat (first | assumption | (with_reducible refine Below.drew ?_) | (with_reducible refine below_drewN ?_ _) | (with_reducible refine Below.alloc ?_ (by first | omega | (simp <;> omega)) _))⟩
    · have hr0 : r = 0 := by rw [← hq.out]; exact firstE_end _ _ _ (by omega)
      go_wp2
      go_ret
      exact ⟨by rw [hr0]; rfl, acc⟩
end Go.Proofs.YtlhhmlfcodmebaaGreatDoor.Pg
