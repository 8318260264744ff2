/- Several texts of one proof, one behind the other. Functions asked whether they are the same but for where their lists lie, walked. No condition. | Programs asked whether they are the same but for where their lists lie, walked. No condition. -/
import Derived.Test.YtlhhmlfcodmebaaGreatDoorZa
import Derived.Test.YtlhhmlfcodmebaaGreatDoorZC1
import Derived.Test.YtlhhmlfcodmebaaGreatDoorZs
import Derived.BigQuiet
import Derived.Deep.RegionHeld3
namespace Go.Proofs.YtlhhmlfcodmebaaGreatDoor.Pg
set_option linter.unusedVariables false
set_option linter.unusedSimpArgs false
open Go.ChangeShapes Go.WideShapes Go.RowKit
set_option linter.unusedVariables false
set_option maxHeartbeats 8000000 in
set_option maxRecDepth 100000 in
theorem samefunc_walk (x y : Fn) (w : World) (hb : x.bare = y.bare) (X : x.In w) (Y : y.In w) : Calls Tryz.prog 34 #[x.v, y.v] w fun e w' => e = .returned (.bool true) ∧ Below w.heap.size w w' := by
  obtain ⟨pm, rg, ca, cc, code, sa, sc, sels⟩ := x
  obtain ⟨pm', rg', ca', cc', code', sa', sc', sels'⟩ := y
  simp only [Fn.bare, Fn.mk.injEq, true_and] at hb
  obtain ⟨rfl, rfl, rfl, hs⟩ := hb
  have hl : sels'.length = sels.length := by have := congrArg List.length hs; simpa using this.symm
  have hlc := X.lenC
  have hls := X.lenS
  unfold Len at hlc hls
  unfold Fn.v
  simp only [hl]
  simp only at hlc hls
  replace X := Lib.hid X
  replace Y := Lib.hid Y
  replace hs := Lib.hid hs
  replace hl := Lib.hid hl
  go_enter Tryz.func34, Tryz.ntmps34
  have E0 := ((Env.nil (w := w)).push w.heap.size rfl #[.int .i64 pm, .int .i64 rg, .slice ca code.length cc, .slice sa sels.length sc] 45).push (w.heap.size + 1) (by simp) #[.int .i64 pm, .int .i64 rg, .slice ca' code.length cc', .slice sa' sels.length sc'] 45
  go_wp2
  go_loopw [43] (fun i wr => ∃ k : Nat, k ≤ code.length ∧ i = .int .i64 k ∧ Env w [(w.heap.size + 1, #[.int .i64 pm, .int .i64 rg, .slice ca' code.length cc', .slice sa' sels.length sc']), (w.heap.size, #[.int .i64 pm, .int .i64 rg, .slice ca code.length cc, .slice sa sels.length sc])] wr) (fun i _ => code.length - (intOf i).toNat)
  case atStart => exact ⟨0, by omega, rfl, E0⟩
  case round =>
    clear E0
    obtain ⟨k, hk, rfl, E1⟩ := hrel
    have acc := E1.acc
    have hsz := acc.size
    have y0 := E1.h0.cell; have y1 := E1.tl.h0.cell; have l0 := E1.h0.lt; have l1 := E1.tl.h0.lt
    by_cases hkl : k < code.length
    · obtain ⟨cb, co, hca, hcl, hC⟩ := X.out.ins (by simp only; omega)
      obtain ⟨db, do', hda, hdl, hD⟩ := Y.out.ins (by simp only; omega)
      simp only at hca hda
      have hok := X.out.oks code[k] (List.getElem_mem _)
      have s0 := hC k code[k] (by simp) 0 _ rfl
      have s1 := hC k code[k] (by simp) 1 _ rfl
      have s2 := hC k code[k] (by simp) 2 _ rfl
      have s3 := hC k code[k] (by simp) 3 _ rfl
      have s4 := hC k code[k] (by simp) 4 _ rfl
      have t0 := hD k code[k] (by simp) 0 _ rfl
      have t1 := hD k code[k] (by simp) 1 _ rfl
      have t2 := hD k code[k] (by simp) 2 _ rfl
      have t3 := hD k code[k] (by simp) 3 _ rfl
      have t4 := hD k code[k] (by simp) 4 _ rfl
      generalize code[k] = c at *
      rw [← acc.cell (by simpa using hcl)] at s0 s1 s2 s3 s4
      rw [← acc.cell (by simpa using hdl)] at t0 t1 t2 t3 t4
      have hcl' := Nat.lt_of_lt_of_le hcl acc.size
      have hdl' := Nat.lt_of_lt_of_le hdl acc.size
      simp only [Nat.add_zero] at s0 t0
      clear hC hD
      have q := fun W => eq_ins c hok W
      rw [hca, hda]
      rw [hca] at y1
      rw [hda] at y0
      rw [hca, hda] at E1
      go_wp2
      go_quiet (fail)
      go_wp2
      go_roundw
      case rel => exact ⟨k + 1, by omega, by go_num, E1.drewN nq⟩
      case measure => simp [intOf]; omega
    · obtain rfl : k = code.length := by omega
      go_wp2
      go_loopw [61] (fun i wr => ∃ k : Nat, k ≤ sels.length ∧ i = .int .i64 k ∧ Env w [(w.heap.size + 1, #[.int .i64 pm, .int .i64 rg, .slice ca' code.length cc', .slice sa' sels.length sc']), (w.heap.size, #[.int .i64 pm, .int .i64 rg, .slice ca code.length cc, .slice sa sels.length sc])] wr) (fun i _ => sels.length - (intOf i).toNat)
      case atStart => exact ⟨0, by omega, rfl, E1⟩
      case round =>
        clear E1 y0 y1 l0 l1 acc hsz hk hkl
        obtain ⟨wo, rfl⟩ : ∃ wo : World, wo = wr := ⟨_, rfl⟩
        obtain ⟨k, hk, rfl, E1⟩ := hrel
        have acc := E1.acc
        have hsz := acc.size
        have y0 := E1.h0.cell; have y1 := E1.tl.h0.cell; have l0 := E1.h0.lt; have l1 := E1.tl.h0.lt
        by_cases hkl : k < sels.length
        · have hkl' : k < sels'.length := by rw [hl.out]; exact hkl
          obtain ⟨cb, co, hca, hcl, hC⟩ := X.out.sel (by simp only; omega)
          obtain ⟨db, do', hda, hdl, hD⟩ := Y.out.sel (by simp only; omega)
          simp only at hca hda
          have hin := X.out.sels sels[k] (List.getElem_mem _)
          have hin' := Y.out.sels sels'[k] (List.getElem_mem _)
          have s0 := hC k sels[k] (by simp) 0 _ rfl
          have s1 := hC k sels[k] (by simp) 1 _ rfl
          have t0 := hD k sels'[k] (by simp) 0 _ rfl
          have t1 := hD k sels'[k] (by simp) 1 _ rfl
          have hq := nth_eq hs.out hkl hkl'
          generalize sels[k] = s at *
          generalize sels'[k] = s' at *
          obtain ⟨a, cap, cases, els⟩ := s
          obtain ⟨a', cap', cases', els'⟩ := s'
          simp only [Sel.bare, Sel.mk.injEq, true_and] at hq
          obtain ⟨rfl, rfl⟩ := hq
          rw [← acc.cell (by simpa using hcl)] at s0 s1
          rw [← acc.cell (by simpa using hdl)] at t0 t1
          have hcl' := Nat.lt_of_lt_of_le hcl acc.size
          have hdl' := Nat.lt_of_lt_of_le hdl acc.size
          simp only [Nat.add_zero] at s0 t0
          simp only at s1 t1
          clear hC hD
          have hcs := hin.len
          unfold Len at hcs
          simp only at hcs
          replace hin := Lib.hid hin
          replace hin' := Lib.hid hin'
          rw [hca, hda]
          rw [hca] at y1
          rw [hda] at y0
          rw [hca, hda] at E1
          have E2 := (E1.push wo.heap.size rfl #[.slice a cases.length cap, .int .i64 els] 93).push (wo.heap.size + 1) (by simp) #[.slice a' cases.length cap', .int .i64 els] 93
          go_wp2
          go_loopw [91] (fun i wr => ∃ j : Nat, j ≤ cases.length ∧ i = .int .i64 j ∧ Env w ((wo.heap.size + 1, #[.slice a' cases.length cap', .int .i64 els]) :: (wo.heap.size, #[.slice a cases.length cap, .int .i64 els]) :: [(w.heap.size + 1, #[.int .i64 pm, .int .i64 rg, .slice ca' code.length cc', .slice (some ⟨db, do', none⟩) sels.length sc']), (w.heap.size, #[.int .i64 pm, .int .i64 rg, .slice ca code.length cc, .slice (some ⟨cb, co, none⟩) sels.length sc])]) wr) (fun i _ => cases.length - (intOf i).toNat)
          case atStart => exact ⟨0, by omega, rfl, E2⟩
          case round =>
            clear E1 E2 s0 s1 t0 t1 y0 y1 l0 l1
            obtain ⟨j, hj, rfl, E2⟩ := hrel
            have acc2 := E2.acc
            have hsz2 := acc2.size
            have y2 := E2.h0.cell; have y3 := E2.tl.h0.cell; have l2 := E2.h0.lt; have l3 := E2.tl.h0.lt
            by_cases hjl : j < cases.length
            · obtain ⟨eb, eo, hea, hel, hE⟩ := hin.out.case (by simp only; omega)
              obtain ⟨gb, go', hga, hgl, hG⟩ := hin'.out.case (by simp only; omega)
              simp only at hea hga
              have hok := hin.out.oks cases[j] (List.getElem_mem _)
              have s0 := hE j cases[j] (by simp) 0 _ rfl
              have s1 := hE j cases[j] (by simp) 1 _ rfl
              have s2 := hE j cases[j] (by simp) 2 _ rfl
              have s3 := hE j cases[j] (by simp) 3 _ rfl
              have t0 := hG j cases[j] (by simp) 0 _ rfl
              have t1 := hG j cases[j] (by simp) 1 _ rfl
              have t2 := hG j cases[j] (by simp) 2 _ rfl
              have t3 := hG j cases[j] (by simp) 3 _ rfl
              generalize cases[j] = c at *
              rw [← acc2.cell (by simpa using hel)] at s0 s1 s2 s3
              rw [← acc2.cell (by simpa using hgl)] at t0 t1 t2 t3
              have hel' := Nat.lt_of_lt_of_le hel acc2.size
              have hgl' := Nat.lt_of_lt_of_le hgl acc2.size
              simp only [Nat.add_zero] at s0 t0
              clear hE hG
              have q := fun W => eq_cas c hok W
              rw [hea, hga]
              rw [hea] at y3
              rw [hga] at y2
              rw [hea, hga] at E2
              go_wp2
              go_quiet (fail)
              go_wp2
              go_roundw
              case rel => exact ⟨j + 1, by omega, by go_num, E2.drewN nq⟩
              case measure => simp [intOf]; omega
            · obtain rfl : j = cases.length := by omega
              go_wp2
              go_roundw
              case rel => exact ⟨k + 1, by omega, by go_num, E2.tl.tl⟩
              case measure => simp [intOf]; omega
        · obtain rfl : k = sels.length := by omega
          go_wp2
          go_ret
          exact ⟨rfl, E1.acc⟩
end Go.Proofs.YtlhhmlfcodmebaaGreatDoor.Pg
namespace Go.Proofs.YtlhhmlfcodmebaaGreatDoor.Pg
set_option linter.unusedVariables false
set_option linter.unusedSimpArgs false
open Go.ChangeShapes Go.WideShapes Go.RowKit
set_option linter.unusedVariables false
set_option maxHeartbeats 8000000 in
set_option maxRecDepth 100000 in
theorem same_walk (x y : Pg) (w : World) (hb : x.bare = y.bare) (I : x.In w) (J : y.In w) : Calls Tryz.prog 12 #[x.v, y.v] w fun e w' => e = .returned (.bool true) ∧ Below w.heap.size w w' := by
  obtain ⟨va, vc, vars, locks, ha, hc, chans, fa, fc, funcs⟩ := x
  obtain ⟨va', vc', vars', locks', ha', hc', chans', fa', fc', funcs'⟩ := y
  simp only [Pg.bare, Pg.mk.injEq, true_and] at hb
  obtain ⟨rfl, rfl, rfl, hs⟩ := hb
  have hl : funcs'.length = funcs.length := by have := congrArg List.length hs; simpa using this.symm
  have hlv := I.lenV
  have hlh := I.lenH
  have hlf := I.lenF
  unfold Len at hlv hlh hlf
  unfold Pg.v
  simp only [hl]
  simp only at hlv hlh hlf
  replace I := Lib.hid I
  replace J := Lib.hid J
  replace hs := Lib.hid hs
  replace hl := Lib.hid hl
  go_enter Tryz.func12, Tryz.ntmps12
  have E0 := ((Env.nil (w := w)).push w.heap.size rfl #[.slice va vars.length vc, .int .i64 locks, .slice ha chans.length hc, .slice fa funcs.length fc] 26).push (w.heap.size + 1) (by simp) #[.slice va' vars.length vc', .int .i64 locks, .slice ha' chans.length hc', .slice fa' funcs.length fc'] 26
  go_wp2
  go_loopw [43] (fun i wr => ∃ k : Nat, k ≤ vars.length ∧ i = .int .i64 k ∧ Env w [(w.heap.size + 1, #[.slice va' vars.length vc', .int .i64 locks, .slice ha' chans.length hc', .slice fa' funcs.length fc']), (w.heap.size, #[.slice va vars.length vc, .int .i64 locks, .slice ha chans.length hc, .slice fa funcs.length fc])] wr) (fun i _ => vars.length - (intOf i).toNat)
  case atStart => exact ⟨0, by omega, rfl, E0⟩
  case round =>
    clear E0
    obtain ⟨wo, rfl⟩ : ∃ wo : World, wo = wr := ⟨_, rfl⟩
    obtain ⟨k, hk, rfl, E1⟩ := hrel
    have acc := E1.acc
    have hsz := acc.size
    have y0 := E1.h0.cell; have y1 := E1.tl.h0.cell; have l0 := E1.h0.lt; have l1 := E1.tl.h0.lt
    by_cases hkl : k < vars.length
    · obtain ⟨cb, co, hca, hcl, hC⟩ := I.out.var (by simp only; omega)
      obtain ⟨db, do', hda, hdl, hD⟩ := J.out.var (by simp only; omega)
      simp only at hca hda
      have hok := I.out.inits vars[k] (List.getElem_mem _)
      have s0 := hC k vars[k] (by simp) 0 _ rfl
      have s1 := hC k vars[k] (by simp) 1 _ rfl
      have t0 := hD k vars[k] (by simp) 0 _ rfl
      have t1 := hD k vars[k] (by simp) 1 _ rfl
      generalize vars[k] = c at *
      have q := fun W => eq_vr c hok W
      rw [← acc.cell (by simpa using hcl)] at s0 s1
      rw [← acc.cell (by simpa using hdl)] at t0 t1
      have hcl' := Nat.lt_of_lt_of_le hcl acc.size
      have hdl' := Nat.lt_of_lt_of_le hdl acc.size
      simp only [Nat.add_zero] at s0 t0
      clear hC hD
      rw [hca, hda]
      rw [hca] at y1
      rw [hda] at y0
      rw [hca, hda] at E1
      go_wp2
      go_quiet (fail)
      go_wp2
      go_roundw
      case rel => exact ⟨k + 1, by omega, by go_num, E1.drewN nq⟩
      case measure => simp [intOf]; omega
    · obtain rfl : k = vars.length := by omega
      go_wp2
      go_loopw [61] (fun i wr => ∃ k : Nat, k ≤ chans.length ∧ i = .int .i64 k ∧ Env w [(w.heap.size + 1, #[.slice va' vars.length vc', .int .i64 locks, .slice ha' chans.length hc', .slice fa' funcs.length fc']), (w.heap.size, #[.slice va vars.length vc, .int .i64 locks, .slice ha chans.length hc, .slice fa funcs.length fc])] wr) (fun i _ => chans.length - (intOf i).toNat)
      case atStart => exact ⟨0, by omega, rfl, E1⟩
      case round =>
        clear E1 y0 y1 l0 l1 acc hsz hk hkl
        obtain ⟨wo, rfl⟩ : ∃ wo : World, wo = wr := ⟨_, rfl⟩
        obtain ⟨k, hk, rfl, E1⟩ := hrel
        have acc := E1.acc
        have hsz := acc.size
        have y0 := E1.h0.cell; have y1 := E1.tl.h0.cell; have l0 := E1.h0.lt; have l1 := E1.tl.h0.lt
        by_cases hkl : k < chans.length
        · obtain ⟨cb, co, hca, hcl, hC⟩ := I.out.chan (by simp only; omega)
          obtain ⟨db, do', hda, hdl, hD⟩ := J.out.chan (by simp only; omega)
          simp only at hca hda
          have s0 := hC k chans[k] (by simp)
          have t0 := hD k chans[k] (by simp)
          generalize chans[k] = c at *
          rw [← acc.cell (by simpa using hcl)] at s0
          rw [← acc.cell (by simpa using hdl)] at t0
          have hcl' := Nat.lt_of_lt_of_le hcl acc.size
          have hdl' := Nat.lt_of_lt_of_le hdl acc.size
          clear hC hD
          rw [hca, hda]
          rw [hca] at y1
          rw [hda] at y0
          rw [hca, hda] at E1
          go_wp2
          go_quiet (fail)
          go_wp2
          go_roundw
          case rel => exact ⟨k + 1, by omega, by go_num, E1.drewN nq⟩
          case measure => simp [intOf]; omega
        · obtain rfl : k = chans.length := by omega
          go_wp2
          go_loopw [79] (fun i wr => ∃ k : Nat, k ≤ funcs.length ∧ i = .int .i64 k ∧ Env w [(w.heap.size + 1, #[.slice va' vars.length vc', .int .i64 locks, .slice ha' chans.length hc', .slice fa' funcs.length fc']), (w.heap.size, #[.slice va vars.length vc, .int .i64 locks, .slice ha chans.length hc, .slice fa funcs.length fc])] wr) (fun i _ => funcs.length - (intOf i).toNat)
          case atStart => exact ⟨0, by omega, rfl, E1⟩
          case round =>
            clear E1 y0 y1 l0 l1 acc hsz hk hkl
            obtain ⟨wo, rfl⟩ : ∃ wo : World, wo = wr := ⟨_, rfl⟩
            obtain ⟨k, hk, rfl, E1⟩ := hrel
            have acc := E1.acc
            have hsz := acc.size
            have y0 := E1.h0.cell; have y1 := E1.tl.h0.cell; have l0 := E1.h0.lt; have l1 := E1.tl.h0.lt
            by_cases hkl : k < funcs.length
            · obtain ⟨cb, co, hca, hcl, hC⟩ := I.out.func (by simp only; omega)
              have hkl' : k < funcs'.length := by rw [hl.out]; exact hkl
              obtain ⟨db, do', hda, hdl, hD⟩ := J.out.func (by simp only; omega)
              simp only at hca hda
              have s0 := hC k funcs[k] (by simp) 0 _ rfl
              have s1 := hC k funcs[k] (by simp) 1 _ rfl
              have s2 := hC k funcs[k] (by simp) 2 _ rfl
              have s3 := hC k funcs[k] (by simp) 3 _ rfl
              have t0 := hD k funcs'[k] (by simp) 0 _ rfl
              have t1 := hD k funcs'[k] (by simp) 1 _ rfl
              have t2 := hD k funcs'[k] (by simp) 2 _ rfl
              have t3 := hD k funcs'[k] (by simp) 3 _ rfl
              have hF := I.out.funcs funcs[k] (List.getElem_mem _)
              have hG := J.out.funcs funcs'[k] (List.getElem_mem _)
              have hq := nth_eq hs.out hkl hkl'
              generalize funcs[k] = f at *
              generalize funcs'[k] = f' at *
              have cF := Lib.hid (fun W (hb : Below w.heap.size w W) => samefunc_walk f f' W hq (hF.below hb) (hG.below hb))
              unfold Fn.v at cF
              clear hF hG hq
              rw [← acc.cell (by simpa using hcl)] at s0 s1 s2 s3
              rw [← acc.cell (by simpa using hdl)] at t0 t1 t2 t3
              have hcl' := Nat.lt_of_lt_of_le hcl acc.size
              have hdl' := Nat.lt_of_lt_of_le hdl acc.size
              simp only [Nat.add_zero] at s0 t0
              clear hC hD
              rw [hca, hda]
              rw [hca] at y1
              rw [hda] at y0
              rw [hca, hda] at E1
              have KS : ∀ W : World, Below wo.heap.size wo W → (fun W => (∀ o, W.cell? ⟨w.heap.size + 1, o, none⟩ = (#[.slice va' vars.length vc', .int .i64 locks, .slice ha' chans.length hc', .slice (some ⟨db, do', none⟩) funcs.length fc'] : Array Value)[o]?) ∧ (∀ o, W.cell? ⟨w.heap.size, o, none⟩ = (#[.slice va vars.length vc, .int .i64 locks, .slice ha chans.length hc, .slice (some ⟨cb, co, none⟩) funcs.length fc] : Array Value)[o]?) ∧ (W.cell? ⟨cb, co + k * 4, none⟩ = some (.int .i64 f.params)) ∧ (W.cell? ⟨cb, co + k * 4 + 1, none⟩ = some (.int .i64 f.regs)) ∧ (W.cell? ⟨cb, co + k * 4 + 2, none⟩ = some (.slice f.ca f.code.length f.ccap)) ∧ (W.cell? ⟨cb, co + k * 4 + 3, none⟩ = some (.slice f.sa f.sels.length f.scap)) ∧ (W.cell? ⟨db, do' + k * 4, none⟩ = some (.int .i64 f'.params)) ∧ (W.cell? ⟨db, do' + k * 4 + 1, none⟩ = some (.int .i64 f'.regs)) ∧ (W.cell? ⟨db, do' + k * 4 + 2, none⟩ = some (.slice f'.ca f'.code.length f'.ccap)) ∧ (W.cell? ⟨db, do' + k * 4 + 3, none⟩ = some (.slice f'.sa f'.sels.length f'.scap))) W := fun W hW => ⟨(E1.next hW).h0.cell, (E1.next hW).tl.h0.cell, (hW.cell hcl').trans s0, (hW.cell hcl').trans s1, (hW.cell hcl').trans s2, (hW.cell hcl').trans s3, (hW.cell hdl').trans t0, (hW.cell hdl').trans t1, (hW.cell hdl').trans t2, (hW.cell hdl').trans t3⟩
              replace KS := Lib.hid KS
              go_wp2
              go_region_held3 (fun W => (∀ o, W.cell? ⟨w.heap.size + 1, o, none⟩ = (#[.slice va' vars.length vc', .int .i64 locks, .slice ha' chans.length hc', .slice (some ⟨db, do', none⟩) funcs.length fc'] : Array Value)[o]?) ∧ (∀ o, W.cell? ⟨w.heap.size, o, none⟩ = (#[.slice va vars.length vc, .int .i64 locks, .slice ha chans.length hc, .slice (some ⟨cb, co, none⟩) funcs.length fc] : Array Value)[o]?) ∧ (W.cell? ⟨cb, co + k * 4, none⟩ = some (.int .i64 f.params)) ∧ (W.cell? ⟨cb, co + k * 4 + 1, none⟩ = some (.int .i64 f.regs)) ∧ (W.cell? ⟨cb, co + k * 4 + 2, none⟩ = some (.slice f.ca f.code.length f.ccap)) ∧ (W.cell? ⟨cb, co + k * 4 + 3, none⟩ = some (.slice f.sa f.sels.length f.scap)) ∧ (W.cell? ⟨db, do' + k * 4, none⟩ = some (.int .i64 f'.params)) ∧ (W.cell? ⟨db, do' + k * 4 + 1, none⟩ = some (.int .i64 f'.regs)) ∧ (W.cell? ⟨db, do' + k * 4 + 2, none⟩ = some (.slice f'.ca f'.code.length f'.ccap)) ∧ (W.cell? ⟨db, do' + k * 4 + 3, none⟩ = some (.slice f'.sa f'.sels.length f'.scap)))
                (first | assumption | exact KS.out _ (Below.refl _ _) | exact KS.out _ (Below.drew (Below.refl _ _)) | exact KS.out _ hb1 | exact KS.out _ ((Below.drew (Below.refl _ _)).trans hb1))
                (first | (go_at_call 34; ((with_reducible refine (cF.out _ (by repeat (first | exact acc | (with_reducible refine Below.drew ?_)))).mono ?_); rintro e w' ⟨rfl, hb1⟩)))
              go_wp2
              go_roundw
              case rel => exact ⟨k + 1, by omega, by go_num, (by first | exact E1.next hb1 | exact E1.drew.next hb1)⟩
              case measure => simp [intOf]; omega
            · obtain rfl : k = funcs.length := by omega
              go_wp2
              go_ret
              exact ⟨rfl, E1.acc⟩
end Go.Proofs.YtlhhmlfcodmebaaGreatDoor.Pg
