/- Functions asked whether they are the same but for where their lists lie, walked. No condition. -/
import Derived.Test.YtbcdeanmjhcgeaaDoorZa
import Derived.Test.YtbcdeanmjhcgeaaDoorZC1
import Derived.Test.YtbcdeanmjhcgeaaDoorZe
import Derived.Test.YtbcdeanmjhcgeaaDoorZSe
import Derived.BigQuiet
namespace Go.Proofs.YtbcdeanmjhcgeaaDoor.Pg
set_option linter.unusedVariables false
set_option linter.unusedSimpArgs false
open Go.ChangeShapes Go.WideShapes Go.RowKit
set_option linter.unusedVariables false
set_option maxHeartbeats 8000000 in
set_option maxRecDepth 100000 in
theorem samefunc_walk (x y : Fn) (w : World) (hb : x.bare = y.bare) (X : x.In w) (Y : y.In w) : Calls Tryd.prog 37 #[x.v, y.v] w fun e w' => e = .returned (.bool true) ∧ Below w.heap.size w w' := by
  obtain ⟨pm, rg, ca, cc, code, sa, sc, sels⟩ := x
  obtain ⟨pm', rg', ca', cc', code', sa', sc', sels'⟩ := y
  simp only [Fn.bare, Fn.mk.injEq, true_and] at hb
  obtain ⟨rfl, rfl, rfl, hs⟩ := hb
  have hl : sels'.length = sels.length := by have := congrArg List.length hs; simpa using this.symm
  have hlc := X.lenC
  have hls := X.lenS
  unfold Len at hlc hls
  unfold Fn.v
  simp only [hl]
  simp only at hlc hls
  replace X := Lib.hid X
  replace Y := Lib.hid Y
  replace hs := Lib.hid hs
  replace hl := Lib.hid hl
  go_enter Tryd.func37, Tryd.ntmps37
  have E0 := ((Env.nil (w := w)).push w.heap.size rfl #[.int .i64 pm, .int .i64 rg, .slice ca code.length cc, .slice sa sels.length sc] 77).push (w.heap.size + 1) (by simp) #[.int .i64 pm, .int .i64 rg, .slice ca' code.length cc', .slice sa' sels.length sc'] 77
  go_wp2
  go_loopw [43] (fun i wr => ∃ k : Nat, k ≤ code.length ∧ i = .int .i64 k ∧ Env w [(w.heap.size + 1, #[.int .i64 pm, .int .i64 rg, .slice ca' code.length cc', .slice sa' sels.length sc']), (w.heap.size, #[.int .i64 pm, .int .i64 rg, .slice ca code.length cc, .slice sa sels.length sc])] wr) (fun i _ => code.length - (intOf i).toNat)
  case atStart => exact ⟨0, by omega, rfl, E0⟩
  case round =>
    clear E0
    obtain ⟨k, hk, rfl, E1⟩ := hrel
    have acc := E1.acc
    have hsz := acc.size
    have y0 := E1.h0.cell; have y1 := E1.tl.h0.cell; have l0 := E1.h0.lt; have l1 := E1.tl.h0.lt
    by_cases hkl : k < code.length
    · obtain ⟨cb, co, hca, hcl, hC⟩ := X.out.ins (by simp only; omega)
      obtain ⟨db, do', hda, hdl, hD⟩ := Y.out.ins (by simp only; omega)
      simp only at hca hda
      have hok := X.out.oks code[k] (List.getElem_mem _)
      have s0 := hC k code[k] (by simp) 0 _ rfl
      have s1 := hC k code[k] (by simp) 1 _ rfl
      have s2 := hC k code[k] (by simp) 2 _ rfl
      have s3 := hC k code[k] (by simp) 3 _ rfl
      have s4 := hC k code[k] (by simp) 4 _ rfl
      have t0 := hD k code[k] (by simp) 0 _ rfl
      have t1 := hD k code[k] (by simp) 1 _ rfl
      have t2 := hD k code[k] (by simp) 2 _ rfl
      have t3 := hD k code[k] (by simp) 3 _ rfl
      have t4 := hD k code[k] (by simp) 4 _ rfl
      generalize code[k] = c at *
      rw [← acc.cell (by simpa using hcl)] at s0 s1 s2 s3 s4
      rw [← acc.cell (by simpa using hdl)] at t0 t1 t2 t3 t4
      have hcl' := Nat.lt_of_lt_of_le hcl acc.size
      have hdl' := Nat.lt_of_lt_of_le hdl acc.size
      simp only [Nat.add_zero] at s0 t0
      clear hC hD
      have q := fun W => eq_ins c hok W
      rw [hca, hda]
      rw [hca] at y1
      rw [hda] at y0
      rw [hca, hda] at E1
      go_wp2
      go_quiet (fail)
      go_wp2
      go_roundw
      case rel => exact ⟨k + 1, by omega, by go_num, E1.drewN nq⟩
      case measure => simp [intOf]; omega
    · obtain rfl : k = code.length := by omega
      go_wp2
      go_loopw [61] (fun i wr => ∃ k : Nat, k ≤ sels.length ∧ i = .int .i64 k ∧ Env w [(w.heap.size + 1, #[.int .i64 pm, .int .i64 rg, .slice ca' code.length cc', .slice sa' sels.length sc']), (w.heap.size, #[.int .i64 pm, .int .i64 rg, .slice ca code.length cc, .slice sa sels.length sc])] wr) (fun i _ => sels.length - (intOf i).toNat)
      case atStart => exact ⟨0, by omega, rfl, E1⟩
      case round =>
        clear E1 y0 y1 l0 l1 acc hsz hk hkl
        obtain ⟨wo, rfl⟩ : ∃ wo : World, wo = wr := ⟨_, rfl⟩
        obtain ⟨k, hk, rfl, E1⟩ := hrel
        have acc := E1.acc
        have hsz := acc.size
        have y0 := E1.h0.cell; have y1 := E1.tl.h0.cell; have l0 := E1.h0.lt; have l1 := E1.tl.h0.lt
        by_cases hkl : k < sels.length
        · have hkl' : k < sels'.length := by rw [hl.out]; exact hkl
          obtain ⟨cb, co, hca, hcl, hC⟩ := X.out.sel (by simp only; omega)
          obtain ⟨db, do', hda, hdl, hD⟩ := Y.out.sel (by simp only; omega)
          simp only at hca hda
          have hin := X.out.sels sels[k] (List.getElem_mem _)
          have hin' := Y.out.sels sels'[k] (List.getElem_mem _)
          have s0 := hC k sels[k] (by simp) 0 _ rfl
          have s1 := hC k sels[k] (by simp) 1 _ rfl
          have t0 := hD k sels'[k] (by simp) 0 _ rfl
          have t1 := hD k sels'[k] (by simp) 1 _ rfl
          have hq := nth_eq hs.out hkl hkl'
          generalize sels[k] = s at *
          generalize sels'[k] = s' at *
          obtain ⟨a, cap, cases, els⟩ := s
          obtain ⟨a', cap', cases', els'⟩ := s'
          simp only [Sel.bare, Sel.mk.injEq, true_and] at hq
          obtain ⟨rfl, rfl⟩ := hq
          rw [← acc.cell (by simpa using hcl)] at s0 s1
          rw [← acc.cell (by simpa using hdl)] at t0 t1
          have hcl' := Nat.lt_of_lt_of_le hcl acc.size
          have hdl' := Nat.lt_of_lt_of_le hdl acc.size
          simp only [Nat.add_zero] at s0 t0
          simp only at s1 t1
          clear hC hD
          have hcs := hin.len
          unfold Len at hcs
          simp only at hcs
          replace hin := Lib.hid hin
          replace hin' := Lib.hid hin'
          rw [hca, hda]
          rw [hca] at y1
          rw [hda] at y0
          rw [hca, hda] at E1
          have E2 := (E1.push wo.heap.size rfl #[.slice a cases.length cap, .int .i64 els] 80).push (wo.heap.size + 1) (by simp) #[.slice a' cases.length cap', .int .i64 els] 80
          go_wp2
          go_loopw [91] (fun i wr => ∃ j : Nat, j ≤ cases.length ∧ i = .int .i64 j ∧ Env w ((wo.heap.size + 1, #[.slice a' cases.length cap', .int .i64 els]) :: (wo.heap.size, #[.slice a cases.length cap, .int .i64 els]) :: [(w.heap.size + 1, #[.int .i64 pm, .int .i64 rg, .slice ca' code.length cc', .slice (some ⟨db, do', none⟩) sels.length sc']), (w.heap.size, #[.int .i64 pm, .int .i64 rg, .slice ca code.length cc, .slice (some ⟨cb, co, none⟩) sels.length sc])]) wr) (fun i _ => cases.length - (intOf i).toNat)
          case atStart => exact ⟨0, by omega, rfl, E2⟩
          case round =>
            clear E1 E2 s0 s1 t0 t1 y0 y1 l0 l1
            obtain ⟨j, hj, rfl, E2⟩ := hrel
            have acc2 := E2.acc
            have hsz2 := acc2.size
            have y2 := E2.h0.cell; have y3 := E2.tl.h0.cell; have l2 := E2.h0.lt; have l3 := E2.tl.h0.lt
            by_cases hjl : j < cases.length
            · obtain ⟨eb, eo, hea, hel, hE⟩ := hin.out.case (by simp only; omega)
              obtain ⟨gb, go', hga, hgl, hG⟩ := hin'.out.case (by simp only; omega)
              simp only at hea hga
              have hok := hin.out.oks cases[j] (List.getElem_mem _)
              have s0 := hE j cases[j] (by simp) 0 _ rfl
              have s1 := hE j cases[j] (by simp) 1 _ rfl
              have s2 := hE j cases[j] (by simp) 2 _ rfl
              have s3 := hE j cases[j] (by simp) 3 _ rfl
              have t0 := hG j cases[j] (by simp) 0 _ rfl
              have t1 := hG j cases[j] (by simp) 1 _ rfl
              have t2 := hG j cases[j] (by simp) 2 _ rfl
              have t3 := hG j cases[j] (by simp) 3 _ rfl
              generalize cases[j] = c at *
              rw [← acc2.cell (by simpa using hel)] at s0 s1 s2 s3
              rw [← acc2.cell (by simpa using hgl)] at t0 t1 t2 t3
              have hel' := Nat.lt_of_lt_of_le hel acc2.size
              have hgl' := Nat.lt_of_lt_of_le hgl acc2.size
              simp only [Nat.add_zero] at s0 t0
              clear hE hG
              have q := fun W => eq_cas c hok W
              rw [hea, hga]
              rw [hea] at y3
              rw [hga] at y2
              rw [hea, hga] at E2
              go_wp2
              go_quiet (fail)
              go_wp2
              go_roundw
              case rel => exact ⟨j + 1, by omega, by go_num, E2.drewN nq⟩
              case measure => simp [intOf]; omega
            · obtain rfl : j = cases.length := by omega
              go_wp2
              go_roundw
              case rel => exact ⟨k + 1, by omega, by go_num, E2.tl.tl⟩
              case measure => simp [intOf]; omega
        · obtain rfl : k = sels.length := by omega
          go_wp2
          go_ret
          exact ⟨rfl, E1.acc⟩
end Go.Proofs.YtbcdeanmjhcgeaaDoor.Pg
