/- The reference's checker of programs, walked: sizes. -/
import Derived.Test.YtlhhmlfcodmebaaGreatDoorZR3
namespace Go.Proofs.YtlhhmlfcodmebaaGreatDoor.Pg
set_option linter.unusedVariables false
set_option linter.unusedSimpArgs false
open Go.ChangeShapes Go.WideShapes Go.RowKit
set_option linter.unusedVariables false
set_option maxHeartbeats 8000000 in
set_option maxRecDepth 100000 in
theorem formed_walk (f : Fn) (n : Int) (w : World) (I : f.In w) : Calls Tryz.prog 61 #[.int .i64 n, f.v] w fun e w' => e = .returned (.bool (szs f (n == 0))) ∧ Below w.heap.size w w' := by
  obtain ⟨r, hr⟩ : ∃ r, Hid (r = szs f (n == 0)) := ⟨_, Lib.hid rfl⟩
  rw [← hr.out]
  unfold Fn.v
  have hls := I.lenS
  have hlc := I.lenC
  unfold Len at hls hlc
  obtain ⟨p0, p1⟩ := I.par
  obtain ⟨q0, q1⟩ := I.reg
  by_cases hb : 0 ≤ f.regs ∧ f.regs ≤ 8 ∧ 0 ≤ f.params ∧ f.params ≤ f.regs ∧ ¬ (n = 0 ∧ f.params ≠ 0) ∧ 1 ≤ f.code.length ∧ f.code.length ≤ 64 ∧ f.sels.length ≤ 4
  · have hw := Lib.hid (show r = (f.sels.drop 0).all few by
      rw [hr.out, szs_eq, show szb f (n == 0) = true by unfold szb; simp only [decide_eq_true_eq, beq_iff_eq]; exact hb, Bool.true_and]; rfl)
    obtain ⟨h1, h2, h3, h4, h5, h6, h7, h8⟩ := hb
    clear hr
    by_cases hn : n = 0
    · subst hn
      have h9 : f.params = 0 := by omega
      have h9b : (f.params != 0) = false := by simpa using h9
      clear h9 h5
      go_enter Tryz.func61, Tryz.ntmps61
      go_wp2
      go_loopw [55] (fun i wr => ∃ k : Nat, k ≤ f.sels.length ∧ i = .int .i64 k ∧ Below w.heap.size w wr ∧ Hid (r = (f.sels.drop k).all few)) (fun i _ => f.sels.length - (intOf i).toNat)
      case atStart => exact ⟨0, by omega, rfl, (by repeat (first | (with_reducible exact Below.refl _ _) | (with_reducible refine Below.drew ?_) | (with_reducible refine below_drewN ?_ _) | (with_reducible refine Below.alloc ?_ (by first | omega | (simp <;> omega)) _))), hw⟩
      case round =>
        obtain ⟨k, hk, rfl, acc, hq⟩ := hrel
        have hsz := acc.size
        by_cases hkl : k < f.sels.length
        · obtain ⟨sb, so, hsa, hsl, hS⟩ := I.sel (by omega)
          have s0 := hS k f.sels[k] (by simp) 0 _ rfl
          have s1 := hS k f.sels[k] (by simp) 1 _ rfl
          have hin := I.sels f.sels[k] (List.getElem_mem _)
          have hlc := hin.len
          unfold Len at hlc
          have hat := all_drop few f.sels k hkl
          have hfew : few f.sels[k] = decide (1 ≤ f.sels[k].cases.length ∧ f.sels[k].cases.length ≤ 4) := rfl
          rw [← acc.cell (by simpa using hsl)] at s0 s1
          have hsl' := Nat.lt_of_lt_of_le hsl acc.size
          simp only [Nat.add_zero] at s0
          rw [hat] at hq
          generalize few f.sels[k] = g at *
          generalize f.sels[k] = s at *
          have hfew' := Lib.hid hfew
          clear hS hat hfew
          rw [hsa]
          by_cases g1 : 1 ≤ s.cases.length ∧ s.cases.length ≤ 4
          · have hg : g = true := by rw [hfew'.out]; simpa using g1
            rw [hg, Bool.true_and] at hq
            obtain ⟨g1, g2⟩ := g1
            clear hg
            go_wp2
            all_goals first
              | (exfalso; omega)
              | (go_roundw
                 case rel => exact ⟨k + 1, by omega, by go_num, by repeat (first | assumption | (with_reducible refine Below.drew ?_) | (with_reducible refine below_drewN ?_ _) | (with_reducible refine Below.alloc ?_ (by first | omega | (simp <;> omega)) _)), hq⟩
                 case measure => simp [intOf]; omega)
          · have hg : g = false := by rw [hfew'.out]; simpa using g1
            rw [hg, Bool.false_and] at hq
            have hrv := Lib.hid (show r = false from hq.out)
            clear hg hq
            go_wp2
            all_goals first
              | (exfalso; omega)
              | (go_ret; exact ⟨by rw [hrv.out]; rfl, by repeat (first | assumption | (with_reducible refine Below.drew ?_) | (with_reducible refine below_drewN ?_ _) | (with_reducible refine Below.alloc ?_ (by first | omega | (simp <;> omega)) _))⟩)
        · rw [List.drop_eq_nil_of_le (by omega)] at hq
          have hrv := Lib.hid (show r = true from hq.out)
          clear hq
          go_wp2
          go_ret
          exact ⟨by rw [hrv.out]; rfl, by repeat (first | assumption | (with_reducible refine Below.drew ?_) | (with_reducible refine below_drewN ?_ _) | (with_reducible refine Below.alloc ?_ (by first | omega | (simp <;> omega)) _))⟩
    · have hnb : (n == 0) = false := by simpa using hn
      clear hn h5
      go_enter Tryz.func61, Tryz.ntmps61
      go_wp2
      go_loopw [55] (fun i wr => ∃ k : Nat, k ≤ f.sels.length ∧ i = .int .i64 k ∧ Below w.heap.size w wr ∧ Hid (r = (f.sels.drop k).all few)) (fun i _ => f.sels.length - (intOf i).toNat)
      case atStart => exact ⟨0, by omega, rfl, (by repeat (first | (with_reducible exact Below.refl _ _) | (with_reducible refine Below.drew ?_) | (with_reducible refine below_drewN ?_ _) | (with_reducible refine Below.alloc ?_ (by first | omega | (simp <;> omega)) _))), hw⟩
      case round =>
        obtain ⟨k, hk, rfl, acc, hq⟩ := hrel
        have hsz := acc.size
        by_cases hkl : k < f.sels.length
        · obtain ⟨sb, so, hsa, hsl, hS⟩ := I.sel (by omega)
          have s0 := hS k f.sels[k] (by simp) 0 _ rfl
          have s1 := hS k f.sels[k] (by simp) 1 _ rfl
          have hin := I.sels f.sels[k] (List.getElem_mem _)
          have hlc := hin.len
          unfold Len at hlc
          have hat := all_drop few f.sels k hkl
          have hfew : few f.sels[k] = decide (1 ≤ f.sels[k].cases.length ∧ f.sels[k].cases.length ≤ 4) := rfl
          rw [← acc.cell (by simpa using hsl)] at s0 s1
          have hsl' := Nat.lt_of_lt_of_le hsl acc.size
          simp only [Nat.add_zero] at s0
          rw [hat] at hq
          generalize few f.sels[k] = g at *
          generalize f.sels[k] = s at *
          have hfew' := Lib.hid hfew
          clear hS hat hfew
          rw [hsa]
          by_cases g1 : 1 ≤ s.cases.length ∧ s.cases.length ≤ 4
          · have hg : g = true := by rw [hfew'.out]; simpa using g1
            rw [hg, Bool.true_and] at hq
            obtain ⟨g1, g2⟩ := g1
            clear hg
            go_wp2
            all_goals first
              | (exfalso; omega)
              | (go_roundw
                 case rel => exact ⟨k + 1, by omega, by go_num, by repeat (first | assumption | (with_reducible refine Below.drew ?_) | (with_reducible refine below_drewN ?_ _) | (with_reducible refine Below.alloc ?_ (by first | omega | (simp <;> omega)) _)), hq⟩
                 case measure => simp [intOf]; omega)
          · have hg : g = false := by rw [hfew'.out]; simpa using g1
            rw [hg, Bool.false_and] at hq
            have hrv := Lib.hid (show r = false from hq.out)
            clear hg hq
            go_wp2
            all_goals first
              | (exfalso; omega)
              | (go_ret; exact ⟨by rw [hrv.out]; rfl, by repeat (first | assumption | (with_reducible refine Below.drew ?_) | (with_reducible refine below_drewN ?_ _) | (with_reducible refine Below.alloc ?_ (by first | omega | (simp <;> omega)) _))⟩)
        · rw [List.drop_eq_nil_of_le (by omega)] at hq
          have hrv := Lib.hid (show r = true from hq.out)
          clear hq
          go_wp2
          go_ret
          exact ⟨by rw [hrv.out]; rfl, by repeat (first | assumption | (with_reducible refine Below.drew ?_) | (with_reducible refine below_drewN ?_ _) | (with_reducible refine Below.alloc ?_ (by first | omega | (simp <;> omega)) _))⟩
  · have hw := Lib.hid (show r = false by
      rw [hr.out, szs_eq, show szb f (n == 0) = false by unfold szb; simp only [decide_eq_false_iff_not, beq_iff_eq]; exact hb, Bool.false_and])
    clear hr
    by_cases hn : n = 0
    · subst hn
      by_cases h9 : f.params = 0
      · have h9b : (f.params != 0) = false := by simpa using h9
        go_enter Tryz.func61, Tryz.ntmps61
        go_wp2
        all_goals first
          | (exfalso; omega)
          | (go_ret; exact ⟨by rw [hw.out]; rfl, (by repeat (first | (with_reducible exact Below.refl _ _) | (with_reducible refine Below.drew ?_) | (with_reducible refine below_drewN ?_ _) | (with_reducible refine Below.alloc ?_ (by first | omega | (simp <;> omega)) _)))⟩)
      · have h9b : (f.params != 0) = true := by simpa using h9
        go_enter Tryz.func61, Tryz.ntmps61
        go_wp2
        all_goals first
          | (exfalso; omega)
          | (go_ret; exact ⟨by rw [hw.out]; rfl, (by repeat (first | (with_reducible exact Below.refl _ _) | (with_reducible refine Below.drew ?_) | (with_reducible refine below_drewN ?_ _) | (with_reducible refine Below.alloc ?_ (by first | omega | (simp <;> omega)) _)))⟩)
    · have hnb : (n == 0) = false := by simpa using hn
      go_enter Tryz.func61, Tryz.ntmps61
      go_wp2
      all_goals first
        | (exfalso; omega)
        | (go_ret; exact ⟨by rw [hw.out]; rfl, (by repeat (first | (with_reducible exact Below.refl _ _) | (with_reducible refine Below.drew ?_) | (with_reducible refine below_drewN ?_ _) | (with_reducible refine Below.alloc ?_ (by first | omega | (simp <;> omega)) _)))⟩)
end Go.Proofs.YtlhhmlfcodmebaaGreatDoor.Pg
