/- The checker of programs, walked: selects. -/
import Derived.Test.YtlhhmlfcodmebaaGreatDoorZa
import Derived.Test.YtlhhmlfcodmebaaGreatDoorZC3
namespace Go.Proofs.YtlhhmlfcodmebaaGreatDoor.Pg
set_option linter.unusedVariables false
set_option linter.unusedSimpArgs false
open Go.ChangeShapes Go.WideShapes Go.RowKit
theorem firstE_drop {α : Type} (g : α → Int) (l : List α) (k : Nat) (h : k < l.length) : firstE g (l.drop k) = if g l[k] = 0 then firstE g (l.drop (k + 1)) else g l[k] := by
  rw [List.drop_eq_getElem_cons h]; rfl
theorem firstE_end {α : Type} (g : α → Int) (l : List α) (k : Nat) (h : l.length ≤ k) : firstE g (l.drop k) = 0 := by
  rw [List.drop_eq_nil_of_le h]; rfl
set_option maxHeartbeats 4000000 in
set_option maxRecDepth 100000 in
theorem selects_walk (B : Nat) (P : Pg) (f : Fn) (w : World) (C : Ck w B P f) : Calls Tryz.prog 58 #[.pointer (some ⟨B, 0, none⟩)] w fun e w' => e = .returned (.int .i64 (firstE (sel P f) f.sels)) ∧ Below w.heap.size w w' := by
  have c7 := C.c7
  have hlt := C.lt
  have hls := C.inF.lenS
  unfold Len at hls
  have cO := Lib.hid (fun n W => object_walk n P.chans.length W (len64 C.inP.lenH))
  have cR := Lib.hid (fun n W (hb : Below w.heap.size w W) => register_walk n B P f W (C.below hb))
  have cT := Lib.hid (fun n W (hb : Below w.heap.size w W) => target_walk n B P f W (C.below hb))
  obtain ⟨r, hr⟩ : ∃ r, Hid (r = firstE (sel P f) f.sels) := ⟨_, Lib.hid rfl⟩
  rw [← hr.out]
  go_enter Tryz.func58, Tryz.ntmps58
  go_wp2
  go_loopw [17] (fun i wr => ∃ k : Nat, k ≤ f.sels.length ∧ i = .int .i64 k ∧ Below w.heap.size w wr ∧ Hid (firstE (sel P f) (f.sels.drop k) = r)) (fun i _ => f.sels.length - (intOf i).toNat)
  case atStart => exact ⟨0, by omega, rfl, Below.refl _ _, Lib.hid hr.out.symm⟩
  case round =>
    obtain ⟨k, hk, rfl, acc, hq⟩ := hrel
    by_cases hkl : k < f.sels.length
    · obtain ⟨sb, so, hsa, hsl, hS⟩ := C.inF.sel (by omega)
      have s0 := hS k f.sels[k] (by simp) 0 _ rfl
      have s1 := hS k f.sels[k] (by simp) 1 _ rfl
      have hin := C.inF.sels f.sels[k] (List.getElem_mem _)
      have hsv := firstE_drop (sel P f) f.sels k hkl
      rw [hq.out] at hsv
      generalize f.sels[k] = s at *
      rw [← acc.cell (by simpa using hsl)] at s0 s1
      have c2' := (acc.cell (p := ⟨B, 2, none⟩) (by simpa using hlt)).trans C.c2
      have hsl' := Nat.lt_of_lt_of_le hsl acc.size
      have hlt' := Nat.lt_of_lt_of_le hlt acc.size
      simp only [Nat.add_zero] at s0
      have hsv' := Lib.hid hsv
      clear hS hsv c7 hq
      have hlc := hin.len
      unfold Len at hlc
      rw [hsa]
      obtain ⟨wo, hwo⟩ : ∃ wo : World, wo = wr := ⟨_, rfl⟩
      subst hwo
      obtain ⟨q, hq⟩ : ∃ q, Hid (q = firstE (cas P f) s.cases) := ⟨_, Lib.hid rfl⟩
      go_wp2
      go_loopw [24] (fun j wi => ∃ m : Nat, m ≤ s.cases.length ∧ j = .int .i64 m ∧ Below w.heap.size w wi ∧ Blk wo.heap.size #[.slice s.a s.cases.length s.cap, .int .i64 s.els] wi ∧ Hid (firstE (cas P f) (s.cases.drop m) = q)) (fun j _ => s.cases.length - (intOf j).toNat)
      case atStart => exact ⟨0, by omega, rfl, Below.alloc acc acc.size _, Blk.new _ _ _, Lib.hid hq.out.symm⟩
      case round =>
        obtain ⟨m, hm, rfl, acc', hB, hqm⟩ := hrel
        by_cases hml : m < s.cases.length
        · obtain ⟨cb, co, hca, hcl, hC⟩ := hin.case (by omega)
          have t0 := hC m s.cases[m] (by simp) 0 _ rfl
          have t1 := hC m s.cases[m] (by simp) 1 _ rfl
          have t2 := hC m s.cases[m] (by simp) 2 _ rfl
          have t3 := hC m s.cases[m] (by simp) 3 _ rfl
          have hcv := firstE_drop (cas P f) s.cases m hml
          have hok := hin.oks s.cases[m] (List.getElem_mem _)
          rw [hqm.out] at hcv
          generalize s.cases[m] = c at *
          rw [← acc'.cell (by simpa using hcl)] at t0 t1 t2 t3
          have c2'' := (acc'.cell (p := ⟨B, 2, none⟩) (by simpa using hlt)).trans C.c2
          have hcl' := Nat.lt_of_lt_of_le hcl acc'.size
          have hlt'' := Nat.lt_of_lt_of_le hlt acc'.size
          simp only [Nat.add_zero] at t0
          have hcv' := Lib.hid hcv
          clear hC hcv hqm c2' s0 s1
          obtain ⟨sd, ch, rg, to⟩ := c
          have k0 : I64 ch := hok.1
          have k1 : I64 rg := hok.2.1
          have k2 : I64 to := hok.2.2
          obtain ⟨_, _⟩ := k0
          obtain ⟨_, _⟩ := k1
          obtain ⟨_, _⟩ := k2
          simp only at t0 t1 t2 t3
          clear hok
          rw [hca]
          rw [hca] at hB
          have hsz := acc'.size
          have hrq : ∀ v, q = v → v ≠ 0 → r = v := fun v e hv => by
            have e3 : sel P f s = v := by unfold sel; rw [← hq.out, e, if_neg hv]
            rw [hsv'.out, e3, if_neg hv]
          have hrc : ∀ v, cas P f ⟨sd, ch, rg, to⟩ = v → v ≠ 0 → r = v := fun v e hv => hrq v (by rw [hcv'.out, e, if_neg hv]) hv
          by_cases h0 : obj ch P.chans.length = 0
          · have h0' : 0 ≤ ch ∧ ch < P.chans.length := by unfold obj at h0; split at h0 <;> simp_all
            obtain ⟨n, rfl⟩ : ∃ n : Nat, ch = n := ⟨ch.toNat, by omega⟩
            have hn : n < P.chans.length := by omega
            obtain ⟨hb, ho, hha, hhl, hH⟩ := C.inP.chan (by omega)
            have z0 := hH n P.chans[n] (by simp)
            have hcas : cas P f ⟨sd, n, rg, to⟩ = if (sd = true ∨ rg ≠ -1) ∧ ¬ reg f rg = 0 then 35 else if sd = true ∧ P.chans[n] = 0 then 37 else tgt f to := by
              unfold cas; rw [if_pos h0]; simp [hn]
            rw [hha] at c2''
            rw [← acc'.cell (by simpa using hhl)] at z0
            have hhl' := Nat.lt_of_lt_of_le hhl acc'.size
            clear hH
            generalize P.chans[n] = z at *
            cases sd with
            | false =>
              by_cases hr1 : rg = -1
              · subst hr1
                have hct : cas P f ⟨false, (n : Int), -1, to⟩ = tgt f to := by rw [hcas, if_neg (by simp), if_neg (by simp)]
                by_cases ht : tgt f to = 0
                · have hcq := Lib.hid (show q = firstE (cas P f) (s.cases.drop (m + 1)) by rw [hcv'.out, if_pos (by rw [hct]; exact ht)])
                  clear hrc hrq hcas
                  go_wp2_with (first | (go_at_call 95; ((with_reducible refine (cO.out _ _).mono ?_); rintro e w' ⟨rfl, rfl⟩)) | (go_at_call 96; ((with_reducible refine (cR.out _ _ (by repeat (first | assumption | (with_reducible refine Below.drew ?_) | (with_reducible refine below_drewN ?_ _) | (with_reducible refine Below.alloc ?_ (by first | omega | (simp <;> omega)) _)))).mono ?_); rintro e w' ⟨rfl, rfl⟩)) | (go_at_call 97; ((with_reducible refine (cT.out _ _ (by repeat (first | assumption | (with_reducible refine Below.drew ?_) | (with_reducible refine below_drewN ?_ _) | (with_reducible refine Below.alloc ?_ (by first | omega | (simp <;> omega)) _)))).mono ?_); rintro e w' ⟨rfl, rfl⟩)))
                  repeat (go_quiet (first | (go_at_call 95; refine Calls.quiet_of_same (cO.out _ _)) | (go_at_call 96; refine Calls.quiet_of_same (cR.out _ _ (by repeat (first | assumption | (with_reducible refine Below.drew ?_) | (with_reducible refine below_drewN ?_ _) | (with_reducible refine Below.alloc ?_ (by first | omega | (simp <;> omega)) _))))) | (go_at_call 97; refine Calls.quiet_of_same (cT.out _ _ (by repeat (first | assumption | (with_reducible refine Below.drew ?_) | (with_reducible refine below_drewN ?_ _) | (with_reducible refine Below.alloc ?_ (by first | omega | (simp <;> omega)) _)))))); go_wp2_with (first | (go_at_call 95; ((with_reducible refine (cO.out _ _).mono ?_); rintro e w' ⟨rfl, rfl⟩)) | (go_at_call 96; ((with_reducible refine (cR.out _ _ (by repeat (first | assumption | (with_reducible refine Below.drew ?_) | (with_reducible refine below_drewN ?_ _) | (with_reducible refine Below.alloc ?_ (by first | omega | (simp <;> omega)) _)))).mono ?_); rintro e w' ⟨rfl, rfl⟩)) | (go_at_call 97; ((with_reducible refine (cT.out _ _ (by repeat (first | assumption | (with_reducible refine Below.drew ?_) | (with_reducible refine below_drewN ?_ _) | (with_reducible refine Below.alloc ?_ (by first | omega | (simp <;> omega)) _)))).mono ?_); rintro e w' ⟨rfl, rfl⟩))))
                  go_roundw
                  case rel => exact ⟨m + 1, by omega, by go_num, by repeat (first | assumption | (with_reducible refine Below.drew ?_) | (with_reducible refine below_drewN ?_ _) | (with_reducible refine Below.alloc ?_ (by first | omega | (simp <;> omega)) _)), by repeat (first | exact hB | (with_reducible refine Blk.drewN ?_ _) | (with_reducible refine Blk.alloc ?_ _)), Lib.hid hcq.out.symm⟩
                  case measure => simp [intOf]; omega
                · have h38 : tgt f to = 38 := by unfold tgt at ht ⊢; split at ht <;> simp_all
                  clear ht
                  have hrv := Lib.hid (hrc 38 (by rw [hct]; exact h38) (by decide))
                  clear hrc hrq hcas
                  go_wp2_with (first | (go_at_call 95; ((with_reducible refine (cO.out _ _).mono ?_); rintro e w' ⟨rfl, rfl⟩)) | (go_at_call 96; ((with_reducible refine (cR.out _ _ (by repeat (first | assumption | (with_reducible refine Below.drew ?_) | (with_reducible refine below_drewN ?_ _) | (with_reducible refine Below.alloc ?_ (by first | omega | (simp <;> omega)) _)))).mono ?_); rintro e w' ⟨rfl, rfl⟩)) | (go_at_call 97; ((with_reducible refine (cT.out _ _ (by repeat (first | assumption | (with_reducible refine Below.drew ?_) | (with_reducible refine below_drewN ?_ _) | (with_reducible refine Below.alloc ?_ (by first | omega | (simp <;> omega)) _)))).mono ?_); rintro e w' ⟨rfl, rfl⟩)))
                  repeat (go_quiet (first | (go_at_call 95; refine Calls.quiet_of_same (cO.out _ _)) | (go_at_call 96; refine Calls.quiet_of_same (cR.out _ _ (by repeat (first | assumption | (with_reducible refine Below.drew ?_) | (with_reducible refine below_drewN ?_ _) | (with_reducible refine Below.alloc ?_ (by first | omega | (simp <;> omega)) _))))) | (go_at_call 97; refine Calls.quiet_of_same (cT.out _ _ (by repeat (first | assumption | (with_reducible refine Below.drew ?_) | (with_reducible refine below_drewN ?_ _) | (with_reducible refine Below.alloc ?_ (by first | omega | (simp <;> omega)) _)))))); go_wp2_with (first | (go_at_call 95; ((with_reducible refine (cO.out _ _).mono ?_); rintro e w' ⟨rfl, rfl⟩)) | (go_at_call 96; ((with_reducible refine (cR.out _ _ (by repeat (first | assumption | (with_reducible refine Below.drew ?_) | (with_reducible refine below_drewN ?_ _) | (with_reducible refine Below.alloc ?_ (by first | omega | (simp <;> omega)) _)))).mono ?_); rintro e w' ⟨rfl, rfl⟩)) | (go_at_call 97; ((with_reducible refine (cT.out _ _ (by repeat (first | assumption | (with_reducible refine Below.drew ?_) | (with_reducible refine below_drewN ?_ _) | (with_reducible refine Below.alloc ?_ (by first | omega | (simp <;> omega)) _)))).mono ?_); rintro e w' ⟨rfl, rfl⟩))))
                  all_goals go_ret
                  all_goals exact ⟨by first | (rw [hrv.out]; rfl) | (rw [hrv.out, ← h38]; rfl), by repeat (first | assumption | (with_reducible refine Below.drew ?_) | (with_reducible refine below_drewN ?_ _) | (with_reducible refine Below.alloc ?_ (by first | omega | (simp <;> omega)) _))⟩
              · by_cases hg : reg f rg = 0
                · have hct : cas P f ⟨false, (n : Int), rg, to⟩ = tgt f to := by rw [hcas, if_neg (by simp [hg]), if_neg (by simp)]
                  by_cases ht : tgt f to = 0
                  · have hcq := Lib.hid (show q = firstE (cas P f) (s.cases.drop (m + 1)) by rw [hcv'.out, if_pos (by rw [hct]; exact ht)])
                    clear hrc hrq hcas
                    go_wp2_with (first | (go_at_call 95; ((with_reducible refine (cO.out _ _).mono ?_); rintro e w' ⟨rfl, rfl⟩)) | (go_at_call 96; ((with_reducible refine (cR.out _ _ (by repeat (first | assumption | (with_reducible refine Below.drew ?_) | (with_reducible refine below_drewN ?_ _) | (with_reducible refine Below.alloc ?_ (by first | omega | (simp <;> omega)) _)))).mono ?_); rintro e w' ⟨rfl, rfl⟩)) | (go_at_call 97; ((with_reducible refine (cT.out _ _ (by repeat (first | assumption | (with_reducible refine Below.drew ?_) | (with_reducible refine below_drewN ?_ _) | (with_reducible refine Below.alloc ?_ (by first | omega | (simp <;> omega)) _)))).mono ?_); rintro e w' ⟨rfl, rfl⟩)))
                    repeat (go_quiet (first | (go_at_call 95; refine Calls.quiet_of_same (cO.out _ _)) | (go_at_call 96; refine Calls.quiet_of_same (cR.out _ _ (by repeat (first | assumption | (with_reducible refine Below.drew ?_) | (with_reducible refine below_drewN ?_ _) | (with_reducible refine Below.alloc ?_ (by first | omega | (simp <;> omega)) _))))) | (go_at_call 97; refine Calls.quiet_of_same (cT.out _ _ (by repeat (first | assumption | (with_reducible refine Below.drew ?_) | (with_reducible refine below_drewN ?_ _) | (with_reducible refine Below.alloc ?_ (by first | omega | (simp <;> omega)) _)))))); go_wp2_with (first | (go_at_call 95; ((with_reducible refine (cO.out _ _).mono ?_); rintro e w' ⟨rfl, rfl⟩)) | (go_at_call 96; ((with_reducible refine (cR.out _ _ (by repeat (first | assumption | (with_reducible refine Below.drew ?_) | (with_reducible refine below_drewN ?_ _) | (with_reducible refine Below.alloc ?_ (by first | omega | (simp <;> omega)) _)))).mono ?_); rintro e w' ⟨rfl, rfl⟩)) | (go_at_call 97; ((with_reducible refine (cT.out _ _ (by repeat (first | assumption | (with_reducible refine Below.drew ?_) | (with_reducible refine below_drewN ?_ _) | (with_reducible refine Below.alloc ?_ (by first | omega | (simp <;> omega)) _)))).mono ?_); rintro e w' ⟨rfl, rfl⟩))))
                    go_roundw
                    case rel => exact ⟨m + 1, by omega, by go_num, by repeat (first | assumption | (with_reducible refine Below.drew ?_) | (with_reducible refine below_drewN ?_ _) | (with_reducible refine Below.alloc ?_ (by first | omega | (simp <;> omega)) _)), by repeat (first | exact hB | (with_reducible refine Blk.drewN ?_ _) | (with_reducible refine Blk.alloc ?_ _)), Lib.hid hcq.out.symm⟩
                    case measure => simp [intOf]; omega
                  · have h38 : tgt f to = 38 := by unfold tgt at ht ⊢; split at ht <;> simp_all
                    clear ht
                    have hrv := Lib.hid (hrc 38 (by rw [hct]; exact h38) (by decide))
                    clear hrc hrq hcas
                    go_wp2_with (first | (go_at_call 95; ((with_reducible refine (cO.out _ _).mono ?_); rintro e w' ⟨rfl, rfl⟩)) | (go_at_call 96; ((with_reducible refine (cR.out _ _ (by repeat (first | assumption | (with_reducible refine Below.drew ?_) | (with_reducible refine below_drewN ?_ _) | (with_reducible refine Below.alloc ?_ (by first | omega | (simp <;> omega)) _)))).mono ?_); rintro e w' ⟨rfl, rfl⟩)) | (go_at_call 97; ((with_reducible refine (cT.out _ _ (by repeat (first | assumption | (with_reducible refine Below.drew ?_) | (with_reducible refine below_drewN ?_ _) | (with_reducible refine Below.alloc ?_ (by first | omega | (simp <;> omega)) _)))).mono ?_); rintro e w' ⟨rfl, rfl⟩)))
                    repeat (go_quiet (first | (go_at_call 95; refine Calls.quiet_of_same (cO.out _ _)) | (go_at_call 96; refine Calls.quiet_of_same (cR.out _ _ (by repeat (first | assumption | (with_reducible refine Below.drew ?_) | (with_reducible refine below_drewN ?_ _) | (with_reducible refine Below.alloc ?_ (by first | omega | (simp <;> omega)) _))))) | (go_at_call 97; refine Calls.quiet_of_same (cT.out _ _ (by repeat (first | assumption | (with_reducible refine Below.drew ?_) | (with_reducible refine below_drewN ?_ _) | (with_reducible refine Below.alloc ?_ (by first | omega | (simp <;> omega)) _)))))); go_wp2_with (first | (go_at_call 95; ((with_reducible refine (cO.out _ _).mono ?_); rintro e w' ⟨rfl, rfl⟩)) | (go_at_call 96; ((with_reducible refine (cR.out _ _ (by repeat (first | assumption | (with_reducible refine Below.drew ?_) | (with_reducible refine below_drewN ?_ _) | (with_reducible refine Below.alloc ?_ (by first | omega | (simp <;> omega)) _)))).mono ?_); rintro e w' ⟨rfl, rfl⟩)) | (go_at_call 97; ((with_reducible refine (cT.out _ _ (by repeat (first | assumption | (with_reducible refine Below.drew ?_) | (with_reducible refine below_drewN ?_ _) | (with_reducible refine Below.alloc ?_ (by first | omega | (simp <;> omega)) _)))).mono ?_); rintro e w' ⟨rfl, rfl⟩))))
                    all_goals go_ret
                    all_goals exact ⟨by first | (rw [hrv.out]; rfl) | (rw [hrv.out, ← h38]; rfl), by repeat (first | assumption | (with_reducible refine Below.drew ?_) | (with_reducible refine below_drewN ?_ _) | (with_reducible refine Below.alloc ?_ (by first | omega | (simp <;> omega)) _))⟩
                · have h35 : reg f rg = 35 := by unfold reg at hg ⊢; split at hg <;> simp_all
                  have hrv := Lib.hid (hrc 35 (by rw [hcas, if_pos ⟨Or.inr hr1, hg⟩]) (by decide))
                  clear hrc hrq hcas
                  go_wp2_with (first | (go_at_call 95; ((with_reducible refine (cO.out _ _).mono ?_); rintro e w' ⟨rfl, rfl⟩)) | (go_at_call 96; ((with_reducible refine (cR.out _ _ (by repeat (first | assumption | (with_reducible refine Below.drew ?_) | (with_reducible refine below_drewN ?_ _) | (with_reducible refine Below.alloc ?_ (by first | omega | (simp <;> omega)) _)))).mono ?_); rintro e w' ⟨rfl, rfl⟩)) | (go_at_call 97; ((with_reducible refine (cT.out _ _ (by repeat (first | assumption | (with_reducible refine Below.drew ?_) | (with_reducible refine below_drewN ?_ _) | (with_reducible refine Below.alloc ?_ (by first | omega | (simp <;> omega)) _)))).mono ?_); rintro e w' ⟨rfl, rfl⟩)))
                  repeat (go_quiet (first | (go_at_call 95; refine Calls.quiet_of_same (cO.out _ _)) | (go_at_call 96; refine Calls.quiet_of_same (cR.out _ _ (by repeat (first | assumption | (with_reducible refine Below.drew ?_) | (with_reducible refine below_drewN ?_ _) | (with_reducible refine Below.alloc ?_ (by first | omega | (simp <;> omega)) _))))) | (go_at_call 97; refine Calls.quiet_of_same (cT.out _ _ (by repeat (first | assumption | (with_reducible refine Below.drew ?_) | (with_reducible refine below_drewN ?_ _) | (with_reducible refine Below.alloc ?_ (by first | omega | (simp <;> omega)) _)))))); go_wp2_with (first | (go_at_call 95; ((with_reducible refine (cO.out _ _).mono ?_); rintro e w' ⟨rfl, rfl⟩)) | (go_at_call 96; ((with_reducible refine (cR.out _ _ (by repeat (first | assumption | (with_reducible refine Below.drew ?_) | (with_reducible refine below_drewN ?_ _) | (with_reducible refine Below.alloc ?_ (by first | omega | (simp <;> omega)) _)))).mono ?_); rintro e w' ⟨rfl, rfl⟩)) | (go_at_call 97; ((with_reducible refine (cT.out _ _ (by repeat (first | assumption | (with_reducible refine Below.drew ?_) | (with_reducible refine below_drewN ?_ _) | (with_reducible refine Below.alloc ?_ (by first | omega | (simp <;> omega)) _)))).mono ?_); rintro e w' ⟨rfl, rfl⟩))))
                  all_goals go_ret
                  all_goals exact ⟨by first | (rw [hrv.out]; rfl) | (rw [hrv.out, ← h35]; rfl), by repeat (first | assumption | (with_reducible refine Below.drew ?_) | (with_reducible refine below_drewN ?_ _) | (with_reducible refine Below.alloc ?_ (by first | omega | (simp <;> omega)) _))⟩
            | true =>
              by_cases hg : reg f rg = 0
              · by_cases hz : z = 0
                · subst hz
                  have hrv := Lib.hid (hrc 37 (by rw [hcas, if_neg (by simp [hg]), if_pos (by simp)]) (by decide))
                  clear hrc hrq hcas
                  go_wp2_with (first | (go_at_call 95; ((with_reducible refine (cO.out _ _).mono ?_); rintro e w' ⟨rfl, rfl⟩)) | (go_at_call 96; ((with_reducible refine (cR.out _ _ (by repeat (first | assumption | (with_reducible refine Below.drew ?_) | (with_reducible refine below_drewN ?_ _) | (with_reducible refine Below.alloc ?_ (by first | omega | (simp <;> omega)) _)))).mono ?_); rintro e w' ⟨rfl, rfl⟩)) | (go_at_call 97; ((with_reducible refine (cT.out _ _ (by repeat (first | assumption | (with_reducible refine Below.drew ?_) | (with_reducible refine below_drewN ?_ _) | (with_reducible refine Below.alloc ?_ (by first | omega | (simp <;> omega)) _)))).mono ?_); rintro e w' ⟨rfl, rfl⟩)))
                  repeat (go_quiet (first | (go_at_call 95; refine Calls.quiet_of_same (cO.out _ _)) | (go_at_call 96; refine Calls.quiet_of_same (cR.out _ _ (by repeat (first | assumption | (with_reducible refine Below.drew ?_) | (with_reducible refine below_drewN ?_ _) | (with_reducible refine Below.alloc ?_ (by first | omega | (simp <;> omega)) _))))) | (go_at_call 97; refine Calls.quiet_of_same (cT.out _ _ (by repeat (first | assumption | (with_reducible refine Below.drew ?_) | (with_reducible refine below_drewN ?_ _) | (with_reducible refine Below.alloc ?_ (by first | omega | (simp <;> omega)) _)))))); go_wp2_with (first | (go_at_call 95; ((with_reducible refine (cO.out _ _).mono ?_); rintro e w' ⟨rfl, rfl⟩)) | (go_at_call 96; ((with_reducible refine (cR.out _ _ (by repeat (first | assumption | (with_reducible refine Below.drew ?_) | (with_reducible refine below_drewN ?_ _) | (with_reducible refine Below.alloc ?_ (by first | omega | (simp <;> omega)) _)))).mono ?_); rintro e w' ⟨rfl, rfl⟩)) | (go_at_call 97; ((with_reducible refine (cT.out _ _ (by repeat (first | assumption | (with_reducible refine Below.drew ?_) | (with_reducible refine below_drewN ?_ _) | (with_reducible refine Below.alloc ?_ (by first | omega | (simp <;> omega)) _)))).mono ?_); rintro e w' ⟨rfl, rfl⟩))))
                  all_goals go_ret
                  all_goals exact ⟨by first | (rw [hrv.out]; rfl) | (rw [hrv.out, ← h0]; rfl), by repeat (first | assumption | (with_reducible refine Below.drew ?_) | (with_reducible refine below_drewN ?_ _) | (with_reducible refine Below.alloc ?_ (by first | omega | (simp <;> omega)) _))⟩
                · have hct : cas P f ⟨true, (n : Int), rg, to⟩ = tgt f to := by rw [hcas, if_neg (by simp [hg]), if_neg (by simp [hz])]
                  by_cases ht : tgt f to = 0
                  · have hcq := Lib.hid (show q = firstE (cas P f) (s.cases.drop (m + 1)) by rw [hcv'.out, if_pos (by rw [hct]; exact ht)])
                    clear hrc hrq hcas
                    go_wp2_with (first | (go_at_call 95; ((with_reducible refine (cO.out _ _).mono ?_); rintro e w' ⟨rfl, rfl⟩)) | (go_at_call 96; ((with_reducible refine (cR.out _ _ (by repeat (first | assumption | (with_reducible refine Below.drew ?_) | (with_reducible refine below_drewN ?_ _) | (with_reducible refine Below.alloc ?_ (by first | omega | (simp <;> omega)) _)))).mono ?_); rintro e w' ⟨rfl, rfl⟩)) | (go_at_call 97; ((with_reducible refine (cT.out _ _ (by repeat (first | assumption | (with_reducible refine Below.drew ?_) | (with_reducible refine below_drewN ?_ _) | (with_reducible refine Below.alloc ?_ (by first | omega | (simp <;> omega)) _)))).mono ?_); rintro e w' ⟨rfl, rfl⟩)))
                    repeat (go_quiet (first | (go_at_call 95; refine Calls.quiet_of_same (cO.out _ _)) | (go_at_call 96; refine Calls.quiet_of_same (cR.out _ _ (by repeat (first | assumption | (with_reducible refine Below.drew ?_) | (with_reducible refine below_drewN ?_ _) | (with_reducible refine Below.alloc ?_ (by first | omega | (simp <;> omega)) _))))) | (go_at_call 97; refine Calls.quiet_of_same (cT.out _ _ (by repeat (first | assumption | (with_reducible refine Below.drew ?_) | (with_reducible refine below_drewN ?_ _) | (with_reducible refine Below.alloc ?_ (by first | omega | (simp <;> omega)) _)))))); go_wp2_with (first | (go_at_call 95; ((with_reducible refine (cO.out _ _).mono ?_); rintro e w' ⟨rfl, rfl⟩)) | (go_at_call 96; ((with_reducible refine (cR.out _ _ (by repeat (first | assumption | (with_reducible refine Below.drew ?_) | (with_reducible refine below_drewN ?_ _) | (with_reducible refine Below.alloc ?_ (by first | omega | (simp <;> omega)) _)))).mono ?_); rintro e w' ⟨rfl, rfl⟩)) | (go_at_call 97; ((with_reducible refine (cT.out _ _ (by repeat (first | assumption | (with_reducible refine Below.drew ?_) | (with_reducible refine below_drewN ?_ _) | (with_reducible refine Below.alloc ?_ (by first | omega | (simp <;> omega)) _)))).mono ?_); rintro e w' ⟨rfl, rfl⟩))))
                    go_roundw
                    case rel => exact ⟨m + 1, by omega, by go_num, by repeat (first | assumption | (with_reducible refine Below.drew ?_) | (with_reducible refine below_drewN ?_ _) | (with_reducible refine Below.alloc ?_ (by first | omega | (simp <;> omega)) _)), by repeat (first | exact hB | (with_reducible refine Blk.drewN ?_ _) | (with_reducible refine Blk.alloc ?_ _)), Lib.hid hcq.out.symm⟩
                    case measure => simp [intOf]; omega
                  · have h38 : tgt f to = 38 := by unfold tgt at ht ⊢; split at ht <;> simp_all
                    clear ht
                    have hrv := Lib.hid (hrc 38 (by rw [hct]; exact h38) (by decide))
                    clear hrc hrq hcas
                    go_wp2_with (first | (go_at_call 95; ((with_reducible refine (cO.out _ _).mono ?_); rintro e w' ⟨rfl, rfl⟩)) | (go_at_call 96; ((with_reducible refine (cR.out _ _ (by repeat (first | assumption | (with_reducible refine Below.drew ?_) | (with_reducible refine below_drewN ?_ _) | (with_reducible refine Below.alloc ?_ (by first | omega | (simp <;> omega)) _)))).mono ?_); rintro e w' ⟨rfl, rfl⟩)) | (go_at_call 97; ((with_reducible refine (cT.out _ _ (by repeat (first | assumption | (with_reducible refine Below.drew ?_) | (with_reducible refine below_drewN ?_ _) | (with_reducible refine Below.alloc ?_ (by first | omega | (simp <;> omega)) _)))).mono ?_); rintro e w' ⟨rfl, rfl⟩)))
                    repeat (go_quiet (first | (go_at_call 95; refine Calls.quiet_of_same (cO.out _ _)) | (go_at_call 96; refine Calls.quiet_of_same (cR.out _ _ (by repeat (first | assumption | (with_reducible refine Below.drew ?_) | (with_reducible refine below_drewN ?_ _) | (with_reducible refine Below.alloc ?_ (by first | omega | (simp <;> omega)) _))))) | (go_at_call 97; refine Calls.quiet_of_same (cT.out _ _ (by repeat (first | assumption | (with_reducible refine Below.drew ?_) | (with_reducible refine below_drewN ?_ _) | (with_reducible refine Below.alloc ?_ (by first | omega | (simp <;> omega)) _)))))); go_wp2_with (first | (go_at_call 95; ((with_reducible refine (cO.out _ _).mono ?_); rintro e w' ⟨rfl, rfl⟩)) | (go_at_call 96; ((with_reducible refine (cR.out _ _ (by repeat (first | assumption | (with_reducible refine Below.drew ?_) | (with_reducible refine below_drewN ?_ _) | (with_reducible refine Below.alloc ?_ (by first | omega | (simp <;> omega)) _)))).mono ?_); rintro e w' ⟨rfl, rfl⟩)) | (go_at_call 97; ((with_reducible refine (cT.out _ _ (by repeat (first | assumption | (with_reducible refine Below.drew ?_) | (with_reducible refine below_drewN ?_ _) | (with_reducible refine Below.alloc ?_ (by first | omega | (simp <;> omega)) _)))).mono ?_); rintro e w' ⟨rfl, rfl⟩))))
                    all_goals go_ret
                    all_goals exact ⟨by first | (rw [hrv.out]; rfl) | (rw [hrv.out, ← h38]; rfl), by repeat (first | assumption | (with_reducible refine Below.drew ?_) | (with_reducible refine below_drewN ?_ _) | (with_reducible refine Below.alloc ?_ (by first | omega | (simp <;> omega)) _))⟩
              · have h35 : reg f rg = 35 := by unfold reg at hg ⊢; split at hg <;> simp_all
                have hrv := Lib.hid (hrc 35 (by rw [hcas, if_pos ⟨Or.inl rfl, hg⟩]) (by decide))
                clear hrc hrq hcas
                go_wp2_with (first | (go_at_call 95; ((with_reducible refine (cO.out _ _).mono ?_); rintro e w' ⟨rfl, rfl⟩)) | (go_at_call 96; ((with_reducible refine (cR.out _ _ (by repeat (first | assumption | (with_reducible refine Below.drew ?_) | (with_reducible refine below_drewN ?_ _) | (with_reducible refine Below.alloc ?_ (by first | omega | (simp <;> omega)) _)))).mono ?_); rintro e w' ⟨rfl, rfl⟩)) | (go_at_call 97; ((with_reducible refine (cT.out _ _ (by repeat (first | assumption | (with_reducible refine Below.drew ?_) | (with_reducible refine below_drewN ?_ _) | (with_reducible refine Below.alloc ?_ (by first | omega | (simp <;> omega)) _)))).mono ?_); rintro e w' ⟨rfl, rfl⟩)))
                repeat (go_quiet (first | (go_at_call 95; refine Calls.quiet_of_same (cO.out _ _)) | (go_at_call 96; refine Calls.quiet_of_same (cR.out _ _ (by repeat (first | assumption | (with_reducible refine Below.drew ?_) | (with_reducible refine below_drewN ?_ _) | (with_reducible refine Below.alloc ?_ (by first | omega | (simp <;> omega)) _))))) | (go_at_call 97; refine Calls.quiet_of_same (cT.out _ _ (by repeat (first | assumption | (with_reducible refine Below.drew ?_) | (with_reducible refine below_drewN ?_ _) | (with_reducible refine Below.alloc ?_ (by first | omega | (simp <;> omega)) _)))))); go_wp2_with (first | (go_at_call 95; ((with_reducible refine (cO.out _ _).mono ?_); rintro e w' ⟨rfl, rfl⟩)) | (go_at_call 96; ((with_reducible refine (cR.out _ _ (by repeat (first | assumption | (with_reducible refine Below.drew ?_) | (with_reducible refine below_drewN ?_ _) | (with_reducible refine Below.alloc ?_ (by first | omega | (simp <;> omega)) _)))).mono ?_); rintro e w' ⟨rfl, rfl⟩)) | (go_at_call 97; ((with_reducible refine (cT.out _ _ (by repeat (first | assumption | (with_reducible refine Below.drew ?_) | (with_reducible refine below_drewN ?_ _) | (with_reducible refine Below.alloc ?_ (by first | omega | (simp <;> omega)) _)))).mono ?_); rintro e w' ⟨rfl, rfl⟩))))
                all_goals go_ret
                all_goals exact ⟨by first | (rw [hrv.out]; rfl) | (rw [hrv.out, ← h35]; rfl), by repeat (first | assumption | (with_reducible refine Below.drew ?_) | (with_reducible refine below_drewN ?_ _) | (with_reducible refine Below.alloc ?_ (by first | omega | (simp <;> omega)) _))⟩
          · have h36 : obj ch (P.chans.length : Int) = 36 := by unfold obj at h0 ⊢; split at h0 <;> simp_all
            have hcas := h36
            have hrv := Lib.hid (hrc 36 (by unfold cas; exact if_neg h0) (by decide))
            clear hrc hrq hcas
            go_wp2_with (first | (go_at_call 95; ((with_reducible refine (cO.out _ _).mono ?_); rintro e w' ⟨rfl, rfl⟩)) | (go_at_call 96; ((with_reducible refine (cR.out _ _ (by repeat (first | assumption | (with_reducible refine Below.drew ?_) | (with_reducible refine below_drewN ?_ _) | (with_reducible refine Below.alloc ?_ (by first | omega | (simp <;> omega)) _)))).mono ?_); rintro e w' ⟨rfl, rfl⟩)) | (go_at_call 97; ((with_reducible refine (cT.out _ _ (by repeat (first | assumption | (with_reducible refine Below.drew ?_) | (with_reducible refine below_drewN ?_ _) | (with_reducible refine Below.alloc ?_ (by first | omega | (simp <;> omega)) _)))).mono ?_); rintro e w' ⟨rfl, rfl⟩)))
            repeat (go_quiet (first | (go_at_call 95; refine Calls.quiet_of_same (cO.out _ _)) | (go_at_call 96; refine Calls.quiet_of_same (cR.out _ _ (by repeat (first | assumption | (with_reducible refine Below.drew ?_) | (with_reducible refine below_drewN ?_ _) | (with_reducible refine Below.alloc ?_ (by first | omega | (simp <;> omega)) _))))) | (go_at_call 97; refine Calls.quiet_of_same (cT.out _ _ (by repeat (first | assumption | (with_reducible refine Below.drew ?_) | (with_reducible refine below_drewN ?_ _) | (with_reducible refine Below.alloc ?_ (by first | omega | (simp <;> omega)) _)))))); go_wp2_with (first | (go_at_call 95; ((with_reducible refine (cO.out _ _).mono ?_); rintro e w' ⟨rfl, rfl⟩)) | (go_at_call 96; ((with_reducible refine (cR.out _ _ (by repeat (first | assumption | (with_reducible refine Below.drew ?_) | (with_reducible refine below_drewN ?_ _) | (with_reducible refine Below.alloc ?_ (by first | omega | (simp <;> omega)) _)))).mono ?_); rintro e w' ⟨rfl, rfl⟩)) | (go_at_call 97; ((with_reducible refine (cT.out _ _ (by repeat (first | assumption | (with_reducible refine Below.drew ?_) | (with_reducible refine below_drewN ?_ _) | (with_reducible refine Below.alloc ?_ (by first | omega | (simp <;> omega)) _)))).mono ?_); rintro e w' ⟨rfl, rfl⟩))))
            all_goals go_ret
            all_goals exact ⟨by first | (rw [hrv.out]; rfl) | (rw [hrv.out, ← h36]; rfl), by repeat (first | assumption | (with_reducible refine Below.drew ?_) | (with_reducible refine below_drewN ?_ _) | (with_reducible refine Below.alloc ?_ (by first | omega | (simp <;> omega)) _))⟩
        · have hq0 : q = 0 := by rw [← hqm.out]; exact firstE_end _ _ _ (by omega)
          have hsz := acc'.size
          have hBc := hB.cell
          have hBl := hB.lt
          by_cases he : s.els = -1
          · have h1 : sel P f s = 0 := by unfold sel; rw [← hq.out, if_pos hq0, if_pos he]
            have h2 : r = firstE (sel P f) (f.sels.drop (k + 1)) := by rw [hsv'.out, if_pos h1]
            have h2' := Lib.hid h2
            clear h2 h1 hq0
            go_wp2
            go_roundw
            case rel => exact ⟨k + 1, by omega, by go_num, by repeat (first | assumption | (with_reducible refine Below.drew ?_) | (with_reducible refine below_drewN ?_ _) | (with_reducible refine Below.alloc ?_ (by first | omega | (simp <;> omega)) _)), Lib.hid h2'.out.symm⟩
            case measure => simp [intOf]; omega
          · have h1 : sel P f s = tgt f s.els := by unfold sel; rw [← hq.out, if_pos hq0, if_neg he]
            by_cases ht : tgt f s.els = 0
            · have h2 : r = firstE (sel P f) (f.sels.drop (k + 1)) := by rw [hsv'.out, if_pos (by rw [h1]; exact ht)]
              have h2' := Lib.hid h2
              clear h2 h1 hq0
              go_wp2_with ((go_at_call 97; ((with_reducible refine (cT.out _ _ (by repeat (first | assumption | (with_reducible refine Below.drew ?_) | (with_reducible refine below_drewN ?_ _) | (with_reducible refine Below.alloc ?_ (by first | omega | (simp <;> omega)) _)))).mono ?_); rintro e w' ⟨rfl, rfl⟩)))
              go_roundw
              case rel => exact ⟨k + 1, by omega, by go_num, by repeat (first | assumption | (with_reducible refine Below.drew ?_) | (with_reducible refine below_drewN ?_ _) | (with_reducible refine Below.alloc ?_ (by first | omega | (simp <;> omega)) _)), Lib.hid h2'.out.symm⟩
              case measure => simp [intOf]; omega
            · have h38 : tgt f s.els = 38 := by unfold tgt at ht ⊢; split at ht <;> simp_all
              have hrv := Lib.hid (show r = 38 by rw [hsv'.out, h1, if_neg ht, h38])
              clear ht h1 hq0
              go_wp2_with ((go_at_call 97; ((with_reducible refine (cT.out _ _ (by repeat (first | assumption | (with_reducible refine Below.drew ?_) | (with_reducible refine below_drewN ?_ _) | (with_reducible refine Below.alloc ?_ (by first | omega | (simp <;> omega)) _)))).mono ?_); rintro e w' ⟨rfl, rfl⟩)))
              go_ret
              exact ⟨by first | (rw [hrv.out]; rfl) | (rw [hrv.out, ← h38]; rfl), by repeat (first | assumption | (with_reducible refine Below.drew ?_) | (with_reducible refine below_drewN ?_ _) | (with_reducible refine Below.alloc ?_ (by first | omega | (simp <;> omega)) _))⟩
    · have hr0 : r = 0 := by rw [← hq.out]; exact firstE_end _ _ _ (by omega)
      go_wp2
      go_ret
      exact ⟨by rw [hr0]; rfl, acc⟩
end Go.Proofs.YtlhhmlfcodmebaaGreatDoor.Pg
