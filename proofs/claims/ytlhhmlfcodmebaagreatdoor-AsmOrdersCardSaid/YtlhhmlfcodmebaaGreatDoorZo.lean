/- Several texts of one proof, one behind the other. A line's words, walked: scarab. The condition: the reader in memory. | A line's words, walked: var. The condition: the reader in memory. | A line's words, walked: atomic. The condition: the reader in memory. | A line's words, walked: mutex. The condition: the reader in memory. | A line's words, walked: chan. The condition: the reader in memory. -/
import Derived.Test.YtlhhmlfcodmebaaGreatDoorZl
namespace Go.Proofs.YtlhhmlfcodmebaaGreatDoor.Pg
set_option linter.unusedVariables false
set_option linter.unusedSimpArgs false
open Go.RowKit Go.WideShapes Go.ChangeShapes
open Go.Proofs.YtlhhmlfcodmebaaGreatDoor.Wd (KM kindsL kinds_walk run_get at? opOf_walk bt)
set_option linter.unusedVariables false
set_option linter.unusedSimpArgs false
set_option maxHeartbeats 8000000 in
set_option maxRecDepth 100000 in
theorem line_scarab (w0 : World) (n0 r N g cap : Nat) (p : Pg) (last : Nat) (W : World) (ws : List ByteArray) (R : Rd w0 n0 r N p (atOf last) W) (hI : Inv p last) (hw : Ws n0 r g (bt [115, 99, 97, 114, 97, 98] :: ws) W) (hg : ∀ row ∈ p.rows, row.blk ≠ some g) (h1 : ∀ x ∈ ws, x.size ≤ 281474976710656) (hc : ws.length + 1 ≤ cap) (hlw : ws.length ≤ 1000000) (hN : N ≤ 1000000) :
    Calls Tryz.prog 25 #[.pointer (some ⟨r, 0, none⟩), .slice (some ⟨g, 0, none⟩) (ws.length + 1) cap] W
      (Does w0 n0 r N W (if may 1 last = false then 53 else if ws.length ≠ 0 then 52 else (vals (lets 1 0) (ws.map (·.data.toList))).2) (taken p.bare 1 0 (vals (lets 1 0) (ws.map (·.data.toList))).1) (atOf 1)) := by
  have v0 := hw.cell 0 _ rfl
  have cK := Lib.hid (fun W => kinds_walk W)
  have KS := Lib.hid (fun W' (hb : Below W.heap.size W W') => (hw.below hb).cell 0 _ rfl)
  have dr : Below W.heap.size W W.drew := Below.drew (Below.refl _ _)
  have vA := fun o => KS.out (W.alloc o) ((Below.refl _ _).alloc (Nat.le_refl _) o)
  have hl0 : (0 : Int) < (ws.length : Int) + 1 := by omega
  have hat : ∀ b1 b2 b3 b4, at? (bt [115, 99, 97, 114, 97, 98]) (kindsL b1 b2 b3 b4) = some (.agg #[.int .i64 1, .func (.func 79) #[] #[], .func (.func 80) #[] #[]]) := fun b1 b2 b3 b4 => by kernel_rfl
  have cO := Lib.hid (fun W => opOf_walk (bt [115, 99, 97, 114, 97, 98]) W (by decide))
  replace hat := Lib.hid hat
  have hdo := Lib.hid (fun W' (hb : Below W.heap.size W W') (hm : may 1 last = true) (hl : ws.length = 0) => does_scarab (Asks.below ⟨R, hw, hg, h1, hc, hN, hI⟩ hb) hm hl)
  generalize bt [115, 99, 97, 114, 97, 98] = x0 at *
  obtain ⟨E, hE⟩ : ∃ E, Hid (E = (if may 1 last = false then 53 else if ws.length ≠ 0 then 52 else (vals (lets 1 0) (ws.map (·.data.toList))).2)) := ⟨_, Lib.hid rfl⟩
  rw [← hE.out]
  obtain ⟨Q, hQ⟩ : ∃ Q, Hid (Q = taken p.bare 1 0 (vals (lets 1 0) (ws.map (·.data.toList))).1) := ⟨_, Lib.hid rfl⟩
  rw [← hQ.out]
  go_enter Tryz.func25, Tryz.ntmps25
  go_wp2_with (fail)
  go_cut [5, 6] (fun q k wx => ∃ (P bx : Nat), q = .pointer (some ⟨P, 0, none⟩) ∧ k = .bool true ∧ Below W.heap.size W wx ∧ Blk P #[.int .i64 1, .func (.func 79) #[] #[], .func (.func 80) #[] #[]] wx ∧ W.heap.size ≤ P ∧ True)
  case first =>
    go_region_law ((go_simp; go_at_call 53; ((with_reducible refine (cK.out _).mono ?_); rintro e W2 ⟨m, b1, b2, b3, b4, rfl, K⟩; have hget := run_get K.map x0; rw [hat.out] at hget; simp only [Option.getD_some, Option.isSome_some] at hget; have hget2 := fun o => run_get (W := W2.alloc o) ((Below.heap_alloc W2 o m K.lt).trans K.map) x0; rw [hat.out] at hget2; simp only [Option.getD_some, Option.isSome_some] at hget2; (first | (have bW : Below W.heap.size W W2 := dr.trans K.env.acc) | (have bW : Below W.heap.size W W2 := (((Below.refl W.heap.size W).alloc (Nat.le_refl _) _).drew).trans (K.env.acc.mono (by simp)))); have vW := KS.out W2 bW; have vW2 := fun o => KS.out (W2.alloc o) (bW.alloc bW.size o); try (have EB := ((Blk.new W #[.int .i64 0, .nilFunc, .nilFunc] 112).drew).below K.env.acc; have e0 : W2.cell? ⟨W.heap.size, 0, none⟩ = some (.int .i64 0) := EB.cell 0; have e1 : W2.cell? ⟨W.heap.size, 1, none⟩ = some .nilFunc := EB.cell 1; have e2 : W2.cell? ⟨W.heap.size, 2, none⟩ = some .nilFunc := EB.cell 2; have ez := EB.fr))))
    all_goals have bsz := bW.size
    all_goals go_wp2_with (fail)
    all_goals go_meet
    all_goals first
      | exact ⟨_, b1, rfl, rfl, bW.alloc bsz _, Blk.new _ _ _, bsz, trivial⟩
      | exact ⟨_, b1, rfl, rfl, (bW.alloc bsz _).drew, (Blk.new _ _ _).drew, bsz, trivial⟩
      | exact ⟨_, b1, rfl, rfl, ((bW.setCell (Nat.le_refl _) _).setCell (Nat.le_refl _) _).setCell (Nat.le_refl _) _, ((EB.set 0 (by simp) _).set 1 (by simp) _).set 2 (by simp) _, Nat.le_refl _, trivial⟩
  case rest =>
    obtain ⟨P, bx, rfl, rfl, bC, BP, hP, Bx⟩ := hcut
    have RC := R.below bC
    have fC := Frm.below (r := r) R.hi bC
    have vC := KS.out wc bC
    have qC : wc.cell? ⟨P, 1, none⟩ = some (.func (.func 79) #[] #[]) := BP.cell 1
    clear hat cK vA dr v0
    have cM := Lib.hid (fun W' (hb : Below wc.heap.size wc W') => (show Calls Tryz.prog 79 #[.pointer (some ⟨r, 0, none⟩)] W' fun e w' => e = .returned (.bool (may 1 last)) ∧ Below W'.heap.size W' w' from by rw [← may_1]; exact may0_walk w0 n0 r N p (atOf last) W' (RC.below hb)))
    have cD := Lib.hid (fun W' (hb : Below wc.heap.size wc W') (hm : may 1 last = true) (hl : ws.length = 0) => hdo.out W' (bC.trans (hb.mono bC.size)) hm hl)
    have hP1 := BP.lt
    by_cases hm : may 1 last = true
    · by_cases hl : ws.length = 0
      · have hq : ((ws.length : Int) + 1 != 1) = false := by rw [bne_eq_false_iff_eq]; omega
        have hE1 : E = (vals (lets 1 0) (ws.map (·.data.toList))).2 := by rw [hE.out, if_neg (by rw [hm]; decide), if_neg (by simpa using hl)]
        have cM1 := Lib.hid (fun W' hb => (cM.out W' hb))
        rw [hm] at cM1
        have cD1 := Lib.hid (fun W' hb => cD.out W' hb hm hl)
        unfold ask at cD1
        rw [← hE1, ← hQ.out] at cD1
        replace hl := Lib.hid hl
        replace hE1 := Lib.hid hE1
        clear cM cD
        go_wp2_with (first
          | (go_at_call 54; ((with_reducible refine (cO.out _).mono ?_); rintro e W3 ⟨rfl, b3⟩; have q3 : W3.cell? ⟨P, 1, none⟩ = some (.func (.func 79) #[] #[]) := (BP.below b3).cell 1))
          | (go_at_call 79; ((with_reducible refine (cM1.out _ b3).mono ?_); rintro e W4 ⟨rfl, b4⟩; have q4 : W4.cell? ⟨P, 0, none⟩ = some (.int .i64 1) := ((BP.below b3).below b4).cell 0; have q5 : W4.cell? ⟨P, 2, none⟩ = some (.func (.func 80) #[] #[]) := ((BP.below b3).below b4).cell 2))
          | (go_at_call 80; ((with_reducible refine (cD1.out _ (b3.trans (b4.mono b3.size))).mono ?_); rintro e W5 ⟨rfl, fD, okD⟩)))
        go_ret
        exact ⟨rfl, (fC.trans (Frm.below RC.hi (b3.trans (b4.mono b3.size)))).trans fD, okD⟩
      · have hq : ((ws.length : Int) + 1 != 1) = true := by rw [bne_iff_ne]; intro z; exact hl (by omega)
        have hE1 : E = 52 := by rw [hE.out, if_neg (by rw [hm]; decide), if_pos hl]
        have cM1 := Lib.hid (fun W' hb => (cM.out W' hb))
        rw [hm] at cM1
        clear cM cD
        go_wp2_with (first
          | (go_at_call 54; ((with_reducible refine (cO.out _).mono ?_); rintro e W3 ⟨rfl, b3⟩; have q3 : W3.cell? ⟨P, 1, none⟩ = some (.func (.func 79) #[] #[]) := (BP.below b3).cell 1))
          | (go_at_call 79; ((with_reducible refine (cM1.out _ b3).mono ?_); rintro e W4 ⟨rfl, b4⟩; have q4 : W4.cell? ⟨P, 0, none⟩ = some (.int .i64 1) := ((BP.below b3).below b4).cell 0; have q5 : W4.cell? ⟨P, 2, none⟩ = some (.func (.func 80) #[] #[]) := ((BP.below b3).below b4).cell 2)))
        all_goals go_ret
        all_goals exact ⟨by rw [hE1]; rfl, fC.trans (Frm.below RC.hi (b3.trans (b4.mono b3.size))), fun z => by rw [hE1] at z; cases z⟩
    · have hE1 : E = 53 := by rw [hE.out, if_pos (by simpa using hm)]
      have hm' : may 1 last = false := by simpa using hm
      have cM1 := Lib.hid (fun W' hb => (cM.out W' hb))
      rw [hm'] at cM1
      clear cM cD
      go_wp2_with (first
        | (go_at_call 54; ((with_reducible refine (cO.out _).mono ?_); rintro e W3 ⟨rfl, b3⟩; have q3 : W3.cell? ⟨P, 1, none⟩ = some (.func (.func 79) #[] #[]) := (BP.below b3).cell 1))
        | (go_at_call 79; ((with_reducible refine (cM1.out _ b3).mono ?_); rintro e W4 ⟨rfl, b4⟩; have q4 : W4.cell? ⟨P, 0, none⟩ = some (.int .i64 1) := ((BP.below b3).below b4).cell 0; have q5 : W4.cell? ⟨P, 2, none⟩ = some (.func (.func 80) #[] #[]) := ((BP.below b3).below b4).cell 2)))
      all_goals go_ret
      all_goals exact ⟨by rw [hE1]; rfl, fC.trans (Frm.below RC.hi (b3.trans (b4.mono b3.size))), fun z => by rw [hE1] at z; cases z⟩
end Go.Proofs.YtlhhmlfcodmebaaGreatDoor.Pg
namespace Go.Proofs.YtlhhmlfcodmebaaGreatDoor.Pg
set_option linter.unusedVariables false
set_option linter.unusedSimpArgs false
open Go.RowKit Go.WideShapes Go.ChangeShapes
open Go.Proofs.YtlhhmlfcodmebaaGreatDoor.Wd (KM kindsL kinds_walk run_get at? opOf_walk bt)
set_option linter.unusedVariables false
set_option linter.unusedSimpArgs false
set_option maxHeartbeats 8000000 in
set_option maxRecDepth 100000 in
theorem line_var (w0 : World) (n0 r N g cap : Nat) (p : Pg) (last : Nat) (W : World) (ws : List ByteArray) (R : Rd w0 n0 r N p (atOf last) W) (hI : Inv p last) (hw : Ws n0 r g (bt [118, 97, 114] :: ws) W) (hg : ∀ row ∈ p.rows, row.blk ≠ some g) (h1 : ∀ x ∈ ws, x.size ≤ 281474976710656) (hc : ws.length + 1 ≤ cap) (hlw : ws.length ≤ 1000000) (hN : N ≤ 1000000) :
    Calls Tryz.prog 25 #[.pointer (some ⟨r, 0, none⟩), .slice (some ⟨g, 0, none⟩) (ws.length + 1) cap] W
      (Does w0 n0 r N W (if may 2 last = false then 53 else if ws.length ≠ 1 then 52 else (vals (lets 2 0) (ws.map (·.data.toList))).2) (taken p.bare 2 0 (vals (lets 2 0) (ws.map (·.data.toList))).1) (atOf 2)) := by
  have v0 := hw.cell 0 _ rfl
  have cK := Lib.hid (fun W => kinds_walk W)
  have KS := Lib.hid (fun W' (hb : Below W.heap.size W W') => (hw.below hb).cell 0 _ rfl)
  have dr : Below W.heap.size W W.drew := Below.drew (Below.refl _ _)
  have vA := fun o => KS.out (W.alloc o) ((Below.refl _ _).alloc (Nat.le_refl _) o)
  have hl0 : (0 : Int) < (ws.length : Int) + 1 := by omega
  have hat : ∀ b1 b2 b3 b4, at? (bt [118, 97, 114]) (kindsL b1 b2 b3 b4) = some (.agg #[.int .i64 2, .func (.func 78) #[] #[.pointer (some ⟨b1, 0, none⟩)], .func (.func 81) #[] #[]]) := fun b1 b2 b3 b4 => by kernel_rfl
  have cO := Lib.hid (fun W => opOf_walk (bt [118, 97, 114]) W (by decide))
  replace hat := Lib.hid hat
  have hdo := Lib.hid (fun W' (hb : Below W.heap.size W W') (hm : may 2 last = true) (hl : ws.length = 1) => does_var (Asks.below ⟨R, hw, hg, h1, hc, hN, hI⟩ hb) hm hl)
  generalize bt [118, 97, 114] = x0 at *
  obtain ⟨E, hE⟩ : ∃ E, Hid (E = (if may 2 last = false then 53 else if ws.length ≠ 1 then 52 else (vals (lets 2 0) (ws.map (·.data.toList))).2)) := ⟨_, Lib.hid rfl⟩
  rw [← hE.out]
  obtain ⟨Q, hQ⟩ : ∃ Q, Hid (Q = taken p.bare 2 0 (vals (lets 2 0) (ws.map (·.data.toList))).1) := ⟨_, Lib.hid rfl⟩
  rw [← hQ.out]
  go_enter Tryz.func25, Tryz.ntmps25
  go_wp2_with (fail)
  go_cut [5, 6] (fun q k wx => ∃ (P bx : Nat), q = .pointer (some ⟨P, 0, none⟩) ∧ k = .bool true ∧ Below W.heap.size W wx ∧ Blk P #[.int .i64 2, .func (.func 78) #[] #[.pointer (some ⟨bx, 0, none⟩)], .func (.func 81) #[] #[]] wx ∧ W.heap.size ≤ P ∧ Blk bx #[.int .i64 1] wx)
  case first =>
    go_region_law ((go_simp; go_at_call 53; ((with_reducible refine (cK.out _).mono ?_); rintro e W2 ⟨m, b1, b2, b3, b4, rfl, K⟩; have hget := run_get K.map x0; rw [hat.out] at hget; simp only [Option.getD_some, Option.isSome_some] at hget; have hget2 := fun o => run_get (W := W2.alloc o) ((Below.heap_alloc W2 o m K.lt).trans K.map) x0; rw [hat.out] at hget2; simp only [Option.getD_some, Option.isSome_some] at hget2; (first | (have bW : Below W.heap.size W W2 := dr.trans K.env.acc) | (have bW : Below W.heap.size W W2 := (((Below.refl W.heap.size W).alloc (Nat.le_refl _) _).drew).trans (K.env.acc.mono (by simp)))); have vW := KS.out W2 bW; have vW2 := fun o => KS.out (W2.alloc o) (bW.alloc bW.size o); try (have EB := ((Blk.new W #[.int .i64 0, .nilFunc, .nilFunc] 112).drew).below K.env.acc; have e0 : W2.cell? ⟨W.heap.size, 0, none⟩ = some (.int .i64 0) := EB.cell 0; have e1 : W2.cell? ⟨W.heap.size, 1, none⟩ = some .nilFunc := EB.cell 1; have e2 : W2.cell? ⟨W.heap.size, 2, none⟩ = some .nilFunc := EB.cell 2; have ez := EB.fr))))
    all_goals have bsz := bW.size
    all_goals have hbx := K.env.blk (b1, #[.int .i64 1]) (by simp)
    all_goals go_wp2_with (fail)
    all_goals go_meet
    all_goals first
      | exact ⟨_, b1, rfl, rfl, bW.alloc bsz _, Blk.new _ _ _, bsz, hbx.alloc _⟩
      | exact ⟨_, b1, rfl, rfl, (bW.alloc bsz _).drew, (Blk.new _ _ _).drew, bsz, (hbx.alloc _).drew⟩
      | exact ⟨_, b1, rfl, rfl, ((bW.setCell (Nat.le_refl _) _).setCell (Nat.le_refl _) _).setCell (Nat.le_refl _) _, ((EB.set 0 (by simp) _).set 1 (by simp) _).set 2 (by simp) _, Nat.le_refl _, ((hbx.setOther W.heap.size 0 _ (fun e => by have h4 := hbx.cell 0; rw [e, EB.cell 0] at h4; simp at h4)).setOther W.heap.size 1 _ (fun e => by have h4 := hbx.cell 0; rw [e, EB.cell 0] at h4; simp at h4)).setOther W.heap.size 2 _ (fun e => by have h4 := hbx.cell 0; rw [e, EB.cell 0] at h4; simp at h4)⟩
  case rest =>
    obtain ⟨P, bx, rfl, rfl, bC, BP, hP, Bx⟩ := hcut
    have RC := R.below bC
    have fC := Frm.below (r := r) R.hi bC
    have vC := KS.out wc bC
    have qC : wc.cell? ⟨P, 1, none⟩ = some (.func (.func 78) #[] #[.pointer (some ⟨bx, 0, none⟩)]) := BP.cell 1
    clear hat cK vA dr v0
    have cM := Lib.hid (fun W' (hb : Below wc.heap.size wc W') => (show Calls Tryz.prog 78 #[.pointer (some ⟨r, 0, none⟩), .pointer (some ⟨bx, 0, none⟩)] W' fun e w' => e = .returned (.bool (may 2 last)) ∧ Below W'.heap.size W' w' from by rw [← may_2]; exact mayTo_walk w0 n0 r N bx 1 p (atOf last) W' (RC.below hb) ((Bx.below hb).cell 0)))
    have cD := Lib.hid (fun W' (hb : Below wc.heap.size wc W') (hm : may 2 last = true) (hl : ws.length = 1) => hdo.out W' (bC.trans (hb.mono bC.size)) hm hl)
    have hP1 := BP.lt
    by_cases hm : may 2 last = true
    · by_cases hl : ws.length = 1
      · have hq : ((ws.length : Int) + 1 != 2) = false := by rw [bne_eq_false_iff_eq]; omega
        have hE1 : E = (vals (lets 2 0) (ws.map (·.data.toList))).2 := by rw [hE.out, if_neg (by rw [hm]; decide), if_neg (by simpa using hl)]
        have cM1 := Lib.hid (fun W' hb => (cM.out W' hb))
        rw [hm] at cM1
        have cD1 := Lib.hid (fun W' hb => cD.out W' hb hm hl)
        unfold ask at cD1
        rw [← hE1, ← hQ.out] at cD1
        replace hl := Lib.hid hl
        replace hE1 := Lib.hid hE1
        clear cM cD
        go_wp2_with (first
          | (go_at_call 54; ((with_reducible refine (cO.out _).mono ?_); rintro e W3 ⟨rfl, b3⟩; have q3 : W3.cell? ⟨P, 1, none⟩ = some (.func (.func 78) #[] #[.pointer (some ⟨bx, 0, none⟩)]) := (BP.below b3).cell 1))
          | (go_at_call 78; ((with_reducible refine (cM1.out _ b3).mono ?_); rintro e W4 ⟨rfl, b4⟩; have q4 : W4.cell? ⟨P, 0, none⟩ = some (.int .i64 2) := ((BP.below b3).below b4).cell 0; have q5 : W4.cell? ⟨P, 2, none⟩ = some (.func (.func 81) #[] #[]) := ((BP.below b3).below b4).cell 2))
          | (go_at_call 81; ((with_reducible refine (cD1.out _ (b3.trans (b4.mono b3.size))).mono ?_); rintro e W5 ⟨rfl, fD, okD⟩)))
        go_ret
        exact ⟨rfl, (fC.trans (Frm.below RC.hi (b3.trans (b4.mono b3.size)))).trans fD, okD⟩
      · have hq : ((ws.length : Int) + 1 != 2) = true := by rw [bne_iff_ne]; intro z; exact hl (by omega)
        have hE1 : E = 52 := by rw [hE.out, if_neg (by rw [hm]; decide), if_pos hl]
        have cM1 := Lib.hid (fun W' hb => (cM.out W' hb))
        rw [hm] at cM1
        clear cM cD
        go_wp2_with (first
          | (go_at_call 54; ((with_reducible refine (cO.out _).mono ?_); rintro e W3 ⟨rfl, b3⟩; have q3 : W3.cell? ⟨P, 1, none⟩ = some (.func (.func 78) #[] #[.pointer (some ⟨bx, 0, none⟩)]) := (BP.below b3).cell 1))
          | (go_at_call 78; ((with_reducible refine (cM1.out _ b3).mono ?_); rintro e W4 ⟨rfl, b4⟩; have q4 : W4.cell? ⟨P, 0, none⟩ = some (.int .i64 2) := ((BP.below b3).below b4).cell 0; have q5 : W4.cell? ⟨P, 2, none⟩ = some (.func (.func 81) #[] #[]) := ((BP.below b3).below b4).cell 2)))
        all_goals go_ret
        all_goals exact ⟨by rw [hE1]; rfl, fC.trans (Frm.below RC.hi (b3.trans (b4.mono b3.size))), fun z => by rw [hE1] at z; cases z⟩
    · have hE1 : E = 53 := by rw [hE.out, if_pos (by simpa using hm)]
      have hm' : may 2 last = false := by simpa using hm
      have cM1 := Lib.hid (fun W' hb => (cM.out W' hb))
      rw [hm'] at cM1
      clear cM cD
      go_wp2_with (first
        | (go_at_call 54; ((with_reducible refine (cO.out _).mono ?_); rintro e W3 ⟨rfl, b3⟩; have q3 : W3.cell? ⟨P, 1, none⟩ = some (.func (.func 78) #[] #[.pointer (some ⟨bx, 0, none⟩)]) := (BP.below b3).cell 1))
        | (go_at_call 78; ((with_reducible refine (cM1.out _ b3).mono ?_); rintro e W4 ⟨rfl, b4⟩; have q4 : W4.cell? ⟨P, 0, none⟩ = some (.int .i64 2) := ((BP.below b3).below b4).cell 0; have q5 : W4.cell? ⟨P, 2, none⟩ = some (.func (.func 81) #[] #[]) := ((BP.below b3).below b4).cell 2)))
      all_goals go_ret
      all_goals exact ⟨by rw [hE1]; rfl, fC.trans (Frm.below RC.hi (b3.trans (b4.mono b3.size))), fun z => by rw [hE1] at z; cases z⟩
end Go.Proofs.YtlhhmlfcodmebaaGreatDoor.Pg
namespace Go.Proofs.YtlhhmlfcodmebaaGreatDoor.Pg
set_option linter.unusedVariables false
set_option linter.unusedSimpArgs false
open Go.RowKit Go.WideShapes Go.ChangeShapes
open Go.Proofs.YtlhhmlfcodmebaaGreatDoor.Wd (KM kindsL kinds_walk run_get at? opOf_walk bt)
set_option linter.unusedVariables false
set_option linter.unusedSimpArgs false
set_option maxHeartbeats 8000000 in
set_option maxRecDepth 100000 in
theorem line_atomic (w0 : World) (n0 r N g cap : Nat) (p : Pg) (last : Nat) (W : World) (ws : List ByteArray) (R : Rd w0 n0 r N p (atOf last) W) (hI : Inv p last) (hw : Ws n0 r g (bt [97, 116, 111, 109, 105, 99] :: ws) W) (hg : ∀ row ∈ p.rows, row.blk ≠ some g) (h1 : ∀ x ∈ ws, x.size ≤ 281474976710656) (hc : ws.length + 1 ≤ cap) (hlw : ws.length ≤ 1000000) (hN : N ≤ 1000000) :
    Calls Tryz.prog 25 #[.pointer (some ⟨r, 0, none⟩), .slice (some ⟨g, 0, none⟩) (ws.length + 1) cap] W
      (Does w0 n0 r N W (if may 3 last = false then 53 else if ws.length ≠ 1 then 52 else (vals (lets 3 0) (ws.map (·.data.toList))).2) (taken p.bare 3 0 (vals (lets 3 0) (ws.map (·.data.toList))).1) (atOf 3)) := by
  have v0 := hw.cell 0 _ rfl
  have cK := Lib.hid (fun W => kinds_walk W)
  have KS := Lib.hid (fun W' (hb : Below W.heap.size W W') => (hw.below hb).cell 0 _ rfl)
  have dr : Below W.heap.size W W.drew := Below.drew (Below.refl _ _)
  have vA := fun o => KS.out (W.alloc o) ((Below.refl _ _).alloc (Nat.le_refl _) o)
  have hl0 : (0 : Int) < (ws.length : Int) + 1 := by omega
  have hat : ∀ b1 b2 b3 b4, at? (bt [97, 116, 111, 109, 105, 99]) (kindsL b1 b2 b3 b4) = some (.agg #[.int .i64 2, .func (.func 78) #[] #[.pointer (some ⟨b2, 0, none⟩)], .func (.func 81) #[] #[]]) := fun b1 b2 b3 b4 => by kernel_rfl
  have cO := Lib.hid (fun W => opOf_walk (bt [97, 116, 111, 109, 105, 99]) W (by decide))
  replace hat := Lib.hid hat
  have hdo := Lib.hid (fun W' (hb : Below W.heap.size W W') (hm : may 3 last = true) (hl : ws.length = 1) => does_atomic (Asks.below ⟨R, hw, hg, h1, hc, hN, hI⟩ hb) hm hl)
  generalize bt [97, 116, 111, 109, 105, 99] = x0 at *
  obtain ⟨E, hE⟩ : ∃ E, Hid (E = (if may 3 last = false then 53 else if ws.length ≠ 1 then 52 else (vals (lets 3 0) (ws.map (·.data.toList))).2)) := ⟨_, Lib.hid rfl⟩
  rw [← hE.out]
  obtain ⟨Q, hQ⟩ : ∃ Q, Hid (Q = taken p.bare 3 0 (vals (lets 3 0) (ws.map (·.data.toList))).1) := ⟨_, Lib.hid rfl⟩
  rw [← hQ.out]
  go_enter Tryz.func25, Tryz.ntmps25
  go_wp2_with (fail)
  go_cut [5, 6] (fun q k wx => ∃ (P bx : Nat), q = .pointer (some ⟨P, 0, none⟩) ∧ k = .bool true ∧ Below W.heap.size W wx ∧ Blk P #[.int .i64 2, .func (.func 78) #[] #[.pointer (some ⟨bx, 0, none⟩)], .func (.func 81) #[] #[]] wx ∧ W.heap.size ≤ P ∧ Blk bx #[.int .i64 1] wx)
  case first =>
    go_region_law ((go_simp; go_at_call 53; ((with_reducible refine (cK.out _).mono ?_); rintro e W2 ⟨m, b1, b2, b3, b4, rfl, K⟩; have hget := run_get K.map x0; rw [hat.out] at hget; simp only [Option.getD_some, Option.isSome_some] at hget; have hget2 := fun o => run_get (W := W2.alloc o) ((Below.heap_alloc W2 o m K.lt).trans K.map) x0; rw [hat.out] at hget2; simp only [Option.getD_some, Option.isSome_some] at hget2; (first | (have bW : Below W.heap.size W W2 := dr.trans K.env.acc) | (have bW : Below W.heap.size W W2 := (((Below.refl W.heap.size W).alloc (Nat.le_refl _) _).drew).trans (K.env.acc.mono (by simp)))); have vW := KS.out W2 bW; have vW2 := fun o => KS.out (W2.alloc o) (bW.alloc bW.size o); try (have EB := ((Blk.new W #[.int .i64 0, .nilFunc, .nilFunc] 112).drew).below K.env.acc; have e0 : W2.cell? ⟨W.heap.size, 0, none⟩ = some (.int .i64 0) := EB.cell 0; have e1 : W2.cell? ⟨W.heap.size, 1, none⟩ = some .nilFunc := EB.cell 1; have e2 : W2.cell? ⟨W.heap.size, 2, none⟩ = some .nilFunc := EB.cell 2; have ez := EB.fr))))
    all_goals have bsz := bW.size
    all_goals have hbx := K.env.blk (b2, #[.int .i64 1]) (by simp)
    all_goals go_wp2_with (fail)
    all_goals go_meet
    all_goals first
      | exact ⟨_, b2, rfl, rfl, bW.alloc bsz _, Blk.new _ _ _, bsz, hbx.alloc _⟩
      | exact ⟨_, b2, rfl, rfl, (bW.alloc bsz _).drew, (Blk.new _ _ _).drew, bsz, (hbx.alloc _).drew⟩
      | exact ⟨_, b2, rfl, rfl, ((bW.setCell (Nat.le_refl _) _).setCell (Nat.le_refl _) _).setCell (Nat.le_refl _) _, ((EB.set 0 (by simp) _).set 1 (by simp) _).set 2 (by simp) _, Nat.le_refl _, ((hbx.setOther W.heap.size 0 _ (fun e => by have h4 := hbx.cell 0; rw [e, EB.cell 0] at h4; simp at h4)).setOther W.heap.size 1 _ (fun e => by have h4 := hbx.cell 0; rw [e, EB.cell 0] at h4; simp at h4)).setOther W.heap.size 2 _ (fun e => by have h4 := hbx.cell 0; rw [e, EB.cell 0] at h4; simp at h4)⟩
  case rest =>
    obtain ⟨P, bx, rfl, rfl, bC, BP, hP, Bx⟩ := hcut
    have RC := R.below bC
    have fC := Frm.below (r := r) R.hi bC
    have vC := KS.out wc bC
    have qC : wc.cell? ⟨P, 1, none⟩ = some (.func (.func 78) #[] #[.pointer (some ⟨bx, 0, none⟩)]) := BP.cell 1
    clear hat cK vA dr v0
    have cM := Lib.hid (fun W' (hb : Below wc.heap.size wc W') => (show Calls Tryz.prog 78 #[.pointer (some ⟨r, 0, none⟩), .pointer (some ⟨bx, 0, none⟩)] W' fun e w' => e = .returned (.bool (may 3 last)) ∧ Below W'.heap.size W' w' from by rw [← may_3]; exact mayTo_walk w0 n0 r N bx 1 p (atOf last) W' (RC.below hb) ((Bx.below hb).cell 0)))
    have cD := Lib.hid (fun W' (hb : Below wc.heap.size wc W') (hm : may 3 last = true) (hl : ws.length = 1) => hdo.out W' (bC.trans (hb.mono bC.size)) hm hl)
    have hP1 := BP.lt
    by_cases hm : may 3 last = true
    · by_cases hl : ws.length = 1
      · have hq : ((ws.length : Int) + 1 != 2) = false := by rw [bne_eq_false_iff_eq]; omega
        have hE1 : E = (vals (lets 3 0) (ws.map (·.data.toList))).2 := by rw [hE.out, if_neg (by rw [hm]; decide), if_neg (by simpa using hl)]
        have cM1 := Lib.hid (fun W' hb => (cM.out W' hb))
        rw [hm] at cM1
        have cD1 := Lib.hid (fun W' hb => cD.out W' hb hm hl)
        unfold ask at cD1
        rw [← hE1, ← hQ.out] at cD1
        replace hl := Lib.hid hl
        replace hE1 := Lib.hid hE1
        clear cM cD
        go_wp2_with (first
          | (go_at_call 54; ((with_reducible refine (cO.out _).mono ?_); rintro e W3 ⟨rfl, b3⟩; have q3 : W3.cell? ⟨P, 1, none⟩ = some (.func (.func 78) #[] #[.pointer (some ⟨bx, 0, none⟩)]) := (BP.below b3).cell 1))
          | (go_at_call 78; ((with_reducible refine (cM1.out _ b3).mono ?_); rintro e W4 ⟨rfl, b4⟩; have q4 : W4.cell? ⟨P, 0, none⟩ = some (.int .i64 2) := ((BP.below b3).below b4).cell 0; have q5 : W4.cell? ⟨P, 2, none⟩ = some (.func (.func 81) #[] #[]) := ((BP.below b3).below b4).cell 2))
          | (go_at_call 81; ((with_reducible refine (cD1.out _ (b3.trans (b4.mono b3.size))).mono ?_); rintro e W5 ⟨rfl, fD, okD⟩)))
        go_ret
        exact ⟨rfl, (fC.trans (Frm.below RC.hi (b3.trans (b4.mono b3.size)))).trans fD, okD⟩
      · have hq : ((ws.length : Int) + 1 != 2) = true := by rw [bne_iff_ne]; intro z; exact hl (by omega)
        have hE1 : E = 52 := by rw [hE.out, if_neg (by rw [hm]; decide), if_pos hl]
        have cM1 := Lib.hid (fun W' hb => (cM.out W' hb))
        rw [hm] at cM1
        clear cM cD
        go_wp2_with (first
          | (go_at_call 54; ((with_reducible refine (cO.out _).mono ?_); rintro e W3 ⟨rfl, b3⟩; have q3 : W3.cell? ⟨P, 1, none⟩ = some (.func (.func 78) #[] #[.pointer (some ⟨bx, 0, none⟩)]) := (BP.below b3).cell 1))
          | (go_at_call 78; ((with_reducible refine (cM1.out _ b3).mono ?_); rintro e W4 ⟨rfl, b4⟩; have q4 : W4.cell? ⟨P, 0, none⟩ = some (.int .i64 2) := ((BP.below b3).below b4).cell 0; have q5 : W4.cell? ⟨P, 2, none⟩ = some (.func (.func 81) #[] #[]) := ((BP.below b3).below b4).cell 2)))
        all_goals go_ret
        all_goals exact ⟨by rw [hE1]; rfl, fC.trans (Frm.below RC.hi (b3.trans (b4.mono b3.size))), fun z => by rw [hE1] at z; cases z⟩
    · have hE1 : E = 53 := by rw [hE.out, if_pos (by simpa using hm)]
      have hm' : may 3 last = false := by simpa using hm
      have cM1 := Lib.hid (fun W' hb => (cM.out W' hb))
      rw [hm'] at cM1
      clear cM cD
      go_wp2_with (first
        | (go_at_call 54; ((with_reducible refine (cO.out _).mono ?_); rintro e W3 ⟨rfl, b3⟩; have q3 : W3.cell? ⟨P, 1, none⟩ = some (.func (.func 78) #[] #[.pointer (some ⟨bx, 0, none⟩)]) := (BP.below b3).cell 1))
        | (go_at_call 78; ((with_reducible refine (cM1.out _ b3).mono ?_); rintro e W4 ⟨rfl, b4⟩; have q4 : W4.cell? ⟨P, 0, none⟩ = some (.int .i64 2) := ((BP.below b3).below b4).cell 0; have q5 : W4.cell? ⟨P, 2, none⟩ = some (.func (.func 81) #[] #[]) := ((BP.below b3).below b4).cell 2)))
      all_goals go_ret
      all_goals exact ⟨by rw [hE1]; rfl, fC.trans (Frm.below RC.hi (b3.trans (b4.mono b3.size))), fun z => by rw [hE1] at z; cases z⟩
end Go.Proofs.YtlhhmlfcodmebaaGreatDoor.Pg
namespace Go.Proofs.YtlhhmlfcodmebaaGreatDoor.Pg
set_option linter.unusedVariables false
set_option linter.unusedSimpArgs false
open Go.RowKit Go.WideShapes Go.ChangeShapes
open Go.Proofs.YtlhhmlfcodmebaaGreatDoor.Wd (KM kindsL kinds_walk run_get at? opOf_walk bt)
set_option linter.unusedVariables false
set_option linter.unusedSimpArgs false
set_option maxHeartbeats 8000000 in
set_option maxRecDepth 100000 in
theorem line_mutex (w0 : World) (n0 r N g cap : Nat) (p : Pg) (last : Nat) (W : World) (ws : List ByteArray) (R : Rd w0 n0 r N p (atOf last) W) (hI : Inv p last) (hw : Ws n0 r g (bt [109, 117, 116, 101, 120] :: ws) W) (hg : ∀ row ∈ p.rows, row.blk ≠ some g) (h1 : ∀ x ∈ ws, x.size ≤ 281474976710656) (hc : ws.length + 1 ≤ cap) (hlw : ws.length ≤ 1000000) (hN : N ≤ 1000000) :
    Calls Tryz.prog 25 #[.pointer (some ⟨r, 0, none⟩), .slice (some ⟨g, 0, none⟩) (ws.length + 1) cap] W
      (Does w0 n0 r N W (if may 4 last = false then 53 else if ws.length ≠ 0 then 52 else (vals (lets 4 0) (ws.map (·.data.toList))).2) (taken p.bare 4 0 (vals (lets 4 0) (ws.map (·.data.toList))).1) (atOf 4)) := by
  have v0 := hw.cell 0 _ rfl
  have cK := Lib.hid (fun W => kinds_walk W)
  have KS := Lib.hid (fun W' (hb : Below W.heap.size W W') => (hw.below hb).cell 0 _ rfl)
  have dr : Below W.heap.size W W.drew := Below.drew (Below.refl _ _)
  have vA := fun o => KS.out (W.alloc o) ((Below.refl _ _).alloc (Nat.le_refl _) o)
  have hl0 : (0 : Int) < (ws.length : Int) + 1 := by omega
  have hat : ∀ b1 b2 b3 b4, at? (bt [109, 117, 116, 101, 120]) (kindsL b1 b2 b3 b4) = some (.agg #[.int .i64 1, .func (.func 78) #[] #[.pointer (some ⟨b3, 0, none⟩)], .func (.func 82) #[] #[]]) := fun b1 b2 b3 b4 => by kernel_rfl
  have cO := Lib.hid (fun W => opOf_walk (bt [109, 117, 116, 101, 120]) W (by decide))
  replace hat := Lib.hid hat
  have hdo := Lib.hid (fun W' (hb : Below W.heap.size W W') (hm : may 4 last = true) (hl : ws.length = 0) => does_mutex (Asks.below ⟨R, hw, hg, h1, hc, hN, hI⟩ hb) hm hl)
  generalize bt [109, 117, 116, 101, 120] = x0 at *
  obtain ⟨E, hE⟩ : ∃ E, Hid (E = (if may 4 last = false then 53 else if ws.length ≠ 0 then 52 else (vals (lets 4 0) (ws.map (·.data.toList))).2)) := ⟨_, Lib.hid rfl⟩
  rw [← hE.out]
  obtain ⟨Q, hQ⟩ : ∃ Q, Hid (Q = taken p.bare 4 0 (vals (lets 4 0) (ws.map (·.data.toList))).1) := ⟨_, Lib.hid rfl⟩
  rw [← hQ.out]
  go_enter Tryz.func25, Tryz.ntmps25
  go_wp2_with (fail)
  go_cut [5, 6] (fun q k wx => ∃ (P bx : Nat), q = .pointer (some ⟨P, 0, none⟩) ∧ k = .bool true ∧ Below W.heap.size W wx ∧ Blk P #[.int .i64 1, .func (.func 78) #[] #[.pointer (some ⟨bx, 0, none⟩)], .func (.func 82) #[] #[]] wx ∧ W.heap.size ≤ P ∧ Blk bx #[.int .i64 2] wx)
  case first =>
    go_region_law ((go_simp; go_at_call 53; ((with_reducible refine (cK.out _).mono ?_); rintro e W2 ⟨m, b1, b2, b3, b4, rfl, K⟩; have hget := run_get K.map x0; rw [hat.out] at hget; simp only [Option.getD_some, Option.isSome_some] at hget; have hget2 := fun o => run_get (W := W2.alloc o) ((Below.heap_alloc W2 o m K.lt).trans K.map) x0; rw [hat.out] at hget2; simp only [Option.getD_some, Option.isSome_some] at hget2; (first | (have bW : Below W.heap.size W W2 := dr.trans K.env.acc) | (have bW : Below W.heap.size W W2 := (((Below.refl W.heap.size W).alloc (Nat.le_refl _) _).drew).trans (K.env.acc.mono (by simp)))); have vW := KS.out W2 bW; have vW2 := fun o => KS.out (W2.alloc o) (bW.alloc bW.size o); try (have EB := ((Blk.new W #[.int .i64 0, .nilFunc, .nilFunc] 112).drew).below K.env.acc; have e0 : W2.cell? ⟨W.heap.size, 0, none⟩ = some (.int .i64 0) := EB.cell 0; have e1 : W2.cell? ⟨W.heap.size, 1, none⟩ = some .nilFunc := EB.cell 1; have e2 : W2.cell? ⟨W.heap.size, 2, none⟩ = some .nilFunc := EB.cell 2; have ez := EB.fr))))
    all_goals have bsz := bW.size
    all_goals have hbx := K.env.blk (b3, #[.int .i64 2]) (by simp)
    all_goals go_wp2_with (fail)
    all_goals go_meet
    all_goals first
      | exact ⟨_, b3, rfl, rfl, bW.alloc bsz _, Blk.new _ _ _, bsz, hbx.alloc _⟩
      | exact ⟨_, b3, rfl, rfl, (bW.alloc bsz _).drew, (Blk.new _ _ _).drew, bsz, (hbx.alloc _).drew⟩
      | exact ⟨_, b3, rfl, rfl, ((bW.setCell (Nat.le_refl _) _).setCell (Nat.le_refl _) _).setCell (Nat.le_refl _) _, ((EB.set 0 (by simp) _).set 1 (by simp) _).set 2 (by simp) _, Nat.le_refl _, ((hbx.setOther W.heap.size 0 _ (fun e => by have h4 := hbx.cell 0; rw [e, EB.cell 0] at h4; simp at h4)).setOther W.heap.size 1 _ (fun e => by have h4 := hbx.cell 0; rw [e, EB.cell 0] at h4; simp at h4)).setOther W.heap.size 2 _ (fun e => by have h4 := hbx.cell 0; rw [e, EB.cell 0] at h4; simp at h4)⟩
  case rest =>
    obtain ⟨P, bx, rfl, rfl, bC, BP, hP, Bx⟩ := hcut
    have RC := R.below bC
    have fC := Frm.below (r := r) R.hi bC
    have vC := KS.out wc bC
    have qC : wc.cell? ⟨P, 1, none⟩ = some (.func (.func 78) #[] #[.pointer (some ⟨bx, 0, none⟩)]) := BP.cell 1
    clear hat cK vA dr v0
    have cM := Lib.hid (fun W' (hb : Below wc.heap.size wc W') => (show Calls Tryz.prog 78 #[.pointer (some ⟨r, 0, none⟩), .pointer (some ⟨bx, 0, none⟩)] W' fun e w' => e = .returned (.bool (may 4 last)) ∧ Below W'.heap.size W' w' from by rw [← may_4]; exact mayTo_walk w0 n0 r N bx 2 p (atOf last) W' (RC.below hb) ((Bx.below hb).cell 0)))
    have cD := Lib.hid (fun W' (hb : Below wc.heap.size wc W') (hm : may 4 last = true) (hl : ws.length = 0) => hdo.out W' (bC.trans (hb.mono bC.size)) hm hl)
    have hP1 := BP.lt
    by_cases hm : may 4 last = true
    · by_cases hl : ws.length = 0
      · have hq : ((ws.length : Int) + 1 != 1) = false := by rw [bne_eq_false_iff_eq]; omega
        have hE1 : E = (vals (lets 4 0) (ws.map (·.data.toList))).2 := by rw [hE.out, if_neg (by rw [hm]; decide), if_neg (by simpa using hl)]
        have cM1 := Lib.hid (fun W' hb => (cM.out W' hb))
        rw [hm] at cM1
        have cD1 := Lib.hid (fun W' hb => cD.out W' hb hm hl)
        unfold ask at cD1
        rw [← hE1, ← hQ.out] at cD1
        replace hl := Lib.hid hl
        replace hE1 := Lib.hid hE1
        clear cM cD
        go_wp2_with (first
          | (go_at_call 54; ((with_reducible refine (cO.out _).mono ?_); rintro e W3 ⟨rfl, b3⟩; have q3 : W3.cell? ⟨P, 1, none⟩ = some (.func (.func 78) #[] #[.pointer (some ⟨bx, 0, none⟩)]) := (BP.below b3).cell 1))
          | (go_at_call 78; ((with_reducible refine (cM1.out _ b3).mono ?_); rintro e W4 ⟨rfl, b4⟩; have q4 : W4.cell? ⟨P, 0, none⟩ = some (.int .i64 1) := ((BP.below b3).below b4).cell 0; have q5 : W4.cell? ⟨P, 2, none⟩ = some (.func (.func 82) #[] #[]) := ((BP.below b3).below b4).cell 2))
          | (go_at_call 82; ((with_reducible refine (cD1.out _ (b3.trans (b4.mono b3.size))).mono ?_); rintro e W5 ⟨rfl, fD, okD⟩)))
        go_ret
        exact ⟨rfl, (fC.trans (Frm.below RC.hi (b3.trans (b4.mono b3.size)))).trans fD, okD⟩
      · have hq : ((ws.length : Int) + 1 != 1) = true := by rw [bne_iff_ne]; intro z; exact hl (by omega)
        have hE1 : E = 52 := by rw [hE.out, if_neg (by rw [hm]; decide), if_pos hl]
        have cM1 := Lib.hid (fun W' hb => (cM.out W' hb))
        rw [hm] at cM1
        clear cM cD
        go_wp2_with (first
          | (go_at_call 54; ((with_reducible refine (cO.out _).mono ?_); rintro e W3 ⟨rfl, b3⟩; have q3 : W3.cell? ⟨P, 1, none⟩ = some (.func (.func 78) #[] #[.pointer (some ⟨bx, 0, none⟩)]) := (BP.below b3).cell 1))
          | (go_at_call 78; ((with_reducible refine (cM1.out _ b3).mono ?_); rintro e W4 ⟨rfl, b4⟩; have q4 : W4.cell? ⟨P, 0, none⟩ = some (.int .i64 1) := ((BP.below b3).below b4).cell 0; have q5 : W4.cell? ⟨P, 2, none⟩ = some (.func (.func 82) #[] #[]) := ((BP.below b3).below b4).cell 2)))
        all_goals go_ret
        all_goals exact ⟨by rw [hE1]; rfl, fC.trans (Frm.below RC.hi (b3.trans (b4.mono b3.size))), fun z => by rw [hE1] at z; cases z⟩
    · have hE1 : E = 53 := by rw [hE.out, if_pos (by simpa using hm)]
      have hm' : may 4 last = false := by simpa using hm
      have cM1 := Lib.hid (fun W' hb => (cM.out W' hb))
      rw [hm'] at cM1
      clear cM cD
      go_wp2_with (first
        | (go_at_call 54; ((with_reducible refine (cO.out _).mono ?_); rintro e W3 ⟨rfl, b3⟩; have q3 : W3.cell? ⟨P, 1, none⟩ = some (.func (.func 78) #[] #[.pointer (some ⟨bx, 0, none⟩)]) := (BP.below b3).cell 1))
        | (go_at_call 78; ((with_reducible refine (cM1.out _ b3).mono ?_); rintro e W4 ⟨rfl, b4⟩; have q4 : W4.cell? ⟨P, 0, none⟩ = some (.int .i64 1) := ((BP.below b3).below b4).cell 0; have q5 : W4.cell? ⟨P, 2, none⟩ = some (.func (.func 82) #[] #[]) := ((BP.below b3).below b4).cell 2)))
      all_goals go_ret
      all_goals exact ⟨by rw [hE1]; rfl, fC.trans (Frm.below RC.hi (b3.trans (b4.mono b3.size))), fun z => by rw [hE1] at z; cases z⟩
end Go.Proofs.YtlhhmlfcodmebaaGreatDoor.Pg
namespace Go.Proofs.YtlhhmlfcodmebaaGreatDoor.Pg
set_option linter.unusedVariables false
set_option linter.unusedSimpArgs false
open Go.RowKit Go.WideShapes Go.ChangeShapes
open Go.Proofs.YtlhhmlfcodmebaaGreatDoor.Wd (KM kindsL kinds_walk run_get at? opOf_walk bt)
set_option linter.unusedVariables false
set_option linter.unusedSimpArgs false
set_option maxHeartbeats 8000000 in
set_option maxRecDepth 100000 in
theorem line_chan (w0 : World) (n0 r N g cap : Nat) (p : Pg) (last : Nat) (W : World) (ws : List ByteArray) (R : Rd w0 n0 r N p (atOf last) W) (hI : Inv p last) (hw : Ws n0 r g (bt [99, 104, 97, 110] :: ws) W) (hg : ∀ row ∈ p.rows, row.blk ≠ some g) (h1 : ∀ x ∈ ws, x.size ≤ 281474976710656) (hc : ws.length + 1 ≤ cap) (hlw : ws.length ≤ 1000000) (hN : N ≤ 1000000) :
    Calls Tryz.prog 25 #[.pointer (some ⟨r, 0, none⟩), .slice (some ⟨g, 0, none⟩) (ws.length + 1) cap] W
      (Does w0 n0 r N W (if may 5 last = false then 53 else if ws.length ≠ 1 then 52 else (vals (lets 5 0) (ws.map (·.data.toList))).2) (taken p.bare 5 0 (vals (lets 5 0) (ws.map (·.data.toList))).1) (atOf 5)) := by
  have v0 := hw.cell 0 _ rfl
  have cK := Lib.hid (fun W => kinds_walk W)
  have KS := Lib.hid (fun W' (hb : Below W.heap.size W W') => (hw.below hb).cell 0 _ rfl)
  have dr : Below W.heap.size W W.drew := Below.drew (Below.refl _ _)
  have vA := fun o => KS.out (W.alloc o) ((Below.refl _ _).alloc (Nat.le_refl _) o)
  have hl0 : (0 : Int) < (ws.length : Int) + 1 := by omega
  have hat : ∀ b1 b2 b3 b4, at? (bt [99, 104, 97, 110]) (kindsL b1 b2 b3 b4) = some (.agg #[.int .i64 2, .func (.func 78) #[] #[.pointer (some ⟨b4, 0, none⟩)], .func (.func 83) #[] #[]]) := fun b1 b2 b3 b4 => by kernel_rfl
  have cO := Lib.hid (fun W => opOf_walk (bt [99, 104, 97, 110]) W (by decide))
  replace hat := Lib.hid hat
  have hdo := Lib.hid (fun W' (hb : Below W.heap.size W W') (hm : may 5 last = true) (hl : ws.length = 1) => does_chan (Asks.below ⟨R, hw, hg, h1, hc, hN, hI⟩ hb) hm hl)
  generalize bt [99, 104, 97, 110] = x0 at *
  obtain ⟨E, hE⟩ : ∃ E, Hid (E = (if may 5 last = false then 53 else if ws.length ≠ 1 then 52 else (vals (lets 5 0) (ws.map (·.data.toList))).2)) := ⟨_, Lib.hid rfl⟩
  rw [← hE.out]
  obtain ⟨Q, hQ⟩ : ∃ Q, Hid (Q = taken p.bare 5 0 (vals (lets 5 0) (ws.map (·.data.toList))).1) := ⟨_, Lib.hid rfl⟩
  rw [← hQ.out]
  go_enter Tryz.func25, Tryz.ntmps25
  go_wp2_with (fail)
  go_cut [5, 6] (fun q k wx => ∃ (P bx : Nat), q = .pointer (some ⟨P, 0, none⟩) ∧ k = .bool true ∧ Below W.heap.size W wx ∧ Blk P #[.int .i64 2, .func (.func 78) #[] #[.pointer (some ⟨bx, 0, none⟩)], .func (.func 83) #[] #[]] wx ∧ W.heap.size ≤ P ∧ Blk bx #[.int .i64 3] wx)
  case first =>
    go_region_law ((go_simp; go_at_call 53; ((with_reducible refine (cK.out _).mono ?_); rintro e W2 ⟨m, b1, b2, b3, b4, rfl, K⟩; have hget := run_get K.map x0; rw [hat.out] at hget; simp only [Option.getD_some, Option.isSome_some] at hget; have hget2 := fun o => run_get (W := W2.alloc o) ((Below.heap_alloc W2 o m K.lt).trans K.map) x0; rw [hat.out] at hget2; simp only [Option.getD_some, Option.isSome_some] at hget2; (first | (have bW : Below W.heap.size W W2 := dr.trans K.env.acc) | (have bW : Below W.heap.size W W2 := (((Below.refl W.heap.size W).alloc (Nat.le_refl _) _).drew).trans (K.env.acc.mono (by simp)))); have vW := KS.out W2 bW; have vW2 := fun o => KS.out (W2.alloc o) (bW.alloc bW.size o); try (have EB := ((Blk.new W #[.int .i64 0, .nilFunc, .nilFunc] 112).drew).below K.env.acc; have e0 : W2.cell? ⟨W.heap.size, 0, none⟩ = some (.int .i64 0) := EB.cell 0; have e1 : W2.cell? ⟨W.heap.size, 1, none⟩ = some .nilFunc := EB.cell 1; have e2 : W2.cell? ⟨W.heap.size, 2, none⟩ = some .nilFunc := EB.cell 2; have ez := EB.fr))))
    all_goals have bsz := bW.size
    all_goals have hbx := K.env.blk (b4, #[.int .i64 3]) (by simp)
    all_goals go_wp2_with (fail)
    all_goals go_meet
    all_goals first
      | exact ⟨_, b4, rfl, rfl, bW.alloc bsz _, Blk.new _ _ _, bsz, hbx.alloc _⟩
      | exact ⟨_, b4, rfl, rfl, (bW.alloc bsz _).drew, (Blk.new _ _ _).drew, bsz, (hbx.alloc _).drew⟩
      | exact ⟨_, b4, rfl, rfl, ((bW.setCell (Nat.le_refl _) _).setCell (Nat.le_refl _) _).setCell (Nat.le_refl _) _, ((EB.set 0 (by simp) _).set 1 (by simp) _).set 2 (by simp) _, Nat.le_refl _, ((hbx.setOther W.heap.size 0 _ (fun e => by have h4 := hbx.cell 0; rw [e, EB.cell 0] at h4; simp at h4)).setOther W.heap.size 1 _ (fun e => by have h4 := hbx.cell 0; rw [e, EB.cell 0] at h4; simp at h4)).setOther W.heap.size 2 _ (fun e => by have h4 := hbx.cell 0; rw [e, EB.cell 0] at h4; simp at h4)⟩
  case rest =>
    obtain ⟨P, bx, rfl, rfl, bC, BP, hP, Bx⟩ := hcut
    have RC := R.below bC
    have fC := Frm.below (r := r) R.hi bC
    have vC := KS.out wc bC
    have qC : wc.cell? ⟨P, 1, none⟩ = some (.func (.func 78) #[] #[.pointer (some ⟨bx, 0, none⟩)]) := BP.cell 1
    clear hat cK vA dr v0
    have cM := Lib.hid (fun W' (hb : Below wc.heap.size wc W') => (show Calls Tryz.prog 78 #[.pointer (some ⟨r, 0, none⟩), .pointer (some ⟨bx, 0, none⟩)] W' fun e w' => e = .returned (.bool (may 5 last)) ∧ Below W'.heap.size W' w' from by rw [← may_5]; exact mayTo_walk w0 n0 r N bx 3 p (atOf last) W' (RC.below hb) ((Bx.below hb).cell 0)))
    have cD := Lib.hid (fun W' (hb : Below wc.heap.size wc W') (hm : may 5 last = true) (hl : ws.length = 1) => hdo.out W' (bC.trans (hb.mono bC.size)) hm hl)
    have hP1 := BP.lt
    by_cases hm : may 5 last = true
    · by_cases hl : ws.length = 1
      · have hq : ((ws.length : Int) + 1 != 2) = false := by rw [bne_eq_false_iff_eq]; omega
        have hE1 : E = (vals (lets 5 0) (ws.map (·.data.toList))).2 := by rw [hE.out, if_neg (by rw [hm]; decide), if_neg (by simpa using hl)]
        have cM1 := Lib.hid (fun W' hb => (cM.out W' hb))
        rw [hm] at cM1
        have cD1 := Lib.hid (fun W' hb => cD.out W' hb hm hl)
        unfold ask at cD1
        rw [← hE1, ← hQ.out] at cD1
        replace hl := Lib.hid hl
        replace hE1 := Lib.hid hE1
        clear cM cD
        go_wp2_with (first
          | (go_at_call 54; ((with_reducible refine (cO.out _).mono ?_); rintro e W3 ⟨rfl, b3⟩; have q3 : W3.cell? ⟨P, 1, none⟩ = some (.func (.func 78) #[] #[.pointer (some ⟨bx, 0, none⟩)]) := (BP.below b3).cell 1))
          | (go_at_call 78; ((with_reducible refine (cM1.out _ b3).mono ?_); rintro e W4 ⟨rfl, b4⟩; have q4 : W4.cell? ⟨P, 0, none⟩ = some (.int .i64 2) := ((BP.below b3).below b4).cell 0; have q5 : W4.cell? ⟨P, 2, none⟩ = some (.func (.func 83) #[] #[]) := ((BP.below b3).below b4).cell 2))
          | (go_at_call 83; ((with_reducible refine (cD1.out _ (b3.trans (b4.mono b3.size))).mono ?_); rintro e W5 ⟨rfl, fD, okD⟩)))
        go_ret
        exact ⟨rfl, (fC.trans (Frm.below RC.hi (b3.trans (b4.mono b3.size)))).trans fD, okD⟩
      · have hq : ((ws.length : Int) + 1 != 2) = true := by rw [bne_iff_ne]; intro z; exact hl (by omega)
        have hE1 : E = 52 := by rw [hE.out, if_neg (by rw [hm]; decide), if_pos hl]
        have cM1 := Lib.hid (fun W' hb => (cM.out W' hb))
        rw [hm] at cM1
        clear cM cD
        go_wp2_with (first
          | (go_at_call 54; ((with_reducible refine (cO.out _).mono ?_); rintro e W3 ⟨rfl, b3⟩; have q3 : W3.cell? ⟨P, 1, none⟩ = some (.func (.func 78) #[] #[.pointer (some ⟨bx, 0, none⟩)]) := (BP.below b3).cell 1))
          | (go_at_call 78; ((with_reducible refine (cM1.out _ b3).mono ?_); rintro e W4 ⟨rfl, b4⟩; have q4 : W4.cell? ⟨P, 0, none⟩ = some (.int .i64 2) := ((BP.below b3).below b4).cell 0; have q5 : W4.cell? ⟨P, 2, none⟩ = some (.func (.func 83) #[] #[]) := ((BP.below b3).below b4).cell 2)))
        all_goals go_ret
        all_goals exact ⟨by rw [hE1]; rfl, fC.trans (Frm.below RC.hi (b3.trans (b4.mono b3.size))), fun z => by rw [hE1] at z; cases z⟩
    · have hE1 : E = 53 := by rw [hE.out, if_pos (by simpa using hm)]
      have hm' : may 5 last = false := by simpa using hm
      have cM1 := Lib.hid (fun W' hb => (cM.out W' hb))
      rw [hm'] at cM1
      clear cM cD
      go_wp2_with (first
        | (go_at_call 54; ((with_reducible refine (cO.out _).mono ?_); rintro e W3 ⟨rfl, b3⟩; have q3 : W3.cell? ⟨P, 1, none⟩ = some (.func (.func 78) #[] #[.pointer (some ⟨bx, 0, none⟩)]) := (BP.below b3).cell 1))
        | (go_at_call 78; ((with_reducible refine (cM1.out _ b3).mono ?_); rintro e W4 ⟨rfl, b4⟩; have q4 : W4.cell? ⟨P, 0, none⟩ = some (.int .i64 2) := ((BP.below b3).below b4).cell 0; have q5 : W4.cell? ⟨P, 2, none⟩ = some (.func (.func 83) #[] #[]) := ((BP.below b3).below b4).cell 2)))
      all_goals go_ret
      all_goals exact ⟨by rw [hE1]; rfl, fC.trans (Frm.below RC.hi (b3.trans (b4.mono b3.size))), fun z => by rw [hE1] at z; cases z⟩
end Go.Proofs.YtlhhmlfcodmebaaGreatDoor.Pg
