/- Several texts of one proof, one behind the other. A line's words, walked: func. The condition: the reader in memory. | A line's words, walked: choose. The condition: the reader in memory. | A line's words, walked: onsend. The condition: the reader in memory. | A line's words, walked: onrecv. The condition: the reader in memory. | A line that begins with an operation's name, or with no word that is known, walked. The condition: the reader in memory. -/
import Derived.Test.YtlhhmlfcodmebaaGreatDoorZl
namespace Go.Proofs.YtlhhmlfcodmebaaGreatDoor.Pg
set_option linter.unusedVariables false
set_option linter.unusedSimpArgs false
open Go.RowKit Go.WideShapes Go.ChangeShapes
open Go.Proofs.YtlhhmlfcodmebaaGreatDoor.Wd (KM kindsL kinds_walk run_get at? opOf_walk bt)
set_option linter.unusedVariables false
set_option linter.unusedSimpArgs false
set_option maxHeartbeats 8000000 in
set_option maxRecDepth 100000 in
theorem line_func (w0 : World) (n0 r N g cap : Nat) (p : Pg) (last : Nat) (W : World) (ws : List ByteArray) (R : Rd w0 n0 r N p (atOf last) W) (hI : Inv p last) (hw : Ws n0 r g (bt [102, 117, 110, 99] :: ws) W) (hg : ∀ row ∈ p.rows, row.blk ≠ some g) (h1 : ∀ x ∈ ws, x.size ≤ 281474976710656) (hc : ws.length + 1 ≤ cap) (hlw : ws.length ≤ 1000000) (hN : N ≤ 1000000) :
    Calls Tryz.prog 25 #[.pointer (some ⟨r, 0, none⟩), .slice (some ⟨g, 0, none⟩) (ws.length + 1) cap] W
      (Does w0 n0 r N W (if may 6 last = false then 53 else if ws.length ≠ 2 then 52 else (vals (lets 6 0) (ws.map (·.data.toList))).2) (taken p.bare 6 0 (vals (lets 6 0) (ws.map (·.data.toList))).1) (atOf 6)) := by
  have v0 := hw.cell 0 _ rfl
  have cK := Lib.hid (fun W => kinds_walk W)
  have KS := Lib.hid (fun W' (hb : Below W.heap.size W W') => (hw.below hb).cell 0 _ rfl)
  have dr : Below W.heap.size W W.drew := Below.drew (Below.refl _ _)
  have vA := fun o => KS.out (W.alloc o) ((Below.refl _ _).alloc (Nat.le_refl _) o)
  have hl0 : (0 : Int) < (ws.length : Int) + 1 := by omega
  have hat : ∀ b1 b2 b3 b4, at? (bt [102, 117, 110, 99]) (kindsL b1 b2 b3 b4) = some (.agg #[.int .i64 3, .func (.func 84) #[] #[], .func (.func 85) #[] #[]]) := fun b1 b2 b3 b4 => by kernel_rfl
  have cO := Lib.hid (fun W => opOf_walk (bt [102, 117, 110, 99]) W (by decide))
  replace hat := Lib.hid hat
  have hdo := Lib.hid (fun W' (hb : Below W.heap.size W W') (hm : may 6 last = true) (hl : ws.length = 2) => does_func (Asks.below ⟨R, hw, hg, h1, hc, hN, hI⟩ hb) hm hl)
  generalize bt [102, 117, 110, 99] = x0 at *
  obtain ⟨E, hE⟩ : ∃ E, Hid (E = (if may 6 last = false then 53 else if ws.length ≠ 2 then 52 else (vals (lets 6 0) (ws.map (·.data.toList))).2)) := ⟨_, Lib.hid rfl⟩
  rw [← hE.out]
  obtain ⟨Q, hQ⟩ : ∃ Q, Hid (Q = taken p.bare 6 0 (vals (lets 6 0) (ws.map (·.data.toList))).1) := ⟨_, Lib.hid rfl⟩
  rw [← hQ.out]
  go_enter Tryz.func25, Tryz.ntmps25
  go_wp2_with (fail)
  go_cut [5, 6] (fun q k wx => ∃ (P bx : Nat), q = .pointer (some ⟨P, 0, none⟩) ∧ k = .bool true ∧ Below W.heap.size W wx ∧ Blk P #[.int .i64 3, .func (.func 84) #[] #[], .func (.func 85) #[] #[]] wx ∧ W.heap.size ≤ P ∧ True)
  case first =>
    go_region_law ((go_simp; go_at_call 53; ((with_reducible refine (cK.out _).mono ?_); rintro e W2 ⟨m, b1, b2, b3, b4, rfl, K⟩; have hget := run_get K.map x0; rw [hat.out] at hget; simp only [Option.getD_some, Option.isSome_some] at hget; have hget2 := fun o => run_get (W := W2.alloc o) ((Below.heap_alloc W2 o m K.lt).trans K.map) x0; rw [hat.out] at hget2; simp only [Option.getD_some, Option.isSome_some] at hget2; (first | (have bW : Below W.heap.size W W2 := dr.trans K.env.acc) | (have bW : Below W.heap.size W W2 := (((Below.refl W.heap.size W).alloc (Nat.le_refl _) _).drew).trans (K.env.acc.mono (by simp)))); have vW := KS.out W2 bW; have vW2 := fun o => KS.out (W2.alloc o) (bW.alloc bW.size o); try (have EB := ((Blk.new W #[.int .i64 0, .nilFunc, .nilFunc] 112).drew).below K.env.acc; have e0 : W2.cell? ⟨W.heap.size, 0, none⟩ = some (.int .i64 0) := EB.cell 0; have e1 : W2.cell? ⟨W.heap.size, 1, none⟩ = some .nilFunc := EB.cell 1; have e2 : W2.cell? ⟨W.heap.size, 2, none⟩ = some .nilFunc := EB.cell 2; have ez := EB.fr))))
    all_goals have bsz := bW.size
    all_goals go_wp2_with (fail)
    all_goals go_meet
    all_goals first
      | exact ⟨_, b1, rfl, rfl, bW.alloc bsz _, Blk.new _ _ _, bsz, trivial⟩
      | exact ⟨_, b1, rfl, rfl, (bW.alloc bsz _).drew, (Blk.new _ _ _).drew, bsz, trivial⟩
      | exact ⟨_, b1, rfl, rfl, ((bW.setCell (Nat.le_refl _) _).setCell (Nat.le_refl _) _).setCell (Nat.le_refl _) _, ((EB.set 0 (by simp) _).set 1 (by simp) _).set 2 (by simp) _, Nat.le_refl _, trivial⟩
  case rest =>
    obtain ⟨P, bx, rfl, rfl, bC, BP, hP, Bx⟩ := hcut
    have RC := R.below bC
    have fC := Frm.below (r := r) R.hi bC
    have vC := KS.out wc bC
    have qC : wc.cell? ⟨P, 1, none⟩ = some (.func (.func 84) #[] #[]) := BP.cell 1
    clear hat cK vA dr v0
    have cM := Lib.hid (fun W' (hb : Below wc.heap.size wc W') => (show Calls Tryz.prog 84 #[.pointer (some ⟨r, 0, none⟩)] W' fun e w' => e = .returned (.bool (may 6 last)) ∧ Below W'.heap.size W' w' from by rw [← may_6]; exact may1_walk w0 n0 r N p (atOf last) W' (RC.below hb)))
    have cD := Lib.hid (fun W' (hb : Below wc.heap.size wc W') (hm : may 6 last = true) (hl : ws.length = 2) => hdo.out W' (bC.trans (hb.mono bC.size)) hm hl)
    have hP1 := BP.lt
    by_cases hm : may 6 last = true
    · by_cases hl : ws.length = 2
      · have hq : ((ws.length : Int) + 1 != 3) = false := by rw [bne_eq_false_iff_eq]; omega
        have hE1 : E = (vals (lets 6 0) (ws.map (·.data.toList))).2 := by rw [hE.out, if_neg (by rw [hm]; decide), if_neg (by simpa using hl)]
        have cM1 := Lib.hid (fun W' hb => (cM.out W' hb))
        rw [hm] at cM1
        have cD1 := Lib.hid (fun W' hb => cD.out W' hb hm hl)
        unfold ask at cD1
        rw [← hE1, ← hQ.out] at cD1
        replace hl := Lib.hid hl
        replace hE1 := Lib.hid hE1
        clear cM cD
        go_wp2_with (first
          | (go_at_call 54; ((with_reducible refine (cO.out _).mono ?_); rintro e W3 ⟨rfl, b3⟩; have q3 : W3.cell? ⟨P, 1, none⟩ = some (.func (.func 84) #[] #[]) := (BP.below b3).cell 1))
          | (go_at_call 84; ((with_reducible refine (cM1.out _ b3).mono ?_); rintro e W4 ⟨rfl, b4⟩; have q4 : W4.cell? ⟨P, 0, none⟩ = some (.int .i64 3) := ((BP.below b3).below b4).cell 0; have q5 : W4.cell? ⟨P, 2, none⟩ = some (.func (.func 85) #[] #[]) := ((BP.below b3).below b4).cell 2))
          | (go_at_call 85; ((with_reducible refine (cD1.out _ (b3.trans (b4.mono b3.size))).mono ?_); rintro e W5 ⟨rfl, fD, okD⟩)))
        go_ret
        exact ⟨rfl, (fC.trans (Frm.below RC.hi (b3.trans (b4.mono b3.size)))).trans fD, okD⟩
      · have hq : ((ws.length : Int) + 1 != 3) = true := by rw [bne_iff_ne]; intro z; exact hl (by omega)
        have hE1 : E = 52 := by rw [hE.out, if_neg (by rw [hm]; decide), if_pos hl]
        have cM1 := Lib.hid (fun W' hb => (cM.out W' hb))
        rw [hm] at cM1
        clear cM cD
        go_wp2_with (first
          | (go_at_call 54; ((with_reducible refine (cO.out _).mono ?_); rintro e W3 ⟨rfl, b3⟩; have q3 : W3.cell? ⟨P, 1, none⟩ = some (.func (.func 84) #[] #[]) := (BP.below b3).cell 1))
          | (go_at_call 84; ((with_reducible refine (cM1.out _ b3).mono ?_); rintro e W4 ⟨rfl, b4⟩; have q4 : W4.cell? ⟨P, 0, none⟩ = some (.int .i64 3) := ((BP.below b3).below b4).cell 0; have q5 : W4.cell? ⟨P, 2, none⟩ = some (.func (.func 85) #[] #[]) := ((BP.below b3).below b4).cell 2)))
        all_goals go_ret
        all_goals exact ⟨by rw [hE1]; rfl, fC.trans (Frm.below RC.hi (b3.trans (b4.mono b3.size))), fun z => by rw [hE1] at z; cases z⟩
    · have hE1 : E = 53 := by rw [hE.out, if_pos (by simpa using hm)]
      have hm' : may 6 last = false := by simpa using hm
      have cM1 := Lib.hid (fun W' hb => (cM.out W' hb))
      rw [hm'] at cM1
      clear cM cD
      go_wp2_with (first
        | (go_at_call 54; ((with_reducible refine (cO.out _).mono ?_); rintro e W3 ⟨rfl, b3⟩; have q3 : W3.cell? ⟨P, 1, none⟩ = some (.func (.func 84) #[] #[]) := (BP.below b3).cell 1))
        | (go_at_call 84; ((with_reducible refine (cM1.out _ b3).mono ?_); rintro e W4 ⟨rfl, b4⟩; have q4 : W4.cell? ⟨P, 0, none⟩ = some (.int .i64 3) := ((BP.below b3).below b4).cell 0; have q5 : W4.cell? ⟨P, 2, none⟩ = some (.func (.func 85) #[] #[]) := ((BP.below b3).below b4).cell 2)))
      all_goals go_ret
      all_goals exact ⟨by rw [hE1]; rfl, fC.trans (Frm.below RC.hi (b3.trans (b4.mono b3.size))), fun z => by rw [hE1] at z; cases z⟩
end Go.Proofs.YtlhhmlfcodmebaaGreatDoor.Pg
namespace Go.Proofs.YtlhhmlfcodmebaaGreatDoor.Pg
set_option linter.unusedVariables false
set_option linter.unusedSimpArgs false
open Go.RowKit Go.WideShapes Go.ChangeShapes
open Go.Proofs.YtlhhmlfcodmebaaGreatDoor.Wd (KM kindsL kinds_walk run_get at? opOf_walk bt)
set_option linter.unusedVariables false
set_option linter.unusedSimpArgs false
set_option maxHeartbeats 8000000 in
set_option maxRecDepth 100000 in
theorem line_choose (w0 : World) (n0 r N g cap : Nat) (p : Pg) (last : Nat) (W : World) (ws : List ByteArray) (R : Rd w0 n0 r N p (atOf last) W) (hI : Inv p last) (hw : Ws n0 r g (bt [99, 104, 111, 111, 115, 101] :: ws) W) (hg : ∀ row ∈ p.rows, row.blk ≠ some g) (h1 : ∀ x ∈ ws, x.size ≤ 281474976710656) (hc : ws.length + 1 ≤ cap) (hlw : ws.length ≤ 1000000) (hN : N ≤ 1000000) :
    Calls Tryz.prog 25 #[.pointer (some ⟨r, 0, none⟩), .slice (some ⟨g, 0, none⟩) (ws.length + 1) cap] W
      (Does w0 n0 r N W (if may 7 last = false then 53 else if ws.length ≠ 1 then 52 else (vals (lets 7 0) (ws.map (·.data.toList))).2) (taken p.bare 7 0 (vals (lets 7 0) (ws.map (·.data.toList))).1) (atOf 7)) := by
  have v0 := hw.cell 0 _ rfl
  have cK := Lib.hid (fun W => kinds_walk W)
  have KS := Lib.hid (fun W' (hb : Below W.heap.size W W') => (hw.below hb).cell 0 _ rfl)
  have dr : Below W.heap.size W W.drew := Below.drew (Below.refl _ _)
  have vA := fun o => KS.out (W.alloc o) ((Below.refl _ _).alloc (Nat.le_refl _) o)
  have hl0 : (0 : Int) < (ws.length : Int) + 1 := by omega
  have hat : ∀ b1 b2 b3 b4, at? (bt [99, 104, 111, 111, 115, 101]) (kindsL b1 b2 b3 b4) = some (.agg #[.int .i64 2, .func (.func 86) #[] #[], .func (.func 87) #[] #[]]) := fun b1 b2 b3 b4 => by kernel_rfl
  have cO := Lib.hid (fun W => opOf_walk (bt [99, 104, 111, 111, 115, 101]) W (by decide))
  replace hat := Lib.hid hat
  have hdo := Lib.hid (fun W' (hb : Below W.heap.size W W') (hm : may 7 last = true) (hl : ws.length = 1) => does_choose (Asks.below ⟨R, hw, hg, h1, hc, hN, hI⟩ hb) hm hl)
  generalize bt [99, 104, 111, 111, 115, 101] = x0 at *
  obtain ⟨E, hE⟩ : ∃ E, Hid (E = (if may 7 last = false then 53 else if ws.length ≠ 1 then 52 else (vals (lets 7 0) (ws.map (·.data.toList))).2)) := ⟨_, Lib.hid rfl⟩
  rw [← hE.out]
  obtain ⟨Q, hQ⟩ : ∃ Q, Hid (Q = taken p.bare 7 0 (vals (lets 7 0) (ws.map (·.data.toList))).1) := ⟨_, Lib.hid rfl⟩
  rw [← hQ.out]
  go_enter Tryz.func25, Tryz.ntmps25
  go_wp2_with (fail)
  go_cut [5, 6] (fun q k wx => ∃ (P bx : Nat), q = .pointer (some ⟨P, 0, none⟩) ∧ k = .bool true ∧ Below W.heap.size W wx ∧ Blk P #[.int .i64 2, .func (.func 86) #[] #[], .func (.func 87) #[] #[]] wx ∧ W.heap.size ≤ P ∧ True)
  case first =>
    go_region_law ((go_simp; go_at_call 53; ((with_reducible refine (cK.out _).mono ?_); rintro e W2 ⟨m, b1, b2, b3, b4, rfl, K⟩; have hget := run_get K.map x0; rw [hat.out] at hget; simp only [Option.getD_some, Option.isSome_some] at hget; have hget2 := fun o => run_get (W := W2.alloc o) ((Below.heap_alloc W2 o m K.lt).trans K.map) x0; rw [hat.out] at hget2; simp only [Option.getD_some, Option.isSome_some] at hget2; (first | (have bW : Below W.heap.size W W2 := dr.trans K.env.acc) | (have bW : Below W.heap.size W W2 := (((Below.refl W.heap.size W).alloc (Nat.le_refl _) _).drew).trans (K.env.acc.mono (by simp)))); have vW := KS.out W2 bW; have vW2 := fun o => KS.out (W2.alloc o) (bW.alloc bW.size o); try (have EB := ((Blk.new W #[.int .i64 0, .nilFunc, .nilFunc] 112).drew).below K.env.acc; have e0 : W2.cell? ⟨W.heap.size, 0, none⟩ = some (.int .i64 0) := EB.cell 0; have e1 : W2.cell? ⟨W.heap.size, 1, none⟩ = some .nilFunc := EB.cell 1; have e2 : W2.cell? ⟨W.heap.size, 2, none⟩ = some .nilFunc := EB.cell 2; have ez := EB.fr))))
    all_goals have bsz := bW.size
    all_goals go_wp2_with (fail)
    all_goals go_meet
    all_goals first
      | exact ⟨_, b1, rfl, rfl, bW.alloc bsz _, Blk.new _ _ _, bsz, trivial⟩
      | exact ⟨_, b1, rfl, rfl, (bW.alloc bsz _).drew, (Blk.new _ _ _).drew, bsz, trivial⟩
      | exact ⟨_, b1, rfl, rfl, ((bW.setCell (Nat.le_refl _) _).setCell (Nat.le_refl _) _).setCell (Nat.le_refl _) _, ((EB.set 0 (by simp) _).set 1 (by simp) _).set 2 (by simp) _, Nat.le_refl _, trivial⟩
  case rest =>
    obtain ⟨P, bx, rfl, rfl, bC, BP, hP, Bx⟩ := hcut
    have RC := R.below bC
    have fC := Frm.below (r := r) R.hi bC
    have vC := KS.out wc bC
    have qC : wc.cell? ⟨P, 1, none⟩ = some (.func (.func 86) #[] #[]) := BP.cell 1
    clear hat cK vA dr v0
    have cM := Lib.hid (fun W' (hb : Below wc.heap.size wc W') => (show Calls Tryz.prog 86 #[.pointer (some ⟨r, 0, none⟩)] W' fun e w' => e = .returned (.bool (may 7 last)) ∧ Below W'.heap.size W' w' from by rw [← may_7]; exact may4_walk w0 n0 r N p (atOf last) W' (RC.below hb)))
    have cD := Lib.hid (fun W' (hb : Below wc.heap.size wc W') (hm : may 7 last = true) (hl : ws.length = 1) => hdo.out W' (bC.trans (hb.mono bC.size)) hm hl)
    have hP1 := BP.lt
    by_cases hm : may 7 last = true
    · by_cases hl : ws.length = 1
      · have hq : ((ws.length : Int) + 1 != 2) = false := by rw [bne_eq_false_iff_eq]; omega
        have hE1 : E = (vals (lets 7 0) (ws.map (·.data.toList))).2 := by rw [hE.out, if_neg (by rw [hm]; decide), if_neg (by simpa using hl)]
        have cM1 := Lib.hid (fun W' hb => (cM.out W' hb))
        rw [hm] at cM1
        have cD1 := Lib.hid (fun W' hb => cD.out W' hb hm hl)
        unfold ask at cD1
        rw [← hE1, ← hQ.out] at cD1
        replace hl := Lib.hid hl
        replace hE1 := Lib.hid hE1
        clear cM cD
        go_wp2_with (first
          | (go_at_call 54; ((with_reducible refine (cO.out _).mono ?_); rintro e W3 ⟨rfl, b3⟩; have q3 : W3.cell? ⟨P, 1, none⟩ = some (.func (.func 86) #[] #[]) := (BP.below b3).cell 1))
          | (go_at_call 86; ((with_reducible refine (cM1.out _ b3).mono ?_); rintro e W4 ⟨rfl, b4⟩; have q4 : W4.cell? ⟨P, 0, none⟩ = some (.int .i64 2) := ((BP.below b3).below b4).cell 0; have q5 : W4.cell? ⟨P, 2, none⟩ = some (.func (.func 87) #[] #[]) := ((BP.below b3).below b4).cell 2))
          | (go_at_call 87; ((with_reducible refine (cD1.out _ (b3.trans (b4.mono b3.size))).mono ?_); rintro e W5 ⟨rfl, fD, okD⟩)))
        go_ret
        exact ⟨rfl, (fC.trans (Frm.below RC.hi (b3.trans (b4.mono b3.size)))).trans fD, okD⟩
      · have hq : ((ws.length : Int) + 1 != 2) = true := by rw [bne_iff_ne]; intro z; exact hl (by omega)
        have hE1 : E = 52 := by rw [hE.out, if_neg (by rw [hm]; decide), if_pos hl]
        have cM1 := Lib.hid (fun W' hb => (cM.out W' hb))
        rw [hm] at cM1
        clear cM cD
        go_wp2_with (first
          | (go_at_call 54; ((with_reducible refine (cO.out _).mono ?_); rintro e W3 ⟨rfl, b3⟩; have q3 : W3.cell? ⟨P, 1, none⟩ = some (.func (.func 86) #[] #[]) := (BP.below b3).cell 1))
          | (go_at_call 86; ((with_reducible refine (cM1.out _ b3).mono ?_); rintro e W4 ⟨rfl, b4⟩; have q4 : W4.cell? ⟨P, 0, none⟩ = some (.int .i64 2) := ((BP.below b3).below b4).cell 0; have q5 : W4.cell? ⟨P, 2, none⟩ = some (.func (.func 87) #[] #[]) := ((BP.below b3).below b4).cell 2)))
        all_goals go_ret
        all_goals exact ⟨by rw [hE1]; rfl, fC.trans (Frm.below RC.hi (b3.trans (b4.mono b3.size))), fun z => by rw [hE1] at z; cases z⟩
    · have hE1 : E = 53 := by rw [hE.out, if_pos (by simpa using hm)]
      have hm' : may 7 last = false := by simpa using hm
      have cM1 := Lib.hid (fun W' hb => (cM.out W' hb))
      rw [hm'] at cM1
      clear cM cD
      go_wp2_with (first
        | (go_at_call 54; ((with_reducible refine (cO.out _).mono ?_); rintro e W3 ⟨rfl, b3⟩; have q3 : W3.cell? ⟨P, 1, none⟩ = some (.func (.func 86) #[] #[]) := (BP.below b3).cell 1))
        | (go_at_call 86; ((with_reducible refine (cM1.out _ b3).mono ?_); rintro e W4 ⟨rfl, b4⟩; have q4 : W4.cell? ⟨P, 0, none⟩ = some (.int .i64 2) := ((BP.below b3).below b4).cell 0; have q5 : W4.cell? ⟨P, 2, none⟩ = some (.func (.func 87) #[] #[]) := ((BP.below b3).below b4).cell 2)))
      all_goals go_ret
      all_goals exact ⟨by rw [hE1]; rfl, fC.trans (Frm.below RC.hi (b3.trans (b4.mono b3.size))), fun z => by rw [hE1] at z; cases z⟩
end Go.Proofs.YtlhhmlfcodmebaaGreatDoor.Pg
namespace Go.Proofs.YtlhhmlfcodmebaaGreatDoor.Pg
set_option linter.unusedVariables false
set_option linter.unusedSimpArgs false
open Go.RowKit Go.WideShapes Go.ChangeShapes
open Go.Proofs.YtlhhmlfcodmebaaGreatDoor.Wd (KM kindsL kinds_walk run_get at? opOf_walk bt)
set_option linter.unusedVariables false
set_option linter.unusedSimpArgs false
set_option maxHeartbeats 8000000 in
set_option maxRecDepth 100000 in
theorem line_onsend (w0 : World) (n0 r N g cap : Nat) (p : Pg) (last : Nat) (W : World) (ws : List ByteArray) (R : Rd w0 n0 r N p (atOf last) W) (hI : Inv p last) (hw : Ws n0 r g (bt [111, 110, 115, 101, 110, 100] :: ws) W) (hg : ∀ row ∈ p.rows, row.blk ≠ some g) (h1 : ∀ x ∈ ws, x.size ≤ 281474976710656) (hc : ws.length + 1 ≤ cap) (hlw : ws.length ≤ 1000000) (hN : N ≤ 1000000) :
    Calls Tryz.prog 25 #[.pointer (some ⟨r, 0, none⟩), .slice (some ⟨g, 0, none⟩) (ws.length + 1) cap] W
      (Does w0 n0 r N W (if may 8 last = false then 53 else if ws.length ≠ 3 then 52 else (vals (lets 8 0) (ws.map (·.data.toList))).2) (taken p.bare 8 0 (vals (lets 8 0) (ws.map (·.data.toList))).1) (atOf 8)) := by
  have v0 := hw.cell 0 _ rfl
  have cK := Lib.hid (fun W => kinds_walk W)
  have KS := Lib.hid (fun W' (hb : Below W.heap.size W W') => (hw.below hb).cell 0 _ rfl)
  have dr : Below W.heap.size W W.drew := Below.drew (Below.refl _ _)
  have vA := fun o => KS.out (W.alloc o) ((Below.refl _ _).alloc (Nat.le_refl _) o)
  have hl0 : (0 : Int) < (ws.length : Int) + 1 := by omega
  have hat : ∀ b1 b2 b3 b4, at? (bt [111, 110, 115, 101, 110, 100]) (kindsL b1 b2 b3 b4) = some (.agg #[.int .i64 4, .func (.func 88) #[] #[], .func (.func 89) #[] #[]]) := fun b1 b2 b3 b4 => by kernel_rfl
  have cO := Lib.hid (fun W => opOf_walk (bt [111, 110, 115, 101, 110, 100]) W (by decide))
  replace hat := Lib.hid hat
  have hdo := Lib.hid (fun W' (hb : Below W.heap.size W W') (hm : may 8 last = true) (hl : ws.length = 3) => does_onsend (Asks.below ⟨R, hw, hg, h1, hc, hN, hI⟩ hb) hm hl)
  generalize bt [111, 110, 115, 101, 110, 100] = x0 at *
  obtain ⟨E, hE⟩ : ∃ E, Hid (E = (if may 8 last = false then 53 else if ws.length ≠ 3 then 52 else (vals (lets 8 0) (ws.map (·.data.toList))).2)) := ⟨_, Lib.hid rfl⟩
  rw [← hE.out]
  obtain ⟨Q, hQ⟩ : ∃ Q, Hid (Q = taken p.bare 8 0 (vals (lets 8 0) (ws.map (·.data.toList))).1) := ⟨_, Lib.hid rfl⟩
  rw [← hQ.out]
  go_enter Tryz.func25, Tryz.ntmps25
  go_wp2_with (fail)
  go_cut [5, 6] (fun q k wx => ∃ (P bx : Nat), q = .pointer (some ⟨P, 0, none⟩) ∧ k = .bool true ∧ Below W.heap.size W wx ∧ Blk P #[.int .i64 4, .func (.func 88) #[] #[], .func (.func 89) #[] #[]] wx ∧ W.heap.size ≤ P ∧ True)
  case first =>
    go_region_law ((go_simp; go_at_call 53; ((with_reducible refine (cK.out _).mono ?_); rintro e W2 ⟨m, b1, b2, b3, b4, rfl, K⟩; have hget := run_get K.map x0; rw [hat.out] at hget; simp only [Option.getD_some, Option.isSome_some] at hget; have hget2 := fun o => run_get (W := W2.alloc o) ((Below.heap_alloc W2 o m K.lt).trans K.map) x0; rw [hat.out] at hget2; simp only [Option.getD_some, Option.isSome_some] at hget2; (first | (have bW : Below W.heap.size W W2 := dr.trans K.env.acc) | (have bW : Below W.heap.size W W2 := (((Below.refl W.heap.size W).alloc (Nat.le_refl _) _).drew).trans (K.env.acc.mono (by simp)))); have vW := KS.out W2 bW; have vW2 := fun o => KS.out (W2.alloc o) (bW.alloc bW.size o); try (have EB := ((Blk.new W #[.int .i64 0, .nilFunc, .nilFunc] 112).drew).below K.env.acc; have e0 : W2.cell? ⟨W.heap.size, 0, none⟩ = some (.int .i64 0) := EB.cell 0; have e1 : W2.cell? ⟨W.heap.size, 1, none⟩ = some .nilFunc := EB.cell 1; have e2 : W2.cell? ⟨W.heap.size, 2, none⟩ = some .nilFunc := EB.cell 2; have ez := EB.fr))))
    all_goals have bsz := bW.size
    all_goals go_wp2_with (fail)
    all_goals go_meet
    all_goals first
      | exact ⟨_, b1, rfl, rfl, bW.alloc bsz _, Blk.new _ _ _, bsz, trivial⟩
      | exact ⟨_, b1, rfl, rfl, (bW.alloc bsz _).drew, (Blk.new _ _ _).drew, bsz, trivial⟩
      | exact ⟨_, b1, rfl, rfl, ((bW.setCell (Nat.le_refl _) _).setCell (Nat.le_refl _) _).setCell (Nat.le_refl _) _, ((EB.set 0 (by simp) _).set 1 (by simp) _).set 2 (by simp) _, Nat.le_refl _, trivial⟩
  case rest =>
    obtain ⟨P, bx, rfl, rfl, bC, BP, hP, Bx⟩ := hcut
    have RC := R.below bC
    have fC := Frm.below (r := r) R.hi bC
    have vC := KS.out wc bC
    have qC : wc.cell? ⟨P, 1, none⟩ = some (.func (.func 88) #[] #[]) := BP.cell 1
    clear hat cK vA dr v0
    have cM := Lib.hid (fun W' (hb : Below wc.heap.size wc W') => (show Calls Tryz.prog 88 #[.pointer (some ⟨r, 0, none⟩)] W' fun e w' => e = .returned (.bool (may 8 last)) ∧ Below W'.heap.size W' w' from inSel_may p last hI 8 W' (RC.below hb) hN (by decide)))
    have cD := Lib.hid (fun W' (hb : Below wc.heap.size wc W') (hm : may 8 last = true) (hl : ws.length = 3) => hdo.out W' (bC.trans (hb.mono bC.size)) hm hl)
    have hP1 := BP.lt
    by_cases hm : may 8 last = true
    · by_cases hl : ws.length = 3
      · have hq : ((ws.length : Int) + 1 != 4) = false := by rw [bne_eq_false_iff_eq]; omega
        have hE1 : E = (vals (lets 8 0) (ws.map (·.data.toList))).2 := by rw [hE.out, if_neg (by rw [hm]; decide), if_neg (by simpa using hl)]
        have cM1 := Lib.hid (fun W' hb => (cM.out W' hb))
        rw [hm] at cM1
        have cD1 := Lib.hid (fun W' hb => cD.out W' hb hm hl)
        unfold ask at cD1
        rw [← hE1, ← hQ.out] at cD1
        replace hl := Lib.hid hl
        replace hE1 := Lib.hid hE1
        clear cM cD
        go_wp2_with (first
          | (go_at_call 54; ((with_reducible refine (cO.out _).mono ?_); rintro e W3 ⟨rfl, b3⟩; have q3 : W3.cell? ⟨P, 1, none⟩ = some (.func (.func 88) #[] #[]) := (BP.below b3).cell 1))
          | (go_at_call 88; ((with_reducible refine (cM1.out _ b3).mono ?_); rintro e W4 ⟨rfl, b4⟩; have q4 : W4.cell? ⟨P, 0, none⟩ = some (.int .i64 4) := ((BP.below b3).below b4).cell 0; have q5 : W4.cell? ⟨P, 2, none⟩ = some (.func (.func 89) #[] #[]) := ((BP.below b3).below b4).cell 2))
          | (go_at_call 89; ((with_reducible refine (cD1.out _ (b3.trans (b4.mono b3.size))).mono ?_); rintro e W5 ⟨rfl, fD, okD⟩)))
        go_ret
        exact ⟨rfl, (fC.trans (Frm.below RC.hi (b3.trans (b4.mono b3.size)))).trans fD, okD⟩
      · have hq : ((ws.length : Int) + 1 != 4) = true := by rw [bne_iff_ne]; intro z; exact hl (by omega)
        have hE1 : E = 52 := by rw [hE.out, if_neg (by rw [hm]; decide), if_pos hl]
        have cM1 := Lib.hid (fun W' hb => (cM.out W' hb))
        rw [hm] at cM1
        clear cM cD
        go_wp2_with (first
          | (go_at_call 54; ((with_reducible refine (cO.out _).mono ?_); rintro e W3 ⟨rfl, b3⟩; have q3 : W3.cell? ⟨P, 1, none⟩ = some (.func (.func 88) #[] #[]) := (BP.below b3).cell 1))
          | (go_at_call 88; ((with_reducible refine (cM1.out _ b3).mono ?_); rintro e W4 ⟨rfl, b4⟩; have q4 : W4.cell? ⟨P, 0, none⟩ = some (.int .i64 4) := ((BP.below b3).below b4).cell 0; have q5 : W4.cell? ⟨P, 2, none⟩ = some (.func (.func 89) #[] #[]) := ((BP.below b3).below b4).cell 2)))
        all_goals go_ret
        all_goals exact ⟨by rw [hE1]; rfl, fC.trans (Frm.below RC.hi (b3.trans (b4.mono b3.size))), fun z => by rw [hE1] at z; cases z⟩
    · have hE1 : E = 53 := by rw [hE.out, if_pos (by simpa using hm)]
      have hm' : may 8 last = false := by simpa using hm
      have cM1 := Lib.hid (fun W' hb => (cM.out W' hb))
      rw [hm'] at cM1
      clear cM cD
      go_wp2_with (first
        | (go_at_call 54; ((with_reducible refine (cO.out _).mono ?_); rintro e W3 ⟨rfl, b3⟩; have q3 : W3.cell? ⟨P, 1, none⟩ = some (.func (.func 88) #[] #[]) := (BP.below b3).cell 1))
        | (go_at_call 88; ((with_reducible refine (cM1.out _ b3).mono ?_); rintro e W4 ⟨rfl, b4⟩; have q4 : W4.cell? ⟨P, 0, none⟩ = some (.int .i64 4) := ((BP.below b3).below b4).cell 0; have q5 : W4.cell? ⟨P, 2, none⟩ = some (.func (.func 89) #[] #[]) := ((BP.below b3).below b4).cell 2)))
      all_goals go_ret
      all_goals exact ⟨by rw [hE1]; rfl, fC.trans (Frm.below RC.hi (b3.trans (b4.mono b3.size))), fun z => by rw [hE1] at z; cases z⟩
end Go.Proofs.YtlhhmlfcodmebaaGreatDoor.Pg
namespace Go.Proofs.YtlhhmlfcodmebaaGreatDoor.Pg
set_option linter.unusedVariables false
set_option linter.unusedSimpArgs false
open Go.RowKit Go.WideShapes Go.ChangeShapes
open Go.Proofs.YtlhhmlfcodmebaaGreatDoor.Wd (KM kindsL kinds_walk run_get at? opOf_walk bt)
set_option linter.unusedVariables false
set_option linter.unusedSimpArgs false
set_option maxHeartbeats 8000000 in
set_option maxRecDepth 100000 in
theorem line_onrecv (w0 : World) (n0 r N g cap : Nat) (p : Pg) (last : Nat) (W : World) (ws : List ByteArray) (R : Rd w0 n0 r N p (atOf last) W) (hI : Inv p last) (hw : Ws n0 r g (bt [111, 110, 114, 101, 99, 118] :: ws) W) (hg : ∀ row ∈ p.rows, row.blk ≠ some g) (h1 : ∀ x ∈ ws, x.size ≤ 281474976710656) (hc : ws.length + 1 ≤ cap) (hlw : ws.length ≤ 1000000) (hN : N ≤ 1000000) :
    Calls Tryz.prog 25 #[.pointer (some ⟨r, 0, none⟩), .slice (some ⟨g, 0, none⟩) (ws.length + 1) cap] W
      (Does w0 n0 r N W (if may 9 last = false then 53 else if ws.length ≠ 3 then 52 else (vals (lets 9 0) (ws.map (·.data.toList))).2) (taken p.bare 9 0 (vals (lets 9 0) (ws.map (·.data.toList))).1) (atOf 9)) := by
  have v0 := hw.cell 0 _ rfl
  have cK := Lib.hid (fun W => kinds_walk W)
  have KS := Lib.hid (fun W' (hb : Below W.heap.size W W') => (hw.below hb).cell 0 _ rfl)
  have dr : Below W.heap.size W W.drew := Below.drew (Below.refl _ _)
  have vA := fun o => KS.out (W.alloc o) ((Below.refl _ _).alloc (Nat.le_refl _) o)
  have hl0 : (0 : Int) < (ws.length : Int) + 1 := by omega
  have hat : ∀ b1 b2 b3 b4, at? (bt [111, 110, 114, 101, 99, 118]) (kindsL b1 b2 b3 b4) = some (.agg #[.int .i64 4, .func (.func 88) #[] #[], .func (.func 89) #[] #[]]) := fun b1 b2 b3 b4 => by kernel_rfl
  have cO := Lib.hid (fun W => opOf_walk (bt [111, 110, 114, 101, 99, 118]) W (by decide))
  replace hat := Lib.hid hat
  have hdo := Lib.hid (fun W' (hb : Below W.heap.size W W') (hm : may 9 last = true) (hl : ws.length = 3) => does_onrecv (Asks.below ⟨R, hw, hg, h1, hc, hN, hI⟩ hb) hm hl)
  generalize bt [111, 110, 114, 101, 99, 118] = x0 at *
  obtain ⟨E, hE⟩ : ∃ E, Hid (E = (if may 9 last = false then 53 else if ws.length ≠ 3 then 52 else (vals (lets 9 0) (ws.map (·.data.toList))).2)) := ⟨_, Lib.hid rfl⟩
  rw [← hE.out]
  obtain ⟨Q, hQ⟩ : ∃ Q, Hid (Q = taken p.bare 9 0 (vals (lets 9 0) (ws.map (·.data.toList))).1) := ⟨_, Lib.hid rfl⟩
  rw [← hQ.out]
  go_enter Tryz.func25, Tryz.ntmps25
  go_wp2_with (fail)
  go_cut [5, 6] (fun q k wx => ∃ (P bx : Nat), q = .pointer (some ⟨P, 0, none⟩) ∧ k = .bool true ∧ Below W.heap.size W wx ∧ Blk P #[.int .i64 4, .func (.func 88) #[] #[], .func (.func 89) #[] #[]] wx ∧ W.heap.size ≤ P ∧ True)
  case first =>
    go_region_law ((go_simp; go_at_call 53; ((with_reducible refine (cK.out _).mono ?_); rintro e W2 ⟨m, b1, b2, b3, b4, rfl, K⟩; have hget := run_get K.map x0; rw [hat.out] at hget; simp only [Option.getD_some, Option.isSome_some] at hget; have hget2 := fun o => run_get (W := W2.alloc o) ((Below.heap_alloc W2 o m K.lt).trans K.map) x0; rw [hat.out] at hget2; simp only [Option.getD_some, Option.isSome_some] at hget2; (first | (have bW : Below W.heap.size W W2 := dr.trans K.env.acc) | (have bW : Below W.heap.size W W2 := (((Below.refl W.heap.size W).alloc (Nat.le_refl _) _).drew).trans (K.env.acc.mono (by simp)))); have vW := KS.out W2 bW; have vW2 := fun o => KS.out (W2.alloc o) (bW.alloc bW.size o); try (have EB := ((Blk.new W #[.int .i64 0, .nilFunc, .nilFunc] 112).drew).below K.env.acc; have e0 : W2.cell? ⟨W.heap.size, 0, none⟩ = some (.int .i64 0) := EB.cell 0; have e1 : W2.cell? ⟨W.heap.size, 1, none⟩ = some .nilFunc := EB.cell 1; have e2 : W2.cell? ⟨W.heap.size, 2, none⟩ = some .nilFunc := EB.cell 2; have ez := EB.fr))))
    all_goals have bsz := bW.size
    all_goals go_wp2_with (fail)
    all_goals go_meet
    all_goals first
      | exact ⟨_, b1, rfl, rfl, bW.alloc bsz _, Blk.new _ _ _, bsz, trivial⟩
      | exact ⟨_, b1, rfl, rfl, (bW.alloc bsz _).drew, (Blk.new _ _ _).drew, bsz, trivial⟩
      | exact ⟨_, b1, rfl, rfl, ((bW.setCell (Nat.le_refl _) _).setCell (Nat.le_refl _) _).setCell (Nat.le_refl _) _, ((EB.set 0 (by simp) _).set 1 (by simp) _).set 2 (by simp) _, Nat.le_refl _, trivial⟩
  case rest =>
    obtain ⟨P, bx, rfl, rfl, bC, BP, hP, Bx⟩ := hcut
    have RC := R.below bC
    have fC := Frm.below (r := r) R.hi bC
    have vC := KS.out wc bC
    have qC : wc.cell? ⟨P, 1, none⟩ = some (.func (.func 88) #[] #[]) := BP.cell 1
    clear hat cK vA dr v0
    have cM := Lib.hid (fun W' (hb : Below wc.heap.size wc W') => (show Calls Tryz.prog 88 #[.pointer (some ⟨r, 0, none⟩)] W' fun e w' => e = .returned (.bool (may 9 last)) ∧ Below W'.heap.size W' w' from inSel_may p last hI 9 W' (RC.below hb) hN (by decide)))
    have cD := Lib.hid (fun W' (hb : Below wc.heap.size wc W') (hm : may 9 last = true) (hl : ws.length = 3) => hdo.out W' (bC.trans (hb.mono bC.size)) hm hl)
    have hP1 := BP.lt
    by_cases hm : may 9 last = true
    · by_cases hl : ws.length = 3
      · have hq : ((ws.length : Int) + 1 != 4) = false := by rw [bne_eq_false_iff_eq]; omega
        have hE1 : E = (vals (lets 9 0) (ws.map (·.data.toList))).2 := by rw [hE.out, if_neg (by rw [hm]; decide), if_neg (by simpa using hl)]
        have cM1 := Lib.hid (fun W' hb => (cM.out W' hb))
        rw [hm] at cM1
        have cD1 := Lib.hid (fun W' hb => cD.out W' hb hm hl)
        unfold ask at cD1
        rw [← hE1, ← hQ.out] at cD1
        replace hl := Lib.hid hl
        replace hE1 := Lib.hid hE1
        clear cM cD
        go_wp2_with (first
          | (go_at_call 54; ((with_reducible refine (cO.out _).mono ?_); rintro e W3 ⟨rfl, b3⟩; have q3 : W3.cell? ⟨P, 1, none⟩ = some (.func (.func 88) #[] #[]) := (BP.below b3).cell 1))
          | (go_at_call 88; ((with_reducible refine (cM1.out _ b3).mono ?_); rintro e W4 ⟨rfl, b4⟩; have q4 : W4.cell? ⟨P, 0, none⟩ = some (.int .i64 4) := ((BP.below b3).below b4).cell 0; have q5 : W4.cell? ⟨P, 2, none⟩ = some (.func (.func 89) #[] #[]) := ((BP.below b3).below b4).cell 2))
          | (go_at_call 89; ((with_reducible refine (cD1.out _ (b3.trans (b4.mono b3.size))).mono ?_); rintro e W5 ⟨rfl, fD, okD⟩)))
        go_ret
        exact ⟨rfl, (fC.trans (Frm.below RC.hi (b3.trans (b4.mono b3.size)))).trans fD, okD⟩
      · have hq : ((ws.length : Int) + 1 != 4) = true := by rw [bne_iff_ne]; intro z; exact hl (by omega)
        have hE1 : E = 52 := by rw [hE.out, if_neg (by rw [hm]; decide), if_pos hl]
        have cM1 := Lib.hid (fun W' hb => (cM.out W' hb))
        rw [hm] at cM1
        clear cM cD
        go_wp2_with (first
          | (go_at_call 54; ((with_reducible refine (cO.out _).mono ?_); rintro e W3 ⟨rfl, b3⟩; have q3 : W3.cell? ⟨P, 1, none⟩ = some (.func (.func 88) #[] #[]) := (BP.below b3).cell 1))
          | (go_at_call 88; ((with_reducible refine (cM1.out _ b3).mono ?_); rintro e W4 ⟨rfl, b4⟩; have q4 : W4.cell? ⟨P, 0, none⟩ = some (.int .i64 4) := ((BP.below b3).below b4).cell 0; have q5 : W4.cell? ⟨P, 2, none⟩ = some (.func (.func 89) #[] #[]) := ((BP.below b3).below b4).cell 2)))
        all_goals go_ret
        all_goals exact ⟨by rw [hE1]; rfl, fC.trans (Frm.below RC.hi (b3.trans (b4.mono b3.size))), fun z => by rw [hE1] at z; cases z⟩
    · have hE1 : E = 53 := by rw [hE.out, if_pos (by simpa using hm)]
      have hm' : may 9 last = false := by simpa using hm
      have cM1 := Lib.hid (fun W' hb => (cM.out W' hb))
      rw [hm'] at cM1
      clear cM cD
      go_wp2_with (first
        | (go_at_call 54; ((with_reducible refine (cO.out _).mono ?_); rintro e W3 ⟨rfl, b3⟩; have q3 : W3.cell? ⟨P, 1, none⟩ = some (.func (.func 88) #[] #[]) := (BP.below b3).cell 1))
        | (go_at_call 88; ((with_reducible refine (cM1.out _ b3).mono ?_); rintro e W4 ⟨rfl, b4⟩; have q4 : W4.cell? ⟨P, 0, none⟩ = some (.int .i64 4) := ((BP.below b3).below b4).cell 0; have q5 : W4.cell? ⟨P, 2, none⟩ = some (.func (.func 89) #[] #[]) := ((BP.below b3).below b4).cell 2)))
      all_goals go_ret
      all_goals exact ⟨by rw [hE1]; rfl, fC.trans (Frm.below RC.hi (b3.trans (b4.mono b3.size))), fun z => by rw [hE1] at z; cases z⟩
end Go.Proofs.YtlhhmlfcodmebaaGreatDoor.Pg
namespace Go.Proofs.YtlhhmlfcodmebaaGreatDoor.Pg
set_option linter.unusedVariables false
set_option linter.unusedSimpArgs false
open Go.RowKit Go.WideShapes Go.ChangeShapes
open Go.Proofs.YtlhhmlfcodmebaaGreatDoor.Wd (KM kindsL kinds_walk run_get at? opOf_walk bt)
set_option linter.unusedVariables false
set_option linter.unusedSimpArgs false
theorem idx_none (s : List UInt8) : ∀ (l : List (List UInt8)) (k : Nat), 1 ≤ k → idx s l k = 0 → ∀ x ∈ l, x ≠ s
  | [], _, _, _, _, h => by cases h
  | y :: l, k, hk, h, x, hx => by
    rw [idx] at h
    by_cases e : y = s
    · rw [if_pos e] at h; omega
    · rw [if_neg e] at h
      rcases List.mem_cons.1 hx with rfl | hx
      · exact e
      · exact idx_none s l (k + 1) (by omega) h x hx
theorem at_none (x0 : ByteArray) (hx : idx x0.data.toList fixed 1 = 0) (b1 b2 b3 b4 : Nat) : at? x0 (kindsL b1 b2 b3 b4) = none := by
  have hn := idx_none x0.data.toList fixed 1 (by omega) hx
  have h : ∀ l : List UInt8, l ∈ fixed → ¬ x0 = ⟨l.toArray⟩ := fun l hl e => hn l hl (by rw [e])
  have h1 := h [115, 99, 97, 114, 97, 98] (by decide)
  have h2 := h [118, 97, 114] (by decide)
  have h3 := h [97, 116, 111, 109, 105, 99] (by decide)
  have h4 := h [109, 117, 116, 101, 120] (by decide)
  have h5 := h [99, 104, 97, 110] (by decide)
  have h6 := h [102, 117, 110, 99] (by decide)
  have h7 := h [99, 104, 111, 111, 115, 101] (by decide)
  have h8 := h [111, 110, 115, 101, 110, 100] (by decide)
  have h9 := h [111, 110, 114, 101, 99, 118] (by decide)
  unfold kindsL
  rw [at?, if_neg h1, at?, if_neg h2, at?, if_neg h3, at?, if_neg h4, at?, if_neg h5, at?, if_neg h6, at?, if_neg h7, at?, if_neg h8, at?, if_neg h9, at?]
theorem opAt_le (s : List UInt8) (hs : s ≠ []) : opAt s ≤ 65 := by
  rw [Wd.opAt_eq s hs]
  have hl : ((names.take 37).drop 1).length = 36 := by decide
  split
  · rcases idx_range s ((names.take 37).drop 1) 1 with q | ⟨q1, q2⟩ <;> omega
  · rcases fp_mem s Wd.ops2 with q | q
    · omega
    · have : ∀ o ∈ Wd.ops2, o ≤ 65 := by decide
      exact this _ q
set_option maxHeartbeats 8000000 in
set_option maxRecDepth 100000 in
theorem line_other (w0 : World) (n0 r N g cap : Nat) (p : Pg) (last : Nat) (W : World) (x0 : ByteArray) (ws : List ByteArray) (hx : idx x0.data.toList fixed 1 = 0) (hs : x0.data.toList ≠ []) (R : Rd w0 n0 r N p (atOf last) W) (hI : Inv p last) (hw : Ws n0 r g (x0 :: ws) W) (hg : ∀ row ∈ p.rows, row.blk ≠ some g) (h1 : ∀ x ∈ ws, x.size ≤ 281474976710656) (hc : ws.length + 1 ≤ cap) (hlw : ws.length ≤ 1000000) (hN : N ≤ 1000000) :
    Calls Tryz.prog 25 #[.pointer (some ⟨r, 0, none⟩), .slice (some ⟨g, 0, none⟩) (ws.length + 1) cap] W
      (Does w0 n0 r N W (if opAt x0.data.toList = 0 then 50 else if may 10 last = false then 53 else if ws.length ≠ (lets 10 (opAt x0.data.toList)).length then 52 else (vals (lets 10 (opAt x0.data.toList)) (ws.map (·.data.toList))).2) (taken p.bare 10 (opAt x0.data.toList) (vals (lets 10 (opAt x0.data.toList)) (ws.map (·.data.toList))).1) (atOf 10)) := by
  have v0 := hw.cell 0 _ rfl
  have cK := Lib.hid (fun W => kinds_walk W)
  have KS := Lib.hid (fun W' (hb : Below W.heap.size W W') => (hw.below hb).cell 0 _ rfl)
  have dr : Below W.heap.size W W.drew := Below.drew (Below.refl _ _)
  have vA := fun o => KS.out (W.alloc o) ((Below.refl _ _).alloc (Nat.le_refl _) o)
  have hl0 : (0 : Int) < (ws.length : Int) + 1 := by omega
  have hat := Lib.hid (fun b1 b2 b3 b4 => at_none x0 hx b1 b2 b3 b4)
  have cO := Lib.hid (fun W => opOf_walk x0 W hs)
  have hsz := opAt_form x0.data.toList hs
  have hle := opAt_le x0.data.toList hs
  generalize opAt x0.data.toList = op at *
  have hcode := Lib.hid (fun W' (hb : Below W.heap.size W W') (h0 : op ≠ 0) (fs : List Fn) (f : Fn) (hp : p.funcs = fs ++ [f]) => code_walk w0 n0 r N g cap p (atOf last) W' x0 ws op (R.below hb) fs f hp (hsz h0) hle (hw.below hb) h1 hc hlw hN)
  obtain ⟨E, hE⟩ : ∃ E, Hid (E = (if op = 0 then 50 else if may 10 last = false then 53 else if ws.length ≠ (lets 10 op).length then 52 else (vals (lets 10 op) (ws.map (·.data.toList))).2)) := ⟨_, Lib.hid rfl⟩
  rw [← hE.out]
  obtain ⟨Q, hQ⟩ : ∃ Q, Hid (Q = taken p.bare 10 op (vals (lets 10 op) (ws.map (·.data.toList))).1) := ⟨_, Lib.hid rfl⟩
  rw [← hQ.out]
  go_enter Tryz.func25, Tryz.ntmps25
  go_wp2_with (fail)
  go_cut [5, 6] (fun q k wx => ∃ (P bx : Nat), q = .pointer (some ⟨P, 0, none⟩) ∧ k = .bool false ∧ Below W.heap.size W wx ∧ Blk P #[.int .i64 0, .nilFunc, .nilFunc] wx ∧ W.heap.size ≤ P ∧ True)
  case first =>
    go_region_law ((go_simp; go_at_call 53; ((with_reducible refine (cK.out _).mono ?_); rintro e W2 ⟨m, b1, b2, b3, b4, rfl, K⟩; have hget := run_get K.map x0; rw [hat.out] at hget; simp only [Option.getD_none, Option.isSome_none] at hget; have hget2 := fun o => run_get (W := W2.alloc o) ((Below.heap_alloc W2 o m K.lt).trans K.map) x0; rw [hat.out] at hget2; simp only [Option.getD_none, Option.isSome_none] at hget2; (first | (have bW : Below W.heap.size W W2 := dr.trans K.env.acc) | (have bW : Below W.heap.size W W2 := (((Below.refl W.heap.size W).alloc (Nat.le_refl _) _).drew).trans (K.env.acc.mono (by simp)))); have vW := KS.out W2 bW; have vW2 := fun o => KS.out (W2.alloc o) (bW.alloc bW.size o); try (have EB := ((Blk.new W #[.int .i64 0, .nilFunc, .nilFunc] 112).drew).below K.env.acc; have e0 : W2.cell? ⟨W.heap.size, 0, none⟩ = some (.int .i64 0) := EB.cell 0; have e1 : W2.cell? ⟨W.heap.size, 1, none⟩ = some .nilFunc := EB.cell 1; have e2 : W2.cell? ⟨W.heap.size, 2, none⟩ = some .nilFunc := EB.cell 2; have ez := EB.fr))))
    all_goals have bsz := bW.size
    all_goals go_wp2_with (fail)
    all_goals go_meet
    all_goals first
      | exact ⟨_, b1, rfl, rfl, bW.alloc bsz _, Blk.new _ _ _, bsz, trivial⟩
      | exact ⟨_, b1, rfl, rfl, (bW.alloc bsz _).drew, (Blk.new _ _ _).drew, bsz, trivial⟩
      | exact ⟨_, b1, rfl, rfl, ((bW.setCell (Nat.le_refl _) _).setCell (Nat.le_refl _) _).setCell (Nat.le_refl _) _, ((EB.set 0 (by simp) _).set 1 (by simp) _).set 2 (by simp) _, Nat.le_refl _, trivial⟩
  case rest =>
    obtain ⟨P, bx, rfl, rfl, bC, BP, hP, Bx⟩ := hcut
    have RC := R.below bC
    have fC := Frm.below (r := r) R.hi bC
    have vC := KS.out wc bC
    clear hat cK vA dr v0
    by_cases h0 : op = 0
    · subst h0
      have hE1 : E = 50 := by rw [hE.out, if_pos rfl]
      have hd0 : decide ((0 : Nat) ≠ 0) = false := by decide
      rw [hd0] at cO
      go_wp2_with (go_at_call 54; ((with_reducible refine (cO.out _).mono ?_); rintro e W3 ⟨rfl, b3⟩))
      all_goals go_ret
      all_goals exact ⟨by rw [hE1]; rfl, fC.trans (Frm.below RC.hi b3), fun z => by rw [hE1] at z; cases z⟩
    · rw [decide_eq_true h0] at cO
      by_cases hm : may 10 last = true
      · have hm' := hm
        rw [mayIs_10, decide_eq_true_eq] at hm'
        have hat4 : ¬ atOf last < 4 := by
          unfold atOf
          rw [if_neg (by omega), if_neg (by omega), if_neg (by omega), if_neg (by omega)]
          split <;> omega
        obtain ⟨fs, f, hp, _⟩ := hI.funcs hm'
        have hE1 : E = (if ws.length ≠ (lets 10 op).length then 52 else (vals (lets 10 op) (ws.map (·.data.toList))).2) := by rw [hE.out, if_neg h0, if_neg (by rw [hm]; decide)]
        have cD := Lib.hid (fun W' (hb : Below wc.heap.size wc W') => hcode.out W' (bC.trans (hb.mono bC.size)) h0 fs f hp)
        rw [← hE1, ← hQ.out] at cD
        replace hE1 := Lib.hid hE1
        clear hcode
        go_wp2_with (first
          | (go_at_call 54; ((with_reducible refine (cO.out _).mono ?_); rintro e W3 ⟨rfl, b3⟩; have q4 : W3.cell? ⟨r, 4, none⟩ = some (.int .i64 (atOf last)) := (RC.below b3).cell 4))
          | (go_at_call 55; ((with_reducible refine (cD.out _ b3).mono ?_); rintro e W5 ⟨rfl, fD, okD⟩)))
        all_goals go_ret
        all_goals exact ⟨rfl, (fC.trans (Frm.below RC.hi b3)).trans fD, okD⟩
      · have hE1 : E = 53 := by rw [hE.out, if_neg h0, if_pos (by simpa using hm)]
        have hat4 : atOf last < 4 := by
          rw [mayIs_10, decide_eq_true_eq] at hm
          unfold atOf
          repeat' split
          all_goals omega
        clear hcode
        go_wp2_with (go_at_call 54; ((with_reducible refine (cO.out _).mono ?_); rintro e W3 ⟨rfl, b3⟩; have q4 : W3.cell? ⟨r, 4, none⟩ = some (.int .i64 (atOf last)) := (RC.below b3).cell 4))
        all_goals go_ret
        all_goals exact ⟨by rw [hE1]; rfl, fC.trans (Frm.below RC.hi b3), fun z => by rw [hE1] at z; cases z⟩
end Go.Proofs.YtlhhmlfcodmebaaGreatDoor.Pg
