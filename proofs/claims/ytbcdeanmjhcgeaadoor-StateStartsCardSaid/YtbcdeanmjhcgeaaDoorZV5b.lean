/- States, walked: is a channel one of a program: with an offer. -/
import Derived.Test.YtbcdeanmjhcgeaaDoorZV5
namespace Go.Proofs.YtbcdeanmjhcgeaaDoor.Pg
set_option linter.unusedVariables false
set_option linter.unusedSimpArgs false
open Go.ChangeShapes Go.WideShapes Go.RowKit
set_option linter.unusedVariables false
set_option maxHeartbeats 16000000 in
set_option maxRecDepth 100000 in
theorem chan_1_0 (P : Pg) (s : St)  (k : Nat) (hb ho : Nat) (w : World) (hhl : hb < w.heap.size) (st : Array Value) (hk : k < P.chans.length) (hk4 : k < 4) (cap b0 b1 b2 b3 len off frm val : Int) (cl : Bool) (hlh : P.chans.length ≤ 140737488351232) (hha : P.ha = some ⟨hb, ho, none⟩)
  (z0 : w.cell? ⟨hb, ho + k, none⟩ = some (.int .i64 cap)) (hc4 : cap ≤ 4)
  (h121 : st.size = 121) (e0 : st[12 + k * 9]? = some (.int .i64 b0)) (e1 : st[12 + k * 9 + 1]? = some (.int .i64 b1)) (e2 : st[12 + k * 9 + 2]? = some (.int .i64 b2)) (e3 : st[12 + k * 9 + 3]? = some (.int .i64 b3))
  (e4 : st[12 + k * 9 + 4]? = some (.int .i64 len)) (e5 : st[12 + k * 9 + 5]? = some (.bool cl)) (e6 : st[12 + k * 9 + 6]? = some (.int .i64 off)) (e7 : st[12 + k * 9 + 7]? = some (.int .i64 frm)) (e8 : st[12 + k * 9 + 8]? = some (.int .i64 val))
  (hl : len = 0) (hlc : len ≤ cap) (hz : off = 1 ∨ off = 2 ∨ off = 3) (hcz : cap = 0)
  (cW : Hid (∀ W, Below w.heap.size w W → Calls Tryd.prog 53 #[P.v, .agg st, .int .i64 frm, .int .i64 k] W fun e w' => e = .returned (.bool (waits P s frm k)) ∧ Below W.heap.size W w')) (r : Bool)
  (hr : Hid (r = (zeros len [b0, b1, b2, b3] && (decide ((off = 1 ∨ val = 0) ∧ ¬ (off = 1 ∧ cl = true) ∧ ¬ (off = 3 ∧ cl = false)) && waits P s frm k)))) : Calls Tryd.prog 39 #[P.v, .agg st, .int .i64 k] w fun e w' => e = .returned (.bool r) ∧ Below w.heap.size w w' := by
  unfold Pg.v at cW
  rw [hha] at cW
  unfold Pg.v
  rw [hha]
  clear hha
  have h1 : hb < w.heap.size + 1 := by omega
  have h2 : hb < w.heap.size + 1 + 1 := by omega
  subst hl
  have : decide (cap < 0) = false := by first | (simp; done) | (simp; omega)
  have g1 : (off != 0) = true := by simp; omega
  have g2 : (cap != 0) = false := by simp; omega
  have : decide (off < 0) = false := by first | (simp; done) | (simp; omega)
  have : decide (3 < off) = false := by first | (simp; done) | (simp; omega)
  clear hlc
  go_enter Tryd.func39, Tryd.ntmps39
  go_wp2
  repeat (go_quiet (fail); go_wp2)
  refine wp_loop_rounds 5 ?_
  by_cases q0 : b0 = 0
  rotate_left
  · have qb : (b0 != 0) = true := by simpa using q0
    have hrv := Lib.hid (show r = false by rw [hr.out, zeros_no (j := 0) (by simp) (by omega) (by exact q0), Bool.false_and])
    rw [rounds_succ]; go_wp2
    go_ret
    exact ⟨by first | rfl | (rw [hrv.out]; rfl), by repeat (first | assumption | (with_reducible exact Below.refl _ _) | (with_reducible refine Below.drew ?_) | (with_reducible refine below_drewN ?_ _) | (with_reducible refine Below.alloc ?_ (by first | omega | (simp <;> omega)) _))⟩
  have qb0 : (b0 != 0) = false := by simpa using q0
  rw [rounds_succ]; go_wp2
  by_cases q1 : b1 = 0
  rotate_left
  · have qb : (b1 != 0) = true := by simpa using q1
    have hrv := Lib.hid (show r = false by rw [hr.out, zeros_no (j := 1) (by simp) (by omega) (by exact q1), Bool.false_and])
    rw [rounds_succ]; go_wp2
    go_ret
    exact ⟨by first | rfl | (rw [hrv.out]; rfl), by repeat (first | assumption | (with_reducible exact Below.refl _ _) | (with_reducible refine Below.drew ?_) | (with_reducible refine below_drewN ?_ _) | (with_reducible refine Below.alloc ?_ (by first | omega | (simp <;> omega)) _))⟩
  have qb1 : (b1 != 0) = false := by simpa using q1
  rw [rounds_succ]; go_wp2
  by_cases q2 : b2 = 0
  rotate_left
  · have qb : (b2 != 0) = true := by simpa using q2
    have hrv := Lib.hid (show r = false by rw [hr.out, zeros_no (j := 2) (by simp) (by omega) (by exact q2), Bool.false_and])
    rw [rounds_succ]; go_wp2
    go_ret
    exact ⟨by first | rfl | (rw [hrv.out]; rfl), by repeat (first | assumption | (with_reducible exact Below.refl _ _) | (with_reducible refine Below.drew ?_) | (with_reducible refine below_drewN ?_ _) | (with_reducible refine Below.alloc ?_ (by first | omega | (simp <;> omega)) _))⟩
  have qb2 : (b2 != 0) = false := by simpa using q2
  rw [rounds_succ]; go_wp2
  by_cases q3 : b3 = 0
  rotate_left
  · have qb : (b3 != 0) = true := by simpa using q3
    have hrv := Lib.hid (show r = false by rw [hr.out, zeros_no (j := 3) (by simp) (by omega) (by exact q3), Bool.false_and])
    rw [rounds_succ]; go_wp2
    go_ret
    exact ⟨by first | rfl | (rw [hrv.out]; rfl), by repeat (first | assumption | (with_reducible exact Below.refl _ _) | (with_reducible refine Below.drew ?_) | (with_reducible refine below_drewN ?_ _) | (with_reducible refine Below.alloc ?_ (by first | omega | (simp <;> omega)) _))⟩
  have qb3 : (b3 != 0) = false := by simpa using q3
  rw [rounds_succ]; go_wp2
  have hzz : zeros 0 [b0, b1, b2, b3] = true := (zeros_iff _ _).2 (fun j hj => by
    match j, hj with
    | 0, _ => exact .inr q0
    | 1, _ => exact .inr q1
    | 2, _ => exact .inr q2
    | 3, _ => exact .inr q3)
  have hr2 := hr.out
  rw [hzz, Bool.true_and] at hr2
  replace hr2 := Lib.hid hr2
  clear hr hzz q0 q1 q2 q3
  rcases hz with rfl | rfl | rfl
  · cases cl
    · have hrv := Lib.hid (show r = waits P s frm k by rw [hr2.out]; simp)
      rw [rounds_succ]; go_wp2
      repeat (go_quiet (fail); go_wp2)
      (try (refine load_state _ rfl _ rfl st h121 (by repeat (first | assumption | (with_reducible exact Blk.new' _ _ _ _ (by first | rfl | (simp; done))) | (with_reducible refine Blk.drewN ?_ _) | (with_reducible refine Blk.drew ?_) | (with_reducible refine Blk.alloc ?_ _))) ?_; go_wp2_with ((go_at_call 53; ((with_reducible refine (cW.out _ (by repeat (first | assumption | (with_reducible exact Below.refl _ _) | (with_reducible refine Below.drew ?_) | (with_reducible refine below_drewN ?_ _) | (with_reducible refine Below.alloc ?_ (by first | omega | (simp <;> omega)) _)))).mono ?_); rintro e w' ⟨rfl, hb1⟩)))))
      all_goals go_ret
      all_goals exact ⟨by first | rfl | (rw [hrv.out]; rfl) | (simp; done) | (simp; omega) | (rw [hrv.out]; simp; done), Env.acc (bs := []) (by first | exact Env.next ⟨by repeat (first | assumption | (with_reducible exact Below.refl _ _) | (with_reducible refine Below.drew ?_) | (with_reducible refine below_drewN ?_ _) | (with_reducible refine Below.alloc ?_ (by first | omega | (simp <;> omega)) _)), fun _ h => by cases h⟩ hb1 | exact ⟨by repeat (first | assumption | (with_reducible exact Below.refl _ _) | (with_reducible refine Below.drew ?_) | (with_reducible refine below_drewN ?_ _) | (with_reducible refine Below.alloc ?_ (by first | omega | (simp <;> omega)) _)), fun _ h => by cases h⟩)⟩
    · have hrv := Lib.hid (show r = false by rw [hr2.out]; simp)
      rw [rounds_succ]; go_wp2
      repeat (go_quiet (fail); go_wp2)
      (try (refine load_state _ rfl _ rfl st h121 (by repeat (first | assumption | (with_reducible exact Blk.new' _ _ _ _ (by first | rfl | (simp; done))) | (with_reducible refine Blk.drewN ?_ _) | (with_reducible refine Blk.drew ?_) | (with_reducible refine Blk.alloc ?_ _))) ?_; go_wp2_with ((go_at_call 53; ((with_reducible refine (cW.out _ (by repeat (first | assumption | (with_reducible exact Below.refl _ _) | (with_reducible refine Below.drew ?_) | (with_reducible refine below_drewN ?_ _) | (with_reducible refine Below.alloc ?_ (by first | omega | (simp <;> omega)) _)))).mono ?_); rintro e w' ⟨rfl, hb1⟩)))))
      all_goals go_ret
      all_goals exact ⟨by first | rfl | (rw [hrv.out]; rfl) | (simp; done) | (simp; omega) | (rw [hrv.out]; simp; done), Env.acc (bs := []) (by first | exact Env.next ⟨by repeat (first | assumption | (with_reducible exact Below.refl _ _) | (with_reducible refine Below.drew ?_) | (with_reducible refine below_drewN ?_ _) | (with_reducible refine Below.alloc ?_ (by first | omega | (simp <;> omega)) _)), fun _ h => by cases h⟩ hb1 | exact ⟨by repeat (first | assumption | (with_reducible exact Below.refl _ _) | (with_reducible refine Below.drew ?_) | (with_reducible refine below_drewN ?_ _) | (with_reducible refine Below.alloc ?_ (by first | omega | (simp <;> omega)) _)), fun _ h => by cases h⟩)⟩
  · by_cases hv : val = 0
    · subst hv
      have hrv := Lib.hid (show r = waits P s frm k by rw [hr2.out]; simp)
      rw [rounds_succ]; go_wp2
      repeat (go_quiet (fail); go_wp2)
      (try (refine load_state _ rfl _ rfl st h121 (by repeat (first | assumption | (with_reducible exact Blk.new' _ _ _ _ (by first | rfl | (simp; done))) | (with_reducible refine Blk.drewN ?_ _) | (with_reducible refine Blk.drew ?_) | (with_reducible refine Blk.alloc ?_ _))) ?_; go_wp2_with ((go_at_call 53; ((with_reducible refine (cW.out _ (by repeat (first | assumption | (with_reducible exact Below.refl _ _) | (with_reducible refine Below.drew ?_) | (with_reducible refine below_drewN ?_ _) | (with_reducible refine Below.alloc ?_ (by first | omega | (simp <;> omega)) _)))).mono ?_); rintro e w' ⟨rfl, hb1⟩)))))
      all_goals go_ret
      all_goals exact ⟨by first | rfl | (rw [hrv.out]; rfl) | (simp; done) | (simp; omega) | (rw [hrv.out]; simp; done), Env.acc (bs := []) (by first | exact Env.next ⟨by repeat (first | assumption | (with_reducible exact Below.refl _ _) | (with_reducible refine Below.drew ?_) | (with_reducible refine below_drewN ?_ _) | (with_reducible refine Below.alloc ?_ (by first | omega | (simp <;> omega)) _)), fun _ h => by cases h⟩ hb1 | exact ⟨by repeat (first | assumption | (with_reducible exact Below.refl _ _) | (with_reducible refine Below.drew ?_) | (with_reducible refine below_drewN ?_ _) | (with_reducible refine Below.alloc ?_ (by first | omega | (simp <;> omega)) _)), fun _ h => by cases h⟩)⟩
    · have hvb : (val == 0) = false := by simpa using hv
      have hrv := Lib.hid (show r = false by rw [hr2.out]; simp [hv])
      clear hv
      rw [rounds_succ]; go_wp2
      repeat (go_quiet (fail); go_wp2)
      (try (refine load_state _ rfl _ rfl st h121 (by repeat (first | assumption | (with_reducible exact Blk.new' _ _ _ _ (by first | rfl | (simp; done))) | (with_reducible refine Blk.drewN ?_ _) | (with_reducible refine Blk.drew ?_) | (with_reducible refine Blk.alloc ?_ _))) ?_; go_wp2_with ((go_at_call 53; ((with_reducible refine (cW.out _ (by repeat (first | assumption | (with_reducible exact Below.refl _ _) | (with_reducible refine Below.drew ?_) | (with_reducible refine below_drewN ?_ _) | (with_reducible refine Below.alloc ?_ (by first | omega | (simp <;> omega)) _)))).mono ?_); rintro e w' ⟨rfl, hb1⟩)))))
      all_goals go_ret
      all_goals exact ⟨by first | rfl | (rw [hrv.out]; rfl) | (simp; done) | (simp; omega) | (rw [hrv.out]; simp; done), Env.acc (bs := []) (by first | exact Env.next ⟨by repeat (first | assumption | (with_reducible exact Below.refl _ _) | (with_reducible refine Below.drew ?_) | (with_reducible refine below_drewN ?_ _) | (with_reducible refine Below.alloc ?_ (by first | omega | (simp <;> omega)) _)), fun _ h => by cases h⟩ hb1 | exact ⟨by repeat (first | assumption | (with_reducible exact Below.refl _ _) | (with_reducible refine Below.drew ?_) | (with_reducible refine below_drewN ?_ _) | (with_reducible refine Below.alloc ?_ (by first | omega | (simp <;> omega)) _)), fun _ h => by cases h⟩)⟩
  · by_cases hv : val = 0
    · subst hv
      cases cl
      · have hrv := Lib.hid (show r = false by rw [hr2.out]; simp)
        rw [rounds_succ]; go_wp2
        repeat (go_quiet (fail); go_wp2)
        (try (refine load_state _ rfl _ rfl st h121 (by repeat (first | assumption | (with_reducible exact Blk.new' _ _ _ _ (by first | rfl | (simp; done))) | (with_reducible refine Blk.drewN ?_ _) | (with_reducible refine Blk.drew ?_) | (with_reducible refine Blk.alloc ?_ _))) ?_; go_wp2_with ((go_at_call 53; ((with_reducible refine (cW.out _ (by repeat (first | assumption | (with_reducible exact Below.refl _ _) | (with_reducible refine Below.drew ?_) | (with_reducible refine below_drewN ?_ _) | (with_reducible refine Below.alloc ?_ (by first | omega | (simp <;> omega)) _)))).mono ?_); rintro e w' ⟨rfl, hb1⟩)))))
        all_goals go_ret
        all_goals exact ⟨by first | rfl | (rw [hrv.out]; rfl) | (simp; done) | (simp; omega) | (rw [hrv.out]; simp; done), Env.acc (bs := []) (by first | exact Env.next ⟨by repeat (first | assumption | (with_reducible exact Below.refl _ _) | (with_reducible refine Below.drew ?_) | (with_reducible refine below_drewN ?_ _) | (with_reducible refine Below.alloc ?_ (by first | omega | (simp <;> omega)) _)), fun _ h => by cases h⟩ hb1 | exact ⟨by repeat (first | assumption | (with_reducible exact Below.refl _ _) | (with_reducible refine Below.drew ?_) | (with_reducible refine below_drewN ?_ _) | (with_reducible refine Below.alloc ?_ (by first | omega | (simp <;> omega)) _)), fun _ h => by cases h⟩)⟩
      · have hrv := Lib.hid (show r = waits P s frm k by rw [hr2.out]; simp)
        rw [rounds_succ]; go_wp2
        repeat (go_quiet (fail); go_wp2)
        (try (refine load_state _ rfl _ rfl st h121 (by repeat (first | assumption | (with_reducible exact Blk.new' _ _ _ _ (by first | rfl | (simp; done))) | (with_reducible refine Blk.drewN ?_ _) | (with_reducible refine Blk.drew ?_) | (with_reducible refine Blk.alloc ?_ _))) ?_; go_wp2_with ((go_at_call 53; ((with_reducible refine (cW.out _ (by repeat (first | assumption | (with_reducible exact Below.refl _ _) | (with_reducible refine Below.drew ?_) | (with_reducible refine below_drewN ?_ _) | (with_reducible refine Below.alloc ?_ (by first | omega | (simp <;> omega)) _)))).mono ?_); rintro e w' ⟨rfl, hb1⟩)))))
        all_goals go_ret
        all_goals exact ⟨by first | rfl | (rw [hrv.out]; rfl) | (simp; done) | (simp; omega) | (rw [hrv.out]; simp; done), Env.acc (bs := []) (by first | exact Env.next ⟨by repeat (first | assumption | (with_reducible exact Below.refl _ _) | (with_reducible refine Below.drew ?_) | (with_reducible refine below_drewN ?_ _) | (with_reducible refine Below.alloc ?_ (by first | omega | (simp <;> omega)) _)), fun _ h => by cases h⟩ hb1 | exact ⟨by repeat (first | assumption | (with_reducible exact Below.refl _ _) | (with_reducible refine Below.drew ?_) | (with_reducible refine below_drewN ?_ _) | (with_reducible refine Below.alloc ?_ (by first | omega | (simp <;> omega)) _)), fun _ h => by cases h⟩)⟩
    · cases cl
      · have hvb : (val == 0) = false := by simpa using hv
        have hrv := Lib.hid (show r = false by rw [hr2.out]; simp [hv])
        clear hv
        rw [rounds_succ]; go_wp2
        repeat (go_quiet (fail); go_wp2)
        (try (refine load_state _ rfl _ rfl st h121 (by repeat (first | assumption | (with_reducible exact Blk.new' _ _ _ _ (by first | rfl | (simp; done))) | (with_reducible refine Blk.drewN ?_ _) | (with_reducible refine Blk.drew ?_) | (with_reducible refine Blk.alloc ?_ _))) ?_; go_wp2_with ((go_at_call 53; ((with_reducible refine (cW.out _ (by repeat (first | assumption | (with_reducible exact Below.refl _ _) | (with_reducible refine Below.drew ?_) | (with_reducible refine below_drewN ?_ _) | (with_reducible refine Below.alloc ?_ (by first | omega | (simp <;> omega)) _)))).mono ?_); rintro e w' ⟨rfl, hb1⟩)))))
        all_goals go_ret
        all_goals exact ⟨by first | rfl | (rw [hrv.out]; rfl) | (simp; done) | (simp; omega) | (rw [hrv.out]; simp; done), Env.acc (bs := []) (by first | exact Env.next ⟨by repeat (first | assumption | (with_reducible exact Below.refl _ _) | (with_reducible refine Below.drew ?_) | (with_reducible refine below_drewN ?_ _) | (with_reducible refine Below.alloc ?_ (by first | omega | (simp <;> omega)) _)), fun _ h => by cases h⟩ hb1 | exact ⟨by repeat (first | assumption | (with_reducible exact Below.refl _ _) | (with_reducible refine Below.drew ?_) | (with_reducible refine below_drewN ?_ _) | (with_reducible refine Below.alloc ?_ (by first | omega | (simp <;> omega)) _)), fun _ h => by cases h⟩)⟩
      · have hvb : (val == 0) = false := by simpa using hv
        have hrv := Lib.hid (show r = false by rw [hr2.out]; simp [hv])
        clear hv
        rw [rounds_succ]; go_wp2
        repeat (go_quiet (fail); go_wp2)
        (try (refine load_state _ rfl _ rfl st h121 (by repeat (first | assumption | (with_reducible exact Blk.new' _ _ _ _ (by first | rfl | (simp; done))) | (with_reducible refine Blk.drewN ?_ _) | (with_reducible refine Blk.drew ?_) | (with_reducible refine Blk.alloc ?_ _))) ?_; go_wp2_with ((go_at_call 53; ((with_reducible refine (cW.out _ (by repeat (first | assumption | (with_reducible exact Below.refl _ _) | (with_reducible refine Below.drew ?_) | (with_reducible refine below_drewN ?_ _) | (with_reducible refine Below.alloc ?_ (by first | omega | (simp <;> omega)) _)))).mono ?_); rintro e w' ⟨rfl, hb1⟩)))))
        all_goals go_ret
        all_goals exact ⟨by first | rfl | (rw [hrv.out]; rfl) | (simp; done) | (simp; omega) | (rw [hrv.out]; simp; done), Env.acc (bs := []) (by first | exact Env.next ⟨by repeat (first | assumption | (with_reducible exact Below.refl _ _) | (with_reducible refine Below.drew ?_) | (with_reducible refine below_drewN ?_ _) | (with_reducible refine Below.alloc ?_ (by first | omega | (simp <;> omega)) _)), fun _ h => by cases h⟩ hb1 | exact ⟨by repeat (first | assumption | (with_reducible exact Below.refl _ _) | (with_reducible refine Below.drew ?_) | (with_reducible refine below_drewN ?_ _) | (with_reducible refine Below.alloc ?_ (by first | omega | (simp <;> omega)) _)), fun _ h => by cases h⟩)⟩
set_option maxHeartbeats 16000000 in
set_option maxRecDepth 100000 in
theorem chan_1_1 (P : Pg) (s : St)  (k : Nat) (hb ho : Nat) (w : World) (hhl : hb < w.heap.size) (st : Array Value) (hk : k < P.chans.length) (hk4 : k < 4) (cap b0 b1 b2 b3 len off frm val : Int) (cl : Bool) (hlh : P.chans.length ≤ 140737488351232) (hha : P.ha = some ⟨hb, ho, none⟩)
  (z0 : w.cell? ⟨hb, ho + k, none⟩ = some (.int .i64 cap)) (hc4 : cap ≤ 4)
  (h121 : st.size = 121) (e0 : st[12 + k * 9]? = some (.int .i64 b0)) (e1 : st[12 + k * 9 + 1]? = some (.int .i64 b1)) (e2 : st[12 + k * 9 + 2]? = some (.int .i64 b2)) (e3 : st[12 + k * 9 + 3]? = some (.int .i64 b3))
  (e4 : st[12 + k * 9 + 4]? = some (.int .i64 len)) (e5 : st[12 + k * 9 + 5]? = some (.bool cl)) (e6 : st[12 + k * 9 + 6]? = some (.int .i64 off)) (e7 : st[12 + k * 9 + 7]? = some (.int .i64 frm)) (e8 : st[12 + k * 9 + 8]? = some (.int .i64 val))
  (hl : len = 1) (hlc : len ≤ cap) (hz : off = 1 ∨ off = 2 ∨ off = 3) (hcz : cap = 0)
  (cW : Hid (∀ W, Below w.heap.size w W → Calls Tryd.prog 53 #[P.v, .agg st, .int .i64 frm, .int .i64 k] W fun e w' => e = .returned (.bool (waits P s frm k)) ∧ Below W.heap.size W w')) (r : Bool)
  (hr : Hid (r = (zeros len [b0, b1, b2, b3] && (decide ((off = 1 ∨ val = 0) ∧ ¬ (off = 1 ∧ cl = true) ∧ ¬ (off = 3 ∧ cl = false)) && waits P s frm k)))) : Calls Tryd.prog 39 #[P.v, .agg st, .int .i64 k] w fun e w' => e = .returned (.bool r) ∧ Below w.heap.size w w' := by
  exfalso; omega
set_option maxHeartbeats 16000000 in
set_option maxRecDepth 100000 in
theorem chan_1_2 (P : Pg) (s : St)  (k : Nat) (hb ho : Nat) (w : World) (hhl : hb < w.heap.size) (st : Array Value) (hk : k < P.chans.length) (hk4 : k < 4) (cap b0 b1 b2 b3 len off frm val : Int) (cl : Bool) (hlh : P.chans.length ≤ 140737488351232) (hha : P.ha = some ⟨hb, ho, none⟩)
  (z0 : w.cell? ⟨hb, ho + k, none⟩ = some (.int .i64 cap)) (hc4 : cap ≤ 4)
  (h121 : st.size = 121) (e0 : st[12 + k * 9]? = some (.int .i64 b0)) (e1 : st[12 + k * 9 + 1]? = some (.int .i64 b1)) (e2 : st[12 + k * 9 + 2]? = some (.int .i64 b2)) (e3 : st[12 + k * 9 + 3]? = some (.int .i64 b3))
  (e4 : st[12 + k * 9 + 4]? = some (.int .i64 len)) (e5 : st[12 + k * 9 + 5]? = some (.bool cl)) (e6 : st[12 + k * 9 + 6]? = some (.int .i64 off)) (e7 : st[12 + k * 9 + 7]? = some (.int .i64 frm)) (e8 : st[12 + k * 9 + 8]? = some (.int .i64 val))
  (hl : len = 2) (hlc : len ≤ cap) (hz : off = 1 ∨ off = 2 ∨ off = 3) (hcz : cap = 0)
  (cW : Hid (∀ W, Below w.heap.size w W → Calls Tryd.prog 53 #[P.v, .agg st, .int .i64 frm, .int .i64 k] W fun e w' => e = .returned (.bool (waits P s frm k)) ∧ Below W.heap.size W w')) (r : Bool)
  (hr : Hid (r = (zeros len [b0, b1, b2, b3] && (decide ((off = 1 ∨ val = 0) ∧ ¬ (off = 1 ∧ cl = true) ∧ ¬ (off = 3 ∧ cl = false)) && waits P s frm k)))) : Calls Tryd.prog 39 #[P.v, .agg st, .int .i64 k] w fun e w' => e = .returned (.bool r) ∧ Below w.heap.size w w' := by
  exfalso; omega
set_option maxHeartbeats 16000000 in
set_option maxRecDepth 100000 in
theorem chan_1_3 (P : Pg) (s : St)  (k : Nat) (hb ho : Nat) (w : World) (hhl : hb < w.heap.size) (st : Array Value) (hk : k < P.chans.length) (hk4 : k < 4) (cap b0 b1 b2 b3 len off frm val : Int) (cl : Bool) (hlh : P.chans.length ≤ 140737488351232) (hha : P.ha = some ⟨hb, ho, none⟩)
  (z0 : w.cell? ⟨hb, ho + k, none⟩ = some (.int .i64 cap)) (hc4 : cap ≤ 4)
  (h121 : st.size = 121) (e0 : st[12 + k * 9]? = some (.int .i64 b0)) (e1 : st[12 + k * 9 + 1]? = some (.int .i64 b1)) (e2 : st[12 + k * 9 + 2]? = some (.int .i64 b2)) (e3 : st[12 + k * 9 + 3]? = some (.int .i64 b3))
  (e4 : st[12 + k * 9 + 4]? = some (.int .i64 len)) (e5 : st[12 + k * 9 + 5]? = some (.bool cl)) (e6 : st[12 + k * 9 + 6]? = some (.int .i64 off)) (e7 : st[12 + k * 9 + 7]? = some (.int .i64 frm)) (e8 : st[12 + k * 9 + 8]? = some (.int .i64 val))
  (hl : len = 3) (hlc : len ≤ cap) (hz : off = 1 ∨ off = 2 ∨ off = 3) (hcz : cap = 0)
  (cW : Hid (∀ W, Below w.heap.size w W → Calls Tryd.prog 53 #[P.v, .agg st, .int .i64 frm, .int .i64 k] W fun e w' => e = .returned (.bool (waits P s frm k)) ∧ Below W.heap.size W w')) (r : Bool)
  (hr : Hid (r = (zeros len [b0, b1, b2, b3] && (decide ((off = 1 ∨ val = 0) ∧ ¬ (off = 1 ∧ cl = true) ∧ ¬ (off = 3 ∧ cl = false)) && waits P s frm k)))) : Calls Tryd.prog 39 #[P.v, .agg st, .int .i64 k] w fun e w' => e = .returned (.bool r) ∧ Below w.heap.size w w' := by
  exfalso; omega
set_option maxHeartbeats 16000000 in
set_option maxRecDepth 100000 in
theorem chan_1_4 (P : Pg) (s : St)  (k : Nat) (hb ho : Nat) (w : World) (hhl : hb < w.heap.size) (st : Array Value) (hk : k < P.chans.length) (hk4 : k < 4) (cap b0 b1 b2 b3 len off frm val : Int) (cl : Bool) (hlh : P.chans.length ≤ 140737488351232) (hha : P.ha = some ⟨hb, ho, none⟩)
  (z0 : w.cell? ⟨hb, ho + k, none⟩ = some (.int .i64 cap)) (hc4 : cap ≤ 4)
  (h121 : st.size = 121) (e0 : st[12 + k * 9]? = some (.int .i64 b0)) (e1 : st[12 + k * 9 + 1]? = some (.int .i64 b1)) (e2 : st[12 + k * 9 + 2]? = some (.int .i64 b2)) (e3 : st[12 + k * 9 + 3]? = some (.int .i64 b3))
  (e4 : st[12 + k * 9 + 4]? = some (.int .i64 len)) (e5 : st[12 + k * 9 + 5]? = some (.bool cl)) (e6 : st[12 + k * 9 + 6]? = some (.int .i64 off)) (e7 : st[12 + k * 9 + 7]? = some (.int .i64 frm)) (e8 : st[12 + k * 9 + 8]? = some (.int .i64 val))
  (hl : len = 4) (hlc : len ≤ cap) (hz : off = 1 ∨ off = 2 ∨ off = 3) (hcz : cap = 0)
  (cW : Hid (∀ W, Below w.heap.size w W → Calls Tryd.prog 53 #[P.v, .agg st, .int .i64 frm, .int .i64 k] W fun e w' => e = .returned (.bool (waits P s frm k)) ∧ Below W.heap.size W w')) (r : Bool)
  (hr : Hid (r = (zeros len [b0, b1, b2, b3] && (decide ((off = 1 ∨ val = 0) ∧ ¬ (off = 1 ∧ cl = true) ∧ ¬ (off = 3 ∧ cl = false)) && waits P s frm k)))) : Calls Tryd.prog 39 #[P.v, .agg st, .int .i64 k] w fun e w' => e = .returned (.bool r) ∧ Below w.heap.size w w' := by
  exfalso; omega
end Go.Proofs.YtbcdeanmjhcgeaaDoor.Pg
