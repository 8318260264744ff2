/- States, walked: is a channel one of a program, by the reference. -/
import Derived.Test.YtbcdeanmjhcgeaaDoorZV5
namespace Go.Proofs.YtbcdeanmjhcgeaaDoor.Pg
set_option linter.unusedVariables false
set_option linter.unusedSimpArgs false
open Go.ChangeShapes Go.WideShapes Go.RowKit
set_option linter.unusedVariables false
set_option maxHeartbeats 8000000 in
set_option maxRecDepth 100000 in
theorem rchan_no (P : Pg)  (k : Nat) (hb ho : Nat) (w : World) (hhl : hb < w.heap.size) (st : Array Value) (hk : k < P.chans.length) (hk4 : k < 4) (cap b0 b1 b2 b3 len off frm val : Int) (cl : Bool) (hlh : P.chans.length ≤ 140737488351232) (hha : P.ha = some ⟨hb, ho, none⟩)
  (z0 : w.cell? ⟨hb, ho + k, none⟩ = some (.int .i64 cap)) (hc4 : cap ≤ 4)
  (h121 : st.size = 121) (e0 : st[12 + k * 9]? = some (.int .i64 b0)) (e1 : st[12 + k * 9 + 1]? = some (.int .i64 b1)) (e2 : st[12 + k * 9 + 2]? = some (.int .i64 b2)) (e3 : st[12 + k * 9 + 3]? = some (.int .i64 b3))
  (e4 : st[12 + k * 9 + 4]? = some (.int .i64 len)) (e5 : st[12 + k * 9 + 5]? = some (.bool cl)) (e6 : st[12 + k * 9 + 6]? = some (.int .i64 off)) (e7 : st[12 + k * 9 + 7]? = some (.int .i64 frm)) (e8 : st[12 + k * 9 + 8]? = some (.int .i64 val))
  (hn : ¬ (0 ≤ len ∧ len ≤ cap ∧ 0 ≤ off ∧ off ≤ 3 ∧ (off = 0 ∨ cap = 0))) : Calls Tryd.prog 41 #[P.v, .agg st, .int .i64 k] w fun e w' => e = .returned (.bool false) ∧ Below w.heap.size w w' := by
  unfold Pg.v
  rw [hha]
  clear hha
  have h1 : hb < w.heap.size + 1 := by omega
  have h2 : hb < w.heap.size + 1 + 1 := by omega
  rcases (show len < 0 ∨ (0 ≤ len ∧ cap < len) ∨ (0 ≤ len ∧ len ≤ cap ∧ off < 0) ∨ (0 ≤ len ∧ len ≤ cap ∧ 0 ≤ off ∧ 3 < off) ∨ (0 ≤ len ∧ len ≤ cap ∧ 0 ≤ off ∧ off ≤ 3 ∧ off ≠ 0 ∧ cap ≠ 0) by omega) with c | ⟨c, d⟩ | ⟨c, d, e⟩ | ⟨c, d, e, f⟩ | ⟨c, d, e, f, g, h⟩
  · skip
    have : decide (len < 0) = true := by first | (simp; done) | (simp; omega)
    clear hn
    go_enter Tryd.func41, Tryd.ntmps41
    go_wp2
    repeat (go_quiet (fail); go_wp2)
    all_goals go_ret
    all_goals exact ⟨rfl, by repeat (first | assumption | (with_reducible exact Below.refl _ _) | (with_reducible refine Below.drew ?_) | (with_reducible refine below_drewN ?_ _) | (with_reducible refine Below.alloc ?_ (by first | omega | (simp <;> omega)) _))⟩
  · skip
    have : decide (len < 0) = false := by first | (simp; done) | (simp; omega)
    have : decide (cap < len) = true := by first | (simp; done) | (simp; omega)
    clear hn
    go_enter Tryd.func41, Tryd.ntmps41
    go_wp2
    repeat (go_quiet (fail); go_wp2)
    all_goals go_ret
    all_goals exact ⟨rfl, by repeat (first | assumption | (with_reducible exact Below.refl _ _) | (with_reducible refine Below.drew ?_) | (with_reducible refine below_drewN ?_ _) | (with_reducible refine Below.alloc ?_ (by first | omega | (simp <;> omega)) _))⟩
  · skip
    have : decide (len < 0) = false := by first | (simp; done) | (simp; omega)
    have : decide (cap < len) = false := by first | (simp; done) | (simp; omega)
    have : decide (off < 0) = true := by first | (simp; done) | (simp; omega)
    clear hn
    go_enter Tryd.func41, Tryd.ntmps41
    go_wp2
    repeat (go_quiet (fail); go_wp2)
    all_goals go_ret
    all_goals exact ⟨rfl, by repeat (first | assumption | (with_reducible exact Below.refl _ _) | (with_reducible refine Below.drew ?_) | (with_reducible refine below_drewN ?_ _) | (with_reducible refine Below.alloc ?_ (by first | omega | (simp <;> omega)) _))⟩
  · skip
    have : decide (len < 0) = false := by first | (simp; done) | (simp; omega)
    have : decide (cap < len) = false := by first | (simp; done) | (simp; omega)
    have : decide (off < 0) = false := by first | (simp; done) | (simp; omega)
    have : decide (3 < off) = true := by first | (simp; done) | (simp; omega)
    clear hn
    go_enter Tryd.func41, Tryd.ntmps41
    go_wp2
    repeat (go_quiet (fail); go_wp2)
    all_goals go_ret
    all_goals exact ⟨rfl, by repeat (first | assumption | (with_reducible exact Below.refl _ _) | (with_reducible refine Below.drew ?_) | (with_reducible refine below_drewN ?_ _) | (with_reducible refine Below.alloc ?_ (by first | omega | (simp <;> omega)) _))⟩
  · skip
    have : decide (len < 0) = false := by first | (simp; done) | (simp; omega)
    have : decide (cap < len) = false := by first | (simp; done) | (simp; omega)
    have : decide (off < 0) = false := by first | (simp; done) | (simp; omega)
    have : decide (3 < off) = false := by first | (simp; done) | (simp; omega)
    have g1 : (off != 0) = true := by simpa using g
    have g2 : (cap != 0) = true := by simpa using h
    clear g h
    clear hn
    go_enter Tryd.func41, Tryd.ntmps41
    go_wp2
    repeat (go_quiet (fail); go_wp2)
    all_goals go_ret
    all_goals exact ⟨rfl, by repeat (first | assumption | (with_reducible exact Below.refl _ _) | (with_reducible refine Below.drew ?_) | (with_reducible refine below_drewN ?_ _) | (with_reducible refine Below.alloc ?_ (by first | omega | (simp <;> omega)) _))⟩
set_option maxHeartbeats 16000000 in
set_option maxRecDepth 100000 in
theorem rchan_0_0t (P : Pg) (s : St)  (k : Nat) (hb ho : Nat) (w : World) (hhl : hb < w.heap.size) (st : Array Value) (hk : k < P.chans.length) (hk4 : k < 4) (cap b0 b1 b2 b3 len off frm val : Int) (cl : Bool) (hlh : P.chans.length ≤ 140737488351232) (hha : P.ha = some ⟨hb, ho, none⟩)
  (z0 : w.cell? ⟨hb, ho + k, none⟩ = some (.int .i64 cap)) (hc4 : cap ≤ 4)
  (h121 : st.size = 121) (e0 : st[12 + k * 9]? = some (.int .i64 b0)) (e1 : st[12 + k * 9 + 1]? = some (.int .i64 b1)) (e2 : st[12 + k * 9 + 2]? = some (.int .i64 b2)) (e3 : st[12 + k * 9 + 3]? = some (.int .i64 b3))
  (e4 : st[12 + k * 9 + 4]? = some (.int .i64 len)) (e5 : st[12 + k * 9 + 5]? = some (.bool cl)) (e6 : st[12 + k * 9 + 6]? = some (.int .i64 off)) (e7 : st[12 + k * 9 + 7]? = some (.int .i64 frm)) (e8 : st[12 + k * 9 + 8]? = some (.int .i64 val))
  (hl : len = 0) (hlc : len ≤ cap) (hz : off = 0) (hcb : (cap != 0) = true) (r : Bool)
  (hr : Hid (r = (zeros len [b0, b1, b2, b3] && decide (frm = 0 ∧ val = 0)))) : Calls Tryd.prog 41 #[P.v, .agg st, .int .i64 k] w fun e w' => e = .returned (.bool r) ∧ Below w.heap.size w w' := by
  unfold Pg.v
  rw [hha]
  clear hha
  have h1 : hb < w.heap.size + 1 := by omega
  have h2 : hb < w.heap.size + 1 + 1 := by omega
  subst hl
  have : decide (cap < 0) = false := by first | (simp; done) | (simp; omega)
  subst hz
  clear hlc
  have o0 : ((0 : Int) != 0) = false := rfl
  go_enter Tryd.func41, Tryd.ntmps41
  go_wp2
  repeat (go_quiet (fail); go_wp2)
  refine wp_loop_rounds 5 ?_
  by_cases q0 : b0 = 0
  rotate_left
  · have qb : (b0 != 0) = true := by simpa using q0
    have hrv := Lib.hid (show r = false by rw [hr.out, zeros_no (j := 0) (by simp) (by omega) (by exact q0), Bool.false_and])
    rw [rounds_succ]; go_wp2
    go_ret
    exact ⟨by first | rfl | (rw [hrv.out]; rfl), by repeat (first | assumption | (with_reducible exact Below.refl _ _) | (with_reducible refine Below.drew ?_) | (with_reducible refine below_drewN ?_ _) | (with_reducible refine Below.alloc ?_ (by first | omega | (simp <;> omega)) _))⟩
  have qb0 : (b0 != 0) = false := by simpa using q0
  rw [rounds_succ]; go_wp2
  by_cases q1 : b1 = 0
  rotate_left
  · have qb : (b1 != 0) = true := by simpa using q1
    have hrv := Lib.hid (show r = false by rw [hr.out, zeros_no (j := 1) (by simp) (by omega) (by exact q1), Bool.false_and])
    rw [rounds_succ]; go_wp2
    go_ret
    exact ⟨by first | rfl | (rw [hrv.out]; rfl), by repeat (first | assumption | (with_reducible exact Below.refl _ _) | (with_reducible refine Below.drew ?_) | (with_reducible refine below_drewN ?_ _) | (with_reducible refine Below.alloc ?_ (by first | omega | (simp <;> omega)) _))⟩
  have qb1 : (b1 != 0) = false := by simpa using q1
  rw [rounds_succ]; go_wp2
  by_cases q2 : b2 = 0
  rotate_left
  · have qb : (b2 != 0) = true := by simpa using q2
    have hrv := Lib.hid (show r = false by rw [hr.out, zeros_no (j := 2) (by simp) (by omega) (by exact q2), Bool.false_and])
    rw [rounds_succ]; go_wp2
    go_ret
    exact ⟨by first | rfl | (rw [hrv.out]; rfl), by repeat (first | assumption | (with_reducible exact Below.refl _ _) | (with_reducible refine Below.drew ?_) | (with_reducible refine below_drewN ?_ _) | (with_reducible refine Below.alloc ?_ (by first | omega | (simp <;> omega)) _))⟩
  have qb2 : (b2 != 0) = false := by simpa using q2
  rw [rounds_succ]; go_wp2
  by_cases q3 : b3 = 0
  rotate_left
  · have qb : (b3 != 0) = true := by simpa using q3
    have hrv := Lib.hid (show r = false by rw [hr.out, zeros_no (j := 3) (by simp) (by omega) (by exact q3), Bool.false_and])
    rw [rounds_succ]; go_wp2
    go_ret
    exact ⟨by first | rfl | (rw [hrv.out]; rfl), by repeat (first | assumption | (with_reducible exact Below.refl _ _) | (with_reducible refine Below.drew ?_) | (with_reducible refine below_drewN ?_ _) | (with_reducible refine Below.alloc ?_ (by first | omega | (simp <;> omega)) _))⟩
  have qb3 : (b3 != 0) = false := by simpa using q3
  rw [rounds_succ]; go_wp2
  have hzz : zeros 0 [b0, b1, b2, b3] = true := (zeros_iff _ _).2 (fun j hj => by
    match j, hj with
    | 0, _ => exact .inr q0
    | 1, _ => exact .inr q1
    | 2, _ => exact .inr q2
    | 3, _ => exact .inr q3)
  have hr2 := hr.out
  rw [hzz, Bool.true_and] at hr2
  have hr2 := Lib.hid hr2
  clear hr hzz q0 q1 q2 q3
  by_cases hf : frm = 0
  · subst hf
    have hrv := Lib.hid (show r = (val == 0) by rw [hr2.out, Bool.eq_iff_iff]; simp)
    rw [rounds_succ]; go_wp2
    repeat (go_quiet (fail); go_wp2)
    all_goals go_ret
    all_goals exact ⟨by first | rfl | (rw [hrv.out]; rfl) | (simp; done) | (simp; omega) | (rw [hrv.out]; simp; done), by repeat (first | assumption | (with_reducible exact Below.refl _ _) | (with_reducible refine Below.drew ?_) | (with_reducible refine below_drewN ?_ _) | (with_reducible refine Below.alloc ?_ (by first | omega | (simp <;> omega)) _))⟩
  · have hfb : (frm == 0) = false := by simpa using hf
    have hrv := Lib.hid (show r = false by rw [hr2.out]; simp [hf])
    clear hf
    rw [rounds_succ]; go_wp2
    repeat (go_quiet (fail); go_wp2)
    all_goals go_ret
    all_goals exact ⟨by first | rfl | (rw [hrv.out]; rfl) | (simp; done) | (simp; omega) | (rw [hrv.out]; simp; done), by repeat (first | assumption | (with_reducible exact Below.refl _ _) | (with_reducible refine Below.drew ?_) | (with_reducible refine below_drewN ?_ _) | (with_reducible refine Below.alloc ?_ (by first | omega | (simp <;> omega)) _))⟩
set_option maxHeartbeats 16000000 in
set_option maxRecDepth 100000 in
theorem rchan_0_0f (P : Pg) (s : St)  (k : Nat) (hb ho : Nat) (w : World) (hhl : hb < w.heap.size) (st : Array Value) (hk : k < P.chans.length) (hk4 : k < 4) (cap b0 b1 b2 b3 len off frm val : Int) (cl : Bool) (hlh : P.chans.length ≤ 140737488351232) (hha : P.ha = some ⟨hb, ho, none⟩)
  (z0 : w.cell? ⟨hb, ho + k, none⟩ = some (.int .i64 cap)) (hc4 : cap ≤ 4)
  (h121 : st.size = 121) (e0 : st[12 + k * 9]? = some (.int .i64 b0)) (e1 : st[12 + k * 9 + 1]? = some (.int .i64 b1)) (e2 : st[12 + k * 9 + 2]? = some (.int .i64 b2)) (e3 : st[12 + k * 9 + 3]? = some (.int .i64 b3))
  (e4 : st[12 + k * 9 + 4]? = some (.int .i64 len)) (e5 : st[12 + k * 9 + 5]? = some (.bool cl)) (e6 : st[12 + k * 9 + 6]? = some (.int .i64 off)) (e7 : st[12 + k * 9 + 7]? = some (.int .i64 frm)) (e8 : st[12 + k * 9 + 8]? = some (.int .i64 val))
  (hl : len = 0) (hlc : len ≤ cap) (hz : off = 0) (hcb : (cap != 0) = false) (r : Bool)
  (hr : Hid (r = (zeros len [b0, b1, b2, b3] && decide (frm = 0 ∧ val = 0)))) : Calls Tryd.prog 41 #[P.v, .agg st, .int .i64 k] w fun e w' => e = .returned (.bool r) ∧ Below w.heap.size w w' := by
  unfold Pg.v
  rw [hha]
  clear hha
  have h1 : hb < w.heap.size + 1 := by omega
  have h2 : hb < w.heap.size + 1 + 1 := by omega
  subst hl
  have : decide (cap < 0) = false := by first | (simp; done) | (simp; omega)
  subst hz
  clear hlc
  have o0 : ((0 : Int) != 0) = false := rfl
  go_enter Tryd.func41, Tryd.ntmps41
  go_wp2
  repeat (go_quiet (fail); go_wp2)
  refine wp_loop_rounds 5 ?_
  by_cases q0 : b0 = 0
  rotate_left
  · have qb : (b0 != 0) = true := by simpa using q0
    have hrv := Lib.hid (show r = false by rw [hr.out, zeros_no (j := 0) (by simp) (by omega) (by exact q0), Bool.false_and])
    rw [rounds_succ]; go_wp2
    go_ret
    exact ⟨by first | rfl | (rw [hrv.out]; rfl), by repeat (first | assumption | (with_reducible exact Below.refl _ _) | (with_reducible refine Below.drew ?_) | (with_reducible refine below_drewN ?_ _) | (with_reducible refine Below.alloc ?_ (by first | omega | (simp <;> omega)) _))⟩
  have qb0 : (b0 != 0) = false := by simpa using q0
  rw [rounds_succ]; go_wp2
  by_cases q1 : b1 = 0
  rotate_left
  · have qb : (b1 != 0) = true := by simpa using q1
    have hrv := Lib.hid (show r = false by rw [hr.out, zeros_no (j := 1) (by simp) (by omega) (by exact q1), Bool.false_and])
    rw [rounds_succ]; go_wp2
    go_ret
    exact ⟨by first | rfl | (rw [hrv.out]; rfl), by repeat (first | assumption | (with_reducible exact Below.refl _ _) | (with_reducible refine Below.drew ?_) | (with_reducible refine below_drewN ?_ _) | (with_reducible refine Below.alloc ?_ (by first | omega | (simp <;> omega)) _))⟩
  have qb1 : (b1 != 0) = false := by simpa using q1
  rw [rounds_succ]; go_wp2
  by_cases q2 : b2 = 0
  rotate_left
  · have qb : (b2 != 0) = true := by simpa using q2
    have hrv := Lib.hid (show r = false by rw [hr.out, zeros_no (j := 2) (by simp) (by omega) (by exact q2), Bool.false_and])
    rw [rounds_succ]; go_wp2
    go_ret
    exact ⟨by first | rfl | (rw [hrv.out]; rfl), by repeat (first | assumption | (with_reducible exact Below.refl _ _) | (with_reducible refine Below.drew ?_) | (with_reducible refine below_drewN ?_ _) | (with_reducible refine Below.alloc ?_ (by first | omega | (simp <;> omega)) _))⟩
  have qb2 : (b2 != 0) = false := by simpa using q2
  rw [rounds_succ]; go_wp2
  by_cases q3 : b3 = 0
  rotate_left
  · have qb : (b3 != 0) = true := by simpa using q3
    have hrv := Lib.hid (show r = false by rw [hr.out, zeros_no (j := 3) (by simp) (by omega) (by exact q3), Bool.false_and])
    rw [rounds_succ]; go_wp2
    go_ret
    exact ⟨by first | rfl | (rw [hrv.out]; rfl), by repeat (first | assumption | (with_reducible exact Below.refl _ _) | (with_reducible refine Below.drew ?_) | (with_reducible refine below_drewN ?_ _) | (with_reducible refine Below.alloc ?_ (by first | omega | (simp <;> omega)) _))⟩
  have qb3 : (b3 != 0) = false := by simpa using q3
  rw [rounds_succ]; go_wp2
  have hzz : zeros 0 [b0, b1, b2, b3] = true := (zeros_iff _ _).2 (fun j hj => by
    match j, hj with
    | 0, _ => exact .inr q0
    | 1, _ => exact .inr q1
    | 2, _ => exact .inr q2
    | 3, _ => exact .inr q3)
  have hr2 := hr.out
  rw [hzz, Bool.true_and] at hr2
  have hr2 := Lib.hid hr2
  clear hr hzz q0 q1 q2 q3
  by_cases hf : frm = 0
  · subst hf
    have hrv := Lib.hid (show r = (val == 0) by rw [hr2.out, Bool.eq_iff_iff]; simp)
    rw [rounds_succ]; go_wp2
    repeat (go_quiet (fail); go_wp2)
    all_goals go_ret
    all_goals exact ⟨by first | rfl | (rw [hrv.out]; rfl) | (simp; done) | (simp; omega) | (rw [hrv.out]; simp; done), by repeat (first | assumption | (with_reducible exact Below.refl _ _) | (with_reducible refine Below.drew ?_) | (with_reducible refine below_drewN ?_ _) | (with_reducible refine Below.alloc ?_ (by first | omega | (simp <;> omega)) _))⟩
  · have hfb : (frm == 0) = false := by simpa using hf
    have hrv := Lib.hid (show r = false by rw [hr2.out]; simp [hf])
    clear hf
    rw [rounds_succ]; go_wp2
    repeat (go_quiet (fail); go_wp2)
    all_goals go_ret
    all_goals exact ⟨by first | rfl | (rw [hrv.out]; rfl) | (simp; done) | (simp; omega) | (rw [hrv.out]; simp; done), by repeat (first | assumption | (with_reducible exact Below.refl _ _) | (with_reducible refine Below.drew ?_) | (with_reducible refine below_drewN ?_ _) | (with_reducible refine Below.alloc ?_ (by first | omega | (simp <;> omega)) _))⟩
set_option maxHeartbeats 16000000 in
set_option maxRecDepth 100000 in
theorem rchan_0_1t (P : Pg) (s : St)  (k : Nat) (hb ho : Nat) (w : World) (hhl : hb < w.heap.size) (st : Array Value) (hk : k < P.chans.length) (hk4 : k < 4) (cap b0 b1 b2 b3 len off frm val : Int) (cl : Bool) (hlh : P.chans.length ≤ 140737488351232) (hha : P.ha = some ⟨hb, ho, none⟩)
  (z0 : w.cell? ⟨hb, ho + k, none⟩ = some (.int .i64 cap)) (hc4 : cap ≤ 4)
  (h121 : st.size = 121) (e0 : st[12 + k * 9]? = some (.int .i64 b0)) (e1 : st[12 + k * 9 + 1]? = some (.int .i64 b1)) (e2 : st[12 + k * 9 + 2]? = some (.int .i64 b2)) (e3 : st[12 + k * 9 + 3]? = some (.int .i64 b3))
  (e4 : st[12 + k * 9 + 4]? = some (.int .i64 len)) (e5 : st[12 + k * 9 + 5]? = some (.bool cl)) (e6 : st[12 + k * 9 + 6]? = some (.int .i64 off)) (e7 : st[12 + k * 9 + 7]? = some (.int .i64 frm)) (e8 : st[12 + k * 9 + 8]? = some (.int .i64 val))
  (hl : len = 1) (hlc : len ≤ cap) (hz : off = 0) (hcb : (cap != 0) = true) (r : Bool)
  (hr : Hid (r = (zeros len [b0, b1, b2, b3] && decide (frm = 0 ∧ val = 0)))) : Calls Tryd.prog 41 #[P.v, .agg st, .int .i64 k] w fun e w' => e = .returned (.bool r) ∧ Below w.heap.size w w' := by
  unfold Pg.v
  rw [hha]
  clear hha
  have h1 : hb < w.heap.size + 1 := by omega
  have h2 : hb < w.heap.size + 1 + 1 := by omega
  subst hl
  have : decide (cap < 1) = false := by first | (simp; done) | (simp; omega)
  subst hz
  clear hlc
  have o0 : ((0 : Int) != 0) = false := rfl
  go_enter Tryd.func41, Tryd.ntmps41
  go_wp2
  repeat (go_quiet (fail); go_wp2)
  refine wp_loop_rounds 4 ?_
  by_cases q1 : b1 = 0
  rotate_left
  · have qb : (b1 != 0) = true := by simpa using q1
    have hrv := Lib.hid (show r = false by rw [hr.out, zeros_no (j := 1) (by simp) (by omega) (by exact q1), Bool.false_and])
    rw [rounds_succ]; go_wp2
    go_ret
    exact ⟨by first | rfl | (rw [hrv.out]; rfl), by repeat (first | assumption | (with_reducible exact Below.refl _ _) | (with_reducible refine Below.drew ?_) | (with_reducible refine below_drewN ?_ _) | (with_reducible refine Below.alloc ?_ (by first | omega | (simp <;> omega)) _))⟩
  have qb1 : (b1 != 0) = false := by simpa using q1
  rw [rounds_succ]; go_wp2
  by_cases q2 : b2 = 0
  rotate_left
  · have qb : (b2 != 0) = true := by simpa using q2
    have hrv := Lib.hid (show r = false by rw [hr.out, zeros_no (j := 2) (by simp) (by omega) (by exact q2), Bool.false_and])
    rw [rounds_succ]; go_wp2
    go_ret
    exact ⟨by first | rfl | (rw [hrv.out]; rfl), by repeat (first | assumption | (with_reducible exact Below.refl _ _) | (with_reducible refine Below.drew ?_) | (with_reducible refine below_drewN ?_ _) | (with_reducible refine Below.alloc ?_ (by first | omega | (simp <;> omega)) _))⟩
  have qb2 : (b2 != 0) = false := by simpa using q2
  rw [rounds_succ]; go_wp2
  by_cases q3 : b3 = 0
  rotate_left
  · have qb : (b3 != 0) = true := by simpa using q3
    have hrv := Lib.hid (show r = false by rw [hr.out, zeros_no (j := 3) (by simp) (by omega) (by exact q3), Bool.false_and])
    rw [rounds_succ]; go_wp2
    go_ret
    exact ⟨by first | rfl | (rw [hrv.out]; rfl), by repeat (first | assumption | (with_reducible exact Below.refl _ _) | (with_reducible refine Below.drew ?_) | (with_reducible refine below_drewN ?_ _) | (with_reducible refine Below.alloc ?_ (by first | omega | (simp <;> omega)) _))⟩
  have qb3 : (b3 != 0) = false := by simpa using q3
  rw [rounds_succ]; go_wp2
  have hzz : zeros 1 [b0, b1, b2, b3] = true := (zeros_iff _ _).2 (fun j hj => by
    match j, hj with
    | 0, _ => exact .inl (by omega)
    | 1, _ => exact .inr q1
    | 2, _ => exact .inr q2
    | 3, _ => exact .inr q3)
  have hr2 := hr.out
  rw [hzz, Bool.true_and] at hr2
  have hr2 := Lib.hid hr2
  clear hr hzz q1 q2 q3
  by_cases hf : frm = 0
  · subst hf
    have hrv := Lib.hid (show r = (val == 0) by rw [hr2.out, Bool.eq_iff_iff]; simp)
    rw [rounds_succ]; go_wp2
    repeat (go_quiet (fail); go_wp2)
    all_goals go_ret
    all_goals exact ⟨by first | rfl | (rw [hrv.out]; rfl) | (simp; done) | (simp; omega) | (rw [hrv.out]; simp; done), by repeat (first | assumption | (with_reducible exact Below.refl _ _) | (with_reducible refine Below.drew ?_) | (with_reducible refine below_drewN ?_ _) | (with_reducible refine Below.alloc ?_ (by first | omega | (simp <;> omega)) _))⟩
  · have hfb : (frm == 0) = false := by simpa using hf
    have hrv := Lib.hid (show r = false by rw [hr2.out]; simp [hf])
    clear hf
    rw [rounds_succ]; go_wp2
    repeat (go_quiet (fail); go_wp2)
    all_goals go_ret
    all_goals exact ⟨by first | rfl | (rw [hrv.out]; rfl) | (simp; done) | (simp; omega) | (rw [hrv.out]; simp; done), by repeat (first | assumption | (with_reducible exact Below.refl _ _) | (with_reducible refine Below.drew ?_) | (with_reducible refine below_drewN ?_ _) | (with_reducible refine Below.alloc ?_ (by first | omega | (simp <;> omega)) _))⟩
set_option maxHeartbeats 16000000 in
set_option maxRecDepth 100000 in
theorem rchan_0_1f (P : Pg) (s : St)  (k : Nat) (hb ho : Nat) (w : World) (hhl : hb < w.heap.size) (st : Array Value) (hk : k < P.chans.length) (hk4 : k < 4) (cap b0 b1 b2 b3 len off frm val : Int) (cl : Bool) (hlh : P.chans.length ≤ 140737488351232) (hha : P.ha = some ⟨hb, ho, none⟩)
  (z0 : w.cell? ⟨hb, ho + k, none⟩ = some (.int .i64 cap)) (hc4 : cap ≤ 4)
  (h121 : st.size = 121) (e0 : st[12 + k * 9]? = some (.int .i64 b0)) (e1 : st[12 + k * 9 + 1]? = some (.int .i64 b1)) (e2 : st[12 + k * 9 + 2]? = some (.int .i64 b2)) (e3 : st[12 + k * 9 + 3]? = some (.int .i64 b3))
  (e4 : st[12 + k * 9 + 4]? = some (.int .i64 len)) (e5 : st[12 + k * 9 + 5]? = some (.bool cl)) (e6 : st[12 + k * 9 + 6]? = some (.int .i64 off)) (e7 : st[12 + k * 9 + 7]? = some (.int .i64 frm)) (e8 : st[12 + k * 9 + 8]? = some (.int .i64 val))
  (hl : len = 1) (hlc : len ≤ cap) (hz : off = 0) (hcb : (cap != 0) = false) (r : Bool)
  (hr : Hid (r = (zeros len [b0, b1, b2, b3] && decide (frm = 0 ∧ val = 0)))) : Calls Tryd.prog 41 #[P.v, .agg st, .int .i64 k] w fun e w' => e = .returned (.bool r) ∧ Below w.heap.size w w' := by
  unfold Pg.v
  rw [hha]
  clear hha
  have h1 : hb < w.heap.size + 1 := by omega
  have h2 : hb < w.heap.size + 1 + 1 := by omega
  subst hl
  have : decide (cap < 1) = false := by first | (simp; done) | (simp; omega)
  subst hz
  clear hlc
  have o0 : ((0 : Int) != 0) = false := rfl
  go_enter Tryd.func41, Tryd.ntmps41
  go_wp2
  repeat (go_quiet (fail); go_wp2)
  refine wp_loop_rounds 4 ?_
  by_cases q1 : b1 = 0
  rotate_left
  · have qb : (b1 != 0) = true := by simpa using q1
    have hrv := Lib.hid (show r = false by rw [hr.out, zeros_no (j := 1) (by simp) (by omega) (by exact q1), Bool.false_and])
    rw [rounds_succ]; go_wp2
    go_ret
    exact ⟨by first | rfl | (rw [hrv.out]; rfl), by repeat (first | assumption | (with_reducible exact Below.refl _ _) | (with_reducible refine Below.drew ?_) | (with_reducible refine below_drewN ?_ _) | (with_reducible refine Below.alloc ?_ (by first | omega | (simp <;> omega)) _))⟩
  have qb1 : (b1 != 0) = false := by simpa using q1
  rw [rounds_succ]; go_wp2
  by_cases q2 : b2 = 0
  rotate_left
  · have qb : (b2 != 0) = true := by simpa using q2
    have hrv := Lib.hid (show r = false by rw [hr.out, zeros_no (j := 2) (by simp) (by omega) (by exact q2), Bool.false_and])
    rw [rounds_succ]; go_wp2
    go_ret
    exact ⟨by first | rfl | (rw [hrv.out]; rfl), by repeat (first | assumption | (with_reducible exact Below.refl _ _) | (with_reducible refine Below.drew ?_) | (with_reducible refine below_drewN ?_ _) | (with_reducible refine Below.alloc ?_ (by first | omega | (simp <;> omega)) _))⟩
  have qb2 : (b2 != 0) = false := by simpa using q2
  rw [rounds_succ]; go_wp2
  by_cases q3 : b3 = 0
  rotate_left
  · have qb : (b3 != 0) = true := by simpa using q3
    have hrv := Lib.hid (show r = false by rw [hr.out, zeros_no (j := 3) (by simp) (by omega) (by exact q3), Bool.false_and])
    rw [rounds_succ]; go_wp2
    go_ret
    exact ⟨by first | rfl | (rw [hrv.out]; rfl), by repeat (first | assumption | (with_reducible exact Below.refl _ _) | (with_reducible refine Below.drew ?_) | (with_reducible refine below_drewN ?_ _) | (with_reducible refine Below.alloc ?_ (by first | omega | (simp <;> omega)) _))⟩
  have qb3 : (b3 != 0) = false := by simpa using q3
  rw [rounds_succ]; go_wp2
  have hzz : zeros 1 [b0, b1, b2, b3] = true := (zeros_iff _ _).2 (fun j hj => by
    match j, hj with
    | 0, _ => exact .inl (by omega)
    | 1, _ => exact .inr q1
    | 2, _ => exact .inr q2
    | 3, _ => exact .inr q3)
  have hr2 := hr.out
  rw [hzz, Bool.true_and] at hr2
  have hr2 := Lib.hid hr2
  clear hr hzz q1 q2 q3
  by_cases hf : frm = 0
  · subst hf
    have hrv := Lib.hid (show r = (val == 0) by rw [hr2.out, Bool.eq_iff_iff]; simp)
    rw [rounds_succ]; go_wp2
    repeat (go_quiet (fail); go_wp2)
    all_goals go_ret
    all_goals exact ⟨by first | rfl | (rw [hrv.out]; rfl) | (simp; done) | (simp; omega) | (rw [hrv.out]; simp; done), by repeat (first | assumption | (with_reducible exact Below.refl _ _) | (with_reducible refine Below.drew ?_) | (with_reducible refine below_drewN ?_ _) | (with_reducible refine Below.alloc ?_ (by first | omega | (simp <;> omega)) _))⟩
  · have hfb : (frm == 0) = false := by simpa using hf
    have hrv := Lib.hid (show r = false by rw [hr2.out]; simp [hf])
    clear hf
    rw [rounds_succ]; go_wp2
    repeat (go_quiet (fail); go_wp2)
    all_goals go_ret
    all_goals exact ⟨by first | rfl | (rw [hrv.out]; rfl) | (simp; done) | (simp; omega) | (rw [hrv.out]; simp; done), by repeat (first | assumption | (with_reducible exact Below.refl _ _) | (with_reducible refine Below.drew ?_) | (with_reducible refine below_drewN ?_ _) | (with_reducible refine Below.alloc ?_ (by first | omega | (simp <;> omega)) _))⟩
set_option maxHeartbeats 16000000 in
set_option maxRecDepth 100000 in
theorem rchan_0_2t (P : Pg) (s : St)  (k : Nat) (hb ho : Nat) (w : World) (hhl : hb < w.heap.size) (st : Array Value) (hk : k < P.chans.length) (hk4 : k < 4) (cap b0 b1 b2 b3 len off frm val : Int) (cl : Bool) (hlh : P.chans.length ≤ 140737488351232) (hha : P.ha = some ⟨hb, ho, none⟩)
  (z0 : w.cell? ⟨hb, ho + k, none⟩ = some (.int .i64 cap)) (hc4 : cap ≤ 4)
  (h121 : st.size = 121) (e0 : st[12 + k * 9]? = some (.int .i64 b0)) (e1 : st[12 + k * 9 + 1]? = some (.int .i64 b1)) (e2 : st[12 + k * 9 + 2]? = some (.int .i64 b2)) (e3 : st[12 + k * 9 + 3]? = some (.int .i64 b3))
  (e4 : st[12 + k * 9 + 4]? = some (.int .i64 len)) (e5 : st[12 + k * 9 + 5]? = some (.bool cl)) (e6 : st[12 + k * 9 + 6]? = some (.int .i64 off)) (e7 : st[12 + k * 9 + 7]? = some (.int .i64 frm)) (e8 : st[12 + k * 9 + 8]? = some (.int .i64 val))
  (hl : len = 2) (hlc : len ≤ cap) (hz : off = 0) (hcb : (cap != 0) = true) (r : Bool)
  (hr : Hid (r = (zeros len [b0, b1, b2, b3] && decide (frm = 0 ∧ val = 0)))) : Calls Tryd.prog 41 #[P.v, .agg st, .int .i64 k] w fun e w' => e = .returned (.bool r) ∧ Below w.heap.size w w' := by
  unfold Pg.v
  rw [hha]
  clear hha
  have h1 : hb < w.heap.size + 1 := by omega
  have h2 : hb < w.heap.size + 1 + 1 := by omega
  subst hl
  have : decide (cap < 2) = false := by first | (simp; done) | (simp; omega)
  subst hz
  clear hlc
  have o0 : ((0 : Int) != 0) = false := rfl
  go_enter Tryd.func41, Tryd.ntmps41
  go_wp2
  repeat (go_quiet (fail); go_wp2)
  refine wp_loop_rounds 3 ?_
  by_cases q2 : b2 = 0
  rotate_left
  · have qb : (b2 != 0) = true := by simpa using q2
    have hrv := Lib.hid (show r = false by rw [hr.out, zeros_no (j := 2) (by simp) (by omega) (by exact q2), Bool.false_and])
    rw [rounds_succ]; go_wp2
    go_ret
    exact ⟨by first | rfl | (rw [hrv.out]; rfl), by repeat (first | assumption | (with_reducible exact Below.refl _ _) | (with_reducible refine Below.drew ?_) | (with_reducible refine below_drewN ?_ _) | (with_reducible refine Below.alloc ?_ (by first | omega | (simp <;> omega)) _))⟩
  have qb2 : (b2 != 0) = false := by simpa using q2
  rw [rounds_succ]; go_wp2
  by_cases q3 : b3 = 0
  rotate_left
  · have qb : (b3 != 0) = true := by simpa using q3
    have hrv := Lib.hid (show r = false by rw [hr.out, zeros_no (j := 3) (by simp) (by omega) (by exact q3), Bool.false_and])
    rw [rounds_succ]; go_wp2
    go_ret
    exact ⟨by first | rfl | (rw [hrv.out]; rfl), by repeat (first | assumption | (with_reducible exact Below.refl _ _) | (with_reducible refine Below.drew ?_) | (with_reducible refine below_drewN ?_ _) | (with_reducible refine Below.alloc ?_ (by first | omega | (simp <;> omega)) _))⟩
  have qb3 : (b3 != 0) = false := by simpa using q3
  rw [rounds_succ]; go_wp2
  have hzz : zeros 2 [b0, b1, b2, b3] = true := (zeros_iff _ _).2 (fun j hj => by
    match j, hj with
    | 0, _ => exact .inl (by omega)
    | 1, _ => exact .inl (by omega)
    | 2, _ => exact .inr q2
    | 3, _ => exact .inr q3)
  have hr2 := hr.out
  rw [hzz, Bool.true_and] at hr2
  have hr2 := Lib.hid hr2
  clear hr hzz q2 q3
  by_cases hf : frm = 0
  · subst hf
    have hrv := Lib.hid (show r = (val == 0) by rw [hr2.out, Bool.eq_iff_iff]; simp)
    rw [rounds_succ]; go_wp2
    repeat (go_quiet (fail); go_wp2)
    all_goals go_ret
    all_goals exact ⟨by first | rfl | (rw [hrv.out]; rfl) | (simp; done) | (simp; omega) | (rw [hrv.out]; simp; done), by repeat (first | assumption | (with_reducible exact Below.refl _ _) | (with_reducible refine Below.drew ?_) | (with_reducible refine below_drewN ?_ _) | (with_reducible refine Below.alloc ?_ (by first | omega | (simp <;> omega)) _))⟩
  · have hfb : (frm == 0) = false := by simpa using hf
    have hrv := Lib.hid (show r = false by rw [hr2.out]; simp [hf])
    clear hf
    rw [rounds_succ]; go_wp2
    repeat (go_quiet (fail); go_wp2)
    all_goals go_ret
    all_goals exact ⟨by first | rfl | (rw [hrv.out]; rfl) | (simp; done) | (simp; omega) | (rw [hrv.out]; simp; done), by repeat (first | assumption | (with_reducible exact Below.refl _ _) | (with_reducible refine Below.drew ?_) | (with_reducible refine below_drewN ?_ _) | (with_reducible refine Below.alloc ?_ (by first | omega | (simp <;> omega)) _))⟩
set_option maxHeartbeats 16000000 in
set_option maxRecDepth 100000 in
theorem rchan_0_2f (P : Pg) (s : St)  (k : Nat) (hb ho : Nat) (w : World) (hhl : hb < w.heap.size) (st : Array Value) (hk : k < P.chans.length) (hk4 : k < 4) (cap b0 b1 b2 b3 len off frm val : Int) (cl : Bool) (hlh : P.chans.length ≤ 140737488351232) (hha : P.ha = some ⟨hb, ho, none⟩)
  (z0 : w.cell? ⟨hb, ho + k, none⟩ = some (.int .i64 cap)) (hc4 : cap ≤ 4)
  (h121 : st.size = 121) (e0 : st[12 + k * 9]? = some (.int .i64 b0)) (e1 : st[12 + k * 9 + 1]? = some (.int .i64 b1)) (e2 : st[12 + k * 9 + 2]? = some (.int .i64 b2)) (e3 : st[12 + k * 9 + 3]? = some (.int .i64 b3))
  (e4 : st[12 + k * 9 + 4]? = some (.int .i64 len)) (e5 : st[12 + k * 9 + 5]? = some (.bool cl)) (e6 : st[12 + k * 9 + 6]? = some (.int .i64 off)) (e7 : st[12 + k * 9 + 7]? = some (.int .i64 frm)) (e8 : st[12 + k * 9 + 8]? = some (.int .i64 val))
  (hl : len = 2) (hlc : len ≤ cap) (hz : off = 0) (hcb : (cap != 0) = false) (r : Bool)
  (hr : Hid (r = (zeros len [b0, b1, b2, b3] && decide (frm = 0 ∧ val = 0)))) : Calls Tryd.prog 41 #[P.v, .agg st, .int .i64 k] w fun e w' => e = .returned (.bool r) ∧ Below w.heap.size w w' := by
  unfold Pg.v
  rw [hha]
  clear hha
  have h1 : hb < w.heap.size + 1 := by omega
  have h2 : hb < w.heap.size + 1 + 1 := by omega
  subst hl
  have : decide (cap < 2) = false := by first | (simp; done) | (simp; omega)
  subst hz
  clear hlc
  have o0 : ((0 : Int) != 0) = false := rfl
  go_enter Tryd.func41, Tryd.ntmps41
  go_wp2
  repeat (go_quiet (fail); go_wp2)
  refine wp_loop_rounds 3 ?_
  by_cases q2 : b2 = 0
  rotate_left
  · have qb : (b2 != 0) = true := by simpa using q2
    have hrv := Lib.hid (show r = false by rw [hr.out, zeros_no (j := 2) (by simp) (by omega) (by exact q2), Bool.false_and])
    rw [rounds_succ]; go_wp2
    go_ret
    exact ⟨by first | rfl | (rw [hrv.out]; rfl), by repeat (first | assumption | (with_reducible exact Below.refl _ _) | (with_reducible refine Below.drew ?_) | (with_reducible refine below_drewN ?_ _) | (with_reducible refine Below.alloc ?_ (by first | omega | (simp <;> omega)) _))⟩
  have qb2 : (b2 != 0) = false := by simpa using q2
  rw [rounds_succ]; go_wp2
  by_cases q3 : b3 = 0
  rotate_left
  · have qb : (b3 != 0) = true := by simpa using q3
    have hrv := Lib.hid (show r = false by rw [hr.out, zeros_no (j := 3) (by simp) (by omega) (by exact q3), Bool.false_and])
    rw [rounds_succ]; go_wp2
    go_ret
    exact ⟨by first | rfl | (rw [hrv.out]; rfl), by repeat (first | assumption | (with_reducible exact Below.refl _ _) | (with_reducible refine Below.drew ?_) | (with_reducible refine below_drewN ?_ _) | (with_reducible refine Below.alloc ?_ (by first | omega | (simp <;> omega)) _))⟩
  have qb3 : (b3 != 0) = false := by simpa using q3
  rw [rounds_succ]; go_wp2
  have hzz : zeros 2 [b0, b1, b2, b3] = true := (zeros_iff _ _).2 (fun j hj => by
    match j, hj with
    | 0, _ => exact .inl (by omega)
    | 1, _ => exact .inl (by omega)
    | 2, _ => exact .inr q2
    | 3, _ => exact .inr q3)
  have hr2 := hr.out
  rw [hzz, Bool.true_and] at hr2
  have hr2 := Lib.hid hr2
  clear hr hzz q2 q3
  by_cases hf : frm = 0
  · subst hf
    have hrv := Lib.hid (show r = (val == 0) by rw [hr2.out, Bool.eq_iff_iff]; simp)
    rw [rounds_succ]; go_wp2
    repeat (go_quiet (fail); go_wp2)
    all_goals go_ret
    all_goals exact ⟨by first | rfl | (rw [hrv.out]; rfl) | (simp; done) | (simp; omega) | (rw [hrv.out]; simp; done), by repeat (first | assumption | (with_reducible exact Below.refl _ _) | (with_reducible refine Below.drew ?_) | (with_reducible refine below_drewN ?_ _) | (with_reducible refine Below.alloc ?_ (by first | omega | (simp <;> omega)) _))⟩
  · have hfb : (frm == 0) = false := by simpa using hf
    have hrv := Lib.hid (show r = false by rw [hr2.out]; simp [hf])
    clear hf
    rw [rounds_succ]; go_wp2
    repeat (go_quiet (fail); go_wp2)
    all_goals go_ret
    all_goals exact ⟨by first | rfl | (rw [hrv.out]; rfl) | (simp; done) | (simp; omega) | (rw [hrv.out]; simp; done), by repeat (first | assumption | (with_reducible exact Below.refl _ _) | (with_reducible refine Below.drew ?_) | (with_reducible refine below_drewN ?_ _) | (with_reducible refine Below.alloc ?_ (by first | omega | (simp <;> omega)) _))⟩
set_option maxHeartbeats 16000000 in
set_option maxRecDepth 100000 in
theorem rchan_0_3t (P : Pg) (s : St)  (k : Nat) (hb ho : Nat) (w : World) (hhl : hb < w.heap.size) (st : Array Value) (hk : k < P.chans.length) (hk4 : k < 4) (cap b0 b1 b2 b3 len off frm val : Int) (cl : Bool) (hlh : P.chans.length ≤ 140737488351232) (hha : P.ha = some ⟨hb, ho, none⟩)
  (z0 : w.cell? ⟨hb, ho + k, none⟩ = some (.int .i64 cap)) (hc4 : cap ≤ 4)
  (h121 : st.size = 121) (e0 : st[12 + k * 9]? = some (.int .i64 b0)) (e1 : st[12 + k * 9 + 1]? = some (.int .i64 b1)) (e2 : st[12 + k * 9 + 2]? = some (.int .i64 b2)) (e3 : st[12 + k * 9 + 3]? = some (.int .i64 b3))
  (e4 : st[12 + k * 9 + 4]? = some (.int .i64 len)) (e5 : st[12 + k * 9 + 5]? = some (.bool cl)) (e6 : st[12 + k * 9 + 6]? = some (.int .i64 off)) (e7 : st[12 + k * 9 + 7]? = some (.int .i64 frm)) (e8 : st[12 + k * 9 + 8]? = some (.int .i64 val))
  (hl : len = 3) (hlc : len ≤ cap) (hz : off = 0) (hcb : (cap != 0) = true) (r : Bool)
  (hr : Hid (r = (zeros len [b0, b1, b2, b3] && decide (frm = 0 ∧ val = 0)))) : Calls Tryd.prog 41 #[P.v, .agg st, .int .i64 k] w fun e w' => e = .returned (.bool r) ∧ Below w.heap.size w w' := by
  unfold Pg.v
  rw [hha]
  clear hha
  have h1 : hb < w.heap.size + 1 := by omega
  have h2 : hb < w.heap.size + 1 + 1 := by omega
  subst hl
  have : decide (cap < 3) = false := by first | (simp; done) | (simp; omega)
  subst hz
  clear hlc
  have o0 : ((0 : Int) != 0) = false := rfl
  go_enter Tryd.func41, Tryd.ntmps41
  go_wp2
  repeat (go_quiet (fail); go_wp2)
  refine wp_loop_rounds 2 ?_
  by_cases q3 : b3 = 0
  rotate_left
  · have qb : (b3 != 0) = true := by simpa using q3
    have hrv := Lib.hid (show r = false by rw [hr.out, zeros_no (j := 3) (by simp) (by omega) (by exact q3), Bool.false_and])
    rw [rounds_succ]; go_wp2
    go_ret
    exact ⟨by first | rfl | (rw [hrv.out]; rfl), by repeat (first | assumption | (with_reducible exact Below.refl _ _) | (with_reducible refine Below.drew ?_) | (with_reducible refine below_drewN ?_ _) | (with_reducible refine Below.alloc ?_ (by first | omega | (simp <;> omega)) _))⟩
  have qb3 : (b3 != 0) = false := by simpa using q3
  rw [rounds_succ]; go_wp2
  have hzz : zeros 3 [b0, b1, b2, b3] = true := (zeros_iff _ _).2 (fun j hj => by
    match j, hj with
    | 0, _ => exact .inl (by omega)
    | 1, _ => exact .inl (by omega)
    | 2, _ => exact .inl (by omega)
    | 3, _ => exact .inr q3)
  have hr2 := hr.out
  rw [hzz, Bool.true_and] at hr2
  have hr2 := Lib.hid hr2
  clear hr hzz q3
  by_cases hf : frm = 0
  · subst hf
    have hrv := Lib.hid (show r = (val == 0) by rw [hr2.out, Bool.eq_iff_iff]; simp)
    rw [rounds_succ]; go_wp2
    repeat (go_quiet (fail); go_wp2)
    all_goals go_ret
    all_goals exact ⟨by first | rfl | (rw [hrv.out]; rfl) | (simp; done) | (simp; omega) | (rw [hrv.out]; simp; done), by repeat (first | assumption | (with_reducible exact Below.refl _ _) | (with_reducible refine Below.drew ?_) | (with_reducible refine below_drewN ?_ _) | (with_reducible refine Below.alloc ?_ (by first | omega | (simp <;> omega)) _))⟩
  · have hfb : (frm == 0) = false := by simpa using hf
    have hrv := Lib.hid (show r = false by rw [hr2.out]; simp [hf])
    clear hf
    rw [rounds_succ]; go_wp2
    repeat (go_quiet (fail); go_wp2)
    all_goals go_ret
    all_goals exact ⟨by first | rfl | (rw [hrv.out]; rfl) | (simp; done) | (simp; omega) | (rw [hrv.out]; simp; done), by repeat (first | assumption | (with_reducible exact Below.refl _ _) | (with_reducible refine Below.drew ?_) | (with_reducible refine below_drewN ?_ _) | (with_reducible refine Below.alloc ?_ (by first | omega | (simp <;> omega)) _))⟩
set_option maxHeartbeats 16000000 in
set_option maxRecDepth 100000 in
theorem rchan_0_3f (P : Pg) (s : St)  (k : Nat) (hb ho : Nat) (w : World) (hhl : hb < w.heap.size) (st : Array Value) (hk : k < P.chans.length) (hk4 : k < 4) (cap b0 b1 b2 b3 len off frm val : Int) (cl : Bool) (hlh : P.chans.length ≤ 140737488351232) (hha : P.ha = some ⟨hb, ho, none⟩)
  (z0 : w.cell? ⟨hb, ho + k, none⟩ = some (.int .i64 cap)) (hc4 : cap ≤ 4)
  (h121 : st.size = 121) (e0 : st[12 + k * 9]? = some (.int .i64 b0)) (e1 : st[12 + k * 9 + 1]? = some (.int .i64 b1)) (e2 : st[12 + k * 9 + 2]? = some (.int .i64 b2)) (e3 : st[12 + k * 9 + 3]? = some (.int .i64 b3))
  (e4 : st[12 + k * 9 + 4]? = some (.int .i64 len)) (e5 : st[12 + k * 9 + 5]? = some (.bool cl)) (e6 : st[12 + k * 9 + 6]? = some (.int .i64 off)) (e7 : st[12 + k * 9 + 7]? = some (.int .i64 frm)) (e8 : st[12 + k * 9 + 8]? = some (.int .i64 val))
  (hl : len = 3) (hlc : len ≤ cap) (hz : off = 0) (hcb : (cap != 0) = false) (r : Bool)
  (hr : Hid (r = (zeros len [b0, b1, b2, b3] && decide (frm = 0 ∧ val = 0)))) : Calls Tryd.prog 41 #[P.v, .agg st, .int .i64 k] w fun e w' => e = .returned (.bool r) ∧ Below w.heap.size w w' := by
  unfold Pg.v
  rw [hha]
  clear hha
  have h1 : hb < w.heap.size + 1 := by omega
  have h2 : hb < w.heap.size + 1 + 1 := by omega
  subst hl
  have : decide (cap < 3) = false := by first | (simp; done) | (simp; omega)
  subst hz
  clear hlc
  have o0 : ((0 : Int) != 0) = false := rfl
  go_enter Tryd.func41, Tryd.ntmps41
  go_wp2
  repeat (go_quiet (fail); go_wp2)
  refine wp_loop_rounds 2 ?_
  by_cases q3 : b3 = 0
  rotate_left
  · have qb : (b3 != 0) = true := by simpa using q3
    have hrv := Lib.hid (show r = false by rw [hr.out, zeros_no (j := 3) (by simp) (by omega) (by exact q3), Bool.false_and])
    rw [rounds_succ]; go_wp2
    go_ret
    exact ⟨by first | rfl | (rw [hrv.out]; rfl), by repeat (first | assumption | (with_reducible exact Below.refl _ _) | (with_reducible refine Below.drew ?_) | (with_reducible refine below_drewN ?_ _) | (with_reducible refine Below.alloc ?_ (by first | omega | (simp <;> omega)) _))⟩
  have qb3 : (b3 != 0) = false := by simpa using q3
  rw [rounds_succ]; go_wp2
  have hzz : zeros 3 [b0, b1, b2, b3] = true := (zeros_iff _ _).2 (fun j hj => by
    match j, hj with
    | 0, _ => exact .inl (by omega)
    | 1, _ => exact .inl (by omega)
    | 2, _ => exact .inl (by omega)
    | 3, _ => exact .inr q3)
  have hr2 := hr.out
  rw [hzz, Bool.true_and] at hr2
  have hr2 := Lib.hid hr2
  clear hr hzz q3
  by_cases hf : frm = 0
  · subst hf
    have hrv := Lib.hid (show r = (val == 0) by rw [hr2.out, Bool.eq_iff_iff]; simp)
    rw [rounds_succ]; go_wp2
    repeat (go_quiet (fail); go_wp2)
    all_goals go_ret
    all_goals exact ⟨by first | rfl | (rw [hrv.out]; rfl) | (simp; done) | (simp; omega) | (rw [hrv.out]; simp; done), by repeat (first | assumption | (with_reducible exact Below.refl _ _) | (with_reducible refine Below.drew ?_) | (with_reducible refine below_drewN ?_ _) | (with_reducible refine Below.alloc ?_ (by first | omega | (simp <;> omega)) _))⟩
  · have hfb : (frm == 0) = false := by simpa using hf
    have hrv := Lib.hid (show r = false by rw [hr2.out]; simp [hf])
    clear hf
    rw [rounds_succ]; go_wp2
    repeat (go_quiet (fail); go_wp2)
    all_goals go_ret
    all_goals exact ⟨by first | rfl | (rw [hrv.out]; rfl) | (simp; done) | (simp; omega) | (rw [hrv.out]; simp; done), by repeat (first | assumption | (with_reducible exact Below.refl _ _) | (with_reducible refine Below.drew ?_) | (with_reducible refine below_drewN ?_ _) | (with_reducible refine Below.alloc ?_ (by first | omega | (simp <;> omega)) _))⟩
set_option maxHeartbeats 16000000 in
set_option maxRecDepth 100000 in
theorem rchan_0_4t (P : Pg) (s : St)  (k : Nat) (hb ho : Nat) (w : World) (hhl : hb < w.heap.size) (st : Array Value) (hk : k < P.chans.length) (hk4 : k < 4) (cap b0 b1 b2 b3 len off frm val : Int) (cl : Bool) (hlh : P.chans.length ≤ 140737488351232) (hha : P.ha = some ⟨hb, ho, none⟩)
  (z0 : w.cell? ⟨hb, ho + k, none⟩ = some (.int .i64 cap)) (hc4 : cap ≤ 4)
  (h121 : st.size = 121) (e0 : st[12 + k * 9]? = some (.int .i64 b0)) (e1 : st[12 + k * 9 + 1]? = some (.int .i64 b1)) (e2 : st[12 + k * 9 + 2]? = some (.int .i64 b2)) (e3 : st[12 + k * 9 + 3]? = some (.int .i64 b3))
  (e4 : st[12 + k * 9 + 4]? = some (.int .i64 len)) (e5 : st[12 + k * 9 + 5]? = some (.bool cl)) (e6 : st[12 + k * 9 + 6]? = some (.int .i64 off)) (e7 : st[12 + k * 9 + 7]? = some (.int .i64 frm)) (e8 : st[12 + k * 9 + 8]? = some (.int .i64 val))
  (hl : len = 4) (hlc : len ≤ cap) (hz : off = 0) (hcb : (cap != 0) = true) (r : Bool)
  (hr : Hid (r = (zeros len [b0, b1, b2, b3] && decide (frm = 0 ∧ val = 0)))) : Calls Tryd.prog 41 #[P.v, .agg st, .int .i64 k] w fun e w' => e = .returned (.bool r) ∧ Below w.heap.size w w' := by
  unfold Pg.v
  rw [hha]
  clear hha
  have h1 : hb < w.heap.size + 1 := by omega
  have h2 : hb < w.heap.size + 1 + 1 := by omega
  subst hl
  have : decide (cap < 4) = false := by first | (simp; done) | (simp; omega)
  subst hz
  clear hlc
  have o0 : ((0 : Int) != 0) = false := rfl
  go_enter Tryd.func41, Tryd.ntmps41
  go_wp2
  repeat (go_quiet (fail); go_wp2)
  refine wp_loop_rounds 1 ?_
  have hzz : zeros 4 [b0, b1, b2, b3] = true := (zeros_iff _ _).2 (fun j hj => by
    match j, hj with
    | 0, _ => exact .inl (by omega)
    | 1, _ => exact .inl (by omega)
    | 2, _ => exact .inl (by omega)
    | 3, _ => exact .inl (by omega))
  have hr2 := hr.out
  rw [hzz, Bool.true_and] at hr2
  have hr2 := Lib.hid hr2
  clear hr hzz 
  by_cases hf : frm = 0
  · subst hf
    have hrv := Lib.hid (show r = (val == 0) by rw [hr2.out, Bool.eq_iff_iff]; simp)
    rw [rounds_succ]; go_wp2
    repeat (go_quiet (fail); go_wp2)
    all_goals go_ret
    all_goals exact ⟨by first | rfl | (rw [hrv.out]; rfl) | (simp; done) | (simp; omega) | (rw [hrv.out]; simp; done), by repeat (first | assumption | (with_reducible exact Below.refl _ _) | (with_reducible refine Below.drew ?_) | (with_reducible refine below_drewN ?_ _) | (with_reducible refine Below.alloc ?_ (by first | omega | (simp <;> omega)) _))⟩
  · have hfb : (frm == 0) = false := by simpa using hf
    have hrv := Lib.hid (show r = false by rw [hr2.out]; simp [hf])
    clear hf
    rw [rounds_succ]; go_wp2
    repeat (go_quiet (fail); go_wp2)
    all_goals go_ret
    all_goals exact ⟨by first | rfl | (rw [hrv.out]; rfl) | (simp; done) | (simp; omega) | (rw [hrv.out]; simp; done), by repeat (first | assumption | (with_reducible exact Below.refl _ _) | (with_reducible refine Below.drew ?_) | (with_reducible refine below_drewN ?_ _) | (with_reducible refine Below.alloc ?_ (by first | omega | (simp <;> omega)) _))⟩
set_option maxHeartbeats 16000000 in
set_option maxRecDepth 100000 in
theorem rchan_0_4f (P : Pg) (s : St)  (k : Nat) (hb ho : Nat) (w : World) (hhl : hb < w.heap.size) (st : Array Value) (hk : k < P.chans.length) (hk4 : k < 4) (cap b0 b1 b2 b3 len off frm val : Int) (cl : Bool) (hlh : P.chans.length ≤ 140737488351232) (hha : P.ha = some ⟨hb, ho, none⟩)
  (z0 : w.cell? ⟨hb, ho + k, none⟩ = some (.int .i64 cap)) (hc4 : cap ≤ 4)
  (h121 : st.size = 121) (e0 : st[12 + k * 9]? = some (.int .i64 b0)) (e1 : st[12 + k * 9 + 1]? = some (.int .i64 b1)) (e2 : st[12 + k * 9 + 2]? = some (.int .i64 b2)) (e3 : st[12 + k * 9 + 3]? = some (.int .i64 b3))
  (e4 : st[12 + k * 9 + 4]? = some (.int .i64 len)) (e5 : st[12 + k * 9 + 5]? = some (.bool cl)) (e6 : st[12 + k * 9 + 6]? = some (.int .i64 off)) (e7 : st[12 + k * 9 + 7]? = some (.int .i64 frm)) (e8 : st[12 + k * 9 + 8]? = some (.int .i64 val))
  (hl : len = 4) (hlc : len ≤ cap) (hz : off = 0) (hcb : (cap != 0) = false) (r : Bool)
  (hr : Hid (r = (zeros len [b0, b1, b2, b3] && decide (frm = 0 ∧ val = 0)))) : Calls Tryd.prog 41 #[P.v, .agg st, .int .i64 k] w fun e w' => e = .returned (.bool r) ∧ Below w.heap.size w w' := by
  unfold Pg.v
  rw [hha]
  clear hha
  have h1 : hb < w.heap.size + 1 := by omega
  have h2 : hb < w.heap.size + 1 + 1 := by omega
  subst hl
  have : decide (cap < 4) = false := by first | (simp; done) | (simp; omega)
  subst hz
  clear hlc
  have o0 : ((0 : Int) != 0) = false := rfl
  go_enter Tryd.func41, Tryd.ntmps41
  go_wp2
  repeat (go_quiet (fail); go_wp2)
  refine wp_loop_rounds 1 ?_
  have hzz : zeros 4 [b0, b1, b2, b3] = true := (zeros_iff _ _).2 (fun j hj => by
    match j, hj with
    | 0, _ => exact .inl (by omega)
    | 1, _ => exact .inl (by omega)
    | 2, _ => exact .inl (by omega)
    | 3, _ => exact .inl (by omega))
  have hr2 := hr.out
  rw [hzz, Bool.true_and] at hr2
  have hr2 := Lib.hid hr2
  clear hr hzz 
  by_cases hf : frm = 0
  · subst hf
    have hrv := Lib.hid (show r = (val == 0) by rw [hr2.out, Bool.eq_iff_iff]; simp)
    rw [rounds_succ]; go_wp2
    repeat (go_quiet (fail); go_wp2)
    all_goals go_ret
    all_goals exact ⟨by first | rfl | (rw [hrv.out]; rfl) | (simp; done) | (simp; omega) | (rw [hrv.out]; simp; done), by repeat (first | assumption | (with_reducible exact Below.refl _ _) | (with_reducible refine Below.drew ?_) | (with_reducible refine below_drewN ?_ _) | (with_reducible refine Below.alloc ?_ (by first | omega | (simp <;> omega)) _))⟩
  · have hfb : (frm == 0) = false := by simpa using hf
    have hrv := Lib.hid (show r = false by rw [hr2.out]; simp [hf])
    clear hf
    rw [rounds_succ]; go_wp2
    repeat (go_quiet (fail); go_wp2)
    all_goals go_ret
    all_goals exact ⟨by first | rfl | (rw [hrv.out]; rfl) | (simp; done) | (simp; omega) | (rw [hrv.out]; simp; done), by repeat (first | assumption | (with_reducible exact Below.refl _ _) | (with_reducible refine Below.drew ?_) | (with_reducible refine below_drewN ?_ _) | (with_reducible refine Below.alloc ?_ (by first | omega | (simp <;> omega)) _))⟩
end Go.Proofs.YtbcdeanmjhcgeaaDoor.Pg
