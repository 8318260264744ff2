/- States, walked: an offer that is not right: the reference says no. -/
import Derived.Test.YtbcdeanmjhcgeaaDoorZV6
namespace Go.Proofs.YtbcdeanmjhcgeaaDoor.Pg
set_option linter.unusedVariables false
set_option linter.unusedSimpArgs false
open Go.ChangeShapes Go.WideShapes Go.RowKit
set_option linter.unusedVariables false
set_option maxHeartbeats 8000000 in
set_option maxRecDepth 100000 in
theorem rchan_fail (P : Pg)  (k : Nat) (hb ho : Nat) (w : World) (hhl : hb < w.heap.size) (st : Array Value) (hk : k < P.chans.length) (hk4 : k < 4) (cap b0 b1 b2 b3 len off frm val : Int) (cl : Bool) (hlh : P.chans.length ≤ 140737488351232) (hha : P.ha = some ⟨hb, ho, none⟩)
  (z0 : w.cell? ⟨hb, ho + k, none⟩ = some (.int .i64 cap)) (hc4 : cap ≤ 4)
  (h121 : st.size = 121) (e0 : st[12 + k * 9]? = some (.int .i64 b0)) (e1 : st[12 + k * 9 + 1]? = some (.int .i64 b1)) (e2 : st[12 + k * 9 + 2]? = some (.int .i64 b2)) (e3 : st[12 + k * 9 + 3]? = some (.int .i64 b3))
  (e4 : st[12 + k * 9 + 4]? = some (.int .i64 len)) (e5 : st[12 + k * 9 + 5]? = some (.bool cl)) (e6 : st[12 + k * 9 + 6]? = some (.int .i64 off)) (e7 : st[12 + k * 9 + 7]? = some (.int .i64 frm)) (e8 : st[12 + k * 9 + 8]? = some (.int .i64 val))
  (hl : len = 0) (hz : off = 1 ∨ off = 2 ∨ off = 3) (hcz : cap = 0) (hbad : ¬ (b0 = 0 ∧ b1 = 0 ∧ b2 = 0 ∧ b3 = 0) ∨ ¬ ((off = 1 ∨ val = 0) ∧ ¬ (off = 1 ∧ cl = true) ∧ ¬ (off = 3 ∧ cl = false))) : Calls Tryd.prog 41 #[P.v, .agg st, .int .i64 k] w fun e w' => e = .returned (.bool false) ∧ Below w.heap.size w w' := by
  unfold Pg.v
  rw [hha]
  clear hha
  have h1 : hb < w.heap.size + 1 := by omega
  have h2 : hb < w.heap.size + 1 + 1 := by omega
  subst hl
  subst hcz
  have g1 : (off != 0) = true := by simp; omega
  have g0 : (off == 0) = false := by simp; omega
  have : decide (off < 0) = false := by first | (simp; done) | (simp; omega)
  have : decide (3 < off) = false := by first | (simp; done) | (simp; omega)
  by_cases q0 : b0 = 0
  rotate_left
  · have qb : (b0 != 0) = true := by simpa using q0
    clear hbad q0
    go_enter Tryd.func41, Tryd.ntmps41
    go_wp2
    repeat (go_quiet (fail); go_wp2)
    refine wp_loop_rounds 5 ?_
    iterate 1 (rw [rounds_succ]; go_wp2)
    go_ret
    exact ⟨rfl, by repeat (first | assumption | (with_reducible exact Below.refl _ _) | (with_reducible refine Below.drew ?_) | (with_reducible refine below_drewN ?_ _) | (with_reducible refine Below.alloc ?_ (by first | omega | (simp <;> omega)) _))⟩
  have qb0 : (b0 != 0) = false := by simpa using q0
  by_cases q1 : b1 = 0
  rotate_left
  · have qb : (b1 != 0) = true := by simpa using q1
    clear hbad q1
    go_enter Tryd.func41, Tryd.ntmps41
    go_wp2
    repeat (go_quiet (fail); go_wp2)
    refine wp_loop_rounds 5 ?_
    iterate 2 (rw [rounds_succ]; go_wp2)
    go_ret
    exact ⟨rfl, by repeat (first | assumption | (with_reducible exact Below.refl _ _) | (with_reducible refine Below.drew ?_) | (with_reducible refine below_drewN ?_ _) | (with_reducible refine Below.alloc ?_ (by first | omega | (simp <;> omega)) _))⟩
  have qb1 : (b1 != 0) = false := by simpa using q1
  by_cases q2 : b2 = 0
  rotate_left
  · have qb : (b2 != 0) = true := by simpa using q2
    clear hbad q2
    go_enter Tryd.func41, Tryd.ntmps41
    go_wp2
    repeat (go_quiet (fail); go_wp2)
    refine wp_loop_rounds 5 ?_
    iterate 3 (rw [rounds_succ]; go_wp2)
    go_ret
    exact ⟨rfl, by repeat (first | assumption | (with_reducible exact Below.refl _ _) | (with_reducible refine Below.drew ?_) | (with_reducible refine below_drewN ?_ _) | (with_reducible refine Below.alloc ?_ (by first | omega | (simp <;> omega)) _))⟩
  have qb2 : (b2 != 0) = false := by simpa using q2
  by_cases q3 : b3 = 0
  rotate_left
  · have qb : (b3 != 0) = true := by simpa using q3
    clear hbad q3
    go_enter Tryd.func41, Tryd.ntmps41
    go_wp2
    repeat (go_quiet (fail); go_wp2)
    refine wp_loop_rounds 5 ?_
    iterate 4 (rw [rounds_succ]; go_wp2)
    go_ret
    exact ⟨rfl, by repeat (first | assumption | (with_reducible exact Below.refl _ _) | (with_reducible refine Below.drew ?_) | (with_reducible refine below_drewN ?_ _) | (with_reducible refine Below.alloc ?_ (by first | omega | (simp <;> omega)) _))⟩
  have qb3 : (b3 != 0) = false := by simpa using q3
  have hbad : ¬ ((off = 1 ∨ val = 0) ∧ ¬ (off = 1 ∧ cl = true) ∧ ¬ (off = 3 ∧ cl = false)) := hbad.resolve_left (fun h => h ⟨q0, q1, q2, q3⟩)
  clear q0 q1 q2 q3
  rcases hz with rfl | rfl | rfl
  · have hcl : cl = true := by simpa using hbad
    subst hcl
    clear hbad
    go_enter Tryd.func41, Tryd.ntmps41
    go_wp2
    repeat (go_quiet (fail); go_wp2)
    refine wp_loop_rounds 5 ?_
    iterate 5 (rw [rounds_succ]; go_wp2)
    repeat (go_quiet (fail); go_wp2)
    all_goals go_ret
    all_goals exact ⟨by first | rfl | (simp; done) | (simp; omega), by repeat (first | assumption | (with_reducible exact Below.refl _ _) | (with_reducible refine Below.drew ?_) | (with_reducible refine below_drewN ?_ _) | (with_reducible refine Below.alloc ?_ (by first | omega | (simp <;> omega)) _))⟩
  · have hv : ¬ val = 0 := by simpa using hbad
    have hvb : (val != 0) = true := by simpa using hv
    clear hbad hv
    go_enter Tryd.func41, Tryd.ntmps41
    go_wp2
    repeat (go_quiet (fail); go_wp2)
    refine wp_loop_rounds 5 ?_
    iterate 5 (rw [rounds_succ]; go_wp2)
    repeat (go_quiet (fail); go_wp2)
    all_goals go_ret
    all_goals exact ⟨by first | rfl | (simp; done) | (simp; omega), by repeat (first | assumption | (with_reducible exact Below.refl _ _) | (with_reducible refine Below.drew ?_) | (with_reducible refine below_drewN ?_ _) | (with_reducible refine Below.alloc ?_ (by first | omega | (simp <;> omega)) _))⟩
  · by_cases hv : val = 0
    · subst hv
      have hcl : cl = false := by simpa using hbad
      subst hcl
      clear hbad
      go_enter Tryd.func41, Tryd.ntmps41
      go_wp2
      repeat (go_quiet (fail); go_wp2)
      refine wp_loop_rounds 5 ?_
      iterate 5 (rw [rounds_succ]; go_wp2)
      repeat (go_quiet (fail); go_wp2)
      all_goals go_ret
      all_goals exact ⟨by first | rfl | (simp; done) | (simp; omega), by repeat (first | assumption | (with_reducible exact Below.refl _ _) | (with_reducible refine Below.drew ?_) | (with_reducible refine below_drewN ?_ _) | (with_reducible refine Below.alloc ?_ (by first | omega | (simp <;> omega)) _))⟩
    · have hvb : (val != 0) = true := by simpa using hv
      clear hbad hv
      cases cl
      · go_enter Tryd.func41, Tryd.ntmps41
        go_wp2
        repeat (go_quiet (fail); go_wp2)
        refine wp_loop_rounds 5 ?_
        iterate 5 (rw [rounds_succ]; go_wp2)
        repeat (go_quiet (fail); go_wp2)
        all_goals go_ret
        all_goals exact ⟨by first | rfl | (simp; done) | (simp; omega), by repeat (first | assumption | (with_reducible exact Below.refl _ _) | (with_reducible refine Below.drew ?_) | (with_reducible refine below_drewN ?_ _) | (with_reducible refine Below.alloc ?_ (by first | omega | (simp <;> omega)) _))⟩
      · go_enter Tryd.func41, Tryd.ntmps41
        go_wp2
        repeat (go_quiet (fail); go_wp2)
        refine wp_loop_rounds 5 ?_
        iterate 5 (rw [rounds_succ]; go_wp2)
        repeat (go_quiet (fail); go_wp2)
        all_goals go_ret
        all_goals exact ⟨by first | rfl | (simp; done) | (simp; omega), by repeat (first | assumption | (with_reducible exact Below.refl _ _) | (with_reducible refine Below.drew ?_) | (with_reducible refine below_drewN ?_ _) | (with_reducible refine Below.alloc ?_ (by first | omega | (simp <;> omega)) _))⟩
end Go.Proofs.YtbcdeanmjhcgeaaDoor.Pg
