/- Clocks, walked: what every law of three clocks does first. No condition. -/
import Derived.Test.YtfhdmknplpgiiaaDoorW6
import Derived.Test.YtfhdmknplpgiiaaDoorW7
namespace Go.Proofs.YtfhdmknplpgiiaaDoor.Ck
open Go.ChangeShapes Go.WideShapes Go.RowKit
theorem acc_step {B : Nat} {w W w1 : World} (h : Below B w W) (hB : B ≤ W.heap.size) (hb : Below W.heap.size W w1) : Below B w w1 := h.trans (hb.mono hB)
/-- Right, behind a name. -/
def R (x : C6) : Prop := right x = true
set_option maxHeartbeats 1600000 in
set_option maxRecDepth 100000 in
theorem bad_ok (x y : C6) (w : World) (hx : R x) (hy : R y) : Calls Tryd.prog 9 #[x.v, y.v] w fun e w' => e = .returned (.int .i64 0) ∧ Below w.heap.size w w' ∧ w'.heap.size = w.heap.size + 4 := by
  unfold R at hx hy
  unfold C6.v
  go_enter Tryd.func9, Tryd.ntmps9
  go_wp2_with (go_at_call 24; refine (right_walk _ _).mono ?_; rintro e w' ⟨rfl, rfl⟩)
  go_ret
  exact ⟨rfl, by repeat (first | (with_reducible exact Below.refl _ _) | (with_reducible refine Below.drew ?_) | (with_reducible refine Below.alloc ?_ (by simp <;> omega) _)), by simp⟩
theorem bad_no (x y : C6) (w : World) (h : ¬ (R x ∧ R y)) : Calls Tryd.prog 9 #[x.v, y.v] w fun e w' => e = .returned (.int .i64 1) ∧ Below w.heap.size w w' :=
  (bad_walk x y w).mono fun e w' ⟨he, hw⟩ => ⟨by rw [he, show chk2 x y = 1 from if_neg h], hw⟩
end Go.Proofs.YtfhdmknplpgiiaaDoor.Ck
