/- THE PURE LAW of WordDivides: two words divided by one, as the reference divides them. No condition. -/
import Derived.Test.YtckfnbjjghdaoaaDoorDivval
import Derived.Test.YtckfnbjjghdaoaaDoorRing
import Derived.Test.YtckfnbjjghdaoaaDoorQ15
namespace Go.Proofs.YtckfnbjjghdaoaaDoor.Pure
open Go.RowKit Go.Proofs.YtckfnbjjghdaoaaDoor.Q Go.Proofs.YtckfnbjjghdaoaaDoorW.PrintWords Go.Proofs.YtckfnbjjghdaoaaDoor.Bits Go.Proofs.YtckfnbjjghdaoaaDoor.Ops Go.Proofs.YtckfnbjjghdaoaaDoor.Divs
theorem divides_both (a0 a1 a2 : Int) (h0 : -9223372036854775808 ≤ a0 ∧ a0 < 9223372036854775808) (h1 : 0 ≤ a1 ∧ a1 < 18446744073709551616) (h2 : -9223372036854775808 ≤ a2 ∧ a2 < 9223372036854775808) :
    ∃ x, word_Divide.f 200 a0 a1 a2 = some x ∧ scarabref02_Divide.f 200 a0 a1 a2 = some x := by
  by_cases hz : a2 = 0
  · refine ⟨(0, 0, 20), ?_, ?_⟩
    · unfold word_Divide.f; rw [if_pos hz]
    · unfold scarabref02_Divide.f; rw [if_pos hz]
  · obtain ⟨m, _, g1, g2⟩ := Divval.both a0 a1 a2 h0 h1 h2 hz 200 (by decide)
    exact ⟨_, g1, g2⟩
theorem seven : word_Divide.f 200 0 7 (-2) = some (-3, 1, 0) := by
  obtain ⟨m, hm, g1, _⟩ := Divval.both 0 7 (-2) (by decide) (by decide) (by decide) (by decide) 200 (by decide)
  rw [if_neg (by decide)] at hm
  obtain rfl : m = 7 := by omega
  rw [g1]
  decide +kernel
theorem WordDivides : scarablaw02_WordDivides.Pure := by
  intro a0 a1 a2 w0 w1 w2
  obtain ⟨x, g1, g2⟩ := divides_both a0 a1 a2 (wf_i64 w0) (wf_u64 w1) (wf_i64 w2)
  refine ⟨200, ?_⟩
  unfold scarablaw02_WordDivides.f
  refine bindI g1 (bindI g2 (bindI seven (bindI (speaks 200 (by decide)) ?_)))
  rw [if_pos rfl, if_pos rfl, if_pos rfl, if_pos rfl, if_pos rfl, if_pos rfl]
  simp
end Go.Proofs.YtckfnbjjghdaoaaDoor.Pure
