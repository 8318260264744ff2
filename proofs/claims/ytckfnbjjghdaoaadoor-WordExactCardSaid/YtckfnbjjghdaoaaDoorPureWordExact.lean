/- THE PURE LAW of WordExact: sub of what add made is a again; whether add goes over is told by the side of the sum. No condition. -/
import Derived.Test.YtckfnbjjghdaoaaDoorQ11
import Derived.Test.YtckfnbjjghdaoaaDoorRing
namespace Go.Proofs.YtckfnbjjghdaoaaDoor.Pure
open Go.RowKit Go.Proofs.YtckfnbjjghdaoaaDoor.Q Go.Proofs.YtckfnbjjghdaoaaDoorW.PrintWords Go.Proofs.YtckfnbjjghdaoaaDoor.Bits Go.Proofs.YtckfnbjjghdaoaaDoor.Ops
theorem over16 (a b : Int) (k : Nat) (hk : 5 ≤ k) : word_Over.f k 16 a b = some ((decide (wrap64 (a + b) < a)) != (decide (b < 0)), 0) := by
  obtain ⟨k, rfl⟩ : ∃ m, k = m + 1 := ⟨k - 1, by omega⟩
  unfold word_Over.f
  refine bindI (apply16 a b _ hk) ?_
  rfl
theorem WordExact : scarablaw02_WordExact.Pure := by
  intro a b ha hb
  have ba := wf_i64 ha
  refine ⟨20, ?_⟩
  unfold scarablaw02_WordExact.f
  refine bindI (speaks 20 (by decide)) ?_
  rw [if_pos rfl]
  refine bindI (did16 a b 20 (by decide)) ?_
  refine bindI (did17 _ b 20 (by decide)) ?_
  refine bindI (over16 a b 20 (by decide)) ?_
  dsimp only
  rw [if_pos rfl, if_pos rfl, if_pos rfl, if_pos (by unfold wrap64; omega)]
  cases decide (wrap64 (a + b) < a) <;> cases decide (b < 0) <;> rfl
end Go.Proofs.YtckfnbjjghdaoaaDoor.Pure
