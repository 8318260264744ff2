/- THE PURE LAW of WordWide: whole products of two words are the reference's. No condition. -/
import Derived.Test.YtckfnbjjghdaoaaDoorWide
import Derived.Test.YtckfnbjjghdaoaaDoorQ3
namespace Go.Proofs.YtckfnbjjghdaoaaDoor.Pure
open Go.RowKit Go.Proofs.YtckfnbjjghdaoaaDoor.Q Go.Proofs.YtckfnbjjghdaoaaDoorW.PrintWords Go.Proofs.YtckfnbjjghdaoaaDoor.Bits Go.Proofs.YtckfnbjjghdaoaaDoor.Ops
theorem WordWide : scarablaw02_WordWide.Pure := by
  intro a b ha hb
  have ba := wf_i64 ha
  have bb := wf_i64 hb
  refine ⟨100, ?_⟩
  unfold scarablaw02_WordWide.f
  refine bindI (Wide.wide_val a b ba bb) ?_
  refine bindI (Wide.ref_val a b ba bb 100 (by decide)) ?_
  refine bindI (speaks 100 (by decide)) ?_
  rw [if_pos rfl, if_pos rfl]
  simp
end Go.Proofs.YtckfnbjjghdaoaaDoor.Pure
