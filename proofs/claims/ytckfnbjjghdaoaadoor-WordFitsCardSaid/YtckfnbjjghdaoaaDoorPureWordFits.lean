/- THE PURE LAW of WordFits: what each conversion leaves as it is. No condition. -/
import Derived.Test.YtckfnbjjghdaoaaDoorConvs
import Derived.Test.YtckfnbjjghdaoaaDoorQ7
namespace Go.Proofs.YtckfnbjjghdaoaaDoor.Pure
open Go.RowKit Go.Proofs.YtckfnbjjghdaoaaDoor.Q Go.Proofs.YtckfnbjjghdaoaaDoorW.PrintWords Go.Proofs.YtckfnbjjghdaoaaDoor.Bits Go.Proofs.YtckfnbjjghdaoaaDoor.Ops Go.Proofs.YtckfnbjjghdaoaaDoor.RefOps
theorem WordFits : scarablaw02_WordFits.Pure := by
  intro x op hx hop
  refine ⟨100, ?_⟩
  unfold scarablaw02_WordFits.f
  refine bindI (speaks 100 (by decide)) ?_
  rw [if_pos rfl]
  have f127 : word_Fits.f 100 127 10 = some true := by
    unfold word_Fits.f
    rw [if_pos (by decide), if_pos (by decide)]
    refine bindI (one_conv 10 127 (by decide) (by decide) 100) ?_
    decide
  have f128 : word_Fits.f 100 128 10 = some false := by
    unfold word_Fits.f
    rw [if_pos (by decide), if_pos (by decide)]
    refine bindI (one_conv 10 128 (by decide) (by decide) 100) ?_
    decide
  refine bindI f127 ?_
  rw [if_pos rfl]
  refine bindI f128 ?_
  rw [if_neg (by decide)]
  obtain ⟨b, h1, h2⟩ : ∃ b, word_Fits.f 100 x op = some b ∧ scarabref02_Fits.f 100 x op = some b := by
    unfold word_Fits.f scarabref02_Fits.f
    by_cases h : 10 ≤ op ∧ op ≤ 15
    · rw [if_pos h.1, if_pos h.2, if_pos h.1, if_pos h.2]
      exact ⟨_, bindI (one_conv op x h.1 h.2 100) rfl, bindI (ref_conv op x h.1 h.2 100 (by decide)) rfl⟩
    · by_cases h1 : op ≥ 10
      · rw [if_pos h1, if_neg (by omega), if_pos h1, if_neg (by omega)]; exact ⟨_, rfl, rfl⟩
      · rw [if_neg h1, if_neg h1]; exact ⟨_, rfl, rfl⟩
  refine bindI h1 (bindI h2 ?_)
  simp
end Go.Proofs.YtckfnbjjghdaoaaDoor.Pure
