/- THE PURE LAW of WordApplies: every operation is the reference's, and so is its name and how many words it takes. No condition. -/
import Derived.Test.YtckfnbjjghdaoaaDoorTTwos
import Derived.Test.YtckfnbjjghdaoaaDoorT8
namespace Go.Proofs.YtckfnbjjghdaoaaDoor.Pure
open Go.RowKit Go.Proofs.YtckfnbjjghdaoaaDoor.T Go.Proofs.YtckfnbjjghdaoaaDoorW.PrintWords Go.Proofs.YtckfnbjjghdaoaaDoor.Bits Go.Proofs.YtckfnbjjghdaoaaDoor.Ops Go.Proofs.YtckfnbjjghdaoaaDoor.RefOps Go.Proofs.YtckfnbjjghdaoaaDoor.Ones Go.Proofs.YtckfnbjjghdaoaaDoor.Twos
theorem names_eq : ∀ i : Fin 37, 1 ≤ i.val → ((word_names.f).getD []).getD i.val ByteArray.empty = ((scarabref02_Names.f).getD []).getD (i.val - 1) ByteArray.empty := by
  intro i h
  obtain ⟨j, hj⟩ : ∃ j, i.val = j + 1 := ⟨i.val - 1, by omega⟩
  rw [hj]
  rfl
theorem arity_val (op : Int) (k : Nat) (hk : 3 ≤ k) : word_Arity.f k op = some (if op < 1 ∨ op > 36 then 0 else if op ≤ 15 then 1 else 2) := by
  by_cases h : op < 1 ∨ op > 36
  · rw [if_pos h]; exact arity0 op (by omega) k hk
  · rw [if_neg h]
    by_cases h2 : op ≤ 15
    · rw [if_pos h2]; exact arity1 op (by omega) h2 k hk
    · rw [if_neg h2]; exact arity2 op (by omega) (by omega) k hk
theorem WordApplies : scarablaw02_WordApplies.Pure := by
  intro op a b _ wa wb
  have ha := wf_i64 wa
  have hb := wf_i64 wb
  refine ⟨400, ?_⟩
  obtain ⟨r, e, h1, h2⟩ := both op a b ha hb 400 (by decide)
  unfold scarablaw02_WordApplies.f
  refine bindI h1 (bindI h2 (bindI (speaks 400 (by decide)) ?_))
  rw [if_pos rfl, if_pos rfl, if_pos rfl]
  refine bindI (arity_val op 400 (by decide)) (bindI (ref_arity op 400 (by decide)) ?_)
  rw [if_pos rfl]
  obtain ⟨s, hs, ht⟩ : ∃ s, word_Name.f 400 op = some s ∧ scarabref02_Name.f 400 op = some s := by
    unfold word_Name.f scarabref02_Name.f
    by_cases h : op < 1 ∨ op > 36
    · refine ⟨(⟨#[]⟩ : ByteArray), bindI (arity_val op 400 (by decide)) ?_, bindI (ref_arity op 400 (by decide)) ?_⟩
      · rw [if_pos h, if_pos rfl]
      · rw [if_pos h, if_pos rfl]
    · have hne : (if op < 1 ∨ op > 36 then (0 : Int) else if op ≤ 15 then 1 else 2) ≠ 0 := by
        rw [if_neg h]; split <;> decide
      obtain ⟨n, rfl⟩ : ∃ n : Nat, op = (n : Int) := ⟨op.toNat, by omega⟩
      have hn := names_eq ⟨n, by omega⟩ (by simp only; omega)
      have l1 : ((word_names.f).getD []).length = 37 := rfl
      have l2 : ((scarabref02_Names.f).getD []).length = 36 := rfl
      refine ⟨((word_names.f).getD []).getD n ByteArray.empty, bindI (arity_val _ 400 (by decide)) ?_, bindI (ref_arity _ 400 (by decide)) ?_⟩
      · rw [if_neg hne]
        refine bindI (x := (word_names.f).getD []) rfl ?_
        rw [if_pos (by omega), if_pos (by omega)]
        rfl
      · rw [if_neg hne]
        refine bindI (x := (scarabref02_Names.f).getD []) rfl ?_
        have w : wrap64 ((n : Int) - 1) = ((n - 1 : Nat) : Int) := by unfold wrap64; omega
        rw [w, if_pos (by omega), if_pos (by omega), hn]
        rfl
  refine bindI hs (bindI ht ?_)
  simp
end Go.Proofs.YtckfnbjjghdaoaaDoor.Pure
