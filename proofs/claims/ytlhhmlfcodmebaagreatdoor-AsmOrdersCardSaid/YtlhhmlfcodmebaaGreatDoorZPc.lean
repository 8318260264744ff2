/- An instruction's words, plainly: letter by letter; what names there are. No condition. -/
import Derived.Test.YtlhhmlfcodmebaaGreatDoorZa
import Derived.Test.YtlhhmlfcodmebaaGreatDoorZh
namespace Go.Proofs.YtlhhmlfcodmebaaGreatDoor.Pg
set_option linter.unusedVariables false
set_option linter.unusedSimpArgs false
/-- The operands of a form, with 0 where there is none. -/
def gos : List UInt8 → List (List UInt8) → List Int × Int
  | [], _ => ([], 0)
  | c :: cs, ws => if c = 45 then (0 :: (gos cs ws).1, (gos cs ws).2) else
    match ws with
    | [] => ([], 0)
    | w :: ws => if (val c w).2 = 0 then ((val c w).1 :: (gos cs ws).1, (gos cs ws).2) else ([], (val c w).2)
theorem gos_dash (cs : List UInt8) (ws : List (List UInt8)) : gos (45 :: cs) ws = (0 :: (gos cs ws).1, (gos cs ws).2) := by
  rw [gos.eq_def]
  simp
theorem gos_word (c : UInt8) (cs : List UInt8) (w : List UInt8) (ws : List (List UInt8)) (h : c ≠ 45) : gos (c :: cs) (w :: ws) = if (val c w).2 = 0 then ((val c w).1 :: (gos cs ws).1, (gos cs ws).2) else ([], (val c w).2) := by
  rw [gos, if_neg h]
theorem gos_vals : ∀ (L : List UInt8) (ws : List (List UInt8)), ws.length = (L.filter (fun c => decide (c ≠ 45))).length →
    (gos L ws).2 = (vals (L.filter (fun c => decide (c ≠ 45))) ws).2 ∧ ((gos L ws).2 = 0 → (gos L ws).1 = spread L (vals (L.filter (fun c => decide (c ≠ 45))) ws).1)
  | [], ws, h => ⟨rfl, fun _ => rfl⟩
  | c :: cs, ws, h => by
    by_cases hc : c = 45
    · subst hc
      have hf : ((45 : UInt8) :: cs).filter (fun c => decide (c ≠ 45)) = cs.filter (fun c => decide (c ≠ 45)) := by simp
      rw [hf] at h ⊢
      obtain ⟨h1, h2⟩ := gos_vals cs ws h
      rw [gos_dash]
      refine ⟨h1, fun q => ?_⟩
      simp only at q ⊢
      rw [h2 q, spread, if_pos rfl]
    · have hf : (c :: cs).filter (fun c => decide (c ≠ 45)) = c :: cs.filter (fun c => decide (c ≠ 45)) := by simp [hc]
      rw [hf] at h ⊢
      cases ws with
      | nil => simp at h
      | cons w ws =>
        have h' : ws.length = (cs.filter (fun c => decide (c ≠ 45))).length := by simpa using h
        obtain ⟨h1, h2⟩ := gos_vals cs ws h'
        rw [gos_word c cs w ws hc, vals]
        by_cases hv : (val c w).2 = 0
        · rw [if_pos hv, if_pos hv]
          refine ⟨h1, fun q => ?_⟩
          simp only at q ⊢
          rw [h2 q, spread, if_neg hc]
          rfl
        · rw [if_neg hv, if_neg hv]
          exact ⟨rfl, fun q => absurd q hv⟩
def alet (c : UInt8) : Prop := c = 114 ∨ c = 119 ∨ c = 112 ∨ c = 111 ∨ c = 118 ∨ c = 97 ∨ c = 108 ∨ c = 99 ∨ c = 115 ∨ c = 102 ∨ c = 116 ∨ c = 110
instance (c : UInt8) : Decidable (alet c) := by unfold alet; infer_instance
theorem form_alets (op : Int) : ∀ c ∈ (form op).data.toList, c = 45 ∨ alet c := by
  show (fun s : ByteArray => ∀ c ∈ s.data.toList, c = 45 ∨ alet c) (form op)
  unfold form
  iterate 20 refine ite_P (P := fun s : ByteArray => ∀ c ∈ s.data.toList, c = 45 ∨ alet c) (fun _ => by decide) (fun _ => ?_)
  decide
theorem idx_range (s : List UInt8) : ∀ (l : List (List UInt8)) (k : Nat), idx s l k = 0 ∨ (k ≤ idx s l k ∧ idx s l k < k + l.length)
  | [], _ => .inl rfl
  | x :: l, k => by
    rw [idx]
    split
    · exact .inr ⟨Nat.le_refl _, by simp⟩
    · rcases idx_range s l (k + 1) with h | ⟨h1, h2⟩
      · exact .inl h
      · exact .inr ⟨by omega, by rw [List.length_cons]; omega⟩
theorem fp_mem (s : List UInt8) : ∀ l : List Nat, Wd.fp s l = 0 ∨ Wd.fp s l ∈ l
  | [] => .inl rfl
  | o :: l => by
    rw [Wd.fp]
    split
    · exact .inr (List.mem_cons_self ..)
    · rcases fp_mem s l with h | h
      · exact .inl h
      · exact .inr (List.mem_cons_of_mem _ h)
theorem opAt_form (s : List UInt8) (hs : s ≠ []) (h : opAt s ≠ 0) : (form (opAt s : Nat)).size = 4 := by
  have hne : form (opAt s : Nat) ≠ ⟨#[]⟩ := by
    rw [Ne, form_none]
    rw [Wd.opAt_eq s hs] at h ⊢
    have hl : ((names.take 37).drop 1).length = 36 := by decide
    split at h
    · next hi =>
      rw [if_pos hi]
      rcases idx_range s ((names.take 37).drop 1) 1 with q | ⟨q1, q2⟩
      · exact absurd q hi
      · intro k
        have := k.1
        unfold loc at this
        simp only [decide_eq_false_iff_not] at this
        omega
    · next hi =>
      rw [if_neg hi]
      rcases fp_mem s Wd.ops2 with q | q
      · exact absurd q h
      · revert q
        generalize Wd.fp s Wd.ops2 = o
        intro q k
        have : ∀ o ∈ Wd.ops2, ¬ (loc (o : Nat) = false ∧ vis (o : Nat) = false) := by decide
        exact this o q k
  rcases form_cases (opAt s : Nat) with h | h
  · exact absurd h hne
  · exact h
end Go.Proofs.YtlhhmlfcodmebaaGreatDoor.Pg
