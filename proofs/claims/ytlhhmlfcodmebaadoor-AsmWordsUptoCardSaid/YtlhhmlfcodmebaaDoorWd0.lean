/- The words of a line, plainly: byte by byte, as the reference goes, and as the library's FieldsFunc cuts the part ahead of the first semicolon. No condition. -/
import Derived.Lib.FieldsP
import Derived.Lib.IndexMore
namespace Go.Proofs.YtlhhmlfcodmebaaDoor.Wd
open Go.Lib
/-- The words of bytes with no semicolon, behind an open word. -/
def spl : List UInt8 → List UInt8 → List (List UInt8)
  | [], w => if w = [] then [] else [w]
  | c :: l, w => if c = 32 ∨ c = 9 then (if w = [] then spl l [] else w :: spl l []) else spl l (w ++ [c])
/-- .. up to a semicolon. -/
def wrd : List UInt8 → List UInt8 → List (List UInt8)
  | [], w => if w = [] then [] else [w]
  | c :: l, w => if c = 59 then (if w = [] then [] else [w]) else if c = 32 ∨ c = 9 then (if w = [] then wrd l [] else w :: wrd l []) else wrd l (w ++ [c])
def cutAt : List UInt8 → List UInt8
  | [] => []
  | c :: l => if c = 59 then [] else c :: cutAt l
theorem wrd_spl : ∀ (l w : List UInt8), wrd l w = spl (cutAt l) w
  | [], w => rfl
  | c :: l, w => by
    by_cases h : c = 59
    · simp [wrd, cutAt, h, spl]
    · simp only [wrd, cutAt, if_neg h, spl, wrd_spl l]
theorem cut_pre : ∀ l : List UInt8, (if 0 ≤ index l [59] then l.take (index l [59]).toNat else l) = cutAt l
  | [] => by decide
  | c :: l => by
    have ih := cut_pre l
    have hg := index_ge l [59]
    unfold index cutAt
    by_cases h : c = 59
    · subst h
      rw [if_pos (by simp [List.isPrefixOf])]
      simp
    · have hp : ¬ ([59] : List UInt8).isPrefixOf (c :: l) = true := by
        simp only [List.isPrefixOf, Bool.and_true, beq_iff_eq]
        exact fun e => h e.symm
      rw [if_neg hp, if_neg h]
      by_cases h1 : index l [59] = -1
      · rw [h1] at ih ⊢
        rw [if_neg (by decide)] at ih
        rw [← ih]
        rfl
      · have hb : ¬ (index l [59] == -1) = true := by simp [h1]
        rw [if_neg hb, if_pos (by omega), ← ih, if_pos (by omega)]
        rw [show (index l [59] + 1).toNat = (index l [59]).toNat + 1 by omega, List.take_succ_cons]
theorem cut_fst (l : List UInt8) : (cut l [59]).1 = cutAt l := by
  rw [← cut_pre]
  unfold cut
  split <;> rfl
theorem cutAt_len : ∀ l : List UInt8, (cutAt l).length ≤ l.length
  | [] => Nat.le_refl _
  | c :: l => by
    unfold cutAt
    split
    · simp
    · have := cutAt_len l
      simp; omega
/-- Blank? -/
def blank (c : Nat) : Bool := decide (c = 32) || decide (c = 9)
theorem decode_low (s : ByteArray) (i : Nat) (h : (s.get! i).toNat < 128) : Utf8.decode s i = ((s.get! i).toNat, 1) := by
  unfold Utf8.decode
  simp only [Nat.add_zero]
  rw [if_pos h]
theorem decode_high (s : ByteArray) (i : Nat) (hi : i < s.size) (h : 128 ≤ (s.get! i).toNat) :
    128 ≤ (Utf8.decode s i).1 ∧ 1 ≤ (Utf8.decode s i).2 ∧ i + (Utf8.decode s i).2 ≤ s.size ∧ ∀ k, 1 ≤ k → k < (Utf8.decode s i).2 → 128 ≤ (s.get! (i + k)).toNat := by
  unfold Utf8.decode
  simp only [Nat.add_zero]
  rw [if_neg (by omega)]
  have e : ∀ k, (decide (i + k < s.size) && (s.get! (i + k)).toNat / 64 == 2) = true → i + k < s.size ∧ 128 ≤ (s.get! (i + k)).toNat := by
    intro k hk
    simp only [Bool.and_eq_true, decide_eq_true_eq, beq_iff_eq] at hk
    exact ⟨hk.1, by omega⟩
  have one : ∀ k, 1 ≤ k → k < 1 → 128 ≤ (s.get! (i + k)).toNat := fun k h1 h2 => by omega
  have r : 128 ≤ Utf8.runeError := by decide
  split
  · next h2 =>
    rw [Bool.and_eq_true] at h2
    have e1 := e 1 h2.2
    split
    · exact ⟨by assumption, by simp, by simp; omega, fun k h1 h2 => by obtain rfl : k = 1 := by simp at h2; omega
                                                                       exact e1.2⟩
    · exact ⟨r, by simp, by simp; omega, by simpa using one⟩
  · split
    · next h2 =>
      rw [Bool.and_eq_true, Bool.and_eq_true] at h2
      have e1 := e 1 h2.1.2
      have e2 := e 2 h2.2
      split
      · next h3 =>
        rw [Bool.and_eq_true, decide_eq_true_eq] at h3
        refine ⟨by have := h3.1; simp only at this ⊢; omega, by simp, by simp; omega, fun k h1 h2 => ?_⟩
        simp at h2
        rcases (show k = 1 ∨ k = 2 by omega) with rfl | rfl
        · exact e1.2
        · exact e2.2
      · exact ⟨r, by simp, by simp; omega, by simpa using one⟩
    · split
      · next h2 =>
        rw [Bool.and_eq_true, Bool.and_eq_true, Bool.and_eq_true] at h2
        have e1 := e 1 h2.1.1.2
        have e2 := e 2 h2.1.2
        have e3 := e 3 h2.2
        split
        · next h3 =>
          rw [Bool.and_eq_true, decide_eq_true_eq] at h3
          refine ⟨by have := h3.1; simp only at this ⊢; omega, by simp, by simp; omega, fun k h1 h2 => ?_⟩
          simp at h2
          rcases (show k = 1 ∨ k = 2 ∨ k = 3 by omega) with rfl | rfl | rfl
          · exact e1.2
          · exact e2.2
          · exact e3.2
        · exact ⟨r, by simp, by simp; omega, by simpa using one⟩
      · exact ⟨r, by simp, by simp; omega, by simpa using one⟩
/-- Bytes that are no blanks are taken at once. -/
theorem spl_run : ∀ (x l w : List UInt8), (∀ c ∈ x, ¬ (c = 32 ∨ c = 9)) → spl (x ++ l) w = spl l (w ++ x)
  | [], l, w, _ => by simp
  | c :: x, l, w, h => by
    have hc := h c (by simp)
    simp only [List.cons_append, spl]
    rw [if_neg hc, spl_run x l _ (fun d hd => h d (by simp [hd]))]
    simp
theorem get_at (s : ByteArray) (i : Nat) (h : i < s.size) : s.data.toList[i]? = some (s.get! i) := by
  have hl : i < s.data.toList.length := by rw [← size_eq]; exact h
  rw [← getD_get!' s i, List.getD, List.getElem?_eq_getElem hl]
  rfl
/-- THE PASS: what the spans give is what the bytes give. -/
theorem spans_spl (s : ByteArray) : ∀ (f pos : Nat) (st : Option Nat) (acc : List (Nat × Nat)), s.size ≤ pos + f → pos ≤ s.size → (∀ a, st = some a → a < pos) →
    (closeSpans s (spansFromP blank s f pos st acc)).map (fun p => pieceU s.data.toList p.1 p.2) = acc.map (fun p => pieceU s.data.toList p.1 p.2) ++ spl (s.data.toList.drop pos) (openPiece s.data.toList st pos) := by
  have stop : ∀ (st : Option Nat) (acc : List (Nat × Nat)), (∀ a, st = some a → a < s.size) → (closeSpans s (acc, st)).map (fun p => pieceU s.data.toList p.1 p.2) = acc.map (fun p => pieceU s.data.toList p.1 p.2) ++ spl (s.data.toList.drop s.size) (openPiece s.data.toList st s.size) := by
    intro st acc hst
    have hd : s.data.toList.drop s.size = [] := List.drop_eq_nil_of_le (by rw [← size_eq]; exact Nat.le_refl _)
    rw [hd]
    cases st with
    | none => simp [closeSpans, openPiece, spl]
    | some a =>
      have := pieceU_ne s.data.toList a s.size (hst a rfl) (by rw [← size_eq]; exact Nat.le_refl _)
      simp [closeSpans, openPiece, spl, this]
  intro f
  induction f with
  | zero =>
    intro pos st acc h hp hst
    obtain rfl : pos = s.size := by omega
    exact stop st acc hst
  | succ f ih =>
    intro pos st acc h hp hst
    by_cases hlt : pos < s.size
    · have hg := get_at s pos hlt
      have hll : pos < s.data.toList.length := by rw [← size_eq]; exact hlt
      have hdrop : s.data.toList.drop pos = s.get! pos :: s.data.toList.drop (pos + 1) := by
        rw [List.drop_eq_getElem_cons hll]
        congr 1
        rw [List.getElem?_eq_getElem hll] at hg
        exact Option.some.inj hg
      simp only [spansFromP, if_pos hlt]
      by_cases hb : (s.get! pos).toNat < 128
      · rw [decode_low s pos hb]
        simp only
        by_cases hs : s.get! pos = 32 ∨ s.get! pos = 9
        · have hbl : blank (s.get! pos).toNat = true := by
            rcases hs with hs | hs <;> rw [hs] <;> decide
          rw [if_pos hbl, hdrop]
          simp only [spl, if_pos hs]
          cases st with
          | none =>
            rw [ih (pos + 1) none acc (by omega) (by omega) (fun a h => by cases h)]
            simp [openPiece]
          | some a =>
            have hpn := pieceU_ne s.data.toList a pos (hst a rfl) (by rw [← size_eq]; omega)
            rw [ih (pos + 1) none (acc ++ [(a, pos)]) (by omega) (by omega) (fun a h => by cases h)]
            simp [openPiece, hpn]
        · have hbl : ¬ blank (s.get! pos).toNat = true := by
            intro hk
            unfold blank at hk
            rw [Bool.or_eq_true, decide_eq_true_eq, decide_eq_true_eq] at hk
            exact hs (hk.imp (fun e => UInt8.toNat_inj.1 (by rw [e]; rfl)) (fun e => UInt8.toNat_inj.1 (by rw [e]; rfl)))
          rw [if_neg hbl, hdrop]
          simp only [spl, if_neg hs]
          have hone : (s.data.toList.drop pos).take 1 = [s.get! pos] := by rw [hdrop]; rfl
          cases st with
          | none =>
            rw [ih (pos + 1) (some pos) acc (by omega) (by omega) (fun a h => by cases h; omega)]
            simp only [openPiece, List.nil_append]
            congr 2
            unfold pieceU
            rw [Nat.add_sub_cancel_left, hone]
          | some a =>
            rw [ih (pos + 1) (some a) acc (by omega) (by omega) (fun b h => by cases h; have := hst a rfl; omega)]
            simp only [openPiece]
            congr 2
            rw [← pieceU_grow _ _ _ _ (Nat.le_of_lt (hst a rfl)), hone]
      · obtain ⟨h1, h2, h3, h4⟩ := decode_high s pos hlt (by omega)
        generalize hd : Utf8.decode s pos = d at h1 h2 h3 h4 ⊢
        obtain ⟨r, n⟩ := d
        simp only at h1 h2 h3 h4 ⊢
        have hbl : ¬ blank r = true := by
          intro hk
          unfold blank at hk
          rw [Bool.or_eq_true, decide_eq_true_eq, decide_eq_true_eq] at hk
          omega
        have hsplit : s.data.toList.drop pos = (s.data.toList.drop pos).take n ++ s.data.toList.drop (pos + n) := by
          rw [← List.drop_drop, List.take_append_drop]
        have hx : ∀ c ∈ (s.data.toList.drop pos).take n, ¬ (c = 32 ∨ c = 9) := by
          intro c hc
          obtain ⟨k, hk, rfl⟩ := List.getElem_of_mem hc
          have hkn : k < n := by
            have := hk
            rw [List.length_take] at this
            omega
          have hge : ((s.data.toList.drop pos).take n)[k]? = some (s.get! (pos + k)) := by
            rw [List.getElem?_take_of_lt hkn, List.getElem?_drop]
            exact get_at s (pos + k) (by omega)
          rw [List.getElem?_eq_getElem hk] at hge
          rw [Option.some.inj hge]
          have hbig : 128 ≤ (s.get! (pos + k)).toNat := by
            by_cases h0 : k = 0
            · subst h0; simp only [Nat.add_zero]; omega
            · exact h4 k (by omega) hkn
          rintro (e | e) <;> rw [e] at hbig <;> exact absurd hbig (by decide)
        rw [if_neg hbl]
        cases st with
        | none =>
          simp only
          rw [ih (pos + n) (some pos) acc (by omega) h3 (fun a h => by cases h; omega), hsplit, spl_run _ _ _ hx]
          simp only [openPiece, List.nil_append]
          congr 2
          unfold pieceU
          rw [Nat.add_sub_cancel_left]
        | some a =>
          simp only
          rw [ih (pos + n) (some a) acc (by omega) h3 (fun b h => by cases h; have := hst a rfl; omega), hsplit, spl_run _ _ _ hx]
          simp only [openPiece]
          congr 2
          rw [← pieceU_grow _ _ _ _ (Nat.le_of_lt (hst a rfl))]
    · obtain rfl : pos = s.size := by omega
      rw [spansFromP_end blank s _ _ _ _ hlt]
      exact stop st acc hst
/-- THE LIBRARY's FIELDS are the words. -/
theorem fields_spl (s : ByteArray) : (goFieldsP blank s).map (·.data.toList) = spl s.data.toList [] := by
  have h := spans_spl s s.size 0 none [] (by omega) (Nat.zero_le _) (fun a h => by cases h)
  simp only [List.map_nil, List.nil_append, openPiece, List.drop_zero] at h
  rw [← h]
  unfold goFieldsP spansOfP
  rw [List.map_map]
  congr 1
  funext p
  simp [pieceU]
/-- THE LIBRARY's FIELDS of the part ahead of a semicolon. -/
theorem fields_wrd (l : List UInt8) : (goFieldsP blank ⟨(cut l [59]).1.toArray⟩).map (·.data.toList) = wrd l [] := by
  rw [fields_spl, cut_fst, wrd_spl]
/-- How many. -/
theorem spl_count : ∀ (l w : List UInt8), (spl l w).length ≤ l.length + 1
  | [], w => by unfold spl; split <;> simp
  | c :: l, w => by
    unfold spl
    have h0 := spl_count l []
    have h1 := spl_count l (w ++ [c])
    split
    · split <;> simp <;> omega
    · simp; omega
theorem wrd_count (l w : List UInt8) : (wrd l w).length ≤ l.length + 1 := by
  rw [wrd_spl]
  have := spl_count (cutAt l) w
  have := cutAt_len l
  omega
end Go.Proofs.YtlhhmlfcodmebaaDoor.Wd
