/- THE PURE LAW of WordNames: the operation of every text, and the name of each operation. No condition. -/
import Derived.Test.YtckfnbjjghdaoaaDoorQ10
import Derived.Test.YtckfnbjjghdaoaaDoorRing
namespace Go.Proofs.YtckfnbjjghdaoaaDoor.Pure
open Go.RowKit Go.Proofs.YtckfnbjjghdaoaaDoor.Q Go.Proofs.YtckfnbjjghdaoaaDoorW.PrintWords Go.Proofs.YtckfnbjjghdaoaaDoor.Bits Go.Proofs.YtckfnbjjghdaoaaDoor.Ops

/-- The place of a text in a list, from place n on. -/
def place (s : List UInt8) : List ByteArray → Nat → Nat
  | [], _ => 0
  | x :: r, n => if x.toList = s then n else place s r (n + 1)
def refs : List ByteArray := (scarabref02_Names.f).getD []
def nms : List ByteArray := (word_names.f).getD []
theorem refs_is : scarabref02_Names.f = some refs := rfl
theorem nms_is : word_names.f = some nms := rfl
theorem nms_refs : nms = (⟨#[]⟩ : ByteArray) :: refs := rfl
theorem refs_len : refs.length = 36 := rfl

theorem rd_drop (l : List ByteArray) (i : Nat) (x : ByteArray) (r : List ByteArray) (h : l.drop i = x :: r) : rdOf ByteArray.empty l (i : Int) = x ∧ i < l.length := by
  have hi : i < l.length := by
    by_cases h2 : i < l.length
    · exact h2
    · rw [List.drop_eq_nil_of_le (by omega)] at h; cases h
  refine ⟨?_, hi⟩
  unfold rdOf
  rw [List.drop_eq_getElem_cons hi] at h
  injection h with h1 _
  rw [List.getD_eq_getElem?_getD, Int.toNat_natCast, List.getElem?_eq_getElem hi]
  exact h1
theorem drop_next (l : List ByteArray) (i : Nat) (x : ByteArray) (r : List ByteArray) (h : l.drop i = x :: r) : l.drop (i + 1) = r := by
  rw [← List.drop_drop, h]; rfl

theorem word_loop (s : ByteArray) (r : List ByteArray) : ∀ (i : Nat), nms.drop i = r → 0 < i → i ≤ 37 → ∀ k, r.length < k →
    word_Named.l0 k s nms 37 i = some (((place s.toList r i : Nat) : Int), decide (0 < place s.toList r i)) := by
  induction r with
  | nil =>
    intro i h hi hi2 k hk
    obtain ⟨k, rfl⟩ : ∃ m, k = m + 1 := ⟨k - 1, by omega⟩
    have : nms.length ≤ i := List.drop_eq_nil_iff.1 h
    rw [nms_refs, List.length_cons, refs_len] at this
    rw [word_Named.l0, if_neg (by omega)]
    rfl
  | cons x r ih =>
    intro i h hi hi2 k hk
    obtain ⟨k, rfl⟩ : ∃ m, k = m + 1 := ⟨k - 1, by omega⟩
    obtain ⟨hx, hlt⟩ := rd_drop nms i x r h
    have hl : nms.length = 37 := rfl
    rw [word_Named.l0, if_pos (by omega), if_pos (by omega), if_pos (by omega), hx]
    by_cases e : x.toList = s.toList
    · have hp : place s.toList (x :: r) i = i := by simp only [place]; rw [if_pos e]
      rw [hp, if_pos e, if_pos (by omega), decide_eq_true hi]
    · have hp : place s.toList (x :: r) i = place s.toList r (i + 1) := by simp only [place]; rw [if_neg e]
      rw [hp, if_neg e, show wrap64 ((i : Int) + 1) = ((i + 1 : Nat) : Int) by unfold wrap64; omega]
      exact ih (i + 1) (drop_next nms i x r h) (by omega) (by omega) k (by simp at hk; omega)
theorem ref_loop (s : ByteArray) (r : List ByteArray) : ∀ (i : Nat), refs.drop i = r → i ≤ 36 → ∀ k, r.length < k →
    scarabref02_Named.l0 k s refs i = some ((place s.toList r (i + 1) : Nat) : Int) := by
  induction r with
  | nil =>
    intro i h hi2 k hk
    obtain ⟨k, rfl⟩ : ∃ m, k = m + 1 := ⟨k - 1, by omega⟩
    have : refs.length ≤ i := List.drop_eq_nil_iff.1 h
    rw [scarabref02_Named.l0, if_neg (by omega)]
    rfl
  | cons x r ih =>
    intro i h hi2 k hk
    obtain ⟨k, rfl⟩ : ∃ m, k = m + 1 := ⟨k - 1, by omega⟩
    obtain ⟨hx, hlt⟩ := rd_drop refs i x r h
    have hl : refs.length = 36 := rfl
    rw [scarabref02_Named.l0, if_pos (by omega), if_pos (by omega), hx, show wrap64 ((i : Int) + 1) = ((i + 1 : Nat) : Int) by unfold wrap64; omega]
    simp only [place]
    by_cases e : x.toList = s.toList
    · rw [if_pos e, if_pos e]
    · rw [if_neg e, if_neg e]
      exact ih (i + 1) (drop_next refs i x r h) (by omega) k (by simp at hk; omega)
theorem named_val (s : ByteArray) (k : Nat) (hk : 40 < k) : word_Named.f k s = some (((place s.toList refs 1 : Nat) : Int), decide (0 < place s.toList refs 1)) := by
  unfold word_Named.f
  refine bindI nms_is ?_
  obtain ⟨k, rfl⟩ : ∃ m, k = m + 1 := ⟨k - 1, by omega⟩
  have hw := word_loop s refs 1 rfl (by decide) (by decide) k (by rw [refs_len]; omega)
  show word_Named.l0 (k + 1) s nms 37 0 = _
  rw [word_Named.l0, if_pos (by decide), if_pos (by decide), if_pos (show (0 : Int) < (nms.length : Int) by decide), show wrap64 (0 + 1) = ((1 : Nat) : Int) by unfold wrap64; omega]
  by_cases e : (rdOf ByteArray.empty nms 0).toList = s.toList
  · rw [if_pos e, if_neg (by decide)]; exact hw
  · rw [if_neg e]; exact hw
theorem refnamed_val (s : ByteArray) (k : Nat) (hk : 40 < k) : scarabref02_Named.f k s = some ((place s.toList refs 1 : Nat) : Int) := by
  unfold scarabref02_Named.f
  refine bindI refs_is ?_
  exact ref_loop s refs 0 rfl (by decide) k (by rw [refs_len]; omega)

theorem ref_arity (op : Int) (h0 : 1 ≤ op) (h1 : op ≤ 36) (k : Nat) (hk : 3 ≤ k) : ∃ n, scarabref02_Arity.f k op = some n ∧ n ≠ 0 := by
  obtain ⟨k, rfl⟩ : ∃ m, k = m + 3 := ⟨k - 3, by omega⟩
  unfold scarabref02_Arity.f
  have e1 : ¬ op < 1 := by omega
  have e2 : ¬ op > 36 := by omega
  by_cases h : op ≤ 15
  · exact ⟨1, by simp [scarabref02_Arity.j0, e1, e2, h], by decide⟩
  · exact ⟨2, by simp [scarabref02_Arity.j0, e1, e2, h], by decide⟩
theorem name_val (i : Nat) (h0 : 1 ≤ i) (h1 : i ≤ 36) (k : Nat) (hk : 5 ≤ k) : word_Name.f k i = some (refs.getD (i - 1) ByteArray.empty) ∧ scarabref02_Name.f k i = some (refs.getD (i - 1) ByteArray.empty) := by
  constructor
  · unfold word_Name.f
    obtain ⟨n, hn, hn0⟩ : ∃ n, word_Arity.f k i = some n ∧ n ≠ 0 := by
      by_cases h : i ≤ 15
      · exact ⟨1, arity1 i (by omega) (by omega) k (by omega), by decide⟩
      · exact ⟨2, arity2 i (by omega) (by omega) k (by omega), by decide⟩
    refine bindI hn ?_
    rw [if_neg hn0]
    refine bindI nms_is ?_
    have hl : nms.length = 37 := rfl
    rw [if_pos (by omega), if_pos (by omega), nms_refs]
    unfold rdOf
    obtain ⟨i, rfl⟩ : ∃ j, i = j + 1 := ⟨i - 1, by omega⟩
    rfl
  · unfold scarabref02_Name.f
    obtain ⟨n, hn, hn0⟩ := ref_arity i (by omega) (by omega) k (by omega)
    refine bindI hn ?_
    rw [if_neg hn0]
    refine bindI refs_is ?_
    have hl : refs.length = 36 := rfl
    have e : wrap64 ((i : Int) - 1) = ((i - 1 : Nat) : Int) := by unfold wrap64; omega
    rw [e, if_pos (by omega), if_pos (by omega)]
    rfl
theorem places : ∀ i : Fin 36, place (refs.getD i.val ByteArray.empty).toList refs 1 = i.val + 1 := by decide +kernel

theorem names_loop (d : Nat) : ∀ (i : Nat), 1 ≤ i → i + d = 37 → ∀ k, d + 50 < k → scarablaw02_WordNames.l0 k i = some true := by
  induction d with
  | zero =>
    intro i h1 h2 k hk
    obtain ⟨k, rfl⟩ : ∃ m, k = m + 1 := ⟨k - 1, by omega⟩
    rw [scarablaw02_WordNames.l0, if_neg (by omega)]
  | succ d ih =>
    intro i h1 h2 k hk
    obtain ⟨k, rfl⟩ : ∃ m, k = m + 1 := ⟨k - 1, by omega⟩
    obtain ⟨hn, hr⟩ := name_val i h1 (by omega) k (by omega)
    have hp := places ⟨i - 1, by omega⟩
    rw [show (⟨i - 1, by omega⟩ : Fin 36).val + 1 = i by simp; omega] at hp
    rw [scarablaw02_WordNames.l0, if_pos (by omega)]
    refine bindI hn ?_
    refine bindI (named_val _ k (by omega)) ?_
    rw [hp]
    dsimp only
    rw [if_pos rfl, if_pos (by simp; omega)]
    refine bindI hn ?_
    refine bindI hr ?_
    rw [if_pos rfl, show wrap64 ((i : Int) + 1) = ((i + 1 : Nat) : Int) by unfold wrap64; omega]
    exact ih (i + 1) (by omega) (by omega) k (by omega)

theorem WordNames : scarablaw02_WordNames.Pure := by
  intro s hs
  refine ⟨100, ?_⟩
  unfold scarablaw02_WordNames.f
  refine bindI (speaks 100 (by decide)) ?_
  rw [if_pos rfl]
  refine bindI (named_val s 100 (by decide)) ?_
  refine bindI (refnamed_val s 100 (by decide)) ?_
  dsimp only
  rw [if_pos rfl, show (decide (0 < place s.toList refs 1) != decide (((place s.toList refs 1 : Nat) : Int) > 0)) = false by
    rw [bne_eq_false_iff_eq, decide_eq_decide]; omega]
  rw [scarablaw02_WordNames.j0, if_neg (by decide)]
  exact names_loop 36 1 (by decide) rfl 99 (by decide)
end Go.Proofs.YtckfnbjjghdaoaaDoor.Pure
