/- The words' operations as the walk computes them, at the operations that the statements name: what each comes to. -/
import Derived.Test.YtckfnbjjghdaoaaDoorBits
import Derived.Test.YtckfnbjjghdaoaaDoorQ3
namespace Go.Proofs.YtckfnbjjghdaoaaDoor.Ops
open Go.RowKit Go.Proofs.YtckfnbjjghdaoaaDoorW.PrintWords Go.Proofs.YtckfnbjjghdaoaaDoor.Bits Go.Proofs.YtckfnbjjghdaoaaDoor.Q

theorem arity2 (op : Int) (h0 : 15 < op) (h1 : op ≤ 36) (k : Nat) (hk : 3 ≤ k) : word_Arity.f k op = some 2 := by
  obtain ⟨m, rfl⟩ : ∃ m, k = m + 3 := ⟨k - 3, by omega⟩
  have e : ¬ op ≤ 15 := by omega
  simp [word_Arity.f, word_Arity.j0, show op ≥ 1 by omega, e, h0, h1]
theorem arity1 (op : Int) (h0 : 1 ≤ op) (h1 : op ≤ 15) (k : Nat) (hk : 3 ≤ k) : word_Arity.f k op = some 1 := by
  obtain ⟨m, rfl⟩ : ∃ m, k = m + 3 := ⟨k - 3, by omega⟩
  simp [word_Arity.f, word_Arity.j0, show op ≥ 1 by omega, h1]
theorem arity0 (op : Int) (h : op < 1 ∨ 36 < op) (k : Nat) (hk : 3 ≤ k) : word_Arity.f k op = some 0 := by
  obtain ⟨m, rfl⟩ : ∃ m, k = m + 3 := ⟨k - 3, by omega⟩
  rcases h with h | h
  · have e : ¬ op ≥ 1 := by omega
    have e2 : ¬ op > 15 := by omega
    simp [word_Arity.f, word_Arity.j0, e, e2]
  · have e : op ≥ 1 := by omega
    have e1 : ¬ op ≤ 15 := by omega
    have e2 : ¬ op ≤ 36 := by omega
    simp [word_Arity.f, word_Arity.j0, e, e1, e2]

theorem apply_two (op a b : Int) (h0 : 15 < op) (h1 : op ≤ 36) (hd : op ≠ 19) (hr : op ≠ 20) (hs : op < 25 ∨ 27 < op) (k : Nat) (hk : 5 ≤ k) :
    word_Apply.f k op a b = (word_two.f op a b).bind fun t => some (t, 0) := by
  obtain ⟨m, rfl⟩ : ∃ m, k = m + 5 := ⟨k - 5, by omega⟩
  unfold word_Apply.f
  rw [arity2 op h0 h1 _ (by omega)]
  simp only [Option.bind_some]
  rw [if_neg (by decide), if_neg (by decide), if_neg hd]
  have e20 : (op == 20) = false := by simpa using hr
  rw [e20]
  simp only [word_Apply.j0]
  rw [if_neg (by decide)]
  by_cases h : op ≥ 25
  · rw [if_pos h, decide_eq_false (by omega)]
    simp only [word_Apply.j1]
    rw [if_neg (by decide)]
  · rw [if_neg h]
    simp only [word_Apply.j1]
    rw [if_neg (by decide)]
theorem apply_one (op a b : Int) (h0 : 1 ≤ op) (h1 : op ≤ 15) (k : Nat) (hk : 5 ≤ k) :
    word_Apply.f k op a b = (word_one.f k op a).bind fun t => some (t, 0) := by
  unfold word_Apply.f
  rw [arity1 op h0 h1 _ (by omega)]
  simp only [Option.bind_some]
  rw [if_neg (by decide), if_pos trivial]
theorem apply_none (op a b : Int) (h : op < 1 ∨ 36 < op) (k : Nat) (hk : 5 ≤ k) : word_Apply.f k op a b = some (0, 22) := by
  unfold word_Apply.f
  rw [arity0 op h _ (by omega)]
  rfl
theorem apply_div (op a b : Int) (h : op = 19 ∨ op = 20) (k : Nat) (hk : 5 ≤ k) :
    word_Apply.f k op a b = (word_divided.f (k - 1) op a b).bind fun t => some (t.1, t.2) := by
  obtain ⟨m, rfl⟩ : ∃ m, k = m + 5 := ⟨k - 5, by omega⟩
  unfold word_Apply.f
  rw [arity2 op (by omega) (by omega) _ (by omega)]
  simp only [Option.bind_some]
  rw [if_neg (by decide), if_neg (by decide)]
  rcases h with rfl | rfl
  · rw [if_pos rfl]; simp [word_Apply.j0]
  · simp [word_Apply.j0]
theorem apply_shift (op a b : Int) (h0 : 25 ≤ op) (h1 : op ≤ 27) (k : Nat) (hk : 5 ≤ k) :
    word_Apply.f k op a b = (word_shifted.f op a b).bind fun t => some (t.1, t.2) := by
  obtain ⟨m, rfl⟩ : ∃ m, k = m + 5 := ⟨k - 5, by omega⟩
  unfold word_Apply.f
  rw [arity2 op (by omega) (by omega) _ (by omega)]
  simp only [Option.bind_some]
  rw [if_neg (by decide), if_neg (by decide), if_neg (by omega)]
  have e20 : (op == 20) = false := by simp; omega
  rw [e20]
  simp only [word_Apply.j0]
  rw [if_neg (by decide), if_pos (by omega), decide_eq_true (by omega)]
  simp only [word_Apply.j1]
  rw [if_pos trivial]

theorem apply16 (a b : Int) (k : Nat) (hk : 5 ≤ k) : word_Apply.f k 16 a b = some (wrap64 (a + b), 0) := by
  rw [apply_two 16 a b (by decide) (by decide) (by decide) (by decide) (by decide) k hk]; simp [word_two.f]
theorem apply17 (a b : Int) (k : Nat) (hk : 5 ≤ k) : word_Apply.f k 17 a b = some (wrap64 (a - b), 0) := by
  rw [apply_two 17 a b (by decide) (by decide) (by decide) (by decide) (by decide) k hk]; simp [word_two.f]
theorem apply18 (a b : Int) (k : Nat) (hk : 5 ≤ k) : word_Apply.f k 18 a b = some (wrap64 (a * b), 0) := by
  rw [apply_two 18 a b (by decide) (by decide) (by decide) (by decide) (by decide) k hk]; simp [word_two.f]
theorem apply1 (a b : Int) (k : Nat) (hk : 5 ≤ k) : word_Apply.f k 1 a b = some (wrap64 (-a), 0) := by
  obtain ⟨m, rfl⟩ : ∃ m, k = m + 5 := ⟨k - 5, by omega⟩
  rw [apply_one 1 a b (by decide) (by decide) _ hk]; simp [word_one.f]
theorem div0 (op a : Int) (h : op = 19 ∨ op = 20) (k : Nat) (hk : 5 ≤ k) : word_Apply.f k op a 0 = some (0, 20) := by
  rw [apply_div op a 0 h k hk]; simp [word_divided.f]
theorem div19 (a b : Int) (hb : b ≠ 0) (k : Nat) (hk : 5 ≤ k) : word_Apply.f k 19 a b = some (if b = -1 then wrap64 (-a) else wrap64 (Int.tdiv a b), 0) := by
  obtain ⟨m, rfl⟩ : ∃ m, k = m + 5 := ⟨k - 5, by omega⟩
  rw [apply_div 19 a b (.inl rfl) _ hk]
  by_cases h : b = -1
  · subst h; simp [word_divided.f, word_divided.j0]
  · have e : (b == -1) = false := by simpa using h
    simp [word_divided.f, word_divided.j0, hb, e, h]
theorem div20 (a b : Int) (hb : b ≠ 0) (k : Nat) (hk : 5 ≤ k) : word_Apply.f k 20 a b = some (if b = -1 then 0 else Int.tmod a b, 0) := by
  obtain ⟨m, rfl⟩ : ∃ m, k = m + 5 := ⟨k - 5, by omega⟩
  rw [apply_div 20 a b (.inr rfl) _ hk]
  by_cases h : b = -1
  · subst h; simp [word_divided.f, word_divided.j0]
  · simp [word_divided.f, word_divided.j0, hb, h]

theorem did16 (a b : Int) (k : Nat) (hk : 5 ≤ k) : scarablaw02_did.f k 16 a b = some (wrap64 (a + b), true) := by unfold scarablaw02_did.f; rw [apply16 a b k hk]; rfl
theorem did17 (a b : Int) (k : Nat) (hk : 5 ≤ k) : scarablaw02_did.f k 17 a b = some (wrap64 (a - b), true) := by unfold scarablaw02_did.f; rw [apply17 a b k hk]; rfl
theorem did18 (a b : Int) (k : Nat) (hk : 5 ≤ k) : scarablaw02_did.f k 18 a b = some (wrap64 (a * b), true) := by unfold scarablaw02_did.f; rw [apply18 a b k hk]; rfl
theorem did1 (a b : Int) (k : Nat) (hk : 5 ≤ k) : scarablaw02_did.f k 1 a b = some (wrap64 (-a), true) := by unfold scarablaw02_did.f; rw [apply1 a b k hk]; rfl
theorem speaks (k : Nat) (hk : 5 ≤ k) : scarablaw02_speaks.f k = some true := by
  unfold scarablaw02_speaks.f
  rw [apply16 2 3 k hk, div0 19 7 (.inl rfl) k hk, show wrap64 (2 + 3) = 5 by unfold wrap64; omega]
  rfl
end Go.Proofs.YtckfnbjjghdaoaaDoor.Ops
