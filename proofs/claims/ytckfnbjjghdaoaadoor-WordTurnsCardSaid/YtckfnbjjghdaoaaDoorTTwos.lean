/- Operations on two words: both ways come to the same. -/
import Derived.Test.YtckfnbjjghdaoaaDoorTOnes
import Derived.Test.YtckfnbjjghdaoaaDoorTWide
import Derived.Test.YtckfnbjjghdaoaaDoorT2
import Derived.Test.YtckfnbjjghdaoaaDoorT7
namespace Go.Proofs.YtckfnbjjghdaoaaDoor.Twos
open Go.RowKit Go.Proofs.YtckfnbjjghdaoaaDoor.T Go.Proofs.YtckfnbjjghdaoaaDoorW.PrintWords Go.Proofs.YtckfnbjjghdaoaaDoor.Bits Go.Proofs.YtckfnbjjghdaoaaDoor.Ops Go.Proofs.YtckfnbjjghdaoaaDoor.RefOps Go.Proofs.YtckfnbjjghdaoaaDoor.Ones

theorem upto_succ (v : Nat → Bool) (j : Nat) : upto v (j + 1) = upto v j ||| (if v j then 1#64 <<< j else 0#64) := rfl
theorem yes_b (b : Bool) : scarabref02_yes.f b = some (b2i b) := by cases b <;> rfl
theorem yes_w (b : Bool) : word_yes.f b = some (b2i b) := by cases b <;> rfl

/- Bit by bit. -/
def bop (op : Int) (x y : Bool) : Bool := if op = 21 then x && y else if op = 22 then x || y else if op = 23 then x != y else x && !y
theorem bits_loop (op a b : Int) (h0 : 21 ≤ op) (h1 : op ≤ 24) (d : Nat) : ∀ (j : Nat), j + d = 64 → ∀ k, d < k →
    scarabref02_bits.l0 k op a b (upto (fun i => bop op ((of a).getLsbD i) ((of b).getLsbD i)) j).toInt (j : Int) = some (upto (fun i => bop op ((of a).getLsbD i) ((of b).getLsbD i)) 64).toInt := by
  induction d with
  | zero =>
    intro j hj k hk
    obtain ⟨k, rfl⟩ : ∃ m, k = m + 1 := ⟨k - 1, by omega⟩
    obtain rfl : j = 64 := by omega
    rw [scarabref02_bits.l0, if_neg (by decide)]
  | succ d ih =>
    intro j hj k hk
    obtain ⟨k, rfl⟩ : ∃ m, k = m + 1 := ⟨k - 1, by omega⟩
    have e := ih (j + 1) (by omega) k (by omega)
    have e21 : ∀ x y : Bool, (wrap64 (b2i x + b2i y) == 2) = (x && y) := by decide +kernel
    have e22 : ∀ x y : Bool, (decide (wrap64 (b2i x + b2i y) > 0)) = (x || y) := by decide +kernel
    have e23 : ∀ x y : Bool, (wrap64 (b2i x + b2i y) == 1) = (x != y) := by decide +kernel
    have e24 : ∀ y : Bool, (b2i y == 0) = (!y) := by decide +kernel
    rw [scarabref02_bits.l0, if_pos (by omega), show wrap64 ((j : Int) + 1) = ((j + 1 : Nat) : Int) by unfold wrap64; omega]
    refine bindI (bit_b a j (by omega)) (bindI (bit_b b j (by omega)) ?_)
    rw [upto_succ _ j] at e
    have hcase : op = 21 ∨ op = 22 ∨ op = 23 ∨ op = 24 := by omega
    generalize hx : (of a).getLsbD j = x at e ⊢
    generalize hy : (of b).getLsbD j = y at e ⊢
    rcases hcase with rfl | rfl | rfl | rfl
    · rw [if_pos rfl, e21]
      exact bindI (yes_b _) (bindI (put_b _ j (by omega) _) e)
    · rw [if_neg (by decide), if_pos rfl, e22]
      exact bindI (yes_b _) (bindI (put_b _ j (by omega) _) e)
    · rw [if_neg (by decide), if_neg (by decide), if_pos rfl, e23]
      exact bindI (yes_b _) (bindI (put_b _ j (by omega) _) e)
    · rw [if_neg (by decide), if_neg (by decide), if_neg (by decide), if_pos rfl, e24]
      cases x
      · rw [if_neg (show ¬ b2i false = 1 by decide)]
        exact bindI (yes_b _) (bindI (put_b _ j (by omega) _) e)
      · rw [if_pos (show b2i true = 1 from rfl)]
        exact bindI (yes_b _) (bindI (put_b _ j (by omega) _) e)
theorem bits_val (op a b : Int) (h0 : 21 ≤ op) (h1 : op ≤ 24) (x : W) (hx : ∀ i, i < 64 → x.getLsbD i = bop op ((of a).getLsbD i) ((of b).getLsbD i)) (k : Nat) (hk : 64 < k) :
    scarabref02_bits.f k op a b = some x.toInt := by
  have := bits_loop op a b h0 h1 64 0 rfl k hk
  rw [upto_eq _ x hx] at this
  exact this

/- Shifts. -/
def sv (a : Int) (n : Int) (f : Bool) (i : Nat) : Bool := if 0 ≤ (i : Int) - n ∧ (i : Int) - n < 64 then (of a).getLsbD ((i : Int) - n).toNat else f
theorem shift_loop (a n : Int) (f : Bool) (hn : -64 ≤ n) (hn2 : n ≤ 64) (d : Nat) : ∀ (j : Nat), j + d = 64 → ∀ k, 2 * d < k →
    scarabref02_shifted.l0 k a n (b2i f) (upto (sv a n f) j).toInt (j : Int) = some (upto (sv a n f) 64).toInt := by
  induction d with
  | zero =>
    intro j hj k hk
    obtain ⟨k, rfl⟩ : ∃ m, k = m + 1 := ⟨k - 1, by omega⟩
    obtain rfl : j = 64 := by omega
    rw [scarabref02_shifted.l0, if_neg (by decide)]
  | succ d ih =>
    intro j hj k hk
    obtain ⟨k, rfl⟩ : ∃ m, k = m + 2 := ⟨k - 2, by omega⟩
    have e := ih (j + 1) (by omega) k (by omega)
    have w : wrap64 ((j : Int) - n) = (j : Int) - n := by unfold wrap64; omega
    have w1 : wrap64 ((j : Int) + 1) = ((j + 1 : Nat) : Int) := by unfold wrap64; omega
    have ej : ∀ b : Bool, b = decide (0 ≤ (j : Int) - n ∧ (j : Int) - n < 64) → scarabref02_shifted.j1 (k + 1) a n (b2i f) (upto (sv a n f) j).toInt (j : Int) (b2i f) b = some (upto (sv a n f) 64).toInt := by
      intro b hb
      rw [scarabref02_shifted.j1, w, w1]
      by_cases h : 0 ≤ (j : Int) - n ∧ (j : Int) - n < 64
      · rw [decide_eq_true h] at hb
        rw [if_pos hb]
        have hbit := bit_b a ((j : Int) - n).toNat (by omega)
        rw [Int.toNat_of_nonneg h.1] at hbit
        refine bindI hbit (bindI (put_b _ j (by omega) _) ?_)
        have : upto (sv a n f) (j + 1) = upto (sv a n f) j ||| (if (of a).getLsbD ((j : Int) - n).toNat then 1#64 <<< j else 0#64) := by
          rw [upto_succ]; simp only [sv, if_pos h]
        rw [← this]; exact e
      · rw [decide_eq_false h] at hb
        rw [hb, if_neg (by decide)]
        refine bindI (put_b _ j (by omega) _) ?_
        have : upto (sv a n f) (j + 1) = upto (sv a n f) j ||| (if f then 1#64 <<< j else 0#64) := by
          rw [upto_succ]; simp only [sv, if_neg h]
        rw [← this]; exact e
    rw [scarabref02_shifted.l0, if_pos (by omega), w]
    by_cases h : (j : Int) - n ≥ 0
    · rw [if_pos h]
      refine ej _ ?_
      rw [decide_eq_decide]; omega
    · rw [if_neg h]
      refine ej _ ?_
      rw [decide_eq_false (by omega)]
theorem shift_val (a n : Int) (f : Bool) (hn : -64 ≤ n) (hn2 : n ≤ 64) (x : W) (hx : ∀ i, i < 64 → x.getLsbD i = sv a n f i) (k : Nat) (hk : 128 < k) : scarabref02_shifted.f k a n (b2i f) = some x.toInt := by
  have := shift_loop a n f hn hn2 64 0 rfl k hk
  rw [upto_eq _ x hx] at this
  exact this

/- A word turned. -/
theorem rot_loop (a b : Int) (d : Nat) : ∀ (j : Nat), j + d = 64 → ∀ k, d < k →
    scarabref02_two.l0 k a b (upto (fun i => (of a).getLsbD ((((i : Int) - b) % 64).toNat)) j).toInt (j : Int) = some ((upto (fun i => (of a).getLsbD ((((i : Int) - b) % 64).toNat)) 64).toInt, 0) := by
  induction d with
  | zero =>
    intro j hj k hk
    obtain ⟨k, rfl⟩ : ∃ m, k = m + 1 := ⟨k - 1, by omega⟩
    obtain rfl : j = 64 := by omega
    rw [scarabref02_two.l0, if_neg (by decide)]
  | succ d ih =>
    intro j hj k hk
    obtain ⟨k, rfl⟩ : ∃ m, k = m + 1 := ⟨k - 1, by omega⟩
    have e := ih (j + 1) (by omega) k (by omega)
    have w1 : wrap64 ((j : Int) + 1) = ((j + 1 : Nat) : Int) := by unfold wrap64; omega
    have h1 : Int.tmod b 64 = b % 64 ∨ Int.tmod b 64 = b % 64 - 64 := by
      rw [Int.tmod_eq_emod]; split <;> omega
    have h2 : ∀ z : Int, Int.tmod z 64 = z % 64 ∨ Int.tmod z 64 = z % 64 - 64 := by
      intro z; rw [Int.tmod_eq_emod]; split <;> omega
    have w2 : wrap64 ((j : Int) - Int.tmod b 64) = (j : Int) - Int.tmod b 64 := by unfold wrap64; omega
    have h3 := h2 ((j : Int) - Int.tmod b 64)
    have w3 : wrap64 (Int.tmod ((j : Int) - Int.tmod b 64) 64 + 64) = Int.tmod ((j : Int) - Int.tmod b 64) 64 + 64 := by unfold wrap64; omega
    have w4 : Int.tmod (Int.tmod ((j : Int) - Int.tmod b 64) 64 + 64) 64 = ((((j : Int) - b) % 64).toNat : Int) := by
      rw [Int.tmod_eq_emod_of_nonneg (by omega)]; omega
    rw [scarabref02_two.l0, if_pos (by omega), w1, w2, w3, w4]
    refine bindI (bit_b a _ (by omega)) (bindI (put_b _ j (by omega) _) ?_)
    rw [upto_succ _ j] at e
    exact e
theorem rot_val (a b : Int) (x : W) (hx : ∀ i, i < 64 → x.getLsbD i = (of a).getLsbD ((((i : Int) - b) % 64).toNat)) (k : Nat) (hk : 64 < k) : scarabref02_two.l0 k a b 0 0 = some (x.toInt, 0) := by
  have := rot_loop a b 64 0 rfl k hk
  rw [upto_eq _ x hx] at this
  exact this
/-- The word turned by n to the left. -/
def rotw (x : W) (n : Nat) : W := (x <<< n) ||| (x >>> (64 - n))
theorem rotw_bit (x : W) (n : Nat) (hn : n < 64) (i : Nat) (hi : i < 64) : (rotw x n).getLsbD i = x.getLsbD ((((i : Int) - (n : Int)) % 64).toNat) := by
  unfold rotw
  rw [BitVec.getLsbD_or, BitVec.getLsbD_shiftLeft, BitVec.getLsbD_ushiftRight]
  by_cases h : i < n
  · rw [show (((i : Int) - (n : Int)) % 64).toNat = 64 - n + i by omega]
    simp [h]
  · rw [show (((i : Int) - (n : Int)) % 64).toNat = i - n by omega, BitVec.getLsbD_of_ge x (64 - n + i) (by omega)]
    simp [h, hi]
theorem and63 (b : Int) : Go.bits .and .i64 b 63 = b % 64 := by
  rw [and_i]
  have e : (of b &&& of 63).toNat = (of b).toNat % 64 := by
    rw [BitVec.toNat_and, show (of 63).toNat = 2 ^ 6 - 1 from rfl, Nat.and_two_pow_sub_one_eq_mod]
  have h := toNat_of_mod b
  rw [BitVec.toInt_eq_toNat_of_lt (by rw [e]; omega), e]
  omega
theorem rot64 (a b : Int) : bits_RotateLeft64.f (IntKind.u64.wrap a) (Go.bits .and .i64 b 63) = some ((rotw (of a) (b % 64).toNat).toNat : Int) := by
  unfold bits_RotateLeft64.f
  rw [and63, u64_id (n := b % 64) (by omega) (by omega)]
  have e : Go.bits .and .u64 (b % 64) 63 = b % 64 := by
    rw [and_u, BitVec.toNat_and, show (of 63).toNat = 2 ^ 6 - 1 from rfl, Nat.and_two_pow_sub_one_eq_mod]
    have h := toNat_of_mod (b % 64)
    omega
  rw [e, if_pos (by omega), u64_id (n := 64 - b % 64) (by omega) (by omega), if_pos (by omega), or_u, shl_u, u64_of, shr_u, of_toNat, of_toNat, of_toNat]
  unfold rotw
  rw [show (64 - b % 64).toNat = 64 - (b % 64).toNat by omega]

/-- What each operation on two words comes to, that neither divides nor shifts. -/
theorem two_both (op a b : Int) (ha : -9223372036854775808 ≤ a ∧ a < 9223372036854775808) (hb : -9223372036854775808 ≤ b ∧ b < 9223372036854775808) (h0 : 16 ≤ op) (h1 : op ≤ 36) (hd : op ≠ 19) (hr : op ≠ 20) (hs : op < 25 ∨ 27 < op) (k : Nat) (hk : 200 < k) :
    ∃ r, word_two.f op a b = some r ∧ scarabref02_two.f k op a b = some (r, 0) := by
  have ea := toInt_of ha.1 ha.2
  have eb := toInt_of hb.1 hb.2
  have hw := Wide.wide_val a b ha hb
  have hv := Wide.ref_val a b ha hb
  have hcase : op = 16 ∨ op = 17 ∨ op = 18 ∨ (21 ≤ op ∧ op ≤ 24) ∨ op = 28 ∨ op = 29 ∨ op = 30 ∨ op = 31 ∨ op = 32 ∨ op = 33 ∨ op = 34 ∨ op = 35 ∨ op = 36 := by omega
  have hj0 : 20 < op → ∀ x, scarabref02_two.j0 (k - 1) op a b op (op == 20) = x → scarabref02_two.f k op a b = x ∨ True := fun _ _ _ => .inr trivial
  -- the way down to the reference's last steps
  have down2 : 28 ≤ op → ∃ m, 190 < m ∧ scarabref02_two.f k op a b = scarabref02_two.j2 (m + 1) op a b op false := by
    intro h
    obtain ⟨m, rfl⟩ : ∃ m, k = m + 3 := ⟨k - 3, by omega⟩
    refine ⟨m, by omega, ?_⟩
    unfold scarabref02_two.f
    rw [if_neg (by omega), if_neg (by omega), if_neg (by omega), if_neg (by omega), show (op == 20) = false by simpa using hr, scarabref02_two.j0, if_neg (by decide), if_neg (by omega), if_neg (by omega), if_neg (by omega),
      show (op == 24) = false by simp; omega, scarabref02_two.j1, if_neg (by decide), if_neg (by omega), if_neg (by omega), show (op == 27) = false by simp; omega]
  rcases hcase with rfl | rfl | rfl | h | rfl | rfl | rfl | rfl | rfl | rfl | rfl | rfl | rfl
  · exact ⟨_, rfl, rfl⟩
  · exact ⟨_, rfl, rfl⟩
  · refine ⟨wrap64 (a * b), rfl, ?_⟩
    unfold scarabref02_two.f
    rw [if_neg (by decide), if_neg (by decide), if_pos rfl]
    refine bindI (hv k (by omega)) ?_
    have : wrap64 (a * b % 18446744073709551616) = wrap64 (a * b) := by unfold wrap64; omega
    dsimp only
    rw [this]
  · -- bit by bit
    have hlast : ∀ m, 190 < m → scarabref02_two.j1 (m + 1) op a b op true = (scarabref02_bits.f m op a b).bind fun t => some (t, 0) := by
      intro m _
      rw [scarabref02_two.j1, if_pos rfl]
    have href : ∃ m, 190 < m ∧ scarabref02_two.f k op a b = (scarabref02_bits.f m op a b).bind fun t => some (t, 0) := by
      obtain ⟨m, rfl⟩ : ∃ m, k = m + 2 := ⟨k - 2, by omega⟩
      refine ⟨m, by omega, ?_⟩
      rw [← hlast m (by omega)]
      unfold scarabref02_two.f
      rw [if_neg (by omega), if_neg (by omega), if_neg (by omega), if_neg (by omega), show (op == 20) = false by simpa using hr, scarabref02_two.j0, if_neg (by decide)]
      by_cases e : op = 21
      · subst e; rfl
      rw [if_neg e]
      by_cases e : op = 22
      · subst e; rfl
      rw [if_neg e]
      by_cases e : op = 23
      · subst e; rfl
      rw [if_neg e]
      obtain rfl : op = 24 := by omega
      rfl
    obtain ⟨m, hm, href⟩ := href
    have fin : ∀ x : W, (∀ i, i < 64 → x.getLsbD i = bop op ((of a).getLsbD i) ((of b).getLsbD i)) → scarabref02_two.f k op a b = some (x.toInt, 0) := by
      intro x hx
      rw [href]
      exact bindI (bits_val op a b h.1 h.2 x hx m (by omega)) rfl
    unfold word_two.f
    rw [if_neg (by omega), if_neg (by omega), if_neg (by omega)]
    by_cases e : op = 21
    · subst e
      refine ⟨_, rfl, ?_⟩
      rw [and_i]
      refine fin _ fun i hi => ?_
      rw [BitVec.getLsbD_and]; simp [bop]
    rw [if_neg e]
    by_cases e : op = 22
    · subst e
      refine ⟨_, rfl, ?_⟩
      rw [or_i]
      refine fin _ fun i hi => ?_
      rw [BitVec.getLsbD_or]; simp [bop]
    rw [if_neg e]
    by_cases e : op = 23
    · subst e
      refine ⟨_, rfl, ?_⟩
      rw [xor_i]
      refine fin _ fun i hi => ?_
      rw [BitVec.getLsbD_xor]; simp [bop]
    rw [if_neg e]
    obtain rfl : op = 24 := by omega
    refine ⟨_, rfl, ?_⟩
    rw [andNot_i]
    refine fin _ fun i hi => ?_
    rw [BitVec.getLsbD_and, BitVec.getLsbD_not]; simp [bop, hi]
  · -- turned
    obtain ⟨m, hm, e⟩ := down2 (by decide)
    refine ⟨(rotw (of a) (b % 64).toNat).toInt, ?_, ?_⟩
    · unfold word_two.f
      rw [if_neg (by decide), if_neg (by decide), if_neg (by decide), if_neg (by decide), if_neg (by decide), if_neg (by decide), if_neg (by decide), if_pos rfl]
      refine bindI (rot64 a b) ?_
      rw [wrap64_of, of_toNat]
    · rw [e, scarabref02_two.j2, if_neg (by decide), if_pos rfl]
      refine rot_val a b _ (fun i hi => ?_) m (by omega)
      rw [rotw_bit _ _ (by omega) i hi]
      congr 2; omega
  all_goals
    obtain ⟨m, hm, e⟩ := down2 (by decide)
    rw [e, scarabref02_two.j2, if_neg (by decide), if_neg (by decide)]
  · exact ⟨b2i (a == b), bindI (yes_w _) rfl, bindI (x := b2i (a == b)) (bindI (yes_b _) rfl) rfl⟩
  · exact ⟨b2i (a != b), bindI (yes_w _) rfl, bindI (x := b2i (a != b)) (bindI (yes_b _) rfl) rfl⟩
  · exact ⟨b2i (decide (a < b)), bindI (yes_w _) rfl, bindI (x := b2i (decide (a < b))) (bindI (yes_b _) rfl) rfl⟩
  · exact ⟨b2i (decide (a ≤ b)), bindI (yes_w _) rfl, bindI (x := b2i (decide (a ≤ b))) (bindI (yes_b _) rfl) rfl⟩
  · exact ⟨b2i (decide (IntKind.u64.wrap a < IntKind.u64.wrap b)), bindI (yes_w _) rfl, bindI (x := b2i (decide (IntKind.u64.wrap a < IntKind.u64.wrap b))) (bindI (yes_b _) rfl) rfl⟩
  · refine ⟨mn a b, rfl, bindI (x := mn a b) ?_ rfl⟩
    unfold scarabref02_held.f mn
    rw [if_neg (by decide), if_neg (by decide), if_neg (by decide), if_neg (by decide), if_neg (by decide), if_pos rfl]
    split <;> rfl
  · refine ⟨mx a b, rfl, bindI (x := mx a b) ?_ rfl⟩
    unfold scarabref02_held.f mx
    rw [if_neg (by decide), if_neg (by decide), if_neg (by decide), if_neg (by decide), if_neg (by decide), if_neg (by decide), if_pos rfl]
    by_cases h : a < b
    · rw [if_pos h, if_pos h]
    · rw [if_neg h, if_neg h]
  · refine ⟨a * b / 18446744073709551616, bindI hw rfl, bindI (x := a * b / 18446744073709551616) ?_ rfl⟩
    unfold scarabref02_held.f
    rw [if_neg (by decide), if_neg (by decide), if_neg (by decide), if_neg (by decide), if_neg (by decide), if_neg (by decide), if_neg (by decide)]
    exact bindI (hv m (by omega)) rfl

theorem shift_both (op a b : Int) (ha : -9223372036854775808 ≤ a ∧ a < 9223372036854775808) (hb : -9223372036854775808 ≤ b ∧ b < 9223372036854775808) (h0 : 25 ≤ op) (h1 : op ≤ 27) (k : Nat) (hk : 200 < k) :
    ∃ r e, word_shifted.f op a b = some (r, e) ∧ scarabref02_two.f k op a b = some (r, e) := by
  have down2 : ∃ m, 190 < m ∧ scarabref02_two.f k op a b = scarabref02_two.j2 (m + 1) op a b op true := by
    obtain ⟨m, rfl⟩ : ∃ m, k = m + 3 := ⟨k - 3, by omega⟩
    refine ⟨m, by omega, ?_⟩
    unfold scarabref02_two.f
    rw [if_neg (by omega), if_neg (by omega), if_neg (by omega), if_neg (by omega), show (op == 20) = false by simp; omega, scarabref02_two.j0, if_neg (by decide), if_neg (by omega), if_neg (by omega), if_neg (by omega),
      show (op == 24) = false by simp; omega, scarabref02_two.j1, if_neg (by decide)]
    by_cases e : op = 25
    · subst e; rfl
    rw [if_neg e]
    by_cases e : op = 26
    · subst e; rfl
    rw [if_neg e]
    obtain rfl : op = 27 := by omega
    rfl
  obtain ⟨m, hm, down⟩ := down2
  unfold word_shifted.f
  rw [down, scarabref02_two.j2, if_pos rfl]
  by_cases hneg : b < 0
  · rw [if_pos hneg, if_pos hneg]; exact ⟨_, _, rfl, rfl⟩
  rw [if_neg hneg, if_neg hneg, u64_id (n := b) (by omega) (by omega)]
  obtain ⟨n, rfl⟩ : ∃ n : Nat, b = (n : Int) := ⟨b.toNat, by omega⟩
  obtain ⟨c, hc, hf, hcn⟩ : ∃ c : Nat, c ≤ 64 ∧ scarabref02_few.f (n : Int) = some (c : Int) ∧ (c = n ∨ (64 < n ∧ c = 64)) := by
    unfold scarabref02_few.f
    by_cases h : (n : Int) > 64
    · rw [if_pos h]; exact ⟨64, by omega, rfl, .inr ⟨by omega, rfl⟩⟩
    · rw [if_neg h]; exact ⟨n, by omega, rfl, .inl rfl⟩
  by_cases e : op = 25
  · rw [if_pos e, if_pos e, if_pos (by omega)]
    refine ⟨_, _, rfl, bindI hf (bindI (x := shl .i64 a (n : Int)) ?_ rfl)⟩
    rw [shl_i, Int.toNat_natCast]
    refine shift_val a c false (by omega) (by omega) _ (fun i hi => ?_) m (by omega)
    rw [BitVec.getLsbD_shiftLeft]
    unfold sv
    by_cases h : i < c
    · rw [if_neg (by omega), show decide (i < n) = true by simp; omega]; simp
    · by_cases h2 : c = n
      · subst h2
        rw [if_pos (by omega), show ((i : Int) - (c : Int)).toNat = i - c by omega]; simp [hi, h]
      · omega
  rw [if_neg e, if_neg e]
  by_cases e : op = 26
  · rw [if_pos e, if_pos e, if_pos (by omega)]
    have ea := toInt_of ha.1 ha.2
    refine ⟨_, _, rfl, bindI hf (bindI (bit_b a 63 (by decide)) (bindI (x := shr .i64 a (n : Int)) ?_ rfl))⟩
    rw [show shr .i64 a (n : Int) = shr .i64 (of a).toInt (n : Int) by rw [ea], shr_i, Int.toNat_natCast, show wrap64 (-(c : Int)) = -(c : Int) by unfold wrap64; omega]
    refine shift_val a (-(c : Int)) _ (by omega) (by omega) _ (fun i hi => ?_) m (by omega)
    rw [BitVec.getLsbD_sshiftRight]
    unfold sv
    rw [BitVec.msb_eq_getLsbD_last]
    by_cases h : n + i < 64
    · rw [if_pos h, if_pos (by omega), show ((i : Int) - -(c : Int)).toNat = n + i by omega]; simp [hi]
    · rw [if_neg h, if_neg (by omega)]; simp [hi]
  · rw [if_neg e, if_neg e, if_pos (by omega)]
    refine ⟨_, _, rfl, bindI hf (bindI (x := wrap64 (shr .u64 (IntKind.u64.wrap a) (n : Int))) ?_ rfl)⟩
    rw [u64_of, shr_u, Int.toNat_natCast, wrap64_of (((of a >>> n).toNat : Nat) : Int), of_toNat, show wrap64 (-(c : Int)) = -(c : Int) by unfold wrap64; omega]
    refine shift_val a (-(c : Int)) false (by omega) (by omega) _ (fun i hi => ?_) m (by omega)
    rw [BitVec.getLsbD_ushiftRight]
    unfold sv
    by_cases h : n + i < 64
    · rw [if_pos (by omega), show ((i : Int) - -(c : Int)).toNat = n + i by omega]
    · rw [if_neg (by omega), BitVec.getLsbD_of_ge _ _ (by omega)]

theorem div_both (op a b : Int) (_ha : -9223372036854775808 ≤ a ∧ a < 9223372036854775808) (hb : -9223372036854775808 ≤ b ∧ b < 9223372036854775808) (h : op = 19 ∨ op = 20) (k k2 : Nat) (hk : 3 < k) (hk2 : 3 < k2) :
    ∃ r e, word_divided.f k2 op a b = some (r, e) ∧ scarabref02_two.f k op a b = some (r, e) := by
  obtain ⟨m, rfl⟩ : ∃ m, k = m + 1 := ⟨k - 1, by omega⟩
  obtain ⟨m2, rfl⟩ : ∃ m, k2 = m + 1 := ⟨k2 - 1, by omega⟩
  have down : scarabref02_two.f (m + 1) op a b = scarabref02_two.j0 (m + 1) op a b op true := by
    unfold scarabref02_two.f
    rcases h with rfl | rfl <;> rfl
  rw [down, scarabref02_two.j0, if_pos rfl]
  unfold word_divided.f
  by_cases h0 : b = 0
  · rw [if_pos h0, if_pos h0]; exact ⟨_, _, rfl, rfl⟩
  rw [if_neg h0, if_neg h0]
  by_cases h1 : b = -1
  · subst h1
    rw [if_pos rfl]
    rcases h with rfl | rfl
    · exact ⟨_, _, rfl, rfl⟩
    · refine ⟨0, 0, ?_, rfl⟩
      rw [if_neg (by decide), word_divided.j0, if_neg (by decide), if_neg (by decide), if_pos rfl]
  · rw [if_neg h1]
    have e1 : (b == -1) = false := by simpa using h1
    rcases h with rfl | rfl
    · refine ⟨wrap64 (Int.tdiv a b), 0, ?_, ?_⟩
      · rw [if_pos rfl, e1, word_divided.j0, if_neg (by decide), if_pos rfl, if_neg h0]
      · rw [if_pos rfl]
    · refine ⟨Int.tmod a b, 0, ?_, ?_⟩
      · rw [if_neg (by decide), word_divided.j0, if_neg (by decide), if_neg (by decide), if_neg h1, if_neg h0]
      · rw [if_neg (by decide)]
        have e2 : wrap64 (wrap64 (a.tdiv b) * b) = wrap64 (a.tdiv b * b) := by rw [wrap64_of, of_mul, of_wrap64, ← of_mul, ← wrap64_of]
        have e3 := Int.tdiv_mul_add_tmod a b
        have h2 := Int.natAbs_tmod a b
        have h3 : a.natAbs % b.natAbs ≤ a.natAbs := Nat.mod_le _ _
        have e4 : wrap64 (a - wrap64 (a.tdiv b * b)) = a.tmod b := by
          have hlt : a.natAbs % b.natAbs < b.natAbs := Nat.mod_lt _ (by omega)
          unfold wrap64; omega
        rw [e2, e4]

theorem ref_arity (op : Int) (k : Nat) (hk : 3 ≤ k) : scarabref02_Arity.f k op = some (if op < 1 ∨ op > 36 then 0 else if op ≤ 15 then 1 else 2) := by
  obtain ⟨m, rfl⟩ : ∃ m, k = m + 1 := ⟨k - 1, by omega⟩
  unfold scarabref02_Arity.f
  by_cases h : op < 1
  · rw [if_pos h, if_pos (.inl h), scarabref02_Arity.j0, if_pos rfl]
  · rw [if_neg h]
    by_cases h2 : op > 36
    · rw [if_pos (.inr h2), decide_eq_true h2, scarabref02_Arity.j0, if_pos rfl]
    · rw [if_neg (show ¬ (op < 1 ∨ op > 36) by omega), decide_eq_false h2, scarabref02_Arity.j0, if_neg (by decide)]
      by_cases h3 : op ≤ 15
      · rw [if_pos h3, if_pos h3]
      · rw [if_neg h3, if_neg h3]
/-- THE ONE LAW of every operation: both ways come to the same word and the same code. -/
theorem both (op a b : Int) (ha : -9223372036854775808 ≤ a ∧ a < 9223372036854775808) (hb : -9223372036854775808 ≤ b ∧ b < 9223372036854775808) (k : Nat) (hk : 300 < k) :
    ∃ r e, word_Apply.f k op a b = some (r, e) ∧ scarabref02_Apply.f k op a b = some (r, e) := by
  unfold scarabref02_Apply.f
  rw [ref_arity op k (by omega)]
  by_cases h : op < 1 ∨ op > 36
  · rw [if_pos h]
    exact ⟨0, 22, apply_none op a b (by omega) k (by omega), rfl⟩
  rw [if_neg h]
  by_cases h1 : op ≤ 15
  · rw [if_pos h1]
    obtain ⟨r, hr, ho⟩ := word_one_val op a ha (by omega) h1 k (by omega)
    obtain ⟨s, hs, hp⟩ := ref_one_val op a ha (by omega) h1 k (by omega)
    have e := isOne_one (by omega) ho hp
    subst e
    refine ⟨r, 0, ?_, bindI (show some (1 : Int) = some 1 from rfl) ?_⟩
    · rw [apply_one op a b (by omega) h1 k (by omega)]; exact bindI hr rfl
    · rw [if_neg (by decide), if_pos rfl]; exact bindI hs rfl
  rw [if_neg h1]
  have fin : ∀ r e, word_Apply.f k op a b = some (r, e) → scarabref02_two.f k op a b = some (r, e) → ∃ r e, word_Apply.f k op a b = some (r, e) ∧
      ((some (2 : Int)).bind fun t226 => (if t226 = 0 then (some (0, 22)) else (if t226 = 1 then ((scarabref02_one.f k op a).bind fun t227 => (some (t227, 0))) else ((scarabref02_two.f k op a b).bind fun bt228 => (some (bt228.1, bt228.2)))))) = some (r, e) := by
    intro r e h1 h2
    refine ⟨r, e, h1, bindI (show some (2 : Int) = some 2 from rfl) ?_⟩
    rw [if_neg (by decide), if_neg (by decide)]
    exact bindI h2 rfl
  by_cases hd : op = 19 ∨ op = 20
  · obtain ⟨r, e, h1, h2⟩ := div_both op a b ha hb hd k (k - 1) (by omega) (by omega)
    refine fin r e ?_ h2
    rw [apply_div op a b hd k (by omega)]
    exact bindI h1 rfl
  by_cases hs : 25 ≤ op ∧ op ≤ 27
  · obtain ⟨r, e, h1, h2⟩ := shift_both op a b ha hb hs.1 hs.2 k (by omega)
    refine fin r e ?_ h2
    rw [apply_shift op a b hs.1 hs.2 k (by omega)]
    exact bindI h1 rfl
  obtain ⟨r, h1, h2⟩ := two_both op a b ha hb (by omega) (by omega) (by omega) (by omega) (by omega) k (by omega)
  refine fin r 0 ?_ h2
  rw [apply_two op a b (by omega) (by omega) (by omega) (by omega) (by omega) k (by omega)]
  exact bindI h1 rfl
end Go.Proofs.YtckfnbjjghdaoaaDoor.Twos
