/- THE PURE LAW of WordConverts: conversions stay, and a narrower one after a wider of its kind is the narrower. No condition. -/
import Derived.Test.YtckfnbjjghdaoaaDoorTTwos
import Derived.Test.YtckfnbjjghdaoaaDoorT3
namespace Go.Proofs.YtckfnbjjghdaoaaDoor.Pure
open Go.RowKit Go.Proofs.YtckfnbjjghdaoaaDoor.T Go.Proofs.YtckfnbjjghdaoaaDoorW.PrintWords Go.Proofs.YtckfnbjjghdaoaaDoor.Bits Go.Proofs.YtckfnbjjghdaoaaDoor.Ops Go.Proofs.YtckfnbjjghdaoaaDoor.RefOps Go.Proofs.YtckfnbjjghdaoaaDoor.Ones Go.Proofs.YtckfnbjjghdaoaaDoor.Twos
/-- The conversions, as numbers. -/
theorem conv_num (op a : Int) (h0 : 10 ≤ op) (h1 : op ≤ 15) : (op = 10 → conv op a = (a + 128) % 256 - 128) ∧ (op = 11 → conv op a = (a + 32768) % 65536 - 32768) ∧ (op = 12 → conv op a = (a + 2147483648) % 4294967296 - 2147483648) ∧
    (op = 13 → conv op a = a % 256) ∧ (op = 14 → conv op a = a % 65536) ∧ (op = 15 → conv op a = a % 4294967296) := by
  have s8 := wrap_s a 8 (by decide) (by decide)
  have s16 := wrap_s a 16 (by decide) (by decide)
  have s32 := wrap_s a 32 (by decide) (by decide)
  have u8 := wrap_u a 8 (by decide)
  have u16 := wrap_u a 16 (by decide)
  have u32 := wrap_u a 32 (by decide)
  simp only [Int.reducePow, Nat.reduceSub] at s8 s16 s32 u8 u16 u32
  refine ⟨?_, ?_, ?_, ?_, ?_, ?_⟩ <;> intro e <;> subst e
  · exact s8
  · exact s16
  · exact s32
  · exact u8
  · exact u16
  · exact u32
theorem conv_wf (op a : Int) (h0 : 10 ≤ op) (h1 : op ≤ 15) : -9223372036854775808 ≤ conv op a ∧ conv op a < 9223372036854775808 := by
  have h := conv_num op a h0 h1
  have hc : op = 10 ∨ op = 11 ∨ op = 12 ∨ op = 13 ∨ op = 14 ∨ op = 15 := by omega
  rcases hc with e | e | e | e | e | e
  · have := h.1 e; omega
  · have := h.2.1 e; omega
  · have := h.2.2.1 e; omega
  · have := h.2.2.2.1 e; omega
  · have := h.2.2.2.2.1 e; omega
  · have := h.2.2.2.2.2 e; omega
theorem c10 (a : Int) : conv 10 a = (a + 128) % 256 - 128 := (conv_num 10 a (by decide) (by decide)).1 rfl
theorem c11 (a : Int) : conv 11 a = (a + 32768) % 65536 - 32768 := (conv_num 11 a (by decide) (by decide)).2.1 rfl
theorem c12 (a : Int) : conv 12 a = (a + 2147483648) % 4294967296 - 2147483648 := (conv_num 12 a (by decide) (by decide)).2.2.1 rfl
theorem c13 (a : Int) : conv 13 a = a % 256 := (conv_num 13 a (by decide) (by decide)).2.2.2.1 rfl
theorem c14 (a : Int) : conv 14 a = a % 65536 := (conv_num 14 a (by decide) (by decide)).2.2.2.2.1 rfl
theorem c15 (a : Int) : conv 15 a = a % 4294967296 := (conv_num 15 a (by decide) (by decide)).2.2.2.2.2 rfl
theorem conv_conv (op q a : Int) (h0 : 10 ≤ op) (h1 : op ≤ 15) (h2 : 10 ≤ q) (h3 : q ≤ 15) (h : op ≤ q) (hk : (decide (op ≤ 12)) = (decide (q ≤ 12))) : conv op (conv q a) = conv op a ∧ conv q (conv op a) = conv op a := by
  have hc : op = 10 ∨ op = 11 ∨ op = 12 ∨ op = 13 ∨ op = 14 ∨ op = 15 := by clear hk; omega
  have hq : q = 10 ∨ q = 11 ∨ q = 12 ∨ q = 13 ∨ q = 14 ∨ q = 15 := by clear hk hc; omega
  rcases hc with rfl | rfl | rfl | rfl | rfl | rfl <;> rcases hq with rfl | rfl | rfl | rfl | rfl | rfl <;>
    first
    | exact absurd h (by decide)
    | exact absurd hk (by decide)
    | (clear h0 h1 h2 h3 h hk; constructor <;> simp only [c10, c11, c12, c13, c14, c15] <;> omega)
theorem apply_conv (op a b : Int) (h0 : 10 ≤ op) (h1 : op ≤ 15) (k : Nat) (hk : 5 ≤ k) : word_Apply.f k op a b = some (conv op a, 0) := by
  rw [apply_one op a b (by omega) h1 k hk]
  exact bindI (one_conv op a h0 h1 k) rfl
theorem fits_val (a op : Int) (h0 : 10 ≤ op) (h1 : op ≤ 15) (k : Nat) : word_Fits.f k a op = some (conv op a == a) := by
  unfold word_Fits.f
  rw [if_pos h0, if_pos h1]
  exact bindI (one_conv op a h0 h1 k) rfl
theorem WordConverts : scarablaw02_WordConverts.Pure := by
  intro a op q wa wo wq
  have ha := wf_i64 wa
  refine ⟨410, ?_⟩
  obtain ⟨r, e, h1, _⟩ := both op a 0 ha (by omega) 410 (by decide)
  unfold scarablaw02_WordConverts.f
  refine bindI (speaks 410 (by decide)) ?_
  rw [if_pos rfl]
  refine bindI h1 ?_
  dsimp only
  have j0t : scarablaw02_WordConverts.j0 410 a op q r e true = some true := by
    rw [show (410 : Nat) = 409 + 1 from rfl, scarablaw02_WordConverts.j0, if_pos rfl]
  by_cases h : op < 10
  · rw [if_pos h]; exact j0t
  rw [if_neg h]
  by_cases h2 : op > 15
  · rw [if_pos h2]; exact j0t
  rw [if_neg h2]
  by_cases h3 : q < 10
  · rw [if_pos h3]; exact j0t
  rw [if_neg h3]
  by_cases h4 : q > 15
  · rw [decide_eq_true h4]; exact j0t
  rw [decide_eq_false h4]
  have o0 : 10 ≤ op := by omega
  have o1 : op ≤ 15 := by omega
  have q0 : 10 ≤ q := by omega
  have q1 : q ≤ 15 := by omega
  rw [apply_conv op a 0 o0 o1 410 (by decide)] at h1
  injection h1 with h1
  injection h1 with hr he
  subst hr; subst he
  have idem := (conv_conv op op a o0 o1 o0 o1 (by omega) rfl).1
  rw [show (410 : Nat) = 409 + 1 from rfl, scarablaw02_WordConverts.j0, if_neg (by decide)]
  refine bindI (apply_conv op _ 0 o0 o1 409 (by decide)) ?_
  rw [if_pos rfl, if_pos rfl, if_pos idem]
  refine bindI (fits_val _ op o0 o1 409) ?_
  rw [if_pos (by simp [idem])]
  refine bindI (fits_val _ op o0 o1 409) ?_
  have ef : ((conv op a == a) != (a == conv op a)) = false := by
    by_cases e : conv op a = a
    · rw [e]; simp
    · have e' : ¬ a = conv op a := fun x => e x.symm
      rw [beq_eq_false_iff_ne.mpr e, beq_eq_false_iff_ne.mpr e']; rfl
  rw [ef, show (409 : Nat) = 408 + 1 from rfl, scarablaw02_WordConverts.j1, if_neg (by decide)]
  have j2f : scarablaw02_WordConverts.j2 408 a op q (conv op a) false = some true := by
    rw [show (408 : Nat) = 407 + 1 from rfl, scarablaw02_WordConverts.j2, if_neg (by decide)]
  by_cases hle : op ≤ q
  · rw [if_pos hle]
    by_cases hk : (decide (op ≤ 12)) = (decide (q ≤ 12))
    · have hc := conv_conv op q a o0 o1 q0 q1 hle hk
      rw [show ((decide (op ≤ 12)) == (decide (q ≤ 12))) = true by simpa using hk, show (408 : Nat) = 407 + 1 from rfl, scarablaw02_WordConverts.j2, if_pos rfl]
      refine bindI (apply_conv q _ 0 q0 q1 407 (by decide)) (bindI (apply_conv op _ 0 o0 o1 407 (by decide)) ?_)
      rw [if_pos rfl, if_pos rfl, if_pos hc.1]
      refine bindI (fits_val _ q q0 q1 407) ?_
      rw [hc.2]; simp
    · rw [show ((decide (op ≤ 12)) == (decide (q ≤ 12))) = false by simpa using hk]
      exact j2f
  · rw [if_neg hle]; exact j2f
end Go.Proofs.YtckfnbjjghdaoaaDoor.Pure
