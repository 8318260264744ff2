/- THE PURE LAW of WordOver: what runs over is told as the reference tells it. No condition. -/
import Derived.Test.YtckfnbjjghdaoaaDoorTTwos
import Derived.Test.YtckfnbjjghdaoaaDoorT9
namespace Go.Proofs.YtckfnbjjghdaoaaDoor.Pure
open Go.RowKit Go.Proofs.YtckfnbjjghdaoaaDoor.T Go.Proofs.YtckfnbjjghdaoaaDoorW.PrintWords Go.Proofs.YtckfnbjjghdaoaaDoor.Bits Go.Proofs.YtckfnbjjghdaoaaDoor.Ops Go.Proofs.YtckfnbjjghdaoaaDoor.RefOps Go.Proofs.YtckfnbjjghdaoaaDoor.Pop Go.Proofs.YtckfnbjjghdaoaaDoor.Ones Go.Proofs.YtckfnbjjghdaoaaDoor.Twos
theorem few_val (n : Nat) : ∃ c : Nat, c ≤ 64 ∧ scarabref02_few.f (n : Int) = some (c : Int) ∧ (c = n ∨ (64 < n ∧ c = 64)) := by
  unfold scarabref02_few.f
  by_cases h : (n : Int) > 64
  · rw [if_pos h]; exact ⟨64, by omega, rfl, .inr ⟨by omega, rfl⟩⟩
  · rw [if_neg h]; exact ⟨n, by omega, rfl, .inl rfl⟩
theorem sar_val (a : Int) (ha : -9223372036854775808 ≤ a ∧ a < 9223372036854775808) (n c : Nat) (hc : c ≤ 64) (hcn : c = n ∨ (64 < n ∧ c = 64)) (m : Nat) (hm : 128 < m) :
    scarabref02_shifted.f m a (wrap64 (-(c : Int))) (b2i ((of a).getLsbD 63)) = some (shr .i64 a (n : Int)) := by
  have ea := toInt_of ha.1 ha.2
  rw [show shr .i64 a (n : Int) = shr .i64 (of a).toInt (n : Int) by rw [ea], shr_i, Int.toNat_natCast, show wrap64 (-(c : Int)) = -(c : Int) by unfold wrap64; omega]
  refine shift_val a (-(c : Int)) _ (by omega) (by omega) _ (fun i hi => ?_) m (by omega)
  rw [BitVec.getLsbD_sshiftRight]
  unfold sv
  rw [BitVec.msb_eq_getLsbD_last]
  by_cases h : n + i < 64
  · rw [if_pos h, if_pos (by omega), show ((i : Int) - -(c : Int)).toNat = n + i by omega]; simp [hi]
  · rw [if_neg h, if_neg (by omega)]; simp [hi]
theorem i64_of (x : W) : -9223372036854775808 ≤ x.toInt ∧ x.toInt < 9223372036854775808 := by
  have h1 := x.toInt_lt; have h2 := x.le_toInt
  simp only [Nat.reduceSub, Int.reducePow] at h1 h2
  omega
theorem apply25 (a : Int) (n : Nat) (hn : (n : Int) < 9223372036854775808) (k : Nat) (hk : 5 ≤ k) : word_Apply.f k 25 a (n : Int) = some (shl .i64 a (n : Int), 0) := by
  rw [apply_shift 25 a (n : Int) (by decide) (by decide) k hk]
  refine bindI (x := (shl .i64 a (n : Int), 0)) ?_ rfl
  unfold word_shifted.f
  rw [if_neg (by omega), if_pos rfl, u64_id (n := (n : Int)) (by omega) (by omega), if_pos (by omega)]
theorem apply25n (a b : Int) (hb : b < 0) (k : Nat) (hk : 5 ≤ k) : word_Apply.f k 25 a b = some (0, 21) := by
  rw [apply_shift 25 a b (by decide) (by decide) k hk]
  refine bindI (x := (0, 21)) ?_ rfl
  unfold word_shifted.f
  rw [if_pos hb]
theorem over_both (op a b : Int) (ha : -9223372036854775808 ≤ a ∧ a < 9223372036854775808) (hb : -9223372036854775808 ≤ b ∧ b < 9223372036854775808) (k : Nat) (hk : 400 < k) :
    ∃ o e, word_Over.f k op a b = some (o, e) ∧ scarabref02_Over.f k op a b = some (o, e) := by
  obtain ⟨r, e, h1, h2⟩ := both op a b ha hb k (by omega)
  obtain ⟨k, rfl⟩ : ∃ m, k = m + 1 := ⟨k - 1, by omega⟩
  have fin : ∀ o e, (if e = 0 then (if op = 1 then (word_Over.j0 (k + 1) a b r op (op == 1)) else (word_Over.j0 (k + 1) a b r op (op == 3))) else (some (false, e))) = some (o, e) →
      (if e = 0 then (if op = 1 then (scarabref02_Over.j0 (k + 1) a b r op (op == 1)) else (scarabref02_Over.j0 (k + 1) a b r op (op == 3))) else (some (false, e))) = some (o, e) → True := fun _ _ _ _ => trivial
  clear fin
  by_cases he : e = 0
  · subst he
    suffices h : ∃ o, (if op = 1 then (word_Over.j0 (k + 1) a b r op (op == 1)) else (word_Over.j0 (k + 1) a b r op (op == 3))) = some (o, (0 : Int)) ∧
        (if op = 1 then (scarabref02_Over.j0 (k + 1) a b r op (op == 1)) else (scarabref02_Over.j0 (k + 1) a b r op (op == 3))) = some (o, (0 : Int)) by
      obtain ⟨o, g1, g2⟩ := h
      refine ⟨o, 0, ?_, ?_⟩
      · unfold word_Over.f
        refine bindI h1 ?_
        rw [if_pos rfl]; exact g1
      · unfold scarabref02_Over.f
        refine bindI h2 ?_
        rw [if_pos rfl]; exact g2
    have same : (a == -9223372036854775808) = (if a = wrap64 (-a) then a != 0 else false) := by
      by_cases e1 : a = -9223372036854775808
      · subst e1; decide +kernel
      · rw [beq_eq_false_iff_ne.mpr e1]
        by_cases e2 : a = wrap64 (-a)
        · have : a = 0 := by unfold wrap64 at e2; omega
          subst this; decide +kernel
        · rw [if_neg e2]
    have half : (if a = wrap64 (-a) then (some ((a != 0), (0 : Int))) else (some (false, 0))) = some (a == -9223372036854775808, 0) := by
      rw [same]; split <;> rfl
    by_cases o1 : op = 1
    · subst o1
      refine ⟨a == -9223372036854775808, ?_, ?_⟩
      · rw [if_pos rfl, word_Over.j0, if_pos (show ((1 : Int) == 1) = true from rfl)]
      · rw [if_pos rfl, scarabref02_Over.j0, if_pos (show ((1 : Int) == 1) = true from rfl)]; exact half
    rw [if_neg o1, if_neg o1]
    by_cases o3 : op = 3
    · subst o3
      refine ⟨a == -9223372036854775808, ?_, ?_⟩
      · rw [word_Over.j0, if_pos (show ((3 : Int) == 3) = true from rfl)]
      · rw [scarabref02_Over.j0, if_pos (show ((3 : Int) == 3) = true from rfl)]; exact half
    rw [beq_eq_false_iff_ne.mpr o3, word_Over.j0, if_neg (show ¬ false = true by decide), scarabref02_Over.j0, if_neg (show ¬ false = true by decide)]
    by_cases o : op = 16
    · rw [if_pos o, if_pos o]
      refine ⟨_, rfl, ?_⟩
      congr 2
      by_cases g1 : b < 0 <;> by_cases g2 : r < a
      · rw [decide_eq_false (show ¬ b ≥ 0 by omega), decide_eq_false (show ¬ r ≥ a by omega), decide_eq_true g1, decide_eq_true g2] <;> rfl
      · rw [decide_eq_false (show ¬ b ≥ 0 by omega), decide_eq_true (show r ≥ a by omega), decide_eq_true g1, decide_eq_false g2] <;> rfl
      · rw [decide_eq_true (show b ≥ 0 by omega), decide_eq_false (show ¬ r ≥ a by omega), decide_eq_false g1, decide_eq_true g2] <;> rfl
      · rw [decide_eq_true (show b ≥ 0 by omega), decide_eq_true (show r ≥ a by omega), decide_eq_false g1, decide_eq_false g2] <;> rfl
    rw [if_neg o, if_neg o]
    by_cases o : op = 17
    · rw [if_pos o, if_pos o]
      refine ⟨_, rfl, ?_⟩
      congr 2
      by_cases g1 : b < 0 <;> by_cases g2 : r > a
      · rw [decide_eq_false (show ¬ b ≥ 0 by omega), decide_eq_false (show ¬ r ≤ a by omega), decide_eq_true g1, decide_eq_true g2] <;> rfl
      · rw [decide_eq_false (show ¬ b ≥ 0 by omega), decide_eq_true (show r ≤ a by omega), decide_eq_true g1, decide_eq_false g2] <;> rfl
      · rw [decide_eq_true (show b ≥ 0 by omega), decide_eq_false (show ¬ r ≤ a by omega), decide_eq_false g1, decide_eq_true g2] <;> rfl
      · rw [decide_eq_true (show b ≥ 0 by omega), decide_eq_true (show r ≤ a by omega), decide_eq_false g1, decide_eq_false g2] <;> rfl
    rw [if_neg o, if_neg o]
    by_cases o : op = 18
    · rw [if_pos o, if_pos o]
      exact ⟨_, bindI (Wide.wide_val a b ha hb) rfl, bindI (Wide.ref_val a b ha hb k (by omega)) rfl⟩
    rw [if_neg o, if_neg o]
    by_cases o : op = 19
    · rw [if_pos o, if_pos o]
      by_cases e1 : a = -9223372036854775808
      · rw [if_pos e1, if_pos (by subst e1; decide +kernel), if_neg (by omega)]
        exact ⟨_, rfl, rfl⟩
      · rw [if_neg e1]
        refine ⟨false, rfl, ?_⟩
        by_cases e2 : a = wrap64 (-a)
        · rw [if_pos e2, if_pos (by unfold wrap64 at e2; omega)]
        · rw [if_neg e2]
    rw [if_neg o, if_neg o]
    by_cases o : op = 25
    · rw [if_pos o, if_pos o]
      subst o
      by_cases hneg : b < 0
      · rw [apply25n a b hneg _ (by omega)] at h1; injection h1 with h1; injection h1 with _ h1; omega
      obtain ⟨n, rfl⟩ : ∃ n : Nat, b = (n : Int) := ⟨b.toNat, by omega⟩
      rw [apply25 a n hb.2 _ (by omega)] at h1
      injection h1 with h1
      injection h1 with hr _
      obtain ⟨c, hc, hf, hcn⟩ := few_val n
      have hrw : -9223372036854775808 ≤ r ∧ r < 9223372036854775808 := by rw [← hr, shl_i]; exact i64_of _
      have hs := sar_val r hrw n c hc hcn k (by omega)
      have href : ((scarabref02_few.f (n : Int)).bind fun t263 => ((scarabref02_bit.f r 63).bind fun t264 => ((scarabref02_shifted.f k r (wrap64 (-t263)) t264).bind fun t265 => (if t265 = a then (if (n : Int) > 63 then (some ((a != 0), (0 : Int))) else (some (false, 0))) else (some (true, 0))))))
          = (if shr .i64 r (n : Int) = a then (if (n : Int) > 63 then (some ((a != 0), (0 : Int))) else (some (false, 0))) else (some (true, 0))) :=
        bindI hf (bindI (bit_b r 63 (by decide)) (bindI hs rfl))
      rw [href]
      by_cases z : a = 0
      · rw [if_pos z]
        refine ⟨false, rfl, ?_⟩
        have hr0 : r = 0 := by
          rw [← hr, z, shl_i]
          simp [of]
        have : shr .i64 r (n : Int) = a := by
          rw [hr0, z]; unfold shr; exact Int.zero_ediv _
        rw [if_pos this, z]
        split <;> rfl
      · rw [if_neg z]
        by_cases big : (n : Int) > 63
        · rw [if_pos big]
          refine ⟨true, rfl, ?_⟩
          have hr0 : r = 0 := by
            rw [← hr, shl_i, BitVec.shiftLeft_eq_zero (by omega)]; rfl
          have : ¬ shr .i64 r (n : Int) = a := by
            rw [hr0]
            have : shr .i64 0 (n : Int) = 0 := by unfold shr; exact Int.zero_ediv _
            rw [this]; exact fun x => z x.symm
          rw [if_neg this]
        · rw [if_neg big, if_neg big, u64_id (n := (n : Int)) (by omega) (by omega), if_pos (by omega)]
          refine ⟨_, rfl, ?_⟩
          by_cases g : shr .i64 r (n : Int) = a
          · rw [if_pos g, g]; simp
          · rw [if_neg g]; simp [g]
    rw [if_neg o, if_neg o]
    exact ⟨false, rfl, rfl⟩
  · refine ⟨false, e, ?_, ?_⟩
    · unfold word_Over.f
      refine bindI h1 ?_
      rw [if_neg he]
    · unfold scarabref02_Over.f
      refine bindI h2 ?_
      rw [if_neg he]
theorem WordOver : scarablaw02_WordOver.Pure := by
  intro op a b _ wa wb
  have ha := wf_i64 wa
  have hb := wf_i64 wb
  refine ⟨500, ?_⟩
  obtain ⟨o, e, h1, h2⟩ := over_both op a b ha hb 500 (by decide)
  unfold scarablaw02_WordOver.f
  refine bindI h1 (bindI h2 (bindI (x := (true, 0)) ?_ (bindI (speaks 500 (by decide)) ?_)))
  · unfold word_Over.f
    refine bindI (apply1 (-9223372036854775808) 0 500 (by decide)) ?_
    rw [if_pos rfl, if_pos rfl, show (500 : Nat) = 499 + 1 from rfl, word_Over.j0, if_pos (show ((1 : Int) == 1) = true from rfl)]
    rfl
  · dsimp only
    rw [if_pos rfl, if_pos rfl, if_pos rfl, if_pos (by simp)]
    simp
end Go.Proofs.YtckfnbjjghdaoaaDoor.Pure
