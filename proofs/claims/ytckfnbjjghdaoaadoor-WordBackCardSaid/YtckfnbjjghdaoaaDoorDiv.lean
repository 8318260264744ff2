/- The library's division of two words by one comes to the quotient and the rest. -/
import Derived.Test.YtckfnbjjghdaoaaDoorLen
import Derived.Test.YtckfnbjjghdaoaaDoorKnuth
import Derived.Test.YtckfnbjjghdaoaaDoorQ12
namespace Go.Proofs.YtckfnbjjghdaoaaDoor.Div
open Go.RowKit Go.Proofs.YtckfnbjjghdaoaaDoor.Q Go.Proofs.YtckfnbjjghdaoaaDoorW.PrintWords Go.Proofs.YtckfnbjjghdaoaaDoor.Bits Go.Proofs.YtckfnbjjghdaoaaDoor.Len Go.Proofs.YtckfnbjjghdaoaaDoor.Knuth

theorem u64_mod (n : Int) : IntKind.u64.wrap n = n % 18446744073709551616 := by
  simp [IntKind.wrap, IntKind.bits, IntKind.signed]
theorem rest (u d Q Y R : Nat) (h : u * 4294967296 + d = Q * Y + R) (hR : R < 18446744073709551616) :
    IntKind.u64.wrap (IntKind.u64.wrap (IntKind.u64.wrap ((u : Int) * 4294967296) + (d : Int)) - IntKind.u64.wrap ((Q : Int) * (Y : Int))) = (R : Int) := by
  rw [← Int.natCast_mul, u64_mod, u64_mod, u64_mod, u64_mod]
  generalize Q * Y = B at *
  omega
theorem tdiv_n (a b : Nat) (ha : a < 18446744073709551616) : IntKind.u64.wrap (Int.tdiv (a : Int) (b : Int)) = ((a / b : Nat) : Int) := by
  have h : a / b ≤ a := Nat.div_le_self _ _
  rw [Int.tdiv_eq_ediv_of_nonneg (by omega), ← Int.natCast_ediv]
  generalize a / b = c at *
  rw [u64_id (by omega) (by omega)]
theorem split_n (a b : Nat) (ha : a < 18446744073709551616) : IntKind.u64.wrap ((a : Int) - IntKind.u64.wrap (((a / b : Nat) : Int) * (b : Int))) = ((a % b : Nat) : Int) := by
  have h := Nat.div_add_mod a b
  rw [Nat.mul_comm] at h
  rw [← Int.natCast_mul]
  generalize a / b * b = c at *
  rw [u64_id (n := (c : Int)) (by omega) (by omega), u64_id (by omega) (by omega)]
  omega
theorem cond (q n0 r d : Nat) (hq : q ≤ 4294967297) (hn0 : n0 < 4294967296) (hr : r < 4294967296) (hd : d < 4294967296) :
    decide (IntKind.u64.wrap ((q : Int) * (n0 : Int)) > IntKind.u64.wrap (IntKind.u64.wrap (4294967296 * (r : Int)) + (d : Int))) = decide (4294967296 * r + d < q * n0) := by
  have h1 : q * n0 ≤ 4294967297 * 4294967295 := Nat.mul_le_mul hq (by omega)
  rw [← Int.natCast_mul]
  generalize q * n0 = c at *
  rw [u64_id (n := (c : Int)) (by omega) (by omega), u64_id (n := 4294967296 * (r : Int)) (by omega) (by omega), u64_id (by omega) (by omega), decide_eq_decide]
  omega

theorem loop1 (Y n1 n0 u d s : Nat) (q1 : Int) (hY : Y = n1 * 4294967296 + n0) (hY2 : Y < 18446744073709551616) (hn1 : 2147483648 ≤ n1) (hn0 : n0 < 4294967296) (hd : d < 4294967296) (hu : u < Y) (m : Nat) :
    ∀ (q r : Nat), q * n1 + r = u → r < 4294967296 → q ≤ 4294967297 → (u * 4294967296 + d) / Y ≤ q → 4294967296 ≤ r + m * n1 → ∀ k, 2 * m + 2 < k →
    bits_Div64.l1 k (Y : Int) (s : Int) (n1 : Int) (n0 : Int) (d : Int) q1 (r : Int) (u : Int) (q : Int) =
      some (IntKind.u64.wrap (IntKind.u64.wrap (q1 * 4294967296) + (((u * 4294967296 + d) / Y : Nat) : Int)), shr .u64 (((u * 4294967296 + d) % Y : Nat) : Int) (s : Int)) := by
  have hY0 : 0 < Y := by omega
  have hfin : ∀ q : Nat, (u * 4294967296 + d) / Y = q → (IntKind.u64.wrap (IntKind.u64.wrap (IntKind.u64.wrap ((u : Int) * 4294967296) + (d : Int)) - IntKind.u64.wrap ((q : Int) * (Y : Int)))) = (((u * 4294967296 + d) % Y : Nat) : Int) := by
    intro q hq
    have h1 := Nat.div_add_mod (u * 4294967296 + d) Y
    have h2 := Nat.mod_lt (u * 4294967296 + d) hY0
    rw [hq, Nat.mul_comm] at h1
    exact rest u d q Y _ h1.symm (by omega)
  induction m with
  | zero => intro q r _ hr _ _ hm; omega
  | succ m ih =>
    intro q r hq hr hq2 hlow hm k hk
    obtain ⟨k, rfl⟩ : ∃ j, k = j + 2 := ⟨k - 2, by omega⟩
    -- a step down
    have down : (4294967296 ≤ q ∨ 4294967296 * r + d < q * n0) → bits_Div64.j4 (k + 1) (Y : Int) (s : Int) (n1 : Int) (n0 : Int) (d : Int) q1 (r : Int) (u : Int) (q : Int) true =
        some (IntKind.u64.wrap (IntKind.u64.wrap (q1 * 4294967296) + (((u * 4294967296 + d) / Y : Nat) : Int)), shr .u64 (((u * 4294967296 + d) % Y : Nat) : Int) (s : Int)) := by
      intro h
      have hlt := Knuth.step u d n1 n0 q r Y hY hY0 hd hu hq h
      have hq0 : 0 < q := Nat.lt_of_le_of_lt (Nat.zero_le _) hlt
      obtain ⟨q', rfl⟩ : ∃ j, q = j + 1 := ⟨q - 1, by omega⟩
      have hq' : q' * n1 + (r + n1) = u := by rw [Nat.add_mul, Nat.one_mul] at hq; omega
      have w1 : IntKind.u64.wrap ((r : Int) + (n1 : Int)) = ((r + n1 : Nat) : Int) := by rw [u64_id (by omega) (by omega)]; omega
      have w2 : IntKind.u64.wrap (((q' + 1 : Nat) : Int) - 1) = (q' : Int) := by rw [u64_id (by omega) (by omega)]; omega
      rw [bits_Div64.j4, if_pos rfl, w1, w2]
      by_cases hb : 4294967296 ≤ r + n1
      · rw [if_pos (by omega), if_pos (by omega)]
        have hl := Knuth.last u d n1 n0 q' (r + n1) Y hY hY0 hq' (by omega) (small q' n0 (r + n1) d (by omega) hn0 hb)
        rw [hfin q' hl, hl]
      · rw [if_neg (by omega)]
        exact ih q' (r + n1) hq' (by omega) (by omega) (by omega) (by rw [Nat.add_mul, Nat.one_mul] at hm; omega) k (by omega)
    rw [bits_Div64.l1]
    by_cases h1 : 4294967296 ≤ q
    · rw [if_pos (by omega)]; exact down (.inl h1)
    · rw [if_neg (by omega), cond q n0 r d hq2 hn0 hr hd]
      by_cases h2 : 4294967296 * r + d < q * n0
      · rw [decide_eq_true h2]; exact down (.inr h2)
      · rw [decide_eq_false h2, bits_Div64.j4, if_neg (by decide), if_pos (by omega)]
        have hl := Knuth.last u d n1 n0 q r Y hY hY0 hq hlow (by omega)
        rw [hfin q hl, hl]

theorem loop0 (Y n1 n0 u d un0 s : Nat) (hY : Y = n1 * 4294967296 + n0) (hY2 : Y < 18446744073709551616) (hn1 : 2147483648 ≤ n1) (hn0 : n0 < 4294967296) (hd : d < 4294967296) (h0 : un0 < 4294967296) (hu : u < Y) (m : Nat) :
    ∀ (q r : Nat), q * n1 + r = u → r < 4294967296 → q ≤ 4294967297 → (u * 4294967296 + d) / Y ≤ q → 4294967296 ≤ r + m * n1 → ∀ k, 2 * m + 20 < k →
    bits_Div64.l0 k (Y : Int) (s : Int) (n1 : Int) (n0 : Int) (u : Int) (d : Int) (un0 : Int) (q : Int) (r : Int) =
      some (IntKind.u64.wrap (IntKind.u64.wrap ((((u * 4294967296 + d) / Y : Nat) : Int) * 4294967296) + ((((u * 4294967296 + d) % Y * 4294967296 + un0) / Y : Nat) : Int)), shr .u64 ((((u * 4294967296 + d) % Y * 4294967296 + un0) % Y : Nat) : Int) (s : Int)) := by
  have hY0 : 0 < Y := by omega
  -- the second digit
  have next : ∀ q : Nat, (u * 4294967296 + d) / Y = q → ∀ k, 18 < k → bits_Div64.j2 k (Y : Int) (s : Int) (n1 : Int) (n0 : Int) (u : Int) (d : Int) (un0 : Int) (q : Int) =
      some (IntKind.u64.wrap (IntKind.u64.wrap ((((u * 4294967296 + d) / Y : Nat) : Int) * 4294967296) + ((((u * 4294967296 + d) % Y * 4294967296 + un0) / Y : Nat) : Int)), shr .u64 ((((u * 4294967296 + d) % Y * 4294967296 + un0) % Y : Nat) : Int) (s : Int)) := by
    intro q hq k hk
    obtain ⟨k, rfl⟩ : ∃ j, k = j + 1 := ⟨k - 1, by omega⟩
    have h1 := Nat.div_add_mod (u * 4294967296 + d) Y
    have h2 := Nat.mod_lt (u * 4294967296 + d) hY0
    rw [hq, Nat.mul_comm] at h1
    have hr := rest u d q Y _ h1.symm (by omega)
    rw [bits_Div64.j2, if_neg (by omega), hr, hq]
    obtain ⟨v, hv⟩ : ∃ v, (u * 4294967296 + d) % Y = v := ⟨_, rfl⟩
    rw [hv] at h2 ⊢
    clear h1 hr hv
    rw [tdiv_n v n1 (by omega), split_n v n1 (by omega)]
    have hm := Nat.mod_lt v (show 0 < n1 by omega)
    have hn : n1 < 4294967296 := by omega
    refine loop1 Y n1 n0 v un0 s (q : Int) hY hY2 hn1 hn0 h0 h2 2 (v / n1) (v % n1) ?_ (by omega) (top v n1 n0 Y hn1 hn0 hY h2) (first v un0 n1 n0 Y (by omega) h0 hY) (by omega) k (by omega)
    rw [Nat.mul_comm]; exact Nat.div_add_mod v n1
  induction m with
  | zero => intro q r _ hr _ _ hm; omega
  | succ m ih =>
    intro q r hq hr hq2 hlow hm k hk
    obtain ⟨k, rfl⟩ : ∃ j, k = j + 2 := ⟨k - 2, by omega⟩
    have down : (4294967296 ≤ q ∨ 4294967296 * r + d < q * n0) → bits_Div64.j1 (k + 1) (Y : Int) (s : Int) (n1 : Int) (n0 : Int) (u : Int) (d : Int) (un0 : Int) (q : Int) (r : Int) true =
        some (IntKind.u64.wrap (IntKind.u64.wrap ((((u * 4294967296 + d) / Y : Nat) : Int) * 4294967296) + ((((u * 4294967296 + d) % Y * 4294967296 + un0) / Y : Nat) : Int)), shr .u64 ((((u * 4294967296 + d) % Y * 4294967296 + un0) % Y : Nat) : Int) (s : Int)) := by
      intro h
      have hlt := Knuth.step u d n1 n0 q r Y hY hY0 hd hu hq h
      have hq0 : 0 < q := Nat.lt_of_le_of_lt (Nat.zero_le _) hlt
      obtain ⟨q', rfl⟩ : ∃ j, q = j + 1 := ⟨q - 1, by omega⟩
      have hq' : q' * n1 + (r + n1) = u := by rw [Nat.add_mul, Nat.one_mul] at hq; omega
      have w1 : IntKind.u64.wrap ((r : Int) + (n1 : Int)) = ((r + n1 : Nat) : Int) := by rw [u64_id (by omega) (by omega)]; omega
      have w2 : IntKind.u64.wrap (((q' + 1 : Nat) : Int) - 1) = (q' : Int) := by rw [u64_id (by omega) (by omega)]; omega
      rw [bits_Div64.j1, if_pos rfl, w1, w2]
      by_cases hb : 4294967296 ≤ r + n1
      · rw [if_pos (by omega)]
        exact next q' (Knuth.last u d n1 n0 q' (r + n1) Y hY hY0 hq' (by omega) (small q' n0 (r + n1) d (by omega) hn0 hb)) k (by omega)
      · rw [if_neg (by omega)]
        exact ih q' (r + n1) hq' (by omega) (by omega) (by omega) (by rw [Nat.add_mul, Nat.one_mul] at hm; omega) k (by omega)
    rw [bits_Div64.l0]
    by_cases h1 : 4294967296 ≤ q
    · rw [if_pos (by omega)]; exact down (.inl h1)
    · rw [if_neg (by omega), cond q n0 r d hq2 hn0 hr hd]
      by_cases h2 : 4294967296 * r + d < q * n0
      · rw [decide_eq_true h2]; exact down (.inr h2)
      · rw [decide_eq_false h2, bits_Div64.j1, if_neg (by decide)]
        exact next q (Knuth.last u d n1 n0 q r Y hY hY0 hq hlow (by omega)) k (by omega)

/-- The library's division. -/
theorem div64 (hi lo y : Nat) (hlo : lo < 18446744073709551616) (hy : y < 18446744073709551616) (hhi : hi < y) (k : Nat) (hk : 40 < k) :
    bits_Div64.f k (hi : Int) (lo : Int) (y : Int) = some ((((hi * 18446744073709551616 + lo) / y : Nat) : Int), (((hi * 18446744073709551616 + lo) % y : Nat) : Int)) := by
  have hy0 : 0 < y := by omega
  unfold bits_Div64.f
  rw [if_neg (by omega), if_neg (by omega)]
  by_cases h0 : hi = 0
  · subst h0
    rw [if_pos (show ((0 : Nat) : Int) = 0 from rfl), tdiv_n lo y hlo, Int.tmod_eq_emod_of_nonneg (by omega), ← Int.natCast_emod, Nat.zero_mul, Nat.zero_add]
  · rw [if_neg (by omega)]
    obtain ⟨L, hL, hl, hL64⟩ := lead64 y hy k (by omega)
    have hL1 : 1 ≤ L := by
      by_cases e : L = 0
      · subst e; have := hl.1; omega
      · omega
    obtain ⟨s, hs⟩ : ∃ s, s = 64 - L := ⟨_, rfl⟩
    have hs63 : s ≤ 63 := by omega
    refine bindI hL ?_
    have w : IntKind.u64.wrap (64 - (L : Int)) = (s : Int) := by rw [u64_id (by omega) (by omega)]; omega
    have w2 : IntKind.u64.wrap (64 - (s : Int)) = ((64 - s : Nat) : Int) := by rw [u64_id (by omega) (by omega)]; omega
    rw [w, w2, if_pos (by omega), if_pos (by omega)]
    have hp : 2 ^ s * 2 ^ (64 - s) = 18446744073709551616 := by rw [← Nat.pow_add, show s + (64 - s) = 64 by omega]
    have hps : 0 < 2 ^ s := Nat.pow_pos (by decide)
    have hpt : 0 < 2 ^ (64 - s) := Nat.pow_pos (by decide)
    -- the divisor, moved up
    have hYlt : y * 2 ^ s < 18446744073709551616 := by
      have h1 := hl.1
      rw [show L = 64 - s by omega] at h1
      rw [← hp, Nat.mul_comm (2 ^ s)]
      exact Nat.mul_lt_mul_of_pos_right h1 hps
    have hYge : 9223372036854775808 ≤ y * 2 ^ s := by
      have h1 := hl.2 (by omega)
      have h2 : 2 ^ (L - 1) * 2 ^ s = 9223372036854775808 := by rw [← Nat.pow_add, show L - 1 + s = 63 by omega]
      rw [← h2]; exact Nat.mul_le_mul_right _ h1
    have sh : ∀ x : Nat, shl .u64 (x : Int) (s : Int) = ((x * 2 ^ s % 18446744073709551616 : Nat) : Int) := by
      intro x
      unfold shl
      simp only [IntKind.bits, Int.toNat_natCast]
      rw [Nat.min_eq_left (by omega), u64_mod, Int.natCast_emod, Int.natCast_mul, Int.natCast_pow]; rfl
    obtain ⟨Y, hY⟩ : ∃ Y, Y = y * 2 ^ s := ⟨_, rfl⟩
    have shY : shl .u64 (y : Int) (s : Int) = (Y : Int) := by rw [sh, ← hY, Nat.mod_eq_of_lt (by omega)]
    -- the dividend, moved up
    obtain ⟨u, hu⟩ : ∃ u, u = hi * 2 ^ s + lo / 2 ^ (64 - s) := ⟨_, rfl⟩
    obtain ⟨v, hv⟩ : ∃ v, v = lo * 2 ^ s % 18446744073709551616 := ⟨_, rfl⟩
    have hlow : lo / 2 ^ (64 - s) < 2 ^ s := by
      rw [Nat.div_lt_iff_lt_mul hpt, hp]; exact hlo
    have huY : u < Y := by
      rw [hu, hY]
      have : (hi + 1) * 2 ^ s ≤ y * 2 ^ s := Nat.mul_le_mul_right _ (by omega)
      rw [Nat.add_mul, Nat.one_mul] at this
      omega
    have hlo2 : lo * 2 ^ s = lo / 2 ^ (64 - s) * 18446744073709551616 + v := by
      have e := Nat.div_add_mod (lo * 2 ^ s) 18446744073709551616
      have e2 : lo * 2 ^ s / 18446744073709551616 = lo / 2 ^ (64 - s) := by
        rw [← hp, Nat.mul_comm lo, Nat.mul_div_mul_left _ _ hps]
      rw [e2, ← hv] at e
      omega
    have hvlt : v < 18446744073709551616 := by rw [hv]; exact Nat.mod_lt _ (by decide)
    have hhi2 : hi * 2 ^ s % 18446744073709551616 = hi * 2 ^ s := Nat.mod_eq_of_lt (by omega)
    have shlo : shr .u64 (lo : Int) ((64 - s : Nat) : Int) = ((lo / 2 ^ (64 - s) : Nat) : Int) := by
      unfold shr
      simp only [IntKind.bits, Int.toNat_natCast]
      rw [Nat.min_eq_left (by omega), Int.natCast_ediv, Int.natCast_pow]; rfl
    have hor : Go.bits .or .u64 ((hi * 2 ^ s : Nat) : Int) ((lo / 2 ^ (64 - s) : Nat) : Int) = (u : Int) := by
      rw [or_u, BitVec.toNat_or]
      have h1 := toNat_of (x := ((hi * 2 ^ s : Nat) : Int)) (by omega) (by omega)
      have h2 := toNat_of (x := ((lo / 2 ^ (64 - s) : Nat) : Int)) (by omega) (by omega)
      rw [show (of ((hi * 2 ^ s : Nat) : Int)).toNat = hi * 2 ^ s by omega, show (of ((lo / 2 ^ (64 - s) : Nat) : Int)).toNat = lo / 2 ^ (64 - s) by omega, hu]
      congr 1
      rw [Nat.mul_comm hi]
      exact (Nat.two_pow_add_eq_or_of_lt hlow hi).symm
    have a32 : ∀ x : Nat, x < 18446744073709551616 → Go.bits .and .u64 (x : Int) 4294967295 = ((x % 4294967296 : Nat) : Int) := by
      intro x hx
      rw [and_u, BitVec.toNat_and, show (of 4294967295).toNat = 2 ^ 32 - 1 from rfl, Nat.and_two_pow_sub_one_eq_mod]
      have h1 := toNat_of (x := (x : Int)) (by omega) (by omega)
      rw [show (of (x : Int)).toNat = x by omega]
    rw [shY, sh lo, ← hv, sh hi, hhi2, shlo, hor, a32 Y (by omega), a32 v hvlt]
    have eY : Y = Y / 4294967296 * 4294967296 + Y % 4294967296 := by omega
    have eN : (hi * 18446744073709551616 + lo) * 2 ^ s = (u * 4294967296 + v / 4294967296) * 4294967296 + v % 4294967296 := by
      rw [Nat.add_mul, hlo2, hu, Nat.mul_right_comm]
      generalize hi * 2 ^ s = A
      generalize lo / 2 ^ (64 - s) = B
      omega
    obtain ⟨n1, hn1⟩ : ∃ n, Y / 4294967296 = n := ⟨_, rfl⟩
    obtain ⟨n0, hn0⟩ : ∃ n, Y % 4294967296 = n := ⟨_, rfl⟩
    obtain ⟨d1, hd1⟩ : ∃ n, v / 4294967296 = n := ⟨_, rfl⟩
    obtain ⟨d0, hd0⟩ : ∃ n, v % 4294967296 = n := ⟨_, rfl⟩
    rw [hn1, hn0] at eY
    rw [hd1, hd0] at eN
    have g1 : 2147483648 ≤ n1 := by omega
    have g2 : n1 < 4294967296 := by omega
    have g3 : n0 < 4294967296 := by omega
    have g4 : d1 < 4294967296 := by omega
    have g5 : d0 < 4294967296 := by omega
    rw [show (Y : Int) / 4294967296 = (n1 : Int) by omega, show (v : Int) / 4294967296 = (d1 : Int) by omega, hn0, hd0, if_neg (by omega), tdiv_n u n1 (by omega), split_n u n1 (by omega)]
    have ht := Knuth.two (hi * 18446744073709551616 + lo) y s Y (u * 4294967296 + d1) d0 hy0 hY eN
    have hm := Nat.mod_lt u (show 0 < n1 by omega)
    rw [loop0 Y n1 n0 u d1 d0 s eY (by omega) g1 g3 g4 g5 huY 2 (u / n1) (u % n1) (by rw [Nat.mul_comm]; exact Nat.div_add_mod u n1) (by omega) (Knuth.top u n1 n0 Y g1 g3 eY huY) (Knuth.first u d1 n1 n0 Y (by omega) g4 eY) (by omega) k (by omega)]
    have q1lt := Knuth.digit_lt u d1 Y g4 huY
    have r1lt := Nat.mod_lt (u * 4294967296 + d1) (show 0 < Y by omega)
    obtain ⟨Q1, hQ1⟩ : ∃ n, (u * 4294967296 + d1) / Y = n := ⟨_, rfl⟩
    obtain ⟨R1, hR1⟩ : ∃ n, (u * 4294967296 + d1) % Y = n := ⟨_, rfl⟩
    rw [hQ1, hR1] at ht ⊢
    rw [hQ1] at q1lt
    rw [hR1] at r1lt
    have q0lt := Knuth.digit_lt R1 d0 Y g5 r1lt
    obtain ⟨Q0, hQ0⟩ : ∃ n, (R1 * 4294967296 + d0) / Y = n := ⟨_, rfl⟩
    rw [hQ0] at ht q0lt ⊢
    rw [ht.1, ← ht.2]
    congr 1
    refine Prod.ext ?_ ?_
    · show IntKind.u64.wrap (IntKind.u64.wrap ((Q1 : Int) * 4294967296) + (Q0 : Int)) = ((Q1 * 4294967296 + Q0 : Nat) : Int)
      rw [u64_id (n := (Q1 : Int) * 4294967296) (by omega) (by omega), u64_id (by omega) (by omega)]; omega
    · show shr .u64 (((hi * 18446744073709551616 + lo) % y * 2 ^ s : Nat) : Int) (s : Int) = (((hi * 18446744073709551616 + lo) % y : Nat) : Int)
      unfold shr
      simp only [IntKind.bits, Int.toNat_natCast]
      rw [Nat.min_eq_left (by omega), show ((2 : Int) ^ s) = ((2 ^ s : Nat) : Int) by rw [Int.natCast_pow]; rfl, ← Int.natCast_ediv, Nat.mul_div_cancel _ hps]
end Go.Proofs.YtckfnbjjghdaoaaDoor.Div
