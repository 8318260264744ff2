/- THE PURE LAW of OctetSmall: zigzag of x is below 2^k just where x lies between -2^(k-1) and 2^(k-1) - 1, and Size counts the groups of seven bits. No condition. -/
import Derived.Test.YtkolpnilgpmoiaaQ1
import Derived.Test.YtkolpnilgpmoiaaZig
namespace Go.Proofs.Ytkolpnilgpmoiaa.Pure
open Go.RowKit Go.Proofs.Ytkolpnilgpmoiaa.Q Go.Proofs.YtkolpnilgpmoiaaW.PrintWords Go.Proofs.Ytkolpnilgpmoiaa.Bits

theorem size_some (d : Nat) : ∀ (v n : Int), 0 ≤ v → v < 128 ^ (d + 1) → ∃ m, ∀ k, d < k → octet_Size.l0 k v n = some m := by
  induction d with
  | zero =>
    intro v n h0 h1
    refine ⟨n, fun k hk => ?_⟩
    obtain ⟨k, rfl⟩ : ∃ m, k = m + 1 := ⟨k - 1, by omega⟩
    simp only [octet_Size.l0]
    rw [if_neg (by omega)]
  | succ d ih =>
    intro v n h0 h1
    by_cases h : v ≥ 128
    · obtain ⟨m, hm⟩ := ih (v / 128) (wrap64 (n + 1)) (by omega) (by
        have : (128 : Int) ^ (d + 1 + 1) = 128 ^ (d + 1) * 128 := Int.pow_succ ..
        rw [Int.ediv_lt_iff_lt_mul (by decide)]; omega)
      refine ⟨m, fun k hk => ?_⟩
      obtain ⟨k, rfl⟩ : ∃ m, k = m + 1 := ⟨k - 1, by omega⟩
      simp only [octet_Size.l0]
      rw [if_pos h]
      exact hm k (by omega)
    · refine ⟨n, fun k hk => ?_⟩
      obtain ⟨k, rfl⟩ : ∃ m, k = m + 1 := ⟨k - 1, by omega⟩
      simp only [octet_Size.l0]
      rw [if_neg h]

theorem small_loop (a1 u m : Int) (b : Bool) (hu : ∀ k, 10 < k → octet_Size.f k u = some m) (hb : (decide (u < shl .u64 1 (IntKind.u64.wrap a1)) == b) = true) (d : Nat) :
    ∀ (v n q : Int), 0 ≤ v → v < 128 ^ (d + 1) → v < 18446744073709551616 → (∀ k, d < k → octet_Size.l0 k v n = some q) → ∀ k, d + 11 < k → scarablaw01_OctetSmall.l0 k a1 b u n v = some (m == q) := by
  induction d with
  | zero =>
    intro v n q h0 h1 hv hq k hk
    obtain ⟨k, rfl⟩ : ∃ m, k = m + 1 := ⟨k - 1, by omega⟩
    have hn := hq 1 (by omega)
    simp only [octet_Size.l0] at hn
    rw [if_neg (by omega)] at hn
    obtain rfl := Option.some.inj hn
    simp only [scarablaw01_OctetSmall.l0]
    rw [if_neg (by omega), if_pos (u64_nonneg _), if_pos hb, hu k (by omega)]
    rfl
  | succ d ih =>
    intro v n q h0 h1 hv hq k hk
    obtain ⟨k, rfl⟩ : ∃ m, k = m + 1 := ⟨k - 1, by omega⟩
    simp only [scarablaw01_OctetSmall.l0]
    by_cases h : v ≥ 128
    · rw [if_pos h]
      have e : IntKind.u64.wrap (Int.tdiv v 128) = v / 128 := by
        rw [Int.tdiv_eq_ediv_of_nonneg h0, u64_id (by omega) (by omega)]
      rw [e]
      refine ih (v / 128) (wrap64 (n + 1)) q (by omega) (by
        have : (128 : Int) ^ (d + 1 + 1) = 128 ^ (d + 1) * 128 := Int.pow_succ ..
        rw [Int.ediv_lt_iff_lt_mul (by decide)]; omega) (by omega) (fun j hj => ?_) k (by omega)
      have := hq (j + 1) (by omega)
      simp only [octet_Size.l0] at this
      rwa [if_pos h] at this
    · have hn := hq (d + 2) (by omega)
      simp only [octet_Size.l0] at hn
      rw [if_neg h] at hn
      obtain rfl := Option.some.inj hn
      rw [if_neg h, if_pos (u64_nonneg _), if_pos hb, hu k (by omega)]
      rfl

theorem two_pow_le (j : Nat) (h : j ≤ 62) : (1 : Int) ≤ 2 ^ j ∧ (2 : Int) ^ j ≤ 4611686018427387904 := by
  have h1 : 2 ^ j ≤ 4611686018427387904 := Nat.pow_le_pow_right (n := 2) (by decide) h
  have h2 : 1 ≤ 2 ^ j := Nat.one_le_two_pow
  have e : (2 : Int) ^ j = ((2 ^ j : Nat) : Int) := by rw [Int.natCast_pow]; rfl
  rw [e]
  omega

theorem OctetSmall : scarablaw01_OctetSmall.Pure := by
  intro x k hx hk
  have bx := wf_i64 hx
  have bk := wf_i64 hk
  by_cases hr : 1 ≤ k ∧ k ≤ 63
  · obtain ⟨h1, h2⟩ := hr
    obtain ⟨j, hj⟩ : ∃ j : Nat, k = j + 1 := ⟨(k - 1).toNat, by omega⟩
    subst hj
    have hj : j ≤ 62 := by omega
    obtain ⟨p1, p2⟩ := two_pow_le j hj
    have e1 : wrap64 (((j : Int) + 1) - 1) = j := by unfold wrap64; omega
    have e2 : IntKind.u64.wrap (j : Int) = j := u64_id (by omega) (by omega)
    have e3 : shl .i64 (-1) (j : Int) = -(2 ^ j) := by
      unfold shl
      rw [i64_wrap, Int.toNat_natCast, Nat.min_eq_left (show j ≤ IntKind.i64.bits by simp [IntKind.bits]; omega), Int.neg_one_mul]
      unfold wrap64; omega
    have e4 : IntKind.u64.wrap ((j : Int) + 1) = (j : Int) + 1 := u64_id (by omega) (by omega)
    have e5 : shl .u64 1 ((j : Int) + 1) = 2 * 2 ^ j := by
      unfold shl
      rw [show ((j : Int) + 1).toNat = j + 1 by omega, Nat.min_eq_left (show j + 1 ≤ IntKind.u64.bits by simp [IntKind.bits]; omega), Int.one_mul, Int.pow_succ]
      rw [u64_id (by omega) (by omega)]; omega
    have e6 : wrap64 (-(wrap64 (-(2 ^ j) + 1))) = 2 ^ j - 1 := by unfold wrap64; omega
    obtain ⟨u, hu, hu0, hu1, huv⟩ := zig_val x bx.1 bx.2
    obtain ⟨m, hm⟩ := size_some 9 u 1 hu0 (by omega)
    have hb : ∀ b : Bool, b = decide (-(2 ^ j) ≤ x ∧ x ≤ 2 ^ j - 1) → (decide (u < shl .u64 1 (IntKind.u64.wrap ((j : Int) + 1))) == b) = true := by
      intro b hb
      subst hb
      rw [e4, e5, beq_iff_eq, decide_eq_decide]
      omega
    have hl := fun b hb' => small_loop ((j : Int) + 1) u m b (fun k hk => hm k (by omega)) (hb b hb') 9 u 1 m hu0 (by omega) (by omega) hm
    refine ⟨50, ?_⟩
    unfold scarablaw01_OctetSmall.f
    rw [if_neg (by omega), decide_eq_false (by omega)]
    simp only [scarablaw01_OctetSmall.j0]
    rw [if_neg (by decide), e1, e2, if_pos (by omega), e3, e6]
    by_cases c : x ≥ -(2 ^ j)
    · rw [if_pos c]
      simp only [scarablaw01_OctetSmall.j1]
      rw [hu]
      simp only [Option.bind_some]
      rw [hl _ (by simp only [decide_eq_decide]; omega) 48 (by omega)]
      simp
    · rw [if_neg c]
      simp only [scarablaw01_OctetSmall.j1]
      rw [hu]
      simp only [Option.bind_some]
      rw [hl _ (by symm; rw [decide_eq_false_iff_not]; omega) 48 (by omega)]
      simp
  · refine ⟨2, ?_⟩
    have e : (octet_Zig.f (-1)).bind (fun t => if t = 1 then (octet_Zig.f 1).bind fun t2 => some (t2 == 2) else some false) = some true := by
      obtain ⟨u, hu, _, _, huv⟩ := zig_val (-1) (by decide) (by decide)
      obtain ⟨v, hv, _, _, hvv⟩ := zig_val 1 (by decide) (by decide)
      rw [hu, hv]
      simp only [Option.bind_some]
      rw [if_pos (by omega)]
      simp; omega
    unfold scarablaw01_OctetSmall.f
    by_cases c : k < 1
    · rw [if_pos c]
      simp only [scarablaw01_OctetSmall.j0]
      exact e
    · rw [if_neg c, decide_eq_true (by omega)]
      simp only [scarablaw01_OctetSmall.j0]
      exact e
end Go.Proofs.Ytkolpnilgpmoiaa.Pure
