/- Numbers in bytes: there and back; their number; zigzag back; copies. -/
import Derived.Test.YtkolpnilgpmoiaaZCodec
import Derived.Test.YtkolpnilgpmoiaaZ3
import Derived.Test.YtkolpnilgpmoiaaZ2
import Derived.Test.YtkolpnilgpmoiaaZ1
namespace Go.Proofs.Ytkolpnilgpmoiaa.Codec
open Go.RowKit Go.Proofs.Ytkolpnilgpmoiaa.Z Go.Proofs.YtkolpnilgpmoiaaW.PrintWords Go.Proofs.Ytkolpnilgpmoiaa.Bits

theorem rd_mid (pre : List Int) (c : Int) (rest : List Int) : rd (pre ++ c :: rest) (pre.length : Int) = c := by
  unfold rd
  simp [List.getD_eq_getElem?_getD]

theorem gt_enc (f : Nat) : ∀ (j y at_ : Nat) (acc : Int) (pre : List Int), j + f = 9 → y < 2 * 128 ^ f → (0 < j → 0 < y) → pre.length = at_ + j →
    gt (pre ++ enc f y) at_ (f + 1) j acc = (acc + y * 128 ^ j, ((pre ++ enc f y).length : Int), 0) := by
  have last : ∀ (f j y at_ : Nat) (acc : Int) (pre : List Int), y < 128 → (j = 9 → y ≤ 1) → (0 < j → 0 < y) → pre.length = at_ + j →
      gt (pre ++ [(y : Int)]) at_ (f + 1) j acc = (acc + y * 128 ^ j, ((pre ++ [(y : Int)]).length : Int), 0) := by
    intro f j y at_ acc pre h1 h2 h3 h4
    have hr : rd (pre ++ [(y : Int)]) ((at_ + j : Nat) : Int) = y := by rw [← h4]; exact rd_mid pre y []
    simp only [gt]
    rw [hr, if_neg (by simp; omega), if_neg (by omega), if_neg (by omega), if_neg (by omega)]
    simp; omega
  induction f with
  | zero =>
    intro j y at_ acc pre hj hy h0 hp
    exact last 0 j y at_ acc pre (by simp at hy; omega) (fun _ => by simp at hy; omega) h0 hp
  | succ f ih =>
    intro j y at_ acc pre hj hy h0 hp
    by_cases h : y < 128
    · rw [enc_small _ y h]
      exact last (f + 1) j y at_ acc pre h (fun h9 => by omega) h0 hp
    · rw [enc_big f y (by omega)]
      have hr : rd (pre ++ ((y % 128 + 128 : Nat) : Int) :: enc f (y / 128)) ((at_ + j : Nat) : Int) = ((y % 128 + 128 : Nat) : Int) := by rw [← hp]; exact rd_mid _ _ _
      have e : pre ++ ((y % 128 + 128 : Nat) : Int) :: enc f (y / 128) = (pre ++ [((y % 128 + 128 : Nat) : Int)]) ++ enc f (y / 128) := by simp
      rw [gt, hr, if_neg (by simp; omega), if_neg (by omega), if_pos (by omega), e, ih (j + 1) (y / 128) at_ _ _ (by omega) (by rw [Nat.pow_succ] at hy; omega) (by omega) (by simp; omega)]
      congr 1
      rw [Int.pow_succ]
      have e2 : (y : Int) = ((y % 128 + 128 : Nat) : Int) - 128 + ((y / 128 : Nat) : Int) * 128 := by omega
      generalize ((y % 128 + 128 : Nat) : Int) - 128 = u at e2 ⊢
      generalize ((y / 128 : Nat) : Int) = v at e2 ⊢
      rw [e2, Int.add_mul, Int.add_assoc, Int.mul_assoc, Int.mul_comm 128]

theorem gt_once (l : List Int) (hb : bytes l) (at_ : Nat) (f : Nat) : ∀ (j : Nat) (acc v n : Int), j + f = 9 → gt l at_ (f + 1) j acc = (v, n, 0) →
    ∃ y m : Nat, n = m ∧ v = acc + y * 128 ^ j ∧ y < 2 * 128 ^ f ∧ (0 < j → 0 < y) ∧ at_ + j < m ∧ m ≤ l.length ∧ (l.take m).drop (at_ + j) = enc f y := by
  have cut : ∀ (i : Nat), i < l.length → (l.take (i + 1)).drop i = [rd l (i : Int)] := by
    intro i hi
    unfold rd
    rw [List.drop_take, List.getD_eq_getElem?_getD, Int.toNat_natCast, List.getElem?_eq_getElem hi]
    simp [List.take_one, hi]
  have last : ∀ (f j : Nat) (acc v n : Int), (j = 9 → rd l ((at_ + j : Nat) : Int) ≤ 1) → at_ + j < l.length → ¬ 128 ≤ rd l ((at_ + j : Nat) : Int) → ¬ (rd l ((at_ + j : Nat) : Int) = 0 ∧ 0 < j) → j + f = 9 →
      (acc + rd l ((at_ + j : Nat) : Int) * 128 ^ j, ((at_ + j + 1 : Nat) : Int), (0 : Int)) = (v, n, 0) →
      ∃ y m : Nat, n = m ∧ v = acc + y * 128 ^ j ∧ y < 2 * 128 ^ f ∧ (0 < j → 0 < y) ∧ at_ + j < m ∧ m ≤ l.length ∧ (l.take m).drop (at_ + j) = enc f y := by
    intro f j acc v n h9 hi h1 h2 hj h
    have hc := hb ((at_ + j : Nat) : Int)
    have hcut := cut (at_ + j) hi
    simp only [Prod.mk.injEq] at h
    obtain ⟨e1, e2, _⟩ := h
    obtain ⟨y, hy⟩ := Int.eq_ofNat_of_zero_le hc.1
    rw [hy] at hc h1 h2 e1 hcut h9
    refine ⟨y, at_ + j + 1, e2.symm, e1.symm, ?_, by omega, by omega, by omega, ?_⟩
    · cases f with
      | zero => have := h9 (by omega); simp; omega
      | succ f => rw [Nat.pow_succ]; have := Nat.one_le_pow f 128 (by decide); omega
    · rw [hcut, enc_small f y (by omega)]
  induction f with
  | zero =>
    intro j acc v n hj h
    simp only [gt] at h
    by_cases c1 : l.length ≤ at_ + j
    · rw [if_pos c1] at h; simp at h
    rw [if_neg c1] at h
    by_cases c2 : j = 9 ∧ 1 < rd l ((at_ + j : Nat) : Int)
    · rw [if_pos c2] at h; simp at h
    rw [if_neg c2] at h
    by_cases c3 : 128 ≤ rd l ((at_ + j : Nat) : Int)
    · omega
    rw [if_neg c3] at h
    by_cases c4 : rd l ((at_ + j : Nat) : Int) = 0 ∧ 0 < j
    · rw [if_pos c4] at h; simp at h
    rw [if_neg c4] at h
    exact last 0 j acc v n (fun h => by omega) (by omega) c3 c4 hj h
  | succ f ih =>
    intro j acc v n hj h
    rw [gt] at h
    by_cases c1 : l.length ≤ at_ + j
    · rw [if_pos c1] at h; simp at h
    rw [if_neg c1] at h
    by_cases c2 : j = 9 ∧ 1 < rd l ((at_ + j : Nat) : Int)
    · omega
    rw [if_neg c2] at h
    by_cases c3 : 128 ≤ rd l ((at_ + j : Nat) : Int)
    · rw [if_pos c3] at h
      obtain ⟨y, m, e1, e2, hy, h0, hm, hml, hcut⟩ := ih (j + 1) _ v n (by omega) h
      have hc := hb ((at_ + j : Nat) : Int)
      obtain ⟨c, hcc⟩ := Int.eq_ofNat_of_zero_le hc.1
      have hd : (l.take m).drop (at_ + j) = rd l ((at_ + j : Nat) : Int) :: (l.take m).drop (at_ + (j + 1)) := by
        have hlt : at_ + j < (l.take m).length := by rw [List.length_take]; omega
        rw [← Nat.add_assoc, List.drop_eq_getElem_cons hlt]
        congr 1
        unfold rd
        rw [List.getD_eq_getElem?_getD, Int.toNat_natCast, List.getElem?_eq_getElem (by omega)]
        simp
      rw [hcc] at hc c3 hd e2
      refine ⟨(c - 128) + 128 * y, m, e1, ?_, ?_, by omega, by omega, hml, ?_⟩
      · rw [e2, Int.pow_succ]
        have e3 : (((c - 128) + 128 * y : Nat) : Int) = ((c : Int) - 128) + (y : Int) * 128 := by omega
        rw [e3, Int.add_mul, Int.add_assoc, Int.mul_assoc, Int.mul_comm 128]
      · rw [Nat.pow_succ]; omega
      · rw [hd, hcut, enc_big f _ (by omega)]
        congr 1
        · omega
        · congr 1; omega
    · rw [if_neg c3] at h
      by_cases c4 : rd l ((at_ + j : Nat) : Int) = 0 ∧ 0 < j
      · rw [if_pos c4] at h; simp at h
      rw [if_neg c4] at h
      exact last (f + 1) j acc v n (fun h => by omega) (by omega) c3 c4 hj h

theorem size_loop (d : Nat) : ∀ (x : Nat) (n : Int), x < 128 ^ (d + 1) → 0 ≤ n → n + d < 100 → ∀ k, d < k → octet_Size.l0 k x n = some (n + (enc d x).length - 1) := by
  induction d with
  | zero =>
    intro x n hx h0 hn k hk
    obtain ⟨k, rfl⟩ : ∃ m, k = m + 1 := ⟨k - 1, by omega⟩
    simp only [octet_Size.l0]
    rw [if_neg (by omega), enc_small 0 x (by omega)]
    simp
  | succ d ih =>
    intro x n hx h0 hn k hk
    obtain ⟨k, rfl⟩ : ∃ m, k = m + 1 := ⟨k - 1, by omega⟩
    simp only [octet_Size.l0]
    by_cases h : x < 128
    · rw [if_neg (by omega), enc_small _ x h]; simp
    · rw [if_pos (by omega), show (x : Int) / 128 = ((x / 128 : Nat) : Int) by omega, show wrap64 (n + 1) = n + 1 by unfold wrap64; omega,
        ih (x / 128) (n + 1) (by rw [Nat.pow_succ] at hx; omega) (by omega) (by omega) k (by omega), enc_big d x (by omega)]
      simp; omega
theorem size_val (x : Nat) (hx : x < 18446744073709551616) (k : Nat) (hk : 9 < k) : octet_Size.f k x = some ((ten x).length : Int) := by
  unfold octet_Size.f
  rw [size_loop 9 x 1 (by simp only [Nat.reducePow, Nat.reduceAdd]; omega) (by decide) (by decide) k hk]
  unfold ten
  simp; omega

theorem own_val (l : List Int) (hl : l.length ≤ 140737488351300) : scarablaw01_own.f l = some l := by
  unfold scarablaw01_own.f
  have e : wrap64 ((l.length : Int) + 16) = (l.length : Int) + 16 := by unfold wrap64; omega
  rw [e, if_pos (by omega), if_pos (by omega)]
  simp only [Option.bind_some, List.length_nil, List.nil_append]
  rw [if_pos (by omega)]
theorem refput_val (l : List Int) (x : Nat) (hx : x < 18446744073709551616) (hl : l.length ≤ 140737488351300) (k : Nat) (hk : 9 < k) : scarabref01_Put.f k l x = some (l ++ ten x) := by
  unfold scarabref01_Put.f
  simp only [Option.bind_some, List.length_nil, List.nil_append]
  rw [if_pos (by omega), bytes_val x hx k hk]
  have := ten_len x
  simp only [Option.bind_some]
  rw [if_pos (by omega)]
theorem zig_nat (x : Int) (h0 : -9223372036854775808 ≤ x) (h1 : x < 9223372036854775808) :
    ∃ u : Nat, octet_Zig.f x = some (u : Int) ∧ scarabref01_Zig.f x = some (u : Int) ∧ u < 18446744073709551616 ∧ (0 ≤ x ∧ (u : Int) = 2 * x ∨ x < 0 ∧ (u : Int) = -2 * x - 1) := by
  obtain ⟨u, hu, hu0, hu1, hv⟩ := zig_val x h0 h1
  obtain ⟨u, rfl⟩ := Int.eq_ofNat_of_zero_le hu0
  refine ⟨u, hu, ?_, by omega, hv⟩
  unfold scarabref01_Zig.f
  by_cases h : x < 0
  · rw [if_pos h, show wrap64 (x + 1) = x + 1 by unfold wrap64; omega, show wrap64 (-(x + 1)) = -(x + 1) by unfold wrap64; omega, u64_id (n := -(x + 1)) (by omega) (by omega), u64_id (n := 2 * -(x + 1)) (by omega) (by omega), u64_id (by omega) (by omega)]
    congr 1; omega
  · rw [if_neg h, u64_id (n := x) (by omega) (by omega), u64_id (by omega) (by omega)]
    congr 1; omega
theorem zag_val (u : Nat) (hu : u < 18446744073709551616) : octet_Zag.f u = some (if u % 2 = 0 then ((u / 2 : Nat) : Int) else -((u / 2 : Nat) : Int) - 1) := by
  unfold octet_Zag.f
  rw [and1_u, xor_i, of_wrap64, of_wrap64]
  have e : (u : Int) / 2 = ((u / 2 : Nat) : Int) := by omega
  rw [e, show wrap64 ((u : Int) % 2) = (u : Int) % 2 by unfold wrap64; omega]
  by_cases h : u % 2 = 0
  · rw [if_pos h, show (u : Int) % 2 = 0 by omega, show of (-0) = 0#64 from rfl, BitVec.xor_zero, toInt_of (by omega) (by omega)]
  · rw [if_neg h, show (u : Int) % 2 = 1 by omega, show of (-1) = BitVec.allOnes 64 by decide, BitVec.xor_allOnes, BitVec.toInt_not, toNat_of (by omega) (by omega)]
    congr 1
    unfold Int.bmod
    simp only [Nat.reducePow, Int.reducePow]
    split <;> omega
theorem same_val (l m : List Int) (h : l = m) : scarabplain_SameBytes.f l m = some true := by
  subst h
  simp [scarabplain_SameBytes.f]
end Go.Proofs.Ytkolpnilgpmoiaa.Codec
