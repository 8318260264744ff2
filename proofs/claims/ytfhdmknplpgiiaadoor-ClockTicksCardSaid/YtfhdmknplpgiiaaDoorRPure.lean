/- What the reference's Parse answers is what Parse answers. No condition. -/
import Derived.Test.YtfhdmknplpgiiaaDoorPWalk
namespace Go.Proofs.YtfhdmknplpgiiaaDoor.Ck
open Go.RowKit
/-- The reference's loop over a text's bytes, from the second on. -/
def rp : List UInt8 → C6 → Nat → Bool → Option C6
  | [], a, _, _ => some a
  | c :: r, a, n, d =>
    if 6 ≤ n then some a
    else if 48 ≤ c.toNat ∧ c.toNat ≤ 57 then
      if 1073741824 < a.nth n * 10 + ((c.toNat : Int) - 48) then none else rp r (a.set (a.nth n * 10 + ((c.toNat : Int) - 48)) n) n true
    else if d = false then none else rp r a (n + 1) false
/-- What the reference's Parse answers. -/
def rres (s : ByteArray) : C6 × Int :=
  if 65536 < s.size then (zero, 2) else
  match rp (s.data.toList.drop 1) zero 0 false with
  | none => (zero, 8)
  | some a => if textB a = s then (a, 0) else (zero, 8)
theorem set_set (a : C6) (v u : Int) (n : Nat) (hn : n < 6) : (a.set v n).set u n = a.set u n := by
  match n, hn with
  | 0, _ | 1, _ | 2, _ | 3, _ | 4, _ | 5, _ => rfl
theorem right_set (a : C6) (v : Int) (n : Nat) (hn : n < 6) (ha : right a = true) (h0 : 0 ≤ v) (h1 : v ≤ 1073741824) : right (a.set v n) = true := by
  rw [right_iff] at *
  match n, hn with
  | 0, _ | 1, _ | 2, _ | 3, _ | 4, _ | 5, _ => simp only [C6.set]; omega
theorem rp_right : ∀ (l : List UInt8) (a : C6) (n : Nat) (d : Bool) (b : C6), rp l a n d = some b → right a = true → right b = true
  | [], a, n, d, b, h, ha => by simp [rp] at h; subst h; exact ha
  | c :: r, a, n, d, b, h, ha => by
    unfold rp at h
    by_cases h6 : 6 ≤ n
    · rw [if_pos h6] at h
      simp at h; subst h; exact ha
    · rw [if_neg h6] at h
      have hb := nth_bound ha n (by omega)
      by_cases hd : 48 ≤ c.toNat ∧ c.toNat ≤ 57
      · rw [if_pos hd] at h
        by_cases hv : 1073741824 < a.nth n * 10 + ((c.toNat : Int) - 48)
        · rw [if_pos hv] at h; cases h
        · rw [if_neg hv] at h
          exact rp_right r _ n true b h (right_set a _ n (by omega) ha (by omega) (by omega))
      · rw [if_neg hd] at h
        cases d with
        | false => simp at h
        | true =>
          simp at h
          exact rp_right r a (n + 1) false b h ha
theorem rp_digit (k : Nat) (hk : k < 10) (a : C6) (n : Nat) (hn : n < 6) (d : Bool) (r : List UInt8) (h : a.nth n * 10 + k ≤ 1073741824) :
    rp (UInt8.ofNat (48 + k) :: r) a n d = rp r (a.set (a.nth n * 10 + k) n) n true := by
  have e := Tx.dig_toNat k hk
  rw [rp, if_neg (by omega), e, if_pos (by omega), if_neg (by omega)]
  congr 2
  omega
theorem rp_digs (u : Nat) : ∀ (a : C6) (n : Nat) (d : Bool) (r : List UInt8), n < 6 → 0 ≤ a.nth n → a.nth n * ((10 ^ Lib.nDigits u : Nat) : Int) + u ≤ 1073741824 →
    rp (Lib.decDigits u ++ r) a n d = rp r (a.set (a.nth n * ((10 ^ Lib.nDigits u : Nat) : Int) + u) n) n true := by
  induction u using Nat.strongRecOn with
  | ind u ih =>
    intro a n d r hn h0 h
    by_cases hu : u < 10
    · rw [Lib.decDigits_one hu]
      rw [Lib.nDigits_small hu] at h ⊢
      simp only [Nat.pow_one] at h ⊢
      exact rp_digit u hu a n hn d r (by omega)
    · have hd : Lib.decDigits u = Lib.decDigits (u / 10) ++ [UInt8.ofNat (48 + u % 10)] := by rw [Lib.decDigits, dif_neg hu]
      have hnd := Lib.nDigits_big hu
      have hm : a.nth n * ((10 ^ Lib.nDigits u : Nat) : Int) = a.nth n * ((10 ^ Lib.nDigits (u / 10) : Nat) : Int) * 10 := by
        rw [hnd, Nat.pow_succ]
        push_cast
        rw [Int.mul_assoc]
      have hpos : 0 ≤ a.nth n * ((10 ^ Lib.nDigits (u / 10) : Nat) : Int) := Int.mul_nonneg h0 (Int.natCast_nonneg _)
      rw [hm] at h ⊢
      have hi := ih (u / 10) (by omega) a n d ([UInt8.ofNat (48 + u % 10)] ++ r) hn h0
      generalize a.nth n * ((10 ^ Lib.nDigits (u / 10) : Nat) : Int) = p at h hi hpos ⊢
      have hs : (a.set (p + ((u / 10 : Nat) : Int)) n).nth n = p + ((u / 10 : Nat) : Int) := by rw [set_nth a _ n n hn hn, if_pos rfl]
      rw [hd, List.append_assoc, hi (by omega), List.singleton_append, rp_digit (u % 10) (by omega) _ n hn true r (by rw [hs]; omega), hs, set_set _ _ _ _ hn]
      congr 2
      omega
theorem rp_num (v : Int) (h0 : 0 ≤ v) (h1 : v ≤ 1073741824) (a : C6) (n : Nat) (d : Bool) (r : List UInt8) (hn : n < 6) (hz : a.nth n = 0) : rp (Lib.itoa v ++ r) a n d = rp r (a.set v n) n true := by
  unfold Lib.itoa
  rw [if_neg (by omega), rp_digs v.toNat a n d r hn (by omega) (by rw [hz]; omega), hz]
  congr 2
  omega
theorem rp_next (c : UInt8) (hc : c.toNat < 48) (a : C6) (n : Nat) (r : List UInt8) (hn : n < 6) : rp (c :: r) a n true = rp r a (n + 1) false := by
  rw [rp, if_neg (by omega), if_neg (by omega), if_neg (by simp)]
theorem rp_text (c : C6) (hc : right c = true) : rp ((textB c).data.toList.drop 1) zero 0 false = some c := by
  have hb := nth_bound' c hc
  rw [text_list, List.drop_succ_cons, List.drop_zero]
  have hj : Lib.join (c.strs.map (·.data.toList)) [44] ++ [62] = Lib.itoa c.a ++ (44 :: (Lib.itoa c.b ++ (44 :: (Lib.itoa c.c ++ (44 :: (Lib.itoa c.d ++ (44 :: (Lib.itoa c.e ++ (44 :: (Lib.itoa c.f ++ [62])))))))))) := by
    simp [Lib.join, C6.strs, num, List.intercalate, List.intersperse]
  rw [hj]
  rw [rp_num _ hb.1.1 hb.1.2 _ _ _ _ (by omega) rfl, rp_next 44 (by decide) _ _ _ (by omega)]
  rw [rp_num _ hb.2.1.1 hb.2.1.2 _ _ _ _ (by omega) rfl, rp_next 44 (by decide) _ _ _ (by omega)]
  rw [rp_num _ hb.2.2.1.1 hb.2.2.1.2 _ _ _ _ (by omega) rfl, rp_next 44 (by decide) _ _ _ (by omega)]
  rw [rp_num _ hb.2.2.2.1.1 hb.2.2.2.1.2 _ _ _ _ (by omega) rfl, rp_next 44 (by decide) _ _ _ (by omega)]
  rw [rp_num _ hb.2.2.2.2.1.1 hb.2.2.2.2.1.2 _ _ _ _ (by omega) rfl, rp_next 44 (by decide) _ _ _ (by omega)]
  rw [rp_num _ hb.2.2.2.2.2.1 hb.2.2.2.2.2.2 _ _ _ _ (by omega) rfl]
  rfl
theorem pres_cases (s : ByteArray) (h : ¬ 65536 < s.size) : (pres s).2 = 0 ∨ pres s = (zero, 8) := by
  unfold pres
  rw [if_neg h]
  split
  · split
    · exact .inl rfl
    · exact .inr rfl
  · exact .inr rfl
theorem rres_eq (s : ByteArray) : rres s = pres s := by
  unfold rres
  by_cases hs : 65536 < s.size
  · rw [if_pos hs]
    unfold pres
    rw [if_pos hs]
  · rw [if_neg hs]
    have key : ∀ c, rp (s.data.toList.drop 1) zero 0 false = c → (pres s).2 = 0 → c = some (pres s).1 := fun c h k => by
      have ho := pres_ok s k
      have ht := rp_text (pres s).1 ho.1
      rw [ho.2, h] at ht
      exact ht
    cases h : rp (s.data.toList.drop 1) zero 0 false with
    | none =>
      rcases pres_cases s hs with k | k
      · exact absurd (key _ h k) (by simp)
      · exact k.symm
    | some a =>
      simp only
      by_cases e : textB a = s
      · rw [if_pos e]
        have ha := rp_right _ _ _ _ _ h (by decide)
        have := pres_text a ha
        rw [e] at this
        exact this.symm
      · rw [if_neg e]
        rcases pres_cases s hs with k | k
        · have k2 := key _ h k
          injection k2 with k2
          exact absurd (k2 ▸ (pres_ok s k).2) e
        · exact k.symm
end Go.Proofs.YtfhdmknplpgiiaaDoor.Ck
