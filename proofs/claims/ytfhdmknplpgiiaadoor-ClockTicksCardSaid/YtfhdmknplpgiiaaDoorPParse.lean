/- A clock's text, parted: what Parse makes of a text. No condition. -/
import Derived.Test.YtfhdmknplpgiiaaDoorW3
import Derived.Lib.Split
import Derived.Lib.SplitLaws
import Derived.Lib.AtoiAll
import Derived.Lib.Strings
import Derived.Lib.Join
namespace Go.Proofs.YtfhdmknplpgiiaaDoor.Ck
open Go.RowKit
namespace Tx
open Go.Lib
theorem index_comma (r : List UInt8) : ∀ d : List UInt8, 44 ∉ d → index (d ++ 44 :: r) [44] = d.length
  | [], _ => by
    rw [List.nil_append]
    unfold index
    rw [if_pos (by simp)]
    rfl
  | b :: d, h => by
    have hb : ¬ b = 44 := fun e => h (by simp [e])
    have ih := index_comma r d (fun k => h (by simp [k]))
    rw [List.cons_append]
    unfold index
    rw [if_neg (by simp; exact fun e => hb e.symm), ih]
    have : ¬ ((d.length : Int) == -1) = true := by simp
    rw [if_neg this]
    simp
theorem index_none : ∀ d : List UInt8, 44 ∉ d → index d [44] = -1
  | [], _ => rfl
  | b :: d, h => by
    have hb : ¬ b = 44 := fun e => h (by simp [e])
    have ih := index_none d (fun k => h (by simp [k]))
    unfold index
    rw [if_neg (by simp; exact fun e => hb e.symm), ih]
    rfl
theorem join_more (d e : List UInt8) (r : List (List UInt8)) : Lib.join (d :: e :: r) [44] = d ++ 44 :: Lib.join (e :: r) [44] := by
  simp [Lib.join, List.intercalate, List.intersperse]
theorem count_join : ∀ (ds : List (List UInt8)) (d : List UInt8) (fuel : Nat), (∀ x ∈ d :: ds, 44 ∉ x) → ds.length < fuel → countFrom [44] fuel (Lib.join (d :: ds) [44]) = ds.length
  | [], d, fuel, h, hf => by
    obtain ⟨f, rfl⟩ : ∃ f, fuel = f + 1 := ⟨fuel - 1, by simp at hf; omega⟩
    rw [join_one, countFrom, index_none d (h d (by simp))]
    rfl
  | e :: ds, d, fuel, h, hf => by
    obtain ⟨f, rfl⟩ : ∃ f, fuel = f + 1 := ⟨fuel - 1, by simp at hf; omega⟩
    have ih := count_join ds e f (fun x hx => h x (List.mem_cons_of_mem _ hx)) (by simp at hf; omega)
    rw [join_more, countFrom, index_comma _ d (h d (by simp))]
    rw [if_neg (by simp)]
    rw [show (d ++ 44 :: Lib.join (e :: ds) [44]).drop (((d.length : Int)).toNat + [(44 : UInt8)].length) = Lib.join (e :: ds) [44] by
      rw [show ((d.length : Int)).toNat + [(44 : UInt8)].length = d.length + 1 by simp]
      simp, ih]
    simp; omega
theorem split_join : ∀ (ds : List (List UInt8)) (d : List UInt8), (∀ x ∈ d :: ds, 44 ∉ x) → splitK [44] 0 ds.length (Lib.join (d :: ds) [44]) = d :: ds
  | [], d, _ => by rw [join_one]; rfl
  | e :: ds, d, h => by
    have ih := split_join ds e (fun x hx => h x (List.mem_cons_of_mem _ hx))
    rw [join_more, List.length_cons, splitK, index_comma _ d (h d (by simp))]
    rw [if_neg (by simp)]
    rw [show (d ++ 44 :: Lib.join (e :: ds) [44]).drop (((d.length : Int)).toNat + [(44 : UInt8)].length) = Lib.join (e :: ds) [44] by
      rw [show ((d.length : Int)).toNat + [(44 : UInt8)].length = d.length + 1 by simp]
      simp, ih]
    simp
theorem dig_toNat (d : Nat) (h : d < 10) : (UInt8.ofNat (48 + d)).toNat = 48 + d := by
  rw [UInt8.toNat_ofNat']
  omega
theorem digs_all (u : Nat) : ∀ c ∈ decDigits u, 48 ≤ c.toNat ∧ c.toNat ≤ 57 := by
  induction u using Nat.strongRecOn with
  | ind u ih =>
    intro c hc
    by_cases h : u < 10
    · rw [decDigits_one h] at hc
      simp only [List.mem_singleton] at hc
      subst hc
      rw [dig_toNat u h]; omega
    · rw [decDigits, dif_neg h] at hc
      rcases List.mem_append.1 hc with hc | hc
      · exact ih (u / 10) (by omega) c hc
      · simp only [List.mem_singleton] at hc
        subst hc
        rw [dig_toNat _ (by omega)]; omega
theorem digs_ne (u : Nat) : decDigits u ≠ [] := by
  intro h
  have := decDigits_length u
  have := nDigits_pos u
  rw [h] at *
  simp at *
  omega
theorem parse_digs (u : Nat) : ∀ (acc : Nat) (r : List UInt8), acc * 10 ^ nDigits u + u < 18446744073709551616 → parseUint10 acc (decDigits u ++ r) = parseUint10 (acc * 10 ^ nDigits u + u) r := by
  induction u using Nat.strongRecOn with
  | ind u ih =>
    intro acc r h
    by_cases hu : u < 10
    · rw [decDigits_one hu]
      rw [nDigits_small hu] at h ⊢
      simp only [Nat.pow_one] at h ⊢
      rw [List.singleton_append, parseUint10, dig_toNat u hu, if_pos (by omega), if_neg (by omega), if_neg (by omega)]
      congr 1
      omega
    · have hd : decDigits u = decDigits (u / 10) ++ [UInt8.ofNat (48 + u % 10)] := by rw [decDigits, dif_neg hu]
      have hn := nDigits_big hu
      rw [hn, Nat.pow_succ, ← Nat.mul_assoc] at h ⊢
      generalize hp : acc * 10 ^ nDigits (u / 10) = p at h ⊢
      have hi := ih (u / 10) (by omega) acc ([UInt8.ofNat (48 + u % 10)] ++ r) (by rw [hp]; omega)
      rw [hd, List.append_assoc, hi, hp, List.singleton_append, parseUint10, dig_toNat _ (by omega), if_pos (by omega), if_neg (by omega), if_neg (by omega)]
      congr 1
      omega
theorem atoi_pos (c : UInt8) (r : List UInt8) (u : Nat) (h : parseMag (c :: r) = .ok u) (h43 : ¬ c.toNat = 43) (h45 : ¬ c.toNat = 45) (hu : u < 9223372036854775808) : atoiAll (c :: r) = .ok (u : Int) := by
  unfold atoiAll
  dsimp only
  rw [if_neg (by omega), h]
  dsimp only
  rw [if_neg (fun k => absurd k.2 (by omega)), if_neg (fun k => h45 k.1), if_neg h45]
theorem atoi_num (n : Int) (h0 : 0 ≤ n) (h1 : n ≤ 1073741824) : atoiAll (itoa n) = .ok n ∧ 44 ∉ itoa n := by
  unfold itoa
  rw [if_neg (by omega)]
  have ha := digs_all n.toNat
  refine ⟨?_, fun h => absurd (ha _ h) (by decide)⟩
  have hp : parseMag (decDigits n.toNat) = .ok n.toNat := by
    unfold parseMag
    rw [if_neg (digs_ne _)]
    have := parse_digs n.toNat 0 [] (by simp; omega)
    rw [List.append_nil] at this
    rw [this, parseUint10]
    simp
  cases hl : decDigits n.toNat with
  | nil => exact absurd hl (digs_ne _)
  | cons c r =>
    have hc := ha c (by rw [hl]; simp)
    rw [hl] at hp
    rw [atoi_pos c r _ hp (by omega) (by omega) (by omega)]
    congr 1
    omega
end Tx
theorem nth_bound' (x : C6) (hx : right x = true) : (0 ≤ x.a ∧ x.a ≤ 1073741824) ∧ (0 ≤ x.b ∧ x.b ≤ 1073741824) ∧ (0 ≤ x.c ∧ x.c ≤ 1073741824) ∧ (0 ≤ x.d ∧ x.d ≤ 1073741824) ∧ (0 ≤ x.e ∧ x.e ≤ 1073741824) ∧ (0 ≤ x.f ∧ x.f ≤ 1073741824) := (right_iff x).1 hx
theorem text_size (x : C6) (hx : right x = true) : (textB x).size ≤ 65536 := by
  have hb := nth_bound' x hx
  have l := fun (n : Int) (h0 : 0 ≤ n) (h1 : n ≤ 1073741824) => Lib.itoa_length_le n (by omega) (by omega)
  have l0 := l _ hb.1.1 hb.1.2; have l1 := l _ hb.2.1.1 hb.2.1.2; have l2 := l _ hb.2.2.1.1 hb.2.2.1.2; have l3 := l _ hb.2.2.2.1.1 hb.2.2.2.1.2; have l4 := l _ hb.2.2.2.2.1.1 hb.2.2.2.2.1.2; have l5 := l _ hb.2.2.2.2.2.1 hb.2.2.2.2.2.2
  unfold textB joinB
  simp [ByteArray.size, Lib.join, C6.strs, num, List.intercalate, List.intersperse]
  omega
/-- The number that Atoi leaves of a piece. -/
def av (s : ByteArray) : Int :=
  match Lib.atoiAll s.data.toList with
  | .ok v => v
  | .range => Lib.atoiSat s.data.toList
  | _ => 0
/-- A text without its brackets. -/
def bare (s : ByteArray) : ByteArray := ⟨(Lib.trimSuffix (Lib.trimPrefix s.data.toList [60]) [62]).toArray⟩
def pieces (s : ByteArray) : List ByteArray := Lib.splitB ⟨#[44]⟩ 0 (Lib.countB (bare s) ⟨#[44]⟩) (bare s)
theorem text_list (a : C6) : (textB a).data.toList = 60 :: (Lib.join (a.strs.map (·.data.toList)) [44] ++ [62]) := by
  unfold textB joinB
  simp [ByteArray.data_append]
theorem bare_text (a : C6) : (bare (textB a)).data.toList = Lib.join (a.strs.map (·.data.toList)) [44] := by
  unfold bare
  rw [text_list]
  simp only [Lib.trimPrefix, Lib.hasPrefix, Lib.trimSuffix, Lib.hasSuffix]
  simp
theorem pieces_text (a : C6) (ha : right a = true) : pieces (textB a) = a.strs := by
  have hb := nth_bound' a ha
  have e : (pieces (textB a)).map (·.data.toList) = a.strs.map (·.data.toList) := by
    unfold pieces
    rw [Lib.splitB_data, bare_text]
    unfold Lib.countB
    rw [bare_text]
    have hn : ∀ x ∈ a.strs.map (·.data.toList), 44 ∉ x := by
      intro x hx
      simp only [C6.strs, num, List.map_cons, List.map_nil, List.mem_cons, List.not_mem_nil, or_false] at hx
      rcases hx with rfl | rfl | rfl | rfl | rfl | rfl
      · exact (Tx.atoi_num _ hb.1.1 hb.1.2).2
      · exact (Tx.atoi_num _ hb.2.1.1 hb.2.1.2).2
      · exact (Tx.atoi_num _ hb.2.2.1.1 hb.2.2.1.2).2
      · exact (Tx.atoi_num _ hb.2.2.2.1.1 hb.2.2.2.1.2).2
      · exact (Tx.atoi_num _ hb.2.2.2.2.1.1 hb.2.2.2.2.1.2).2
      · exact (Tx.atoi_num _ hb.2.2.2.2.2.1 hb.2.2.2.2.2.2).2
    have hs : a.strs.map (·.data.toList) = Lib.itoa a.a :: [Lib.itoa a.b, Lib.itoa a.c, Lib.itoa a.d, Lib.itoa a.e, Lib.itoa a.f] := rfl
    rw [hs] at hn ⊢
    have hc : Lib.count (Lib.join (Lib.itoa a.a :: [Lib.itoa a.b, Lib.itoa a.c, Lib.itoa a.d, Lib.itoa a.e, Lib.itoa a.f]) [44]) [44] = 5 := by
      unfold Lib.count
      refine Tx.count_join _ _ _ hn ?_
      simp [Lib.join, List.intercalate, List.intersperse]
      omega
    show Lib.splitK [44] 0 (Lib.count _ [44]) _ = _
    rw [hc]
    exact Tx.split_join _ _ hn
  refine List.map_inj_right (f := fun x : ByteArray => x.data.toList) (fun x y h => ?_) |>.1 e
  exact ByteArray.ext (Array.toList_inj.1 h)
theorem av_num (n : Int) (h0 : 0 ≤ n) (h1 : n ≤ 1073741824) : av (num n) = n := by
  unfold av num
  show (match Lib.atoiAll (Lib.itoa n) with | .ok v => v | .range => _ | _ => 0) = n
  rw [(Tx.atoi_num n h0 h1).1]
/-- What Parse answers. -/
def pres (s : ByteArray) : C6 × Int :=
  if 65536 < s.size then (zero, 2) else
  match pieces s with
  | [p0, p1, p2, p3, p4, p5] => if right ⟨av p0, av p1, av p2, av p3, av p4, av p5⟩ = true ∧ textB ⟨av p0, av p1, av p2, av p3, av p4, av p5⟩ = s then (⟨av p0, av p1, av p2, av p3, av p4, av p5⟩, 0) else (zero, 8)
  | _ => (zero, 8)
theorem pres_ok (s : ByteArray) (h : (pres s).2 = 0) : right (pres s).1 = true ∧ textB (pres s).1 = s := by
  unfold pres at h ⊢
  by_cases h1 : 65536 < s.size
  · rw [if_pos h1] at h
    simp at h
  · rw [if_neg h1] at h ⊢
    split at h
    · split at h
      · rename_i h3
        first
          | exact h3
          | (rw [if_pos h3]; exact h3)
      · simp at h
    · simp at h
theorem pres_text (a : C6) (ha : right a = true) : pres (textB a) = (a, 0) := by
  have hb := nth_bound' a ha
  have hsz : (textB a).size ≤ 65536 := text_size a ha
  unfold pres
  rw [if_neg (by omega), pieces_text a ha]
  simp only [C6.strs]
  rw [av_num _ hb.1.1 hb.1.2, av_num _ hb.2.1.1 hb.2.1.2, av_num _ hb.2.2.1.1 hb.2.2.1.2, av_num _ hb.2.2.2.1.1 hb.2.2.2.1.2, av_num _ hb.2.2.2.2.1.1 hb.2.2.2.2.1.2, av_num _ hb.2.2.2.2.2.1 hb.2.2.2.2.2.2]
  rw [if_pos ⟨ha, rfl⟩]
end Go.Proofs.YtfhdmknplpgiiaaDoor.Ck
