/- Places of the first like one, and how many are unlike, told plainly; and by a map from what was seen. No condition. -/
import Derived.Maps.OwnSet
namespace Go.Proofs.Ytbcdeanmjhcgeaa.Di
open Go.Maps
/-- The first of the first n that is like i. -/
def lk (e : Nat → Nat → Bool) (i : Nat) : Nat → Option Nat
  | 0 => none
  | n + 1 => match lk e i n with
    | some j => some j
    | none => if e n i = true then some n else none
def fs (e : Nat → Nat → Bool) (i : Nat) : Nat := (lk e i (i + 1)).getD i
def fsts (e : Nat → Nat → Bool) (n : Nat) : List Int := (List.range n).map fun i => (fs e i : Int)
/-- How many of the first n are like none ahead of them. -/
def dist (e : Nat → Nat → Bool) : Nat → Nat
  | 0 => 0
  | n + 1 => dist e n + if (lk e n n).isNone then 1 else 0
variable {e : Nat → Nat → Bool}
theorem fsts_len (n : Nat) : (fsts e n).length = n := by simp [fsts]
theorem fsts_succ (n : Nat) : fsts e (n + 1) = fsts e n ++ [(fs e n : Int)] := by simp [fsts, List.range_succ]
theorem not_f {b : Bool} (h : (!b) = false) : b = true := by simpa using h
theorem not_t {b : Bool} (h : (!b) = true) : b = false := by simpa using h
theorem lk_lt {i : Nat} : ∀ {n j : Nat}, lk e i n = some j → j < n
  | 0, j, h => by simp [lk] at h
  | n + 1, j, h => by
    unfold lk at h
    split at h
    · rename_i j' hj; obtain rfl := Option.some.inj h; exact Nat.lt_succ_of_lt (lk_lt hj)
    · split at h
      · obtain rfl := Option.some.inj h; exact Nat.lt_succ_self _
      · cases h
theorem lk_keep {i n j : Nat} (h : lk e i n = some j) : lk e i (n + 1) = some j := by simp [lk, h]
theorem lk_keep_le {i n j : Nat} (h : lk e i n = some j) : ∀ {m : Nat}, n ≤ m → lk e i m = some j
  | 0, hm => by have e0 : n = 0 := by omega
                subst e0; exact h
  | m + 1, hm => by
    by_cases hn : n = m + 1
    · subst hn; exact h
    · exact lk_keep (lk_keep_le h (by omega))
theorem lk_hit {i n : Nat} (h : lk e i n = none) (he : e n i = true) : lk e i (n + 1) = some n := by simp [lk, h, he]
theorem lk_miss {i n : Nat} (h : lk e i n = none) (he : e n i = false) : lk e i (n + 1) = none := by simp [lk, h, he]
theorem fs_le (i : Nat) : fs e i ≤ i := by
  unfold fs
  cases h : lk e i (i + 1) with
  | none => simp
  | some j => have := lk_lt h; simp; omega
theorem fs_of {i k j : Nat} (hk : k ≤ i + 1) (h : lk e i k = some j) : fs e i = j := by unfold fs; rw [lk_keep_le h hk]; rfl
theorem fs_self {i : Nat} (he : e i i = true) (h : lk e i i = none) : fs e i = i := by
  unfold fs
  cases h' : lk e i (i + 1) with
  | none => rfl
  | some j =>
    simp only [lk, h, he, if_true] at h'
    exact (Option.some.inj h').symm
theorem fs_ne {i j : Nat} (h : lk e i i = some j) : fs e i ≠ i := by
  rw [fs_of (Nat.le_succ i) h]; have := lk_lt h; omega
theorem dist_le (n : Nat) : dist e n ≤ n := by
  induction n with
  | zero => exact Nat.le_refl 0
  | succ n ih => unfold dist; split <;> omega
theorem fsts_bound {n : Nat} {x : Int} (h : x ∈ fsts e n) : 0 ≤ x ∧ x < n := by
  simp only [fsts, List.mem_map, List.mem_range] at h
  obtain ⟨i, hi, rfl⟩ := h
  have := fs_le (e := e) i
  omega
def like (K : Nat → Lit) : Nat → Nat → Bool := fun a b => (K a).sameKey (K b)
/-- The map of what was seen, after k rounds. -/
structure Held (K : Nat → Lit) (k : Nat) (D : DataW Unit) : Prop where
  tidy : Tidy D
  has : ∀ i, Maps.has D (K i) = (lk (like K) i k).isSome
  put : ∀ i j, lk (like K) i k = some j → D.atKey (K i) (.lit (.int .i64 0)) = .lit (.int .i64 j)
  size : Maps.size D = dist (like K) k
section
variable {K : Nat → Lit} (hK : ∀ i, WideAt.IsKeyLit (K i)) {k : Nat} {D : DataW Unit}
include hK
theorem same_iff (i j : Nat) : like K i j = true ↔ K i = K j := ⟨WideAt.sameKey_eq, fun h => by unfold like; rw [h]; exact WideAt.sameKey_self (hK j)⟩
omit hK in
theorem Held.start : Held K 0 (.map []) := ⟨tidy_empty, fun i => rfl, fun i j h => by simp [lk] at h, rfl⟩
theorem Held.old (h : Held K k D) (hd : Maps.has D (K k) = true) : Held K (k + 1) D := by
  have e1 : ∀ i, lk (like K) i (k + 1) = lk (like K) i k := fun i => by
    cases hi : lk (like K) i k with
    | some j => exact lk_keep hi
    | none =>
      refine lk_miss hi ?_
      rw [Bool.eq_false_iff]
      intro hs
      have := h.has i
      rw [hi, ← (same_iff hK k i).1 hs, hd] at this
      cases this
  refine ⟨h.tidy, fun i => by rw [e1]; exact h.has i, fun i j hj => h.put i j (by rw [← e1]; exact hj), ?_⟩
  rw [h.size, dist]
  have := h.has k
  rw [hd] at this
  cases hi : lk (like K) k k with
  | none => rw [hi] at this; cases this
  | some j => rfl
theorem Held.new (h : Held K k D) (hd : Maps.has D (K k) = false) : Held K (k + 1) (D.put (K k) (.lit (.int .i64 k))) := by
  have hn : ∀ i, K k = K i → lk (like K) i k = none := fun i e => by
    have := h.has i
    rw [← e, hd] at this
    exact Option.not_isSome_iff_eq_none.1 (by rw [← this]; simp)
  refine ⟨h.tidy.put (hK k) _, fun i => ?_, fun i j hj => ?_, ?_⟩
  · by_cases e : K k = K i
    · rw [lk_hit (hn i e) ((same_iff hK k i).2 e), ← e, has_put_same h.tidy.isMap (hK k)]; rfl
    · have hf : like K k i = false := by rw [Bool.eq_false_iff]; exact fun hs => e ((same_iff hK k i).1 hs)
      rw [has_put_other (fun e' => e e'.symm), h.has i]
      cases hi : lk (like K) i k with
      | some j => rw [lk_keep hi]
      | none => rw [lk_miss hi hf]
  · by_cases e : K k = K i
    · rw [lk_hit (hn i e) ((same_iff hK k i).2 e)] at hj
      obtain rfl := Option.some.inj hj
      rw [← e, atKey_put_same h.tidy.isMap (hK k)]
    · have hf : like K k i = false := by rw [Bool.eq_false_iff]; exact fun hs => e ((same_iff hK k i).1 hs)
      rw [atKey_put_other (fun e' => e e'.symm)]
      refine h.put i j ?_
      cases hi : lk (like K) i k with
      | some j' => rw [lk_keep hi] at hj; exact hj
      | none => rw [lk_miss hi hf] at hj; cases hj
  · rw [size_put h.tidy, hd, h.size, dist, hn k rfl]; rfl
theorem Held.fst (h : Held K (k + 1) D) : D.atKey (K k) (.lit (.int .i64 0)) = .lit (.int .i64 (fs (like K) k : Nat)) := by
  cases hi : lk (like K) k (k + 1) with
  | some j => rw [h.put k j hi, fs, hi]; rfl
  | none =>
    simp only [lk] at hi
    split at hi
    · cases hi
    · rw [if_pos ((same_iff hK k k).2 rfl)] at hi; cases hi
end
end Go.Proofs.Ytbcdeanmjhcgeaa.Di
