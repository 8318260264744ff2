/- Clocks of six numbers, told plainly: which are right, join, meet, order; the laws of the lattice. No condition. -/
import Derived.WalkKit
namespace Go.Proofs.YtfhdmknplpgiiaaDoor.Ck
open Go.RowKit

/-- May this be a time? -/
def okT (n : Int) : Bool := decide (0 ≤ n) && decide (n ≤ 1073741824)
structure C6 where
  a : Int
  b : Int
  c : Int
  d : Int
  e : Int
  f : Int
def C6.v (x : C6) : Value := .agg #[.int .i64 x.a, .int .i64 x.b, .int .i64 x.c, .int .i64 x.d, .int .i64 x.e, .int .i64 x.f]
def zero : C6 := ⟨0, 0, 0, 0, 0, 0⟩
def right (x : C6) : Bool := okT x.a && okT x.b && okT x.c && okT x.d && okT x.e && okT x.f
def join (x y : C6) : C6 := ⟨max x.a y.a, max x.b y.b, max x.c y.c, max x.d y.d, max x.e y.e, max x.f y.f⟩
def meet (x y : C6) : C6 := ⟨min x.a y.a, min x.b y.b, min x.c y.c, min x.d y.d, min x.e y.e, min x.f y.f⟩
def eq6 (x y : C6) : Bool := decide (x.a = y.a) && decide (x.b = y.b) && decide (x.c = y.c) && decide (x.d = y.d) && decide (x.e = y.e) && decide (x.f = y.f)
def le (x y : C6) : Bool := decide (x.a ≤ y.a) && decide (x.b ≤ y.b) && decide (x.c ≤ y.c) && decide (x.d ≤ y.d) && decide (x.e ≤ y.e) && decide (x.f ≤ y.f)
def cmp (x y : C6) : Int := if eq6 x y then 0 else if le x y then -1 else if le y x then 1 else 2

theorem eq6_iff (x y : C6) : eq6 x y = true ↔ x = y := by
  cases x; cases y; simp [eq6, and_assoc]
theorem le_iff (x y : C6) : le x y = true ↔ x.a ≤ y.a ∧ x.b ≤ y.b ∧ x.c ≤ y.c ∧ x.d ≤ y.d ∧ x.e ≤ y.e ∧ x.f ≤ y.f := by
  simp [le, and_assoc]
theorem ext6 {x y : C6} (ha : x.a = y.a) (hb : x.b = y.b) (hc : x.c = y.c) (hd : x.d = y.d) (he : x.e = y.e) (hf : x.f = y.f) : x = y := by
  cases x; cases y; simp_all
theorem join_eq (x y : C6) : eq6 (join x y) y = le x y := by
  rw [Bool.eq_iff_iff, eq6_iff, le_iff]
  constructor
  · intro h; rw [← h]; refine ⟨?_, ?_, ?_, ?_, ?_, ?_⟩ <;> simp only [join] <;> omega
  · rintro ⟨h1, h2, h3, h4, h5, h6⟩; apply ext6 <;> simp only [join] <;> omega
theorem right_iff (x : C6) : right x = true ↔ (0 ≤ x.a ∧ x.a ≤ 1073741824) ∧ (0 ≤ x.b ∧ x.b ≤ 1073741824) ∧ (0 ≤ x.c ∧ x.c ≤ 1073741824) ∧ (0 ≤ x.d ∧ x.d ≤ 1073741824) ∧ (0 ≤ x.e ∧ x.e ≤ 1073741824) ∧ (0 ≤ x.f ∧ x.f ≤ 1073741824) := by
  simp [right, okT, and_assoc]
theorem right_join {x y : C6} (hx : right x = true) (hy : right y = true) : right (join x y) = true := by
  rw [right_iff] at *; simp only [join]; omega
theorem right_meet {x y : C6} (hx : right x = true) (hy : right y = true) : right (meet x y) = true := by
  rw [right_iff] at *; simp only [meet]; omega
theorem join_comm (x y : C6) : join x y = join y x := by apply ext6 <;> simp only [join] <;> omega
theorem meet_comm (x y : C6) : meet x y = meet y x := by apply ext6 <;> simp only [meet] <;> omega
theorem join_assoc (x y z : C6) : join (join x y) z = join x (join y z) := by apply ext6 <;> simp only [join] <;> omega
theorem join_meet (x y : C6) : join x (meet x y) = x := by apply ext6 <;> simp only [join, meet] <;> omega
theorem meet_join (x y : C6) : meet x (join x y) = x := by apply ext6 <;> simp only [join, meet] <;> omega
theorem eq_refl (x : C6) : eq6 x x = true := (eq6_iff x x).2 rfl
theorem le_antisymm {x y : C6} (h : le x y = true) (k : le y x = true) : x = y := by
  rw [le_iff] at h k; apply ext6 <;> omega
theorem le_trans {x y z : C6} (h : le x y = true) (k : le y z = true) : le x z = true := by
  rw [le_iff] at *; omega
theorem le_refl (x : C6) : le x x = true := by rw [le_iff]; omega
theorem le_join_l (x y : C6) : le x (join x y) = true := by rw [le_iff]; simp only [join]; omega
theorem le_join_r (x y : C6) : le y (join x y) = true := by rw [le_iff]; simp only [join]; omega
theorem meet_le_l (x y : C6) : le (meet x y) x = true := by rw [le_iff]; simp only [meet]; omega
theorem meet_le_r (x y : C6) : le (meet x y) y = true := by rw [le_iff]; simp only [meet]; omega
theorem join_le {x y z : C6} (h : le x z = true) (k : le y z = true) : le (join x y) z = true := by rw [le_iff] at *; simp only [join]; omega
theorem le_meet {x y z : C6} (h : le z x = true) (k : le z y = true) : le z (meet x y) = true := by rw [le_iff] at *; simp only [meet]; omega

/-- What Cmp may say, in words of order. -/
theorem cmp_zero (x y : C6) : cmp x y = 0 ↔ x = y := by
  unfold cmp
  by_cases h : x = y
  · rw [if_pos ((eq6_iff x y).2 h)]; simp [h]
  · have h1 : ¬ eq6 x y = true := fun k => h ((eq6_iff x y).1 k)
    rw [if_neg h1]
    by_cases h2 : le x y = true
    · rw [if_pos h2]; simp [h]
    · rw [if_neg h2]; split <;> simp [h]
theorem cmp_neg (x y : C6) : cmp x y = -1 ↔ x ≠ y ∧ le x y = true := by
  unfold cmp
  by_cases h : x = y
  · rw [if_pos ((eq6_iff x y).2 h)]; simp [h]
  · have h1 : ¬ eq6 x y = true := fun k => h ((eq6_iff x y).1 k)
    rw [if_neg h1]
    by_cases h2 : le x y = true
    · rw [if_pos h2]; simp [h, h2]
    · rw [if_neg h2]; split <;> simp [h, h2]
theorem cmp_one (x y : C6) : cmp x y = 1 ↔ x ≠ y ∧ le y x = true := by
  unfold cmp; split
  · rename_i h; simp [(eq6_iff x y).1 h]
  · rename_i h; rw [eq6_iff] at h
    split
    · rename_i k; simp only [h, ne_eq, not_false_eq_true, true_and]
      constructor
      · intro e; omega
      · intro q; exact absurd (le_antisymm k q) h
    · split <;> simp_all
theorem cmp_range (x y : C6) : cmp x y = 0 ∨ cmp x y = -1 ∨ cmp x y = 1 ∨ cmp x y = 2 := by
  unfold cmp
  by_cases h1 : eq6 x y = true
  · simp [h1]
  · by_cases h2 : le x y = true
    · simp [h1, h2]
    · by_cases h3 : le y x = true <;> simp [h1, h2, h3]
theorem cmp_le (x y : C6) : cmp x y ≤ 0 ↔ le x y = true := by
  rcases cmp_range x y with h | h | h | h
  · rw [h, (cmp_zero x y).1 h]; simp [le_refl]
  · rw [h]; simp [((cmp_neg x y).1 h).2]
  · rw [h]; have := (cmp_one x y).1 h
    simp only [Int.reduceLE, false_iff]; intro k; exact this.1 (le_antisymm k this.2)
  · rw [h]; simp only [Int.reduceLE, false_iff]; intro k
    by_cases e : x = y
    · rw [(cmp_zero x y).2 e] at h; omega
    · rw [(cmp_neg x y).2 ⟨e, k⟩] at h; omega
theorem cmp_ge (x y : C6) : (cmp x y = 0 ∨ cmp x y = 1) ↔ le y x = true := by
  constructor
  · rintro (h | h)
    · rw [(cmp_zero x y).1 h]; exact le_refl _
    · exact ((cmp_one x y).1 h).2
  · intro k
    by_cases e : x = y
    · exact .inl ((cmp_zero x y).2 e)
    · exact .inr ((cmp_one x y).2 ⟨e, k⟩)
theorem cmp_flip (x y : C6) : cmp x y = 2 ∧ cmp y x = 2 ∨ cmp x y ≠ 2 ∧ cmp y x = -cmp x y := by
  rcases cmp_range x y with h | h | h | h
  · right; rw [h, (cmp_zero y x).2 ((cmp_zero x y).1 h).symm]; omega
  · right; rw [h, (cmp_one y x).2 ⟨fun e => ((cmp_neg x y).1 h).1 e.symm, ((cmp_neg x y).1 h).2⟩]; omega
  · right; rw [h, (cmp_neg y x).2 ⟨fun e => ((cmp_one x y).1 h).1 e.symm, ((cmp_one x y).1 h).2⟩]; omega
  · left; refine ⟨h, ?_⟩
    rcases cmp_range y x with k | k | k | k
    · rw [(cmp_zero x y).2 ((cmp_zero y x).1 k).symm] at h; omega
    · rw [(cmp_one x y).2 ⟨fun e => ((cmp_neg y x).1 k).1 e.symm, ((cmp_neg y x).1 k).2⟩] at h; omega
    · rw [(cmp_neg x y).2 ⟨fun e => ((cmp_one y x).1 k).1 e.symm, ((cmp_one y x).1 k).2⟩] at h; omega
    · exact k
end Go.Proofs.YtfhdmknplpgiiaaDoor.Ck
