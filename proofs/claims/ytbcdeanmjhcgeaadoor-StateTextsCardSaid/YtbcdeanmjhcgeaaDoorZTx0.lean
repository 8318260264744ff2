/- Numbers in a row as a text, plainly: two rows with one text are the same. No condition. -/
import Derived.Test.YtbcdeanmjhcgeaaDoorZa
import Derived.Lib.ItoaNum
import Derived.Lib.ItoaLen
namespace Go.Proofs.YtbcdeanmjhcgeaaDoor.Tx
set_option linter.unusedVariables false
set_option linter.unusedSimpArgs false
open Go.Lib
open Go.Proofs.YtbcdeanmjhcgeaaDoor.Pg
theorem dig_toNat (d : Nat) (h : d < 10) : (UInt8.ofNat (48 + d)).toNat = 48 + d := by
  rw [UInt8.toNat_ofNat']
  omega
/-- What digits say. -/
def said (l : List UInt8) : Nat := l.foldl (fun a c => a * 10 + (c.toNat - 48)) 0
theorem said_digs (u : Nat) : said (decDigits u) = u := by
  induction u using Nat.strongRecOn with
  | ind u ih =>
    by_cases h : u < 10
    · rw [decDigits_one h]
      simp only [said, List.foldl_cons, List.foldl_nil, dig_toNat u h]; omega
    · rw [decDigits, dif_neg h]
      have := ih (u / 10) (by omega)
      simp only [said, List.foldl_append, List.foldl_cons, List.foldl_nil, dig_toNat _ (show u % 10 < 10 by omega)] at this ⊢
      rw [this]; omega
theorem digs_all (u : Nat) : ∀ c ∈ decDigits u, 48 ≤ c.toNat ∧ c.toNat ≤ 57 := by
  induction u using Nat.strongRecOn with
  | ind u ih =>
    intro c hc
    by_cases h : u < 10
    · rw [decDigits_one h] at hc
      simp only [List.mem_singleton] at hc
      subst hc
      rw [dig_toNat u h]; omega
    · rw [decDigits, dif_neg h] at hc
      rcases List.mem_append.1 hc with hc | hc
      · exact ih (u / 10) (by omega) c hc
      · simp only [List.mem_singleton] at hc
        subst hc
        rw [dig_toNat _ (by omega)]; omega
theorem digs_ne (u : Nat) : decDigits u ≠ [] := by
  intro h
  have := decDigits_length u
  have := nDigits_pos u
  rw [h] at *
  simp at *
  omega
theorem itoa_ne (n : Int) : itoa n ≠ [] := by
  unfold itoa
  split
  · simp
  · exact digs_ne _
theorem itoa_all (n : Int) : ∀ c ∈ itoa n, c ≠ 32 := by
  intro c hc
  unfold itoa at hc
  have key : ∀ u, c ∈ decDigits u → c ≠ 32 := fun u h e => by
    subst e
    have := digs_all u _ h
    simp at this
  split at hc
  · rcases List.mem_cons.1 hc with rfl | h
    · decide
    · exact key _ h
  · exact key _ hc
theorem itoa_inj {a b : Int} (h : itoa a = itoa b) : a = b := by
  have key : ∀ (u : Nat) (r : List UInt8), decDigits u ≠ 45 :: r := fun u r e => by
    have := digs_all u 45 (by rw [e]; simp)
    simp at this
  unfold itoa at h
  split at h <;> split at h
  · have := congrArg said (List.cons.inj h).2
    rw [said_digs, said_digs] at this
    omega
  · exact absurd h.symm (key _ _)
  · exact absurd h (key _ _)
  · have := congrArg said h
    rw [said_digs, said_digs] at this
    omega
/-- Each number behind a blank. -/
def refs (l : List Int) : List UInt8 := l.flatMap fun n => 32 :: itoa n
/-- The numbers, blanks between them. -/
def txt (l : List Int) : List UInt8 := (refs l).drop 1
theorem refs_nil : refs [] = [] := rfl
theorem refs_snoc (l : List Int) (n : Int) : refs (l ++ [n]) = refs l ++ 32 :: itoa n := by unfold refs; rw [List.flatMap_append]; simp
theorem refs_app (l m : List Int) : refs (l ++ m) = refs l ++ refs m := by unfold refs; rw [List.flatMap_append]
theorem txt_one (n : Int) : txt [n] = itoa n := by simp [txt, refs]
theorem txt_nil : txt [] = [] := rfl
theorem txt_snoc {l : List Int} (h : l ≠ []) (n : Int) : txt (l ++ [n]) = txt l ++ 32 :: itoa n := by
  unfold txt
  rw [refs_snoc]
  cases l with
  | nil => exact absurd rfl h
  | cons a l => rfl
theorem txt_ne {l : List Int} (h : l ≠ []) : txt l ≠ [] := by
  cases l with
  | nil => exact absurd rfl h
  | cons a l =>
    have := itoa_ne a
    intro e
    have e : itoa a ++ refs l = [] := e
    exact this (List.append_eq_nil_iff.1 e).1
theorem refs_len (l : List Int) (h : ∀ x ∈ l, I64 x) : (refs l).length ≤ 22 * l.length := by
  induction l with
  | nil => simp [refs]
  | cons a l ih =>
    have h1 := itoa_length_le a (h a (List.mem_cons_self ..)).1 (h a (List.mem_cons_self ..)).2
    have h2 := ih fun x hx => h x (List.mem_cons_of_mem _ hx)
    show ((32 :: itoa a) ++ refs l).length ≤ _
    simp only [List.length_append, List.length_cons]
    omega
theorem txt_len (l : List Int) (h : ∀ x ∈ l, I64 x) : (txt l).length ≤ 22 * l.length := by
  have := refs_len l h
  unfold txt
  rw [List.length_drop]; omega
theorem upto_blank (a : List UInt8) (ha : ∀ c ∈ a, c ≠ 32) (r : List UInt8) (hr : r = [] ∨ ∃ q, r = 32 :: q) : (a ++ r).takeWhile (· ≠ 32) = a ∧ (a ++ r).dropWhile (· ≠ 32) = r := by
  induction a with
  | nil =>
    rcases hr with rfl | ⟨q, rfl⟩
    · exact ⟨rfl, rfl⟩
    · simp
  | cons c a ih =>
    have hc := ha c (List.mem_cons_self ..)
    have := ih fun x hx => ha x (List.mem_cons_of_mem _ hx)
    rw [List.cons_append, List.takeWhile_cons_of_pos (by simpa using hc), List.dropWhile_cons_of_pos (by simpa using hc), this.1, this.2]
    exact ⟨rfl, rfl⟩
theorem refs_head (l : List Int) : refs l = [] ∨ ∃ q, refs l = 32 :: q := by
  cases l with
  | nil => exact .inl rfl
  | cons a l => exact .inr ⟨itoa a ++ refs l, rfl⟩
theorem refs_inj : ∀ {l m : List Int}, refs l = refs m → l = m
  | [], [], _ => rfl
  | [], b :: m, h => by cases (show ([] : List UInt8) = 32 :: (itoa b ++ refs m) from h)
  | a :: l, [], h => by cases (show 32 :: (itoa a ++ refs l) = ([] : List UInt8) from h)
  | a :: l, b :: m, h => by
    have h : (32 : UInt8) :: (itoa a ++ refs l) = 32 :: (itoa b ++ refs m) := h
    have h := (List.cons.inj h).2
    have h1 := upto_blank (itoa a) (itoa_all a) (refs l) (refs_head l)
    have h2 := upto_blank (itoa b) (itoa_all b) (refs m) (refs_head m)
    rw [h] at h1
    have e1 := itoa_inj (h1.1.symm.trans h2.1)
    have e2 := refs_inj (h1.2.symm.trans h2.2)
    rw [e1, e2]
theorem txt_inj {l m : List Int} (hl : l ≠ []) (hm : m ≠ []) (h : txt l = txt m) : l = m := by
  refine refs_inj ?_
  cases l with
  | nil => exact absurd rfl hl
  | cons a l =>
    cases m with
    | nil => exact absurd rfl hm
    | cons b m =>
      have h : itoa a ++ refs l = itoa b ++ refs m := h
      show 32 :: (itoa a ++ refs l) = 32 :: (itoa b ++ refs m)
      rw [h]
/-- A bool as a number. -/
def bi (b : Bool) : Int := if b = true then 1 else 0
def cnums (c : Ch) : List Int := c.buf ++ [c.len, bi c.closed, c.offer, c.frm, c.val]
def gnums (g : Gr) : List Int := [g.status, g.func, g.pc, g.why] ++ g.regs
/-- The numbers of a state. -/
def nums (s : St) : List Int := s.vars ++ (s.owner ++ (s.chans.flatMap cnums ++ (s.gos.flatMap gnums ++ [s.count])))
theorem bi_inj {a b : Bool} (h : bi a = bi b) : a = b := by cases a <;> cases b <;> simp [bi] at h <;> rfl
theorem cnums_inj {a b : Ch} (ha : a.ok) (hb : b.ok) (h : cnums a = cnums b) : a = b := by
  obtain ⟨b1, l1, c1, o1, f1, v1⟩ := a
  obtain ⟨b2, l2, c2, o2, f2, v2⟩ := b
  have e1 := ha.blen
  have e2 := hb.blen
  unfold cnums at h
  obtain ⟨h1, h2⟩ := List.append_inj h (by simp only at e1 e2 ⊢; omega)
  simp only [List.cons.injEq, and_true] at h1 h2
  obtain ⟨rfl, h3, rfl, rfl, rfl⟩ := h2
  rw [h1, bi_inj h3]
theorem gnums_inj {a b : Gr} (h : gnums a = gnums b) : a = b := by
  obtain ⟨a1, a2, a3, a4, a5⟩ := a
  obtain ⟨b1, b2, b3, b4, b5⟩ := b
  simp only [gnums, List.cons_append, List.nil_append, List.cons.injEq] at h
  obtain ⟨rfl, rfl, rfl, rfl, rfl⟩ := h
  rfl
theorem flat_inj {α : Type} {f : α → List Int} {c : Nat} {R : α → Prop} (hf : ∀ x, R x → (f x).length = c) (hi : ∀ x y, R x → R y → f x = f y → x = y) : ∀ {l m : List α}, (∀ x ∈ l, R x) → (∀ x ∈ m, R x) → l.length = m.length → l.flatMap f = m.flatMap f → l = m
  | [], [], _, _, _, _ => rfl
  | [], _ :: _, _, _, h, _ => by simp at h
  | _ :: _, [], _, _, h, _ => by simp at h
  | a :: l, b :: m, hl, hm, hn, h => by
    rw [List.flatMap_cons, List.flatMap_cons] at h
    have ra := hl a (List.mem_cons_self ..)
    have rb := hm b (List.mem_cons_self ..)
    obtain ⟨h1, h2⟩ := List.append_inj h (by rw [hf a ra, hf b rb])
    rw [hi a b ra rb h1, flat_inj hf hi (fun x hx => hl x (List.mem_cons_of_mem _ hx)) (fun x hx => hm x (List.mem_cons_of_mem _ hx)) (by simpa using hn) h2]
theorem flat_len {α : Type} {f : α → List Int} {c : Nat} : ∀ {l : List α}, (∀ x ∈ l, (f x).length = c) → (l.flatMap f).length = l.length * c
  | [], _ => by simp
  | a :: l, h => by rw [List.flatMap_cons, List.length_append, h a (List.mem_cons_self ..), flat_len fun x hx => h x (List.mem_cons_of_mem _ hx), List.length_cons, Nat.succ_mul]; omega
theorem cnums_len {c : Ch} (h : c.ok) : (cnums c).length = 9 := by simp [cnums, h.blen]
theorem gnums_len {g : Gr} (h : g.ok) : (gnums g).length = 12 := by simp [gnums, h.len]
theorem nums_inj {s t : St} (hs : s.ok) (ht : t.ok) (h : nums s = nums t) : s = t := by
  unfold nums at h
  obtain ⟨h1, h⟩ := List.append_inj h (by rw [hs.lv, ht.lv])
  obtain ⟨h2, h⟩ := List.append_inj h (by rw [hs.lo, ht.lo])
  obtain ⟨h3, h⟩ := List.append_inj h (by rw [flat_len fun x hx => cnums_len (hs.chans x hx), flat_len fun x hx => cnums_len (ht.chans x hx), hs.lc, ht.lc])
  obtain ⟨h4, h⟩ := List.append_inj h (by rw [flat_len fun x hx => gnums_len (hs.gos x hx), flat_len fun x hx => gnums_len (ht.gos x hx), hs.lg, ht.lg])
  have h5 := flat_inj (R := Ch.ok) (fun x hx => cnums_len hx) (fun x y hx hy => cnums_inj hx hy) hs.chans ht.chans (by rw [hs.lc, ht.lc]) h3
  have h6 := flat_inj (R := Gr.ok) (fun x hx => gnums_len hx) (fun x y _ _ => gnums_inj) hs.gos ht.gos (by rw [hs.lg, ht.lg]) h4
  have h7 := (List.cons.inj h).1
  clear h h3 h4 hs ht
  cases s; cases t
  simp only at h1 h2 h5 h6 h7
  subst h1 h2 h5 h6 h7
  rfl
theorem nums_ne (s : St) : nums s ≠ [] := by
  intro h
  have := congrArg List.length h
  simp [nums] at this
theorem bi_i64 (b : Bool) : I64 (bi b) := by cases b <;> exact ⟨by decide, by decide⟩
theorem cnums_ok {c : Ch} (h : c.ok) : ∀ x ∈ cnums c, I64 x := fun x hx => by
  simp only [cnums, List.mem_append, List.mem_cons, List.not_mem_nil, or_false] at hx
  rcases hx with hx | rfl | rfl | rfl | rfl | rfl
  · exact h.buf x hx
  · exact h.len
  · exact bi_i64 _
  · exact h.offer
  · exact h.frm
  · exact h.val
theorem gnums_ok {g : Gr} (h : g.ok) : ∀ x ∈ gnums g, I64 x := fun x hx => by
  simp only [gnums, List.mem_append, List.mem_cons, List.not_mem_nil, or_false] at hx
  rcases hx with (rfl | rfl | rfl | rfl) | hx
  · exact h.st
  · exact h.fn
  · exact h.pc
  · exact h.why
  · exact h.regs x hx
theorem nums_ok {s : St} (h : s.ok) : ∀ x ∈ nums s, I64 x := fun x hx => by
  simp only [nums, List.mem_append, List.mem_flatMap, List.mem_cons, List.not_mem_nil, or_false] at hx
  rcases hx with hx | hx | ⟨c, hc, hx⟩ | ⟨g, hg, hx⟩ | rfl
  · exact h.vars x hx
  · exact h.owner x hx
  · exact cnums_ok (h.chans c hc) x hx
  · exact gnums_ok (h.gos g hg) x hx
  · exact h.count
/-- Texts are the same just of states that are. -/
theorem text_iff {s t : St} (hs : s.ok) (ht : t.ok) : txt (nums s) = txt (nums t) ↔ s = t :=
  ⟨fun h => nums_inj hs ht (txt_inj (nums_ne s) (nums_ne t) h), fun h => by rw [h]⟩
end Go.Proofs.YtbcdeanmjhcgeaaDoor.Tx
