/- Several texts of one proof, one behind the other. Settle, told in one: both sides give what stl tells. | Local instructions run with fuel, plainly: fuel adds up. No condition. | A valid state, a goroutine of it settled: valid again. No condition. | A goroutine that is settled fits its program. No condition. | Settle, plainly: valid again, fuel adds up, goroutines do not matter to each other. No condition. | The state in which a program begins, plainly, and rows written one by one. No condition. | A started state is valid. No condition. -/
import Derived.Test.YtbcdeanmjhcgeaaDoorZL3
import Derived.Test.YtbcdeanmjhcgeaaDoorZL6
namespace Go.Proofs.YtbcdeanmjhcgeaaDoor.Pg
set_option linter.unusedVariables false
set_option linter.unusedSimpArgs false
open Go.ChangeShapes Go.WideShapes Go.RowKit
set_option linter.unusedVariables false
/-- What Settle gives: a state and an error's number. -/
def stl (A : Int → Int → Int → Int × Int) (P : Pg) (s : St) (g f : Int) : St × Int :=
  if right P = true then
    (if valid P s = true then
      (if g < 0 ∨ 6 ≤ g ∨ f < 0 ∨ 4096 < f then (St.none, 1)
       else if s.count ≤ g then (St.none, 9)
       else if (s.gos.getD g.toNat default).status = 1 ∨ (s.gos.getD g.toNat default).status = 5 then (s.setGo g.toNat (settle A P f.toNat (s.gos.getD g.toNat default).live), 0)
       else (s, 0))
     else (St.none, 4))
  else (St.none, 3)
theorem settleS_walk {A : Int → Int → Int → Int × Int} (AI : AluOk A) (AW : AluWhy A) (P : Pg) (s : St) (g f : Int) (w : World) (I : P.In w) (hs : s.ok) (hA : AppW A w) :
    Calls Tryd.prog 22 #[P.v, s.v, .int .i64 g, .int .i64 f] w fun e w' => e = .returned (.tuple #[(stl A P s g f).1.v, .int .i64 (stl A P s g f).2]) ∧ Below w.heap.size w w' := by
  unfold stl
  by_cases hR : right P = true
  · rw [if_pos hR]
    by_cases hV : valid P s = true
    · rw [if_pos hV]
      by_cases h1 : g < 0
      · rw [if_pos (.inl h1)]; exact settleS_e1a P s g f w I hs hR hV h1
      by_cases h2 : 6 ≤ g
      · rw [if_pos (.inr (.inl h2))]; exact settleS_e1b P s g f w I hs hR hV (by omega)
      by_cases h3 : f < 0
      · rw [if_pos (.inr (.inr (.inl h3)))]; exact settleS_e1c P s g f w I hs hR hV (by omega) h3
      by_cases h4 : 4096 < f
      · rw [if_pos (.inr (.inr (.inr h4)))]; exact settleS_e1d P s g f w I hs hR hV (by omega) h4
      rw [if_neg (by omega)]
      by_cases h5 : s.count ≤ g
      · rw [if_pos h5]; exact settleS_e9 P s g f w I hs hR hV (by omega) (by omega) h5
      rw [if_neg h5]
      obtain ⟨k, rfl⟩ : ∃ k : Nat, g = k := ⟨g.toNat, by omega⟩
      obtain ⟨n, rfl⟩ : ∃ n : Nat, f = n := ⟨f.toNat, by omega⟩
      rw [Int.toNat_natCast, Int.toNat_natCast]
      by_cases hq : (s.gos.getD k default).status = 1 ∨ (s.gos.getD k default).status = 5
      · rw [if_pos hq]; exact settleS_run P s k n w I hs hR hV (by omega) (by omega) (by omega) AI AW hA hq
      · rw [if_neg hq]; exact settleS_stay P s k n w I hs hR hV (by omega) (by omega) (by omega) (fun h => hq (.inl h)) (fun h => hq (.inr h))
    · rw [if_neg hV]; exact settleS_e4 P s g f w I hs hR (by simpa using hV)
  · rw [if_neg hR]; exact settleS_e3 P s g f w I hs (by simpa using hR)
theorem settleR_walk {A : Int → Int → Int → Int × Int} (AI : AluOk A) (AW : AluWhy A) (P : Pg) (s : St) (g f : Int) (w : World) (I : P.In w) (hs : s.ok) (hA : AppR A w) :
    Calls Tryd.prog 23 #[P.v, s.v, .int .i64 g, .int .i64 f] w fun e w' => e = .returned (.tuple #[(stl A P s g f).1.v, .int .i64 (stl A P s g f).2]) ∧ Below w.heap.size w w' := by
  unfold stl
  by_cases hR : right P = true
  · rw [if_pos hR]
    by_cases hV : valid P s = true
    · rw [if_pos hV]
      by_cases h1 : g < 0
      · rw [if_pos (.inl h1)]; exact settleR_e1a P s g f w I hs hR hV h1
      by_cases h2 : 6 ≤ g
      · rw [if_pos (.inr (.inl h2))]; exact settleR_e1b P s g f w I hs hR hV (by omega)
      by_cases h3 : f < 0
      · rw [if_pos (.inr (.inr (.inl h3)))]; exact settleR_e1c P s g f w I hs hR hV (by omega) h3
      by_cases h4 : 4096 < f
      · rw [if_pos (.inr (.inr (.inr h4)))]; exact settleR_e1d P s g f w I hs hR hV (by omega) h4
      rw [if_neg (by omega)]
      by_cases h5 : s.count ≤ g
      · rw [if_pos h5]; exact settleR_e9 P s g f w I hs hR hV (by omega) (by omega) h5
      rw [if_neg h5]
      obtain ⟨k, rfl⟩ : ∃ k : Nat, g = k := ⟨g.toNat, by omega⟩
      obtain ⟨n, rfl⟩ : ∃ n : Nat, f = n := ⟨f.toNat, by omega⟩
      rw [Int.toNat_natCast, Int.toNat_natCast]
      by_cases hq : (s.gos.getD k default).status = 1 ∨ (s.gos.getD k default).status = 5
      · rw [if_pos hq]; exact settleR_run P s k n w I hs hR hV (by omega) (by omega) (by omega) AI AW hA hq
      · rw [if_neg hq]; exact settleR_stay P s k n w I hs hR hV (by omega) (by omega) (by omega) (fun h => hq (.inl h)) (fun h => hq (.inr h))
    · rw [if_neg hV]; exact settleR_e4 P s g f w I hs hR (by simpa using hV)
  · rw [if_neg hR]; exact settleR_e3 P s g f w I hs (by simpa using hR)
end Go.Proofs.YtbcdeanmjhcgeaaDoor.Pg
namespace Go.Proofs.YtbcdeanmjhcgeaaDoor.Pg
set_option linter.unusedVariables false
set_option linter.unusedSimpArgs false
variable {A : Int → Int → Int → Int × Int} {P : Pg}
/-- What Settle does to a goroutine. -/
def again (A : Int → Int → Int → Int × Int) (P : Pg) (m : Nat) (g : Gr) : Gr := if g.status = 1 ∨ g.status = 5 then settle A P m g.live else g
theorem step_status (W : AluWhy A) {x : Ins} {g : Gr} (hl : loc x.op = true) : (step A x g).status = g.status ∨ (step A x g).status = 3 ∨ (step A x g).status = 4 := by
  rcases way (g := g) W hl with ⟨v, e, _, _⟩ | ⟨e, _⟩ | ⟨t, e, _⟩ | ⟨s, y, e, ho⟩
  · rw [e]; exact .inl rfl
  · rw [e]; exact .inl rfl
  · rw [e]; exact .inl rfl
  · rw [e]
    show s = g.status ∨ s = 3 ∨ s = 4
    omega
theorem live_self {g : Gr} (h : g.status = 1) : g.live = g := by
  obtain ⟨a, b, c, d, e⟩ := g
  simp only at h
  subst h
  rfl
theorem settle_add (W : AluWhy A) (m : Nat) : ∀ (n : Nat) (g : Gr), g.status = 1 → again A P m (settle A P n g) = settle A P (n + m) g := by
  intro n
  induction n with
  | zero =>
    intro g h
    rw [Nat.zero_add]
    by_cases hc : g.status = 1 ∧ loc (g.ins P).op = true
    · rw [settle_spun hc]
      unfold again
      rw [if_pos (.inr rfl)]
      show settle A P m ⟨1, g.func, g.pc, g.why, g.regs⟩ = _
      rw [show (⟨1, g.func, g.pc, g.why, g.regs⟩ : Gr) = g from live_self h]
    · rw [settle_stop hc]
      unfold again
      rw [if_pos (.inl h), live_self h]
  | succ n ih =>
    intro g h
    rw [show n + 1 + m = (n + m) + 1 by omega]
    by_cases hc : g.status = 1 ∧ loc (g.ins P).op = true
    · rw [settle_next hc, settle_next hc]
      rcases step_status (g := g) W hc.2 with e | e | e
      · exact ih _ (e.trans h)
      · rw [settle_stop (by omega), settle_stop (by omega)]
        unfold again
        rw [if_neg (by omega)]
      · rw [settle_stop (by omega), settle_stop (by omega)]
        unfold again
        rw [if_neg (by omega)]
    · rw [settle_stop hc, settle_stop hc]
      unfold again
      rw [if_pos (.inl h), live_self h, settle_stop hc]
end Go.Proofs.YtbcdeanmjhcgeaaDoor.Pg
namespace Go.Proofs.YtbcdeanmjhcgeaaDoor.Pg
set_option linter.unusedVariables false
set_option linter.unusedSimpArgs false
variable {A : Int → Int → Int → Int × Int} {P : Pg}
theorem getD_setGo {s : St} (hs : s.ok) (k : Nat) (hk : k < 6) (g : Gr) (j : Nat) : (s.setGo k g).gos.getD j default = if j = k then g else s.gos.getD j default := by
  have hl := hs.lg
  show (s.gos.set k g).getD j default = _
  rw [List.getD_eq_getElem?_getD, List.getD_eq_getElem?_getD, List.getElem?_set]
  by_cases h : j = k
  · subst h; simp [show j < s.gos.length by omega]
  · rw [if_neg h, if_neg (fun e => h e.symm)]
theorem valid_setGo {s : St} (hs : s.ok) (hV : valid P s = true) (k : Nat) (hk : (k : Int) < s.count) (hst : (s.gos.getD k default).status ≠ 2) (g : Gr) (hg : fits P g = true) (hg2 : g.status ≠ 2) : valid P (s.setGo k g) = true := by
  have hc := valid_count hV
  have hk6 : k < 6 := by omega
  have hG := getD_setGo hs k hk6 g
  rw [valid_eq] at hV ⊢
  simp only [Bool.and_eq_true] at hV ⊢
  obtain ⟨h1, h2, h3, h4, h5, h6, h7⟩ := hV
  refine ⟨h1, h2, h3, h4, ?_, ?_, ?_⟩
  · unfold gosOk at h5 ⊢
    rw [List.all_eq_true] at h5 ⊢
    intro j hj
    have h := h5 j hj
    rw [hG j]
    show (if (j : Int) < s.count then _ else _) = true
    by_cases e : j = k
    · subst e
      rw [if_pos hk, if_pos rfl]; exact hg
    · rw [if_neg e]; exact h
  · unfold chansOk at h6 ⊢
    rw [List.all_eq_true] at h6 ⊢
    intro j hj
    have h := h6 j hj
    show (if j < P.chans.length then chanOk P (s.setGo k g) j (s.chans.getD j default) else decide (s.chans.getD j default = default)) = true
    by_cases e : j < P.chans.length
    · rw [if_pos e] at h ⊢
      unfold chanOk at h ⊢
      simp only [Bool.and_eq_true] at h ⊢
      obtain ⟨a, b, c⟩ := h
      refine ⟨a, b, ?_⟩
      by_cases ho : (s.chans.getD j default).offer = 0
      · rw [if_pos ho] at c ⊢; exact c
      · rw [if_neg ho] at c ⊢
        simp only [Bool.and_eq_true] at c ⊢
        refine ⟨c.1, ?_⟩
        have hw := c.2
        unfold waits at hw ⊢
        simp only [Bool.and_eq_true, decide_eq_true_eq] at hw
        have hne : (s.chans.getD j default).frm.toNat ≠ k := fun e => hst (e ▸ hw.2.1)
        rw [hG, if_neg hne]
        simp only [Bool.and_eq_true, decide_eq_true_eq]
        exact hw
    · rw [if_neg e] at h ⊢; exact h
  · unfold waitsOk at h7 ⊢
    rw [List.all_eq_true] at h7 ⊢
    intro j hj
    have h := h7 j hj
    rw [hG j]
    show (_ || decide (offers s j = 1)) = true
    by_cases e : j = k
    · subst e
      rw [if_pos rfl, show decide (g.status ≠ 2) = true by simpa using hg2, Bool.true_or]
    · rw [if_neg e]; exact h
end Go.Proofs.YtbcdeanmjhcgeaaDoor.Pg
namespace Go.Proofs.YtbcdeanmjhcgeaaDoor.Pg
set_option linter.unusedVariables false
set_option linter.unusedSimpArgs false
variable {A : Int → Int → Int → Int × Int} {P : Pg}
/-- A live goroutine that fits. -/
structure Neat (P : Pg) (g : Gr) : Prop where
  st : Stood P g
  s1 : g.status = 1
  why : g.why = 0
  zs : zeros (P.fn g.func).regs g.regs = true
theorem stands_of {g : Gr} (h : Stood P g) (h1 : 1 ≤ g.status) (h5 : g.status ≤ 5) : stands P g = true := by
  unfold stands
  simp only [Bool.and_eq_true, decide_eq_true_eq]
  exact ⟨⟨h1, h5, h.f0, h.f1⟩, h.p0, h.p1⟩
theorem zeros_set {n : Int} {l : List Int} {a v : Int} (h : zeros n l = true) (h0 : 0 ≤ a) (h1 : a < n) : zeros n (l.set a.toNat v) = true := by
  rw [zeros_iff] at h ⊢
  intro j hj
  rw [List.length_set] at hj
  by_cases e : j = a.toNat
  · exact .inl (by omega)
  · rcases h j hj with q | q
    · exact .inl q
    · refine .inr ?_
      rw [List.getD_eq_getElem?_getD, List.getElem?_set_ne (fun x => e x.symm), ← List.getD_eq_getElem?_getD]; exact q
theorem Neat.fits {g : Gr} (h : Neat P g) : fits P g = true := by
  rw [fits_eq, stands_of h.st (by have := h.s1; omega) (by have := h.s1; omega), Bool.true_and]
  have h1 := h.s1
  rw [show ends g = false by unfold ends; simp [h1], if_neg (by simp), h.zs, Bool.true_and, if_neg (by omega)]
  simp [h.why, h1]
theorem step_fits (R : Rt P) (hA : AluOk A) (W : AluWhy A) {g : Gr} (hx : (g.ins P).ok) (h : Neat P g) (hl : loc (g.ins P).op = true) :
    Neat P (step A (g.ins P) g) ∨ ((step A (g.ins P) g).status ≠ 1 ∧ (step A (g.ins P) g).status ≠ 2 ∧ fits P (step A (g.ins P) g) = true) := by
  have hs := h.st.step R hA W hx hl
  have L := h.st.locOk R
  rcases way (g := g) W hl with ⟨v, e, hv, ho⟩ | ⟨e, ho⟩ | ⟨t, e, ho⟩ | ⟨s, y, e, ho⟩
  · rw [e] at hs ⊢
    have ha := L.a (by omega)
    exact .inl ⟨hs, h.s1, h.why, zeros_set h.zs ha.1 ha.2⟩
  · rw [e] at hs ⊢
    exact .inl ⟨hs, h.s1, h.why, h.zs⟩
  · rw [e] at hs ⊢
    exact .inl ⟨hs, h.s1, h.why, h.zs⟩
  · rw [e] at hs ⊢
    refine .inr ⟨show s ≠ 1 by omega, show s ≠ 2 by omega, ?_⟩
    have hst : stands P (g.fin s y) = true := stands_of hs (show 1 ≤ s by omega) (show s ≤ 5 by omega)
    rw [fits_eq, hst, Bool.true_and]
    have he : ends (g.fin s y) = true := by unfold ends; rw [decide_eq_true_eq]; show s = 3 ∨ s = 4; omega
    have hz : zeros 0 (g.fin s y).regs = true := by rfl
    rw [he, if_pos rfl, hz, Bool.true_and]
    have hi : (g.fin s y).ins P = g.ins P := rfl
    rw [hi]
    show (if s = 4 then may y (g.ins P).op else decide (y = 0) && (decide (s ≠ 3) || decide ((g.ins P).op = 45)) && (decide (s ≠ 5) || loc (g.ins P).op)) = true
    rcases ho with ⟨rfl, rfl, ho⟩ | ⟨rfl, ho, _⟩
    · simp [ho]
    · rw [if_pos rfl]; exact ho
theorem settle_fits (R : Rt P) (hA : AluOk A) (W : AluWhy A) (hx : ∀ f ∈ P.funcs, ∀ x ∈ f.code, x.ok) : ∀ (n : Nat) (g : Gr), Neat P g → fits P (settle A P n g) = true ∧ (settle A P n g).status ≠ 2 := by
  intro n
  induction n with
  | zero =>
    intro g h
    by_cases hc : g.status = 1 ∧ loc (g.ins P).op = true
    · rw [settle_spun hc]
      refine ⟨?_, by simp⟩
      have hs : Stood P (⟨5, g.func, g.pc, g.why, g.regs⟩ : Gr) := ⟨⟨i64_small (n := 5) (by omega) (by omega), h.st.ok.fn, h.st.ok.pc, h.st.ok.why, h.st.ok.regs, h.st.ok.len⟩, h.st.f0, h.st.f1, h.st.p0, h.st.p1⟩
      have hz := h.zs
      rw [fits_eq, stands_of hs (show (1 : Int) ≤ 5 by omega) (show (5 : Int) ≤ 5 by omega), Bool.true_and]
      rw [show ends (⟨5, g.func, g.pc, g.why, g.regs⟩ : Gr) = false by rfl, if_neg (by simp)]
      show (zeros (P.fn g.func).regs g.regs && _) = true
      rw [hz, Bool.true_and, if_neg (show ¬ (5 : Int) = 4 by omega)]
      have hl : loc ((⟨5, g.func, g.pc, g.why, g.regs⟩ : Gr).ins P).op = true := hc.2
      rw [hl]
      simp [h.why]
    · rw [settle_stop hc]; exact ⟨h.fits, by have := h.s1; omega⟩
  | succ n ih =>
    intro g h
    by_cases hc : g.status = 1 ∧ loc (g.ins P).op = true
    · rw [settle_next hc]
      rcases step_fits R hA W (hx _ h.st.fn_mem _ h.st.ins_mem) h hc.2 with q | ⟨q1, q2, q3⟩
      · exact ih _ q
      · rw [settle_stop (fun e => q1 e.1)]; exact ⟨q3, q2⟩
    · rw [settle_stop hc]; exact ⟨h.fits, by have := h.s1; omega⟩
end Go.Proofs.YtbcdeanmjhcgeaaDoor.Pg
namespace Go.Proofs.YtbcdeanmjhcgeaaDoor.Pg
set_option linter.unusedVariables false
set_option linter.unusedSimpArgs false
variable {A : Int → Int → Int → Int × Int} {P : Pg}
theorem setGo_self {s : St} (hs : s.ok) (k : Nat) (hk : k < 6) : s.setGo k (s.gos.getD k default) = s := by
  obtain ⟨a, b, c, d, e⟩ := s
  have hl : d.length = 6 := hs.lg
  show (⟨a, b, c, d.set k (d.getD k default), e⟩ : St) = _
  rw [List.getD_eq_getElem?_getD, List.getElem?_eq_getElem (by omega)]
  simp
theorem setGo_twice (s : St) (k : Nat) (g h : Gr) : (s.setGo k g).setGo k h = s.setGo k h := by
  unfold St.setGo
  simp [List.set_set]
theorem setGo_comm (s : St) (k j : Nat) (g h : Gr) (hkj : k ≠ j) : (s.setGo k g).setGo j h = (s.setGo j h).setGo k g := by
  unfold St.setGo
  simp only
  rw [List.set_comm _ _ hkj]
/-- Settle of a valid state. -/
theorem stl_eq {s : St} (hs : s.ok) (hV : valid P s = true) (k n : Nat) (hk : (k : Int) < s.count) (hn : n ≤ 4096) : stl A P s k n = (s.setGo k (again A P n (s.gos.getD k default)), 0) := by
  have hc := valid_count hV
  unfold stl again
  rw [if_pos (valid_right hV), if_pos hV, if_neg (by omega), if_neg (by omega), Int.toNat_natCast, Int.toNat_natCast]
  by_cases hq : (s.gos.getD k default).status = 1 ∨ (s.gos.getD k default).status = 5
  · rw [if_pos hq, if_pos hq]
  · rw [if_neg hq, if_neg hq, setGo_self hs k (by omega)]
theorem neat_live {s : St} (hs : s.ok) (hV : valid P s = true) (k : Nat) (hk : (k : Int) < s.count) (hq : (s.gos.getD k default).status = 1 ∨ (s.gos.getD k default).status = 5) : Neat P (s.gos.getD k default).live := by
  have hf := valid_fits hV k hk
  have hst := valid_stood hs hV k hk
  rw [fits_eq] at hf
  generalize s.gos.getD k default = g at *
  simp only [Bool.and_eq_true] at hf
  obtain ⟨_, hz, hw⟩ := hf
  rw [show ends g = false by unfold ends; simp; omega, if_neg (by simp)] at hz
  rw [if_neg (by omega)] at hw
  simp only [Bool.and_eq_true, decide_eq_true_eq] at hw
  exact ⟨hst.live, rfl, hw.1.1, hz⟩
theorem again_ok (AI : AluOk A) (AW : AluWhy A) (hx : ∀ f ∈ P.funcs, ∀ x ∈ f.code, x.ok) {s : St} (hs : s.ok) (hV : valid P s = true) (k n : Nat) (hk : (k : Int) < s.count) : (again A P n (s.gos.getD k default)).ok := by
  have hc := valid_count hV
  unfold again
  split
  · exact (Stood.settle (Rt.of (valid_right hV)) AI AW hx n _ (valid_stood hs hV k hk).live).ok
  · exact go_ok hs k (by omega)
theorem valid_again (AI : AluOk A) (AW : AluWhy A) (hx : ∀ f ∈ P.funcs, ∀ x ∈ f.code, x.ok) {s : St} (hs : s.ok) (hV : valid P s = true) (k n : Nat) (hk : (k : Int) < s.count) : valid P (s.setGo k (again A P n (s.gos.getD k default))) = true := by
  have hc := valid_count hV
  unfold again
  by_cases hq : (s.gos.getD k default).status = 1 ∨ (s.gos.getD k default).status = 5
  · rw [if_pos hq]
    have h := settle_fits (Rt.of (valid_right hV)) AI AW hx n _ (neat_live hs hV k hk hq)
    exact valid_setGo hs hV k hk (by omega) _ h.1 h.2
  · rw [if_neg hq, setGo_self hs k (by omega)]; exact hV
theorem again_again (AW : AluWhy A) (a b : Nat) (g : Gr) : again A P b (again A P a g) = again A P (a + b) g := by
  by_cases hq : g.status = 1 ∨ g.status = 5
  · rw [show again A P a g = settle A P a g.live by unfold again; rw [if_pos hq], settle_add AW b a g.live rfl]
    unfold again; rw [if_pos hq]
  · rw [show again A P a g = g by unfold again; rw [if_neg hq]]
    unfold again; rw [if_neg hq, if_neg hq]
/-- Fuel adds up. -/
theorem stl_sums (AI : AluOk A) (AW : AluWhy A) (hx : ∀ f ∈ P.funcs, ∀ x ∈ f.code, x.ok) {s : St} (hs : s.ok) (hV : valid P s = true) (k a b : Nat) (hk : (k : Int) < s.count) (hn : a + b ≤ 4096) :
    (stl A P s k a).2 = 0 ∧ stl A P (stl A P s k a).1 k b = stl A P s k (a + b : Nat) ∧ (stl A P s k (a + b : Nat)).2 = 0 := by
  have hc := valid_count hV
  have e1 := stl_eq (A := A) hs hV k a hk (by omega)
  have e3 := stl_eq (A := A) hs hV k (a + b) hk hn
  have hs1 := St.setGo_ok hs k (again_ok AI AW hx hs hV k a hk)
  have hv1 := valid_again AI AW hx hs hV k a hk
  have e2 := stl_eq (A := A) hs1 hv1 k b hk (by omega)
  rw [e1]
  refine ⟨rfl, ?_, by rw [e3]⟩
  rw [e2, e3, getD_setGo hs k (by omega), if_pos rfl, setGo_twice, again_again AW]
/-- Goroutines do not matter to each other. -/
theorem stl_apart (AI : AluOk A) (AW : AluWhy A) (hx : ∀ f ∈ P.funcs, ∀ x ∈ f.code, x.ok) {s : St} (hs : s.ok) (hV : valid P s = true) (k j n : Nat) (hk : (k : Int) < s.count) (hj : (j : Int) < s.count) (hkj : k ≠ j) (hn : n ≤ 4096) :
    stl A P (stl A P s k n).1 j n = stl A P (stl A P s j n).1 k n ∧ (stl A P (stl A P s k n).1 j n).2 = 0 := by
  have hc := valid_count hV
  have e1 := stl_eq (A := A) hs hV k n hk hn
  have e2 := stl_eq (A := A) hs hV j n hj hn
  have f1 := stl_eq (A := A) (St.setGo_ok hs k (again_ok AI AW hx hs hV k n hk)) (valid_again AI AW hx hs hV k n hk) j n hj hn
  have f2 := stl_eq (A := A) (St.setGo_ok hs j (again_ok AI AW hx hs hV j n hj)) (valid_again AI AW hx hs hV j n hj) k n hk hn
  rw [e1, e2, f1, f2, getD_setGo hs k (by omega), if_neg (fun e => hkj e.symm), getD_setGo hs j (by omega), if_neg hkj]
  exact ⟨by rw [setGo_comm s k j _ _ hkj], rfl⟩
end Go.Proofs.YtbcdeanmjhcgeaaDoor.Pg
namespace Go.Proofs.YtbcdeanmjhcgeaaDoor.Pg
set_option linter.unusedVariables false
set_option linter.unusedSimpArgs false
variable {A : Int → Int → Int → Int × Int} {P : Pg}
theorem putRow_snoc (v : Value) (l : List Value) : ∀ (arr : Array Value) (o : Nat), putRow arr o (l ++ [v]) = (putRow arr o l).setIfInBounds (o + l.length) v := by
  induction l with
  | nil => intro arr o; simp [putRow]
  | cons u l ih =>
    intro arr o
    rw [List.cons_append, putRow, ih, putRow, List.length_cons, show o + 1 + l.length = o + (l.length + 1) by omega]
/-- Variables at first. -/
def Pg.inits (P : Pg) : List Int := P.vars.map fun x => x.init
/-- The state in which a program begins, ahead of its main goroutine's run. -/
def St.first (P : Pg) : St := ⟨P.inits ++ List.replicate (8 - P.vars.length) 0, [0, 0, 0, 0], [default, default, default, default], [default, default, default, default, default, default], 1⟩
def Gr.zero : Gr := ⟨0, 0, 0, 0, [0, 0, 0, 0, 0, 0, 0, 0]⟩
/-- What Start gives. -/
def strt (A : Int → Int → Int → Int × Int) (P : Pg) (f : Int) : St × Int :=
  if right P = true then
    (if f < 0 ∨ 4096 < f then (St.none, 1) else ((St.first P).setGo 0 (settle A P f.toNat Gr.zero.live), 0))
  else (St.none, 3)
theorem neat_zero (R : Rt P) : Neat P Gr.zero.live := by
  have h1 := R.f1
  have hm : P.fn 0 ∈ P.funcs := by
    unfold Pg.fn
    rw [List.getD_eq_getElem?_getD, List.getElem?_eq_getElem (show (0 : Int).toNat < P.funcs.length by simp; omega)]
    exact List.getElem_mem _
  have hc := (R.fn _ hm).c1
  have h0 : I64 (0 : Int) := ⟨by decide, by decide⟩
  have ok : Gr.zero.live.ok := ⟨⟨by decide, by decide⟩, h0, h0, h0, fun x hx => by have hx : x ∈ ([0, 0, 0, 0, 0, 0, 0, 0] : List Int) := hx; simp at hx; subst hx; exact h0, rfl⟩
  refine ⟨⟨ok, show (0 : Int) ≤ 0 by omega, show (0 : Int) < P.funcs.length by omega, show (0 : Int) ≤ 0 by omega, ?_⟩, rfl, rfl, ?_⟩
  · show (0 : Int) < (P.fn 0).code.length
    omega
  · rw [zeros_iff]
    intro j hj
    have hj : j < 8 := hj
    right
    match j, hj with
    | 0, _ | 1, _ | 2, _ | 3, _ | 4, _ | 5, _ | 6, _ | 7, _ => rfl
end Go.Proofs.YtbcdeanmjhcgeaaDoor.Pg
namespace Go.Proofs.YtbcdeanmjhcgeaaDoor.Pg
set_option linter.unusedVariables false
set_option linter.unusedSimpArgs false
variable {P : Pg}
theorem valid_first (hR : right P = true) (g : Gr) (hg : fits P g = true) (hg2 : g.status ≠ 2) : valid P ((St.first P).setGo 0 g) = true := by
  have R := Rt.of hR
  rw [valid_eq]
  simp only [Bool.and_eq_true]
  refine ⟨hR, by show decide ((1 : Int) ≤ 1 ∧ (1 : Int) ≤ 6) = true; rfl, ?_, ?_, ?_, ?_, ?_⟩
  · refine all_yes fun k hk => ?_
    rw [Bool.or_eq_true, decide_eq_true_eq, decide_eq_true_eq]
    by_cases h : k < P.vars.length
    · exact .inl h
    · refine .inr ?_
      show (P.inits ++ List.replicate (8 - P.vars.length) 0).getD k 0 = 0
      rw [List.getD_eq_getElem?_getD, List.getElem?_append_right (by simp [Pg.inits]; omega), List.getElem?_replicate]
      split <;> rfl
  · refine all_yes fun k hk => ?_
    have e : ((St.first P).setGo 0 g).owner.getD k 0 = 0 := by
      show ([0, 0, 0, 0] : List Int).getD k 0 = 0
      match k, hk with
      | 0, _ | 1, _ | 2, _ | 3, _ => rfl
    rw [e]
    show (decide ((0 : Int) ≤ 0 ∧ (0 : Int) ≤ 1) && _) = true
    simp
  · refine all_yes fun k hk => ?_
    show (if (k : Int) < 1 then fits P (([default, default, default, default, default, default] : List Gr).set 0 g |>.getD k default) else decide ((([default, default, default, default, default, default] : List Gr).set 0 g |>.getD k default) = default)) = true
    match k, hk with
    | 0, _ => simpa using hg
    | 1, _ | 2, _ | 3, _ | 4, _ | 5, _ => simp
  · refine all_yes fun k hk => ?_
    have e : ((St.first P).setGo 0 g).chans.getD k default = default := by
      show ([default, default, default, default] : List Ch).getD k default = default
      match k, hk with
      | 0, _ | 1, _ | 2, _ | 3, _ => rfl
    rw [e]
    by_cases h : k < P.chans.length
    · rw [if_pos h]
      have hc := R.cap k
      unfold chanOk
      show (decide ((0 : Int) ≤ 0 ∧ (0 : Int) ≤ P.chans.getD k 0 ∧ (0 : Int) ≤ 0 ∧ (0 : Int) ≤ 3 ∧ ((0 : Int) = 0 ∨ P.chans.getD k 0 = 0)) && (zeros 0 [0, 0, 0, 0] && (if (0 : Int) = 0 then decide ((0 : Int) = 0 ∧ (0 : Int) = 0) else _))) = true
      rw [show zeros 0 [0, 0, 0, 0] = true from rfl, if_pos rfl]
      generalize P.chans.getD k 0 = n at *
      simp [hc.1]
    · rw [if_neg h]; rfl
  · refine all_yes fun k hk => ?_
    rw [Bool.or_eq_true, decide_eq_true_eq]
    left
    show (([default, default, default, default, default, default] : List Gr).set 0 g |>.getD k default).status ≠ 2
    match k, hk with
    | 0, _ => simpa using hg2
    | 1, _ | 2, _ | 3, _ | 4, _ | 5, _ => exact (by decide : (default : Gr).status ≠ 2)
end Go.Proofs.YtbcdeanmjhcgeaaDoor.Pg
