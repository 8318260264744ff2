/- Several texts of one proof, one behind the other. Programs but for where their lists lie. No condition. | A goroutine that is settled fits its program. No condition. | The state in which a program begins, plainly, and rows written one by one. No condition. | Where a program's lists lie makes no odds: what is right, how it runs, what Start gives. No condition. -/
import Derived.Test.YtbcdeanmjhcgeaaDoorZa
import Derived.Test.YtbcdeanmjhcgeaaDoorZLz
namespace Go.Proofs.YtbcdeanmjhcgeaaDoor.Pg
set_option linter.unusedVariables false
set_option linter.unusedSimpArgs false
/-- The same, but for where the lists lie. -/
def Sel.bare (s : Sel) : Sel := ⟨none, 0, s.cases, s.els⟩
def Fn.bare (f : Fn) : Fn := ⟨f.params, f.regs, none, 0, f.code, none, 0, f.sels.map Sel.bare⟩
def Pg.bare (P : Pg) : Pg := ⟨none, 0, P.vars, P.locks, none, 0, P.chans, none, 0, P.funcs.map Fn.bare⟩
end Go.Proofs.YtbcdeanmjhcgeaaDoor.Pg
namespace Go.Proofs.YtbcdeanmjhcgeaaDoor.Pg
set_option linter.unusedVariables false
set_option linter.unusedSimpArgs false
variable {A : Int → Int → Int → Int × Int} {P : Pg}
/-- A live goroutine that fits. -/
structure Neat (P : Pg) (g : Gr) : Prop where
  st : Stood P g
  s1 : g.status = 1
  why : g.why = 0
  zs : zeros (P.fn g.func).regs g.regs = true
theorem stands_of {g : Gr} (h : Stood P g) (h1 : 1 ≤ g.status) (h5 : g.status ≤ 5) : stands P g = true := by
  unfold stands
  simp only [Bool.and_eq_true, decide_eq_true_eq]
  exact ⟨⟨h1, h5, h.f0, h.f1⟩, h.p0, h.p1⟩
theorem zeros_set {n : Int} {l : List Int} {a v : Int} (h : zeros n l = true) (h0 : 0 ≤ a) (h1 : a < n) : zeros n (l.set a.toNat v) = true := by
  rw [zeros_iff] at h ⊢
  intro j hj
  rw [List.length_set] at hj
  by_cases e : j = a.toNat
  · exact .inl (by omega)
  · rcases h j hj with q | q
    · exact .inl q
    · refine .inr ?_
      rw [List.getD_eq_getElem?_getD, List.getElem?_set_ne (fun x => e x.symm), ← List.getD_eq_getElem?_getD]; exact q
theorem Neat.fits {g : Gr} (h : Neat P g) : fits P g = true := by
  rw [fits_eq, stands_of h.st (by have := h.s1; omega) (by have := h.s1; omega), Bool.true_and]
  have h1 := h.s1
  rw [show ends g = false by unfold ends; simp [h1], if_neg (by simp), h.zs, Bool.true_and, if_neg (by omega)]
  simp [h.why, h1]
theorem step_fits (R : Rt P) (hA : AluOk A) (W : AluWhy A) {g : Gr} (hx : (g.ins P).ok) (h : Neat P g) (hl : loc (g.ins P).op = true) :
    Neat P (step A (g.ins P) g) ∨ ((step A (g.ins P) g).status ≠ 1 ∧ (step A (g.ins P) g).status ≠ 2 ∧ fits P (step A (g.ins P) g) = true) := by
  have hs := h.st.step R hA W hx hl
  have L := h.st.locOk R
  rcases way (g := g) W hl with ⟨v, e, hv, ho⟩ | ⟨e, ho⟩ | ⟨t, e, ho⟩ | ⟨s, y, e, ho⟩
  · rw [e] at hs ⊢
    have ha := L.a (by omega)
    exact .inl ⟨hs, h.s1, h.why, zeros_set h.zs ha.1 ha.2⟩
  · rw [e] at hs ⊢
    exact .inl ⟨hs, h.s1, h.why, h.zs⟩
  · rw [e] at hs ⊢
    exact .inl ⟨hs, h.s1, h.why, h.zs⟩
  · rw [e] at hs ⊢
    refine .inr ⟨show s ≠ 1 by omega, show s ≠ 2 by omega, ?_⟩
    have hst : stands P (g.fin s y) = true := stands_of hs (show 1 ≤ s by omega) (show s ≤ 5 by omega)
    rw [fits_eq, hst, Bool.true_and]
    have he : ends (g.fin s y) = true := by unfold ends; rw [decide_eq_true_eq]; show s = 3 ∨ s = 4; omega
    have hz : zeros 0 (g.fin s y).regs = true := by rfl
    rw [he, if_pos rfl, hz, Bool.true_and]
    have hi : (g.fin s y).ins P = g.ins P := rfl
    rw [hi]
    show (if s = 4 then may y (g.ins P).op else decide (y = 0) && (decide (s ≠ 3) || decide ((g.ins P).op = 45)) && (decide (s ≠ 5) || loc (g.ins P).op)) = true
    rcases ho with ⟨rfl, rfl, ho⟩ | ⟨rfl, ho, _⟩
    · simp [ho]
    · rw [if_pos rfl]; exact ho
theorem settle_fits (R : Rt P) (hA : AluOk A) (W : AluWhy A) (hx : ∀ f ∈ P.funcs, ∀ x ∈ f.code, x.ok) : ∀ (n : Nat) (g : Gr), Neat P g → fits P (settle A P n g) = true ∧ (settle A P n g).status ≠ 2 := by
  intro n
  induction n with
  | zero =>
    intro g h
    by_cases hc : g.status = 1 ∧ loc (g.ins P).op = true
    · rw [settle_spun hc]
      refine ⟨?_, by simp⟩
      have hs : Stood P (⟨5, g.func, g.pc, g.why, g.regs⟩ : Gr) := ⟨⟨i64_small (n := 5) (by omega) (by omega), h.st.ok.fn, h.st.ok.pc, h.st.ok.why, h.st.ok.regs, h.st.ok.len⟩, h.st.f0, h.st.f1, h.st.p0, h.st.p1⟩
      have hz := h.zs
      rw [fits_eq, stands_of hs (show (1 : Int) ≤ 5 by omega) (show (5 : Int) ≤ 5 by omega), Bool.true_and]
      rw [show ends (⟨5, g.func, g.pc, g.why, g.regs⟩ : Gr) = false by rfl, if_neg (by simp)]
      show (zeros (P.fn g.func).regs g.regs && _) = true
      rw [hz, Bool.true_and, if_neg (show ¬ (5 : Int) = 4 by omega)]
      have hl : loc ((⟨5, g.func, g.pc, g.why, g.regs⟩ : Gr).ins P).op = true := hc.2
      rw [hl]
      simp [h.why]
    · rw [settle_stop hc]; exact ⟨h.fits, by have := h.s1; omega⟩
  | succ n ih =>
    intro g h
    by_cases hc : g.status = 1 ∧ loc (g.ins P).op = true
    · rw [settle_next hc]
      rcases step_fits R hA W (hx _ h.st.fn_mem _ h.st.ins_mem) h hc.2 with q | ⟨q1, q2, q3⟩
      · exact ih _ q
      · rw [settle_stop (fun e => q1 e.1)]; exact ⟨q3, q2⟩
    · rw [settle_stop hc]; exact ⟨h.fits, by have := h.s1; omega⟩
end Go.Proofs.YtbcdeanmjhcgeaaDoor.Pg
namespace Go.Proofs.YtbcdeanmjhcgeaaDoor.Pg
set_option linter.unusedVariables false
set_option linter.unusedSimpArgs false
variable {A : Int → Int → Int → Int × Int} {P : Pg}
theorem putRow_snoc (v : Value) (l : List Value) : ∀ (arr : Array Value) (o : Nat), putRow arr o (l ++ [v]) = (putRow arr o l).setIfInBounds (o + l.length) v := by
  induction l with
  | nil => intro arr o; simp [putRow]
  | cons u l ih =>
    intro arr o
    rw [List.cons_append, putRow, ih, putRow, List.length_cons, show o + 1 + l.length = o + (l.length + 1) by omega]
/-- Variables at first. -/
def Pg.inits (P : Pg) : List Int := P.vars.map fun x => x.init
/-- The state in which a program begins, ahead of its main goroutine's run. -/
def St.first (P : Pg) : St := ⟨P.inits ++ List.replicate (8 - P.vars.length) 0, [0, 0, 0, 0], [default, default, default, default], [default, default, default, default, default, default], 1⟩
def Gr.zero : Gr := ⟨0, 0, 0, 0, [0, 0, 0, 0, 0, 0, 0, 0]⟩
/-- What Start gives. -/
def strt (A : Int → Int → Int → Int × Int) (P : Pg) (f : Int) : St × Int :=
  if right P = true then
    (if f < 0 ∨ 4096 < f then (St.none, 1) else ((St.first P).setGo 0 (settle A P f.toNat Gr.zero.live), 0))
  else (St.none, 3)
theorem neat_zero (R : Rt P) : Neat P Gr.zero.live := by
  have h1 := R.f1
  have hm : P.fn 0 ∈ P.funcs := by
    unfold Pg.fn
    rw [List.getD_eq_getElem?_getD, List.getElem?_eq_getElem (show (0 : Int).toNat < P.funcs.length by simp; omega)]
    exact List.getElem_mem _
  have hc := (R.fn _ hm).c1
  have h0 : I64 (0 : Int) := ⟨by decide, by decide⟩
  have ok : Gr.zero.live.ok := ⟨⟨by decide, by decide⟩, h0, h0, h0, fun x hx => by have hx : x ∈ ([0, 0, 0, 0, 0, 0, 0, 0] : List Int) := hx; simp at hx; subst hx; exact h0, rfl⟩
  refine ⟨⟨ok, show (0 : Int) ≤ 0 by omega, show (0 : Int) < P.funcs.length by omega, show (0 : Int) ≤ 0 by omega, ?_⟩, rfl, rfl, ?_⟩
  · show (0 : Int) < (P.fn 0).code.length
    omega
  · rw [zeros_iff]
    intro j hj
    have hj : j < 8 := hj
    right
    match j, hj with
    | 0, _ | 1, _ | 2, _ | 3, _ | 4, _ | 5, _ | 6, _ | 7, _ => rfl
end Go.Proofs.YtbcdeanmjhcgeaaDoor.Pg
namespace Go.Proofs.YtbcdeanmjhcgeaaDoor.Pg
set_option linter.unusedVariables false
set_option linter.unusedSimpArgs false
theorem firstE_map {α β : Type} (h : α → β) (g : β → Int) : ∀ l : List α, firstE g (l.map h) = firstE (fun a => g (h a)) l
  | [] => rfl
  | a :: l => by rw [List.map_cons, firstE, firstE, firstE_map h g l]
theorem getD_bare (l : List Fn) (k : Nat) : (l.map Fn.bare).getD k default = (l.getD k default).bare := by
  rw [List.getD_eq_getElem?_getD, List.getD_eq_getElem?_getD, List.getElem?_map]
  cases l[k]? <;> rfl
theorem opd_bare (P : Pg) (f : Fn) (x : Ins) (l : Nat) (n : Int) : opd P.bare f.bare x l n = opd P f x l n := by
  unfold opd
  rw [show P.bare.funcs = P.funcs.map Fn.bare from rfl, show f.bare.sels = f.sels.map Sel.bare from rfl, List.length_map, List.length_map, getD_bare]
  rfl
theorem ins_bare (P : Pg) (f : Fn) (x : Ins) : ins P.bare f.bare x = ins P f x := by
  unfold ins
  simp only [opd_bare]
theorem cas_bare (P : Pg) (f : Fn) (c : Cas) : cas P.bare f.bare c = cas P f c := rfl
theorem sel_bare (P : Pg) (f : Fn) (s : Sel) : sel P.bare f.bare s.bare = sel P f s := rfl
theorem szs_bare (f : Fn) (m : Bool) : szs f.bare m = szs f m := by
  unfold szs
  simp only [Fn.bare, List.length_map, List.all_map]
  rfl
theorem fnc_bare (P : Pg) (f : Fn) (m : Bool) : fnc P.bare f.bare m = fnc P f m := by
  unfold fnc
  have e1 : firstE (sel P.bare f.bare) f.bare.sels = firstE (sel P f) f.sels := by
    show firstE (sel P.bare f.bare) (f.sels.map Sel.bare) = _
    rw [firstE_map]; rfl
  have e2 : firstE (ins P.bare f.bare) f.bare.code = firstE (ins P f) f.code := by
    show firstE (ins P.bare f.bare) f.code = _
    congr 1; funext x; exact ins_bare P f x
  rw [szs_bare, e1, e2]
  rfl
theorem fncs_bare (P : Pg) : ∀ (m : Bool) (l : List Fn), fncs P.bare m (l.map Fn.bare) = fncs P m l
  | _, [] => rfl
  | m, f :: l => by rw [List.map_cons, fncs, fncs, fnc_bare, fncs_bare P false l]
theorem right_bare (P : Pg) : right P.bare = right P := by
  have e : whole P.bare = whole P := by
    unfold whole
    rw [show P.bare.funcs = P.funcs.map Fn.bare from rfl, List.length_map]
    rfl
  unfold right chk
  rw [e, show P.bare.funcs = P.funcs.map Fn.bare from rfl, fncs_bare]
theorem ins_at_bare (P : Pg) (g : Gr) : g.ins P.bare = g.ins P := by
  unfold Gr.ins Pg.fn
  rw [show P.bare.funcs = P.funcs.map Fn.bare from rfl, getD_bare]
  rfl
theorem settle_bare (A : Int → Int → Int → Int × Int) (P : Pg) : ∀ (n : Nat) (g : Gr), settle A P.bare n g = settle A P n g
  | 0, g => by unfold settle; rw [ins_at_bare]
  | n + 1, g => by unfold settle; rw [ins_at_bare, settle_bare A P n]
theorem strt_bare (A : Int → Int → Int → Int × Int) (P : Pg) (f : Int) : strt A P.bare f = strt A P f := by
  unfold strt
  rw [right_bare, settle_bare]
  rfl
/-- Programs alike but for where their lists lie begin alike. -/
theorem strt_like {A : Int → Int → Int → Int × Int} {P Q : Pg} (h : Q.bare = P.bare) (f : Int) : strt A Q f = strt A P f := by rw [← strt_bare A Q, h, strt_bare]
end Go.Proofs.YtbcdeanmjhcgeaaDoor.Pg
