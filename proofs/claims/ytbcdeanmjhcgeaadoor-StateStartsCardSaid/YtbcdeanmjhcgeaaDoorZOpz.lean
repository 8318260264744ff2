/- A program that came in, opened, with what its lists take in bytes. No condition. -/
import Derived.Test.YtbcdeanmjhcgeaaDoorZOp0
import Derived.Test.YtbcdeanmjhcgeaaDoorZn
namespace Go.Proofs.YtbcdeanmjhcgeaaDoor.Opn
set_option linter.unusedVariables false
set_option linter.unusedSimpArgs false
open Go.RowKit Go.ChangeShapes Go.WideShapes Go.Deep
open Go.Proofs.YtbcdeanmjhcgeaaDoor.Pg
set_option linter.unusedVariables false
section
variable {H : Type} {enc : TypeId × Value → H} {w : World} {base : Nat} {spare : Nat → Bool} {held : Bool}
theorem opens_listZ {P : Program} {α : Type} [Inhabited α] {f : α → List Value} {R : α → Prop} {t e : TypeId} {c z : Nat} (hu : P.underlying t = some (.slice e)) (hz : P.bytesOf e = z) (hc : P.cellsOf e = c) (h0 : 0 < c) (hb : 1 ≤ P.bytesOf e) (h : Opens enc P w base spare held e f R) :
    Opens enc P w base spare held t cl (fun s : Ls α => (Lies w s.a (s.l.flatMap f) ∧ (∀ y ∈ s.l, R y) ∧ Len s.l.length) ∧ s.l.length * z ≤ 140737488351232) := fun fuel cs x hx hw => by
  obtain ⟨y, e1, hy⟩ := opens_list hu hc h0 hb h fuel cs x hx hw
  refine ⟨y, e1, hy, ?_⟩
  rcases open_slice hu hx with ⟨rfl, rfl⟩ | ⟨a, len, cap, m, q, D, Pl, rfl, _, hl, hm, hmm, rfl, hel⟩
  · injection e1 with e2 _
    injection e2 with _ e3 _
    rw [← e3]; omega
  · have h1 := hw ((((List.range len).map D).length + ((List.range (m - len)).map fun j => D (len + j)).length) * P.bytesOf e) (by simp [DataW.weights, hu])
    simp only [List.length_map, List.length_range] at h1
    injection e1 with e2 _
    injection e2 with _ e3 _
    have h2 := Nat.mul_le_mul_right z (show y.l.length ≤ len + (m - len) by omega)
    rw [hz] at h1
    unfold reachBytes at h1
    omega
theorem o_selZ : Opens enc Tryd.prog w base spare held 80 Sel.cs (fun s => s.In w ∧ s.cases.length * 32 ≤ 140737488351232) := fun fuel cs x h hw => by
  have hl := struct_len Tryd.underlying80 h
  rw [c_Select] at hl
  obtain ⟨a0, e0, r0⟩ := field Tryd.underlying80 h hw 0 _ rfl 78 0 1 rfl rfl cL__Case (opens_listZ (z := 32) Tryd.underlying78 (by kernel_rfl) c_Case (by omega) (of_decide_eq_true (by kernel_rfl)) o_cas)
  obtain ⟨a1, e1, r1⟩ := field Tryd.underlying80 h hw 1 _ rfl 3 1 1 rfl rfl cint (opens_int Tryd.underlying3)
  refine ⟨⟨a0.a, a0.cap, a0.l, a1⟩, ?_, ⟨r0.1.1, r0.1.2.1, r1, r0.1.2.2⟩, r0.2⟩
  rw [← List.drop_zero (l := cs), cut cs (0) 1, cut cs (0 + 1) 1]
  simp only [Nat.zero_add, Nat.reduceAdd]
  rw [show cs.drop 2 = [] from List.drop_of_length_le (by omega), e0, e1]
  rfl
theorem o_funZ : Opens enc Tryd.prog w base spare held 77 Fn.cs (fun f => f.In w ∧ f.Sized) := fun fuel cs x h hw => by
  have hl := struct_len Tryd.underlying77 h
  rw [c_Func] at hl
  obtain ⟨a0, e0, r0⟩ := field Tryd.underlying77 h hw 0 _ rfl 3 0 1 rfl rfl cint (opens_int Tryd.underlying3)
  obtain ⟨a1, e1, r1⟩ := field Tryd.underlying77 h hw 1 _ rfl 3 1 1 rfl rfl cint (opens_int Tryd.underlying3)
  obtain ⟨a2, e2, r2⟩ := field Tryd.underlying77 h hw 2 _ rfl 74 2 1 rfl rfl cL__Instr (opens_listZ (z := 40) Tryd.underlying74 (by kernel_rfl) c_Instr (by omega) (of_decide_eq_true (by kernel_rfl)) o_ins)
  obtain ⟨a3, e3, r3⟩ := field Tryd.underlying77 h hw 3 _ rfl 75 3 1 rfl rfl cL__Select (opens_listZ (z := 32) Tryd.underlying75 (by kernel_rfl) c_Select (by omega) (of_decide_eq_true (by kernel_rfl)) o_selZ)
  refine ⟨⟨a0, a1, a2.a, a2.cap, a2.l, a3.a, a3.cap, a3.l⟩, ?_, ⟨r2.1.1, r3.1.1, fun s hs => (r3.1.2.1 s hs).1, r2.1.2.1, r0, r1, r2.1.2.2, r3.1.2.2⟩, r2.2, r3.2, fun s hs => (r3.1.2.1 s hs).2⟩
  rw [← List.drop_zero (l := cs), cut cs (0) 1, cut cs (0 + 1) 1, cut cs (0 + 1 + 1) 1, cut cs (0 + 1 + 1 + 1) 1]
  simp only [Nat.zero_add, Nat.reduceAdd]
  rw [show cs.drop 4 = [] from List.drop_of_length_le (by omega), e0, e1, e2, e3]
  rfl
theorem o_progZ : Opens enc Tryd.prog w base spare held 41 Pg.cs (fun P => P.In w ∧ P.Sized) := fun fuel cs x h hw => by
  have hl := struct_len Tryd.underlying41 h
  rw [c_Prog] at hl
  obtain ⟨a0, e0, r0⟩ := field Tryd.underlying41 h hw 0 _ rfl 38 0 1 rfl rfl cL__Var (opens_listZ (z := 16) Tryd.underlying38 (by kernel_rfl) c_Var (by omega) (of_decide_eq_true (by kernel_rfl)) o_var)
  obtain ⟨a1, e1, r1⟩ := field Tryd.underlying41 h hw 1 _ rfl 3 1 1 rfl rfl cint (opens_int Tryd.underlying3)
  obtain ⟨a2, e2, r2⟩ := field Tryd.underlying41 h hw 2 _ rfl 34 2 1 rfl rfl cL_int (opens_listZ (z := 8) Tryd.underlying34 (by kernel_rfl) cint (by omega) (of_decide_eq_true (by kernel_rfl)) (opens_int Tryd.underlying3))
  obtain ⟨a3, e3, r3⟩ := field Tryd.underlying41 h hw 3 _ rfl 39 3 1 rfl rfl cL__Func (opens_listZ (z := 64) Tryd.underlying39 (by kernel_rfl) c_Func (by omega) (of_decide_eq_true (by kernel_rfl)) o_funZ)
  refine ⟨⟨a0.a, a0.cap, a0.l, a1, a2.a, a2.cap, a2.l, a3.a, a3.cap, a3.l⟩, ?_, ⟨r0.1.1, by rw [← flat_ci]; exact r2.1.1, r3.1.1, fun f hf => (r3.1.2.1 f hf).1, r0.1.2.1, r2.1.2.1, r1, r0.1.2.2, r2.1.2.2, r3.1.2.2⟩, r0.2, r2.2, r3.2, fun f hf => (r3.1.2.1 f hf).2⟩
  rw [← List.drop_zero (l := cs), cut cs (0) 1, cut cs (0 + 1) 1, cut cs (0 + 1 + 1) 1, cut cs (0 + 1 + 1 + 1) 1]
  simp only [Nat.zero_add, Nat.reduceAdd]
  rw [show cs.drop 4 = [] from List.drop_of_length_le (by omega), e0, e1, e2, e3]
  rfl
end
set_option maxRecDepth 100000 in
theorem open_progZ {H : Type} {enc : TypeId × Value → H} {W : World} {r : Reach} {b0 : Nat} {spare : Nat → Bool} {held : Bool} {v : Value} {d : DataW H} {p : List MemPlace} {ts : List TypeId} {ds : List (DataW H)}
    (hv : Value.okWide Tryd.prog W r b0 41 v) (h : DataW.Trod enc Tryd.prog W 0 spare held 41 v d p) (hsz : (DataW.weightsEach Tryd.prog ts ds).all (· ≤ reachBytes) = true) {j : Nat} (ht : ts[j]? = some 41) (hd : ds[j]? = some d) :
    ∃ P : Pg, v = P.v ∧ P.In W ∧ P.Sized := by
  simp only [Value.okWide, Tryd.underlying41] at hv
  obtain ⟨ca, rfl, _, _⟩ := hv
  obtain ⟨cs⟩ := ca
  obtain ⟨fuel, hf⟩ := h
  obtain ⟨P, e, hP⟩ := o_progZ fuel cs (d, p) hf (small_weights hsz ht hd)
  exact ⟨P, by rw [e]; rfl, hP⟩
end Go.Proofs.YtbcdeanmjhcgeaaDoor.Opn
