/- Programs that came in, opened. No condition. -/
import Derived.Test.YtlhhmlfcodmebaaGreatDoorZOp1
import Derived.Test.YtlhhmlfcodmebaaGreatDoorProg
namespace Go.Proofs.YtlhhmlfcodmebaaGreatDoor.Opn
set_option linter.unusedVariables false
set_option linter.unusedSimpArgs false
open Go.RowKit Go.ChangeShapes Go.WideShapes
open Go.Proofs.YtlhhmlfcodmebaaGreatDoor.Pg
set_option linter.unusedVariables false
section
variable {H : Type} {enc : TypeId × Value → H} {w : World} {base : Nat} {spare : Nat → Bool} {held : Bool}
theorem cint : Tryz.prog.cellsOf 3 = 1 := by kernel_rfl
theorem cint64 : Tryz.prog.cellsOf 2 = 1 := by kernel_rfl
theorem cbool : Tryz.prog.cellsOf 4 = 1 := by kernel_rfl
theorem c_Op : Tryz.prog.cellsOf 49 = 1 := by kernel_rfl
theorem c_Instr : Tryz.prog.cellsOf 51 = 5 := by kernel_rfl
theorem c_Case : Tryz.prog.cellsOf 105 = 4 := by kernel_rfl
theorem c_Select : Tryz.prog.cellsOf 93 = 2 := by kernel_rfl
theorem c_Func : Tryz.prog.cellsOf 45 = 4 := by kernel_rfl
theorem c_Var : Tryz.prog.cellsOf 83 = 2 := by kernel_rfl
theorem c_Prog : Tryz.prog.cellsOf 26 = 4 := by kernel_rfl
theorem cL__Case : Tryz.prog.cellsOf 91 = 1 := by kernel_rfl
theorem cL__Instr : Tryz.prog.cellsOf 42 = 1 := by kernel_rfl
theorem cL__Select : Tryz.prog.cellsOf 43 = 1 := by kernel_rfl
theorem cL__Var : Tryz.prog.cellsOf 22 = 1 := by kernel_rfl
theorem cL_int : Tryz.prog.cellsOf 23 = 1 := by kernel_rfl
theorem cL__Func : Tryz.prog.cellsOf 24 = 1 := by kernel_rfl
theorem o_ins : Opens enc Tryz.prog w base spare held 51 Ins.cs Ins.ok := fun fuel cs x h hw => by
  have hl := struct_len Tryz.underlying51 h
  rw [c_Instr] at hl
  obtain ⟨a0, e0, r0⟩ := field Tryz.underlying51 h hw 0 _ rfl 49 0 1 rfl rfl c_Op (opens_int Tryz.underlying49)
  obtain ⟨a1, e1, r1⟩ := field Tryz.underlying51 h hw 1 _ rfl 3 1 1 rfl rfl cint (opens_int Tryz.underlying3)
  obtain ⟨a2, e2, r2⟩ := field Tryz.underlying51 h hw 2 _ rfl 3 2 1 rfl rfl cint (opens_int Tryz.underlying3)
  obtain ⟨a3, e3, r3⟩ := field Tryz.underlying51 h hw 3 _ rfl 3 3 1 rfl rfl cint (opens_int Tryz.underlying3)
  obtain ⟨a4, e4, r4⟩ := field Tryz.underlying51 h hw 4 _ rfl 2 4 1 rfl rfl cint64 (opens_int Tryz.underlying2)
  refine ⟨⟨a0, a1, a2, a3, a4⟩, ?_, r0, r1, r2, r3, r4⟩
  rw [← List.drop_zero (l := cs), cut cs (0) 1, cut cs (0 + 1) 1, cut cs (0 + 1 + 1) 1, cut cs (0 + 1 + 1 + 1) 1, cut cs (0 + 1 + 1 + 1 + 1) 1]
  simp only [Nat.zero_add, Nat.reduceAdd]
  rw [show cs.drop 5 = [] from List.drop_of_length_le (by omega), e0, e1, e2, e3, e4]
  rfl
theorem o_cas : Opens enc Tryz.prog w base spare held 105 Cas.cs Cas.ok := fun fuel cs x h hw => by
  have hl := struct_len Tryz.underlying105 h
  rw [c_Case] at hl
  obtain ⟨a0, e0, r0⟩ := field Tryz.underlying105 h hw 0 _ rfl 4 0 1 rfl rfl cbool (opens_bool Tryz.underlying4)
  obtain ⟨a1, e1, r1⟩ := field Tryz.underlying105 h hw 1 _ rfl 3 1 1 rfl rfl cint (opens_int Tryz.underlying3)
  obtain ⟨a2, e2, r2⟩ := field Tryz.underlying105 h hw 2 _ rfl 3 2 1 rfl rfl cint (opens_int Tryz.underlying3)
  obtain ⟨a3, e3, r3⟩ := field Tryz.underlying105 h hw 3 _ rfl 3 3 1 rfl rfl cint (opens_int Tryz.underlying3)
  refine ⟨⟨a0, a1, a2, a3⟩, ?_, r1, r2, r3⟩
  rw [← List.drop_zero (l := cs), cut cs (0) 1, cut cs (0 + 1) 1, cut cs (0 + 1 + 1) 1, cut cs (0 + 1 + 1 + 1) 1]
  simp only [Nat.zero_add, Nat.reduceAdd]
  rw [show cs.drop 4 = [] from List.drop_of_length_le (by omega), e0, e1, e2, e3]
  rfl
theorem o_sel : Opens enc Tryz.prog w base spare held 93 Sel.cs (Sel.In w) := fun fuel cs x h hw => by
  have hl := struct_len Tryz.underlying93 h
  rw [c_Select] at hl
  obtain ⟨a0, e0, r0⟩ := field Tryz.underlying93 h hw 0 _ rfl 91 0 1 rfl rfl cL__Case (opens_list Tryz.underlying91 c_Case (by omega) (of_decide_eq_true (by kernel_rfl)) o_cas)
  obtain ⟨a1, e1, r1⟩ := field Tryz.underlying93 h hw 1 _ rfl 3 1 1 rfl rfl cint (opens_int Tryz.underlying3)
  refine ⟨⟨a0.a, a0.cap, a0.l, a1⟩, ?_, ⟨r0.1, r0.2.1, r1, r0.2.2⟩⟩
  rw [← List.drop_zero (l := cs), cut cs (0) 1, cut cs (0 + 1) 1]
  simp only [Nat.zero_add, Nat.reduceAdd]
  rw [show cs.drop 2 = [] from List.drop_of_length_le (by omega), e0, e1]
  rfl
theorem o_fun : Opens enc Tryz.prog w base spare held 45 Fn.cs (Fn.In w) := fun fuel cs x h hw => by
  have hl := struct_len Tryz.underlying45 h
  rw [c_Func] at hl
  obtain ⟨a0, e0, r0⟩ := field Tryz.underlying45 h hw 0 _ rfl 3 0 1 rfl rfl cint (opens_int Tryz.underlying3)
  obtain ⟨a1, e1, r1⟩ := field Tryz.underlying45 h hw 1 _ rfl 3 1 1 rfl rfl cint (opens_int Tryz.underlying3)
  obtain ⟨a2, e2, r2⟩ := field Tryz.underlying45 h hw 2 _ rfl 42 2 1 rfl rfl cL__Instr (opens_list Tryz.underlying42 c_Instr (by omega) (of_decide_eq_true (by kernel_rfl)) o_ins)
  obtain ⟨a3, e3, r3⟩ := field Tryz.underlying45 h hw 3 _ rfl 43 3 1 rfl rfl cL__Select (opens_list Tryz.underlying43 c_Select (by omega) (of_decide_eq_true (by kernel_rfl)) o_sel)
  refine ⟨⟨a0, a1, a2.a, a2.cap, a2.l, a3.a, a3.cap, a3.l⟩, ?_, ⟨r2.1, r3.1, r3.2.1, r2.2.1, r0, r1, r2.2.2, r3.2.2⟩⟩
  rw [← List.drop_zero (l := cs), cut cs (0) 1, cut cs (0 + 1) 1, cut cs (0 + 1 + 1) 1, cut cs (0 + 1 + 1 + 1) 1]
  simp only [Nat.zero_add, Nat.reduceAdd]
  rw [show cs.drop 4 = [] from List.drop_of_length_le (by omega), e0, e1, e2, e3]
  rfl
theorem o_var : Opens enc Tryz.prog w base spare held 83 Vr.cs (fun x => I64 x.init) := fun fuel cs x h hw => by
  have hl := struct_len Tryz.underlying83 h
  rw [c_Var] at hl
  obtain ⟨a0, e0, r0⟩ := field Tryz.underlying83 h hw 0 _ rfl 4 0 1 rfl rfl cbool (opens_bool Tryz.underlying4)
  obtain ⟨a1, e1, r1⟩ := field Tryz.underlying83 h hw 1 _ rfl 2 1 1 rfl rfl cint64 (opens_int Tryz.underlying2)
  refine ⟨⟨a0, a1⟩, ?_, r1⟩
  rw [← List.drop_zero (l := cs), cut cs (0) 1, cut cs (0 + 1) 1]
  simp only [Nat.zero_add, Nat.reduceAdd]
  rw [show cs.drop 2 = [] from List.drop_of_length_le (by omega), e0, e1]
  rfl
theorem flat_ci (l : List Int) : l.flatMap ci = l.map (Value.int .i64) := by induction l with
  | nil => rfl
  | cons x l ih => rw [List.flatMap_cons, ih]; rfl
theorem o_prog : Opens enc Tryz.prog w base spare held 26 Pg.cs (Pg.In w) := fun fuel cs x h hw => by
  have hl := struct_len Tryz.underlying26 h
  rw [c_Prog] at hl
  obtain ⟨a0, e0, r0⟩ := field Tryz.underlying26 h hw 0 _ rfl 22 0 1 rfl rfl cL__Var (opens_list Tryz.underlying22 c_Var (by omega) (of_decide_eq_true (by kernel_rfl)) o_var)
  obtain ⟨a1, e1, r1⟩ := field Tryz.underlying26 h hw 1 _ rfl 3 1 1 rfl rfl cint (opens_int Tryz.underlying3)
  obtain ⟨a2, e2, r2⟩ := field Tryz.underlying26 h hw 2 _ rfl 23 2 1 rfl rfl cL_int (opens_list Tryz.underlying23 cint (by omega) (of_decide_eq_true (by kernel_rfl)) (opens_int Tryz.underlying3))
  obtain ⟨a3, e3, r3⟩ := field Tryz.underlying26 h hw 3 _ rfl 24 3 1 rfl rfl cL__Func (opens_list Tryz.underlying24 c_Func (by omega) (of_decide_eq_true (by kernel_rfl)) o_fun)
  refine ⟨⟨a0.a, a0.cap, a0.l, a1, a2.a, a2.cap, a2.l, a3.a, a3.cap, a3.l⟩, ?_, ⟨r0.1, by rw [← flat_ci]; exact r2.1, r3.1, r3.2.1, r0.2.1, r2.2.1, r1, r0.2.2, r2.2.2, r3.2.2⟩⟩
  rw [← List.drop_zero (l := cs), cut cs (0) 1, cut cs (0 + 1) 1, cut cs (0 + 1 + 1) 1, cut cs (0 + 1 + 1 + 1) 1]
  simp only [Nat.zero_add, Nat.reduceAdd]
  rw [show cs.drop 4 = [] from List.drop_of_length_le (by omega), e0, e1, e2, e3]
  rfl
end
theorem small_weights {H : Type} {P : Program} {ts : List TypeId} {ds : List (DataW H)} (hsz : (DataW.weightsEach P ts ds).all (· ≤ reachBytes) = true) {j : Nat} {t : TypeId} {d : DataW H} (ht : ts[j]? = some t) (hd : ds[j]? = some d) : ∀ n ∈ d.weights P t, n ≤ reachBytes := fun n hn => by
  simpa using List.all_eq_true.1 hsz n (DataW.weights_mem_each ht hd n hn)
set_option maxRecDepth 100000 in
theorem open_prog {H : Type} {enc : TypeId × Value → H} {W : World} {r : Reach} {b0 : Nat} {spare : Nat → Bool} {held : Bool} {v : Value} {d : DataW H} {p : List MemPlace} {ts : List TypeId} {ds : List (DataW H)}
    (hv : Value.okWide Tryz.prog W r b0 26 v) (h : DataW.Trod enc Tryz.prog W 0 spare held 26 v d p) (hsz : (DataW.weightsEach Tryz.prog ts ds).all (· ≤ reachBytes) = true) {j : Nat} (ht : ts[j]? = some 26) (hd : ds[j]? = some d) :
    ∃ P : Pg, v = P.v ∧ P.In W := by
  simp only [Value.okWide, Tryz.underlying26] at hv
  obtain ⟨ca, rfl, _, _⟩ := hv
  obtain ⟨cs⟩ := ca
  obtain ⟨fuel, hf⟩ := h
  obtain ⟨P, e, hP⟩ := o_prog fuel cs (d, p) hf (small_weights hsz ht hd)
  exact ⟨P, by rw [e]; rfl, hP⟩
end Go.Proofs.YtlhhmlfcodmebaaGreatDoor.Opn
