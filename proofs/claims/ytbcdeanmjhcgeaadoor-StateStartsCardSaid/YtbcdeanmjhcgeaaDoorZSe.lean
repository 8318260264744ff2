/- Instructions, cases, variables, asked whether they are themselves: yes. No condition. -/
import Derived.Test.YtbcdeanmjhcgeaaDoorZa
import Derived.Test.YtbcdeanmjhcgeaaDoorZk
namespace Go.Proofs.YtbcdeanmjhcgeaaDoor.Pg
set_option linter.unusedVariables false
set_option linter.unusedSimpArgs false
open Go.ChangeShapes Go.WideShapes Go.RowKit
theorem int_h {x : Int} (h : I64 x) {t : TypeId} (hu : Tryd.prog.underlying t = some (.int .i64)) (d : Nat) : ∃ ls, Tryd.prog.keyLits (d + 1) t [.int .i64 x] = some ls := lits_int hu h
theorem nth_eq {α β : Type} {q : α → β} {l m : List α} (h : l.map q = m.map q) {k : Nat} (h1 : k < l.length) (h2 : k < m.length) : q l[k] = q m[k] := by
  have := congrArg (fun z => z[k]?) h
  simpa [h1, h2] using this
theorem cOp : Tryd.prog.cellsOf 86 = 1 := by kernel_rfl
theorem size_ins : Tryd.prog.cellsOf 88 = 5 := by kernel_rfl
theorem lits_ins (x : Ins) (h : x.ok) (d : Nat) : ∃ ls, Tryd.prog.keyLits (d + 2) 88 x.cs = some ls := by
  refine lits_struct Tryd.underlying88 (by rw [size_ins]; rfl) (by kernel_rfl) fun f hf => ?_
  simp only [List.mem_cons, List.not_mem_nil, or_false] at hf
  rcases hf with rfl | rfl | rfl | rfl | rfl
  · simp only [cOp, Ins.cs]; exact lits_int Tryd.underlying86 h.1
  · simp only [cI, Ins.cs]; exact lits_int Tryd.underlying3 h.2.1
  · simp only [cI, Ins.cs]; exact lits_int Tryd.underlying3 h.2.2.1
  · simp only [cI, Ins.cs]; exact lits_int Tryd.underlying3 h.2.2.2.1
  · simp only [cI64, Ins.cs]; exact lits_int Tryd.underlying2 h.2.2.2.2
theorem klaw_ins : WideMaps.KeyLaw Tryd.prog 88 := deep_law_laid (by kernel_rfl) types_n (of_decide_eq_true (by kernel_rfl)) (by kernel_rfl) (by kernel_rfl)
theorem kty_ins : Tryd.prog.keyType 88 = true := by kernel_rfl
theorem wide_ins : (match Tryd.prog.underlying 88 with | some (.array _ _) | some (.struct _) => true | _ => false) = true := by kernel_rfl
set_option maxRecDepth 100000 in
theorem eq_ins (x : Ins) (h : x.ok) (W : World) : (Op.equalIn 10000 88 (.agg #[.int .i64 x.op, .int .i64 x.a, .int .i64 x.b, .int .i64 x.c, .int .i64 x.n]) (.agg #[.int .i64 x.op, .int .i64 x.a, .int .i64 x.b, .int .i64 x.c, .int .i64 x.n])).run Tryd.prog W = .ok true W := by
  obtain ⟨d, hd⟩ := types_5
  obtain ⟨ls, hls⟩ := lits_ins x h (d + 3)
  have hk := Dk.key_of_lits (P := Tryd.prog) kty_ins wide_ins (cs := x.cs) (by rw [size_ins]; rfl) (by rw [hd]; exact hls)
  have h1 := Dk.eq_run (m := Tryd.prog.types.size + 1) klaw_ins types_m kty_ins wide_ins hk hk W
  refine h1.trans ?_
  rw [show (Lit.string (keyBytes ls)).sameKey (.string (keyBytes ls)) = true from WideAt.sameKey_self trivial]
theorem size_cas : Tryd.prog.cellsOf 105 = 4 := by kernel_rfl
theorem lits_cas (x : Cas) (h : x.ok) (d : Nat) : ∃ ls, Tryd.prog.keyLits (d + 2) 105 x.cs = some ls := by
  refine lits_struct Tryd.underlying105 (by rw [size_cas]; rfl) (by kernel_rfl) fun f hf => ?_
  simp only [List.mem_cons, List.not_mem_nil, or_false] at hf
  rcases hf with rfl | rfl | rfl | rfl
  · simp only [cB, Cas.cs]; exact lits_bool Tryd.underlying4 _
  · simp only [cI, Cas.cs]; exact lits_int Tryd.underlying3 h.1
  · simp only [cI, Cas.cs]; exact lits_int Tryd.underlying3 h.2.1
  · simp only [cI, Cas.cs]; exact lits_int Tryd.underlying3 h.2.2
theorem klaw_cas : WideMaps.KeyLaw Tryd.prog 105 := deep_law_laid (by kernel_rfl) types_n (of_decide_eq_true (by kernel_rfl)) (by kernel_rfl) (by kernel_rfl)
theorem kty_cas : Tryd.prog.keyType 105 = true := by kernel_rfl
theorem wide_cas : (match Tryd.prog.underlying 105 with | some (.array _ _) | some (.struct _) => true | _ => false) = true := by kernel_rfl
set_option maxRecDepth 100000 in
theorem eq_cas (x : Cas) (h : x.ok) (W : World) : (Op.equalIn 10000 105 (.agg #[.bool x.send, .int .i64 x.ch, .int .i64 x.reg, .int .i64 x.to]) (.agg #[.bool x.send, .int .i64 x.ch, .int .i64 x.reg, .int .i64 x.to])).run Tryd.prog W = .ok true W := by
  obtain ⟨d, hd⟩ := types_5
  obtain ⟨ls, hls⟩ := lits_cas x h (d + 3)
  have hk := Dk.key_of_lits (P := Tryd.prog) kty_cas wide_cas (cs := x.cs) (by rw [size_cas]; rfl) (by rw [hd]; exact hls)
  have h1 := Dk.eq_run (m := Tryd.prog.types.size + 1) klaw_cas types_m kty_cas wide_cas hk hk W
  refine h1.trans ?_
  rw [show (Lit.string (keyBytes ls)).sameKey (.string (keyBytes ls)) = true from WideAt.sameKey_self trivial]
theorem size_vr : Tryd.prog.cellsOf 83 = 2 := by kernel_rfl
theorem lits_vr (x : Vr) (h : I64 x.init) (d : Nat) : ∃ ls, Tryd.prog.keyLits (d + 2) 83 x.cs = some ls := by
  refine lits_struct Tryd.underlying83 (by rw [size_vr]; rfl) (by kernel_rfl) fun f hf => ?_
  simp only [List.mem_cons, List.not_mem_nil, or_false] at hf
  rcases hf with rfl | rfl
  · simp only [cB, Vr.cs]; exact lits_bool Tryd.underlying4 _
  · simp only [cI64, Vr.cs]; exact lits_int Tryd.underlying2 h
theorem klaw_vr : WideMaps.KeyLaw Tryd.prog 83 := deep_law_laid (by kernel_rfl) types_n (of_decide_eq_true (by kernel_rfl)) (by kernel_rfl) (by kernel_rfl)
theorem kty_vr : Tryd.prog.keyType 83 = true := by kernel_rfl
theorem wide_vr : (match Tryd.prog.underlying 83 with | some (.array _ _) | some (.struct _) => true | _ => false) = true := by kernel_rfl
set_option maxRecDepth 100000 in
theorem eq_vr (x : Vr) (h : I64 x.init) (W : World) : (Op.equalIn 10000 83 (.agg #[.bool x.atomic, .int .i64 x.init]) (.agg #[.bool x.atomic, .int .i64 x.init])).run Tryd.prog W = .ok true W := by
  obtain ⟨d, hd⟩ := types_5
  obtain ⟨ls, hls⟩ := lits_vr x h (d + 3)
  have hk := Dk.key_of_lits (P := Tryd.prog) kty_vr wide_vr (cs := x.cs) (by rw [size_vr]; rfl) (by rw [hd]; exact hls)
  have h1 := Dk.eq_run (m := Tryd.prog.types.size + 1) klaw_vr types_m kty_vr wide_vr hk hk W
  refine h1.trans ?_
  rw [show (Lit.string (keyBytes ls)).sameKey (.string (keyBytes ls)) = true from WideAt.sameKey_self trivial]
end Go.Proofs.YtbcdeanmjhcgeaaDoor.Pg
