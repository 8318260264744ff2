/- Two arrays of six numbers, compared: as the model runs it. -/
import Derived.Test.YtfhdmknplpgiiaaDoorW0
import Derived.Laws.StructEq
import Derived.ChangeKeysEq
namespace Go.Proofs.YtfhdmknplpgiiaaDoor.Ck
open Go.ChangeShapes Go.WideShapes Go.RowKit
theorem pt0 (v0 v1 v2 v3 v4 v5 : Value) (w : World) : (part 3 #[v0, v1, v2, v3, v4, v5] 0).run Tryd.prog w = .ok v0 w := by kernel_rfl
theorem pt1 (v0 v1 v2 v3 v4 v5 : Value) (w : World) : (part 3 #[v0, v1, v2, v3, v4, v5] 1).run Tryd.prog w = .ok v1 w := by kernel_rfl
theorem pt2 (v0 v1 v2 v3 v4 v5 : Value) (w : World) : (part 3 #[v0, v1, v2, v3, v4, v5] 2).run Tryd.prog w = .ok v2 w := by kernel_rfl
theorem pt3 (v0 v1 v2 v3 v4 v5 : Value) (w : World) : (part 3 #[v0, v1, v2, v3, v4, v5] 3).run Tryd.prog w = .ok v3 w := by kernel_rfl
theorem pt4 (v0 v1 v2 v3 v4 v5 : Value) (w : World) : (part 3 #[v0, v1, v2, v3, v4, v5] 4).run Tryd.prog w = .ok v4 w := by kernel_rfl
theorem pt5 (v0 v1 v2 v3 v4 v5 : Value) (w : World) : (part 3 #[v0, v1, v2, v3, v4, v5] 5).run Tryd.prog w = .ok v5 w := by kernel_rfl
theorem info3 : (Tryd.prog.info? 3).isSome = true := by kernel_rfl
theorem cells3 : Tryd.prog.cellsOf 3 = 1 := by kernel_rfl
theorem guard23 : Tryd.prog.eqGuardType Tryd.prog.depth 23 = false := by kernel_rfl
theorem eq6_run (x y : C6) (w : World) : (Op.equalIn 10000 23 x.v y.v).run Tryd.prog w = .ok (eq6 x y) w := by
  obtain ⟨i, hi⟩ := Option.isSome_iff_exists.1 info3
  unfold C6.v
  rw [show (10000 : Nat) = 9999 + 1 from rfl, run_equalIn_array w 9999 _ _ Tryd.underlying23 hi, cells3, show List.range 6 = [0, 1, 2, 3, 4, 5] from rfl]
  have e := fun (a b : Int) (w : World) => run_equalIn_int (P := Tryd.prog) w 9998 3 .i64 .i64 a b Tryd.underlying3
  simp only [Op.eqItems, Sem.run_bind, Nat.reduceMul, pt0, pt1, pt2, pt3, pt4, pt5, Result.andThen_ok, e, Sem.run_ite, Sem.run_pure]
  unfold eq6
  by_cases h0 : x.a = y.a <;> by_cases h1 : x.b = y.b <;> by_cases h2 : x.c = y.c <;> by_cases h3 : x.d = y.d <;> by_cases h4 : x.e = y.e <;> by_cases h5 : x.f = y.f <;> simp [h0, h1, h2, h3, h4, h5]
end Go.Proofs.YtfhdmknplpgiiaaDoor.Ck
