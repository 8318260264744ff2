/- StateDistincts, walked: any slice of states. -/
import Derived.Test.YtbcdeanmjhcgeaaD3
namespace Go.Proofs.Ytbcdeanmjhcgeaa.Di
open Go.RowKit Go.Maps
theorem list_op {P : Program} {ops : Array Oper} {rest : List Oper} {op : Oper} {a : Act} {w w' : World} {v : Value} {Q : Exit → Act → World → Prop} (hgd : op.guard = none) (h : (execOp a.eval op).run P w = .ok (.value v) w')
    (hn : wpList P ops Q rest (a.put op.dst v) w') : wpList P ops Q (op :: rest) a w := by
  refine wpList_plain hgd fun _ hK => ?_
  unfold Oper.wp
  rw [h]
  exact hK _ _ hn
def ocells : Array Value := zcells.setIfInBounds 120 (.int .i64 1)
def acells : Array Value := zcells ++ ocells ++ zcells
theorem run_b0 (w : World) : (Instr.build 36 #[]).run Try.prog w = .ok (.agg zcells) w := by kernel_rfl
theorem run_b1 (w : World) : (Instr.build 36 #[(4, .int .i64 1)]).run Try.prog w = .ok (.agg ocells) w := by kernel_rfl
theorem run_bs (w : World) : (Instr.buildSlice 22 3 #[(0, .agg zcells), (1, .agg ocells), (2, .agg zcells)]).run Try.prog w = .ok (.slice (some ⟨w.heap.size, 0, none⟩) 3 3) (w.alloc (.cells acells 36)) := by kernel_rfl
theorem ex_b0 {o : Oper} {ρ : Operand → Value} (ho : o.op = .build 36 #[]) (w : World) : (execOp ρ o).run Try.prog w = .ok (.value (.agg zcells)) w := by
  have h := run_b0 w
  unfold execOp
  rw [ho]
  simp only [List.map_toArray, List.map_nil, Sem.run_bind, h, Result.andThen_ok, Sem.run_pure]
theorem ex_b1 {o : Oper} {ρ : Operand → Value} {c : Operand} (ho : o.op = .build 36 #[(4, c)]) (hc : ρ c = .int .i64 1) (w : World) : (execOp ρ o).run Try.prog w = .ok (.value (.agg ocells)) w := by
  have h := run_b1 w
  unfold execOp
  rw [ho]
  simp only [List.map_toArray, List.map_nil, List.map_cons, hc, Sem.run_bind, h, Result.andThen_ok, Sem.run_pure]
theorem ex_bs {o : Oper} {ρ : Operand → Value} {x y z : Operand} (ho : o.op = .buildSlice 22 3 #[(0, x), (1, y), (2, z)]) (hx : ρ x = .agg zcells) (hy : ρ y = .agg ocells) (hz : ρ z = .agg zcells) (w : World) :
    (execOp ρ o).run Try.prog w = .ok (.value (.slice (some ⟨w.heap.size, 0, none⟩) 3 3)) (w.alloc (.cells acells 36)) := by
  have h := run_bs w
  unfold execOp
  rw [ho]
  simp only [List.map_toArray, List.map_nil, List.map_cons, hx, hy, hz, Sem.run_bind, h, Result.andThen_ok, Sem.run_pure]
theorem keys : ∃ kz ko, keyOf Try.prog 36 (.agg zcells) = some kz ∧ keyOf Try.prog 36 (.agg ocells) = some ko := by
  have h : (keyOf Try.prog 36 (.agg zcells)).isSome = true := by kernel_rfl
  have h' : (keyOf Try.prog 36 (.agg ocells)).isSome = true := by kernel_rfl
  obtain ⟨l, hl⟩ := Option.isSome_iff_exists.1 h
  obtain ⟨l', hl'⟩ := Option.isSome_iff_exists.1 h'
  exact ⟨l, l', hl, hl'⟩
theorem ocells_size : ocells.size = 121 := by rw [ocells, Array.size_setIfInBounds, zero_size]
theorem ne_zo {kz ko : Lit} (key_z : keyOf Try.prog 36 (.agg zcells) = some kz) (key_o : keyOf Try.prog 36 (.agg ocells) = some ko) : kz ≠ ko := fun h => by
  have e := lawS.inj key_z (h ▸ key_o)
  have e2 : zcells = ocells := by injection e
  have e3 : zcells[120]? = ocells[120]? := by rw [e2]
  rw [ocells, Array.getElem?_setIfInBounds_self_of_lt (by rw [zero_size]; decide)] at e3
  have e4 : zcells[120]? = some (.int .i64 0) := by kernel_rfl
  rw [e4] at e3
  cases e3
def k3 (kz ko : Lit) (j : Nat) : Lit := if j = 1 then ko else kz
def c3 (j : Nat) : Array Value := if j = 1 then ocells else zcells
theorem is_key {v : Value} {l : Lit} (h : keyOf Try.prog 36 v = some l) : WideAt.IsKeyLit l := by obtain ⟨s, rfl⟩ := lawS.str h; trivial
theorem one_z : zcells.all (·.oneCell') = true := by kernel_rfl
theorem one_o : ocells.all (·.oneCell') = true := by kernel_rfl
theorem three {kz ko : Lit} (key_z : keyOf Try.prog 36 (.agg zcells) = some kz) (key_o : keyOf Try.prog 36 (.agg ocells) = some ko) (w : World) : Sts (some ⟨w.heap.size, 0, none⟩) 3 (k3 kz ko) (w.alloc (.cells acells 36)) := by
  have hk : ∀ j, WideAt.IsKeyLit (k3 kz ko j) := fun j => by unfold k3; split; exact is_key key_o; exact is_key key_z
  refine ⟨hk, .inr ⟨_, _, c3, rfl, ?_⟩⟩
  refine ⟨by simp, fun j hj i v hv => ?_, fun j _ => ?_, fun j _ => ?_, fun j _ => ?_, hk⟩
  · rw [World.cell?_alloc_new]
    have hz := zero_size; have ho := ocells_size
    have hi : i < 121 := by
      have := (List.getElem?_eq_some_iff.1 hv).1
      unfold c3 at this; split at this <;> simp at this <;> omega
    unfold acells
    obtain rfl | rfl | rfl : j = 0 ∨ j = 1 ∨ j = 2 := by omega
    · rw [Array.getElem?_append_left (by simp; omega), Array.getElem?_append_left (by omega)]
      simpa [c3] using hv
    · rw [Array.getElem?_append_left (by simp; omega), Array.getElem?_append_right (by omega)]
      simpa [c3, hz] using hv
    · rw [Array.getElem?_append_right (by simp; omega)]
      simpa [c3, hz, ho] using hv
  · unfold c3; split; exact ocells_size; exact zero_size
  · unfold c3; split; exact one_o; exact one_z
  · unfold c3 k3; split; exact key_o; exact key_z
theorem like3 {kz ko : Lit} (key_z : keyOf Try.prog 36 (.agg zcells) = some kz) (key_o : keyOf Try.prog 36 (.agg ocells) = some ko) : dist (like (k3 kz ko)) 3 = 2 ∧ fsts (like (k3 kz ko)) 3 = [0, 1, 0] := by
  have h01 : like (k3 kz ko) 0 1 = false := by
    rw [Bool.eq_false_iff]; exact fun h => ne_zo key_z key_o (WideAt.sameKey_eq h)
  have h11 : like (k3 kz ko) 1 1 = true := by unfold like; exact WideAt.sameKey_self (is_key key_o)
  have h00 : like (k3 kz ko) 0 0 = true := by unfold like; exact WideAt.sameKey_self (is_key key_z)
  have h02 : like (k3 kz ko) 0 2 = true := by unfold like; exact WideAt.sameKey_self (is_key key_z)
  simp [dist, fsts, fs, lk, h01, h11, h00, h02, List.range_succ]
theorem ints3 (w : World) : Ints (w.alloc (.cells #[.int .i64 0, .int .i64 1, .int .i64 0] 3)) (some ⟨w.heap.size, 0, none⟩) 3 [0, 1, 0] :=
  ⟨rfl, .inr ⟨_, _, rfl, fun j hj => by
    rw [Nat.zero_add, World.cell?_alloc_new]
    obtain rfl | rfl | rfl : j = 0 ∨ j = 1 ∨ j = 2 := by omega
    all_goals rfl⟩⟩
theorem Sts.below {a : Option Addr} {n : Nat} {K : Nat → Lit} {w w' : World} (h : Sts a n K w) (hb : Below w.heap.size w w') : Sts a n K w' := by
  refine ⟨h.isKey, h.row.imp id ?_⟩
  rintro ⟨b, off, C, rfl, R⟩
  exact ⟨b, off, C, rfl, Nat.lt_of_lt_of_le R.lt hb.size, fun j hj => range_below hb (R.at_ j hj) R.lt, R.size, R.one, R.key, R.isKey⟩
end Go.Proofs.Ytbcdeanmjhcgeaa.Di
