/- Rows of cells written into a block that a call has laid; a whole state written and handed back; what settling leaves. No condition. -/
import Derived.Test.YtbcdeanmjhcgeaaDoorZa
import Derived.Test.YtbcdeanmjhcgeaaDoorZL3
import Derived.Laws.Tables
namespace Go.Proofs.YtbcdeanmjhcgeaaDoor.Pg
set_option linter.unusedVariables false
set_option linter.unusedSimpArgs false
open Go.ChangeShapes Go.WideShapes Go.RowKit
set_option linter.unusedVariables false
/-- An array, a row of it written anew. -/
def putRow (arr : Array Value) : Nat → List Value → Array Value
  | _, [] => arr
  | o, v :: vs => putRow (arr.setIfInBounds o v) (o + 1) vs
theorem putRow_size (vs : List Value) : ∀ (arr : Array Value) (o : Nat), (putRow arr o vs).size = arr.size := by
  induction vs with
  | nil => intro arr o; rfl
  | cons v vs ih => intro arr o; unfold putRow; rw [ih, Array.size_setIfInBounds]
theorem putRow_list (vs : List Value) : ∀ (arr : Array Value) (o : Nat), o + vs.length ≤ arr.size → (putRow arr o vs).toList = arr.toList.take o ++ vs ++ arr.toList.drop (o + vs.length) := by
  induction vs with
  | nil => intro arr o h; simp [putRow]
  | cons v vs ih =>
    intro arr o h
    simp only [List.length_cons] at h
    unfold putRow
    rw [ih _ _ (by rw [Array.size_setIfInBounds]; omega), Array.toList_setIfInBounds]
    rw [List.take_set, List.drop_set_of_lt (by omega), List.length_cons, show o + (vs.length + 1) = o + 1 + vs.length by omega]
    rw [List.take_succ_eq_append_getElem (by simp; omega), List.set_append, if_neg (by simp; omega)]
    simp [show min o arr.size = o by omega]
theorem putRow_all (arr : Array Value) (vs : List Value) (h : vs.length = arr.size) : putRow arr 0 vs = vs.toArray := by
  apply Array.toList_inj.1
  rw [putRow_list _ _ _ (by omega)]
  simp [h]
theorem Env.setRow {w : World} {b : Nat} {bs : List (Nat × Array Value)} (hb : w.heap.size ≤ b) (ne : ∀ p ∈ bs, p.1 ≠ b) (vs : List Value) :
    ∀ (arr : Array Value) (o : Nat) (W : World), Env w ((b, arr) :: bs) W → o + vs.length ≤ arr.size → Env w ((b, putRow arr o vs) :: bs) (W.setCells b o vs) := by
  induction vs with
  | nil => intro arr o W E h; exact E
  | cons v vs ih =>
    intro arr o W E h
    simp only [List.length_cons] at h
    exact ih _ _ _ (E.set hb ne o (by omega) v) (by rw [Array.size_setIfInBounds]; omega)
theorem Blk.cast {b : Nat} {arr arr' : Array Value} {W : World} (h : Blk b arr W) (e : arr = arr') : Blk b arr' W := e ▸ h
theorem Blk.there {b : Nat} {arr : Array Value} {W : World} (B : Blk b arr W) (o n : Nat) (h : o + n ≤ arr.size) : W.there b o n := fun j hj =>
  ⟨by rw [B.cell, Array.getElem?_eq_getElem (by omega)]; rfl, B.fr _⟩
/-- The state of nothing. -/
def St.none : St := ⟨[0, 0, 0, 0, 0, 0, 0, 0], [0, 0, 0, 0], [default, default, default, default], [default, default, default, default, default, default], 0⟩
theorem St.none_ok : St.none.ok where
  vars x hx := by simp [St.none] at hx; subst hx; exact ⟨by decide, by decide⟩
  owner x hx := by simp [St.none] at hx; subst hx; exact ⟨by decide, by decide⟩
  chans x hx := by
    simp [St.none] at hx; subst hx
    exact ⟨fun y hy => by have hy : y ∈ ([0, 0, 0, 0] : List Int) := hy; simp at hy; subst hy; exact ⟨by decide, by decide⟩, rfl, ⟨by decide, by decide⟩, ⟨by decide, by decide⟩, ⟨by decide, by decide⟩, ⟨by decide, by decide⟩⟩
  gos x hx := by
    simp [St.none] at hx; subst hx
    exact ⟨⟨by decide, by decide⟩, ⟨by decide, by decide⟩, ⟨by decide, by decide⟩, ⟨by decide, by decide⟩, fun y hy => by have hy : y ∈ ([0, 0, 0, 0, 0, 0, 0, 0] : List Int) := hy; simp at hy; subst hy; exact ⟨by decide, by decide⟩, rfl⟩
  count := ⟨by decide, by decide⟩
  lv := rfl
  lo := rfl
  lc := rfl
  lg := rfl
theorem built_none : Tryd.prog.built 32 [] = some St.none.cs.toArray := by kernel_rfl
theorem zero_state : (Tryd.prog.info? 32).map (·.zero) = some (some (.agg St.none.cs.toArray)) := by kernel_rfl
theorem St.one_cell {s : St} : s.cs.toArray.all (·.oneCell') = true := by
  refine all_oneCell_toArray fun v hv => ?_
  simp only [St.cs, List.mem_append, List.mem_map, List.mem_flatMap, Ch.cs, Gr.cs, List.mem_cons, List.not_mem_nil, or_false] at hv
  rcases hv with ⟨_, _, rfl⟩ | ⟨_, _, rfl⟩ | ⟨_, _, ⟨_, _, rfl⟩ | rfl | rfl | rfl | rfl | rfl⟩ | ⟨_, _, (rfl | rfl | rfl | rfl) | ⟨_, _, rfl⟩⟩ | rfl <;> rfl
theorem load_st {b : Nat} {s : St} (h : s.ok) {W : World} (B : Blk b s.cs.toArray W) : (loadVar 32 ⟨b, 0, none⟩).run Tryd.prog W = .ok s.v W := by
  unfold St.v
  simpa using run_loadVar_mid W b 0 32 s.cs.toArray.toList _ B.range Tryd.underlying32 rfl (by rw [size32, Array.length_toList]; simp [St.cs_len h])
theorem zc : Tryd.zeroCells32 = St.none.cs.toArray := by kernel_rfl
theorem fuelled_walk (f : Int) (w : World) : Calls Tryd.prog 34 #[.int .i64 f] w fun e w' => e = .returned (.bool (decide (0 ≤ f ∧ f ≤ 4096))) ∧ w' = w := by
  by_cases h0 : 0 ≤ f
  · by_cases h1 : f ≤ 4096
    · go_enter Tryd.func34, Tryd.ntmps34
      go_wp2
      go_ret
      exact ⟨by simp; omega, rfl⟩
    · go_enter Tryd.func34, Tryd.ntmps34
      go_wp2
      go_ret
      exact ⟨by simp; omega, rfl⟩
  · go_enter Tryd.func34, Tryd.ntmps34
    go_wp2
    go_ret
    exact ⟨by simp; omega, rfl⟩
/-- A state, a goroutine of it put in. -/
def St.setGo (s : St) (k : Nat) (g : Gr) : St := ⟨s.vars, s.owner, s.chans, s.gos.set k g, s.count⟩
theorem flat_set {α : Type} (f : α → List Value) (c : Nat) : ∀ (l : List α) (_ : ∀ x ∈ l, (f x).length = c) (k : Nat) (x : α), k < l.length → (l.set k x).flatMap f = (l.flatMap f).take (k * c) ++ f x ++ (l.flatMap f).drop (k * c + c)
  | [], _, k, x, h => by simp at h
  | y :: l, hf, 0, x, h => by
    have hy := hf y (List.mem_cons_self ..)
    simp [← hy]
  | y :: l, hf, k + 1, x, h => by
    have hy := hf y (List.mem_cons_self ..)
    have ih := flat_set f c l (fun x hx => hf x (List.mem_cons_of_mem _ hx)) k x (by simpa using h)
    rw [List.set_cons_succ, List.flatMap_cons, ih, List.flatMap_cons]
    rw [show (k + 1) * c = (f y).length + k * c by rw [Nat.succ_mul, hy]; omega, List.take_length_add_append, show (f y).length + k * c + c = (f y).length + (k * c + c) by omega, List.drop_length_add_append]
    simp
theorem St.setGo_ok {s : St} (h : s.ok) (k : Nat) {g : Gr} (hg : g.ok) : (s.setGo k g).ok :=
  ⟨h.vars, h.owner, h.chans, fun x hx => (List.mem_or_eq_of_mem_set hx).elim (h.gos x) (fun e => e ▸ hg), h.count, h.lv, h.lo, h.lc, by simpa [St.setGo] using h.lg⟩
theorem St.cs_setGo {s : St} (h : s.ok) (k : Nat) (hk : k < 6) {g : Gr} (hg : g.ok) : (s.setGo k g).cs.toArray = putRow s.cs.toArray (48 + k * 12) g.cs := by
  have hl := h.lv; have ho := h.lo; have hlc := St.len_chans h; have hlg := St.len_gos h; have hcg := Gr.cs_len hg
  have h121 := St.cs_len h
  apply Array.toList_inj.1
  rw [putRow_list _ _ _ (by simp; omega)]
  have hA : (s.vars.map (Value.int .i64) ++ (s.owner.map (Value.int .i64) ++ s.chans.flatMap Ch.cs)).length = 48 := by simp only [List.length_append, List.length_map]; omega
  have e : ∀ G : List Value, s.vars.map (Value.int .i64) ++ (s.owner.map (Value.int .i64) ++ (s.chans.flatMap Ch.cs ++ (G ++ [.int .i64 s.count]))) = (s.vars.map (Value.int .i64) ++ (s.owner.map (Value.int .i64) ++ s.chans.flatMap Ch.cs)) ++ (G ++ [.int .i64 s.count]) := fun G => by simp
  have e1 : s.cs = (s.vars.map (Value.int .i64) ++ (s.owner.map (Value.int .i64) ++ s.chans.flatMap Ch.cs)) ++ (s.gos.flatMap Gr.cs ++ [.int .i64 s.count]) := e _
  have e2 : (s.setGo k g).cs = (s.vars.map (Value.int .i64) ++ (s.owner.map (Value.int .i64) ++ s.chans.flatMap Ch.cs)) ++ ((s.gos.set k g).flatMap Gr.cs ++ [.int .i64 s.count]) := e _
  rw [e2, flat_set Gr.cs 12 _ (fun x hx => Gr.cs_len (h.gos x hx)) k g (by rw [h.lg]; exact hk)]
  show _ = s.cs.take _ ++ g.cs ++ s.cs.drop _
  rw [e1]
  generalize s.vars.map (Value.int .i64) ++ (s.owner.map (Value.int .i64) ++ s.chans.flatMap Ch.cs) = A at *
  generalize s.gos.flatMap Gr.cs = G at *
  rw [hcg, ← hA, List.take_length_add_append, Nat.add_assoc, List.drop_length_add_append, List.take_append_of_le_length (by omega), List.drop_append_of_le_length (by omega)]
  simp
theorem go_ok {s : St} (hs : s.ok) (k : Nat) (hk : k < 6) : (s.gos.getD k default).ok := by
  rw [show s.gos.getD k default = s.gos[k]'(by rw [hs.lg]; exact hk) by simp [show k < s.gos.length by rw [hs.lg]; exact hk]]
  exact hs.gos _ (List.getElem_mem _)
theorem load_whole {b : Nat} {arr : Array Value} {W : World} (B : Blk b arr W) (hs : arr.size = 121) : (Instr.loadAt 32 (.pointer (some ⟨b, 0, none⟩))).run Tryd.prog W = .ok (.agg arr) W := by
  simpa using run_loadAt_mid W b 0 32 arr.toList _ B.range Tryd.underlying32 rfl (by rw [size32, Array.length_toList, hs])
theorem Stood.settle {A : Int → Int → Int → Int × Int} {P : Pg} (R : Rt P) (hA : AluOk A) (W : AluWhy A) (hx : ∀ f ∈ P.funcs, ∀ x ∈ f.code, x.ok) : ∀ (n : Nat) (g : Gr), Stood P g → Stood P (settle A P n g) := by
  intro n
  induction n with
  | zero =>
    intro g h
    by_cases hc : g.status = 1 ∧ loc (g.ins P).op = true
    · rw [settle_spun hc]
      exact ⟨⟨i64_small (n := 5) (by omega) (by omega), h.ok.fn, h.ok.pc, h.ok.why, h.ok.regs, h.ok.len⟩, h.f0, h.f1, h.p0, h.p1⟩
    · rw [settle_stop hc]; exact h
  | succ n ih =>
    intro g h
    by_cases hc : g.status = 1 ∧ loc (g.ins P).op = true
    · rw [settle_next hc]
      exact ih _ (h.step R hA W (hx _ h.fn_mem _ h.ins_mem) hc.2)
    · rw [settle_stop hc]; exact h
theorem Pg.In.insOk {P : Pg} {w : World} (I : P.In w) : ∀ f ∈ P.funcs, ∀ x ∈ f.code, x.ok := fun f hf x hx => (I.funcs f hf).oks x hx
theorem list_load_st {ops : Array Oper} {rest : List Oper} {op : Oper} {a : Act} {w : World} {Q : Exit → Act → World → Prop} (hgd : op.guard = none) (x : Operand) (ho : op.op = .load 32 x) {b : Nat} (hx : a.eval x = .pointer (some ⟨b, 0, none⟩)) {arr : Array Value} (B : Blk b arr w) (hs : arr.size = 121)
    (h : wpList Tryd.prog ops Q rest (a.put op.dst (.agg arr)) w) : wpList Tryd.prog ops Q (op :: rest) a w := list_load hgd _ x ho _ hx _ (load_whole B hs) h
theorem one12 (v0 v1 v2 v3 v4 v5 v6 v7 v8 v9 v10 v11 : Int) : (#[.int .i64 v0, .int .i64 v1, .int .i64 v2, .int .i64 v3, .int .i64 v4, .int .i64 v5, .int .i64 v6, .int .i64 v7, .int .i64 v8, .int .i64 v9, .int .i64 v10, .int .i64 v11] : Array Value).all (·.oneCell') = true :=
  all_oneCell_toArray (cs := [.int .i64 v0, .int .i64 v1, .int .i64 v2, .int .i64 v3, .int .i64 v4, .int .i64 v5, .int .i64 v6, .int .i64 v7, .int .i64 v8, .int .i64 v9, .int .i64 v10, .int .i64 v11]) (fun v hv => by simp only [List.mem_cons, List.not_mem_nil, or_false] at hv; rcases hv with rfl | rfl | rfl | rfl | rfl | rfl | rfl | rfl | rfl | rfl | rfl | rfl <;> rfl)
end Go.Proofs.YtbcdeanmjhcgeaaDoor.Pg
