/- Several texts of one proof, one behind the other. A program taken by value, in memory: its own cell beside its lists' rows, behind each append. No condition. | A line taken by the reference, walked: kind by kind. The condition: the program's lists in memory. -/
import Derived.Test.YtlhhmlfcodmebaaGreatDoorZi
import Derived.Test.YtlhhmlfcodmebaaGreatDoorZVd
namespace Go.Proofs.YtlhhmlfcodmebaaGreatDoor.Pg
set_option linter.unusedVariables false
set_option linter.unusedSimpArgs false
open Go.RowKit Go.WideShapes Go.ChangeShapes
set_option linter.unusedVariables false
set_option linter.unusedSimpArgs false
theorem below_of_grown {n0 : Nat} {W W' : World} {k : Option Nat} (hn : n0 ≤ W.heap.size) (g : W.grownBy W' k) (hk : ∀ j, k = some j → n0 ≤ j) : Below n0 W W' :=
  ⟨g.os, g.tape, g.output, g.size, fun b hb => g.block b (by omega) fun e => by have := hk b e.symm; omega⟩
theorem Rws.blk_ge {n0 : Nat} {rs : List Row} {W : World} (h : Rws n0 rs W) {row : Row} (hr : row ∈ rs) {k : Nat} (e : row.blk = some k) : n0 ≤ k ∧ k < W.heap.size := World.ownsRow.lt (h.own row hr) k e
theorem Rws.grow {n0 : Nat} {rs : List Row} {W W' : World} (h : Rws n0 rs W) (hn : n0 ≤ W.heap.size) {row : Row} (hr : row ∈ rs) (g : W.grownBy W' row.blk) : Below n0 W W' :=
  below_of_grown hn g fun j e => (h.blk_ge hr e).1
/-- Rows behind a row with a block, laid anew. -/
theorem Rws.fresh {n0 : Nat} {rs : List Row} {W : World} (h : Rws n0 rs W) (hn : n0 ≤ W.heap.size) (t : TypeId) (sz n : Nat) (cs : Array Value) (hm : n ≤ maxLen) (hs : cs.size = n * sz) :
    Rws n0 (⟨t, sz, .slice (some ⟨W.heap.size, 0, none⟩) n n, n, cs.toList⟩ :: rs) (W.alloc (.cells cs t)) := by
  have hb : Below W.heap.size W (W.alloc (.cells cs t)) := (Below.refl _ _).alloc (Nat.le_refl _) _
  refine ⟨fun x hx => ?_, ?_⟩
  · rcases List.mem_cons.1 hx with rfl | hx
    · exact World.ownsRow_lit W cs n hn hm hs
    · exact (h.below hb).own x hx
  · have e : Row.blk ⟨t, sz, .slice (some ⟨W.heap.size, 0, none⟩) n n, n, cs.toList⟩ = some W.heap.size := rfl
    rw [List.filterMap_cons_some e, List.nodup_cons]
    refine ⟨fun hm => ?_, h.apart⟩
    obtain ⟨x, hx, e⟩ := List.mem_filterMap.1 hm
    have := (h.blk_ge hx e).2
    omega
theorem Rws.tail {n0 : Nat} {r : Row} {rs : List Row} {W : World} (h : Rws n0 (r :: rs) W) : Rws n0 rs W := by
  refine ⟨fun x hx => h.own x (List.mem_cons_of_mem _ hx), ?_⟩
  have ha := h.apart
  rcases hr : r.blk with _ | k
  · rwa [List.filterMap_cons_none hr] at ha
  · rw [List.filterMap_cons_some hr, List.nodup_cons] at ha
    exact ha.2
/-- The program's own cell, as a row. -/
def slf (r : Nat) (p : Pg) : Row := ⟨26, 4, .slice (some ⟨r, 0, none⟩) 1 1, 1, p.cs⟩
structure Hs (n0 r N : Nat) (p : Pg) (ex : List Row) (W : World) : Prop where
  rows : Rws n0 (slf r p :: (p.rows ++ ex)) W
  few : p.Few N
  hi : n0 ≤ W.heap.size
theorem Hs.new {n0 N : Nat} {p : Pg} {W : World} (h : Rws n0 p.rows W) (f : p.Few N) (hn : n0 ≤ W.heap.size) (q : Pg) :
    Hs n0 W.heap.size N p [slf (W.heap.size + 1) q] ((W.alloc (.cells p.cs.toArray 26)).alloc (.cells q.cs.toArray 26)) := by
  have h1 := h.fresh hn 26 4 1 p.cs.toArray (by decide) rfl
  have h2 := h1.fresh (by simp; omega) 26 4 1 q.cs.toArray (by decide) rfl
  refine ⟨h2.perm ?_, f, by simp; omega⟩
  have e : (W.alloc (.cells p.cs.toArray 26)).heap.size = W.heap.size + 1 := by simp
  rw [e]
  exact (List.perm_append_comm (l₁ := [slf (W.heap.size + 1) q]) (l₂ := slf W.heap.size p :: p.rows))
/-- No row lies in block b. -/
def Off (b : Nat) (rs : List Row) : Prop := ∀ x ∈ rs, x.blk ≠ some b
theorem Rws.off {n0 b : Nat} {rs : List Row} {z : Row} {W : World} (h : Rws n0 (rs ++ [z]) W) (hz : z.blk = some b) : Off b rs := by
  intro x hx e
  have ha := (h.perm (List.perm_append_comm (l₁ := rs) (l₂ := [z]))).apart
  rw [List.singleton_append, List.filterMap_cons_some hz, List.nodup_cons] at ha
  exact ha.1 (List.mem_filterMap.2 ⟨x, hx, e⟩)
theorem Rws.setOff {n0 b : Nat} {rs : List Row} {W : World} (h : Rws n0 rs W) (hb : Off b rs) (o : Nat) (v : Value) : Rws n0 rs (W.setCell ⟨b, o, none⟩ v) :=
  ⟨fun x hx => World.ownsRow.kept (h.own x hx) (grown_cell W b o v) (.inr (hb x hx)), h.apart⟩
theorem Rws.left {n0 : Nat} {rs ex : List Row} {W : World} (h : Rws n0 (rs ++ ex) W) : Rws n0 rs W := by
  refine ⟨fun x hx => h.own x (List.mem_append_left _ hx), ?_⟩
  have ha := h.apart
  rw [List.filterMap_append] at ha
  exact (List.nodup_append.1 ha).1
theorem slf_cell {n0 r : Nat} {p : Pg} {rs : List Row} {W : World} (h : Rws n0 rs W) (hm : slf r p ∈ rs) (o : Nat) (ho : o < 4) : W.cell? ⟨r, o, none⟩ = p.cs[o]? := World.ownsRow.cellAt (h.own _ hm) o (by show o < 1 * 4; omega)
theorem slf_fr {n0 r : Nat} {p : Pg} {rs : List Row} {W : World} (h : Rws n0 rs W) (hm : slf r p ∈ rs) (o : Nat) : W.frozen? ⟨r, o, none⟩ = false := World.ownsRow.frozenAt (h.own _ hm) o
theorem Hs.below {n0 r N : Nat} {p : Pg} {ex : List Row} {W W' : World} (h : Hs n0 r N p ex W) (hb : Below W.heap.size W W') : Hs n0 r N p ex W' := ⟨h.rows.below hb, h.few, Nat.le_trans h.hi hb.size⟩
/-- A cell of the program's own written. -/
theorem slf_set {n0 r : Nat} {p q : Pg} {rs : List Row} {W : World} (h : Rws n0 (slf r p :: rs) W) (o : Nat) (v : Value) (hq : p.cs.set o v = q.cs) :
    Rws n0 (slf r q :: rs) (W.setCell ⟨r, o, none⟩ v) ∧ W.grownBy (W.setCell ⟨r, o, none⟩ v) (some r) := by
  obtain ⟨h1, h2⟩ := h.put rfl o v
  refine ⟨?_, h2⟩
  have e : (⟨(slf r p).t, (slf r p).sz, (slf r p).v, (slf r p).n, (slf r p).xs.set o v⟩ : Row) = slf r q := by
    show (⟨_, _, _, _, p.cs.set o v⟩ : Row) = _
    rw [hq]
    rfl
  rwa [e] at h1
/-! ## How little there is, with a line more -/
variable {N : Nat} {p : Pg}
theorem few_chan (h : p.Few N) (a : Option Addr) (c : Nat) {n : Int} (hn : I64 n) : Pg.Few (N + 1) { p with ha := a, hcap := c, chans := p.chans ++ [n] } := by
  have hr := h.mono (Nat.le_succ N)
  exact ⟨hr.inits, fun x hx => by rcases List.mem_append.1 hx with h | h; exact hr.chans x h; simp at h; subst h; exact hn, hr.locks, hr.lenV, by have := h.lenH; simp; omega, hr.lenF, hr.funcs⟩
theorem few_var (h : p.Few N) (a : Option Addr) (c : Nat) {x : Vr} (hn : I64 x.init) : Pg.Few (N + 1) { p with va := a, vcap := c, vars := p.vars ++ [x] } := by
  have hr := h.mono (Nat.le_succ N)
  exact ⟨fun y hy => by rcases List.mem_append.1 hy with h | h; exact hr.inits y h; simp at h; subst h; exact hn, hr.chans, hr.locks, by have := h.lenV; simp; omega, hr.lenH, hr.lenF, hr.funcs⟩
theorem few_lock (h : p.Few N) : Pg.Few (N + 1) { p with locks := p.locks + 1 } := by
  have hr := h.mono (Nat.le_succ N)
  have := h.locks
  exact ⟨hr.inits, hr.chans, ⟨by show 0 ≤ p.locks + 1; omega, by show p.locks + 1 ≤ ((N + 1 : Nat) : Int); omega⟩, hr.lenV, hr.lenH, hr.lenF, hr.funcs⟩
theorem few_func (h : p.Few N) (a : Option Addr) (c : Nat) {x y : Int} (hx : I64 x) (hy : I64 y) : Pg.Few (N + 1) { p with fa := a, fcap := c, funcs := p.funcs ++ [Fn.new x y] } := by
  have hr := h.mono (Nat.le_succ N)
  refine ⟨hr.inits, hr.chans, hr.locks, hr.lenV, hr.lenH, by have := h.lenF; simp; omega, fun f hf => ?_⟩
  rcases List.mem_append.1 hf with h | h
  · exact hr.funcs f h
  · simp at h; subst h
    exact ⟨hx, hy, (fun _ h => by cases h), Nat.zero_le _, Nat.zero_le _, (fun _ h => by cases h)⟩
theorem few_turn (h : p.Few N) (fs : List Fn) (f f' : Fn) (hp : p.funcs = fs ++ [f]) (hf : f'.Few (N + 1)) : Pg.Few (N + 1) { p with funcs := fs ++ [f'] } := by
  have hm := h.mono (Nat.le_succ N)
  have hl : p.funcs.length = (fs ++ [f']).length := by rw [hp]; simp
  refine ⟨hm.inits, hm.chans, hm.locks, hm.lenV, hm.lenH, by show (fs ++ [f']).length ≤ _; rw [← hl]; exact hm.lenF, fun x hx => ?_⟩
  rcases List.mem_append.1 hx with h | h
  · exact hm.funcs x (by rw [hp]; exact List.mem_append_left _ h)
  · simp at h; subst h; exact hf
theorem few_code {f : Fn} (h : f.Few N) (a : Option Addr) (c : Nat) {x : Ins} (hx : x.ok) : Fn.Few (N + 1) { f with ca := a, ccap := c, code := f.code ++ [x] } := by
  have hfm := h.mono (Nat.le_succ N)
  refine ⟨hfm.par, hfm.reg, fun y hy => ?_, by have := h.lenC; simp; omega, hfm.lenS, hfm.sels⟩
  rcases List.mem_append.1 hy with h | h
  · exact hfm.oks y h
  · simp at h; subst h; exact hx
theorem few_sel {f : Fn} (h : f.Few N) (a : Option Addr) (c : Nat) {n : Int} (hx : I64 n) : Fn.Few (N + 1) { f with sa := a, scap := c, sels := f.sels ++ [⟨none, 0, [], n⟩] } := by
  have hfm := h.mono (Nat.le_succ N)
  refine ⟨hfm.par, hfm.reg, hfm.oks, hfm.lenC, by have := h.lenS; simp; omega, fun y hy => ?_⟩
  rcases List.mem_append.1 hy with h | h
  · exact hfm.sels y h
  · simp at h; subst h; exact ⟨fun _ h => (by cases h), hx, Nat.zero_le _⟩
theorem few_case {f : Fn} (h : f.Few N) (ss : List Sel) (s : Sel) (hs : f.sels = ss ++ [s]) (a : Option Addr) (c : Nat) {x : Cas} (hx : x.ok) : Fn.Few (N + 1) { f with sels := ss ++ [{ s with a := a, cap := c, cases := s.cases ++ [x] }] } := by
  have hfm := h.mono (Nat.le_succ N)
  refine ⟨hfm.par, hfm.reg, hfm.oks, hfm.lenC, ?_, fun y hy => ?_⟩
  · have := hfm.lenS; rw [hs] at this; simpa using this
  · rcases List.mem_append.1 hy with q | q
    · exact hfm.sels y (by rw [hs]; exact List.mem_append_left _ q)
    · simp at q; subst q
      have hsm := hfm.sels s (by rw [hs]; simp)
      have hsl := (h.sels s (by rw [hs]; simp)).2.2
      refine ⟨fun z hz => ?_, hsm.2.1, by simp; omega⟩
      rcases List.mem_append.1 hz with h | h
      · exact hsm.1 z h
      · simp at h; subst h; exact hx
/-! ## Behind each append -/
variable {W W2 : World} {n0 r : Nat} {ex : List Row}
theorem Hs.var (H : Hs n0 r N p ex W) {g cap : Nat} {x : Vr} (hn : I64 x.init) (k1 : Rws n0 (p.varRow.more g cap x.cs :: slf r p :: (p.chanRow :: p.funcRow :: p.funcs.flatMap Fn.rows ++ ex)) W2) (k2 : W.grownBy W2 p.varRow.blk) :
    Hs n0 r (N + 1) { p with va := some ⟨g, 0, none⟩, vcap := cap, vars := p.vars ++ [x] } ex (W2.setCell ⟨r, 0, none⟩ (.slice (some ⟨g, 0, none⟩) (p.vars.length + 1) cap)) ∧ Below n0 W (W2.setCell ⟨r, 0, none⟩ (.slice (some ⟨g, 0, none⟩) (p.vars.length + 1) cap)) := by
  have b1 := H.rows.grow H.hi (row := p.varRow) (by simp [Pg.rows]) k2
  have h2 := Nat.le_trans H.hi k2.size
  obtain ⟨k3, k4⟩ := slf_set (q := { p with va := some ⟨g, 0, none⟩, vcap := cap, vars := p.vars ++ [x] }) (k1.perm (List.Perm.swap _ _ _)) 0 (.slice (some ⟨g, 0, none⟩) (p.vars.length + 1) cap) (by simp [Pg.cs])
  have hr := (k1.blk_ge (row := slf r p) (by simp) rfl).1
  rw [← var_more] at k3
  exact ⟨⟨k3, few_var H.few _ _ hn, by simpa [World.setCell] using h2⟩, b1.trans (below_of_grown h2 k4 fun j e => by cases e; exact hr)⟩
theorem Hs.chan (H : Hs n0 r N p ex W) {g cap : Nat} {n : Int} (hn : I64 n) (k1 : Rws n0 (p.chanRow.more g cap [.int .i64 n] :: slf r p :: (p.varRow :: p.funcRow :: p.funcs.flatMap Fn.rows ++ ex)) W2) (k2 : W.grownBy W2 p.chanRow.blk) :
    Hs n0 r (N + 1) { p with ha := some ⟨g, 0, none⟩, hcap := cap, chans := p.chans ++ [n] } ex (W2.setCell ⟨r, 2, none⟩ (.slice (some ⟨g, 0, none⟩) (p.chans.length + 1) cap)) ∧ Below n0 W (W2.setCell ⟨r, 2, none⟩ (.slice (some ⟨g, 0, none⟩) (p.chans.length + 1) cap)) := by
  have b1 := H.rows.grow H.hi (row := p.chanRow) (by simp [Pg.rows]) k2
  have h2 := Nat.le_trans H.hi k2.size
  obtain ⟨k3, k4⟩ := slf_set (q := { p with ha := some ⟨g, 0, none⟩, hcap := cap, chans := p.chans ++ [n] }) (k1.perm (List.Perm.swap _ _ _)) 2 (.slice (some ⟨g, 0, none⟩) (p.chans.length + 1) cap) (by simp [Pg.cs])
  have hr := (k1.blk_ge (row := slf r p) (by simp) rfl).1
  rw [← chan_more] at k3
  exact ⟨⟨k3.perm (List.Perm.cons _ ((rows_chan { p with ha := some ⟨g, 0, none⟩, hcap := cap, chans := p.chans ++ [n] }).symm.append_right ex)), few_chan H.few _ _ hn, by simpa [World.setCell] using h2⟩, b1.trans (below_of_grown h2 k4 fun j e => by cases e; exact hr)⟩
theorem Hs.func (H : Hs n0 r N p ex W) {g cap : Nat} {x y : Int} (hx : I64 x) (hy : I64 y) (k1 : Rws n0 (p.funcRow.more g cap (Fn.new x y).cs :: slf r p :: (p.varRow :: p.chanRow :: p.funcs.flatMap Fn.rows ++ ex)) W2) (k2 : W.grownBy W2 p.funcRow.blk) :
    Hs n0 r (N + 1) { p with fa := some ⟨g, 0, none⟩, fcap := cap, funcs := p.funcs ++ [Fn.new x y] } ex (W2.setCell ⟨r, 3, none⟩ (.slice (some ⟨g, 0, none⟩) (p.funcs.length + 1) cap)) ∧ Below n0 W (W2.setCell ⟨r, 3, none⟩ (.slice (some ⟨g, 0, none⟩) (p.funcs.length + 1) cap)) := by
  have b1 := H.rows.grow H.hi (row := p.funcRow) (by simp [Pg.rows]) k2
  have h2 := Nat.le_trans H.hi k2.size
  obtain ⟨k3, k4⟩ := slf_set (q := { p with fa := some ⟨g, 0, none⟩, fcap := cap, funcs := p.funcs ++ [Fn.new x y] }) (k1.perm (List.Perm.swap _ _ _)) 3 (.slice (some ⟨g, 0, none⟩) (p.funcs.length + 1) cap) (by simp [Pg.cs])
  have hr := (k1.blk_ge (row := slf r p) (by simp) rfl).1
  rw [← func_more] at k3
  have k5 := ((k3.perm (List.Perm.refl _)).nil 93 2).nil 51 5
  refine ⟨⟨k5.perm ?_, few_func H.few _ _ hx hy, by simpa [World.setCell] using h2⟩, b1.trans (below_of_grown h2 k4 fun j e => by cases e; exact hr)⟩
  have hq := (rows_func { p with fa := some ⟨g, 0, none⟩, fcap := cap, funcs := p.funcs ++ [Fn.new x y] }).symm.append_right ex
  refine List.Perm.trans ?_ (List.Perm.cons _ hq)
  simp only [List.flatMap_append, List.flatMap_cons, List.flatMap_nil, List.append_nil]
  have h2 : Fn.rows (Fn.new x y) = [(⟨51, 5, .slice none 0 0, 0, []⟩ : Row), ⟨93, 2, .slice none 0 0, 0, []⟩] := rfl
  rw [h2]
  have h3 := List.perm_append_comm (l₁ := [(⟨51, 5, .slice none 0 0, 0, []⟩ : Row), ⟨93, 2, .slice none 0 0, 0, []⟩]) (l₂ := slf r { p with fa := some ⟨g, 0, none⟩, fcap := cap, funcs := p.funcs ++ [Fn.new x y] } :: Pg.funcRow { p with fa := some ⟨g, 0, none⟩, fcap := cap, funcs := p.funcs ++ [Fn.new x y] } :: p.varRow :: p.chanRow :: p.funcs.flatMap Fn.rows)
  have h4 := h3.append_right ex
  simp only [List.append_assoc, List.cons_append, List.nil_append] at h4 ⊢
  exact h4
theorem Hs.lock (H : Hs n0 r N p ex W) : Hs n0 r (N + 1) { p with locks := p.locks + 1 } ex (W.setCell ⟨r, 1, none⟩ (.int .i64 (p.locks + 1))) ∧ Below n0 W (W.setCell ⟨r, 1, none⟩ (.int .i64 (p.locks + 1))) := by
  obtain ⟨k3, k4⟩ := slf_set (q := { p with locks := p.locks + 1 }) H.rows 1 (.int .i64 (p.locks + 1)) (by simp [Pg.cs])
  have hr := (H.rows.blk_ge (row := slf r p) (by simp) rfl).1
  exact ⟨⟨k3, few_lock H.few, by simpa [World.setCell] using H.hi⟩, below_of_grown H.hi k4 fun j e => by cases e; exact hr⟩
/-- The last function's rows ahead, the program's own cell behind them. -/
theorem slf_last (p : Pg) (fs : List Fn) (f : Fn) (hp : p.funcs = fs ++ [f]) : (slf r p :: (p.rows ++ ex)).Perm (p.funcRow :: f.codeRow :: f.selRow :: (f.sels.map Sel.row ++ (slf r p :: (p.varRow :: p.chanRow :: fs.flatMap Fn.rows ++ ex)))) := by
  refine (List.Perm.cons _ ((rows_last p fs f hp).append_right ex)).trans ?_
  have : (slf r p :: ((p.funcRow :: f.codeRow :: f.selRow :: f.sels.map Sel.row) ++ ((p.varRow :: p.chanRow :: fs.flatMap Fn.rows) ++ ex))).Perm ((p.funcRow :: f.codeRow :: f.selRow :: f.sels.map Sel.row) ++ slf r p :: ((p.varRow :: p.chanRow :: fs.flatMap Fn.rows) ++ ex)) := List.perm_middle.symm
  simpa using this
theorem slf_same (p : Pg) (fs : List Fn) (f f' : Fn) (hp : p.funcs = fs ++ [f]) : slf r p = slf r { p with funcs := fs ++ [f'] } := by
  simp [slf, Pg.cs, hp]
theorem Hs.code (H : Hs n0 r N p ex W) (fs : List Fn) (f : Fn) (hp : p.funcs = fs ++ [f]) {b g cap : Nat} {x : Ins} (hx : x.ok) (hb : p.fa = some ⟨b, 0, none⟩) (k1 : Rws n0 (f.codeRow.more g cap x.cs :: p.funcRow :: f.selRow :: (f.sels.map Sel.row ++ (slf r p :: (p.varRow :: p.chanRow :: fs.flatMap Fn.rows ++ ex)))) W2) (k2 : W.grownBy W2 f.codeRow.blk) :
    Hs n0 r (N + 1) { p with funcs := fs ++ [{ f with ca := some ⟨g, 0, none⟩, ccap := cap, code := f.code ++ [x] }] } ex (W2.setCell ⟨b, fs.length * 4 + 2, none⟩ (.slice (some ⟨g, 0, none⟩) (f.code.length + 1) cap)) ∧ Below n0 W (W2.setCell ⟨b, fs.length * 4 + 2, none⟩ (.slice (some ⟨g, 0, none⟩) (f.code.length + 1) cap)) := by
  have b1 := H.rows.grow H.hi (row := f.codeRow) (List.mem_cons_of_mem _ (List.mem_append_left _ (last_mem p fs f hp (by simp [Fn.rows])))) k2
  have h2 := Nat.le_trans H.hi k2.size
  have hv : p.funcRow.v = .slice (some ⟨b, 0, none⟩) p.funcRow.n p.fcap := by simp [Pg.funcRow, hb]
  obtain ⟨k3, k4⟩ := (k1.perm (List.Perm.swap _ _ _)).put hv (fs.length * 4 + 2) (.slice (some ⟨g, 0, none⟩) (f.code.length + 1) cap)
  have hbk := World.ownsRow.lt (k1.own p.funcRow (by simp)) b (by rw [hv]; rfl)
  rw [funcs_set p fs f { f with ca := some ⟨g, 0, none⟩, ccap := cap, code := f.code ++ [x] } hp 2 _ (by simp [Fn.cs]), ← code_more, slf_same p fs f { f with ca := some ⟨g, 0, none⟩, ccap := cap, code := f.code ++ [x] } hp] at k3
  refine ⟨⟨k3.perm (slf_last { p with funcs := fs ++ [{ f with ca := some ⟨g, 0, none⟩, ccap := cap, code := f.code ++ [x] }] } fs _ rfl).symm, few_turn H.few fs f _ hp (few_code (H.few.funcs f (by rw [hp]; simp)) _ _ hx), by simpa [World.setCell] using h2⟩, b1.trans (below_of_grown h2 k4 fun j e => ?_)⟩
  rw [Row.blk, hv] at e
  cases e
  exact hbk.1
theorem Hs.sel (H : Hs n0 r N p ex W) (fs : List Fn) (f : Fn) (hp : p.funcs = fs ++ [f]) {b g cap : Nat} {n : Int} (hx : I64 n) (hb : p.fa = some ⟨b, 0, none⟩) (k1 : Rws n0 (f.selRow.more g cap (Sel.mk none 0 [] n).cs :: p.funcRow :: f.codeRow :: (f.sels.map Sel.row ++ (slf r p :: (p.varRow :: p.chanRow :: fs.flatMap Fn.rows ++ ex)))) W2) (k2 : W.grownBy W2 f.selRow.blk) :
    Hs n0 r (N + 1) { p with funcs := fs ++ [{ f with sa := some ⟨g, 0, none⟩, scap := cap, sels := f.sels ++ [⟨none, 0, [], n⟩] }] } ex (W2.setCell ⟨b, fs.length * 4 + 3, none⟩ (.slice (some ⟨g, 0, none⟩) (f.sels.length + 1) cap)) ∧ Below n0 W (W2.setCell ⟨b, fs.length * 4 + 3, none⟩ (.slice (some ⟨g, 0, none⟩) (f.sels.length + 1) cap)) := by
  have b1 := H.rows.grow H.hi (row := f.selRow) (List.mem_cons_of_mem _ (List.mem_append_left _ (last_mem p fs f hp (by simp [Fn.rows])))) k2
  have h2 := Nat.le_trans H.hi k2.size
  have hv : p.funcRow.v = .slice (some ⟨b, 0, none⟩) p.funcRow.n p.fcap := by simp [Pg.funcRow, hb]
  obtain ⟨k3, k4⟩ := (k1.perm (List.Perm.swap _ _ _)).put hv (fs.length * 4 + 3) (.slice (some ⟨g, 0, none⟩) (f.sels.length + 1) cap)
  have hbk := World.ownsRow.lt (k1.own p.funcRow (by simp)) b (by rw [hv]; rfl)
  rw [funcs_set p fs f { f with sa := some ⟨g, 0, none⟩, scap := cap, sels := f.sels ++ [⟨none, 0, [], n⟩] } hp 3 _ (by simp [Fn.cs]), ← sel_more, slf_same p fs f { f with sa := some ⟨g, 0, none⟩, scap := cap, sels := f.sels ++ [⟨none, 0, [], n⟩] } hp] at k3
  refine ⟨⟨(k3.nil 105 4).perm ?_, few_turn H.few fs f _ hp (few_sel (H.few.funcs f (by rw [hp]; simp)) _ _ hx), by simpa [World.setCell] using h2⟩, b1.trans (below_of_grown h2 k4 fun j e => ?_)⟩
  · refine List.Perm.trans ?_ (slf_last { p with funcs := fs ++ [{ f with sa := some ⟨g, 0, none⟩, scap := cap, sels := f.sels ++ [⟨none, 0, [], n⟩] }] } fs _ rfl).symm
    simp only [List.map_append, List.map_cons, List.map_nil, List.append_assoc, List.cons_append, List.nil_append]
    refine (List.Perm.swap _ _ _).trans (List.Perm.cons _ ?_)
    refine (List.Perm.cons _ (List.Perm.swap _ _ _)).trans ?_
    refine (List.Perm.swap _ _ _).trans (List.Perm.cons _ ?_)
    refine (List.Perm.swap _ _ _).trans (List.Perm.cons _ ?_)
    exact List.perm_middle.symm
  · rw [Row.blk, hv] at e
    cases e
    exact hbk.1
theorem slf_case (p : Pg) (fs : List Fn) (f : Fn) (hp : p.funcs = fs ++ [f]) (ss : List Sel) (s : Sel) (hs : f.sels = ss ++ [s]) : (slf r p :: (p.rows ++ ex)).Perm (s.row :: f.selRow :: f.codeRow :: p.funcRow :: (ss.map Sel.row ++ (slf r p :: (p.varRow :: p.chanRow :: fs.flatMap Fn.rows ++ ex)))) := by
  refine (slf_last p fs f hp).trans ?_
  rw [hs]
  simp only [List.map_append, List.map_cons, List.map_nil, List.append_assoc, List.cons_append, List.nil_append]
  exact (perm4 f.selRow s.row f.codeRow p.funcRow (ss.map Sel.row) _).symm.trans (List.Perm.swap _ _ _)
theorem Hs.case (H : Hs n0 r N p ex W) (fs : List Fn) (f : Fn) (hp : p.funcs = fs ++ [f]) (ss : List Sel) (s : Sel) (hs : f.sels = ss ++ [s]) {b g cap : Nat} {x : Cas} (hx : x.ok) (hb : f.sa = some ⟨b, 0, none⟩)
    (k1 : Rws n0 (s.row.more g cap x.cs :: f.selRow :: f.codeRow :: p.funcRow :: (ss.map Sel.row ++ (slf r p :: (p.varRow :: p.chanRow :: fs.flatMap Fn.rows ++ ex)))) W2) (k2 : W.grownBy W2 s.row.blk) :
    Hs n0 r (N + 1) { p with funcs := fs ++ [{ f with sels := ss ++ [{ s with a := some ⟨g, 0, none⟩, cap := cap, cases := s.cases ++ [x] }] }] } ex (W2.setCell ⟨b, ss.length * 2 + 0, none⟩ (.slice (some ⟨g, 0, none⟩) (s.cases.length + 1) cap)) ∧ Below n0 W (W2.setCell ⟨b, ss.length * 2 + 0, none⟩ (.slice (some ⟨g, 0, none⟩) (s.cases.length + 1) cap)) := by
  have b1 := H.rows.grow H.hi (row := s.row) (List.mem_cons_of_mem _ (List.mem_append_left _ (last_mem p fs f hp (by simp [Fn.rows, hs])))) k2
  have h2 := Nat.le_trans H.hi k2.size
  have hv : f.selRow.v = .slice (some ⟨b, 0, none⟩) f.selRow.n f.scap := by simp [Fn.selRow, hb]
  obtain ⟨k3, k4⟩ := (k1.perm (List.Perm.swap _ _ _)).put hv (ss.length * 2 + 0) (.slice (some ⟨g, 0, none⟩) (s.cases.length + 1) cap)
  have hbk := World.ownsRow.lt (k1.own f.selRow (by simp)) b (by rw [hv]; rfl)
  rw [sels_set f ss s { s with a := some ⟨g, 0, none⟩, cap := cap, cases := s.cases ++ [x] } hs 0 _ (by simp [Sel.cs]), ← case_more, slf_same p fs f { f with sels := ss ++ [{ s with a := some ⟨g, 0, none⟩, cap := cap, cases := s.cases ++ [x] }] } hp] at k3
  have hfr : p.funcRow = Pg.funcRow { p with funcs := fs ++ [{ f with sels := ss ++ [{ s with a := some ⟨g, 0, none⟩, cap := cap, cases := s.cases ++ [x] }] }] } := by
    simp [Pg.funcRow, hp, Fn.cs, hs]
  refine ⟨⟨k3.perm ?_, few_turn H.few fs f _ hp (few_case (H.few.funcs f (by rw [hp]; simp)) ss s hs _ _ hx), by simpa [World.setCell] using h2⟩, b1.trans (below_of_grown h2 k4 fun j e => ?_)⟩
  · refine List.Perm.trans ?_ (slf_last { p with funcs := fs ++ [{ f with sels := ss ++ [{ s with a := some ⟨g, 0, none⟩, cap := cap, cases := s.cases ++ [x] }] }] } fs _ rfl).symm
    rw [← hfr]
    simp only [List.map_append, List.map_cons, List.map_nil, List.append_assoc, List.cons_append, List.nil_append]
    exact perm4 _ _ _ _ _ _
  · rw [Row.blk, hv] at e
    cases e
    exact hbk.1
/-- Where the last function lies. -/
structure Lsf (W : World) (n0 : Nat) (p : Pg) (fs : List Fn) (f : Fn) (b : Nat) : Prop where
  fa : p.fa = some ⟨b, 0, none⟩
  lt : b < W.heap.size
  c2 : W.cell? ⟨b, fs.length * 4 + 2, none⟩ = some (.slice f.ca f.code.length f.ccap)
  c3 : W.cell? ⟨b, fs.length * 4 + 3, none⟩ = some (.slice f.sa f.sels.length f.scap)
  fr : ∀ o, W.frozen? ⟨b, o, none⟩ = false
theorem rows_lastf {rs : List Row} (h : Rws n0 rs W) (hm : p.funcRow ∈ rs) (fs : List Fn) (f : Fn) (hp : p.funcs = fs ++ [f]) : ∃ b, Lsf W n0 p fs f b := by
  have h := h.own p.funcRow hm
  have hl : 0 < p.funcs.length := by rw [hp]; simp
  obtain ⟨g, cap, hv, hb, hlt⟩ := World.ownsRow.form h hl
  simp only [Pg.funcRow, Value.slice.injEq] at hv
  have hc : ∀ j v, f.cs[j]? = some v → W.cell? ⟨g, fs.length * 4 + j, none⟩ = some v := fun j v hj => by
    have h2 := World.ownsRow.cells h (g := g) (by simp [Pg.funcRow, hv.1, Value.ownBlock]) (fs.length * 4 + j) v (flat_get Fn.cs 4 Fn.cs_len p.funcs fs.length f (by rw [hp]; simp) j v hj)
    rwa [Addr.add_lit, Nat.zero_add] at h2
  refine ⟨g, hv.1, hlt, hc 2 _ rfl, hc 3 _ rfl, fun o => ?_⟩
  have h3 : W.ownsRow n0 p.funcRow.t p.funcRow.sz (.slice (some ⟨g, 0, none⟩) p.funcRow.n p.fcap) p.funcRow.n p.funcRow.xs := by
    have e : p.funcRow.v = .slice (some ⟨g, 0, none⟩) p.funcRow.n p.fcap := by simp [Pg.funcRow, hv.1]
    rw [← e]; exact h
  exact World.ownsRow.frozenAt h3 o
structure Lsq (W : World) (f : Fn) (ss : List Sel) (s : Sel) (b : Nat) : Prop where
  sa : f.sa = some ⟨b, 0, none⟩
  lt : b < W.heap.size
  c0 : W.cell? ⟨b, ss.length * 2, none⟩ = some (.slice s.a s.cases.length s.cap)
  fr : ∀ o, W.frozen? ⟨b, o, none⟩ = false
theorem rows_lasts {rs : List Row} {f : Fn} (h : Rws n0 rs W) (hm : f.selRow ∈ rs) (ss : List Sel) (s : Sel) (hs : f.sels = ss ++ [s]) : ∃ b, Lsq W f ss s b := by
  have h := h.own f.selRow hm
  have hl : 0 < f.sels.length := by rw [hs]; simp
  obtain ⟨g, cap, hv, hb, hlt⟩ := World.ownsRow.form h hl
  simp only [Fn.selRow, Value.slice.injEq] at hv
  refine ⟨g, hv.1, hlt, ?_, fun o => ?_⟩
  · have h2 := World.ownsRow.cells h (g := g) (by simp [Fn.selRow, hv.1, Value.ownBlock]) (ss.length * 2 + 0) (.slice s.a s.cases.length s.cap) (flat_get Sel.cs 2 Sel.cs_len f.sels ss.length s (by rw [hs]; simp) 0 _ rfl)
    rwa [Addr.add_lit, Nat.zero_add, Nat.add_zero] at h2
  · have h3 : W.ownsRow n0 f.selRow.t f.selRow.sz (.slice (some ⟨g, 0, none⟩) f.selRow.n f.scap) f.selRow.n f.selRow.xs := by
      have e : f.selRow.v = .slice (some ⟨g, 0, none⟩) f.selRow.n f.scap := by simp [Fn.selRow, hv.1]
      rw [← e]; exact h
    exact World.ownsRow.frozenAt h3 o
end Go.Proofs.YtlhhmlfcodmebaaGreatDoor.Pg
namespace Go.Proofs.YtlhhmlfcodmebaaGreatDoor.Pg
set_option linter.unusedVariables false
set_option linter.unusedSimpArgs false
open Go.RowKit Go.WideShapes Go.ChangeShapes
set_option linter.unusedVariables false
set_option linter.unusedSimpArgs false
/-- Numbers in memory. -/
structure Xs (a : Option Addr) (xs : List Int) (W : World) : Prop where
  at' : xs ≠ [] → ∃ b, a = some ⟨b, 0, none⟩ ∧ b < W.heap.size ∧ ∀ j v, xs[j]? = some v → W.cell? ⟨b, j, none⟩ = some (.int .i64 v)
  i64 : ∀ x ∈ xs, I64 x
/-- What a line taken comes to. -/
def Tkn (n0 N : Nat) (W : World) (q : Pg) (e : Ending) (w' : World) : Prop := ∃ p' : Pg, e = .returned p'.v ∧ p'.bare = q ∧ Rws n0 p'.rows w' ∧ p'.Few (N + 1) ∧ Below n0 W w'
/-- The result's cell. -/
def zro : Pg := ⟨none, 0, [], 0, none, 0, [], none, 0, []⟩
theorem Hs.out {n0 r b N : Nat} {p' q : Pg} {W : World} (H : Hs n0 r N p' [slf b q] W) : Rws n0 p'.rows W ∧ Off b p'.rows := by
  have h := H.rows.tail
  exact ⟨h.left, h.off rfl⟩
theorem Hs.more {n0 r N M : Nat} {p : Pg} {ex : List Row} {W : World} (H : Hs n0 r N p ex W) (k : N ≤ M) : Hs n0 r M p ex W := ⟨H.rows, H.few.mono k, H.hi⟩
theorem Hs.cells {n0 r N : Nat} {p : Pg} {ex : List Row} {W : World} (H : Hs n0 r N p ex W) : W.cell? ⟨r, 0, none⟩ = some (.slice p.va p.vars.length p.vcap) ∧ W.cell? ⟨r, 1, none⟩ = some (.int .i64 p.locks) ∧ W.cell? ⟨r, 2, none⟩ = some (.slice p.ha p.chans.length p.hcap) ∧ W.cell? ⟨r, 3, none⟩ = some (.slice p.fa p.funcs.length p.fcap) ∧ ∀ o, W.frozen? ⟨r, o, none⟩ = false := by
  have h := fun o ho => slf_cell (r := r) (p := p) H.rows (List.mem_cons_self ..) o ho
  exact ⟨h 0 (by decide), h 1 (by decide), h 2 (by decide), h 3 (by decide), slf_fr (r := r) (p := p) H.rows (List.mem_cons_self ..)⟩
theorem Hs.zero {n0 r b N : Nat} {p q : Pg} {W : World} (H : Hs n0 r N p [slf b q] W) : W.cell? ⟨b, 0, none⟩ = some (.slice q.va q.vars.length q.vcap) ∧ W.cell? ⟨b, 1, none⟩ = some (.int .i64 q.locks) ∧ W.cell? ⟨b, 2, none⟩ = some (.slice q.ha q.chans.length q.hcap) ∧ W.cell? ⟨b, 3, none⟩ = some (.slice q.fa q.funcs.length q.fcap) ∧ ∀ o, W.frozen? ⟨b, o, none⟩ = false := by
  have hm : slf b q ∈ slf r p :: (p.rows ++ [slf b q]) := by simp
  have h := fun o ho => slf_cell (r := b) (p := q) H.rows hm o ho
  exact ⟨h 0 (by decide), h 1 (by decide), h 2 (by decide), h 3 (by decide), slf_fr (r := b) (p := q) H.rows hm⟩
set_option maxHeartbeats 8000000 in
set_option maxRecDepth 100000 in
theorem leave_taken {n0 r N : Nat} {p' z : Pg} {W0 W5 : World} {q : Pg} {tmps : Array Value} {v0 v1 v2 v3 : Value} (t8 : tmps[8]? = some (.pointer (some ⟨r + 1, 0, none⟩))) (H : Hs n0 r (N + 1) p' [slf (r + 1) z] W5) (hq : p'.bare = q) (hb : Below n0 W0 W5)
    (hv0 : v0 = .slice p'.va p'.vars.length p'.vcap) (hv1 : v1 = .int .i64 p'.locks) (hv2 : v2 = .slice p'.ha p'.chans.length p'.hcap) (hv3 : v3 = .slice p'.fa p'.funcs.length p'.fcap) :
    bodyPost Tryz.prog Tryz.f32 (Tkn n0 N W0 q) .ret { tmps := tmps, defers := [] } ((((W5.setCell ⟨r + 1, 0, none⟩ v0).setCell ⟨r + 1, 1, none⟩ v1).setCell ⟨r + 1, 2, none⟩ v2).setCell ⟨r + 1, 3, none⟩ v3) := by
  subst hv0 hv1 hv2 hv3
  have h0 : Rws n0 (slf (r + 1) z :: (slf r p' :: p'.rows)) W5 := H.rows.perm (List.perm_append_comm (l₁ := slf r p' :: p'.rows) (l₂ := [slf (r + 1) z]))
  have hge := (h0.blk_ge (row := slf (r + 1) z) (List.mem_cons_self ..) rfl).1
  obtain ⟨h1, g1⟩ := slf_set (q := { z with va := p'.va, vcap := p'.vcap, vars := p'.vars }) h0 0 (.slice p'.va p'.vars.length p'.vcap) rfl
  obtain ⟨h2, g2⟩ := slf_set (q := { z with va := p'.va, vcap := p'.vcap, vars := p'.vars, locks := p'.locks }) h1 1 (.int .i64 p'.locks) rfl
  obtain ⟨h3, g3⟩ := slf_set (q := { z with va := p'.va, vcap := p'.vcap, vars := p'.vars, locks := p'.locks, ha := p'.ha, hcap := p'.hcap, chans := p'.chans }) h2 2 (.slice p'.ha p'.chans.length p'.hcap) rfl
  obtain ⟨h4, g4⟩ := slf_set (q := p') h3 3 (.slice p'.fa p'.funcs.length p'.fcap) rfl
  have bl : ∀ {A B : World}, n0 ≤ A.heap.size → A.grownBy B (some (r + 1)) → Below n0 A B := fun hA g => below_of_grown hA g fun j e => by cases e; exact hge
  have s1 := Nat.le_trans H.hi g1.size
  have s2 := Nat.le_trans s1 g2.size
  have s3 := Nat.le_trans s2 g3.size
  have bb := (((hb.trans (bl H.hi g1)).trans (bl s1 g2)).trans (bl s2 g3)).trans (bl s3 g4)
  generalize (((W5.setCell ⟨r + 1, 0, none⟩ (.slice p'.va p'.vars.length p'.vcap)).setCell ⟨r + 1, 1, none⟩ (.int .i64 p'.locks)).setCell ⟨r + 1, 2, none⟩ (.slice p'.ha p'.chans.length p'.hcap)).setCell ⟨r + 1, 3, none⟩ (.slice p'.fa p'.funcs.length p'.fcap) = Wf at *
  have y := fun o ho => slf_cell (r := r + 1) (p := p') h4 (List.mem_cons_self ..) o ho
  have y0 : Wf.cell? ⟨r + 1, 0, none⟩ = some (.slice p'.va p'.vars.length p'.vcap) := y 0 (by decide)
  have y1 : Wf.cell? ⟨r + 1, 1, none⟩ = some (.int .i64 p'.locks) := y 1 (by decide)
  have y2 : Wf.cell? ⟨r + 1, 2, none⟩ = some (.slice p'.ha p'.chans.length p'.hcap) := y 2 (by decide)
  have y3 : Wf.cell? ⟨r + 1, 3, none⟩ = some (.slice p'.fa p'.funcs.length p'.fcap) := y 3 (by decide)
  refine bodyPost_ret (v := .agg #[.slice p'.va p'.vars.length p'.vcap, .int .i64 p'.locks, .slice p'.ha p'.chans.length p'.hcap, .slice p'.fa p'.funcs.length p'.fcap]) ?_ rfl ⟨p', rfl, hq, h4.tail.tail, H.few, bb⟩
  simp [results, Tryz.results32, go_sem, y0, y1, y2, y3, t8]
end Go.Proofs.YtlhhmlfcodmebaaGreatDoor.Pg
