/- Several texts of one proof, one behind the other. A program half read, in memory: its lists' rows, each one's own; what a method of the reader leaves as it was. No condition. | One element appended to a list of the program's, in the walk. No condition. | What the reader's program is behind each append. No condition. -/
import Derived.Test.YtlhhmlfcodmebaaGreatDoorZa
import Derived.Test.YtlhhmlfcodmebaaGreatDoorZh
import Derived.Deep.AppendLies
import Derived.Laws.AppendOwn
import Derived.Laws.OwnMore
import Derived.OwnWalk
namespace Go.Proofs.YtlhhmlfcodmebaaGreatDoor.Pg
set_option linter.unusedVariables false
set_option linter.unusedSimpArgs false
open Go.RowKit Go.WideShapes Go.ChangeShapes
open Go.Proofs.YtlhhmlfcodmebaaGreatDoor.Wd (owns_below owns_cap Lies)
set_option linter.unusedVariables false
/-- A list of one's own. -/
structure Row where (t : TypeId) (sz : Nat) (v : Value) (n : Nat) (xs : List Value)
def Row.blk (r : Row) : Option Nat := r.v.ownBlock
/-- Lists of one's own, apart from each other. -/
structure Rws (n0 : Nat) (rs : List Row) (W : World) : Prop where
  own : ∀ r ∈ rs, W.ownsRow n0 r.t r.sz r.v r.n r.xs
  apart : (rs.filterMap Row.blk).Nodup
theorem Rws.perm {n0 : Nat} {rs rs' : List Row} {W : World} (h : Rws n0 rs W) (p : rs.Perm rs') : Rws n0 rs' W :=
  ⟨fun r hr => h.own r (p.mem_iff.2 hr), ((p.filterMap Row.blk).nodup_iff).1 h.apart⟩
theorem Rws.below {n0 : Nat} {rs : List Row} {W W' : World} (h : Rws n0 rs W) (hb : Below W.heap.size W W') : Rws n0 rs W' := ⟨fun r hr => owns_below (h.own r hr) hb, h.apart⟩
theorem Rws.other {n0 : Nat} {rs : List Row} {W W' : World} {k : Nat} (h : Rws n0 rs W) (g : W.grownBy W' (some k)) (hk : k < n0) : Rws n0 rs W' :=
  ⟨fun r hr => World.ownsRow.kept (h.own r hr) g (.inr fun e => by have := (World.ownsRow.lt (h.own r hr) k e).1; omega), h.apart⟩
theorem Rws.upd {n0 : Nat} {r : Row} {rs : List Row} {W W' : World} (h : Rws n0 (r :: rs) W) (g : W.grownBy W' r.blk) (r' : Row) (ho : W'.ownsRow n0 r'.t r'.sz r'.v r'.n r'.xs) (hb : r'.blk = r.blk ∨ ∃ k, r'.blk = some k ∧ W.heap.size ≤ k) : Rws n0 (r' :: rs) W' := by
  have hlt : ∀ x ∈ rs, ∀ k, x.blk = some k → k < W.heap.size := fun x hx k e => (World.ownsRow.lt (h.own x (List.mem_cons_of_mem _ hx)) k e).2
  have ha := h.apart
  have hne : ∀ x ∈ rs, x.blk = none ∨ x.blk ≠ r.blk := by
    intro x hx
    rcases hr : r.blk with _ | k
    · rcases x.blk with _ | j
      · exact .inl rfl
      · exact .inr (by simp)
    · refine .inr fun e => ?_
      rw [List.filterMap_cons_some hr, List.nodup_cons] at ha
      exact ha.1 (List.mem_filterMap.2 ⟨x, hx, e⟩)
  refine ⟨fun x hx => ?_, ?_⟩
  · rcases List.mem_cons.1 hx with rfl | hx
    · exact ho
    · exact World.ownsRow.kept (h.own x (List.mem_cons_of_mem _ hx)) g (hne x hx)
  · rcases hb with e | ⟨k, e, hk⟩
    · have : (r' :: rs).filterMap Row.blk = (r :: rs).filterMap Row.blk := by rw [List.filterMap_cons, List.filterMap_cons, e]
      rw [this]
      exact ha
    · rw [List.filterMap_cons_some e, List.nodup_cons]
      refine ⟨fun hm => ?_, ?_⟩
      · obtain ⟨x, hx, e'⟩ := List.mem_filterMap.1 hm
        have := hlt x hx k e'
        omega
      · rcases hr : r.blk with _ | j
        · rwa [List.filterMap_cons_none hr] at ha
        · rw [List.filterMap_cons_some hr, List.nodup_cons] at ha
          exact ha.2
theorem Rws.nil {n0 : Nat} {rs : List Row} {W : World} (h : Rws n0 rs W) (t : TypeId) (sz : Nat) : Rws n0 (⟨t, sz, .slice none 0 0, 0, []⟩ :: rs) W :=
  ⟨fun x hx => by
    rcases List.mem_cons.1 hx with rfl | hx
    · exact World.ownsRow_nil _ _ _ _
    · exact h.own x hx, by rw [List.filterMap_cons_none rfl]; exact h.apart⟩
def Sel.row (s : Sel) : Row := ⟨105, 4, .slice s.a s.cases.length s.cap, s.cases.length, s.cases.flatMap Cas.cs⟩
def Fn.codeRow (f : Fn) : Row := ⟨51, 5, .slice f.ca f.code.length f.ccap, f.code.length, f.code.flatMap Ins.cs⟩
def Fn.selRow (f : Fn) : Row := ⟨93, 2, .slice f.sa f.sels.length f.scap, f.sels.length, f.sels.flatMap Sel.cs⟩
def Fn.rows (f : Fn) : List Row := f.codeRow :: f.selRow :: f.sels.map Sel.row
def Pg.varRow (p : Pg) : Row := ⟨83, 2, .slice p.va p.vars.length p.vcap, p.vars.length, p.vars.flatMap Vr.cs⟩
def Pg.chanRow (p : Pg) : Row := ⟨3, 1, .slice p.ha p.chans.length p.hcap, p.chans.length, p.chans.map (Value.int .i64)⟩
def Pg.funcRow (p : Pg) : Row := ⟨45, 4, .slice p.fa p.funcs.length p.fcap, p.funcs.length, p.funcs.flatMap Fn.cs⟩
/-- A program's rows. -/
def Pg.rows (p : Pg) : List Row := p.varRow :: p.chanRow :: p.funcRow :: p.funcs.flatMap Fn.rows
/-- Below n0 nothing but block r is touched. -/
structure Frm (n0 r : Nat) (W W' : World) : Prop where
  os : W'.os = W.os
  tape : W'.tape = W.tape
  output : W'.output = W.output
  size : W.heap.size ≤ W'.heap.size
  block : ∀ b, b < n0 → b ≠ r → W'.heap[b]? = W.heap[b]?
theorem Frm.refl (n0 r : Nat) (W : World) : Frm n0 r W W := ⟨rfl, rfl, rfl, Nat.le_refl _, fun _ _ _ => rfl⟩
theorem Frm.trans {n0 r : Nat} {A B C : World} (h : Frm n0 r A B) (k : Frm n0 r B C) : Frm n0 r A C :=
  ⟨k.os.trans h.os, k.tape.trans h.tape, k.output.trans h.output, Nat.le_trans h.size k.size, fun b hb hr => (k.block b hb hr).trans (h.block b hb hr)⟩
theorem Frm.below {n0 r : Nat} {W W' : World} (hn : n0 ≤ W.heap.size) (h : Below W.heap.size W W') : Frm n0 r W W' := ⟨h.os, h.tape, h.output, h.size, fun b hb _ => h.block b (by omega)⟩
theorem Frm.grown {n0 r : Nat} {W W' : World} {k : Option Nat} (hn : n0 ≤ W.heap.size) (g : W.grownBy W' k) (hk : ∀ j, k = some j → j = r ∨ n0 ≤ j) : Frm n0 r W W' :=
  ⟨g.os, g.tape, g.output, g.size, fun b hb hr => g.block b (by omega) fun e => by rcases hk b e.symm with q | q <;> omega⟩
theorem grown_cell (W : World) (b o : Nat) (v : Value) : W.grownBy (W.setCell ⟨b, o, none⟩ v) (some b) :=
  ⟨rfl, rfl, rfl, by simp [World.setCell], fun k _ hk => Below.heap_setCell _ _ _ _ (fun e => hk (by simp only at e; rw [e]))⟩
/-- Numbers within bounds, lists not long. -/
structure Fn.Few (N : Nat) (f : Fn) : Prop where
  par : I64 f.params
  reg : I64 f.regs
  oks : ∀ x ∈ f.code, x.ok
  lenC : f.code.length ≤ N
  lenS : f.sels.length ≤ N
  sels : ∀ s ∈ f.sels, (∀ x ∈ s.cases, x.ok) ∧ I64 s.els ∧ s.cases.length ≤ N
structure Pg.Few (N : Nat) (p : Pg) : Prop where
  inits : ∀ x ∈ p.vars, I64 x.init
  chans : ∀ n ∈ p.chans, I64 n
  locks : 0 ≤ p.locks ∧ p.locks ≤ N
  lenV : p.vars.length ≤ N
  lenH : p.chans.length ≤ N
  lenF : p.funcs.length ≤ N
  funcs : ∀ f ∈ p.funcs, f.Few N
/-- The reader, in memory; w0: the world in which it was made. -/
structure Rd (w0 : World) (n0 r N : Nat) (p : Pg) (a : Int) (W : World) : Prop where
  blk : Blk r #[.slice p.va p.vars.length p.vcap, .int .i64 p.locks, .slice p.ha p.chans.length p.hcap, .slice p.fa p.funcs.length p.fcap, .int .i64 a] W
  rows : Rws n0 p.rows W
  lo : r < n0
  hi : n0 ≤ W.heap.size
  few : p.Few N
  acc : Below w0.heap.size w0 W
  base : w0.heap.size ≤ r
  lies : Wd.Lies w0
theorem Rd.below {w0 : World} {n0 r N : Nat} {p : Pg} {a : Int} {W W' : World} (h : Rd w0 n0 r N p a W) (hb : Below W.heap.size W W') : Rd w0 n0 r N p a W' := ⟨h.blk.below hb, h.rows.below hb, h.lo, Nat.le_trans h.hi hb.size, h.few, h.acc.trans (hb.mono h.acc.size), h.base, h.lies⟩
theorem Rd.lie {w0 : World} {n0 r N : Nat} {p : Pg} {a : Int} {W : World} (h : Rd w0 n0 r N p a W) : Wd.Lies W := h.lies.below h.acc
theorem Frm.acc {n0 r : Nat} {w0 W W' : World} (h : Frm n0 r W W') (k : Below w0.heap.size w0 W) (hr : w0.heap.size ≤ r) (hn : r < n0) : Below w0.heap.size w0 W' :=
  ⟨h.os.trans k.os, h.tape.trans k.tape, h.output.trans k.output, Nat.le_trans k.size h.size, fun b hb => (h.block b (by omega) (by omega)).trans (k.block b hb)⟩
theorem Fn.Few.mono {N M : Nat} {f : Fn} (h : f.Few N) (k : N ≤ M) : f.Few M := ⟨h.par, h.reg, h.oks, Nat.le_trans h.lenC k, Nat.le_trans h.lenS k, fun s hs => ⟨(h.sels s hs).1, (h.sels s hs).2.1, Nat.le_trans (h.sels s hs).2.2 k⟩⟩
theorem Pg.Few.mono {N M : Nat} {p : Pg} (h : p.Few N) (k : N ≤ M) : p.Few M := ⟨h.inits, h.chans, ⟨h.locks.1, Int.le_trans h.locks.2 (by omega)⟩, Nat.le_trans h.lenV k, Nat.le_trans h.lenH k, Nat.le_trans h.lenF k, fun f hf => (h.funcs f hf).mono k⟩
theorem Rd.more {w0 : World} {n0 r N M : Nat} {p : Pg} {a : Int} {W : World} (h : Rd w0 n0 r N p a W) (k : N ≤ M) : Rd w0 n0 r M p a W := ⟨h.blk, h.rows, h.lo, h.hi, h.few.mono k, h.acc, h.base, h.lies⟩
theorem Rd.cell {w0 : World} {n0 r N : Nat} {p : Pg} {a : Int} {W : World} (h : Rd w0 n0 r N p a W) : ∀ o, W.cell? ⟨r, o, none⟩ = (#[.slice p.va p.vars.length p.vcap, .int .i64 p.locks, .slice p.ha p.chans.length p.hcap, .slice p.fa p.funcs.length p.fcap, .int .i64 a] : Array Value)[o]? := h.blk.cell
/-- A cell of the reader's own written: the place. -/
theorem Rd.setAt {w0 : World} {n0 r N : Nat} {p : Pg} {a : Int} {W : World} (h : Rd w0 n0 r N p a W) (b : Int) : Rd w0 n0 r N p b (W.setCell ⟨r, 4, none⟩ (.int .i64 b)) :=
  ⟨h.blk.set 4 (by simp) _, h.rows.other (grown_cell W r 4 _) h.lo, h.lo, by simpa [World.setCell] using h.hi, h.few, h.acc.setCell (by simpa using h.base) _, h.base, h.lies⟩
theorem Frm.setR {n0 r : Nat} {W : World} (hn : n0 ≤ W.heap.size) (o : Nat) (v : Value) : Frm n0 r W (W.setCell ⟨r, o, none⟩ v) := Frm.grown hn (grown_cell W r o v) (fun j e => by cases e; exact .inl rfl)
/-- Words in memory. -/
structure Ws (n0 r g : Nat) (ws : List ByteArray) (W : World) : Prop where
  ne : g ≠ r
  lt : g < W.heap.size
  cell : ∀ k x, ws[k]? = some x → W.cell? ⟨g, k, none⟩ = some (.string x)
theorem Ws.below {n0 r g : Nat} {ws : List ByteArray} {W W' : World} (h : Ws n0 r g ws W) (hb : Below W.heap.size W W') : Ws n0 r g ws W' :=
  ⟨h.ne, Nat.lt_of_lt_of_le h.lt hb.size, fun k x hk => by rw [hb.cell (by simpa using h.lt)]; exact h.cell k x hk⟩
theorem Ws.set {n0 r g : Nat} {ws : List ByteArray} {W : World} (h : Ws n0 r g ws W) (o : Nat) (v : Value) : Ws n0 r g ws (W.setCell ⟨r, o, none⟩ v) :=
  ⟨h.ne, by simpa [World.setCell] using h.lt, fun k x hk => by rw [World.cell?_setCell_other _ _ _ _ (by simp only [ne_eq, Addr.mk.injEq]; exact fun e => h.ne e.1.symm)]; exact h.cell k x hk⟩
end Go.Proofs.YtlhhmlfcodmebaaGreatDoor.Pg
namespace Go.Proofs.YtlhhmlfcodmebaaGreatDoor.Pg
set_option linter.unusedVariables false
set_option linter.unusedSimpArgs false
open Go.RowKit Go.WideShapes Go.ChangeShapes
set_option linter.unusedVariables false
section
variable {P : Program} {ops : Array Oper} {rest : List Oper} {o : Oper} {a : Act} {Q : Exit → Act → World → Prop} {K : Act → World → Prop} {E : Prop}
/-- A row with an element more. -/
def Row.more (r : Row) (g cap : Nat) (news : List Value) : Row := ⟨r.t, r.sz, .slice (some ⟨g, 0, none⟩) (r.n + 1) cap, r.n + 1, r.xs ++ news⟩
theorem wp_app {W V : World} {n0 : Nat} {row : Row} {rs : List Row} (hR : Rws n0 (row :: rs) W) (hn0 : n0 ≤ W.heap.size) (s x : Operand) (t : TypeId) (ho : o.op = .call { callee := .builtin .append, args := #[s, x], argTypes := #[t, t] })
    (news : List Value) (T : TypeId) (hV : V = W.alloc (.cells news.toArray T)) (z : Value) (bytes : Nat) (ht : P.underlying t = some (.slice row.t)) (hi : (P.info? row.t).map (fun i => (i.zero, i.size, i.bytes)) = some (some z, row.sz, bytes)) (hzs : z.cells.size = row.sz) (hsz : 0 < row.sz)
    (hs : a.eval s = row.v) (hx : a.eval x = .slice (some ⟨W.heap.size, 0, none⟩) 1 1) (hl : news.length = row.sz) (h1 : ∀ u ∈ news, u.oneCell' = true) (hb : (row.n + 1) * bytes ≤ 140737488355328) (hb1 : row.n + 1 ≤ 100000000)
    (h : ∀ g cap W2, Rws n0 (row.more g cap news :: rs) W2 → W.grownBy W2 row.blk → n0 ≤ g → g < W2.heap.size → W2.ownsRow n0 row.t row.sz (.slice (some ⟨g, 0, none⟩) (row.n + 1) cap) (row.n + 1) (row.xs ++ news) → K (a.put o.dst (.slice (some ⟨g, 0, none⟩) (row.n + 1) cap)) W2) : Oper.wp P o a V K Q := by
  obtain ⟨i, hi, hz, hsize, hby⟩ := info_parts hi
  subst hV
  have hnews : ∀ j u, news[j]? = some u → (W.alloc (.cells news.toArray T)).cell? ((⟨W.heap.size, 0, none⟩ : Addr).add j) = some u := fun j u hj => by
    rw [Addr.add_lit, World.cell?_alloc_new]
    simpa using hj
  have hR1 : Rws n0 (row :: rs) (W.alloc (.cells news.toArray T)) := hR.below ((Below.refl _ W).alloc (Nat.le_refl _) _)
  refine wp_append_lies _ s x t ho n0 row.t i z row.sz bytes ht hi hz hsize hby hzs hsz row.v row.n row.xs hs (hR1.own row (List.mem_cons_self ..)) ⟨W.heap.size, 0, none⟩ 1 1 news hx (by rw [hl]; omega) hnews h1 (by omega) (by unfold maxLen; omega) hb (by simp; omega) _ rfl ?_
  intro g cap W2 hown hgrow hat hlt
  have hb2 : (row.more g cap news).blk = row.blk ∨ ∃ k, (row.more g cap news).blk = some k ∧ (W.alloc (.cells news.toArray T)).heap.size ≤ k := by
    rcases hat with e | e
    · exact .inl e.symm
    · exact .inr ⟨g, rfl, by omega⟩
  refine h g cap W2 (hR1.upd hgrow (row.more g cap news) hown hb2) ?_ (World.ownsRow.lt hown g rfl).1 hlt hown
  have hga := World.grownBy_alloc W (.cells news.toArray T) row.blk
  exact ⟨hgrow.os.trans hga.os, hgrow.tape.trans hga.tape, hgrow.output.trans hga.output, Nat.le_trans hga.size hgrow.size, fun k hk hne => (hgrow.block k (by simp; omega) hne).trans (hga.block k hk hne)⟩
theorem wpList_app {W V : World} {n0 : Nat} {row : Row} {rs : List Row} (hR : Rws n0 (row :: rs) W) (hn0 : n0 ≤ W.heap.size) (hgd : o.guard = none) (s x : Operand) (t : TypeId) (ho : o.op = .call { callee := .builtin .append, args := #[s, x], argTypes := #[t, t] })
    (news : List Value) (T : TypeId) (hV : V = W.alloc (.cells news.toArray T)) (z : Value) (bytes : Nat) (ht : P.underlying t = some (.slice row.t)) (hi : (P.info? row.t).map (fun i => (i.zero, i.size, i.bytes)) = some (some z, row.sz, bytes)) (hzs : z.cells.size = row.sz) (hsz : 0 < row.sz)
    (hs : a.eval s = row.v) (hx : a.eval x = .slice (some ⟨W.heap.size, 0, none⟩) 1 1) (hl : news.length = row.sz) (h1 : ∀ u ∈ news, u.oneCell' = true) (hb : (row.n + 1) * bytes ≤ 140737488355328) (hb1 : row.n + 1 ≤ 100000000)
    (h : ∀ g cap W2, Rws n0 (row.more g cap news :: rs) W2 → W.grownBy W2 row.blk → n0 ≤ g → g < W2.heap.size → W2.ownsRow n0 row.t row.sz (.slice (some ⟨g, 0, none⟩) (row.n + 1) cap) (row.n + 1) (row.xs ++ news) → wpList P ops Q rest (a.put o.dst (.slice (some ⟨g, 0, none⟩) (row.n + 1) cap)) W2) : wpList P ops Q (o :: rest) a V :=
  wpList_plain hgd fun _ hK => wp_app hR hn0 s x t ho news T hV z bytes ht hi hzs hsz hs hx hl h1 hb hb1 fun g cap W2 k1 k2 k3 k4 k5 => hK _ _ (h g cap W2 k1 k2 k3 k4 k5)
theorem step_app {W V : World} {n0 : Nat} {row : Row} {rs : List Row} (hR : Rws n0 (row :: rs) W) (hn0 : n0 ≤ W.heap.size) (hgd : o.guard = none) (s x : Operand) (t : TypeId) (ho : o.op = .call { callee := .builtin .append, args := #[s, x], argTypes := #[t, t] })
    (news : List Value) (T : TypeId) (hV : V = W.alloc (.cells news.toArray T)) (z : Value) (bytes : Nat) (ht : P.underlying t = some (.slice row.t)) (hi : (P.info? row.t).map (fun i => (i.zero, i.size, i.bytes)) = some (some z, row.sz, bytes)) (hzs : z.cells.size = row.sz) (hsz : 0 < row.sz)
    (hs : a.eval s = row.v) (hx : a.eval x = .slice (some ⟨W.heap.size, 0, none⟩) 1 1) (hl : news.length = row.sz) (h1 : ∀ u ∈ news, u.oneCell' = true) (hb : (row.n + 1) * bytes ≤ 140737488355328) (hb1 : row.n + 1 ≤ 100000000)
    (h : ∀ g cap W2, Rws n0 (row.more g cap news :: rs) W2 → W.grownBy W2 row.blk → n0 ≤ g → g < W2.heap.size → W2.ownsRow n0 row.t row.sz (.slice (some ⟨g, 0, none⟩) (row.n + 1) cap) (row.n + 1) (row.xs ++ news) → K (a.put o.dst (.slice (some ⟨g, 0, none⟩) (row.n + 1) cap)) W2) :
    if Region.wanted o (yielded ops a.tmps) = true then Oper.wp P o a V K Q else E := by
  have hw : Region.wanted o (yielded ops a.tmps) = true := by simp [Region.wanted, hgd]
  rw [if_pos hw]
  exact wp_app hR hn0 s x t ho news T hV z bytes ht hi hzs hsz hs hx hl h1 hb hb1 h
end
theorem info_int : (Tryz.prog.info? 3).map (fun i => (i.zero, i.size, i.bytes)) = some (some (.int .i64 0), 1, 8) := by kernel_rfl
theorem info_var : (Tryz.prog.info? 83).map (fun i => (i.zero, i.size, i.bytes)) = some (some (.agg #[.bool false, .int .i64 0]), 2, 16) := by kernel_rfl
theorem info_case : (Tryz.prog.info? 105).map (fun i => (i.zero, i.size, i.bytes)) = some (some (.agg #[.bool false, .int .i64 0, .int .i64 0, .int .i64 0]), 4, 32) := by kernel_rfl
theorem info_sel : (Tryz.prog.info? 93).map (fun i => (i.zero, i.size, i.bytes)) = some (some (.agg #[.slice none 0 0, .int .i64 0]), 2, 32) := by kernel_rfl
theorem info_ins : (Tryz.prog.info? 51).map (fun i => (i.zero, i.size, i.bytes)) = some (some (.agg #[.int .i64 0, .int .i64 0, .int .i64 0, .int .i64 0, .int .i64 0]), 5, 40) := by kernel_rfl
theorem info_fn : (Tryz.prog.info? 45).map (fun i => (i.zero, i.size, i.bytes)) = some (some (.agg #[.int .i64 0, .int .i64 0, .slice none 0 0, .slice none 0 0]), 4, 64) := by kernel_rfl
end Go.Proofs.YtlhhmlfcodmebaaGreatDoor.Pg
namespace Go.Proofs.YtlhhmlfcodmebaaGreatDoor.Pg
set_option linter.unusedVariables false
set_option linter.unusedSimpArgs false
open Go.RowKit Go.WideShapes Go.ChangeShapes
set_option linter.unusedVariables false
theorem Blk.grownBy {b : Nat} {arr : Array Value} {W W' : World} {k : Option Nat} (h : Blk b arr W) (g : W.grownBy W' k) (hk : k ≠ some b) : Blk b arr W' := by
  have hb := g.block b h.lt (fun e => hk e.symm)
  exact ⟨Nat.lt_of_lt_of_le h.lt g.size, fun o => (World.cell?_of_block (a := ⟨b, o, none⟩) hb).trans (h.cell o), fun o => (World.frozen?_of_block (a := ⟨b, o, none⟩) hb).trans (h.fr o)⟩
variable {w0 W W2 : World} {n0 r N : Nat} {p : Pg} {a : Int}
theorem Rd.blk_ge (R : Rd w0 n0 r N p a W) {row : Row} (hr : row ∈ p.rows) {k : Nat} (e : row.blk = some k) : n0 ≤ k ∧ k < W.heap.size := World.ownsRow.lt (R.rows.own row hr) k e
theorem Rd.far (R : Rd w0 n0 r N p a W) {row : Row} (hr : row ∈ p.rows) (g : W.grownBy W2 row.blk) :
    Blk r #[.slice p.va p.vars.length p.vcap, .int .i64 p.locks, .slice p.ha p.chans.length p.hcap, .slice p.fa p.funcs.length p.fcap, .int .i64 a] W2 ∧ Frm n0 r W W2 :=
  ⟨R.blk.grownBy g (fun e => by have := (R.blk_ge hr e).1; have := R.lo; omega), Frm.grown R.hi g fun j e => .inr (R.blk_ge hr e).1⟩
theorem chan_more (p : Pg) (g cap : Nat) (n : Int) : Pg.chanRow { p with ha := some ⟨g, 0, none⟩, hcap := cap, chans := p.chans ++ [n] } = p.chanRow.more g cap [.int .i64 n] := by simp [Pg.chanRow, Row.more]
theorem var_more (p : Pg) (g cap : Nat) (x : Vr) : Pg.varRow { p with va := some ⟨g, 0, none⟩, vcap := cap, vars := p.vars ++ [x] } = p.varRow.more g cap x.cs := by simp [Pg.varRow, Row.more]
theorem func_more (p : Pg) (g cap : Nat) (x : Fn) : Pg.funcRow { p with fa := some ⟨g, 0, none⟩, fcap := cap, funcs := p.funcs ++ [x] } = p.funcRow.more g cap x.cs := by simp [Pg.funcRow, Row.more]
theorem rows_chan (p : Pg) : p.rows.Perm (p.chanRow :: p.varRow :: p.funcRow :: p.funcs.flatMap Fn.rows) := List.Perm.swap _ _ _
theorem rows_func (p : Pg) : p.rows.Perm (p.funcRow :: p.varRow :: p.chanRow :: p.funcs.flatMap Fn.rows) := by
  refine (List.Perm.cons _ (List.Perm.swap p.funcRow p.chanRow _)).trans ?_
  exact List.Perm.swap _ _ _
theorem Rd.chan (R : Rd w0 n0 r N p a W) {g cap : Nat} {n : Int} (hn : I64 n) (k1 : Rws n0 (p.chanRow.more g cap [.int .i64 n] :: p.varRow :: p.funcRow :: p.funcs.flatMap Fn.rows) W2) (k2 : W.grownBy W2 p.chanRow.blk) :
    Rd w0 n0 r (N + 1) { p with ha := some ⟨g, 0, none⟩, hcap := cap, chans := p.chans ++ [n] } a (W2.setCell ⟨r, 2, none⟩ (.slice (some ⟨g, 0, none⟩) (p.chans.length + 1) cap)) ∧ Frm n0 r W (W2.setCell ⟨r, 2, none⟩ (.slice (some ⟨g, 0, none⟩) (p.chans.length + 1) cap)) := by
  obtain ⟨hb, hf⟩ := R.far (by simp [Pg.rows]) k2
  have h2 : n0 ≤ W2.heap.size := Nat.le_trans R.hi k2.size
  have hf2 := hf.trans (Frm.setR (r := r) h2 2 (.slice (some ⟨g, 0, none⟩) (p.chans.length + 1) cap))
  have hr := R.few.mono (Nat.le_succ N)
  refine ⟨⟨?_, ?_, R.lo, by simpa [World.setCell] using h2, ?_, hf2.acc R.acc R.base R.lo, R.base, R.lies⟩, hf2⟩
  · have := hb.set 2 (by simp) (.slice (some ⟨g, 0, none⟩) (p.chans.length + 1) cap)
    simpa using this
  · rw [← chan_more] at k1
    exact ((k1.perm (rows_chan { p with ha := some ⟨g, 0, none⟩, hcap := cap, chans := p.chans ++ [n] }).symm)).other (grown_cell W2 r 2 _) R.lo
  · exact ⟨hr.inits, fun x hx => by rcases List.mem_append.1 hx with h | h; exact hr.chans x h; simp at h; subst h; exact hn, hr.locks, hr.lenV, by have := R.few.lenH; simp; omega, hr.lenF, hr.funcs⟩
theorem Rd.var (R : Rd w0 n0 r N p a W) {g cap : Nat} {x : Vr} (hn : I64 x.init) (k1 : Rws n0 (p.varRow.more g cap x.cs :: p.chanRow :: p.funcRow :: p.funcs.flatMap Fn.rows) W2) (k2 : W.grownBy W2 p.varRow.blk) :
    Rd w0 n0 r (N + 1) { p with va := some ⟨g, 0, none⟩, vcap := cap, vars := p.vars ++ [x] } a (W2.setCell ⟨r, 0, none⟩ (.slice (some ⟨g, 0, none⟩) (p.vars.length + 1) cap)) ∧ Frm n0 r W (W2.setCell ⟨r, 0, none⟩ (.slice (some ⟨g, 0, none⟩) (p.vars.length + 1) cap)) := by
  obtain ⟨hb, hf⟩ := R.far (by simp [Pg.rows]) k2
  have h2 : n0 ≤ W2.heap.size := Nat.le_trans R.hi k2.size
  have hf2 := hf.trans (Frm.setR (r := r) h2 0 (.slice (some ⟨g, 0, none⟩) (p.vars.length + 1) cap))
  have hr := R.few.mono (Nat.le_succ N)
  refine ⟨⟨?_, ?_, R.lo, by simpa [World.setCell] using h2, ?_, hf2.acc R.acc R.base R.lo, R.base, R.lies⟩, hf2⟩
  · have := hb.set 0 (by simp) (.slice (some ⟨g, 0, none⟩) (p.vars.length + 1) cap)
    simpa using this
  · rw [← var_more] at k1
    exact k1.other (grown_cell W2 r 0 _) R.lo
  · exact ⟨fun y hy => by rcases List.mem_append.1 hy with h | h; exact hr.inits y h; simp at h; subst h; exact hn, hr.chans, hr.locks, by have := R.few.lenV; simp; omega, hr.lenH, hr.lenF, hr.funcs⟩
/-- A function of nothing. -/
def Fn.new (a b : Int) : Fn := ⟨a, b, none, 0, [], none, 0, []⟩
theorem Rd.func (R : Rd w0 n0 r N p a W) {g cap : Nat} {x y : Int} (hx : I64 x) (hy : I64 y) (k1 : Rws n0 (p.funcRow.more g cap (Fn.new x y).cs :: p.varRow :: p.chanRow :: p.funcs.flatMap Fn.rows) W2) (k2 : W.grownBy W2 p.funcRow.blk) :
    Rd w0 n0 r (N + 1) { p with fa := some ⟨g, 0, none⟩, fcap := cap, funcs := p.funcs ++ [Fn.new x y] } a (W2.setCell ⟨r, 3, none⟩ (.slice (some ⟨g, 0, none⟩) (p.funcs.length + 1) cap)) ∧ Frm n0 r W (W2.setCell ⟨r, 3, none⟩ (.slice (some ⟨g, 0, none⟩) (p.funcs.length + 1) cap)) := by
  obtain ⟨hb, hf⟩ := R.far (by simp [Pg.rows]) k2
  have h2 : n0 ≤ W2.heap.size := Nat.le_trans R.hi k2.size
  have hf2 := hf.trans (Frm.setR (r := r) h2 3 (.slice (some ⟨g, 0, none⟩) (p.funcs.length + 1) cap))
  have hr := R.few.mono (Nat.le_succ N)
  refine ⟨⟨?_, ?_, R.lo, by simpa [World.setCell] using h2, ?_, hf2.acc R.acc R.base R.lo, R.base, R.lies⟩, hf2⟩
  · have := hb.set 3 (by simp) (.slice (some ⟨g, 0, none⟩) (p.funcs.length + 1) cap)
    simpa using this
  · rw [← func_more] at k1
    have k3 := (k1.nil 93 2).nil 51 5
    refine (k3.perm ?_).other (grown_cell W2 r 3 _) R.lo
    refine List.Perm.trans ?_ (rows_func { p with fa := some ⟨g, 0, none⟩, fcap := cap, funcs := p.funcs ++ [Fn.new x y] }).symm
    simp only [List.flatMap_append, List.flatMap_cons, List.flatMap_nil, List.append_nil]
    exact (List.perm_append_comm (l₁ := [(⟨51, 5, .slice none 0 0, 0, []⟩ : Row), ⟨93, 2, .slice none 0 0, 0, []⟩]))
  · refine ⟨hr.inits, hr.chans, hr.locks, hr.lenV, hr.lenH, by have := R.few.lenF; simp; omega, fun f hf => ?_⟩
    rcases List.mem_append.1 hf with h | h
    · exact hr.funcs f h
    · simp at h; subst h
      exact ⟨hx, hy, (fun _ h => by cases h), Nat.zero_le _, Nat.zero_le _, (fun _ h => by cases h)⟩
theorem set_flat {α : Type} (f : α → List Value) (c : Nat) (hf : ∀ x, (f x).length = c) (l : List α) (x y : α) (j : Nat) (v : Value) (h : (f x).set j v = f y) : ((l ++ [x]).flatMap f).set (l.length * c + j) v = (l ++ [y]).flatMap f := by
  have hl : (l.flatMap f).length = l.length * c := by
    induction l with
    | nil => simp
    | cons z l ih => rw [List.flatMap_cons, List.length_append, hf, ih, List.length_cons, Nat.succ_mul]; omega
  rw [List.flatMap_append, List.flatMap_append, List.set_append_right _ _ (by omega), hl, show l.length * c + j - l.length * c = j by omega]
  simp only [List.flatMap_cons, List.flatMap_nil, List.append_nil, h]
/-- A cell of a row written. -/
theorem Rws.put {rs : List Row} {row : Row} {g cap : Nat} (h : Rws n0 (row :: rs) W) (hv : row.v = .slice (some ⟨g, 0, none⟩) row.n cap) (o : Nat) (v : Value) :
    Rws n0 (⟨row.t, row.sz, row.v, row.n, row.xs.set o v⟩ :: rs) (W.setCell ⟨g, o, none⟩ v) ∧ W.grownBy (W.setCell ⟨g, o, none⟩ v) row.blk := by
  have ho := h.own row (List.mem_cons_self ..)
  rw [hv] at ho
  have hs := World.ownsRow.stored ho o v
  have hb : row.blk = some g := by unfold Row.blk; rw [hv]; rfl
  have hg : W.grownBy (W.setCell ⟨g, o, none⟩ v) row.blk := by rw [hb]; exact hs.2
  refine ⟨h.upd hg ⟨row.t, row.sz, row.v, row.n, row.xs.set o v⟩ ?_ (.inl rfl), hg⟩
  show (W.setCell ⟨g, o, none⟩ v).ownsRow n0 row.t row.sz row.v row.n (row.xs.set o v)
  rw [hv]
  exact hs.1
/-- The last function's rows, ahead. -/
theorem rows_last (p : Pg) (fs : List Fn) (f : Fn) (hp : p.funcs = fs ++ [f]) : p.rows.Perm (p.funcRow :: f.codeRow :: f.selRow :: (f.sels.map Sel.row ++ (p.varRow :: p.chanRow :: fs.flatMap Fn.rows))) := by
  refine (rows_func p).trans (List.Perm.cons _ ?_)
  rw [hp]
  simp only [List.flatMap_append, List.flatMap_cons, List.flatMap_nil, List.append_nil]
  have e : p.varRow :: p.chanRow :: (fs.flatMap Fn.rows ++ f.rows) = (p.varRow :: p.chanRow :: fs.flatMap Fn.rows) ++ f.rows := rfl
  rw [e]
  exact List.perm_append_comm
theorem code_more (f : Fn) (g cap : Nat) (x : Ins) : Fn.codeRow { f with ca := some ⟨g, 0, none⟩, ccap := cap, code := f.code ++ [x] } = f.codeRow.more g cap x.cs := by simp [Fn.codeRow, Row.more]
theorem sel_more (f : Fn) (g cap : Nat) (x : Sel) : Fn.selRow { f with sa := some ⟨g, 0, none⟩, scap := cap, sels := f.sels ++ [x] } = f.selRow.more g cap x.cs := by simp [Fn.selRow, Row.more]
theorem case_more (s : Sel) (g cap : Nat) (x : Cas) : Sel.row { s with a := some ⟨g, 0, none⟩, cap := cap, cases := s.cases ++ [x] } = s.row.more g cap x.cs := by simp [Sel.row, Row.more]
theorem funcs_set (p : Pg) (fs : List Fn) (f f' : Fn) (hp : p.funcs = fs ++ [f]) (j : Nat) (v : Value) (h : f.cs.set j v = f'.cs) :
    (⟨p.funcRow.t, p.funcRow.sz, p.funcRow.v, p.funcRow.n, p.funcRow.xs.set (fs.length * 4 + j) v⟩ : Row) = Pg.funcRow { p with funcs := fs ++ [f'] } := by
  simp only [Pg.funcRow, hp, set_flat Fn.cs 4 Fn.cs_len fs f f' j v h, List.length_append, List.length_singleton]
theorem func_block (R : Rd w0 n0 r N p a W) (hne : p.funcs ≠ []) : ∃ b, p.fa = some ⟨b, 0, none⟩ ∧ n0 ≤ b ∧ b < W.heap.size ∧ (∀ k f, p.funcs[k]? = some f → W.rangeAt b (k * 4) f.cs) ∧ ∀ o, W.frozen? ⟨b, o, none⟩ = false := by
  have h := R.rows.own p.funcRow (by simp [Pg.rows])
  have hl : 0 < p.funcs.length := List.length_pos_iff.2 hne
  obtain ⟨g, cap, hv, hb, hlt⟩ := World.ownsRow.form h hl
  simp only [Pg.funcRow, Value.slice.injEq] at hv
  refine ⟨g, hv.1, hb, hlt, fun k f hk j v hj => ?_, fun o => ?_⟩
  · have h2 := World.ownsRow.cells h (g := g) (by simp [Pg.funcRow, hv.1, Value.ownBlock]) (k * 4 + j) v (flat_get Fn.cs 4 Fn.cs_len p.funcs k f hk j v hj)
    rwa [Addr.add_lit, Nat.zero_add] at h2
  · have h3 : W.ownsRow n0 p.funcRow.t p.funcRow.sz (.slice (some ⟨g, 0, none⟩) p.funcRow.n p.fcap) p.funcRow.n p.funcRow.xs := by
      have e : p.funcRow.v = .slice (some ⟨g, 0, none⟩) p.funcRow.n p.fcap := by simp [Pg.funcRow, hv.1]
      rw [← e]; exact h
    exact World.ownsRow.frozenAt h3 o
theorem last_mem (p : Pg) (fs : List Fn) (f : Fn) (hp : p.funcs = fs ++ [f]) {x : Row} (h : x ∈ f.rows) : x ∈ p.rows := by
  unfold Pg.rows
  rw [hp]
  simp only [List.flatMap_append, List.flatMap_cons, List.flatMap_nil, List.append_nil, List.mem_cons, List.mem_append]
  exact .inr (.inr (.inr (.inr h)))
/-- What is the same of the reader, whatever the last function turns to. -/
theorem Rd.turn (R : Rd w0 n0 r N p a W) (fs : List Fn) (f f' : Fn) (hp : p.funcs = fs ++ [f]) {W' : World} (hf : Frm n0 r W W') (hb : Blk r #[.slice p.va p.vars.length p.vcap, .int .i64 p.locks, .slice p.ha p.chans.length p.hcap, .slice p.fa p.funcs.length p.fcap, .int .i64 a] W')
    (hfew : f'.Few (N + 1)) (hr : Rws n0 (Pg.rows { p with funcs := fs ++ [f'] }) W') : Rd w0 n0 r (N + 1) { p with funcs := fs ++ [f'] } a W' := by
  have hm := R.few.mono (Nat.le_succ N)
  have hl : p.funcs.length = (fs ++ [f']).length := by rw [hp]; simp
  refine ⟨?_, hr, R.lo, Nat.le_trans R.hi hf.size, ⟨hm.inits, hm.chans, hm.locks, hm.lenV, hm.lenH, by show (fs ++ [f']).length ≤ _; rw [← hl]; exact hm.lenF, fun x hx => ?_⟩, hf.acc R.acc R.base R.lo, R.base, R.lies⟩
  · rw [hl] at hb; exact hb
  · rcases List.mem_append.1 hx with h | h
    · exact hm.funcs x (by rw [hp]; exact List.mem_append_left _ h)
    · simp at h; subst h; exact hfew
theorem Rd.code (R : Rd w0 n0 r N p a W) (fs : List Fn) (f : Fn) (hp : p.funcs = fs ++ [f]) {b g cap : Nat} {x : Ins} (hx : x.ok) (hb : p.fa = some ⟨b, 0, none⟩) (k1 : Rws n0 (f.codeRow.more g cap x.cs :: p.funcRow :: f.selRow :: (f.sels.map Sel.row ++ (p.varRow :: p.chanRow :: fs.flatMap Fn.rows))) W2) (k2 : W.grownBy W2 f.codeRow.blk) :
    Rd w0 n0 r (N + 1) { p with funcs := fs ++ [{ f with ca := some ⟨g, 0, none⟩, ccap := cap, code := f.code ++ [x] }] } a (W2.setCell ⟨b, fs.length * 4 + 2, none⟩ (.slice (some ⟨g, 0, none⟩) (f.code.length + 1) cap)) ∧ Frm n0 r W (W2.setCell ⟨b, fs.length * 4 + 2, none⟩ (.slice (some ⟨g, 0, none⟩) (f.code.length + 1) cap)) := by
  obtain ⟨hbl, hf⟩ := R.far (last_mem p fs f hp (by simp [Fn.rows])) k2
  have h2 : n0 ≤ W2.heap.size := Nat.le_trans R.hi k2.size
  have hv : p.funcRow.v = .slice (some ⟨b, 0, none⟩) p.funcRow.n p.fcap := by simp [Pg.funcRow, hb]
  obtain ⟨k3, k4⟩ := (k1.perm (List.Perm.swap _ _ _)).put hv (fs.length * 4 + 2) (.slice (some ⟨g, 0, none⟩) (f.code.length + 1) cap)
  have hbk := World.ownsRow.lt (k1.own p.funcRow (by simp)) b (by rw [hv]; rfl)
  rw [funcs_set p fs f { f with ca := some ⟨g, 0, none⟩, ccap := cap, code := f.code ++ [x] } hp 2 _ (by simp [Fn.cs]), ← code_more] at k3
  have hf2 : Frm n0 r W (W2.setCell ⟨b, fs.length * 4 + 2, none⟩ (.slice (some ⟨g, 0, none⟩) (f.code.length + 1) cap)) := hf.trans (Frm.grown h2 k4 fun j e => .inr (by rw [Row.blk, hv] at e; cases e; exact hbk.1))
  refine ⟨R.turn fs f _ hp hf2 (hbl.setOther b _ _ (by have := R.lo; omega)) ?_ (k3.perm ?_), hf2⟩
  · have hfm := (R.few.funcs f (by rw [hp]; simp)).mono (Nat.le_succ N)
    refine ⟨hfm.par, hfm.reg, fun y hy => ?_, ?_, hfm.lenS, hfm.sels⟩
    · rcases List.mem_append.1 hy with h | h
      · exact hfm.oks y h
      · simp at h; subst h; exact hx
    · have := (R.few.funcs f (by rw [hp]; simp)).lenC
      simp; omega
  · exact (rows_last { p with funcs := fs ++ [{ f with ca := some ⟨g, 0, none⟩, ccap := cap, code := f.code ++ [x] }] } fs _ rfl).symm
theorem Rd.sel (R : Rd w0 n0 r N p a W) (fs : List Fn) (f : Fn) (hp : p.funcs = fs ++ [f]) {b g cap : Nat} {n : Int} (hx : I64 n) (hb : p.fa = some ⟨b, 0, none⟩) (k1 : Rws n0 (f.selRow.more g cap (Sel.mk none 0 [] n).cs :: p.funcRow :: f.codeRow :: (f.sels.map Sel.row ++ (p.varRow :: p.chanRow :: fs.flatMap Fn.rows))) W2) (k2 : W.grownBy W2 f.selRow.blk) :
    Rd w0 n0 r (N + 1) { p with funcs := fs ++ [{ f with sa := some ⟨g, 0, none⟩, scap := cap, sels := f.sels ++ [⟨none, 0, [], n⟩] }] } a (W2.setCell ⟨b, fs.length * 4 + 3, none⟩ (.slice (some ⟨g, 0, none⟩) (f.sels.length + 1) cap)) ∧ Frm n0 r W (W2.setCell ⟨b, fs.length * 4 + 3, none⟩ (.slice (some ⟨g, 0, none⟩) (f.sels.length + 1) cap)) := by
  obtain ⟨hbl, hf⟩ := R.far (last_mem p fs f hp (by simp [Fn.rows])) k2
  have h2 : n0 ≤ W2.heap.size := Nat.le_trans R.hi k2.size
  have hv : p.funcRow.v = .slice (some ⟨b, 0, none⟩) p.funcRow.n p.fcap := by simp [Pg.funcRow, hb]
  obtain ⟨k3, k4⟩ := (k1.perm (List.Perm.swap _ _ _)).put hv (fs.length * 4 + 3) (.slice (some ⟨g, 0, none⟩) (f.sels.length + 1) cap)
  have hbk := World.ownsRow.lt (k1.own p.funcRow (by simp)) b (by rw [hv]; rfl)
  rw [funcs_set p fs f { f with sa := some ⟨g, 0, none⟩, scap := cap, sels := f.sels ++ [⟨none, 0, [], n⟩] } hp 3 _ (by simp [Fn.cs]), ← sel_more] at k3
  have hf2 : Frm n0 r W (W2.setCell ⟨b, fs.length * 4 + 3, none⟩ (.slice (some ⟨g, 0, none⟩) (f.sels.length + 1) cap)) := hf.trans (Frm.grown h2 k4 fun j e => .inr (by rw [Row.blk, hv] at e; cases e; exact hbk.1))
  refine ⟨R.turn fs f _ hp hf2 (hbl.setOther b _ _ (by have := R.lo; omega)) ?_ ((k3.nil 105 4).perm ?_), hf2⟩
  · have hfm := (R.few.funcs f (by rw [hp]; simp)).mono (Nat.le_succ N)
    refine ⟨hfm.par, hfm.reg, hfm.oks, hfm.lenC, ?_, fun y hy => ?_⟩
    · have := (R.few.funcs f (by rw [hp]; simp)).lenS
      simp; omega
    · rcases List.mem_append.1 hy with h | h
      · exact hfm.sels y h
      · simp at h; subst h; exact ⟨fun _ h => (by cases h), hx, Nat.zero_le _⟩
  · refine List.Perm.trans ?_ (rows_last { p with funcs := fs ++ [{ f with sa := some ⟨g, 0, none⟩, scap := cap, sels := f.sels ++ [⟨none, 0, [], n⟩] }] } fs _ rfl).symm
    simp only [List.map_append, List.map_cons, List.map_nil, List.append_assoc, List.cons_append, List.nil_append]
    refine (List.Perm.swap _ _ _).trans (List.Perm.cons _ ?_)
    refine (List.Perm.cons _ (List.Perm.swap _ _ _)).trans ?_
    refine (List.Perm.swap _ _ _).trans (List.Perm.cons _ ?_)
    refine (List.Perm.swap _ _ _).trans (List.Perm.cons _ ?_)
    exact List.perm_middle.symm
theorem sels_set (f : Fn) (ss : List Sel) (s s' : Sel) (hs : f.sels = ss ++ [s]) (j : Nat) (v : Value) (h : s.cs.set j v = s'.cs) :
    (⟨f.selRow.t, f.selRow.sz, f.selRow.v, f.selRow.n, f.selRow.xs.set (ss.length * 2 + j) v⟩ : Row) = Fn.selRow { f with sels := ss ++ [s'] } := by
  simp only [Fn.selRow, hs, set_flat Sel.cs 2 Sel.cs_len ss s s' j v h, List.length_append, List.length_singleton]
theorem perm4 (A B C D : Row) (l1 l2 : List Row) : (A :: B :: C :: D :: (l1 ++ l2)).Perm (D :: C :: A :: (l1 ++ B :: l2)) := by
  have h : ([A, B] ++ [C, D] : List Row).Perm ([C, D] ++ [A, B]) := List.perm_append_comm
  have h1 := (h.trans (List.Perm.swap D C [A, B])).append_right (l1 ++ l2)
  have h2 : (B :: (l1 ++ l2)).Perm (l1 ++ B :: l2) := List.perm_middle.symm
  exact h1.trans (List.Perm.cons D (List.Perm.cons C (List.Perm.cons A h2)))
theorem Rd.case (R : Rd w0 n0 r N p a W) (fs : List Fn) (f : Fn) (hp : p.funcs = fs ++ [f]) (ss : List Sel) (s : Sel) (hs : f.sels = ss ++ [s]) {b g cap : Nat} {x : Cas} (hx : x.ok) (hb : f.sa = some ⟨b, 0, none⟩)
    (k1 : Rws n0 (s.row.more g cap x.cs :: f.selRow :: f.codeRow :: p.funcRow :: (ss.map Sel.row ++ (p.varRow :: p.chanRow :: fs.flatMap Fn.rows))) W2) (k2 : W.grownBy W2 s.row.blk) :
    Rd w0 n0 r (N + 1) { p with funcs := fs ++ [{ f with sels := ss ++ [{ s with a := some ⟨g, 0, none⟩, cap := cap, cases := s.cases ++ [x] }] }] } a (W2.setCell ⟨b, ss.length * 2 + 0, none⟩ (.slice (some ⟨g, 0, none⟩) (s.cases.length + 1) cap)) ∧ Frm n0 r W (W2.setCell ⟨b, ss.length * 2 + 0, none⟩ (.slice (some ⟨g, 0, none⟩) (s.cases.length + 1) cap)) := by
  obtain ⟨hbl, hf⟩ := R.far (last_mem p fs f hp (by simp [Fn.rows, hs])) k2
  have h2 : n0 ≤ W2.heap.size := Nat.le_trans R.hi k2.size
  have hv : f.selRow.v = .slice (some ⟨b, 0, none⟩) f.selRow.n f.scap := by simp [Fn.selRow, hb]
  obtain ⟨k3, k4⟩ := (k1.perm (List.Perm.swap _ _ _)).put hv (ss.length * 2 + 0) (.slice (some ⟨g, 0, none⟩) (s.cases.length + 1) cap)
  have hbk := World.ownsRow.lt (k1.own f.selRow (by simp)) b (by rw [hv]; rfl)
  rw [sels_set f ss s { s with a := some ⟨g, 0, none⟩, cap := cap, cases := s.cases ++ [x] } hs 0 _ (by simp [Sel.cs]), ← case_more] at k3
  have hf2 : Frm n0 r W (W2.setCell ⟨b, ss.length * 2 + 0, none⟩ (.slice (some ⟨g, 0, none⟩) (s.cases.length + 1) cap)) := hf.trans (Frm.grown h2 k4 fun j e => .inr (by rw [Row.blk, hv] at e; cases e; exact hbk.1))
  have hfr : p.funcRow = Pg.funcRow { p with funcs := fs ++ [{ f with sels := ss ++ [{ s with a := some ⟨g, 0, none⟩, cap := cap, cases := s.cases ++ [x] }] }] } := by
    simp [Pg.funcRow, hp, Fn.cs, hs]
  refine ⟨R.turn fs f _ hp hf2 (hbl.setOther b _ _ (by have := R.lo; omega)) ?_ (k3.perm ?_), hf2⟩
  · have hfm := (R.few.funcs f (by rw [hp]; simp)).mono (Nat.le_succ N)
    refine ⟨hfm.par, hfm.reg, hfm.oks, hfm.lenC, ?_, fun y hy => ?_⟩
    · have := hfm.lenS; rw [hs] at this; simpa using this
    · rcases List.mem_append.1 hy with h | h
      · exact hfm.sels y (by rw [hs]; exact List.mem_append_left _ h)
      · simp at h; subst h
        have hsm := hfm.sels s (by rw [hs]; simp)
        have hsl := ((R.few.funcs f (by rw [hp]; simp)).sels s (by rw [hs]; simp)).2.2
        refine ⟨fun z hz => ?_, hsm.2.1, by simp; omega⟩
        rcases List.mem_append.1 hz with h | h
        · exact hsm.1 z h
        · simp at h; subst h; exact hx
  · refine List.Perm.trans ?_ (rows_last { p with funcs := fs ++ [{ f with sels := ss ++ [{ s with a := some ⟨g, 0, none⟩, cap := cap, cases := s.cases ++ [x] }] }] } fs _ rfl).symm
    rw [← hfr]
    simp only [List.map_append, List.map_cons, List.map_nil, List.append_assoc, List.cons_append, List.nil_append]
    exact perm4 _ _ _ _ _ _
theorem rows_case (p : Pg) (fs : List Fn) (f : Fn) (hp : p.funcs = fs ++ [f]) (ss : List Sel) (s : Sel) (hs : f.sels = ss ++ [s]) : p.rows.Perm (s.row :: f.selRow :: f.codeRow :: p.funcRow :: (ss.map Sel.row ++ (p.varRow :: p.chanRow :: fs.flatMap Fn.rows))) := by
  refine (rows_last p fs f hp).trans ?_
  rw [hs]
  simp only [List.map_append, List.map_cons, List.map_nil, List.append_assoc, List.cons_append, List.nil_append]
  exact (perm4 f.selRow s.row f.codeRow p.funcRow (ss.map Sel.row) _).symm.trans (List.Perm.swap _ _ _)
/-- Rows that lie apart. -/
theorem Rws.ne {rs : List Row} {x y : Row} (h : Rws n0 rs W) (l : List Row) (hp : rs.Perm (x :: y :: l)) {b : Nat} (hx : x.blk = some b) : y.blk ≠ some b := by
  have ha := (h.perm hp).apart
  rw [List.filterMap_cons_some hx, List.nodup_cons] at ha
  exact fun e => ha.1 (List.mem_filterMap.2 ⟨y, List.mem_cons_self .., e⟩)
theorem Rd.sel_ne (R : Rd w0 n0 r N p a W) (fs : List Fn) (f : Fn) (hp : p.funcs = fs ++ [f]) {b : Nat} (hb : p.fa = some ⟨b, 0, none⟩) : f.selRow.blk ≠ some b :=
  R.rows.ne _ ((rows_last p fs f hp).trans (List.Perm.cons _ (List.Perm.swap _ _ _))) (by simp [Row.blk, Pg.funcRow, hb, Value.ownBlock])
theorem Rd.case_ne (R : Rd w0 n0 r N p a W) (fs : List Fn) (f : Fn) (hp : p.funcs = fs ++ [f]) (ss : List Sel) (s : Sel) (hs : f.sels = ss ++ [s]) {b : Nat} (hb : f.sa = some ⟨b, 0, none⟩) : s.row.blk ≠ some b :=
  R.rows.ne _ ((rows_case p fs f hp ss s hs).trans (List.Perm.swap _ _ _)) (by simp [Row.blk, Fn.selRow, hb, Value.ownBlock])
theorem Rd.code_ne (R : Rd w0 n0 r N p a W) (fs : List Fn) (f : Fn) (hp : p.funcs = fs ++ [f]) {b : Nat} (hb : p.fa = some ⟨b, 0, none⟩) : f.codeRow.blk ≠ some b :=
  R.rows.ne _ (rows_last p fs f hp) (by simp [Row.blk, Pg.funcRow, hb, Value.ownBlock])
end Go.Proofs.YtlhhmlfcodmebaaGreatDoor.Pg
