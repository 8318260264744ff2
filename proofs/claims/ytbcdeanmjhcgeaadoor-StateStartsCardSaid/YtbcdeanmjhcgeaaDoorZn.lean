/- Several texts of one proof, one behind the other. Lists copied by append: what is owned, what lies apart, over worlds that grow. No condition. | What the copy of a program is, half way. No condition. | The copy of a program, half way: a function begun, a select, a function done, all. No condition. -/
import Derived.Test.YtbcdeanmjhcgeaaDoorZa
import Derived.Test.YtbcdeanmjhcgeaaDoorZe
import Derived.Laws.AppendOwnNone
import Derived.Laws.AppendOwn
import Derived.OwnWalk
import Derived.Maps.AppendAt
namespace Go.Proofs.YtbcdeanmjhcgeaaDoor.Pg
set_option linter.unusedVariables false
set_option linter.unusedSimpArgs false
open Go.ChangeShapes Go.WideShapes Go.RowKit
section
variable {P : Program} {w w1 W W' : World} {base : Nat} {e : TypeId} {size : Nat}
theorem run_append_none (t ty : TypeId) (i : TypeInfo) (ht : P.underlying t = some (.slice e)) (hi : P.info? e = some i) (v : Value) (n c : Nat) (xs : List Value) (hown : w.ownsRow base e size v n xs) :
    (Builtin.append_ #[t, t] ty #[v, .slice none 0 c]).run P w = .ok v w := by
  rcases hown.2 with ⟨rfl, rfl⟩ | ⟨g, cap, cur, rfl, _, _, hnc, _⟩
  · simp [Builtin.append_, run_underlying ht, sizeOf, typeInfo, hi, Builtin.lenOf, Builtin.firstCells]
  · simp [Builtin.append_, run_underlying ht, sizeOf, typeInfo, hi, Builtin.lenOf, Builtin.firstCells, hnc, storeCells]
theorem grown_self (w : World) (r : Option Nat) : w.grownBy w r := ⟨rfl, rfl, rfl, Nat.le_refl _, fun _ _ _ => rfl⟩
/-- A list's cells, wherever they lie, appended to what the call owns. -/
theorem wpList_append_lst {ops : Array Oper} {rest : List Oper} {o : Oper} {a : Act} {Q : Exit → Act → World → Prop} (hgd : o.guard = none) (s x : Operand) (t : TypeId)
    (ho : o.op = .call { callee := .builtin .append, args := #[s, x], argTypes := #[t, t] })
    (base : Nat) (e : TypeId) (z : Value) (size bytes : Nat) (ht : P.underlying t = some (.slice e)) (hi : (P.info? e).map (fun i => (i.zero, i.size, i.bytes)) = some (some z, size, bytes)) (hzs : z.cells.size = size) (hsz : 0 < size)
    (v : Value) (n : Nat) (xs : List Value) (hs : a.eval s = v) (hown : w.ownsRow base e size v n xs)
    (ao : Option Addr) (m c : Nat) (news : List Value) (hx : a.eval x = .slice ao m c) (hl : news.length = m * size) (hli : Lies w ao news) (h1 : ∀ u ∈ news, u.oneCell' = true)
    (hbytes : (n + m) * bytes ≤ 140737488351232) (hb1 : 1 ≤ bytes) (hbase : base ≤ w.heap.size)
    (h : ∀ v' w', w'.ownsRow base e size v' (n + m) (xs ++ news) → w.grownBy w' v.ownBlock → (v'.ownBlock = v.ownBlock ∨ v'.ownBlock = some w.heap.size) → wpList P ops Q rest (a.put o.dst v') w') : wpList P ops Q (o :: rest) a w := by
  obtain ⟨i, hi, hz, hsize, hby⟩ := info_parts hi
  have h63 : n + m ≤ maxLen := by have := Nat.mul_le_mul_left (n + m) hb1; unfold maxLen; omega
  cases ao with
  | some ad =>
    refine wpList_append_own_at _ hgd s x t ho base e i z size bytes ht hi hz hsize hby hzs hsz v n xs hs hown ad m c news hx hl (fun j u hj => ?_) h1 h63 (by omega) hbase (fun v' w' q1 q2 _ q4 => h v' w' q1 q2 q4)
    rcases hli with rfl | ⟨b, off, e, _, hr⟩
    · simp at hj
    · cases e
      rw [Addr.add_lit]; exact hr j u hj
  | none =>
    obtain rfl : news = [] := by rcases hli with h | ⟨_, _, e, _⟩; exact h; cases e
    obtain rfl : m = 0 := by rcases Nat.mul_eq_zero.1 (show m * size = 0 by simpa using hl.symm) with h | h; exact h; omega
    refine wpList_plain hgd fun K hK => ?_
    have hrun := run_append_none (P := P) (w := w) t o.type i ht hi v n c xs hown
    unfold Oper.wp
    simp [execOp, ho, resolve, invoke, builtin, hs, hx, hrun, Result.andThen]
    exact hK _ _ (h v w (by simpa using hown) (grown_self _ _) (.inl rfl))
theorem ownsRow_form {v : Value} {n : Nat} {xs : List Value} (h : w.ownsRow base e size v n xs) (hl : 0 < size) : ∃ a c, v = .slice a n c ∧ Lies w a xs ∧ ∀ x, a = some x → base ≤ x.block ∧ x.block < w.heap.size := by
  have hlt := h.lt
  rcases h.2 with ⟨rfl, rfl⟩ | ⟨g, cap, cur, rfl, hbg, hg, _⟩
  · exact ⟨none, 0, rfl, .inl (List.eq_nil_of_length_eq_zero (by simpa using h.1)), fun x hx => by cases hx⟩
  · have hgl := (hlt g rfl).2
    exact ⟨some ⟨g, 0, none⟩, cap, rfl, .inr ⟨g, 0, rfl, hgl, fun j u hj => by have := h.cells (g := g) rfl j u hj; rwa [Addr.add_lit] at this⟩, fun x hx => by cases hx; exact ⟨hbg, hgl⟩⟩
/-- Cells that lie apart from what may be written. -/
structure Own (X : List (Option Nat)) (W : World) (a : Option Addr) (cs : List Value) : Prop where
  lies : Lies W a cs
  at' : ∀ x, a = some x → x.block < W.heap.size ∧ some x.block ∉ X
theorem Own.grown {X : List (Option Nat)} {a : Option Addr} {cs : List Value} {r : Option Nat} (h : Own X W a cs) (g : W.grownBy W' r) (hr : r = none ∨ r ∈ X) : Own X W' a cs := by
  refine ⟨?_, fun x hx => ⟨Nat.lt_of_lt_of_le (h.at' x hx).1 g.size, (h.at' x hx).2⟩⟩
  rcases h.lies with e | ⟨b, o, e, hl, hc⟩
  · exact .inl e
  · refine .inr ⟨b, o, e, Nat.lt_of_lt_of_le hl g.size, fun j v hv => g.cell (hc j v hv) ?_⟩
    intro e'
    rcases hr with rfl | hr
    · cases e'
    · exact (h.at' _ e).2 (by simp only at e'; rw [e']; exact hr)
theorem Own.other {X Y : List (Option Nat)} {a : Option Addr} {cs : List Value} (h : Own X W a cs) (hy : ∀ y ∈ Y, y ∈ X ∨ y = none ∨ ∃ k, y = some k ∧ W.heap.size ≤ k) : Own Y W a cs :=
  ⟨h.lies, fun x hx => ⟨(h.at' x hx).1, fun hm => by
    have h1 := h.at' x hx
    rcases hy _ hm with h | h | ⟨k, h, hk⟩
    · exact h1.2 h
    · cases h
    · cases h; omega⟩⟩
theorem Own.of_row {X : List (Option Nat)} {n : Nat} {a : Option Addr} {c : Nat} {xs : List Value} (h : W.ownsRow base e size (.slice a n c) n xs) (hs : 0 < size) (hx : a = none ∨ (Value.slice a n c).ownBlock ∉ X) : Own X W a xs := by
  obtain ⟨a', c', e', h1, h2⟩ := ownsRow_form h hs
  cases e'
  refine ⟨h1, fun x e' => ⟨(h2 x e').2, fun hm => ?_⟩⟩
  subst e'
  rcases hx with h | h
  · cases h
  · exact h hm
theorem Own.row {X : List (Option Nat)} {n : Nat} {a : Option Addr} {c : Nat} {xs : List Value} (h : W.ownsRow base e size (.slice a n c) n xs) (hs : 0 < size) (hx : ∀ y ∈ X, y = none ∨ (∃ k, y = some k ∧ k < base) ∨ y ≠ (Value.slice a n c).ownBlock) : Own X W a xs := by
  refine Own.of_row h hs ?_
  cases a with
  | none => exact .inl rfl
  | some x =>
    refine .inr fun hm => ?_
    have hb := (h.lt x.block rfl).1
    rcases hx _ hm with h1 | ⟨k, h1, h2⟩ | h1
    · cases h1
    · have : x.block = k := Option.some.inj h1
      omega
    · exact h1 rfl
/-- Lists that lie apart. -/
def Owns (X : List (Option Nat)) (W : World) (l : List (Option Addr × List Value)) : Prop := ∀ p ∈ l, Own X W p.1 p.2
theorem Owns.grown {X : List (Option Nat)} {l : List (Option Addr × List Value)} {r : Option Nat} (h : Owns X W l) (g : W.grownBy W' r) (hr : r = none ∨ r ∈ X) : Owns X W' l := fun p hp => (h p hp).grown g hr
theorem Owns.other {X Y : List (Option Nat)} {l : List (Option Addr × List Value)} (h : Owns X W l) (hy : ∀ y ∈ Y, y ∈ X ∨ y = none ∨ ∃ k, y = some k ∧ W.heap.size ≤ k) : Owns Y W l := fun p hp => (h p hp).other hy
theorem Owns.nil (X : List (Option Nat)) (W : World) : Owns X W [] := fun _ h => by cases h
theorem Owns.cons {X : List (Option Nat)} {l : List (Option Addr × List Value)} {a : Option Addr} {cs : List Value} (h : Owns X W l) (h1 : Own X W a cs) : Owns X W ((a, cs) :: l) := fun p hp => by
  rcases List.mem_cons.1 hp with rfl | hp
  · exact h1
  · exact h p hp
theorem Env.grown {bs : List (Nat × Array Value)} {r : Option Nat} (E : Env w bs W) (g : W.grownBy W' r) (hr : ∀ k, r = some k → w.heap.size ≤ k ∧ ∀ p ∈ bs, p.1 ≠ k) : Env w bs W' := by
  refine ⟨E.acc.grown g E.acc.size (fun k hk => (hr k hk).1), fun p hp => ?_⟩
  have hb := E.blk p hp
  have hne : some p.1 ≠ r := fun e => (hr p.1 e.symm).2 p hp rfl
  have hk := g.block p.1 hb.lt hne
  exact ⟨Nat.lt_of_lt_of_le hb.lt g.size, fun o => (World.cell?_of_block (a := ⟨p.1, o, none⟩) hk).trans (hb.cell o), fun o => (World.frozen?_of_block (a := ⟨p.1, o, none⟩) hk).trans (hb.fr o)⟩
theorem grown_set (W : World) (b o : Nat) (v : Value) : W.grownBy (W.setCell ⟨b, o, none⟩ v) (some b) :=
  ⟨rfl, rfl, rfl, by simp [World.setCell], fun k _ hk => Below.heap_setCell _ _ _ _ (fun e => hk (by simp only at e; rw [e]))⟩
theorem grown_drew (W : World) (r : Option Nat) : W.grownBy W.drew r := ⟨rfl, rfl, rfl, Nat.le_refl _, fun _ _ _ => rfl⟩
theorem grown_below {B : Nat} (h : Below B W W') (hB : W.heap.size ≤ B) (r : Option Nat) : W.grownBy W' r := ⟨h.os, h.tape, h.output, h.size, fun k hk _ => h.block k (by omega)⟩
end
end Go.Proofs.YtbcdeanmjhcgeaaDoor.Pg
namespace Go.Proofs.YtbcdeanmjhcgeaaDoor.Pg
set_option linter.unusedVariables false
set_option linter.unusedSimpArgs false
open Go.ChangeShapes Go.WideShapes Go.RowKit
/-- What the lists take in bytes. -/
def Fn.Sized (f : Fn) : Prop := f.code.length * 40 ≤ 140737488351232 ∧ f.sels.length * 32 ≤ 140737488351232 ∧ ∀ s ∈ f.sels, s.cases.length * 32 ≤ 140737488351232
def Pg.Sized (P : Pg) : Prop := P.vars.length * 16 ≤ 140737488351232 ∧ P.chans.length * 8 ≤ 140737488351232 ∧ P.funcs.length * 64 ≤ 140737488351232 ∧ ∀ f ∈ P.funcs, f.Sized
theorem flat_lenC {α : Type} {f : α → List Value} {c : Nat} (hf : ∀ x, (f x).length = c) : ∀ l : List α, (l.flatMap f).length = l.length * c
  | [] => by simp
  | x :: l => by rw [List.flatMap_cons, List.length_append, hf, flat_lenC hf l, List.length_cons, Nat.succ_mul]; omega
theorem flat_oneC {α : Type} {f : α → List Value} (hf : ∀ x, ∀ u ∈ f x, u.oneCell' = true) (l : List α) : ∀ u ∈ l.flatMap f, u.oneCell' = true := fun u hu => by
  obtain ⟨x, _, h⟩ := List.mem_flatMap.1 hu
  exact hf x u h
theorem one_int (l : List Int) : ∀ u ∈ l.map (Value.int .i64), u.oneCell' = true := fun u hu => by
  obtain ⟨x, _, rfl⟩ := List.mem_map.1 hu
  rfl
theorem Vr.one (x : Vr) : ∀ u ∈ x.cs, u.oneCell' = true := fun u hu => by simp [Vr.cs] at hu; rcases hu with rfl | rfl <;> rfl
theorem Ins.one (x : Ins) : ∀ u ∈ x.cs, u.oneCell' = true := fun u hu => by simp [Ins.cs] at hu; rcases hu with rfl | rfl | rfl | rfl | rfl <;> rfl
theorem Cas.one (x : Cas) : ∀ u ∈ x.cs, u.oneCell' = true := fun u hu => by simp [Cas.cs] at hu; rcases hu with rfl | rfl | rfl | rfl <;> rfl
theorem Sel.one (x : Sel) : ∀ u ∈ x.cs, u.oneCell' = true := fun u hu => by simp [Sel.cs] at hu; rcases hu with rfl | rfl <;> rfl
theorem Fn.one (x : Fn) : ∀ u ∈ x.cs, u.oneCell' = true := fun u hu => by simp [Fn.cs] at hu; rcases hu with rfl | rfl | rfl | rfl <;> rfl
/-- The lists of selects, of a function. -/
def Sel.part (s : Sel) : Option Addr × List Value := (s.a, s.cases.flatMap Cas.cs)
def Fn.parts (f : Fn) : List (Option Addr × List Value) := (f.ca, f.code.flatMap Ins.cs) :: (f.sa, f.sels.flatMap Sel.cs) :: f.sels.map Sel.part
/-- The copy, k functions in. b: out's block; x: the result's. -/
structure OutR (w : World) (x b : Nat) (P : Pg) (va : Option Addr) (vc : Nat) (ha : Option Addr) (hc : Nat) (k : Nat) (W : World) (fa : Option Addr) (fc : Nat) (Qs : List Fn) : Prop where
  env : Env w [(b, #[.slice va P.vars.length vc, .int .i64 P.locks, .slice ha P.chans.length hc, .slice fa k fc]), (x, #[.slice none 0 0, .int .i64 0, .slice none 0 0, .slice none 0 0]), (w.heap.size, P.cs.toArray)] W
  row : W.ownsRow (b + 1) 77 4 (.slice fa k fc) k (Qs.flatMap Fn.cs)
  own : Owns [some x, some b, (Value.slice fa k fc).ownBlock] W ((va, P.vars.flatMap Vr.cs) :: (ha, P.chans.map (Value.int .i64)) :: Qs.flatMap Fn.parts)
  big : b < W.heap.size
  like : Qs.map Fn.bare = (P.funcs.take k).map Fn.bare
/-- Within a function: j selects in. g: its copy's block, h: its own. -/
structure InR (w : World) (x b h g : Nat) (P : Pg) (va : Option Addr) (vc : Nat) (ha : Option Addr) (hc : Nat) (k : Nat) (fa : Option Addr) (fc : Nat) (Qs : List Fn) (f : Fn) (ca : Option Addr) (cc : Nat) (j : Nat) (W : World) (sa : Option Addr) (sc : Nat) (ts : List Sel) : Prop where
  env : Env w [(g, #[.int .i64 f.params, .int .i64 f.regs, .slice ca f.code.length cc, .slice sa j sc]), (h, f.cs.toArray), (b, #[.slice va P.vars.length vc, .int .i64 P.locks, .slice ha P.chans.length hc, .slice fa k fc]), (x, #[.slice none 0 0, .int .i64 0, .slice none 0 0, .slice none 0 0]), (w.heap.size, P.cs.toArray)] W
  rowF : W.ownsRow (b + 1) 77 4 (.slice fa k fc) k (Qs.flatMap Fn.cs)
  rowS : W.ownsRow (g + 1) 80 2 (.slice sa j sc) j (ts.flatMap Sel.cs)
  own : Owns [some x, some b, (Value.slice fa k fc).ownBlock, some g, (Value.slice sa j sc).ownBlock] W ((va, P.vars.flatMap Vr.cs) :: (ha, P.chans.map (Value.int .i64)) :: (Qs.flatMap Fn.parts ++ (ca, f.code.flatMap Ins.cs) :: ts.map Sel.part))
  gfree : (Value.slice fa k fc).ownBlock ≠ some g
  apart : (Value.slice fa k fc).ownBlock = none ∨ (Value.slice fa k fc).ownBlock ≠ (Value.slice sa j sc).ownBlock
  big : b < h ∧ h < g ∧ g < W.heap.size
  likeQ : Qs.map Fn.bare = (P.funcs.take k).map Fn.bare
  likeT : ts.map Sel.bare = (f.sels.take j).map Sel.bare
end Go.Proofs.YtbcdeanmjhcgeaaDoor.Pg
namespace Go.Proofs.YtbcdeanmjhcgeaaDoor.Pg
set_option linter.unusedVariables false
set_option linter.unusedSimpArgs false
open Go.ChangeShapes Go.WideShapes Go.RowKit
section
variable {w W W' : World} {base n : Nat} {e : TypeId} {size : Nat} {v : Value} {xs : List Value}
theorem kept_none (h : W.ownsRow base e size v n xs) (g : W.grownBy W' none) : W'.ownsRow base e size v n xs := h.kept g (by cases v.ownBlock; exact .inl rfl; exact .inr (by simp))
theorem kept_set (h : W.ownsRow base e size v n xs) (b o : Nat) (u : Value) (hne : v.ownBlock ≠ some b) : (W.setCell ⟨b, o, none⟩ u).ownsRow base e size v n xs := h.kept (grown_set _ _ _ _) (.inr hne)
theorem own_ne (h : W.ownsRow base e size v n xs) {g : Nat} (hg : W.heap.size ≤ g) : v.ownBlock ≠ some g := fun e => by have := (h.lt g e).2; omega
theorem own_ne' (h : W.ownsRow base e size v n xs) {g : Nat} (hg : g < base) : v.ownBlock ≠ some g := fun e => by have := (h.lt g e).1; omega
theorem Own.fresh {X : List (Option Nat)} {a : Option Addr} {c N : Nat} (h : W.ownsRow base e size (.slice a n c) n xs) (hs : 0 < size) (ht : (Value.slice a n c).ownBlock = none ∨ (Value.slice a n c).ownBlock = some N) (hX : ∀ y ∈ X, y ≠ some N) : Own X W a xs := by
  refine Own.of_row h hs ?_
  cases a with
  | none => exact .inl rfl
  | some x =>
    refine .inr fun hm => ?_
    rcases ht with h1 | h1
    · cases h1
    · exact hX _ hm h1
theorem Owns.mem {X : List (Option Nat)} {l l' : List (Option Addr × List Value)} (h : Owns X W l) (hl : ∀ p ∈ l', p ∈ l) : Owns X W l' := fun p hp => h p (hl p hp)
end
section
variable {w wr w3 w4 w5 w6 : World} {x b g h : Nat} {P : Pg} {va ha fa fa' sa sa' ca ta : Option Addr} {vc hc fc fc' sc sc' cc tc k j : Nat} {Qs : List Fn} {ts : List Sel} {f : Fn} {s : Sel}
theorem OutR.inner (R : OutR w x b P va vc ha hc k wr fa fc Qs) (f : Fn) (hw : w.heap.size < x) (hx : x < b)
    (g3 : ((wr.alloc (.cells f.cs.toArray 77)).alloc (.cells #[.int .i64 f.params, .int .i64 f.regs, .slice none 0 0, .slice none 0 0] 77)).grownBy w3 none)
    (o3 : w3.ownsRow (b + 1) 88 5 (.slice ca f.code.length cc) f.code.length (f.code.flatMap Ins.cs))
    (t3 : (Value.slice ca f.code.length cc).ownBlock = none ∨ (Value.slice ca f.code.length cc).ownBlock = some (wr.heap.size + 1 + 1)) :
    InR w x b wr.heap.size (wr.heap.size + 1) P va vc ha hc k fa fc Qs f ca cc 0 (w3.setCell ⟨wr.heap.size + 1, 2, none⟩ (.slice ca f.code.length cc)) none 0 [] := by
  have hs := g3.size
  simp at hs
  have hb := R.big
  have gA := World.grownBy_alloc wr (.cells f.cs.toArray 77) none
  have gB := World.grownBy_alloc (wr.alloc (.cells f.cs.toArray 77)) (.cells #[.int .i64 f.params, .int .i64 f.regs, .slice none 0 0, .slice none 0 0] 77) none
  have nF := own_ne R.row (g := wr.heap.size + 1) (by omega)
  have nN := own_ne R.row (g := wr.heap.size + 1 + 1) (by omega)
  have E := (((R.env.push wr.heap.size rfl f.cs.toArray 77).push (wr.heap.size + 1) (by simp) #[.int .i64 f.params, .int .i64 f.regs, .slice none 0 0, .slice none 0 0] 77).grown g3 (fun k hk => by cases hk)).set (by have := R.env.acc.size; omega)
    (by intro p hp; simp only [List.mem_cons, List.not_mem_nil, or_false] at hp; have := R.env.acc.size; rcases hp with rfl | rfl | rfl | rfl <;> (simp only; omega)) 2 (by simp) (.slice ca f.code.length cc)
  have mem : ∀ y ∈ [some x, some b, (Value.slice fa k fc).ownBlock, some (wr.heap.size + 1), none], y ∈ [some x, some b, (Value.slice fa k fc).ownBlock] ∨ y = none ∨ ∃ k, y = some k ∧ wr.heap.size ≤ k := fun y hy => by
    simp only [List.mem_cons, List.not_mem_nil, or_false] at hy ⊢
    rcases hy with rfl | rfl | rfl | rfl | rfl
    · exact .inl (.inl rfl)
    · exact .inl (.inr (.inl rfl))
    · exact .inl (.inr (.inr rfl))
    · exact .inr (.inr ⟨_, rfl, by omega⟩)
    · exact .inr (.inl rfl)
  have O1 := ((((R.own.other mem).grown gA (.inl rfl)).grown gB (.inl rfl)).grown g3 (.inl rfl)).grown (grown_set _ (wr.heap.size + 1) 2 (.slice ca f.code.length cc)) (.inr (by simp))
  have O2 : Own [some x, some b, (Value.slice fa k fc).ownBlock, some (wr.heap.size + 1), none] w3 ca (f.code.flatMap Ins.cs) := Own.fresh o3 (by decide) t3 (fun y hy => by
    simp only [List.mem_cons, List.not_mem_nil, or_false] at hy
    rcases hy with rfl | rfl | rfl | rfl | rfl
    · simp; omega
    · simp; omega
    · exact nN
    · simp
    · simp)
  have O3 := O2.grown (grown_set _ (wr.heap.size + 1) 2 (.slice ca f.code.length cc)) (.inr (by simp))
  refine ⟨E, kept_set (kept_none ((R.row.alloc _).alloc _) g3) _ _ _ nF, World.ownsRow_nil _ _ _ _, ?_, nF, ?_, ⟨by omega, by omega, by simp [World.setCell]; omega⟩, R.like, rfl⟩
  · refine (O1.cons O3).mem fun p hp => ?_
    simp only [List.mem_cons, List.mem_append, List.map_nil, List.not_mem_nil, or_false] at hp ⊢
    rcases hp with h | h | h | h
    · exact .inr (.inl h)
    · exact .inr (.inr (.inl h))
    · exact .inr (.inr (.inr h))
    · exact .inl h
  · cases (Value.slice fa k fc).ownBlock
    · exact .inl rfl
    · exact .inr (by simp [Value.ownBlock])
theorem InR.step (I : InR w x b h g P va vc ha hc k fa fc Qs f ca cc j wr sa sc ts) (s : Sel) (hw : w.heap.size < x) (hx : x < b) (hT : f.sels.take (j + 1) = f.sels.take j ++ [s])
    (g4 : ((wr.alloc (.cells s.cs.toArray 80)).alloc (.cells #[.slice none 0 0, .int .i64 s.els] 80)).grownBy w4 none)
    (o4 : w4.ownsRow (b + 1) 105 4 (.slice ta s.cases.length tc) s.cases.length (s.cases.flatMap Cas.cs))
    (t4 : (Value.slice ta s.cases.length tc).ownBlock = none ∨ (Value.slice ta s.cases.length tc).ownBlock = some (wr.heap.size + 1 + 1))
    (g5 : ((w4.setCell ⟨wr.heap.size + 1, 0, none⟩ (.slice ta s.cases.length tc)).alloc (.cells #[.slice ta s.cases.length tc, .int .i64 s.els] 80)).grownBy w5 (Value.slice sa j sc).ownBlock)
    (o5 : w5.ownsRow (g + 1) 80 2 (.slice sa' (j + 1) sc') (j + 1) (ts.flatMap Sel.cs ++ [.slice ta s.cases.length tc, .int .i64 s.els]))
    (t5 : (Value.slice sa' (j + 1) sc').ownBlock = (Value.slice sa j sc).ownBlock ∨ (Value.slice sa' (j + 1) sc').ownBlock = some (w4.heap.size + 1)) :
    InR w x b h g P va vc ha hc k fa fc Qs f ca cc (j + 1) (w5.setCell ⟨g, 3, none⟩ (.slice sa' (j + 1) sc')) sa' sc' (ts ++ [⟨ta, tc, s.cases, s.els⟩]) := by
  obtain ⟨b1, b2, b3⟩ := I.big
  have s4 := g4.size
  simp at s4
  have s5 := g5.size
  simp [World.setCell] at s5
  have gA := World.grownBy_alloc wr (.cells s.cs.toArray 80) none
  have gB := World.grownBy_alloc (wr.alloc (.cells s.cs.toArray 80)) (.cells #[.slice none 0 0, .int .i64 s.els] 80) none
  have gC := grown_set w4 (wr.heap.size + 1) 0 (.slice ta s.cases.length tc)
  have gD := World.grownBy_alloc (w4.setCell ⟨wr.heap.size + 1, 0, none⟩ (.slice ta s.cases.length tc)) (.cells #[.slice ta s.cases.length tc, .int .i64 s.els] 80) none
  have gE := grown_set w5 g 3 (.slice sa' (j + 1) sc')
  have nS := fun m (hm : wr.heap.size ≤ m) => own_ne I.rowS hm
  have nF := fun m (hm : wr.heap.size ≤ m) => own_ne I.rowF hm
  have nS' := fun m (hm : m < g + 1) => own_ne' I.rowS hm
  have hE0 := I.env.acc.size
  have E1 := ((((I.env.skip (.cells s.cs.toArray 80)).skip (.cells #[.slice none 0 0, .int .i64 s.els] 80)).grown g4 (fun k hk => by cases hk)).grown gC (fun k hk => by
    cases hk
    exact ⟨by omega, fun p hp => by have := (I.env.blk p hp).lt; omega⟩)).skip (.cells #[.slice ta s.cases.length tc, .int .i64 s.els] 80)
  have E2 := (E1.grown g5 (fun k hk => ⟨by have := (I.rowS.lt k hk).1; omega, fun p hp => by
      simp only [List.mem_cons, List.not_mem_nil, or_false] at hp
      have := (I.rowS.lt k hk).1
      rcases hp with rfl | rfl | rfl | rfl | rfl <;> (simp only; omega)⟩)).set (by omega) (by intro p hp; simp only [List.mem_cons, List.not_mem_nil, or_false] at hp; rcases hp with rfl | rfl | rfl | rfl <;> (simp only; omega)) 3 (by simp) (.slice sa' (j + 1) sc')
  have mem : ∀ y ∈ [some x, some b, (Value.slice fa k fc).ownBlock, some g, (Value.slice sa j sc).ownBlock, some (wr.heap.size + 1), some (w4.heap.size + 1)], y ∈ [some x, some b, (Value.slice fa k fc).ownBlock, some g, (Value.slice sa j sc).ownBlock] ∨ y = none ∨ ∃ k, y = some k ∧ wr.heap.size ≤ k := fun y hy => by
    simp only [List.mem_cons, List.not_mem_nil, or_false] at hy ⊢
    rcases hy with rfl | rfl | rfl | rfl | rfl | rfl | rfl
    · exact .inl (.inl rfl)
    · exact .inl (.inr (.inl rfl))
    · exact .inl (.inr (.inr (.inl rfl)))
    · exact .inl (.inr (.inr (.inr (.inl rfl))))
    · exact .inl (.inr (.inr (.inr (.inr rfl))))
    · exact .inr (.inr ⟨_, rfl, by omega⟩)
    · exact .inr (.inr ⟨_, rfl, by omega⟩)
  have mem' : ∀ W, ∀ y ∈ [some x, some b, (Value.slice fa k fc).ownBlock, some g, (Value.slice sa' (j + 1) sc').ownBlock], y ∈ [some x, some b, (Value.slice fa k fc).ownBlock, some g, (Value.slice sa j sc).ownBlock, some (wr.heap.size + 1), some (w4.heap.size + 1)] ∨ y = none ∨ ∃ k, y = some k ∧ (World.heap W).size ≤ k := fun W y hy => by
    simp only [List.mem_cons, List.not_mem_nil, or_false] at hy ⊢
    rcases hy with rfl | rfl | rfl | rfl | rfl
    · exact .inl (.inl rfl)
    · exact .inl (.inr (.inl rfl))
    · exact .inl (.inr (.inr (.inl rfl)))
    · exact .inl (.inr (.inr (.inr (.inl rfl))))
    · rcases t5 with t5 | t5
      · exact .inl (.inr (.inr (.inr (.inr (.inl t5)))))
      · exact .inl (.inr (.inr (.inr (.inr (.inr (.inr t5))))))
  have O1 := ((((((((I.own.other mem).grown gA (.inl rfl)).grown gB (.inl rfl)).grown g4 (.inl rfl)).grown gC (.inr (by simp))).grown gD (.inl rfl)).grown g5 (.inr (by simp))).grown gE (.inr (by simp))).other (mem' _)
  have O2 : Own [some x, some b, (Value.slice fa k fc).ownBlock, some g, (Value.slice sa j sc).ownBlock, some (wr.heap.size + 1), some (w4.heap.size + 1)] w4 ta (s.cases.flatMap Cas.cs) := Own.fresh o4 (by decide) t4 (fun y hy => by
    simp only [List.mem_cons, List.not_mem_nil, or_false] at hy
    rcases hy with rfl | rfl | rfl | rfl | rfl | rfl | rfl
    · simp; omega
    · simp; omega
    · exact nF _ (by omega)
    · simp; omega
    · exact nS _ (by omega)
    · simp
    · simp; omega)
  have O3 := ((((O2.grown gC (.inr (by simp))).grown gD (.inl rfl)).grown g5 (.inr (by simp))).grown gE (.inr (by simp))).other (mem' _)
  have F1 := (kept_set (kept_none ((I.rowF.alloc _).alloc _) g4) (wr.heap.size + 1) 0 (.slice ta s.cases.length tc) (nF _ (by omega))).alloc (.cells #[.slice ta s.cases.length tc, .int .i64 s.els] 80)
  have hts : (ts ++ [(⟨ta, tc, s.cases, s.els⟩ : Sel)]).flatMap Sel.cs = ts.flatMap Sel.cs ++ [.slice ta s.cases.length tc, .int .i64 s.els] := by rw [List.flatMap_append]; rfl
  refine ⟨E2, kept_set (F1.kept g5 I.apart) _ _ _ I.gfree, ?_, ?_, I.gfree, ?_, ⟨b1, b2, by simp [World.setCell]; omega⟩, I.likeQ, ?_⟩
  · rw [hts]; exact kept_set o5 _ _ _ (own_ne' o5 (by omega))
  · refine (O1.cons O3).mem fun p hp => ?_
    simp only [List.map_append, List.mem_cons, List.mem_append, List.map_cons, List.map_nil, List.not_mem_nil, or_false] at hp ⊢
    rcases hp with h | h | h | h | h | h
    · exact .inr (.inl h)
    · exact .inr (.inr (.inl h))
    · exact .inr (.inr (.inr (.inl h)))
    · exact .inr (.inr (.inr (.inr (.inl h))))
    · exact .inr (.inr (.inr (.inr (.inr h))))
    · exact .inl h
  · rcases t5 with t5 | t5
    · rw [t5]; exact I.apart
    · exact .inr (fun e => nF _ (by omega) (e.trans t5))
  · rw [hT, List.map_append, List.map_append, I.likeT]; rfl
theorem InR.out (I : InR w x b h g P va vc ha hc k fa fc Qs f ca cc f.sels.length wr sa sc ts) (hw : w.heap.size < x) (hx : x < b) (hT : P.funcs.take (k + 1) = P.funcs.take k ++ [f])
    (g6 : (wr.alloc (.cells #[.int .i64 f.params, .int .i64 f.regs, .slice ca f.code.length cc, .slice sa f.sels.length sc] 77)).grownBy w6 (Value.slice fa k fc).ownBlock)
    (o6 : w6.ownsRow (b + 1) 77 4 (.slice fa' (k + 1) fc') (k + 1) (Qs.flatMap Fn.cs ++ [.int .i64 f.params, .int .i64 f.regs, .slice ca f.code.length cc, .slice sa f.sels.length sc]))
    (t6 : (Value.slice fa' (k + 1) fc').ownBlock = (Value.slice fa k fc).ownBlock ∨ (Value.slice fa' (k + 1) fc').ownBlock = some (wr.heap.size + 1)) :
    OutR w x b P va vc ha hc (k + 1) (w6.setCell ⟨b, 3, none⟩ (.slice fa' (k + 1) fc')) fa' fc' (Qs ++ [⟨f.params, f.regs, ca, cc, f.code, sa, sc, ts⟩]) := by
  obtain ⟨b1, b2, b3⟩ := I.big
  have s6 := g6.size
  simp at s6
  have hE0 := I.env.acc.size
  have gA := World.grownBy_alloc wr (.cells #[.int .i64 f.params, .int .i64 f.regs, .slice ca f.code.length cc, .slice sa f.sels.length sc] 77) none
  have gE := grown_set w6 b 3 (.slice fa' (k + 1) fc')
  have htl : ts.length = f.sels.length := by have := congrArg List.length I.likeT; simpa using this
  have E := ((I.env.tl.tl.skip (.cells #[.int .i64 f.params, .int .i64 f.regs, .slice ca f.code.length cc, .slice sa f.sels.length sc] 77)).grown g6 (fun k hk => ⟨by have := (I.rowF.lt k hk).1; omega, fun p hp => by
      simp only [List.mem_cons, List.not_mem_nil, or_false] at hp
      have := (I.rowF.lt k hk).1
      rcases hp with rfl | rfl | rfl <;> (simp only; omega)⟩)).set (by omega) (by intro p hp; simp only [List.mem_cons, List.not_mem_nil, or_false] at hp; rcases hp with rfl | rfl <;> (simp only; omega)) 3 (by simp) (.slice fa' (k + 1) fc')
  have mem : ∀ y ∈ [some x, some b, (Value.slice fa k fc).ownBlock, some (wr.heap.size + 1)], y ∈ [some x, some b, (Value.slice fa k fc).ownBlock, some g, (Value.slice sa f.sels.length sc).ownBlock] ∨ y = none ∨ ∃ k, y = some k ∧ wr.heap.size ≤ k := fun y hy => by
    simp only [List.mem_cons, List.not_mem_nil, or_false] at hy ⊢
    rcases hy with rfl | rfl | rfl | rfl
    · exact .inl (.inl rfl)
    · exact .inl (.inr (.inl rfl))
    · exact .inl (.inr (.inr (.inl rfl)))
    · exact .inr (.inr ⟨_, rfl, by omega⟩)
  have mem' : ∀ W, ∀ y ∈ [some x, some b, (Value.slice fa' (k + 1) fc').ownBlock], y ∈ [some x, some b, (Value.slice fa k fc).ownBlock, some (wr.heap.size + 1)] ∨ y = none ∨ ∃ k, y = some k ∧ (World.heap W).size ≤ k := fun W y hy => by
    simp only [List.mem_cons, List.not_mem_nil, or_false] at hy ⊢
    rcases hy with rfl | rfl | rfl
    · exact .inl (.inl rfl)
    · exact .inl (.inr (.inl rfl))
    · rcases t6 with t6 | t6
      · exact .inl (.inr (.inr (.inl t6)))
      · exact .inl (.inr (.inr (.inr t6)))
  have OS : Own [some x, some b, (Value.slice fa k fc).ownBlock, some (wr.heap.size + 1)] wr sa (ts.flatMap Sel.cs) := Own.row I.rowS (by decide) (fun y hy => by
    simp only [List.mem_cons, List.not_mem_nil, or_false] at hy
    rcases hy with rfl | rfl | rfl | rfl
    · exact .inr (.inl ⟨_, rfl, by omega⟩)
    · exact .inr (.inl ⟨_, rfl, by omega⟩)
    · rcases I.apart with h | h
      · exact .inl h
      · exact .inr (.inr h)
    · exact .inr (.inr (fun e => own_ne I.rowS (by omega) e.symm)))
  have O1 := (((((I.own.other mem).cons OS).grown gA (.inl rfl)).grown g6 (.inr (by simp))).grown gE (.inr (by simp))).other (mem' _)
  have hq : (Qs ++ [(⟨f.params, f.regs, ca, cc, f.code, sa, sc, ts⟩ : Fn)]).flatMap Fn.cs = Qs.flatMap Fn.cs ++ [.int .i64 f.params, .int .i64 f.regs, .slice ca f.code.length cc, .slice sa f.sels.length sc] := by rw [List.flatMap_append, ← htl]; rfl
  refine ⟨E, ?_, ?_, by simp [World.setCell]; omega, ?_⟩
  · rw [hq]; exact kept_set o6 _ _ _ (own_ne' o6 (by omega))
  · refine O1.mem fun p hp => ?_
    simp only [List.flatMap_append, List.flatMap_cons, List.flatMap_nil, Fn.parts, List.mem_cons, List.mem_append, List.append_nil, List.not_mem_nil, or_false] at hp ⊢
    rcases hp with h | h | h | h | h | h
    · exact .inr (.inl h)
    · exact .inr (.inr (.inl h))
    · exact .inr (.inr (.inr (.inl h)))
    · exact .inr (.inr (.inr (.inr (.inl h))))
    · exact .inl h
    · exact .inr (.inr (.inr (.inr (.inr h))))
  · rw [hT, List.map_append, List.map_append, I.likeQ]
    have : ts.map Sel.bare = f.sels.map Sel.bare := by rw [I.likeT, List.take_length]
    simp only [List.map_cons, List.map_nil, Fn.bare, this]
theorem map_at {α β : Type} {q : α → β} {l m : List α} (h : l.map q = m.map q) {a : α} (ha : a ∈ l) : ∃ c ∈ m, q a = q c := by
  have : q a ∈ m.map q := h ▸ List.mem_map.2 ⟨a, ha, rfl⟩
  obtain ⟨c, h1, h2⟩ := List.mem_map.1 this
  exact ⟨c, h1, h2.symm⟩
theorem OutR.done (R : OutR w x b P va vc ha hc P.funcs.length wr fa fc Qs) (hw : w.heap.size < x) (hx : x < b) (I : P.In w) (g : wr.grownBy w6 (some x)) :
    Pg.bare ⟨va, vc, P.vars, P.locks, ha, hc, P.chans, fa, fc, Qs⟩ = P.bare ∧ Pg.In w6 ⟨va, vc, P.vars, P.locks, ha, hc, P.chans, fa, fc, Qs⟩ ∧ Below w.heap.size w w6 ∧ Qs.length = P.funcs.length := by
  have hl : Qs.map Fn.bare = P.funcs.map Fn.bare := by rw [R.like, List.take_length]
  have hn : Qs.length = P.funcs.length := by have := congrArg List.length hl; simpa using this
  have O := R.own.grown g (.inr (by simp))
  have hrow := R.row.kept g (.inr (own_ne' R.row (by omega)))
  have acc : Below w.heap.size w w6 := R.env.acc.grown g R.env.acc.size (fun k hk => by cases hk; omega)
  obtain ⟨a', c', e', l1, _⟩ := ownsRow_form hrow (by decide)
  cases e'
  refine ⟨by unfold Pg.bare; simp only [hl], ⟨(O _ (List.mem_cons_self ..)).lies, (O _ (List.mem_cons_of_mem _ (List.mem_cons_self ..))).lies, l1, fun q hq => ?_, I.inits, I.chans, I.locks, I.lenV, I.lenH, by unfold Len; simp only [hn]; exact I.lenF⟩, acc, hn⟩
  obtain ⟨f, hf, e⟩ := map_at hl hq
  have hI := I.funcs f hf
  have P1 := O (q.ca, q.code.flatMap Ins.cs) (List.mem_cons_of_mem _ (List.mem_cons_of_mem _ (List.mem_flatMap.2 ⟨q, hq, List.mem_cons_self ..⟩)))
  have P2 := O (q.sa, q.sels.flatMap Sel.cs) (List.mem_cons_of_mem _ (List.mem_cons_of_mem _ (List.mem_flatMap.2 ⟨q, hq, List.mem_cons_of_mem _ (List.mem_cons_self ..)⟩)))
  unfold Fn.bare at e
  simp only [Fn.mk.injEq, true_and] at e
  obtain ⟨e1, e2, e3, e4⟩ := e
  have hsl : q.sels.length = f.sels.length := by have := congrArg List.length e4; simpa using this
  refine ⟨P1.lies, P2.lies, fun s hs => ?_, by rw [e3]; exact hI.oks, by rw [e1]; exact hI.par, by rw [e2]; exact hI.reg, by rw [e3]; exact hI.lenC, by rw [hsl]; exact hI.lenS⟩
  obtain ⟨s', hs', e'⟩ := map_at e4 hs
  have hS := hI.sels s' hs'
  have P3 := O s.part (List.mem_cons_of_mem _ (List.mem_cons_of_mem _ (List.mem_flatMap.2 ⟨q, hq, List.mem_cons_of_mem _ (List.mem_cons_of_mem _ (List.mem_map.2 ⟨s, hs, rfl⟩))⟩)))
  unfold Sel.bare at e'
  simp only [Sel.mk.injEq, true_and] at e'
  exact ⟨P3.lies, by rw [e'.1]; exact hS.oks, by rw [e'.2]; exact hS.els, by rw [e'.1]; exact hS.len⟩
end
end Go.Proofs.YtbcdeanmjhcgeaaDoor.Pg
