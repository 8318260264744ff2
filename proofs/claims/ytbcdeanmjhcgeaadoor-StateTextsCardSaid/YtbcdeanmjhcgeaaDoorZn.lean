/- Lists copied by append: what is owned, what lies apart, over worlds that grow. No condition. -/
import Derived.Test.YtbcdeanmjhcgeaaDoorZa
import Derived.Laws.AppendOwnNone
import Derived.Laws.AppendOwn
import Derived.OwnWalk
import Derived.Maps.AppendAt
namespace Go.Proofs.YtbcdeanmjhcgeaaDoor.Pg
set_option linter.unusedVariables false
set_option linter.unusedSimpArgs false
open Go.ChangeShapes Go.WideShapes Go.RowKit
section
variable {P : Program} {w w1 W W' : World} {base : Nat} {e : TypeId} {size : Nat}
theorem run_append_none (t ty : TypeId) (i : TypeInfo) (ht : P.underlying t = some (.slice e)) (hi : P.info? e = some i) (v : Value) (n c : Nat) (xs : List Value) (hown : w.ownsRow base e size v n xs) :
    (Builtin.append_ #[t, t] ty #[v, .slice none 0 c]).run P w = .ok v w := by
  rcases hown.2 with ⟨rfl, rfl⟩ | ⟨g, cap, cur, rfl, _, _, hnc, _⟩
  · simp [Builtin.append_, run_underlying ht, sizeOf, typeInfo, hi, Builtin.lenOf, Builtin.firstCells]
  · simp [Builtin.append_, run_underlying ht, sizeOf, typeInfo, hi, Builtin.lenOf, Builtin.firstCells, hnc, storeCells]
theorem grown_self (w : World) (r : Option Nat) : w.grownBy w r := ⟨rfl, rfl, rfl, Nat.le_refl _, fun _ _ _ => rfl⟩
/-- A list's cells, wherever they lie, appended to what the call owns. -/
theorem wpList_append_lst {ops : Array Oper} {rest : List Oper} {o : Oper} {a : Act} {Q : Exit → Act → World → Prop} (hgd : o.guard = none) (s x : Operand) (t : TypeId)
    (ho : o.op = .call { callee := .builtin .append, args := #[s, x], argTypes := #[t, t] })
    (base : Nat) (e : TypeId) (z : Value) (size bytes : Nat) (ht : P.underlying t = some (.slice e)) (hi : (P.info? e).map (fun i => (i.zero, i.size, i.bytes)) = some (some z, size, bytes)) (hzs : z.cells.size = size) (hsz : 0 < size)
    (v : Value) (n : Nat) (xs : List Value) (hs : a.eval s = v) (hown : w.ownsRow base e size v n xs)
    (ao : Option Addr) (m c : Nat) (news : List Value) (hx : a.eval x = .slice ao m c) (hl : news.length = m * size) (hli : Lies w ao news) (h1 : ∀ u ∈ news, u.oneCell' = true)
    (hbytes : (n + m) * bytes ≤ 140737488351232) (hb1 : 1 ≤ bytes) (hbase : base ≤ w.heap.size)
    (h : ∀ v' w', w'.ownsRow base e size v' (n + m) (xs ++ news) → w.grownBy w' v.ownBlock → (v'.ownBlock = v.ownBlock ∨ v'.ownBlock = some w.heap.size) → wpList P ops Q rest (a.put o.dst v') w') : wpList P ops Q (o :: rest) a w := by
  obtain ⟨i, hi, hz, hsize, hby⟩ := info_parts hi
  have h63 : n + m ≤ maxLen := by have := Nat.mul_le_mul_left (n + m) hb1; unfold maxLen; omega
  cases ao with
  | some ad =>
    refine wpList_append_own_at _ hgd s x t ho base e i z size bytes ht hi hz hsize hby hzs hsz v n xs hs hown ad m c news hx hl (fun j u hj => ?_) h1 h63 (by omega) hbase (fun v' w' q1 q2 _ q4 => h v' w' q1 q2 q4)
    rcases hli with rfl | ⟨b, off, e, _, hr⟩
    · simp at hj
    · cases e
      rw [Addr.add_lit]; exact hr j u hj
  | none =>
    obtain rfl : news = [] := by rcases hli with h | ⟨_, _, e, _⟩; exact h; cases e
    obtain rfl : m = 0 := by rcases Nat.mul_eq_zero.1 (show m * size = 0 by simpa using hl.symm) with h | h; exact h; omega
    refine wpList_plain hgd fun K hK => ?_
    have hrun := run_append_none (P := P) (w := w) t o.type i ht hi v n c xs hown
    unfold Oper.wp
    simp [execOp, ho, resolve, invoke, builtin, hs, hx, hrun, Result.andThen]
    exact hK _ _ (h v w (by simpa using hown) (grown_self _ _) (.inl rfl))
theorem ownsRow_form {v : Value} {n : Nat} {xs : List Value} (h : w.ownsRow base e size v n xs) (hl : 0 < size) : ∃ a c, v = .slice a n c ∧ Lies w a xs ∧ ∀ x, a = some x → base ≤ x.block ∧ x.block < w.heap.size := by
  have hlt := h.lt
  rcases h.2 with ⟨rfl, rfl⟩ | ⟨g, cap, cur, rfl, hbg, hg, _⟩
  · exact ⟨none, 0, rfl, .inl (List.eq_nil_of_length_eq_zero (by simpa using h.1)), fun x hx => by cases hx⟩
  · have hgl := (hlt g rfl).2
    exact ⟨some ⟨g, 0, none⟩, cap, rfl, .inr ⟨g, 0, rfl, hgl, fun j u hj => by have := h.cells (g := g) rfl j u hj; rwa [Addr.add_lit] at this⟩, fun x hx => by cases hx; exact ⟨hbg, hgl⟩⟩
/-- Cells that lie apart from what may be written. -/
structure Own (X : List (Option Nat)) (W : World) (a : Option Addr) (cs : List Value) : Prop where
  lies : Lies W a cs
  at' : ∀ x, a = some x → x.block < W.heap.size ∧ some x.block ∉ X
theorem Own.grown {X : List (Option Nat)} {a : Option Addr} {cs : List Value} {r : Option Nat} (h : Own X W a cs) (g : W.grownBy W' r) (hr : r = none ∨ r ∈ X) : Own X W' a cs := by
  refine ⟨?_, fun x hx => ⟨Nat.lt_of_lt_of_le (h.at' x hx).1 g.size, (h.at' x hx).2⟩⟩
  rcases h.lies with e | ⟨b, o, e, hl, hc⟩
  · exact .inl e
  · refine .inr ⟨b, o, e, Nat.lt_of_lt_of_le hl g.size, fun j v hv => g.cell (hc j v hv) ?_⟩
    intro e'
    rcases hr with rfl | hr
    · cases e'
    · exact (h.at' _ e).2 (by simp only at e'; rw [e']; exact hr)
theorem Own.other {X Y : List (Option Nat)} {a : Option Addr} {cs : List Value} (h : Own X W a cs) (hy : ∀ y ∈ Y, y ∈ X ∨ y = none ∨ ∃ k, y = some k ∧ W.heap.size ≤ k) : Own Y W a cs :=
  ⟨h.lies, fun x hx => ⟨(h.at' x hx).1, fun hm => by
    have h1 := h.at' x hx
    rcases hy _ hm with h | h | ⟨k, h, hk⟩
    · exact h1.2 h
    · cases h
    · cases h; omega⟩⟩
theorem Own.of_row {X : List (Option Nat)} {n : Nat} {a : Option Addr} {c : Nat} {xs : List Value} (h : W.ownsRow base e size (.slice a n c) n xs) (hs : 0 < size) (hx : a = none ∨ (Value.slice a n c).ownBlock ∉ X) : Own X W a xs := by
  obtain ⟨a', c', e', h1, h2⟩ := ownsRow_form h hs
  cases e'
  refine ⟨h1, fun x e' => ⟨(h2 x e').2, fun hm => ?_⟩⟩
  subst e'
  rcases hx with h | h
  · cases h
  · exact h hm
theorem Own.row {X : List (Option Nat)} {n : Nat} {a : Option Addr} {c : Nat} {xs : List Value} (h : W.ownsRow base e size (.slice a n c) n xs) (hs : 0 < size) (hx : ∀ y ∈ X, y = none ∨ (∃ k, y = some k ∧ k < base) ∨ y ≠ (Value.slice a n c).ownBlock) : Own X W a xs := by
  refine Own.of_row h hs ?_
  cases a with
  | none => exact .inl rfl
  | some x =>
    refine .inr fun hm => ?_
    have hb := (h.lt x.block rfl).1
    rcases hx _ hm with h1 | ⟨k, h1, h2⟩ | h1
    · cases h1
    · have : x.block = k := Option.some.inj h1
      omega
    · exact h1 rfl
/-- Lists that lie apart. -/
def Owns (X : List (Option Nat)) (W : World) (l : List (Option Addr × List Value)) : Prop := ∀ p ∈ l, Own X W p.1 p.2
theorem Owns.grown {X : List (Option Nat)} {l : List (Option Addr × List Value)} {r : Option Nat} (h : Owns X W l) (g : W.grownBy W' r) (hr : r = none ∨ r ∈ X) : Owns X W' l := fun p hp => (h p hp).grown g hr
theorem Owns.other {X Y : List (Option Nat)} {l : List (Option Addr × List Value)} (h : Owns X W l) (hy : ∀ y ∈ Y, y ∈ X ∨ y = none ∨ ∃ k, y = some k ∧ W.heap.size ≤ k) : Owns Y W l := fun p hp => (h p hp).other hy
theorem Owns.nil (X : List (Option Nat)) (W : World) : Owns X W [] := fun _ h => by cases h
theorem Owns.cons {X : List (Option Nat)} {l : List (Option Addr × List Value)} {a : Option Addr} {cs : List Value} (h : Owns X W l) (h1 : Own X W a cs) : Owns X W ((a, cs) :: l) := fun p hp => by
  rcases List.mem_cons.1 hp with rfl | hp
  · exact h1
  · exact h p hp
theorem Env.grown {bs : List (Nat × Array Value)} {r : Option Nat} (E : Env w bs W) (g : W.grownBy W' r) (hr : ∀ k, r = some k → w.heap.size ≤ k ∧ ∀ p ∈ bs, p.1 ≠ k) : Env w bs W' := by
  refine ⟨E.acc.grown g E.acc.size (fun k hk => (hr k hk).1), fun p hp => ?_⟩
  have hb := E.blk p hp
  have hne : some p.1 ≠ r := fun e => (hr p.1 e.symm).2 p hp rfl
  have hk := g.block p.1 hb.lt hne
  exact ⟨Nat.lt_of_lt_of_le hb.lt g.size, fun o => (World.cell?_of_block (a := ⟨p.1, o, none⟩) hk).trans (hb.cell o), fun o => (World.frozen?_of_block (a := ⟨p.1, o, none⟩) hk).trans (hb.fr o)⟩
theorem grown_set (W : World) (b o : Nat) (v : Value) : W.grownBy (W.setCell ⟨b, o, none⟩ v) (some b) :=
  ⟨rfl, rfl, rfl, by simp [World.setCell], fun k _ hk => Below.heap_setCell _ _ _ _ (fun e => hk (by simp only at e; rw [e]))⟩
theorem grown_drew (W : World) (r : Option Nat) : W.grownBy W.drew r := ⟨rfl, rfl, rfl, Nat.le_refl _, fun _ _ _ => rfl⟩
theorem grown_below {B : Nat} (h : Below B W W') (hB : W.heap.size ≤ B) (r : Option Nat) : W.grownBy W' r := ⟨h.os, h.tape, h.output, h.size, fun k hk _ => h.block k (by omega)⟩
end
end Go.Proofs.YtbcdeanmjhcgeaaDoor.Pg
