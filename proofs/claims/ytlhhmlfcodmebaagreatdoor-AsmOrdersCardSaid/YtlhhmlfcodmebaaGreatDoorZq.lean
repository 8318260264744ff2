/- What Parse's walk keeps of memory; what is wrong with a program, wherever its lists lie. No condition. -/
import Derived.Test.YtlhhmlfcodmebaaGreatDoorZg
import Derived.Test.YtlhhmlfcodmebaaGreatDoorZVn
import Derived.Test.YtlhhmlfcodmebaaGreatDoorZd
import Derived.Test.YtlhhmlfcodmebaaGreatDoorZn
namespace Go.Proofs.YtlhhmlfcodmebaaGreatDoor.Pg
set_option linter.unusedVariables false
set_option linter.unusedSimpArgs false
open Go.RowKit Go.WideShapes Go.ChangeShapes
set_option linter.unusedVariables false
theorem firstE_map {α β : Type} (h : α → β) (g : β → Int) : ∀ l : List α, firstE g (l.map h) = firstE (fun a => g (h a)) l
  | [] => rfl
  | a :: l => by rw [List.map_cons, firstE, firstE, firstE_map h g l]
theorem getD_bare (l : List Fn) (k : Nat) : (l.map Fn.bare).getD k default = (l.getD k default).bare := by
  rw [List.getD_eq_getElem?_getD, List.getD_eq_getElem?_getD, List.getElem?_map]
  cases l[k]? <;> rfl
theorem opd_bare (P : Pg) (f : Fn) (x : Ins) (l : Nat) (n : Int) : opd P.bare f.bare x l n = opd P f x l n := by
  unfold opd
  rw [show P.bare.funcs = P.funcs.map Fn.bare from rfl, show f.bare.sels = f.sels.map Sel.bare from rfl, List.length_map, List.length_map, getD_bare]
  rfl
theorem ins_bare (P : Pg) (f : Fn) (x : Ins) : ins P.bare f.bare x = ins P f x := by
  unfold ins
  simp only [opd_bare]
theorem cas_bare (P : Pg) (f : Fn) (c : Cas) : cas P.bare f.bare c = cas P f c := rfl
theorem sel_bare (P : Pg) (f : Fn) (s : Sel) : sel P.bare f.bare s.bare = sel P f s := rfl
theorem szs_bare (f : Fn) (m : Bool) : szs f.bare m = szs f m := by
  unfold szs
  simp only [Fn.bare, List.length_map, List.all_map]
  rfl
theorem fnc_bare (P : Pg) (f : Fn) (m : Bool) : fnc P.bare f.bare m = fnc P f m := by
  unfold fnc
  have e1 : firstE (sel P.bare f.bare) f.bare.sels = firstE (sel P f) f.sels := by
    show firstE (sel P.bare f.bare) (f.sels.map Sel.bare) = _
    rw [firstE_map]; rfl
  have e2 : firstE (ins P.bare f.bare) f.bare.code = firstE (ins P f) f.code := by
    show firstE (ins P.bare f.bare) f.code = _
    congr 1; funext x; exact ins_bare P f x
  rw [szs_bare, e1, e2]
  rfl
theorem fncs_bare (P : Pg) : ∀ (m : Bool) (l : List Fn), fncs P.bare m (l.map Fn.bare) = fncs P m l
  | _, [] => rfl
  | m, f :: l => by rw [List.map_cons, fncs, fncs, fnc_bare, fncs_bare P false l]
theorem chk_bare (P : Pg) : chk P.bare = chk P := by
  have e : whole P.bare = whole P := by
    unfold whole
    rw [show P.bare.funcs = P.funcs.map Fn.bare from rfl, List.length_map]
    rfl
  unfold chk
  rw [e, show P.bare.funcs = P.funcs.map Fn.bare from rfl, fncs_bare]
theorem Frm.cell {n0 r : Nat} {W W' : World} (f : Frm n0 r W W') {b : Nat} (hb : b < n0) (hr : b ≠ r) (o : Nat) : W'.cell? ⟨b, o, none⟩ = W.cell? ⟨b, o, none⟩ := by
  unfold World.cell?
  simp only [f.block b hb hr]
theorem Frm.frozen {n0 r : Nat} {W W' : World} (f : Frm n0 r W W') {b : Nat} (hb : b < n0) (hr : b ≠ r) (o : Nat) : W'.frozen? ⟨b, o, none⟩ = W.frozen? ⟨b, o, none⟩ := by
  unfold World.frozen?
  simp only [f.block b hb hr]
theorem Blk.frm {n0 r b : Nat} {arr : Array Value} {W W' : World} (h : Blk b arr W) (f : Frm n0 r W W') (hb : b < n0) (hr : b ≠ r) : Blk b arr W' :=
  ⟨Nat.lt_of_lt_of_le h.lt f.size, fun o => (f.cell hb hr o).trans (h.cell o), fun o => (f.frozen hb hr o).trans (h.fr o)⟩
theorem putObj_grown (W : World) (k : Nat) (O : Obj) : W.grownBy (W.putObj k O) (some k) :=
  ⟨rfl, rfl, rfl, by simp [World.putObj], fun j _ hj => World.putObj_heap_other (fun e => hj (by rw [e]))⟩
theorem Blk.putObj {b k : Nat} {arr : Array Value} {W : World} (h : Blk b arr W) (O : Obj) (hk : b ≠ k) : Blk b arr (W.putObj k O) := h.grownBy (putObj_grown W k O) (fun e => hk (Option.some.inj e).symm)
theorem below_grown {w0 W W' : World} {k : Nat} (h : Below w0.heap.size w0 W) (g : W.grownBy W' (some k)) (hk : w0.heap.size ≤ k) : Below w0.heap.size w0 W' :=
  ⟨g.os.trans h.os, g.tape.trans h.tape, g.output.trans h.output, Nat.le_trans h.size g.size, fun b hb => (g.block b (Nat.lt_of_lt_of_le hb h.size) (fun e => by have := Option.some.inj e; omega)).trans (h.block b hb)⟩
/-- A block below the rows, other than the reader's, written. -/
theorem Rd.grown {w0 : World} {n0 r N : Nat} {p : Pg} {a : Int} {W W' : World} {k : Nat} (h : Rd w0 n0 r N p a W) (g : W.grownBy W' (some k)) (h1 : k < n0) (h2 : k ≠ r) (h3 : w0.heap.size ≤ k) : Rd w0 n0 r N p a W' :=
  ⟨h.blk.grownBy g (fun e => h2 (Option.some.inj e)), h.rows.other g h1, h.lo, Nat.le_trans h.hi g.size, h.few, below_grown h.acc g h3, h.base, h.lies⟩
theorem own_lies {n0 : Nat} {t : TypeId} {sz n : Nat} {v : Value} {xs : List Value} {W : World} (h : W.ownsRow n0 t sz v n xs) (a : Option Addr) (m cap : Nat) (hv : v = .slice a m cap) (h0 : n = 0 → xs = []) : Lies W a xs := by
  have hl := World.ownsRow.lt h
  have hc := fun g (hg : v.ownBlock = some g) => World.ownsRow.cells h (g := g) hg
  have h2 := h.2
  rcases h2 with ⟨hv', hn⟩ | ⟨g, cap', cur, hv', _⟩
  · exact .inl (h0 hn)
  · rw [hv'] at hv
    cases hv
    subst hv'
    refine .inr ⟨g, 0, rfl, (hl g rfl).2, fun j v hj => ?_⟩
    have := hc g rfl j v hj
    rwa [Addr.add_lit] at this
theorem flat_nil {α β : Type} (f : α → List β) {l : List α} (h : l.length = 0) : l.flatMap f = [] := by
  rw [List.eq_nil_of_length_eq_zero h]; rfl
theorem Rd.in {w0 : World} {n0 r N : Nat} {p : Pg} {a : Int} {W : World} (h : Rd w0 n0 r N p a W) (hN : N ≤ 1000000) : p.In W := by
  have ho := h.rows.own
  have few := h.few
  have row : ∀ f ∈ p.funcs, ∀ r ∈ f.rows, r ∈ p.rows := fun f hf r hr => by
    unfold Pg.rows
    refine List.mem_cons_of_mem _ (List.mem_cons_of_mem _ (List.mem_cons_of_mem _ (List.mem_flatMap.2 ⟨f, hf, hr⟩)))
  refine ⟨own_lies (ho p.varRow (List.mem_cons_self ..)) _ _ _ rfl (fun e => flat_nil _ e), own_lies (ho p.chanRow (by unfold Pg.rows; simp)) _ _ _ rfl (fun e => ?_), own_lies (ho p.funcRow (by unfold Pg.rows; simp)) _ _ _ rfl (fun e => flat_nil _ e), fun f hf => ?_, few.inits, few.chans, ?_, ?_, ?_, ?_⟩
  · have e' : p.chans.length = 0 := e
    show p.chans.map _ = []
    rw [List.eq_nil_of_length_eq_zero e']; rfl
  · have q := few.funcs f hf
    refine ⟨own_lies (ho f.codeRow (row f hf _ (List.mem_cons_self ..))) _ _ _ rfl (fun e => flat_nil _ e), own_lies (ho f.selRow (row f hf _ (by unfold Fn.rows; simp))) _ _ _ rfl (fun e => flat_nil _ e), fun s hs => ?_, q.oks, q.par, q.reg, ?_, ?_⟩
    · obtain ⟨q1, q2, q3⟩ := q.sels s hs
      refine ⟨own_lies (ho s.row (row f hf _ ?_)) _ _ _ rfl (fun e => flat_nil _ e), q1, q2, ?_⟩
      · exact List.mem_cons_of_mem _ (List.mem_cons_of_mem _ (List.mem_map.2 ⟨s, hs, rfl⟩))
      · unfold Len; omega
    · have := q.lenC; unfold Len; omega
    · have := q.lenS; unfold Len; omega
  · have := few.locks; unfold I64; omega
  · have := few.lenV; unfold Len; omega
  · have := few.lenH; unfold Len; omega
  · have := few.lenF; unfold Len; omega
theorem Rd.start {w0 : World} {n0 r : Nat} {W : World} (hL : Wd.Lies w0) (hB : Below w0.heap.size w0 W) (hb : Blk r #[.slice none 0 0, .int .i64 0, .slice none 0 0, .slice none 0 0, .int .i64 0] W) (h1 : r < n0) (h2 : n0 ≤ W.heap.size) (h3 : w0.heap.size ≤ r) : Rd w0 n0 r 0 Pg.no 0 W := by
  refine ⟨hb, ⟨fun x hx => ?_, ?_⟩, h1, h2, ⟨fun x h => (by cases h), fun x h => (by cases h), ⟨Int.le_refl _, Int.le_refl _⟩, Nat.le_refl _, Nat.le_refl _, Nat.le_refl _, fun x h => (by cases h)⟩, hB, h3, hL⟩
  · have : x = Pg.no.varRow ∨ x = Pg.no.chanRow ∨ x = Pg.no.funcRow := by
      simpa [Pg.rows, Pg.no] using hx
    rcases this with rfl | rfl | rfl <;> exact World.ownsRow_nil _ _ _ _
  · show List.Nodup []
    exact List.nodup_nil
theorem Inv.no : Inv Pg.no 0 := ⟨fun h => by omega, by omega⟩
end Go.Proofs.YtlhhmlfcodmebaaGreatDoor.Pg
