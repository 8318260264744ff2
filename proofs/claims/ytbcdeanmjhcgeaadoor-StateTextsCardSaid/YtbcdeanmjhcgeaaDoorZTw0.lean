/- What stands while a state's text is written: the state's block, a builder, a channel's or a goroutine's block. Pieces of a state loaded. The condition: what FormatInt gives. -/
import Derived.Test.YtbcdeanmjhcgeaaDoorZa
import Derived.Test.YtbcdeanmjhcgeaaDoorZBp
namespace Go.Proofs.YtbcdeanmjhcgeaaDoor.Tx
set_option linter.unusedVariables false
set_option linter.unusedSimpArgs false
open Go.RowKit Go.Lib Go.WideShapes Go.ChangeShapes
open Go.Proofs.YtbcdeanmjhcgeaaDoor.Pg
set_option linter.unusedVariables false
theorem alloc_at (W : World) (O : Obj) : (W.alloc O).heap[W.heap.size]? = some O := by
  show (W.heap.push O)[W.heap.size]? = _
  simp
structure At (w : World) (b : Nat) (bs : List (Nat × Array Value × TypeId)) (l : List Int) (W : World) : Prop where
  acc : Below w.heap.size w W
  blk : ∀ p ∈ bs, W.heap[p.1]? = some (.cells p.2.1 p.2.2 (0, 0)) ∧ p.1 ≠ b ∧ p.2.2 ≠ 5
  hold : Holds b b l W
  ok : ∀ x ∈ l, I64 x
section
variable {w W W' : World} {b : Nat} {bs : List (Nat × Array Value × TypeId)} {l : List Int}
theorem At.first (ga : Array Value) : At w (w.heap.size + 1) [(w.heap.size, ga, 32)] [] ((w.alloc (.cells ga 32)).alloc (.cells #[.pointer none, .slice none 0 0] 62)) := by
  refine ⟨((Below.refl _ _).alloc (Nat.le_refl _) _).alloc (by simp) _, fun p hp => ?_, ?_, fun x hx => by cases hx⟩
  · simp only [List.mem_cons, List.not_mem_nil, or_false] at hp
    subst hp
    refine ⟨?_, by simp, by simp⟩
    rw [Lib.alloc_old _ _ _ (by simp)]
    exact alloc_at _ _
  · refine .inl ⟨Nat.le_refl _, .slice none 0 0, ?_, ?_, by simp [Value.ownBlock]⟩
    · have := alloc_at (w.alloc (.cells ga 32)) (.cells #[.pointer none, .slice none 0 0] 62)
      rwa [show (w.alloc (.cells ga 32)).heap.size = w.heap.size + 1 by simp] at this
    · exact ⟨rfl, .inl ⟨rfl, rfl⟩⟩
theorem At.push (A : At w b bs l W) (n : Nat) (hn : n = W.heap.size) (arr : Array Value) (T : TypeId) (hT : T ≠ 5) : At w b ((n, arr, T) :: bs) l (W.alloc (.cells arr T)) := by
  subst hn
  have hlt : b < W.heap.size := A.hold.elim (fun h => h.lt) (fun h => h.lt)
  refine ⟨A.acc.alloc A.acc.size _, fun p hp => ?_, A.hold.alloc _, A.ok⟩
  rcases List.mem_cons.1 hp with rfl | hp
  · exact ⟨alloc_at _ _, by simp only; omega, hT⟩
  · obtain ⟨h1, h2⟩ := A.blk p hp
    exact ⟨(Lib.alloc_old _ _ _ (Array.getElem?_eq_some_iff.1 h1).1).trans h1, h2⟩
theorem At.tl {p : Nat × Array Value × TypeId} (A : At w b (p :: bs) l W) : At w b bs l W := ⟨A.acc, fun q hq => A.blk q (List.mem_cons_of_mem _ hq), A.hold, A.ok⟩
theorem At.y {n : Nat} {arr : Array Value} {T : TypeId} (A : At w b ((n, arr, T) :: bs) l W) : ∀ o, W.cell? ⟨n, o, none⟩ = arr[o]? := fun o => by
  have h := (A.blk _ (List.mem_cons_self ..)).1
  rw [Lib.cell_of_heap h]
theorem At.z {n : Nat} {arr : Array Value} {T : TypeId} (A : At w b ((n, arr, T) :: bs) l W) : ∀ o, W.frozen? ⟨n, o, none⟩ = false := fun o => Lib.frozen_of_heap (A.blk _ (List.mem_cons_self ..)).1 o
theorem At.lt {n : Nat} {arr : Array Value} {T : TypeId} (A : At w b ((n, arr, T) :: bs) l W) : n < W.heap.size := (Array.getElem?_eq_some_iff.1 (A.blk _ (List.mem_cons_self ..)).1).1
/-- A number more. -/
theorem At.put (A : At w (w.heap.size + 1) bs l W) (n : Int) (hn : I64 n) (hlen : l.length ≤ 999)
    (hI : ∀ n, I64 n → ∀ W, Below w.heap.size w W → Calls Tryd.prog 29 #[.int .i64 n, .int .i64 10] W fun e w' => e = .returned (.string ⟨(itoa n).toArray⟩) ∧ Below W.heap.size W w') :
    Calls Tryd.prog 25 #[.int .i64 n, .pointer (some ⟨w.heap.size + 1, 0, none⟩)] W fun e w' => e = .returned (.tuple #[]) ∧ At w (w.heap.size + 1) bs (l ++ [n]) w' := by
  have hlt : w.heap.size + 1 < W.heap.size := A.hold.elim (fun h => h.lt) (fun h => h.lt)
  refine (put_walk n hn (w.heap.size + 1) (w.heap.size + 1) l A.ok (by omega) W A.hold (by omega) (fun V hV => hI n hn V (A.acc.trans (hV.mono (by omega))))).mono ?_
  rintro e w' ⟨rfl, h1, h2, h3⟩
  refine ⟨rfl, A.acc.trans (h2.mono (by omega)), fun p hp => ?_, h1, fun x hx => ?_⟩
  · obtain ⟨q1, q2, q3⟩ := A.blk p hp
    exact ⟨h3 _ _ q1 (fun e => q2 (Option.some.inj e)) (fun c fz e => q3 (by injection e)), q2, q3⟩
  · rcases List.mem_append.1 hx with hx | hx
    · exact A.ok x hx
    · rw [List.mem_singleton.1 hx]; exact hn
end
theorem sizeV : (Tryd.prog.info? 22).map (·.size) = some 8 := by kernel_rfl
theorem sizeO : (Tryd.prog.info? 23).map (·.size) = some 4 := by kernel_rfl
theorem sizeB4 : (Tryd.prog.info? 24).map (·.size) = some 4 := by kernel_rfl
def iv (l : List Int) : Array Value := (l.map (Value.int .i64)).toArray
theorem iv_at {l : List Int} {k : Nat} (h : k < l.length) : (iv l)[k]? = some (.int .i64 l[k]) := by simp [iv, h]
theorem load_row {t : TypeId} {e n : Nat} (hu : Tryd.prog.underlying t = some (.array n e)) (hs : (Tryd.prog.info? t).map (·.size) = some n) {b o : Nat} {W : World} {arr : Array Value} (y : ∀ j, W.cell? ⟨b, j, none⟩ = arr[j]?) {l : List Int} (hl : l.length = n) (h : ∀ j v, (l.map (Value.int .i64))[j]? = some v → arr[o + j]? = some v) :
    (Instr.loadAt t (.pointer (some ⟨b, o, none⟩))).run Tryd.prog W = .ok (.agg (iv l)) W :=
  run_loadAt_mid W b o t (l.map (Value.int .i64)) _ (fun j v hv => (y _).trans (h j v hv)) hu rfl (by rw [hs]; simp [hl])
theorem load_vars {s : St} (h : s.ok) {b : Nat} {W : World} (y : ∀ o, W.cell? ⟨b, o, none⟩ = s.cs.toArray[o]?) : (Instr.loadAt 22 (.pointer (some ⟨b, 0, none⟩))).run Tryd.prog W = .ok (.agg (iv s.vars)) W :=
  load_row Tryd.underlying22 sizeV y h.lv fun j v hv => by
    have hj := (List.getElem?_eq_some_iff.1 hv).1
    simp only [Nat.zero_add, List.getElem?_toArray, St.cs]
    rw [List.getElem?_append_left hj]; exact hv
theorem load_owner {s : St} (h : s.ok) {b : Nat} {W : World} (y : ∀ o, W.cell? ⟨b, o, none⟩ = s.cs.toArray[o]?) : (Instr.loadAt 23 (.pointer (some ⟨b, 8, none⟩))).run Tryd.prog W = .ok (.agg (iv s.owner)) W :=
  load_row Tryd.underlying23 sizeO y h.lo fun j v hv => by
    have hj := (List.getElem?_eq_some_iff.1 hv).1
    have hl := h.lv
    simp only [List.getElem?_toArray, St.cs]
    rw [List.getElem?_append_right (by simp; omega), List.getElem?_append_left (by simp at hj ⊢; omega)]
    simp only [List.length_map, hl]
    rw [show 8 + j - 8 = j by omega]; exact hv
theorem load_buf {c : Ch} (h : c.ok) {b : Nat} {W : World} (y : ∀ o, W.cell? ⟨b, o, none⟩ = c.cs.toArray[o]?) : (Instr.loadAt 24 (.pointer (some ⟨b, 0, none⟩))).run Tryd.prog W = .ok (.agg (iv c.buf)) W :=
  load_row Tryd.underlying24 sizeB4 y h.blen fun j v hv => by
    have hj := (List.getElem?_eq_some_iff.1 hv).1
    simp only [Nat.zero_add, List.getElem?_toArray, Ch.cs]
    rw [List.getElem?_append_left hj]; exact hv
theorem load_regs {g : Gr} (h : g.ok) {b : Nat} {W : World} (y : ∀ o, W.cell? ⟨b, o, none⟩ = g.cs.toArray[o]?) : (Instr.loadAt 22 (.pointer (some ⟨b, 4, none⟩))).run Tryd.prog W = .ok (.agg (iv g.regs)) W :=
  load_row Tryd.underlying22 sizeV y h.len fun j v hv => by
    have hj := (List.getElem?_eq_some_iff.1 hv).1
    simp only [List.getElem?_toArray, Gr.cs]
    rw [List.getElem?_append_right (by simp), show 4 + j - List.length [Value.int .i64 g.status, .int .i64 g.func, .int .i64 g.pc, .int .i64 g.why] = j by simp]; exact hv
theorem infoI64 : (Tryd.prog.info? 2).isSome = true := by kernel_rfl
theorem infoI : (Tryd.prog.info? 3).isSome = true := by kernel_rfl
theorem ix_vars {l : List Int} (hl : l.length = 8) (k : Nat) (hk : k < 8) (W : World) : (Instr.index 22 (.agg (iv l)) (.int .i64 k)).run Tryd.prog W = .ok (.int .i64 (l.getD k 0)) W := by
  obtain ⟨i, hi⟩ := Option.isSome_iff_exists.1 infoI64
  exact index_one Tryd.underlying22 hi (by kernel_rfl) (by kernel_rfl) _ k hk _ (by rw [iv_at (by omega)]; simp [show k < l.length by omega]) W
theorem ix_owner {l : List Int} (hl : l.length = 4) (k : Nat) (hk : k < 4) (W : World) : (Instr.index 23 (.agg (iv l)) (.int .i64 k)).run Tryd.prog W = .ok (.int .i64 (l.getD k 0)) W := by
  obtain ⟨i, hi⟩ := Option.isSome_iff_exists.1 infoI
  exact index_one Tryd.underlying23 hi (by kernel_rfl) (by kernel_rfl) _ k hk _ (by rw [iv_at (by omega)]; simp [show k < l.length by omega]) W
theorem ix_buf {l : List Int} (hl : l.length = 4) (k : Nat) (hk : k < 4) (W : World) : (Instr.index 24 (.agg (iv l)) (.int .i64 k)).run Tryd.prog W = .ok (.int .i64 (l.getD k 0)) W := by
  obtain ⟨i, hi⟩ := Option.isSome_iff_exists.1 infoI64
  exact index_one Tryd.underlying24 hi (by kernel_rfl) (by kernel_rfl) _ k hk _ (by rw [iv_at (by omega)]; simp [show k < l.length by omega]) W
theorem eightI {l : List Int} (h : l.length = 8) : ∃ a b c d e f g i, l = [a, b, c, d, e, f, g, i] := by
  match l, h with
  | [a, b, c, d, e, f, g, i], _ => exact ⟨a, b, c, d, e, f, g, i, rfl⟩
theorem fourI {l : List Int} (h : l.length = 4) : ∃ a b c d, l = [a, b, c, d] := by
  match l, h with
  | [a, b, c, d], _ => exact ⟨a, b, c, d, rfl⟩
theorem take_snoc {l : List Int} {k : Nat} (h : k < l.length) : l.take (k + 1) = l.take k ++ [l.getD k 0] := by
  rw [List.take_succ_eq_append_getElem h]; simp [h]
theorem take_snoc' {α : Type} [Inhabited α] {l : List α} {k : Nat} (h : k < l.length) : l.take (k + 1) = l.take k ++ [l.getD k default] := by
  rw [List.take_succ_eq_append_getElem h]; simp [h]
theorem getD_mem {l : List Int} {k : Nat} (h : k < l.length) {R : Int → Prop} (hr : ∀ x ∈ l, R x) : R (l.getD k 0) := by
  rw [List.getD_eq_getElem?_getD, List.getElem?_eq_getElem h]; exact hr _ (List.getElem_mem _)
theorem getD_mem' {α : Type} [Inhabited α] {l : List α} {k : Nat} (h : k < l.length) {R : α → Prop} (hr : ∀ x ∈ l, R x) : R (l.getD k default) := by
  rw [List.getD_eq_getElem?_getD, List.getElem?_eq_getElem h]; exact hr _ (List.getElem_mem _)
theorem len_take {s : St} (hs : s.ok) (j : Nat) : ((s.chans.take j).flatMap cnums).length ≤ 36 := by
  rw [flat_len (c := 9) fun x hx => cnums_len (hs.chans x (List.mem_of_mem_take hx))]
  have := hs.lc
  rw [List.length_take]; omega
theorem len_take' {s : St} (hs : s.ok) (j : Nat) : ((s.gos.take j).flatMap gnums).length ≤ 72 := by
  rw [flat_len (c := 12) fun x hx => gnums_len (hs.gos x (List.mem_of_mem_take hx))]
  have := hs.lg
  rw [List.length_take]; omega
end Go.Proofs.YtbcdeanmjhcgeaaDoor.Tx
