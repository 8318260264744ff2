/- Blocks that a call has laid, in later worlds: what they hold, and that nothing older is touched. No condition. -/
import Derived.WalkKit
import Derived.Below
import Derived.WalkSmall
namespace Go.Proofs.Ytbcdeanmjhcgeaa.Pg
open Go.ChangeShapes Go.WideShapes Go.RowKit
/-- A block, in a later world. -/
structure Blk (b : Nat) (arr : Array Value) (W : World) : Prop where
  lt : b < W.heap.size
  cell : ∀ o, W.cell? ⟨b, o, none⟩ = arr[o]?
  fr : ∀ o, W.frozen? ⟨b, o, none⟩ = false
theorem Blk.new (W : World) (arr : Array Value) (T : TypeId) : Blk W.heap.size arr (W.alloc (.cells arr T)) := ⟨by simp, fun _ => World.cell?_alloc_new _ _ _ _, fun _ => World.frozen?_alloc_new _ _ _ _⟩
theorem Blk.new' (W : World) (b : Nat) (arr : Array Value) (T : TypeId) (hb : b = W.heap.size) : Blk b arr (W.alloc (.cells arr T)) := by subst hb; exact Blk.new _ _ _
theorem Blk.below {b : Nat} {arr : Array Value} {W w1 : World} (h : Blk b arr W) (hb : Below W.heap.size W w1) : Blk b arr w1 :=
  ⟨by have := hb.size; have := h.lt; omega, fun o => by rw [hb.cell (by simpa using h.lt)]; exact h.cell o, fun o => by rw [hb.frozen (by simpa using h.lt)]; exact h.fr o⟩
theorem Blk.alloc {b : Nat} {arr : Array Value} {W : World} (h : Blk b arr W) (O : Obj) : Blk b arr (W.alloc O) := h.below (Below.alloc (Below.refl _ _) (Nat.le_refl _) _)
theorem Blk.drewN {b : Nat} {arr : Array Value} {W : World} (h : Blk b arr W) (n : Nat) : Blk b arr (W.drewN n) := h.below (below_drewN (Below.refl _ _) _)
theorem Blk.drew {b : Nat} {arr : Array Value} {W : World} (h : Blk b arr W) : Blk b arr W.drew := h.below (Below.drew (Below.refl _ _))
theorem Blk.setOther {b : Nat} {arr : Array Value} {W : World} (h : Blk b arr W) (c o : Nat) (v : Value) (ne : b ≠ c) : Blk b arr (W.setCell ⟨c, o, none⟩ v) :=
  ⟨by simpa [World.setCell] using h.lt, fun j => by rw [World.cell?_setCell_other _ _ _ _ (by simp only [ne_eq, Addr.mk.injEq]; omega)]; exact h.cell j, fun j => by rw [World.frozen?_setCell]; exact h.fr j⟩
theorem Blk.set {b : Nat} {arr : Array Value} {W : World} (h : Blk b arr W) (o : Nat) (ho : o < arr.size) (v : Value) : Blk b (arr.setIfInBounds o v) (W.setCell ⟨b, o, none⟩ v) := by
  refine ⟨by simpa [World.setCell] using h.lt, fun j => ?_, fun j => by rw [World.frozen?_setCell]; exact h.fr j⟩
  by_cases hj : j = o
  · subst hj
    rw [World.cell?_setCell_same _ _ _ ((h.cell j).trans (Array.getElem?_eq_getElem ho))]
    simp [ho]
  · rw [World.cell?_setCell_other _ _ _ _ (by simp only [ne_eq, Addr.mk.injEq, true_and, and_true]; omega), h.cell j]
    simp [show ¬ o = j from fun e => hj e.symm]
/-- Nothing below w's blocks is touched; the blocks told hold what is told. -/
structure Env (w : World) (bs : List (Nat × Array Value)) (W : World) : Prop where
  acc : Below w.heap.size w W
  blk : ∀ p ∈ bs, Blk p.1 p.2 W
variable {w W w1 : World} {bs : List (Nat × Array Value)}
theorem Env.nil : Env w [] w := ⟨Below.refl _ _, fun _ h => by cases h⟩
theorem Env.next (E : Env w bs W) (hb : Below W.heap.size W w1) : Env w bs w1 := ⟨E.acc.trans (hb.mono E.acc.size), fun p hp => (E.blk p hp).below hb⟩
theorem Env.push (E : Env w bs W) (n : Nat) (hn : n = W.heap.size) (arr : Array Value) (T : TypeId) : Env w ((n, arr) :: bs) (W.alloc (.cells arr T)) := by
  subst hn
  have E' := E.next (Below.alloc (Below.refl W.heap.size W) (Nat.le_refl _) (.cells arr T))
  refine ⟨E'.acc, fun p hp => ?_⟩
  rcases List.mem_cons.1 hp with rfl | hp
  · exact Blk.new _ _ _
  · exact E'.blk p hp
theorem Env.skip (E : Env w bs W) (O : Obj) : Env w bs (W.alloc O) := E.next (Below.alloc (Below.refl _ _) (Nat.le_refl _) _)
theorem Env.drew (E : Env w bs W) : Env w bs W.drew := E.next (Below.drew (Below.refl _ _))
theorem Env.drewN (E : Env w bs W) (n : Nat) : Env w bs (W.drewN n) := E.next (below_drewN (Below.refl _ _) _)
theorem Env.set {b : Nat} {arr : Array Value} (E : Env w ((b, arr) :: bs) W) (hb : w.heap.size ≤ b) (ne : ∀ p ∈ bs, p.1 ≠ b) (o : Nat) (ho : o < arr.size) (v : Value) : Env w ((b, arr.setIfInBounds o v) :: bs) (W.setCell ⟨b, o, none⟩ v) := by
  refine ⟨E.acc.setCell (by simpa using hb) _, fun p hp => ?_⟩
  rcases List.mem_cons.1 hp with rfl | hp
  · exact (E.blk (b, arr) (List.mem_cons_self ..)).set o ho v
  · exact (E.blk p (List.mem_cons_of_mem _ hp)).setOther b o v (ne p hp)
theorem Env.sub {cs : List (Nat × Array Value)} (E : Env w bs W) (h : ∀ p ∈ cs, p ∈ bs) : Env w cs W := ⟨E.acc, fun p hp => E.blk p (h p hp)⟩
theorem Env.h0 {b : Nat} {arr : Array Value} (E : Env w ((b, arr) :: bs) W) : Blk b arr W := E.blk (b, arr) (List.mem_cons_self ..)
theorem Env.tl {p : Nat × Array Value} (E : Env w (p :: bs) W) : Env w bs W := ⟨E.acc, fun q hq => E.blk q (List.mem_cons_of_mem _ hq)⟩
theorem Env.cells4 {b0 b1 b2 b3 : Nat} {a0 a1 a2 a3 : Array Value} (E : Env w [(b0, a0), (b1, a1), (b2, a2), (b3, a3)] W) :
    (∀ o, W.cell? ⟨b0, o, none⟩ = a0[o]?) ∧ (∀ o, W.cell? ⟨b1, o, none⟩ = a1[o]?) ∧ (∀ o, W.cell? ⟨b2, o, none⟩ = a2[o]?) ∧ ∀ o, W.cell? ⟨b3, o, none⟩ = a3[o]? := ⟨E.h0.cell, E.tl.h0.cell, E.tl.tl.h0.cell, E.tl.tl.tl.h0.cell⟩
theorem Env.cells3 {b0 b1 b2 : Nat} {a0 a1 a2 : Array Value} (E : Env w [(b0, a0), (b1, a1), (b2, a2)] W) :
    (∀ o, W.cell? ⟨b0, o, none⟩ = a0[o]?) ∧ (∀ o, W.cell? ⟨b1, o, none⟩ = a1[o]?) ∧ ∀ o, W.cell? ⟨b2, o, none⟩ = a2[o]? := ⟨E.h0.cell, E.tl.h0.cell, E.tl.tl.h0.cell⟩
theorem Env.cells2 {b0 b1 : Nat} {a0 a1 : Array Value} (E : Env w [(b0, a0), (b1, a1)] W) :
    (∀ o, W.cell? ⟨b0, o, none⟩ = a0[o]?) ∧ ∀ o, W.cell? ⟨b1, o, none⟩ = a1[o]? := ⟨E.h0.cell, E.tl.h0.cell⟩
end Go.Proofs.Ytbcdeanmjhcgeaa.Pg
