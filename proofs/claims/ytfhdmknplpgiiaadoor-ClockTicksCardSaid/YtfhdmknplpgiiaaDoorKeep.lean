/- What a block holds behind a call that has only laid new ones. No condition. -/
import Derived.WalkKit
import Derived.Below
namespace Go.Proofs.YtfhdmknplpgiiaaDoor.Ck
open Go.ChangeShapes Go.WideShapes Go.RowKit
theorem keep {W w1 : World} (hb : Below W.heap.size W w1) {b : Nat} {arr : Array Value} (hlt : b < W.heap.size) (h : ∀ o, W.cell? ⟨b, o, none⟩ = arr[o]?) :
    (∀ o, w1.cell? ⟨b, o, none⟩ = arr[o]?) ∧ b < w1.heap.size ∧ ∀ cs T o, (w1.alloc (.cells cs T)).cell? ⟨b, o, none⟩ = arr[o]? := by
  have h1 : ∀ o, w1.cell? ⟨b, o, none⟩ = arr[o]? := fun o => by rw [hb.cell (by simp only; omega)]; exact h o
  have h2 : b < w1.heap.size := by have := hb.size; omega
  exact ⟨h1, h2, fun cs T o => by rw [World.cell?_alloc_lt _ _ _ (by simp only; omega)]; exact h1 o⟩
theorem fresh (W : World) (cs : Array Value) (T : TypeId) : ∀ o, (W.alloc (.cells cs T)).cell? ⟨W.heap.size, o, none⟩ = cs[o]? := fun _ => World.cell?_alloc_new _ _ _ _
theorem fresh1 (W : World) (cs ds : Array Value) (T U : TypeId) : ∀ o, ((W.alloc (.cells cs T)).alloc (.cells ds U)).cell? ⟨W.heap.size + 1, o, none⟩ = ds[o]? := fun o => by
  have h := World.cell?_alloc_new (W.alloc (.cells cs T)) ds U o
  have e : (W.alloc (.cells cs T)).heap.size = W.heap.size + 1 := by simp
  rw [e] at h
  exact h
theorem fresh2 (W : World) (cs ds : Array Value) (T U : TypeId) : ∀ o, ((W.alloc (.cells cs T)).alloc (.cells ds U)).cell? ⟨W.heap.size, o, none⟩ = cs[o]? := fun o => by
  rw [World.cell?_alloc_lt _ _ _ (by simp)]
  exact World.cell?_alloc_new _ _ _ _
end Go.Proofs.YtfhdmknplpgiiaaDoor.Ck
