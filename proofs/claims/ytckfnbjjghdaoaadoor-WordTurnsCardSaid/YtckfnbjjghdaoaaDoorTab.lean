/- The table of math/bits as the row's condition lays it, and that draws, new blocks and calls leave it. -/
import Derived.Test.YtckfnbjjghdaoaaDoorRows
import Derived.Test.YtckfnbjjghdaoaaDoorWWords
import Derived.Lib.LaidTab
import Derived.LaidMore
import Derived.Stop.Joined
import Derived.Lib.TrailingZeros
namespace Go.Proofs.YtckfnbjjghdaoaaDoor.Tab
open Go.RowKit Go.Proofs.YtckfnbjjghdaoaaDoorW.PrintWords
class TabOK (w : World) : Prop where
  tab : ∀ j, j < 64 → w.cell? ⟨2, j, none⟩ = some (.int .u8 ((Lib.deBruijn64tab.getD j 0 : Nat) : Int))
theorem TabOK.below {w w' : World} (h : TabOK w) (hb : Below w.heap.size w w') : TabOK w' := ⟨fun j hj => pw_cell_below hb (h.tab j hj)⟩
instance (w : World) (n : Nat) [h : TabOK w] : TabOK (w.drewN n) := h.below (pw_below_drewN (Below.refl _ _) n)
instance (w : World) [h : TabOK w] : TabOK w.drew := h.below (below_drew (Below.refl _ _))
instance (w : World) (o : Obj) [h : TabOK w] : TabOK (w.alloc o) := h.below (below_alloc (Below.refl _ _) o)
def tabInts : List Int := Lib.deBruijn64tab.map fun (n : Nat) => (n : Int)
theorem tab_of_laid {W : World} (h : laidMetH Tryd.prog [("math/bits.deBruijn64tab", Rows.laid_math_bits_deBruijn64tab)] W) : TabOK W := by
  rw [MakeChecks.laidMetH_plain _ _ _ (by kernel_rfl)] at h
  have h' : laidMet Tryd.prog (("math/bits.deBruijn64tab", Lib.tabData .u8 tabInts) :: []) W := h
  have ht := Lib.tabIs_of_head (g := 2) (t := 93) (e := 5) (n := 64) (by kernel_rfl) (by kernel_rfl) (by kernel_rfl) (by kernel_rfl) (by kernel_rfl) (by kernel_rfl) h'
  refine ⟨fun j hj => ?_⟩
  have hc := ht.cell (g := 2) (by kernel_rfl) j (by rw [show tabInts.length = 64 from rfl]; exact hj)
  rw [hc]
  have : ∀ i : Fin 64, tabInts.getD i.val 0 = ((Lib.deBruijn64tab.getD i.val 0 : Nat) : Int) := by decide +kernel
  rw [this ⟨j, hj⟩]
end Go.Proofs.YtckfnbjjghdaoaaDoor.Tab
