/- StateKeeps at a world in which the table of math/bits is laid: a case that came in. -/
import Derived.Test.YtbcdeanmjhcgeaaDoorZOp3
import Derived.Test.YtbcdeanmjhcgeaaDoorZLk
namespace Go.Proofs.YtbcdeanmjhcgeaaDoor.Opn
set_option linter.unusedVariables false
set_option linter.unusedSimpArgs false
open Go.RowKit
open Go.Proofs.YtbcdeanmjhcgeaaDoor.Pg
theorem keeps (P : Pg) (s : St) (g f : Int) (W : World) (hL : laidMetH Tryd.prog [("math/bits.deBruijn64tab", Rows.laid_math_bits_deBruijn64tab)] W) (I : P.In W) (hs : s.ok) :
    Calls Tryd.prog 7 #[.agg (caseCs P s g f).toArray] W fun e w' => e = .returned (.bool true) ∧ Below W.heap.size W w' := by
  obtain ⟨A, AI, AW, hA⟩ := apply_ex
  exact keeps_walk AI AW P s g f W I hs (hA W (tab_of_laid hL))
end Go.Proofs.YtbcdeanmjhcgeaaDoor.Opn
