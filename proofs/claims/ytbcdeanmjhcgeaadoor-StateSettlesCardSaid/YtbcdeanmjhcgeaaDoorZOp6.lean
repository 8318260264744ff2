/- StateSettles at a world in which the table of math/bits is laid: a case that came in. -/
import Derived.Test.YtbcdeanmjhcgeaaDoorZOp3
import Derived.Test.YtbcdeanmjhcgeaaDoorZAS4
import Derived.Test.YtbcdeanmjhcgeaaDoorZLt
namespace Go.Proofs.YtbcdeanmjhcgeaaDoor.Opn
set_option linter.unusedVariables false
set_option linter.unusedSimpArgs false
open Go.RowKit
open Go.Proofs.YtbcdeanmjhcgeaaDoor.Pg
theorem settles (P : Pg) (s : St) (g f : Int) (W : World) (hL : laidMetH Tryd.prog [("math/bits.deBruijn64tab", Rows.laid_math_bits_deBruijn64tab)] W) (I : P.In W) (hs : s.ok) :
    Calls Tryd.prog 6 #[.agg (caseCs P s g f).toArray] W fun e w' => e = .returned (.bool true) ∧ Below W.heap.size W w' := by
  obtain ⟨A, AI, AW, hA, hB⟩ := both_ex
  exact settles_walk AI AW P s g f W I hs (hA W (tab_of_laid hL)) (hB W)
end Go.Proofs.YtbcdeanmjhcgeaaDoor.Opn
