/- StateSums and StateApart at a world in which the table of math/bits is laid: a case and a number that came in. -/
import Derived.Test.YtbcdeanmjhcgeaaDoorZOp3
import Derived.Test.YtbcdeanmjhcgeaaDoorZLs
import Derived.Test.YtbcdeanmjhcgeaaDoorZLa
namespace Go.Proofs.YtbcdeanmjhcgeaaDoor.Opn
set_option linter.unusedVariables false
set_option linter.unusedSimpArgs false
open Go.RowKit
open Go.Proofs.YtbcdeanmjhcgeaaDoor.Pg
theorem sums (P : Pg) (s : St) (g f m : Int) (W : World) (hL : laidMetH Tryd.prog [("math/bits.deBruijn64tab", Rows.laid_math_bits_deBruijn64tab)] W) (I : P.In W) (hs : s.ok) (hm : (Lit.int .i64 m).wf = true) :
    Calls Tryd.prog 8 #[.agg (caseCs P s g f).toArray, .int .i64 m] W fun e w' => e = .returned (.bool true) ∧ Below W.heap.size W w' := by
  obtain ⟨A, AI, AW, hA⟩ := apply_ex
  exact sums_walk AI AW P s g f m W I hs (i64_wf hm) (hA W (tab_of_laid hL))
theorem apart (P : Pg) (s : St) (g f m : Int) (W : World) (hL : laidMetH Tryd.prog [("math/bits.deBruijn64tab", Rows.laid_math_bits_deBruijn64tab)] W) (I : P.In W) (hs : s.ok) (hm : (Lit.int .i64 m).wf = true) :
    Calls Tryd.prog 9 #[.agg (caseCs P s g f).toArray, .int .i64 m] W fun e w' => e = .returned (.bool true) ∧ Below W.heap.size W w' := by
  obtain ⟨A, AI, AW, hA⟩ := apply_ex
  exact apart_walk AI AW P s g f m W I hs (hA W (tab_of_laid hL))
end Go.Proofs.YtbcdeanmjhcgeaaDoor.Opn
