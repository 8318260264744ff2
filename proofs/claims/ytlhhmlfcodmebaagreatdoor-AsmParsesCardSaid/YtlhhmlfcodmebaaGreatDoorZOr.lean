/- AsmParses at the row's world. No condition. -/
import Derived.Test.YtlhhmlfcodmebaaGreatDoorZOq
import Derived.Test.YtlhhmlfcodmebaaGreatDoorZLp
namespace Go.Proofs.YtlhhmlfcodmebaaGreatDoor.Pg
set_option linter.unusedVariables false
set_option linter.unusedSimpArgs false
open Go.RowKit Go.WideShapes Go.ChangeShapes
theorem parses_at (a : ByteArray) (W : World) (hL : laidMetH Tryz.prog Rows.asmParsesRow.laid W) (hsh : W.ShapedOpen Tryz.prog) (ha : a.size ≤ 140737488351232) :
    Calls Tryz.prog 3 #[.string a] W fun e w' => e = .returned (.bool true) ∧ Below W.heap.size W w' := parses_law a W (Wd.lies_of_laid hL hsh)
end Go.Proofs.YtlhhmlfcodmebaaGreatDoor.Pg
