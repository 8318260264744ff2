/- AsmLines at the row's world. No condition. -/
import Derived.Test.YtlhhmlfcodmebaaGreatDoorZOq
import Derived.Test.YtlhhmlfcodmebaaGreatDoorZOp2
import Derived.Test.YtlhhmlfcodmebaaGreatDoorZLl
namespace Go.Proofs.YtlhhmlfcodmebaaGreatDoor.Pg
set_option linter.unusedVariables false
set_option linter.unusedSimpArgs false
open Go.RowKit Go.WideShapes Go.ChangeShapes
theorem lines_at (P : Pg) (f pc : Int) (W : World) (hL : laidMetH Tryz.prog Rows.asmLinesRow.laid W) (hsh : W.ShapedOpen Tryz.prog) (I : P.In W) (hf : (Lit.int .i64 f).wf = true) (hp : (Lit.int .i64 pc).wf = true) :
    Calls Tryz.prog 4 #[P.v, .int .i64 f, .int .i64 pc] W fun e w' => e = .returned (.bool true) ∧ Below W.heap.size W w' := lines_law P f pc W (Wd.lies_of_laid hL hsh) I (Opn.i64_wf hf) (Opn.i64_wf hp)
end Go.Proofs.YtlhhmlfcodmebaaGreatDoor.Pg
