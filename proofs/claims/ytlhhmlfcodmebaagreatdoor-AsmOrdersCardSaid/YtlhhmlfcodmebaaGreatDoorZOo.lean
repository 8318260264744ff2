/- AsmOrders at the row's world. No condition. -/
import Derived.Test.YtlhhmlfcodmebaaGreatDoorZOq
import Derived.Test.YtlhhmlfcodmebaaGreatDoorZOp2
import Derived.Test.YtlhhmlfcodmebaaGreatDoorZLo
namespace Go.Proofs.YtlhhmlfcodmebaaGreatDoor.Pg
set_option linter.unusedVariables false
set_option linter.unusedSimpArgs false
open Go.RowKit Go.WideShapes Go.ChangeShapes
theorem orders_at (P : Pg) (pick : Int) (W : World) (hL : laidMetH Tryz.prog Rows.asmOrdersRow.laid W) (hsh : W.ShapedOpen Tryz.prog) (I : P.In W) (hp : (Lit.int .i64 pick).wf = true) :
    Calls Tryz.prog 5 #[P.v, .int .i64 pick] W fun e w' => e = .returned (.bool true) ∧ Below W.heap.size W w' := orders_law P pick W (Wd.lies_of_laid hL hsh) I (Opn.i64_wf hp)
end Go.Proofs.YtlhhmlfcodmebaaGreatDoor.Pg
