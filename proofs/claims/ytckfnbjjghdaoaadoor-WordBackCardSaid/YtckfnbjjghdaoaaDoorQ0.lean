-- This session's own text, made by its own run of the tools (wip/tools/pr.sh).
import Derived.Test.YtckfnbjjghdaoaaDoorProg
import Derived.Below
import Derived.Deep.Draws
import Derived.Deep.AppendLies
import Derived.Maps.AppendAt
import Derived.OwnWalk
import Derived.Laws.BytesArg
import Derived.Laws.MakeOwn
import Derived.Laws.OwnMore
import Derived.Deep.OwnRows
import Derived.Tactics
import Derived.Lib.ConvBytes
import Derived.Laws.Slices
import Derived.WalkKit
import Derived.KernelRfl
import Derived.RowKit3
import Derived.Deep.LoopGhost
import Derived.Deep.QuietTactic
import Derived.BigQuiet
import Derived.WideLaws
import Derived.Deep.DeepCutAuto
import Derived.Deep.CutBlock
import Derived.Deep.RegionHeld3
import Derived.Laws.Rows
import Derived.Lib.AppendStr
import Derived.ArgAppend
import Derived.Laws.IdiomCopy
import Derived.OrdersHeld
import Derived.Laws.BitsLemmas
import Derived.RowKit
import Derived.Test.YtckfnbjjghdaoaaDoorWWords
import Derived.Test.YtckfnbjjghdaoaaDoorWLast
import Derived.Test.YtckfnbjjghdaoaaDoorWTab
import Derived.Test.YtckfnbjjghdaoaaDoorWFour
import Derived.Test.YtckfnbjjghdaoaaDoorWQPut
import Derived.Test.YtckfnbjjghdaoaaDoorWApart
import Derived.Test.YtckfnbjjghdaoaaDoorWArr
import Derived.Test.YtckfnbjjghdaoaaDoorWZeros
import Derived.Test.YtckfnbjjghdaoaaDoorWFoot
import Derived.Test.YtckfnbjjghdaoaaDoorWKept
import Derived.Test.YtckfnbjjghdaoaaDoorWShare
import Derived.Test.YtckfnbjjghdaoaaDoorWN
import Derived.Test.YtckfnbjjghdaoaaDoorWFootNe
import Derived.Test.YtckfnbjjghdaoaaDoorWAt
import Derived.Test.YtckfnbjjghdaoaaDoorWEqStruct
import Derived.Test.YtckfnbjjghdaoaaDoorWRepsOne
import Derived.Test.YtckfnbjjghdaoaaDoorWInv
import Derived.Test.YtckfnbjjghdaoaaDoorWInvWords
import Derived.Test.YtckfnbjjghdaoaaDoorWGuard
import Derived.Test.YtckfnbjjghdaoaaDoorWNEv
import Derived.Test.YtckfnbjjghdaoaaDoorWMore
namespace Go.Proofs.YtckfnbjjghdaoaaDoor.Q
open Go.RowKit Go.Proofs.YtckfnbjjghdaoaaDoorW.PrintWords Go.Proofs.YtckfnbjjghdaoaaDoorW.PrintLast Go.Proofs.YtckfnbjjghdaoaaDoorW.PrintMore
attribute [local go_sem] max2_int min2_int max_two min_two max_three min_three max_four min_four   -- for this text's walks alone
set_option linter.unusedVariables false
set_option linter.unusedSimpArgs false



def errW : Option Int → Value
  | none => .nilIface
  | some c => .iface 0 (.int .i64 c)
theorem errW_none : errW none = .nilIface := rfl
theorem errW_some (c : Int) : errW (some c) = .iface 0 (.int .i64 c) := rfl

theorem info9 : (Tryd.prog.info? 9).map (fun i => (i.zero, i.size, i.bytes)) = some (some (.string ⟨#[]⟩), 1, 16) := by kernel_rfl
-- the values' own types

end Go.Proofs.YtckfnbjjghdaoaaDoor.Q
