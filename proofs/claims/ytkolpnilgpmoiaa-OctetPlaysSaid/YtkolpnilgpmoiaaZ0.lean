-- This session's own text, made by its own run of the tools (wip/tools/pr.sh).
import Derived.Test.YtkolpnilgpmoiaaProg
import Derived.Below
import Derived.Deep.Draws
import Derived.Deep.AppendLies
import Derived.Maps.AppendAt
import Derived.OwnWalk
import Derived.Laws.BytesArg
import Derived.Laws.MakeOwn
import Derived.Laws.OwnMore
import Derived.Deep.OwnRows
import Derived.Tactics
import Derived.Lib.ConvBytes
import Derived.Laws.Slices
import Derived.WalkKit
import Derived.KernelRfl
import Derived.RowKit3
import Derived.Deep.LoopGhost
import Derived.Deep.QuietTactic
import Derived.BigQuiet
import Derived.WideLaws
import Derived.Deep.DeepCutAuto
import Derived.Deep.CutBlock
import Derived.Deep.RegionHeld3
import Derived.Laws.Rows
import Derived.Lib.AppendStr
import Derived.ArgAppend
import Derived.Laws.IdiomCopy
import Derived.OrdersHeld
import Derived.Laws.BitsLemmas
import Derived.RowKit
import Derived.Test.YtkolpnilgpmoiaaX
import Derived.Test.YtkolpnilgpmoiaaWWords
import Derived.Test.YtkolpnilgpmoiaaWLast
import Derived.Test.YtkolpnilgpmoiaaWTab
import Derived.Test.YtkolpnilgpmoiaaWFour
import Derived.Test.YtkolpnilgpmoiaaWQPut
import Derived.Test.YtkolpnilgpmoiaaWApart
import Derived.Test.YtkolpnilgpmoiaaWArr
import Derived.Test.YtkolpnilgpmoiaaWZeros
import Derived.Test.YtkolpnilgpmoiaaWFoot
import Derived.Test.YtkolpnilgpmoiaaWKept
import Derived.Test.YtkolpnilgpmoiaaWShare
import Derived.Test.YtkolpnilgpmoiaaWN
import Derived.Test.YtkolpnilgpmoiaaWFootNe
import Derived.Test.YtkolpnilgpmoiaaWAt
import Derived.Test.YtkolpnilgpmoiaaWEqStruct
import Derived.Test.YtkolpnilgpmoiaaWRepsOne
import Derived.Test.YtkolpnilgpmoiaaWInv
import Derived.Test.YtkolpnilgpmoiaaWInvWords
import Derived.Test.YtkolpnilgpmoiaaWGuard
import Derived.Test.YtkolpnilgpmoiaaWNEv
import Derived.Test.YtkolpnilgpmoiaaWMore
namespace Go.Proofs.Ytkolpnilgpmoiaa.Z
open Go.RowKit Go.Proofs.YtkolpnilgpmoiaaW.PrintWords Go.Proofs.YtkolpnilgpmoiaaW.PrintLast Go.Proofs.YtkolpnilgpmoiaaW.PrintMore
attribute [local go_sem] max2_int min2_int max_two min_two max_three min_three max_four min_four   -- for this text's walks alone
set_option linter.unusedVariables false
set_option linter.unusedSimpArgs false



def errW : Option Int → Value
  | none => .nilIface
  | some c => .iface 0 (.int .i64 c)
theorem errW_none : errW none = .nilIface := rfl
theorem errW_some (c : Int) : errW (some c) = .iface 0 (.int .i64 c) := rfl

theorem info5 : (Try.prog.info? 5).map (fun i => (i.zero, i.size, i.bytes)) = some (some (.int .u8 0), 1, 1) := by kernel_rfl
-- the values' own types

end Go.Proofs.Ytkolpnilgpmoiaa.Z
