/- OctetNil, walked: a nil reader is one of no bytes, for every n. No condition. -/
import Derived.Test.YtkolpnilgpmoiaaProg
import Derived.WalkKit
import GoSem.Claim
import Derived.Below
namespace Go.Proofs.Ytkolpnilgpmoiaa.WalkNil
open Go.ChangeShapes Go.WideShapes Go.RowKit
set_option maxHeartbeats 4000000 in
set_option maxRecDepth 100000 in
theorem nil_walk (n : Int) (w : World) (_ : (Lit.int .i64 n).wf = true) : Calls Try.prog 10 #[.int .i64 n] w fun e w' => e = .returned (.bool true) ∧ Below w.heap.size w w' := by
  by_cases h0 : n < 0
  · have hn : ¬ n = 0 := by omega
    go_enter Try.func10, Try.ntmps10
    go_wp2
    go_ret
    exact ⟨rfl, Below.refl _ _⟩
  · by_cases hn : n = 0
    · subst hn
      clear h0
      go_enter Try.func10, Try.ntmps10
      go_wp2
      go_ret
      exact ⟨rfl, Below.refl _ _⟩
    · have h1 : 0 < n := by omega
      go_enter Try.func10, Try.ntmps10
      go_wp2
      go_ret
      exact ⟨rfl, Below.refl _ _⟩
end Go.Proofs.Ytkolpnilgpmoiaa.WalkNil
