/- THE PURE LAW of WordRing: sums and products of words, round, are a ring. No condition. -/
import Derived.Test.YtckfnbjjghdaoaaDoorQ4
import Derived.Test.YtckfnbjjghdaoaaDoorRing
namespace Go.Proofs.YtckfnbjjghdaoaaDoor.Pure
open Go.RowKit Go.Proofs.YtckfnbjjghdaoaaDoor.Q Go.Proofs.YtckfnbjjghdaoaaDoorW.PrintWords Go.Proofs.YtckfnbjjghdaoaaDoor.Bits Go.Proofs.YtckfnbjjghdaoaaDoor.Ops

theorem wadd (a b : Int) : wrap64 (wrap64 a + b) = wrap64 (a + b) := by unfold wrap64; omega
theorem wadd' (a b : Int) : wrap64 (a + wrap64 b) = wrap64 (a + b) := by unfold wrap64; omega
theorem wmul (a b : Int) : wrap64 (wrap64 a * b) = wrap64 (a * b) := by rw [wrap64_of, of_mul, of_wrap64, ← of_mul, ← wrap64_of]
theorem wmul' (a b : Int) : wrap64 (a * wrap64 b) = wrap64 (a * b) := by rw [wrap64_of, of_mul, of_wrap64, ← of_mul, ← wrap64_of]

theorem WordRing : scarablaw02_WordRing.Pure := by
  intro a b c _ _ _
  refine ⟨20, ?_⟩
  have e0 : wrap64 (a + wrap64 (-a)) = 0 := by unfold wrap64; omega
  have e1 : wrap64 (b + a) = wrap64 (a + b) := by rw [Int.add_comm]
  have e2 : wrap64 (wrap64 (a + b) + c) = wrap64 (a + wrap64 (b + c)) := by rw [wadd, wadd', Int.add_assoc]
  have e3 : wrap64 (b * a) = wrap64 (a * b) := by rw [Int.mul_comm]
  have e4 : wrap64 (wrap64 (a * b) * c) = wrap64 (a * wrap64 (b * c)) := by rw [wmul, wmul', Int.mul_assoc]
  have e5 : wrap64 (a * wrap64 (b + c)) = wrap64 (wrap64 (a * b) + wrap64 (a * c)) := by rw [wmul', wadd, wadd', Int.mul_add]
  unfold scarablaw02_WordRing.f
  rw [speaks 20 (by decide)]
  simp only [Option.bind_some, did16 _ _ 20 (by decide), did1 _ _ 20 (by decide), e0, e1, e2]
  simp [scarablaw02_WordRing.j0, did18, pair16, e3, e4, e5]
end Go.Proofs.YtckfnbjjghdaoaaDoor.Pure
