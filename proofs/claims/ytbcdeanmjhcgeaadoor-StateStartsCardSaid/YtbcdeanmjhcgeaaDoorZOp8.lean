/- StateStarts at a world in which the table of math/bits is laid: a program and fuel that came in. -/
import Derived.Test.YtbcdeanmjhcgeaaDoorZe
import Derived.Test.YtbcdeanmjhcgeaaDoorZOpz
import Derived.Test.YtbcdeanmjhcgeaaDoorZAS4
import Derived.Test.YtbcdeanmjhcgeaaDoorZL12
import Derived.Test.YtbcdeanmjhcgeaaDoorZLst
namespace Go.Proofs.YtbcdeanmjhcgeaaDoor.Opn
set_option linter.unusedVariables false
set_option linter.unusedSimpArgs false
open Go.RowKit
open Go.Proofs.YtbcdeanmjhcgeaaDoor.Pg
theorem strt_any {A : Int → Int → Int → Int × Int} {P : Pg} (AI : AluOk A) (AW : AluWhy A) {w : World} (I : P.In w) (f : Int) : (strt A P f).1.ok := by
  unfold strt
  by_cases hR : right P = true
  · rw [if_pos hR]
    split
    · exact St.none_ok
    · have R := Rt.of hR
      have hz := neat_zero R
      have hs := Stood.settle R AI AW I.insOk f.toNat _ hz.1
      exact St.setGo_ok (St.first_ok R.nv I.inits) 0 hs.ok
  · rw [if_neg hR]; exact St.none_ok
theorem starts (P : Pg) (f : Int) (W : World) (hL : laidMetH Tryd.prog [("math/bits.deBruijn64tab", Rows.laid_math_bits_deBruijn64tab)] W) (I : P.In W) (Z : P.Sized) (_hf : (Lit.int .i64 f).wf = true) :
    Calls Tryd.prog 4 #[P.v, .int .i64 f] W fun e w' => e = .returned (.bool true) ∧ Below W.heap.size W w' := by
  obtain ⟨A, AI, AW, hA, hB⟩ := both_ex
  have hAW := hA W (tab_of_laid hL)
  refine starts_walk0 P f W I Z (strt A P f).1 (strt A P f).2 (strt_any AI AW I f) (fun Q V hq hb hQ => ?_) (fun V hb => startR_walk AI AW P f V (I.below hb) (hB V)) (fun V hb => small_walk AI AW V (hAW.below hb))
  have := startS_walk AI AW Q f V hQ (hAW.below hb)
  rwa [strt_like hq] at this
end Go.Proofs.YtbcdeanmjhcgeaaDoor.Opn
