/- WordTexts, walked whole: a word's text is the reference's, and is read as the word. -/
import Derived.Test.YtelamlkefblmaaaDoorWTexts
import Derived.Test.YtelamlkefblmaaaDoorRows
import Derived.Lib.LaidTab
import Derived.LaidMore
import Derived.Stop.Joined
import Derived.OpenShut
import Derived.Stop.LaidErr
import Derived.Deep.RegionWith
namespace Go.Proofs.YtelamlkefblmaaaDoor.Num
open Go.ChangeShapes Go.WideShapes Go.RowKit
theorem tab_of_laid {W : World} (h : laidMetH Tryd.prog Rows.wordTextsRow.laid W) : Tab W := by
  rw [MakeChecks.laidMetH_plain _ _ _ (by kernel_rfl)] at h
  have h' : laidMet Tryd.prog (("math/bits.deBruijn32tab", Rows.laid_math_bits_deBruijn32tab) :: ("math/bits.deBruijn64tab", Rows.laid_math_bits_deBruijn64tab) :: ("internal/strconv.uint64pow10", Lib.tabData .u64 Lib.pow10Tab) :: [("strconv.ErrRange", Rows.laid_strconv_ErrRange), ("strconv.ErrSyntax", Rows.laid_strconv_ErrSyntax)]) W := h
  exact Lib.tabIs_of_head (g := 0) (t := 67) (e := 38) (n := 20) (by kernel_rfl) (by kernel_rfl) (by kernel_rfl) (by kernel_rfl) (by kernel_rfl) (by kernel_rfl) h'.tail.tail
set_option maxHeartbeats 1600000 in
set_option maxRecDepth 100000 in
theorem law_walk (x : Int) (w : World) (hL : laidMetH Tryd.prog Rows.wordTextsRow.laid w) (wx : (Lit.int .i64 x).wf = true) :
    Calls Tryd.prog 3 #[.int .i64 x] w fun e w' => e = .returned (.bool true) ∧ Below w.heap.size w w' := by
  have hx := Go.bounds_i64 wx
  have ht := tab_of_laid hL
  have cT := Lib.hid (fun (W : World) (hb : Below w.heap.size w W) => text_walk x hx.1 hx.2 W (ht.below hb))
  have cP := Lib.hid (fun (W : World) (hb : Below w.heap.size w W) => parse_walk x hx.1 hx.2 W (ht.below hb))
  have cR := Lib.hid (fun (W : World) => ref_walk x hx.1 hx.2 W)
  have cS := Lib.hid (fun (W : World) => speaks_walk W)
  have acc := Below.refl w.heap.size w
  clear hL ht hx wx
  go_enter Tryd.func3, Tryd.ntmps3
  go_wp2_with (first
    | (go_at_call 4; ((with_reducible refine (cT.out _ acc).mono ?_); rintro e w1 ⟨rfl, hb1⟩; replace acc := Below.trans acc (hb1.mono acc.size)))
    | (go_at_call 5; ((with_reducible refine (cP.out _ acc).mono ?_); rintro e w1 ⟨rfl, hb1⟩; replace acc := Below.trans acc (hb1.mono acc.size)))
    | (go_at_call 6; ((with_reducible refine (cS.out _).mono ?_); rintro e w1 ⟨rfl, hb1⟩; replace acc := Below.trans acc (hb1.mono acc.size)))
    | (go_at_call 7; ((with_reducible refine (cR.out _).mono ?_); rintro e w1 ⟨rfl, hb1⟩; replace acc := Below.trans acc (hb1.mono acc.size))))
  go_ret
  exact ⟨rfl, acc⟩
end Go.Proofs.YtelamlkefblmaaaDoor.Num
