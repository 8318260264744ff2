/- StateTexts at a world in which the tables are laid: two states that came in. -/
import Derived.Test.YtbcdeanmjhcgeaaDoorZh
import Derived.Test.YtbcdeanmjhcgeaaDoorZTl
import Derived.Test.YtbcdeanmjhcgeaaDoorRows
import Derived.ProofKit
import Derived.Lib.LaidTab
import Derived.Lib.AppendIntMem
import Derived.LaidMore
import Derived.Stop.Joined
import Derived.Stop.LaidErr
namespace Go.Proofs.YtbcdeanmjhcgeaaDoor.Opn
set_option linter.unusedVariables false
set_option linter.unusedSimpArgs false
open Go.RowKit Go.ChangeShapes Go.WideShapes
open Go.Proofs.YtbcdeanmjhcgeaaDoor.Pg

theorem small_weights {H : Type} {P : Program} {ts : List TypeId} {ds : List (DataW H)} (hsz : (DataW.weightsEach P ts ds).all (· ≤ reachBytes) = true) {j : Nat} {t : TypeId} {d : DataW H} (ht : ts[j]? = some t) (hd : ds[j]? = some d) : ∀ n ∈ d.weights P t, n ≤ reachBytes := fun n hn => by
  simpa using List.all_eq_true.1 hsz n (DataW.weights_mem_each ht hd n hn)
set_option maxRecDepth 100000 in
theorem open_st {H : Type} {enc : TypeId × Value → H} {W : World} {r : Reach} {b0 : Nat} {spare : Nat → Bool} {held : Bool} {v : Value} {d : DataW H} {p : List MemPlace} {ts : List TypeId} {ds : List (DataW H)}
    (hv : Value.okWide Tryd.prog W r b0 32 v) (h : DataW.Trod enc Tryd.prog W 0 spare held 32 v d p) (hsz : (DataW.weightsEach Tryd.prog ts ds).all (· ≤ reachBytes) = true) {j : Nat} (ht : ts[j]? = some 32) (hd : ds[j]? = some d) :
    ∃ s : St, v = s.v ∧ s.ok := by
  simp only [Value.okWide, Tryd.underlying32] at hv
  obtain ⟨ca, rfl, _, _⟩ := hv
  obtain ⟨cs⟩ := ca
  obtain ⟨fuel, hf⟩ := h
  obtain ⟨s, e, hs⟩ := o_st fuel cs (d, p) hf (small_weights hsz ht hd)
  exact ⟨s, by rw [e]; rfl, hs⟩
theorem told_of_laid {W : World} (h : laidMetH Tryd.prog Rows.stateTextsRow.laid W) : Go.Proofs.YtbcdeanmjhcgeaaDoor.Tx.Told W := by
  rw [MakeChecks.laidMetH_plain _ _ _ (by kernel_rfl)] at h
  have h' : laidMet Tryd.prog (("math/bits.deBruijn32tab", Rows.laid_math_bits_deBruijn32tab) :: ("math/bits.deBruijn64tab", Rows.laid_math_bits_deBruijn64tab) :: ("internal/strconv.uint64pow10", Lib.tabData .u64 Lib.pow10Tab) :: []) W := h
  have ht : Lib.TabIs Tryd.prog W "internal/strconv.uint64pow10" .u64 Lib.pow10Tab := Lib.tabIs_of_head (g := 0) (t := 136) (e := 116) (n := 20) (by kernel_rfl) (by kernel_rfl) (by kernel_rfl) (by kernel_rfl) (by kernel_rfl) (by kernel_rfl) h'.tail.tail
  refine ⟨fun n hn V hV => ?_, fun n hn V hV => ?_⟩
  · refine (Tryd.strconv_FormatInt_10 n hn.1 hn.2 V (Lib.tabBelow_of_tabIs ht V hV)).mono ?_
    rintro e w' ⟨rfl, k, os, rfl⟩
    exact ⟨rfl, Lib.below_grow _ V (Nat.le_refl _) k os⟩
  · refine (Tryd.strconv_Itoa n hn.1 hn.2 V (Lib.tabBelow_of_tabIs ht V hV)).mono ?_
    rintro e w' ⟨rfl, k, os, rfl⟩
    exact ⟨rfl, Lib.below_grow _ V (Nat.le_refl _) k os⟩
theorem texts (s t : St) (W : World) (hL : laidMetH Tryd.prog Rows.stateTextsRow.laid W) (hs : s.ok) (ht : t.ok) :
    Calls Tryd.prog 3 #[s.v, t.v] W fun e w' => e = .returned (.bool true) ∧ Below W.heap.size W w' := Go.Proofs.YtbcdeanmjhcgeaaDoor.Tx.texts_walk s t hs ht W (told_of_laid hL)
end Go.Proofs.YtbcdeanmjhcgeaaDoor.Opn
