/- A case that came in, opened; a program that came in; the table of math/bits. No condition. -/
import Derived.Test.YtbcdeanmjhcgeaaDoorZh
import Derived.Test.YtbcdeanmjhcgeaaDoorZLv
import Derived.Test.YtbcdeanmjhcgeaaDoorZi
import Derived.Test.YtbcdeanmjhcgeaaDoorRows
import Derived.ProofKit
import Derived.Lib.LaidTab
import Derived.LaidMore
import Derived.Stop.Joined
namespace Go.Proofs.YtbcdeanmjhcgeaaDoor.Opn
set_option linter.unusedVariables false
set_option linter.unusedSimpArgs false
open Go.RowKit Go.ChangeShapes Go.WideShapes
open Go.Proofs.YtbcdeanmjhcgeaaDoor.Pg
theorem c_case : Tryd.prog.cellsOf 52 = 127 := by kernel_rfl
theorem small_weights {H : Type} {P : Program} {ts : List TypeId} {ds : List (DataW H)} (hsz : (DataW.weightsEach P ts ds).all (· ≤ reachBytes) = true) {j : Nat} {t : TypeId} {d : DataW H} (ht : ts[j]? = some t) (hd : ds[j]? = some d) : ∀ n ∈ d.weights P t, n ≤ reachBytes := fun n hn => by
  simpa using List.all_eq_true.1 hsz n (DataW.weights_mem_each ht hd n hn)
set_option maxRecDepth 100000 in
theorem open_case {H : Type} {enc : TypeId × Value → H} {W : World} {r : Reach} {b0 : Nat} {spare : Nat → Bool} {held : Bool} {v : Value} {d : DataW H} {p : List MemPlace} {ts : List TypeId} {ds : List (DataW H)}
    (hv : Value.okWide Tryd.prog W r b0 52 v) (h : DataW.Trod enc Tryd.prog W 0 spare held 52 v d p) (hsz : (DataW.weightsEach Tryd.prog ts ds).all (· ≤ reachBytes) = true) {j : Nat} (ht : ts[j]? = some 52) (hd : ds[j]? = some d) :
    ∃ P s g f, v = .agg (caseCs P s g f).toArray ∧ P.In W ∧ s.ok ∧ I64 g ∧ I64 f := by
  simp only [Value.okWide, Tryd.underlying52] at hv
  obtain ⟨ca, rfl, _, _⟩ := hv
  obtain ⟨cs⟩ := ca
  obtain ⟨fuel, hf⟩ := h
  have hf : DataW.trod enc Tryd.prog W 0 spare held fuel 52 cs = some (d, p) := hf
  have hw := small_weights hsz ht hd
  have hl := struct_len Tryd.underlying52 hf
  rw [c_case] at hl
  obtain ⟨P, e0, r0⟩ := field Tryd.underlying52 hf hw 0 _ rfl 41 0 4 rfl rfl c_Prog o_prog
  obtain ⟨s, e1, r1⟩ := field Tryd.underlying52 hf hw 1 _ rfl 32 4 121 rfl rfl c_State o_st
  obtain ⟨g, e2, r2⟩ := field Tryd.underlying52 hf hw 2 _ rfl 3 125 1 rfl rfl cint (opens_int Tryd.underlying3)
  obtain ⟨f, e3, r3⟩ := field Tryd.underlying52 hf hw 3 _ rfl 3 126 1 rfl rfl cint (opens_int Tryd.underlying3)
  refine ⟨P, s, g, f, ?_, r0, r1, r2, r3⟩
  have : cs = caseCs P s g f := by
    rw [← List.drop_zero (l := cs), cut cs 0 4, cut cs (0 + 4) 121, cut cs (0 + 4 + 121) 1, cut cs (0 + 4 + 121 + 1) 1]
    simp only [Nat.zero_add, Nat.reduceAdd]
    rw [show cs.drop 127 = [] from List.drop_of_length_le (by omega), e0, e1, e2, e3]
    simp [caseCs, ci]
  rw [this]
set_option maxRecDepth 100000 in
theorem open_prog {H : Type} {enc : TypeId × Value → H} {W : World} {r : Reach} {b0 : Nat} {spare : Nat → Bool} {held : Bool} {v : Value} {d : DataW H} {p : List MemPlace} {ts : List TypeId} {ds : List (DataW H)}
    (hv : Value.okWide Tryd.prog W r b0 41 v) (h : DataW.Trod enc Tryd.prog W 0 spare held 41 v d p) (hsz : (DataW.weightsEach Tryd.prog ts ds).all (· ≤ reachBytes) = true) {j : Nat} (ht : ts[j]? = some 41) (hd : ds[j]? = some d) :
    ∃ P : Pg, v = P.v ∧ P.In W := by
  simp only [Value.okWide, Tryd.underlying41] at hv
  obtain ⟨ca, rfl, _, _⟩ := hv
  obtain ⟨cs⟩ := ca
  obtain ⟨fuel, hf⟩ := h
  obtain ⟨P, e, hP⟩ := o_prog fuel cs (d, p) hf (small_weights hsz ht hd)
  exact ⟨P, by rw [e]; rfl, hP⟩
def tabInts : List Int := Lib.deBruijn64tab.map fun (n : Nat) => (n : Int)
theorem tab_of_laid {W : World} (h : laidMetH Tryd.prog [("math/bits.deBruijn64tab", Rows.laid_math_bits_deBruijn64tab)] W) : Alu.Tab W := by
  rw [MakeChecks.laidMetH_plain _ _ _ (by kernel_rfl)] at h
  have h' : laidMet Tryd.prog (("math/bits.deBruijn64tab", Lib.tabData .u8 tabInts) :: []) W := h
  have ht := Lib.tabIs_of_head (g := 2) (t := 163) (e := 5) (n := 64) (by kernel_rfl) (by kernel_rfl) (by kernel_rfl) (by kernel_rfl) (by kernel_rfl) (by kernel_rfl) h'
  intro j hj
  have hc := ht.cell (g := 2) (by kernel_rfl) j (by rw [show tabInts.length = 64 from rfl]; exact hj)
  rw [hc]
  have : ∀ i : Fin 64, tabInts.getD i.val 0 = ((Lib.deBruijn64tab.getD i.val 0 : Nat) : Int) := by decide +kernel
  rw [this ⟨j, hj⟩]
end Go.Proofs.YtbcdeanmjhcgeaaDoor.Opn
