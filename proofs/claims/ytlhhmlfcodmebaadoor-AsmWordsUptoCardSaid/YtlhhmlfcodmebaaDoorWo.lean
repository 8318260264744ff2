/- What the row's head gives AsmWords: the table, the two errors, the library's own cell. No condition. -/
import Derived.Test.YtlhhmlfcodmebaaDoorWl
import Derived.Stop.LaidErr
namespace Go.Proofs.YtlhhmlfcodmebaaDoor.Wd
open Go.RowKit Go.WideShapes Go.ChangeShapes
theorem row_err (u : TypeId) (h : Tryd.prog.typeName? 3 u = some "*errors.errorString") : u = 72 :=
  typeName_ptr_named (nm := "errors.errorString") (by rw [show "*" ++ "errors.errorString" = "*errors.errorString" by decide]; kernel_rfl) (by kernel_rfl) (by decide) u (by rw [show "*" ++ "errors.errorString" = "*errors.errorString" by decide]; exact h)
theorem cell_of_var {P : Program} {w : World} {n : String} {g : Nat} {v : Value} (hg : P.globalNamed n = some g) (h : w.var? P n = some #[v]) : w.cell? ⟨g, 0, none⟩ = some v := by
  unfold World.var? at h
  rw [hg, Option.bind_some] at h
  split at h
  · next cs t f hc =>
    obtain rfl := Option.some.inj h
    simp [World.cell?, hc]
  · cases h
theorem lies_of_laid {W : World} (h : laidMetH Tryd.prog Rows.asmWordsUptoRow.laid W) (hsh : W.ShapedOpen Tryd.prog) : Lies W := by
  rw [MakeChecks.laidMetH_plain _ _ _ (by kernel_rfl)] at h
  have h' : laidMet Tryd.prog (("math/bits.deBruijn32tab", Rows.laid_math_bits_deBruijn32tab) :: ("math/bits.deBruijn64tab", Rows.laid_math_bits_deBruijn64tab) :: ("internal/strconv.uint64pow10", Lib.tabData .u64 Lib.pow10Tab) :: ("strconv.ErrRange", .iface "*errors.errorString" (.ptr (.agg [.lit (.string [118, 97, 108, 117, 101, 32, 111, 117, 116, 32, 111, 102, 32, 114, 97, 110, 103, 101])]))) :: [("strconv.ErrSyntax", .iface "*errors.errorString" (.ptr (.agg [.lit (.string [105, 110, 118, 97, 108, 105, 100, 32, 115, 121, 110, 116, 97, 120])])))]) W := h
  refine ⟨Tryd.laysM145.s1_3 W hsh, Lib.tabIs_of_head (g := 2) (t := 65) (e := 33) (n := 20) (by kernel_rfl) (by kernel_rfl) (by kernel_rfl) (by kernel_rfl) (by kernel_rfl) (by kernel_rfl) h'.tail.tail, ?_, ?_⟩
  · obtain ⟨a, s, hv, _⟩ := laid_sentinel (g := 0) (ti := 29) h'.tail.tail.tail.tail (by kernel_rfl) (by kernel_rfl) Tryd.underlying29 row_err Tryd.underlying72 Tryd.underlying74 rfl rfl Tryd.underlying9 (by kernel_rfl) (by kernel_rfl)
    exact ⟨_, cell_of_var (by kernel_rfl) hv, .inr ⟨_, _, rfl⟩⟩
  · obtain ⟨a, s, hv, _⟩ := laid_sentinel (g := 1) (ti := 29) h'.tail.tail.tail (by kernel_rfl) (by kernel_rfl) Tryd.underlying29 row_err Tryd.underlying72 Tryd.underlying74 rfl rfl Tryd.underlying9 (by kernel_rfl) (by kernel_rfl)
    exact ⟨_, cell_of_var (by kernel_rfl) hv, .inr ⟨_, _, rfl⟩⟩
theorem words_at (a b : ByteArray) (W : World) (hL : laidMetH Tryd.prog Rows.asmWordsUptoRow.laid W) (hsh : W.ShapedOpen Tryd.prog) (ha : a.size ≤ 1048576) (hb : b.size ≤ 1048576) :
    Calls Tryd.prog 3 #[.string a, .string b] W fun e w' => e = .returned (.bool true) ∧ Below W.heap.size W w' := words_law a b W (lies_of_laid hL hsh) ha hb
end Go.Proofs.YtlhhmlfcodmebaaDoor.Wd
