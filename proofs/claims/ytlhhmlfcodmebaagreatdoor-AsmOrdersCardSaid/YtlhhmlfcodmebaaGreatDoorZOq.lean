/- What the row's head gives: the table, the two errors, the library's own cell; AsmParses opened. No condition. -/
import Derived.Test.YtlhhmlfcodmebaaGreatDoorZf
import Derived.Test.YtlhhmlfcodmebaaGreatDoorZg
import Derived.Test.YtlhhmlfcodmebaaGreatDoorRows
import Derived.LaidMore
import Derived.Stop.Joined
import Derived.OpenShut
import Derived.Stop.LaidErr
namespace Go.Proofs.YtlhhmlfcodmebaaGreatDoor.Wd
set_option linter.unusedVariables false
set_option linter.unusedSimpArgs false
open Go.RowKit Go.WideShapes Go.ChangeShapes
theorem row_err (u : TypeId) (h : Tryz.prog.typeName? 3 u = some "*errors.errorString") : u = 200 :=
  typeName_ptr_named (nm := "errors.errorString") (by rw [show "*" ++ "errors.errorString" = "*errors.errorString" by decide]; kernel_rfl) (by kernel_rfl) (by decide) u (by rw [show "*" ++ "errors.errorString" = "*errors.errorString" by decide]; exact h)
theorem cell_of_var {P : Program} {w : World} {n : String} {g : Nat} {v : Value} (hg : P.globalNamed n = some g) (h : w.var? P n = some #[v]) : w.cell? ⟨g, 0, none⟩ = some v := by
  unfold World.var? at h
  rw [hg, Option.bind_some] at h
  split at h
  · next cs t f hc =>
    obtain rfl := Option.some.inj h
    simp [World.cell?, hc]
  · cases h
theorem lies_of_laid {W : World} (h : laidMetH Tryz.prog Rows.asmParsesRow.laid W) (hsh : W.ShapedOpen Tryz.prog) : Lies W := by
  rw [MakeChecks.laidMetH_plain _ _ _ (by kernel_rfl)] at h
  have h' : laidMet Tryz.prog (("math/bits.deBruijn32tab", Rows.laid_math_bits_deBruijn32tab) :: ("math/bits.deBruijn64tab", Rows.laid_math_bits_deBruijn64tab) :: ("internal/strconv.uint64pow10", Lib.tabData .u64 Lib.pow10Tab) :: ("strconv.ErrRange", .iface "*errors.errorString" (.ptr (.agg [.lit (.string [118, 97, 108, 117, 101, 32, 111, 117, 116, 32, 111, 102, 32, 114, 97, 110, 103, 101])]))) :: [("strconv.ErrSyntax", .iface "*errors.errorString" (.ptr (.agg [.lit (.string [105, 110, 118, 97, 108, 105, 100, 32, 115, 121, 110, 116, 97, 120])])))]) W := h
  refine ⟨Tryz.laysM145.s1_3 W hsh, Lib.tabIs_of_head (g := 1) (t := 174) (e := 155) (n := 20) (by kernel_rfl) (by kernel_rfl) (by kernel_rfl) (by kernel_rfl) (by kernel_rfl) (by kernel_rfl) h'.tail.tail, ?_, ?_⟩
  · obtain ⟨a, s, hv, _⟩ := laid_sentinel (g := 4) (ti := 98) h'.tail.tail.tail.tail (by kernel_rfl) (by kernel_rfl) Tryz.underlying98 row_err Tryz.underlying200 Tryz.underlying202 rfl rfl Tryz.underlying9 (by kernel_rfl) (by kernel_rfl)
    exact ⟨_, cell_of_var (by kernel_rfl) hv, .inr ⟨_, _, rfl⟩⟩
  · obtain ⟨a, s, hv, _⟩ := laid_sentinel (g := 5) (ti := 98) h'.tail.tail.tail (by kernel_rfl) (by kernel_rfl) Tryz.underlying98 row_err Tryz.underlying200 Tryz.underlying202 rfl rfl Tryz.underlying9 (by kernel_rfl) (by kernel_rfl)
    exact ⟨_, cell_of_var (by kernel_rfl) hv, .inr ⟨_, _, rfl⟩⟩
end Go.Proofs.YtlhhmlfcodmebaaGreatDoor.Wd
