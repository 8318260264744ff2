/- An array of six numbers that came in: what it reads as. -/
import Derived.Test.YtfhdmknplpgiiaaDoorCk
import Derived.ChangeSame
import Derived.OpenShut
namespace Go.Proofs.YtfhdmknplpgiiaaDoor.Ck
open Go.ChangeShapes Go.WideShapes Go.RowKit
variable {H : Type} {enc : TypeId × Value → H} {P : Program} {w : World} {base : Nat} {spare : Nat → Bool} {held : Bool}
/-- Each of the six is an int. -/
def wf6 (x : C6) : Prop := (Lit.int .i64 x.a).wf = true ∧ (Lit.int .i64 x.b).wf = true ∧ (Lit.int .i64 x.c).wf = true ∧ (Lit.int .i64 x.d).wf = true ∧ (Lit.int .i64 x.e).wf = true ∧ (Lit.int .i64 x.f).wf = true
theorem open_arr6 {r : Reach} {b0 : Nat} {t e : TypeId} {v : Value} {d : DataW H} {p : List MemPlace} (ht : P.underlying t = some (.array 6 e)) (he : P.underlying e = some (.int .i64)) (hce : P.cellsOf e = 1) (hC : P.cellsOf t = 6)
    (hv : Value.okWide P w r b0 t v) (h : DataW.Trod enc P w base spare held t v d p) : ∃ x : C6, v = x.v ∧ wf6 x ∧ p = [] := by
  simp only [Value.okWide, ht] at hv
  obtain ⟨cs, rfl, hsz, _⟩ := hv
  obtain ⟨l⟩ := cs
  match l, hsz.trans hC with
  | [c0, c1, c2, c3, c4, c5], _ =>
    obtain ⟨fuel, hf⟩ := h
    obtain ⟨xs, m, _, hx, _, hlen, hg⟩ := DataW.trod_array ht hf
    rw [hce] at hg
    match xs, hlen with
    | [y0, y1, y2, y3, y4, y5], _ =>
      have g0 := hg 0 (by omega); have g1 := hg 1 (by omega); have g2 := hg 2 (by omega); have g3 := hg 3 (by omega); have g4 := hg 4 (by omega); have g5 := hg 5 (by omega)
      simp [Value.cells] at g0 g1 g2 g3 g4 g5
      obtain ⟨n0, h0, hx0, w0⟩ := DataW.trod_int he g0
      obtain ⟨n1, h1, hx1, w1⟩ := DataW.trod_int he g1
      obtain ⟨n2, h2, hx2, w2⟩ := DataW.trod_int he g2
      obtain ⟨n3, h3, hx3, w3⟩ := DataW.trod_int he g3
      obtain ⟨n4, h4, hx4, w4⟩ := DataW.trod_int he g4
      obtain ⟨n5, h5, hx5, w5⟩ := DataW.trod_int he g5
      simp at h0 h1 h2 h3 h4 h5
      subst h0; subst h1; subst h2; subst h3; subst h4; subst h5
      subst hx0; subst hx1; subst hx2; subst hx3; subst hx4; subst hx5
      simp only [Prod.mk.injEq] at hx
      exact ⟨⟨n0, n1, n2, n3, n4, n5⟩, rfl, ⟨w0, w1, w2, w3, w4, w5⟩, by simpa using hx.2⟩
end Go.Proofs.YtfhdmknplpgiiaaDoor.Ck
