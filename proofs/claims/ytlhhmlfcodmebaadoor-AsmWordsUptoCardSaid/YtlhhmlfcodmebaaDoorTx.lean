/- Lists of texts in memory, and that two like ones are told so. No condition. -/
import Derived.Test.YtlhhmlfcodmebaaDoorWn
import Derived.Deep.AppendLies
import Derived.Laws.AppendOwn
import Derived.Laws.OwnMore
import Derived.OwnWalk
namespace Go.Proofs.YtlhhmlfcodmebaaDoor.Wd
open Go.RowKit Go.WideShapes Go.ChangeShapes
set_option linter.unusedVariables false
set_option linter.unusedSimpArgs false
theorem owns_below {w w' : World} {base e size n : Nat} {v : Value} {xs : List Value} (h : w.ownsRow base e size v n xs) (hb : Below w.heap.size w w') : w'.ownsRow base e size v n xs := by
  obtain ⟨h1, h2⟩ := h
  refine ⟨h1, ?_⟩
  rcases h2 with h2 | ⟨g, cap, cur, hv, hbg, hg, r⟩
  · exact .inl h2
  · exact .inr ⟨g, cap, cur, hv, hbg, (hb.block g ((Array.getElem?_eq_some_iff.1 hg).1)).trans hg, r⟩
theorem owns_cap {w : World} {base e size n cap : Nat} {a : Option Addr} {xs : List Value} (h : w.ownsRow base e size (.slice a n cap) n xs) : n ≤ cap := by
  rcases h.2 with ⟨hv, hn⟩ | ⟨g, cap', cur, hv, hbg, hg, r, _⟩
  · omega
  · injection hv with _ _ h3; omega
theorem info_str : (Tryd.prog.info? 9).map (fun i => (i.zero, i.size, i.bytes)) = some (some (.string ⟨#[]⟩), 1, 16) := by kernel_rfl
/-- A list of texts of one's own. -/
def Txts (n0 : Nat) (w : World) (v : Value) (xs : List ByteArray) : Prop := w.ownsRow n0 9 1 v xs.length (xs.map Value.string)
theorem Txts.below {n0 : Nat} {w w' : World} {v : Value} {xs : List ByteArray} (h : Txts n0 w v xs) (hb : Below w.heap.size w w') : Txts n0 w' v xs := owns_below h hb
theorem Txts.parts {n0 : Nat} {w : World} {v : Value} {xs : List ByteArray} (h : Txts n0 w v xs) :
    ∃ a cap, v = .slice a xs.length cap ∧ xs.length ≤ cap ∧ (xs ≠ [] → ∃ g, a = some ⟨g, 0, none⟩ ∧ n0 ≤ g ∧ g < w.heap.size ∧ ∀ k x, xs[k]? = some x → w.cell? ⟨g, k, none⟩ = some (.string x)) := by
  have hl := World.ownsRow.lt h
  have hc := fun g (hg : v.ownBlock = some g) => World.ownsRow.cells h (g := g) hg
  have h2 := h.2
  rcases h2 with ⟨hv, h0⟩ | ⟨g, cap, cur, hv, hbg, hg, hn, _⟩
  · subst hv
    exact ⟨none, 0, by rw [h0], by omega, fun hx => absurd (List.eq_nil_of_length_eq_zero h0) hx⟩
  · subst hv
    refine ⟨some ⟨g, 0, none⟩, cap, rfl, hn, fun _ => ⟨g, rfl, (hl g rfl).1, (hl g rfl).2, fun k x hk => ?_⟩⟩
    have := hc g rfl k (.string x) (by rw [List.getElem?_map, hk]; rfl)
    rwa [Addr.add_lit, Nat.zero_add] at this
set_option maxHeartbeats 8000000 in
set_option maxRecDepth 100000 in
theorem texts_same (n0 n1 : Nat) (w : World) (u v : Value) (xs : List ByteArray) (hu : Txts n0 w u xs) (hv : Txts n1 w v xs) (hl : xs.length ≤ 281474976710656) :
    Calls Tryd.prog 7 #[u, v] w fun e w' => e = .returned (.bool true) ∧ Below w.heap.size w w' := by
  obtain ⟨a, c, rfl, h1, ha⟩ := hu.parts
  obtain ⟨b, d, rfl, h2, hb⟩ := hv.parts
  clear hu hv
  have h := Lib.hid (And.intro ha hb)
  clear ha hb
  go_enter Tryd.func7, Tryd.ntmps7
  go_wp2
  go_loopw [13] (fun i wr => ∃ k : Nat, k ≤ xs.length ∧ i = .int .i64 k ∧ Below w.heap.size w wr) (fun i _ => xs.length - (intOf i).toNat)
  case atStart => exact ⟨0, by omega, rfl, Below.refl _ _⟩
  case round =>
    obtain ⟨k, hk, rfl, hB⟩ := hrel
    by_cases hkn : k < xs.length
    · have hne : xs ≠ [] := fun e => by rw [e] at hkn; simp at hkn
      obtain ⟨g, rfl, g0, g1, gc⟩ := h.out.1 hne
      obtain ⟨g', rfl, g0', g1', gc'⟩ := h.out.2 hne
      have hx := List.getElem?_eq_getElem hkn
      have c1 := hB.cell (p := ⟨g, k, none⟩) g1
      have c2 := hB.cell (p := ⟨g', k, none⟩) g1'
      rw [gc k _ hx] at c1
      rw [gc' k _ hx] at c2
      generalize xs[k] = x at *
      clear h gc gc' hx
      go_wp2
      go_region
      all_goals go_wp2
      all_goals go_roundw
      all_goals first
        | exact ⟨k + 1, by omega, by go_num, by repeat (first | exact hB | (with_reducible refine Below.drew ?_) | (with_reducible refine below_drewN ?_ _))⟩
        | (simp [intOf]; omega)
    · obtain rfl : k = xs.length := by omega
      go_wp2
      go_ret
      exact ⟨rfl, hB⟩
end Go.Proofs.YtlhhmlfcodmebaaDoor.Wd
