/- A slice of states that came in, opened: each is a key, in a row. -/
import Derived.Test.YtbcdeanmjhcgeaaD5
import Derived.ProofKit
import Derived.Deep.Slices
import Derived.SizedLaws
namespace Go.Proofs.Ytbcdeanmjhcgeaa.Di
open Go.RowKit Go.Maps Go.ChangeShapes Go.WideShapes Go.Deep
theorem one_lit (l : Lit) : l.toCell.oneCell' = true := by cases l <;> rfl
theorem one_of_trod {H : Type} {enc : TypeId × Value → H} {w : World} {base : Nat} {spare : Nat → Bool} {held : Bool} {fuel : Nat} {cs : List Value} {x : DataW H × List MemPlace} (h : DataW.trod enc Try.prog w base spare held fuel 36 cs = some x) :
    cs.toArray.all (·.oneCell') = true := by
  obtain ⟨ls, hls⟩ := Dk.lits_of_trod _ _ fuel cs x keyT h
  have e := cells_of_lits _ _ (tiled_of_laidOut laid _ 36 (by kernel_rfl) keyT) _ _ _ hls
  refine all_oneCell_toArray fun v hv => ?_
  rw [e] at hv
  obtain ⟨l, _, rfl⟩ := List.mem_map.1 hv
  exact one_lit l
theorem bytesS : 8 ≤ Try.prog.bytesOf 36 := of_decide_eq_true (by kernel_rfl)
theorem open_sts {H : Type} {enc : TypeId × Value → H} {W : World} {spare : Nat → Bool} {held : Bool} {a : Option Addr} {n cap : Nat} {d : DataW H} {p : List MemPlace} {ts : List TypeId} {ds : List (DataW H)}
    (h : DataW.Trod enc Try.prog W 0 spare held 22 (.slice a n cap) d p) (hsz : (DataW.weightsEach Try.prog ts ds).all (· ≤ reachBytes) = true) {j : Nat} (ht : ts[j]? = some 22) (hd : ds[j]? = some d) :
    ∃ K, Sts a n K W ∧ n * 8 ≤ 140737488351232 := by
  obtain ⟨fuel, hf⟩ := h
  rcases open_slice Try.underlying22 hf with ⟨hcs, hx⟩ | ⟨x, len, cap', m, q, D, Pl, hcs, hb, hl, hm, hmm, hx, hel⟩
  · simp [Value.cells] at hcs
    obtain ⟨rfl, rfl, rfl⟩ := hcs
    exact ⟨fun _ => .string [], ⟨fun _ => trivial, .inl rfl⟩, by omega⟩
  · simp [Value.cells] at hcs
    obtain ⟨rfl, rfl, rfl⟩ := hcs
    simp only [Prod.mk.injEq] at hx
    obtain ⟨rfl, rfl⟩ := hx
    have hr : n * 8 ≤ 140737488351232 := by
      have := sized_slice hsz (e := 36) ht hd Try.underlying22
      simp only [List.length_map, List.length_range, reachBytes] at this
      have h2 := Nat.mul_le_mul_left n bytesS
      have h3 : n * Try.prog.bytesOf 36 ≤ (n + (m - n)) * Try.prog.bytesOf 36 := Nat.mul_le_mul_right _ (by omega)
      omega
    by_cases hn : n = 0
    · subst hn; exact ⟨fun _ => .string [], ⟨fun _ => trivial, .inl rfl⟩, by omega⟩
    have hnm : n ≤ m := by rw [hmm]; split <;> omega
    rw [cellsS] at hel
    obtain ⟨C, hC⟩ := choose_lt (α := List Value) (p := fun i cs => W.cells? 0 (x.add (i * 121)) 121 = some cs ∧ DataW.trod enc Try.prog W 0 spare held q 36 cs = some (D i, Pl i)) (n := n) (fun i hi => hel i (by omega))
    have hk : ∀ i, ∃ l, i < n → keyOf Try.prog 36 (.agg (C i).toArray) = some l := fun i => by
      by_cases hi : i < n
      · obtain ⟨l, hl⟩ := Dk.key_of_trod keyT wideT (hC i hi).2
        exact ⟨l, fun _ => hl⟩
      · exact ⟨.string [], fun h => absurd h hi⟩
    have hk' : ∀ i, ∃ l, WideAt.IsKeyLit l ∧ (i < n → keyOf Try.prog 36 (.agg (C i).toArray) = some l) := fun i => by
      by_cases hi : i < n
      · obtain ⟨l, hl⟩ := hk i
        exact ⟨l, is_key (hl hi), hl⟩
      · exact ⟨.string [], trivial, fun h => absurd h hi⟩
    have hK := fun i => (hk' i).choose_spec
    generalize hKK : (fun i => (hk' i).choose) = K at hK
    have hK2 : ∀ i, WideAt.IsKeyLit (K i) ∧ (i < n → keyOf Try.prog 36 (.agg (C i).toArray) = some (K i)) := fun i => by rw [← hKK]; exact hK i
    obtain ⟨b, off, spot⟩ := x
    obtain ⟨_, hl0, hc0⟩ := World.cells?_some (hC 0 (by omega)).1
    have h00 := hc0 0 (by omega)
    have hsome : (C 0)[0]? = some ((C 0)[0]'(by omega)) := List.getElem?_eq_getElem _
    rw [hsome] at h00
    have hspot : spot = none := by simpa [Addr.add] using World.cell?_spot h00
    subst hspot
    have hlt : b < W.heap.size := by
      rcases Nat.lt_or_ge b W.heap.size with h | h
      · exact h
      · simp [World.cell?, Addr.add, Array.getElem?_eq_none h] at h00
    refine ⟨K, ⟨fun i => (hK2 i).1, .inr ⟨b, off, fun i => (C i).toArray, rfl, ⟨hlt, fun i hi k v hv => ?_, fun i hi => ?_, fun i hi => one_of_trod (hC i hi).2, fun i hi => (hK2 i).2 hi, fun i => (hK2 i).1⟩⟩⟩, hr⟩
    · obtain ⟨_, hl, hc⟩ := World.cells?_some (hC i hi).1
      have hv : (C i)[k]? = some v := by simpa using hv
      have hk : k < 121 := by rw [← hl]; exact (List.getElem?_eq_some_iff.1 hv).1
      have := hc k hk
      rw [hv, add_plain, add_plain] at this
      exact this
    · obtain ⟨_, hl, _⟩ := World.cells?_some (hC i hi).1
      simpa using hl
end Go.Proofs.Ytbcdeanmjhcgeaa.Di
