/- SameInts of two rows that hold the same numbers; Distinct of no states. No condition. -/
import Derived.Test.YtbcdeanmjhcgeaaD2
import Derived.Deep.QuietTactic
namespace Go.Proofs.Ytbcdeanmjhcgeaa.Di
open Go.RowKit Go.Maps
/-- A slice of just these numbers. -/
def Ints (w : World) (a : Option Addr) (n : Nat) (zs : List Int) : Prop := zs.length = n ∧ (n = 0 ∨ ∃ b o, a = some ⟨b, o, none⟩ ∧ ∀ j, j < n → w.cell? ⟨b, o + j, none⟩ = some (.int .i64 (zs.getD j 0)))
theorem Ints.below {w w' : World} {a : Option Addr} {n : Nat} {zs : List Int} (h : Ints w a n zs) {B : Nat} (hb : Below B w w') (hB : ∀ x, a = some x → x.block < B) : Ints w' a n zs := by
  obtain ⟨h0, h1⟩ := h
  refine ⟨h0, h1.imp id ?_⟩
  rintro ⟨b, o, rfl, hc⟩
  exact ⟨b, o, rfl, fun j hj => (hb.cell (p := ⟨b, o + j, none⟩) (show b < B from hB ⟨b, o, none⟩ rfl)).trans (hc j hj)⟩
theorem ints_of_row {w : World} {base : Nat} {v : Value} {zs : List Int} (h : w.ownsRow base 3 1 v zs.length (zs.map (Value.int .i64))) : ∃ a cap, v = .slice a zs.length cap ∧ Ints w a zs.length zs ∧ ∀ x, a = some x → x.block < w.heap.size := by
  rcases h.2 with ⟨rfl, h0⟩ | ⟨g, cap', cur, rfl, hg, hh, hn, hcap, hsz, htake⟩
  · exact ⟨none, 0, by rw [h0], ⟨rfl, .inl h0⟩, fun _ h => by cases h⟩
  · refine ⟨some ⟨g, 0, none⟩, cap', rfl, ⟨rfl, .inr ⟨g, 0, rfl, fun j hj => ?_⟩⟩, fun x hx => by cases hx; exact (h.lt g rfl).2⟩
    rw [Nat.zero_add, h.cellAt j (by omega)]
    simp [List.getD, List.getElem?_eq_getElem hj]
set_option maxHeartbeats 4000000 in
set_option maxRecDepth 100000 in
theorem same_walk (a1 a2 : Option Addr) (c1 c2 n : Nat) (zs : List Int) (w : World) (hN : n ≤ 9223372036854775806) (h1 : Ints w a1 n zs) (h2 : Ints w a2 n zs) :
    Calls Try.prog 6 #[.slice a1 n c1, .slice a2 n c2] w fun e w' => e = .returned (.bool true) ∧ Below w.heap.size w w' := by
  by_cases hn : n = 0
  · subst hn
    go_enter Try.func6, Try.ntmps6
    go_wp2
    refine wp_loop_rounds 1 ?_
    rw [rounds_succ]
    go_wp2
    go_ret
    exact ⟨rfl, Below.refl _ _⟩
  · obtain ⟨_, h1⟩ := h1
    obtain ⟨_, h2⟩ := h2
    replace h1 := h1.resolve_left hn
    replace h2 := h2.resolve_left hn
    obtain ⟨b1, o1, rfl, h1⟩ := h1
    obtain ⟨b2, o2, rfl, h2⟩ := h2
    go_enter Try.func6, Try.ntmps6
    go_wp2
    go_loopw [13] (fun i wr => ∃ k : Nat, k ≤ n ∧ i = .int .i64 k ∧ wr = wr ∧ (∀ j, j < n → wr.cell? ⟨b1, o1 + j, none⟩ = some (.int .i64 (zs.getD j 0))) ∧ (∀ j, j < n → wr.cell? ⟨b2, o2 + j, none⟩ = some (.int .i64 (zs.getD j 0))) ∧ Below w.heap.size w wr) (fun i _ => n - (intOf i).toNat)
    case atStart => exact ⟨0, Nat.zero_le _, rfl, rfl, h1, h2, Below.refl _ _⟩
    case round =>
      obtain ⟨k, hk, rfl, _, g1, g2, hb⟩ := hrel
      have e1 : k < n → wr.cell? ⟨b1, o1 + k, none⟩ = some (.int .i64 (zs.getD k 0)) := g1 k
      have e2 : k < n → wr.cell? ⟨b2, o2 + k, none⟩ = some (.int .i64 (zs.getD k 0)) := g2 k
      go_wp2
      · have hkn : k < n := by assumption
        have f1 := e1 hkn
        have f2 := e2 hkn
        clear e1 e2
        go_quiet (fail)
        go_wp2
        go_roundw
        case rel => exact ⟨k + 1, by omega, by go_num, trivial, fun j hj => by simpa using g1 j hj, fun j hj => by simpa using g2 j hj, below_drewN hb _⟩
        case measure => simp [intOf]; omega
      · go_ret
        exact ⟨rfl, hb⟩
set_option maxHeartbeats 4000000 in
set_option maxRecDepth 100000 in
theorem distinct_none (a : Option Addr) (cap : Nat) (w : World) :
    Calls Try.prog 4 #[.slice a 0 cap] w fun e w' => e = .returned (.tuple #[.int .i64 0, .slice none 0 0]) ∧ Below w.heap.size w w' := by
  have hmm := @run_makeMap Try.prog
  go_enter Try.func4, Try.ntmps4
  go_wp2
  refine wp_loop_rounds 1 ?_
  rw [rounds_succ]
  go_wp2_with (first
    | (at_len; refine wpList_len_own _ rfl _ 39 rfl 36 3 Try.underlying39 (plainElem (H := Unit) Try.prog 3) w.heap.size 0 (.map []) rfl (World.ownsMap_made _ _ _ _) ?_)
    | go_in)
  refine bodyPost_ret (v := .tuple #[.int .i64 0, .slice none 0 0]) (by simp [results, Try.results4, Maps.size]) rfl ⟨rfl, (Below.refl _ _).alloc (Nat.le_refl _) _⟩
set_option maxHeartbeats 4000000 in
set_option maxRecDepth 100000 in
theorem rdistinct_none (a : Option Addr) (cap : Nat) (w : World) :
    Calls Try.prog 5 #[.slice a 0 cap] w fun e w' => e = .returned (.tuple #[.int .i64 0, .slice none 0 0]) ∧ Below w.heap.size w w' := by
  go_enter Try.func5, Try.ntmps5
  go_wp2
  refine wp_loop_rounds 1 ?_
  rw [rounds_succ]
  go_wp2
  refine bodyPost_ret (v := .tuple #[.int .i64 0, .slice none 0 0]) (by simp [results, Try.results5]) rfl ⟨rfl, Below.refl _ _⟩
/-- Distinct, of any states: a slice, nil or not. -/
structure Sts (a : Option Addr) (n : Nat) (K : Nat → Lit) (w : World) : Prop where
  isKey : ∀ j, WideAt.IsKeyLit (K j)
  row : n = 0 ∨ ∃ b off C, a = some ⟨b, off, none⟩ ∧ Row b off n C K w
theorem distinct_walk (a : Option Addr) (n cap : Nat) (K : Nat → Lit) (w : World) (hreach : n * 8 ≤ 140737488351232) (R : Sts a n K w) :
    Calls Try.prog 4 #[.slice a n cap] w fun e w' => ∃ x c, e = .returned (.tuple #[.int .i64 (dist (like K) n : Nat), .slice x n c]) ∧ Ints w' x n (fsts (like K) n) ∧ (∀ y, x = some y → y.block < w'.heap.size) ∧ Below w.heap.size w w' := by
  rcases R.row with rfl | ⟨b, off, C, rfl, R'⟩
  · exact (distinct_none a cap w).mono fun e w' h => ⟨none, 0, h.1, ⟨rfl, .inl rfl⟩, fun _ h => (by cases h), h.2⟩
  · refine (distinct_any b off n cap C K w hreach R').mono fun e w' h => ?_
    obtain ⟨v, he, hr, hb⟩ := h
    obtain ⟨x, c, rfl, hi, hx⟩ := ints_of_row hr
    rw [fsts_len] at he hi
    exact ⟨x, c, he, hi, hx, hb⟩
theorem rdistinct_walk (a : Option Addr) (n cap : Nat) (K : Nat → Lit) (w : World) (hreach : n * 8 ≤ 140737488351232) (R : Sts a n K w) :
    Calls Try.prog 5 #[.slice a n cap] w fun e w' => ∃ x c, e = .returned (.tuple #[.int .i64 (dist (like K) n : Nat), .slice x n c]) ∧ Ints w' x n (fsts (like K) n) ∧ (∀ y, x = some y → y.block < w'.heap.size) ∧ Below w.heap.size w w' := by
  rcases R.row with rfl | ⟨b, off, C, rfl, R'⟩
  · exact (rdistinct_none a cap w).mono fun e w' h => ⟨none, 0, h.1, ⟨rfl, .inl rfl⟩, fun _ h => (by cases h), h.2⟩
  · refine (rdistinct_any b off n cap C K w hreach R').mono fun e w' h => ?_
    obtain ⟨v, he, hr, hb⟩ := h
    obtain ⟨x, c, rfl, hi, hx⟩ := ints_of_row hr
    rw [fsts_len] at he hi
    exact ⟨x, c, he, hi, hx, hb⟩
end Go.Proofs.Ytbcdeanmjhcgeaa.Di
