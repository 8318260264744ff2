/- Rows of cells written into a block that a call has laid; a whole state written and handed back. -/
import Derived.Test.YtbcdeanmjhcgeaaDoorZL3
import Derived.Test.YtbcdeanmjhcgeaaDoorZV8
import Derived.Laws.Tables
namespace Go.Proofs.YtbcdeanmjhcgeaaDoor.Pg
set_option linter.unusedVariables false
set_option linter.unusedSimpArgs false
open Go.ChangeShapes Go.WideShapes Go.RowKit
set_option linter.unusedVariables false
/-- An array, a row of it written anew. -/
def putRow (arr : Array Value) : Nat → List Value → Array Value
  | _, [] => arr
  | o, v :: vs => putRow (arr.setIfInBounds o v) (o + 1) vs
theorem putRow_size (vs : List Value) : ∀ (arr : Array Value) (o : Nat), (putRow arr o vs).size = arr.size := by
  induction vs with
  | nil => intro arr o; rfl
  | cons v vs ih => intro arr o; unfold putRow; rw [ih, Array.size_setIfInBounds]
theorem putRow_list (vs : List Value) : ∀ (arr : Array Value) (o : Nat), o + vs.length ≤ arr.size → (putRow arr o vs).toList = arr.toList.take o ++ vs ++ arr.toList.drop (o + vs.length) := by
  induction vs with
  | nil => intro arr o h; simp [putRow]
  | cons v vs ih =>
    intro arr o h
    simp only [List.length_cons] at h
    unfold putRow
    rw [ih _ _ (by rw [Array.size_setIfInBounds]; omega), Array.toList_setIfInBounds]
    rw [List.take_set, List.drop_set_of_lt (by omega), List.length_cons, show o + (vs.length + 1) = o + 1 + vs.length by omega]
    rw [List.take_succ_eq_append_getElem (by simp; omega), List.set_append, if_neg (by simp; omega)]
    simp [show min o arr.size = o by omega]
theorem putRow_all (arr : Array Value) (vs : List Value) (h : vs.length = arr.size) : putRow arr 0 vs = vs.toArray := by
  apply Array.toList_inj.1
  rw [putRow_list _ _ _ (by omega)]
  simp [h]
theorem Env.setRow {w : World} {b : Nat} {bs : List (Nat × Array Value)} (hb : w.heap.size ≤ b) (ne : ∀ p ∈ bs, p.1 ≠ b) (vs : List Value) :
    ∀ (arr : Array Value) (o : Nat) (W : World), Env w ((b, arr) :: bs) W → o + vs.length ≤ arr.size → Env w ((b, putRow arr o vs) :: bs) (W.setCells b o vs) := by
  induction vs with
  | nil => intro arr o W E h; exact E
  | cons v vs ih =>
    intro arr o W E h
    simp only [List.length_cons] at h
    exact ih _ _ _ (E.set hb ne o (by omega) v) (by rw [Array.size_setIfInBounds]; omega)
theorem Blk.cast {b : Nat} {arr arr' : Array Value} {W : World} (h : Blk b arr W) (e : arr = arr') : Blk b arr' W := e ▸ h
theorem Blk.there {b : Nat} {arr : Array Value} {W : World} (B : Blk b arr W) (o n : Nat) (h : o + n ≤ arr.size) : W.there b o n := fun j hj =>
  ⟨by rw [B.cell, Array.getElem?_eq_getElem (by omega)]; rfl, B.fr _⟩
/-- The state of nothing. -/
def St.none : St := ⟨[0, 0, 0, 0, 0, 0, 0, 0], [0, 0, 0, 0], [default, default, default, default], [default, default, default, default, default, default], 0⟩
theorem St.none_ok : St.none.ok where
  vars x hx := by simp [St.none] at hx; subst hx; exact ⟨by decide, by decide⟩
  owner x hx := by simp [St.none] at hx; subst hx; exact ⟨by decide, by decide⟩
  chans x hx := by
    simp [St.none] at hx; subst hx
    exact ⟨fun y hy => by have hy : y ∈ ([0, 0, 0, 0] : List Int) := hy; simp at hy; subst hy; exact ⟨by decide, by decide⟩, rfl, ⟨by decide, by decide⟩, ⟨by decide, by decide⟩, ⟨by decide, by decide⟩, ⟨by decide, by decide⟩⟩
  gos x hx := by
    simp [St.none] at hx; subst hx
    exact ⟨⟨by decide, by decide⟩, ⟨by decide, by decide⟩, ⟨by decide, by decide⟩, ⟨by decide, by decide⟩, fun y hy => by have hy : y ∈ ([0, 0, 0, 0, 0, 0, 0, 0] : List Int) := hy; simp at hy; subst hy; exact ⟨by decide, by decide⟩, rfl⟩
  count := ⟨by decide, by decide⟩
  lv := rfl
  lo := rfl
  lc := rfl
  lg := rfl
theorem built_none : Tryd.prog.built 32 [] = some St.none.cs.toArray := by kernel_rfl
theorem zero_state : (Tryd.prog.info? 32).map (·.zero) = some (some (.agg St.none.cs.toArray)) := by kernel_rfl
theorem St.one_cell {s : St} : s.cs.toArray.all (·.oneCell') = true := by
  refine all_oneCell_toArray fun v hv => ?_
  simp only [St.cs, List.mem_append, List.mem_map, List.mem_flatMap, Ch.cs, Gr.cs, List.mem_cons, List.not_mem_nil, or_false] at hv
  rcases hv with ⟨_, _, rfl⟩ | ⟨_, _, rfl⟩ | ⟨_, _, ⟨_, _, rfl⟩ | rfl | rfl | rfl | rfl | rfl⟩ | ⟨_, _, (rfl | rfl | rfl | rfl) | ⟨_, _, rfl⟩⟩ | rfl <;> rfl
theorem load_st {b : Nat} {s : St} (h : s.ok) {W : World} (B : Blk b s.cs.toArray W) : (loadVar 32 ⟨b, 0, none⟩).run Tryd.prog W = .ok s.v W := by
  unfold St.v
  simpa using run_loadVar_mid W b 0 32 s.cs.toArray.toList _ B.range Tryd.underlying32 rfl (by rw [size32, Array.length_toList]; simp [St.cs_len h])
end Go.Proofs.YtbcdeanmjhcgeaaDoor.Pg
