/- Two states asked whether they are the same. No condition. -/
import Derived.Test.YtbcdeanmjhcgeaaDoorZk
import Derived.Test.YtbcdeanmjhcgeaaDoorZTx0
namespace Go.Proofs.YtbcdeanmjhcgeaaDoor.Tx
set_option linter.unusedVariables false
set_option linter.unusedSimpArgs false
open Go.RowKit Go.WideShapes Go.ChangeShapes
open Go.Proofs.YtbcdeanmjhcgeaaDoor.Pg
def numOf : Value → Int
  | .int _ n => n
  | .bool b => bi b
  | _ => 0
theorem nums_map (s : St) : s.cs.map numOf = nums s := by
  have h1 : ∀ l : List Int, (l.map (Value.int .i64)).map numOf = l := fun l => by
    rw [List.map_map]
    exact (List.map_congr_left (fun _ _ => rfl)).trans (List.map_id l)
  have h2 : ∀ c : Ch, (Ch.cs c).map numOf = cnums c := fun c => by
    unfold Ch.cs cnums
    rw [List.map_append, h1]
    rfl
  have h3 : ∀ g : Gr, (Gr.cs g).map numOf = gnums g := fun g => by
    unfold Gr.cs gnums
    rw [List.map_append, h1]
    rfl
  unfold St.cs nums
  simp only [List.map_append, h1, List.map_flatMap, h2, h3]
  rfl
theorem cs_inj {s t : St} (hs : s.ok) (ht : t.ok) (h : s.cs = t.cs) : s = t := nums_inj hs ht (by rw [← nums_map, ← nums_map, h])
set_option maxRecDepth 100000 in
theorem eq_two {s t : St} (hs : s.ok) (ht : t.ok) (W : World) : ∃ r : Bool, (Op.equalIn 10000 32 (.agg s.cs.toArray) (.agg t.cs.toArray)).run Tryd.prog W = .ok r W ∧ (r = true ↔ s = t) := by
  obtain ⟨lx, hx⟩ := st_key hs
  obtain ⟨ly, hy⟩ := st_key ht
  obtain ⟨r, hr, hiff⟩ := run_equal_deep W (m := Tryd.prog.types.size + 1) types_m key_t wide_t hx hy
  refine ⟨r, hr, hiff.trans ⟨fun e => ?_, fun e => ?_⟩⟩
  · have h1 := key_law.inj hx (e ▸ hy)
    unfold St.v at h1
    injection h1 with h1
    exact cs_inj hs ht (by simpa using congrArg Array.toList h1)
  · subst e
    rw [hx] at hy
    exact Option.some.inj hy
end Go.Proofs.YtbcdeanmjhcgeaaDoor.Tx
