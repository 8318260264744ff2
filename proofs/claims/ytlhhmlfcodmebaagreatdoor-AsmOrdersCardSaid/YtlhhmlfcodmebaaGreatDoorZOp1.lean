/- What came in as data, opened: ints, arrays, lists in memory, structs (no states here). No condition. -/
import Derived.Test.YtlhhmlfcodmebaaGreatDoorZa
import Derived.Deep.Slices
import Derived.DeepKeys2
import Derived.OpenShut
import Derived.SizedLaws
namespace Go.Proofs.YtlhhmlfcodmebaaGreatDoor.Opn
set_option linter.unusedVariables false
set_option linter.unusedSimpArgs false
open Go.RowKit Go.ChangeShapes Go.WideShapes Go.Deep
open Go.Proofs.YtlhhmlfcodmebaaGreatDoor.Pg (I64 Lies Len)
section
variable {H : Type} {enc : TypeId × Value → H} {P : Program} {w : World} {base : Nat} {spare : Nat → Bool} {held : Bool}
/-- What is read at a type are just the cells of some y. -/
def Opens (enc : TypeId × Value → H) (P : Program) (w : World) (base : Nat) (spare : Nat → Bool) (held : Bool) (t : TypeId) {α : Type} (f : α → List Value) (R : α → Prop) : Prop :=
  ∀ (fuel : Nat) (cs : List Value) (x : DataW H × List MemPlace), DataW.trod enc P w base spare held fuel t cs = some x → (∀ n ∈ x.1.weights P t, n ≤ reachBytes) → ∃ y, cs = f y ∧ R y
theorem i64_wf {n : Int} (h : (Lit.int .i64 n).wf = true) : I64 n := by
  simp [Lit.wf, IntKind.min, IntKind.max, IntKind.signed, IntKind.bits] at h
  exact h
def ci (n : Int) : List Value := [.int .i64 n]
def cb (b : Bool) : List Value := [.bool b]
theorem opens_int {t : TypeId} (hu : P.underlying t = some (.int .i64)) : Opens enc P w base spare held t ci I64 := fun fuel cs x h _ => by
  obtain ⟨n, rfl, _, hw⟩ := DataW.trod_int hu h
  exact ⟨n, rfl, i64_wf hw⟩
theorem opens_bool {t : TypeId} (hu : P.underlying t = some .bool) : Opens enc P w base spare held t cb (fun _ => True) := fun fuel cs x h _ => by
  obtain ⟨n, rfl, _⟩ := DataW.trod_bool hu h
  exact ⟨n, rfl, trivial⟩
theorem weightsAll_mem {e : TypeId} : ∀ {l : List (DataW H)} {d : DataW H}, d ∈ l → ∀ n ∈ d.weights P e, n ∈ DataW.weightsAll P e l
  | [], _, h, _, _ => by cases h
  | x :: l, d, h, n, hn => by
    rcases List.mem_cons.1 h with rfl | h
    · simp only [DataW.weightsAll, List.mem_append]; exact .inl hn
    · simp only [DataW.weightsAll, List.mem_append]; exact .inr (weightsAll_mem h n hn)
theorem opens_arr {α : Type} [Inhabited α] {f : α → List Value} {R : α → Prop} {t e : TypeId} {n : Nat} (hu : P.underlying t = some (.array n e)) (hc : P.cellsOf t = n * P.cellsOf e) (h : Opens enc P w base spare held e f R) :
    Opens enc P w base spare held t (fun l : List α => l.flatMap f) (fun l => l.length = n ∧ ∀ y ∈ l, R y) := fun fuel cs x hx hw => by
  obtain ⟨xs, m, rfl, e1, hl, hn, hi⟩ := DataW.trod_array hu hx
  subst e1
  have hY : ∀ i, i < n → ∃ y, (cs.drop (i * P.cellsOf e)).take (P.cellsOf e) = f y ∧ R y := fun i hi' => by
    have h1 := hi i hi'
    rw [List.getElem?_eq_getElem (by omega)] at h1
    refine h m _ _ h1 fun k hk => hw k ?_
    simp only [DataW.weights, hu]
    exact weightsAll_mem (List.mem_map.2 ⟨_, List.getElem_mem _, rfl⟩) k hk
  obtain ⟨Y, hY⟩ := choose_lt hY
  refine ⟨(List.range n).map Y, ?_, by simp, ?_⟩
  · have h1 := chunks_flatten (P.cellsOf e) n cs (by rw [hl, hc])
    refine h1.symm.trans ?_
    show _ = ((List.range n).map Y).flatMap f
    rw [List.flatMap_def, List.map_map]
    congr 1
    exact List.map_congr_left fun i hi' => (hY i (by simpa using hi')).1
  · intro y hy
    obtain ⟨i, hi', rfl⟩ := List.mem_map.1 hy
    exact (hY i (by simpa using hi')).2
theorem flat_at {α : Type} {f : α → List Value} {c : Nat} : ∀ {l : List α} (_ : ∀ x ∈ l, (f x).length = c) {j : Nat} {v : Value}, (l.flatMap f)[j]? = some v → ∃ i r x, l[i]? = some x ∧ (f x)[r]? = some v ∧ j = i * c + r
  | [], _, j, v, h => by simp at h
  | y :: l, hf, j, v, h => by
    have hy := hf y (List.mem_cons_self ..)
    rw [List.flatMap_cons] at h
    by_cases hj : j < (f y).length
    · rw [List.getElem?_append_left hj] at h
      exact ⟨0, j, y, rfl, h, by omega⟩
    · rw [List.getElem?_append_right (by omega)] at h
      obtain ⟨i, r, x, h1, h2, h3⟩ := flat_at (fun x hx => hf x (List.mem_cons_of_mem _ hx)) h
      exact ⟨i + 1, r, x, by simpa using h1, h2, by rw [Nat.succ_mul]; omega⟩
/-- A list in memory: where, with what room, of what. -/
structure Ls (α : Type) where (a : Option Addr) (cap : Nat) (l : List α)
def cl {α : Type} (s : Ls α) : List Value := [.slice s.a s.l.length s.cap]
theorem opens_list {α : Type} [Inhabited α] {f : α → List Value} {R : α → Prop} {t e : TypeId} {c : Nat} (hu : P.underlying t = some (.slice e)) (hc : P.cellsOf e = c) (h0 : 0 < c) (hb : 1 ≤ P.bytesOf e) (h : Opens enc P w base spare held e f R) :
    Opens enc P w base spare held t cl (fun s : Ls α => Lies w s.a (s.l.flatMap f) ∧ (∀ y ∈ s.l, R y) ∧ Len s.l.length) := fun fuel cs x hx hw => by
  rcases open_slice hu hx with ⟨rfl, rfl⟩ | ⟨a, len, cap, m, q, D, Pl, rfl, _, hl, hm, hmm, rfl, hel⟩
  · exact ⟨⟨none, 0, []⟩, rfl, .inl rfl, by simp, by unfold Len; simp⟩
  have hnm : len ≤ m := by rw [hmm]; split <;> omega
  have hY : ∀ i, i < len → ∃ y, w.cells? base (a.add (i * c)) c = some (f y) ∧ R y := fun i hi => by
    obtain ⟨cs', h1, h2⟩ := hel i (by omega)
    rw [hc] at h1
    obtain ⟨y, rfl, hy⟩ := h q cs' _ h2 fun k hk => hw k (by
      simp only [DataW.weights, hu, List.mem_cons, List.mem_append]
      exact .inr (.inl (weightsAll_mem (List.mem_map.2 ⟨i, by simpa using hi, rfl⟩) k hk)))
    exact ⟨y, h1, hy⟩
  have hr : len ≤ reachBytes := by
    have h1 := hw ((((List.range len).map D).length + ((List.range (m - len)).map fun j => D (len + j)).length) * P.bytesOf e) (by simp [DataW.weights, hu])
    simp only [List.length_map, List.length_range] at h1
    have h2 := Nat.mul_le_mul_left (len + (m - len)) hb
    omega
  obtain ⟨Y, hY⟩ := choose_lt hY
  have hlen : ∀ x ∈ (List.range len).map Y, (f x).length = c := fun x hx => by
    obtain ⟨i, hi, rfl⟩ := List.mem_map.1 hx
    exact (World.cells?_some (hY i (by simpa using hi)).1).2.1
  refine ⟨⟨a, cap, (List.range len).map Y⟩, by simp [cl], ?_, ?_, ?_⟩
  · by_cases hn : len = 0
    · subst hn; exact .inl rfl
    · obtain ⟨b, off, spot⟩ := a
      obtain ⟨_, hl0, hc0⟩ := World.cells?_some (hY 0 (by omega)).1
      have h00 := hc0 0 h0
      rw [List.getElem?_eq_getElem (by omega)] at h00
      have hspot : spot = none := by simpa [Addr.add] using World.cell?_spot h00
      subst hspot
      have hlt : b < w.heap.size := by
        rcases Nat.lt_or_ge b w.heap.size with h | h
        · exact h
        · simp [World.cell?, Addr.add, Array.getElem?_eq_none h] at h00
      refine .inr ⟨b, off, rfl, hlt, fun j v hv => ?_⟩
      obtain ⟨i, r, y, h1, h2, rfl⟩ := flat_at hlen hv
      have hi : i < len := by have := (List.getElem?_eq_some_iff.1 h1).1; simpa using this
      obtain ⟨_, hli, hci⟩ := World.cells?_some (hY i hi).1
      have hyi : y = Y i := by simp [hi] at h1; exact h1.symm
      subst hyi
      have hrl : r < c := by rw [← hli]; exact (List.getElem?_eq_some_iff.1 h2).1
      have := hci r hrl
      rw [h2, add_plain, add_plain] at this
      rw [← Nat.add_assoc]; exact this
  · intro y hy
    obtain ⟨i, hi', rfl⟩ := List.mem_map.1 hy
    exact (hY i (by simpa using hi')).2
  · unfold Len; simp only [List.length_map, List.length_range]; unfold reachBytes at hr; omega
theorem cut (cs : List Value) (o c : Nat) : cs.drop o = (cs.drop o).take c ++ cs.drop (o + c) := by rw [← List.drop_drop, List.take_append_drop]
/-- The field of a struct. -/
theorem field {α : Type} {f : α → List Value} {R : α → Prop} {t : TypeId} {fs : Array Field} {fuel : Nat} {cs : List Value} {x : DataW H × List MemPlace} (hu : P.underlying t = some (.struct fs)) (h : DataW.trod enc P w base spare held fuel t cs = some x)
    (hw : ∀ n ∈ x.1.weights P t, n ≤ reachBytes) (i : Nat) (fl : Field) (hf : fs[i]? = some fl) (u o c : Nat) (hu' : fl.type = u) (ho : fl.offset = o) (hc : P.cellsOf u = c) (H' : Opens enc P w base spare held u f R) : ∃ y, (cs.drop o).take c = f y ∧ R y := by
  obtain ⟨xs, m, rfl, e1, hl, hn, hi⟩ := DataW.trod_struct hu h
  subst e1
  have hi' : i < xs.length := by rw [hn]; exact (Array.getElem?_eq_some_iff.1 hf).1
  have h1 := hi i fl hf
  rw [List.getElem?_eq_getElem hi', hu', ho, hc] at h1
  refine H' m _ _ h1 fun k hk => hw k ?_
  simp only [DataW.weights, hu]
  refine DataW.weights_mem_each (j := i) (t := u) (d := xs[i].1) ?_ ?_ k hk
  · rw [List.getElem?_map, Array.getElem?_toList, hf]; simp [hu']
  · rw [List.getElem?_map, List.getElem?_eq_getElem hi']; rfl
theorem struct_len {t : TypeId} {fs : Array Field} {fuel : Nat} {cs : List Value} {x : DataW H × List MemPlace} (hu : P.underlying t = some (.struct fs)) (h : DataW.trod enc P w base spare held fuel t cs = some x) : cs.length = P.cellsOf t := (DataW.trod_struct hu h).choose_spec.choose_spec.2.2.1
end
end Go.Proofs.YtlhhmlfcodmebaaGreatDoor.Opn
