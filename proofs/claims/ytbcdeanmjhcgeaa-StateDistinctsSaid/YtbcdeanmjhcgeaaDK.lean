/- Structs and arrays of numbers: when two are the same; as they came in. No condition. -/
import Derived.DeepKeys4
import Derived.OpenShut
import Derived.Maps.Keyed
namespace Go.Proofs.Ytbcdeanmjhcgeaa.Dk
theorem mapM_ex {α β : Type} {f : α → Option β} : ∀ (l : List α), (∀ x ∈ l, ∃ y, f x = some y) → ∃ ys, l.mapM f = some ys
  | [], _ => ⟨[], by simp⟩
  | x :: l, h => by
    obtain ⟨y, hy⟩ := h x (List.mem_cons_self ..)
    obtain ⟨ys, hys⟩ := mapM_ex l fun z hz => h z (List.mem_cons_of_mem _ hz)
    exact ⟨y :: ys, by simp [hy, hys]⟩
section
variable {H : Type} {enc : TypeId × Value → H} {P : Program} {w : World} {base : Nat} {spare : Nat → Bool} {held : Bool}
theorem lits_of_trod : ∀ (d : Nat) (t : TypeId) (fuel : Nat) (cs : List Value) (x : DataW H × List MemPlace), P.keyTypeAt d t = true → DataW.trod enc P w base spare held fuel t cs = some x → ∃ ls, P.keyLits d t cs = some ls
  | 0, _, _, _, _, hk, _ => by simp [Program.keyTypeAt] at hk
  | d + 1, t, fuel, cs, x, hk, h => by
    unfold Program.keyTypeAt at hk
    cases hu : P.underlying t with
    | none => simp [hu] at hk
    | some kd =>
      cases kd
      case bool => obtain ⟨b, rfl, _⟩ := DataW.trod_bool hu h; exact ⟨_, by unfold Program.keyLits; rw [hu]⟩
      case int q => obtain ⟨n, rfl, _, hw⟩ := DataW.trod_int hu h; exact ⟨[.int q n], by unfold Program.keyLits; rw [hu]; simp only [hw, and_self, if_true]⟩
      case string => obtain ⟨s, rfl, _, hs⟩ := DataW.trod_string hu h; exact ⟨[.string s.data.toList], by unfold Program.keyLits; rw [hu]; simp only [hs, if_true]⟩
      case array n e =>
        simp only [hu] at hk
        obtain ⟨xs, m, rfl, _, hl, hx, hi⟩ := DataW.trod_array hu h
        obtain ⟨L, hL⟩ := mapM_ex (f := fun i => P.keyLits d e ((cs.drop (i * P.cellsOf e)).take (P.cellsOf e))) (List.range n) fun i hi' => by
          have hi' : i < n := by simpa using hi'
          exact lits_of_trod d e m _ xs[i] hk (by rw [hi i hi']; simp)
        exact ⟨L.flatten, by unfold Program.keyLits; rw [hu]; simp only [hl, if_true, hL, Option.map_some]⟩
      case struct fs =>
        simp only [hu, Bool.and_eq_true, Bool.not_eq_true'] at hk
        obtain ⟨xs, m, rfl, _, hl, hx, hi⟩ := DataW.trod_struct hu h
        have hf : ∀ f ∈ fs.toList, f.name ≠ "_" ∧ P.keyTypeAt d f.type = true := fun f hf => by
          have := Array.all_eq_true_iff_forall_mem.1 hk.1.1 f (Array.mem_toList_iff.1 hf)
          simpa only [Bool.and_eq_true, bne_iff_ne, ne_eq] using this
        obtain ⟨L, hL⟩ := mapM_ex (f := fun f : Field => P.keyLits d f.type ((cs.drop f.offset).take (P.cellsOf f.type))) fs.toList fun f hm => by
          obtain ⟨j, hj, e⟩ := List.getElem_of_mem hm
          have hj' : j < fs.size := by simpa using hj
          exact lits_of_trod d f.type m _ xs[j] (hf f hm).2 (by rw [hi j f (by rw [← e]; simp [hj'])]; simp)
        have hall : (fs.all fun f => f.name != "_") = true := Array.all_eq_true_iff_forall_mem.2 fun f h1 => by simpa using (hf f (Array.mem_toList_iff.2 h1)).1
        exact ⟨L.flatten, by unfold Program.keyLits; rw [hu]; simp only [hl, hall, and_self, if_true, hL, Option.map_some]⟩
      all_goals (simp [hu] at hk; done)
theorem size_of_trod {k : TypeId} (hwide : (match P.underlying k with | some (.array _ _) | some (.struct _) => true | _ => false) = true) {fuel : Nat} {cs : List Value} {x : DataW H × List MemPlace}
    (h : DataW.trod enc P w base spare held fuel k cs = some x) : cs.length = P.cellsOf k := by
  cases hu : P.underlying k with
  | none => simp [hu] at hwide
  | some kd =>
    cases kd
    case array n e => exact (DataW.trod_array hu h).choose_spec.choose_spec.2.2.1
    case struct fs => exact (DataW.trod_struct hu h).choose_spec.choose_spec.2.2.1
    all_goals (simp [hu] at hwide; done)
/-- Cells whose literals are read make a key. -/
theorem key_of_lits {k : TypeId} (hk : P.keyType k = true) (hwide : (match P.underlying k with | some (.array _ _) | some (.struct _) => true | _ => false) = true) {cs : List Value} (hl : cs.length = P.cellsOf k)
    {ls : List Lit} (h : P.keyLits (P.types.size + 1) k cs = some ls) : keyOf P k (.agg cs.toArray) = some (.string (keyBytes ls)) := by
  have hf : (Value.agg cs.toArray).formed P k = true := by
    cases hu : P.underlying k with
    | none => simp [hu] at hwide
    | some kd =>
      cases kd
      case array n e => simp [Value.formed, hu, hl]
      case struct fs => simp [Value.formed, hu, hl]
      all_goals (simp [hu] at hwide; done)
  cases hu : P.underlying k with
  | none => simp [hu] at hwide
  | some kd =>
    cases kd
    case array n e => simp [keyOf, hu, hk, hf, Value.cells, h]
    case struct fs => simp [keyOf, hu, hk, hf, Value.cells, h]
    all_goals (simp [hu] at hwide; done)
/-- What came in as a struct or an array of numbers is a key. -/
theorem key_of_trod {k : TypeId} (hk : P.keyType k = true) (hwide : (match P.underlying k with | some (.array _ _) | some (.struct _) => true | _ => false) = true) {fuel : Nat} {cs : List Value} {x : DataW H × List MemPlace}
    (h : DataW.trod enc P w base spare held fuel k cs = some x) : ∃ l, keyOf P k (.agg cs.toArray) = some l := by
  obtain ⟨ls, hls⟩ := lits_of_trod _ k fuel cs x hk h
  exact ⟨_, key_of_lits hk hwide (size_of_trod hwide h) hls⟩
/-- Two keys, asked whether they are the same. -/
theorem eq_run {k : TypeId} (K : WideMaps.KeyLaw P k) {m : Nat} (hm : m ≤ 10000) (hk : P.keyTypeAt m k = true) (hwide : (match P.underlying k with | some (.array _ _) | some (.struct _) => true | _ => false) = true) {x y : Value} {lx ly : Lit}
    (hx : keyOf P k x = some lx) (hy : keyOf P k y = some ly) (w : World) : (Op.equal k x y).run P w = .ok (lx.sameKey ly) w := by
  obtain ⟨r, hr, hiff⟩ := run_equal_deep w hm hk hwide hx hy
  rw [hr]
  congr 1
  rw [Bool.eq_iff_iff, hiff]
  obtain ⟨a, rfl⟩ := K.str hx
  constructor
  · rintro rfl; exact WideAt.sameKey_self trivial
  · exact WideAt.sameKey_eq
end
end Go.Proofs.Ytbcdeanmjhcgeaa.Dk
