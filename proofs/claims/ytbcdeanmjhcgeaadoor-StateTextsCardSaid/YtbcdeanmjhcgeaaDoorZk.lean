/- Several texts of one proof, one behind the other. Structs and arrays of numbers: when two are the same; as they came in. No condition. | A state asked whether it is itself: yes. No condition. -/
import Derived.Test.YtbcdeanmjhcgeaaDoorZa
import Derived.DeepKeys4
import Derived.OpenShut
import Derived.Maps.Keyed
namespace Go.Proofs.YtbcdeanmjhcgeaaDoor.Dk
set_option linter.unusedVariables false
set_option linter.unusedSimpArgs false
theorem mapM_ex {α β : Type} {f : α → Option β} : ∀ (l : List α), (∀ x ∈ l, ∃ y, f x = some y) → ∃ ys, l.mapM f = some ys
  | [], _ => ⟨[], by simp⟩
  | x :: l, h => by
    obtain ⟨y, hy⟩ := h x (List.mem_cons_self ..)
    obtain ⟨ys, hys⟩ := mapM_ex l fun z hz => h z (List.mem_cons_of_mem _ hz)
    exact ⟨y :: ys, by simp [hy, hys]⟩
section
variable {H : Type} {enc : TypeId × Value → H} {P : Program} {w : World} {base : Nat} {spare : Nat → Bool} {held : Bool}
theorem lits_of_trod : ∀ (d : Nat) (t : TypeId) (fuel : Nat) (cs : List Value) (x : DataW H × List MemPlace), P.keyTypeAt d t = true → DataW.trod enc P w base spare held fuel t cs = some x → ∃ ls, P.keyLits d t cs = some ls
  | 0, _, _, _, _, hk, _ => by simp [Program.keyTypeAt] at hk
  | d + 1, t, fuel, cs, x, hk, h => by
    unfold Program.keyTypeAt at hk
    cases hu : P.underlying t with
    | none => simp [hu] at hk
    | some kd =>
      cases kd
      case bool => obtain ⟨b, rfl, _⟩ := DataW.trod_bool hu h; exact ⟨_, by unfold Program.keyLits; rw [hu]⟩
      case int q => obtain ⟨n, rfl, _, hw⟩ := DataW.trod_int hu h; exact ⟨[.int q n], by unfold Program.keyLits; rw [hu]; simp only [hw, and_self, if_true]⟩
      case string => obtain ⟨s, rfl, _, hs⟩ := DataW.trod_string hu h; exact ⟨[.string s.data.toList], by unfold Program.keyLits; rw [hu]; simp only [hs, if_true]⟩
      case array n e =>
        simp only [hu] at hk
        obtain ⟨xs, m, rfl, _, hl, hx, hi⟩ := DataW.trod_array hu h
        obtain ⟨L, hL⟩ := mapM_ex (f := fun i => P.keyLits d e ((cs.drop (i * P.cellsOf e)).take (P.cellsOf e))) (List.range n) fun i hi' => by
          have hi' : i < n := by simpa using hi'
          exact lits_of_trod d e m _ xs[i] hk (by rw [hi i hi']; simp)
        exact ⟨L.flatten, by unfold Program.keyLits; rw [hu]; simp only [hl, if_true, hL, Option.map_some]⟩
      case struct fs =>
        simp only [hu, Bool.and_eq_true, Bool.not_eq_true'] at hk
        obtain ⟨xs, m, rfl, _, hl, hx, hi⟩ := DataW.trod_struct hu h
        have hf : ∀ f ∈ fs.toList, f.name ≠ "_" ∧ P.keyTypeAt d f.type = true := fun f hf => by
          have := Array.all_eq_true_iff_forall_mem.1 hk.1.1 f (Array.mem_toList_iff.1 hf)
          simpa only [Bool.and_eq_true, bne_iff_ne, ne_eq] using this
        obtain ⟨L, hL⟩ := mapM_ex (f := fun f : Field => P.keyLits d f.type ((cs.drop f.offset).take (P.cellsOf f.type))) fs.toList fun f hm => by
          obtain ⟨j, hj, e⟩ := List.getElem_of_mem hm
          have hj' : j < fs.size := by simpa using hj
          exact lits_of_trod d f.type m _ xs[j] (hf f hm).2 (by rw [hi j f (by rw [← e]; simp [hj'])]; simp)
        have hall : (fs.all fun f => f.name != "_") = true := Array.all_eq_true_iff_forall_mem.2 fun f h1 => by simpa using (hf f (Array.mem_toList_iff.2 h1)).1
        exact ⟨L.flatten, by unfold Program.keyLits; rw [hu]; simp only [hl, hall, and_self, if_true, hL, Option.map_some]⟩
      all_goals (simp [hu] at hk; done)
theorem size_of_trod {k : TypeId} (hwide : (match P.underlying k with | some (.array _ _) | some (.struct _) => true | _ => false) = true) {fuel : Nat} {cs : List Value} {x : DataW H × List MemPlace}
    (h : DataW.trod enc P w base spare held fuel k cs = some x) : cs.length = P.cellsOf k := by
  cases hu : P.underlying k with
  | none => simp [hu] at hwide
  | some kd =>
    cases kd
    case array n e => exact (DataW.trod_array hu h).choose_spec.choose_spec.2.2.1
    case struct fs => exact (DataW.trod_struct hu h).choose_spec.choose_spec.2.2.1
    all_goals (simp [hu] at hwide; done)
/-- Cells whose literals are read make a key. -/
theorem key_of_lits {k : TypeId} (hk : P.keyType k = true) (hwide : (match P.underlying k with | some (.array _ _) | some (.struct _) => true | _ => false) = true) {cs : List Value} (hl : cs.length = P.cellsOf k)
    {ls : List Lit} (h : P.keyLits (P.types.size + 1) k cs = some ls) : keyOf P k (.agg cs.toArray) = some (.string (keyBytes ls)) := by
  have hf : (Value.agg cs.toArray).formed P k = true := by
    cases hu : P.underlying k with
    | none => simp [hu] at hwide
    | some kd =>
      cases kd
      case array n e => simp [Value.formed, hu, hl]
      case struct fs => simp [Value.formed, hu, hl]
      all_goals (simp [hu] at hwide; done)
  cases hu : P.underlying k with
  | none => simp [hu] at hwide
  | some kd =>
    cases kd
    case array n e => simp [keyOf, hu, hk, hf, Value.cells, h]
    case struct fs => simp [keyOf, hu, hk, hf, Value.cells, h]
    all_goals (simp [hu] at hwide; done)
/-- What came in as a struct or an array of numbers is a key. -/
theorem key_of_trod {k : TypeId} (hk : P.keyType k = true) (hwide : (match P.underlying k with | some (.array _ _) | some (.struct _) => true | _ => false) = true) {fuel : Nat} {cs : List Value} {x : DataW H × List MemPlace}
    (h : DataW.trod enc P w base spare held fuel k cs = some x) : ∃ l, keyOf P k (.agg cs.toArray) = some l := by
  obtain ⟨ls, hls⟩ := lits_of_trod _ k fuel cs x hk h
  exact ⟨_, key_of_lits hk hwide (size_of_trod hwide h) hls⟩
/-- Two keys, asked whether they are the same. -/
theorem eq_run {k : TypeId} (K : WideMaps.KeyLaw P k) {m : Nat} (hm : m ≤ 10000) (hk : P.keyTypeAt m k = true) (hwide : (match P.underlying k with | some (.array _ _) | some (.struct _) => true | _ => false) = true) {x y : Value} {lx ly : Lit}
    (hx : keyOf P k x = some lx) (hy : keyOf P k y = some ly) (w : World) : (Op.equal k x y).run P w = .ok (lx.sameKey ly) w := by
  obtain ⟨r, hr, hiff⟩ := run_equal_deep w hm hk hwide hx hy
  rw [hr]
  congr 1
  rw [Bool.eq_iff_iff, hiff]
  obtain ⟨a, rfl⟩ := K.str hx
  constructor
  · rintro rfl; exact WideAt.sameKey_self trivial
  · exact WideAt.sameKey_eq
end
end Go.Proofs.YtbcdeanmjhcgeaaDoor.Dk
namespace Go.Proofs.YtbcdeanmjhcgeaaDoor.Pg
set_option linter.unusedVariables false
set_option linter.unusedSimpArgs false
open Go.ChangeShapes Go.WideShapes Go.RowKit
section
variable {P : Program}
theorem lits_int {t : TypeId} {d : Nat} (hu : P.underlying t = some (.int .i64)) {n : Int} (h : I64 n) : ∃ ls, P.keyLits (d + 1) t [.int .i64 n] = some ls :=
  ⟨[.int .i64 n], by unfold Program.keyLits; rw [hu]; simp only [WalkArith.wf_i64 h, and_self, if_true]⟩
theorem lits_bool {t : TypeId} {d : Nat} (hu : P.underlying t = some .bool) (b : Bool) : ∃ ls, P.keyLits (d + 1) t [.bool b] = some ls := ⟨[.bool b], by unfold Program.keyLits; rw [hu]⟩
theorem lits_arr {t e : TypeId} {d n : Nat} (hu : P.underlying t = some (.array n e)) {cs : List Value} (hl : cs.length = P.cellsOf t) (h : ∀ i, i < n → ∃ ls, P.keyLits d e ((cs.drop (i * P.cellsOf e)).take (P.cellsOf e)) = some ls) : ∃ ls, P.keyLits (d + 1) t cs = some ls := by
  obtain ⟨L, hL⟩ := Dk.mapM_ex (f := fun i => P.keyLits d e ((cs.drop (i * P.cellsOf e)).take (P.cellsOf e))) (List.range n) fun i hi => h i (by simpa using hi)
  exact ⟨L.flatten, by unfold Program.keyLits; rw [hu]; simp only [hl, if_true, hL, Option.map_some]⟩
set_option maxRecDepth 100000 in
theorem lits_struct {t : TypeId} {d : Nat} {fs : Array Field} (hu : P.underlying t = some (.struct fs)) {cs : List Value} (hl : cs.length = P.cellsOf t) (hn : fs.all (·.name != "_") = true) (h : ∀ f ∈ fs.toList, ∃ ls, P.keyLits d f.type ((cs.drop f.offset).take (P.cellsOf f.type)) = some ls) :
    ∃ ls, P.keyLits (d + 1) t cs = some ls := by
  obtain ⟨L, hL⟩ := Dk.mapM_ex (f := fun f : Field => P.keyLits d f.type ((cs.drop f.offset).take (P.cellsOf f.type))) fs.toList h
  exact ⟨L.flatten, by unfold Program.keyLits; rw [hu]; simp only [hl, hn, and_self, if_true, hL, Option.map_some]⟩
theorem lits_row {t e : TypeId} {d n : Nat} (hu : P.underlying t = some (.array n e)) (he : P.underlying e = some (.int .i64)) (hce : P.cellsOf e = 1) (hct : P.cellsOf t = n) {l : List Int} (hl : l.length = n) (h : ∀ x ∈ l, I64 x) : ∃ ls, P.keyLits (d + 1 + 1) t (l.map (Value.int .i64)) = some ls := by
  refine lits_arr hu (by simp [hl, hct]) fun i hi => ?_
  have hi' : i < l.length := by omega
  rw [hce, Nat.mul_one, List.drop_eq_getElem_cons (by simpa using hi'), List.take_succ_cons, List.take_zero, List.getElem_map]
  exact lits_int he (h _ (List.getElem_mem _))
theorem lits_flat {α : Type} {f : α → List Value} {c : Nat} {t e : TypeId} {d n : Nat} (hu : P.underlying t = some (.array n e)) (hce : P.cellsOf e = c) (hct : P.cellsOf t = n * c) {l : List α} (hl : l.length = n) (hf : ∀ x ∈ l, (f x).length = c) (hs : (l.flatMap f).length = n * c) (h : ∀ x ∈ l, ∃ ls, P.keyLits d e (f x) = some ls) :
    ∃ ls, P.keyLits (d + 1) t (l.flatMap f) = some ls := by
  refine lits_arr hu (by rw [hct, hs]) fun i hi => ?_
  have hi' : i < l.length := by omega
  rw [hce, flat_drop f c l hf i l[i] (List.getElem?_eq_getElem hi')]
  exact h _ (List.getElem_mem _)
end
theorem cI : Tryd.prog.cellsOf 3 = 1 := by kernel_rfl
theorem cI64 : Tryd.prog.cellsOf 2 = 1 := by kernel_rfl
theorem cB : Tryd.prog.cellsOf 4 = 1 := by kernel_rfl
theorem c8 : Tryd.prog.cellsOf 22 = 8 := by kernel_rfl
theorem c4 : Tryd.prog.cellsOf 24 = 4 := by kernel_rfl
theorem c4i : Tryd.prog.cellsOf 23 = 4 := by kernel_rfl
theorem cGs : Tryd.prog.cellsOf 30 = 72 := by kernel_rfl
theorem cCs : Tryd.prog.cellsOf 27 = 36 := by kernel_rfl
theorem cSt : Tryd.prog.cellsOf 32 = 121 := by kernel_rfl
theorem lits_go {g : Gr} (h : g.ok) (d : Nat) : ∃ ls, Tryd.prog.keyLits (d + 3) 29 g.cs = some ls := by
  refine lits_struct Tryd.underlying29 (by rw [cellsG, Gr.cs_len h]) (by kernel_rfl) fun f hf => ?_
  simp only [List.mem_cons, List.not_mem_nil, or_false] at hf
  have hr := h.len
  rcases hf with rfl | rfl | rfl | rfl | rfl
  · simp only [cI, Gr.cs]; exact lits_int Tryd.underlying3 h.st
  · simp only [cI, Gr.cs]; exact lits_int Tryd.underlying3 h.fn
  · simp only [cI, Gr.cs]; exact lits_int Tryd.underlying3 h.pc
  · simp only [cI, Gr.cs]; exact lits_int Tryd.underlying3 h.why
  · simp only [c8, Gr.cs]
    rw [List.drop_append_of_le_length (by simp)]
    simp only [List.drop_succ_cons, List.drop_zero, List.drop_nil, List.nil_append]
    rw [List.take_of_length_le (by simp [hr])]
    exact lits_row Tryd.underlying22 Tryd.underlying2 cI64 c8 hr h.regs
theorem lits_chan {c : Ch} (h : c.ok) (d : Nat) : ∃ ls, Tryd.prog.keyLits (d + 3) 26 c.cs = some ls := by
  refine lits_struct Tryd.underlying26 (by rw [cellsC, Ch.cs_len h]) (by kernel_rfl) fun f hf => ?_
  simp only [List.mem_cons, List.not_mem_nil, or_false] at hf
  have hr := h.blen
  have hb : (c.buf.map (Value.int .i64)).length = 4 := by simp [hr]
  have hd : ∀ k, (c.cs.drop (4 + k)) = [.int .i64 c.len, .bool c.closed, .int .i64 c.offer, .int .i64 c.frm, .int .i64 c.val].drop k := fun k => by
    unfold Ch.cs; rw [← List.drop_drop, List.drop_left' hb]
  rcases hf with rfl | rfl | rfl | rfl | rfl | rfl
  · simp only [c4, Ch.cs, List.drop_zero]
    rw [List.take_left' hb]
    exact lits_row Tryd.underlying24 Tryd.underlying2 cI64 c4 hr h.buf
  · have := hd 0; simp only [Nat.add_zero] at this; simp only [cI, this]; exact lits_int Tryd.underlying3 h.len
  · have := hd 1; simp only [Nat.reduceAdd] at this; simp only [cB, this]; exact lits_bool Tryd.underlying4 _
  · have := hd 2; simp only [Nat.reduceAdd] at this; simp only [cI, this]; exact lits_int Tryd.underlying3 h.offer
  · have := hd 3; simp only [Nat.reduceAdd] at this; simp only [cI, this]; exact lits_int Tryd.underlying3 h.frm
  · have := hd 4; simp only [Nat.reduceAdd] at this; simp only [cI64, this]; exact lits_int Tryd.underlying2 h.val
set_option maxRecDepth 100000 in
theorem lits_st {s : St} (h : s.ok) (d : Nat) : ∃ ls, Tryd.prog.keyLits (d + 5) 32 s.cs = some ls := by
  refine lits_struct Tryd.underlying32 (by rw [cSt, St.cs_len h]) (by kernel_rfl) fun f hf => ?_
  simp only [List.mem_cons, List.not_mem_nil, or_false] at hf
  have hv : (s.vars.map (Value.int .i64)).length = 8 := by simp [h.lv]
  have ho : (s.owner.map (Value.int .i64)).length = 4 := by simp [h.lo]
  have hc := St.len_chans h; have hg := St.len_gos h
  have d8 : s.cs.drop 8 = s.owner.map (Value.int .i64) ++ (s.chans.flatMap Ch.cs ++ (s.gos.flatMap Gr.cs ++ [.int .i64 s.count])) := by unfold St.cs; rw [List.drop_left' hv]
  have d12 : s.cs.drop 12 = s.chans.flatMap Ch.cs ++ (s.gos.flatMap Gr.cs ++ [.int .i64 s.count]) := by rw [show 12 = 8 + 4 from rfl, ← List.drop_drop, d8, List.drop_left' ho]
  have d48 : s.cs.drop 48 = s.gos.flatMap Gr.cs ++ [.int .i64 s.count] := by rw [show 48 = 12 + 36 from rfl, ← List.drop_drop, d12, List.drop_left' hc]
  have d120 : s.cs.drop 120 = [.int .i64 s.count] := by rw [show 120 = 48 + 72 from rfl, ← List.drop_drop, d48, List.drop_left' hg]
  rcases hf with rfl | rfl | rfl | rfl | rfl
  · simp only [c8, St.cs, List.drop_zero]
    rw [List.take_left' hv]
    exact lits_row Tryd.underlying22 Tryd.underlying2 cI64 c8 h.lv h.vars
  · simp only [c4i, d8]
    rw [List.take_left' ho]
    exact lits_row Tryd.underlying23 Tryd.underlying3 cI c4i h.lo h.owner
  · simp only [cCs, d12]
    rw [List.take_left' hc]
    exact lits_flat (n := 4) Tryd.underlying27 cellsC cCs h.lc (fun x hx => Ch.cs_len (h.chans x hx)) hc fun x hx => lits_chan (h.chans x hx) d
  · simp only [cGs, d48]
    rw [List.take_left' hg]
    exact lits_flat (n := 6) Tryd.underlying30 cellsG cGs h.lg (fun x hx => Gr.cs_len (h.gos x hx)) hg fun x hx => lits_go (h.gos x hx) d
  · simp only [cI, d120]; exact lits_int Tryd.underlying3 h.count
theorem types_n : Tryd.prog.types.size + 1 + 1 ≤ 10000 := of_decide_eq_true (by kernel_rfl)
theorem types_5 : ∃ d, Tryd.prog.types.size + 1 = d + 5 := ⟨Tryd.prog.types.size - 4, by have : 4 ≤ Tryd.prog.types.size := of_decide_eq_true (by kernel_rfl); omega⟩
theorem key_law : WideMaps.KeyLaw Tryd.prog 32 := deep_law_laid (by kernel_rfl) types_n (of_decide_eq_true (by kernel_rfl)) (by kernel_rfl) (by kernel_rfl)
/-- A state's key. -/
theorem st_key {s : St} (h : s.ok) : ∃ l, keyOf Tryd.prog 32 s.v = some l := by
  obtain ⟨d, hd⟩ := types_5
  obtain ⟨ls, hls⟩ := lits_st h d
  exact ⟨_, Dk.key_of_lits (by kernel_rfl) (by kernel_rfl) (by rw [cSt, St.cs_len h]) (by rw [hd]; exact hls)⟩
theorem key_t : Tryd.prog.keyType 32 = true := by kernel_rfl
theorem wide_t : (match Tryd.prog.underlying 32 with | some (.array _ _) | some (.struct _) => true | _ => false) = true := by kernel_rfl
theorem types_m : Tryd.prog.types.size + 1 ≤ 10000 := of_decide_eq_true (by kernel_rfl)
set_option maxRecDepth 100000 in
theorem eq_st {s : St} (h : s.ok) (W : World) : (Op.equal 32 s.v s.v).run Tryd.prog W = .ok true W := by
  obtain ⟨l, hl⟩ := st_key h
  have h1 := Dk.eq_run (m := Tryd.prog.types.size + 1) key_law types_m key_t wide_t hl hl W
  rw [h1]
  obtain ⟨a, rfl⟩ := key_law.str hl
  have e : (Lit.string a).sameKey (.string a) = true := WideAt.sameKey_self trivial
  rw [e]
end Go.Proofs.YtbcdeanmjhcgeaaDoor.Pg
