/- Several texts of one proof, one behind the other. Structs and arrays of numbers: when two are the same; as they came in. No condition. | Literals of keys, cell by cell. No condition. | Instructions, cases, variables, asked whether they are themselves: yes. No condition. -/
import Derived.Test.YtlhhmlfcodmebaaGreatDoorZa
import Derived.DeepKeys4
import Derived.OpenShut
import Derived.Maps.Keyed
import Derived.Test.YtlhhmlfcodmebaaGreatDoorProg
namespace Go.Proofs.YtlhhmlfcodmebaaGreatDoor.Dk
set_option linter.unusedVariables false
set_option linter.unusedSimpArgs false
theorem mapM_ex {α β : Type} {f : α → Option β} : ∀ (l : List α), (∀ x ∈ l, ∃ y, f x = some y) → ∃ ys, l.mapM f = some ys
  | [], _ => ⟨[], by simp⟩
  | x :: l, h => by
    obtain ⟨y, hy⟩ := h x (List.mem_cons_self ..)
    obtain ⟨ys, hys⟩ := mapM_ex l fun z hz => h z (List.mem_cons_of_mem _ hz)
    exact ⟨y :: ys, by simp [hy, hys]⟩
section
variable {H : Type} {enc : TypeId × Value → H} {P : Program} {w : World} {base : Nat} {spare : Nat → Bool} {held : Bool}
theorem lits_of_trod : ∀ (d : Nat) (t : TypeId) (fuel : Nat) (cs : List Value) (x : DataW H × List MemPlace), P.keyTypeAt d t = true → DataW.trod enc P w base spare held fuel t cs = some x → ∃ ls, P.keyLits d t cs = some ls
  | 0, _, _, _, _, hk, _ => by simp [Program.keyTypeAt] at hk
  | d + 1, t, fuel, cs, x, hk, h => by
    unfold Program.keyTypeAt at hk
    cases hu : P.underlying t with
    | none => simp [hu] at hk
    | some kd =>
      cases kd
      case bool => obtain ⟨b, rfl, _⟩ := DataW.trod_bool hu h; exact ⟨_, by unfold Program.keyLits; rw [hu]⟩
      case int q => obtain ⟨n, rfl, _, hw⟩ := DataW.trod_int hu h; exact ⟨[.int q n], by unfold Program.keyLits; rw [hu]; simp only [hw, and_self, if_true]⟩
      case string => obtain ⟨s, rfl, _, hs⟩ := DataW.trod_string hu h; exact ⟨[.string s.data.toList], by unfold Program.keyLits; rw [hu]; simp only [hs, if_true]⟩
      case array n e =>
        simp only [hu] at hk
        obtain ⟨xs, m, rfl, _, hl, hx, hi⟩ := DataW.trod_array hu h
        obtain ⟨L, hL⟩ := mapM_ex (f := fun i => P.keyLits d e ((cs.drop (i * P.cellsOf e)).take (P.cellsOf e))) (List.range n) fun i hi' => by
          have hi' : i < n := by simpa using hi'
          exact lits_of_trod d e m _ xs[i] hk (by rw [hi i hi']; simp)
        exact ⟨L.flatten, by unfold Program.keyLits; rw [hu]; simp only [hl, if_true, hL, Option.map_some]⟩
      case struct fs =>
        simp only [hu, Bool.and_eq_true, Bool.not_eq_true'] at hk
        obtain ⟨xs, m, rfl, _, hl, hx, hi⟩ := DataW.trod_struct hu h
        have hf : ∀ f ∈ fs.toList, f.name ≠ "_" ∧ P.keyTypeAt d f.type = true := fun f hf => by
          have := Array.all_eq_true_iff_forall_mem.1 hk.1.1 f (Array.mem_toList_iff.1 hf)
          simpa only [Bool.and_eq_true, bne_iff_ne, ne_eq] using this
        obtain ⟨L, hL⟩ := mapM_ex (f := fun f : Field => P.keyLits d f.type ((cs.drop f.offset).take (P.cellsOf f.type))) fs.toList fun f hm => by
          obtain ⟨j, hj, e⟩ := List.getElem_of_mem hm
          have hj' : j < fs.size := by simpa using hj
          exact lits_of_trod d f.type m _ xs[j] (hf f hm).2 (by rw [hi j f (by rw [← e]; simp [hj'])]; simp)
        have hall : (fs.all fun f => f.name != "_") = true := Array.all_eq_true_iff_forall_mem.2 fun f h1 => by simpa using (hf f (Array.mem_toList_iff.2 h1)).1
        exact ⟨L.flatten, by unfold Program.keyLits; rw [hu]; simp only [hl, hall, and_self, if_true, hL, Option.map_some]⟩
      all_goals (simp [hu] at hk; done)
theorem size_of_trod {k : TypeId} (hwide : (match P.underlying k with | some (.array _ _) | some (.struct _) => true | _ => false) = true) {fuel : Nat} {cs : List Value} {x : DataW H × List MemPlace}
    (h : DataW.trod enc P w base spare held fuel k cs = some x) : cs.length = P.cellsOf k := by
  cases hu : P.underlying k with
  | none => simp [hu] at hwide
  | some kd =>
    cases kd
    case array n e => exact (DataW.trod_array hu h).choose_spec.choose_spec.2.2.1
    case struct fs => exact (DataW.trod_struct hu h).choose_spec.choose_spec.2.2.1
    all_goals (simp [hu] at hwide; done)
/-- Cells whose literals are read make a key. -/
theorem key_of_lits {k : TypeId} (hk : P.keyType k = true) (hwide : (match P.underlying k with | some (.array _ _) | some (.struct _) => true | _ => false) = true) {cs : List Value} (hl : cs.length = P.cellsOf k)
    {ls : List Lit} (h : P.keyLits (P.types.size + 1) k cs = some ls) : keyOf P k (.agg cs.toArray) = some (.string (keyBytes ls)) := by
  have hf : (Value.agg cs.toArray).formed P k = true := by
    cases hu : P.underlying k with
    | none => simp [hu] at hwide
    | some kd =>
      cases kd
      case array n e => simp [Value.formed, hu, hl]
      case struct fs => simp [Value.formed, hu, hl]
      all_goals (simp [hu] at hwide; done)
  cases hu : P.underlying k with
  | none => simp [hu] at hwide
  | some kd =>
    cases kd
    case array n e => simp [keyOf, hu, hk, hf, Value.cells, h]
    case struct fs => simp [keyOf, hu, hk, hf, Value.cells, h]
    all_goals (simp [hu] at hwide; done)
/-- What came in as a struct or an array of numbers is a key. -/
theorem key_of_trod {k : TypeId} (hk : P.keyType k = true) (hwide : (match P.underlying k with | some (.array _ _) | some (.struct _) => true | _ => false) = true) {fuel : Nat} {cs : List Value} {x : DataW H × List MemPlace}
    (h : DataW.trod enc P w base spare held fuel k cs = some x) : ∃ l, keyOf P k (.agg cs.toArray) = some l := by
  obtain ⟨ls, hls⟩ := lits_of_trod _ k fuel cs x hk h
  exact ⟨_, key_of_lits hk hwide (size_of_trod hwide h) hls⟩
/-- Two keys, asked whether they are the same. -/
theorem eq_run {k : TypeId} (K : WideMaps.KeyLaw P k) {m : Nat} (hm : m ≤ 10000) (hk : P.keyTypeAt m k = true) (hwide : (match P.underlying k with | some (.array _ _) | some (.struct _) => true | _ => false) = true) {x y : Value} {lx ly : Lit}
    (hx : keyOf P k x = some lx) (hy : keyOf P k y = some ly) (w : World) : (Op.equal k x y).run P w = .ok (lx.sameKey ly) w := by
  obtain ⟨r, hr, hiff⟩ := run_equal_deep w hm hk hwide hx hy
  rw [hr]
  congr 1
  rw [Bool.eq_iff_iff, hiff]
  obtain ⟨a, rfl⟩ := K.str hx
  constructor
  · rintro rfl; exact WideAt.sameKey_self trivial
  · exact WideAt.sameKey_eq
end
end Go.Proofs.YtlhhmlfcodmebaaGreatDoor.Dk
namespace Go.Proofs.YtlhhmlfcodmebaaGreatDoor.Pg
set_option linter.unusedVariables false
set_option linter.unusedSimpArgs false
open Go.ChangeShapes Go.WideShapes Go.RowKit
section
variable {P : Program}
theorem lits_int {t : TypeId} {d : Nat} (hu : P.underlying t = some (.int .i64)) {n : Int} (h : I64 n) : ∃ ls, P.keyLits (d + 1) t [.int .i64 n] = some ls :=
  ⟨[.int .i64 n], by unfold Program.keyLits; rw [hu]; simp only [WalkArith.wf_i64 h, and_self, if_true]⟩
theorem lits_bool {t : TypeId} {d : Nat} (hu : P.underlying t = some .bool) (b : Bool) : ∃ ls, P.keyLits (d + 1) t [.bool b] = some ls := ⟨[.bool b], by unfold Program.keyLits; rw [hu]⟩
theorem lits_arr {t e : TypeId} {d n : Nat} (hu : P.underlying t = some (.array n e)) {cs : List Value} (hl : cs.length = P.cellsOf t) (h : ∀ i, i < n → ∃ ls, P.keyLits d e ((cs.drop (i * P.cellsOf e)).take (P.cellsOf e)) = some ls) : ∃ ls, P.keyLits (d + 1) t cs = some ls := by
  obtain ⟨L, hL⟩ := Dk.mapM_ex (f := fun i => P.keyLits d e ((cs.drop (i * P.cellsOf e)).take (P.cellsOf e))) (List.range n) fun i hi => h i (by simpa using hi)
  exact ⟨L.flatten, by unfold Program.keyLits; rw [hu]; simp only [hl, if_true, hL, Option.map_some]⟩
set_option maxRecDepth 100000 in
theorem lits_struct {t : TypeId} {d : Nat} {fs : Array Field} (hu : P.underlying t = some (.struct fs)) {cs : List Value} (hl : cs.length = P.cellsOf t) (hn : fs.all (·.name != "_") = true) (h : ∀ f ∈ fs.toList, ∃ ls, P.keyLits d f.type ((cs.drop f.offset).take (P.cellsOf f.type)) = some ls) :
    ∃ ls, P.keyLits (d + 1) t cs = some ls := by
  obtain ⟨L, hL⟩ := Dk.mapM_ex (f := fun f : Field => P.keyLits d f.type ((cs.drop f.offset).take (P.cellsOf f.type))) fs.toList h
  exact ⟨L.flatten, by unfold Program.keyLits; rw [hu]; simp only [hl, hn, and_self, if_true, hL, Option.map_some]⟩
theorem lits_row {t e : TypeId} {d n : Nat} (hu : P.underlying t = some (.array n e)) (he : P.underlying e = some (.int .i64)) (hce : P.cellsOf e = 1) (hct : P.cellsOf t = n) {l : List Int} (hl : l.length = n) (h : ∀ x ∈ l, I64 x) : ∃ ls, P.keyLits (d + 1 + 1) t (l.map (Value.int .i64)) = some ls := by
  refine lits_arr hu (by simp [hl, hct]) fun i hi => ?_
  have hi' : i < l.length := by omega
  rw [hce, Nat.mul_one, List.drop_eq_getElem_cons (by simpa using hi'), List.take_succ_cons, List.take_zero, List.getElem_map]
  exact lits_int he (h _ (List.getElem_mem _))
end
theorem cI : Tryz.prog.cellsOf 3 = 1 := by kernel_rfl
theorem cI64 : Tryz.prog.cellsOf 2 = 1 := by kernel_rfl
theorem cB : Tryz.prog.cellsOf 4 = 1 := by kernel_rfl
theorem types_n : Tryz.prog.types.size + 1 + 1 ≤ 10000 := of_decide_eq_true (by kernel_rfl)
theorem types_5 : ∃ d, Tryz.prog.types.size + 1 = d + 5 := ⟨Tryz.prog.types.size - 4, by have : 4 ≤ Tryz.prog.types.size := of_decide_eq_true (by kernel_rfl); omega⟩
theorem types_m : Tryz.prog.types.size + 1 ≤ 10000 := of_decide_eq_true (by kernel_rfl)
end Go.Proofs.YtlhhmlfcodmebaaGreatDoor.Pg
namespace Go.Proofs.YtlhhmlfcodmebaaGreatDoor.Pg
set_option linter.unusedVariables false
set_option linter.unusedSimpArgs false
open Go.ChangeShapes Go.WideShapes Go.RowKit
theorem int_h {x : Int} (h : I64 x) {t : TypeId} (hu : Tryz.prog.underlying t = some (.int .i64)) (d : Nat) : ∃ ls, Tryz.prog.keyLits (d + 1) t [.int .i64 x] = some ls := lits_int hu h
theorem nth_eq {α β : Type} {q : α → β} {l m : List α} (h : l.map q = m.map q) {k : Nat} (h1 : k < l.length) (h2 : k < m.length) : q l[k] = q m[k] := by
  have := congrArg (fun z => z[k]?) h
  simpa [h1, h2] using this
theorem cOp : Tryz.prog.cellsOf 49 = 1 := by kernel_rfl
theorem size_ins : Tryz.prog.cellsOf 51 = 5 := by kernel_rfl
theorem lits_ins (x : Ins) (h : x.ok) (d : Nat) : ∃ ls, Tryz.prog.keyLits (d + 2) 51 x.cs = some ls := by
  refine lits_struct Tryz.underlying51 (by rw [size_ins]; rfl) (by kernel_rfl) fun f hf => ?_
  simp only [List.mem_cons, List.not_mem_nil, or_false] at hf
  rcases hf with rfl | rfl | rfl | rfl | rfl
  · simp only [cOp, Ins.cs]; exact lits_int Tryz.underlying49 h.1
  · simp only [cI, Ins.cs]; exact lits_int Tryz.underlying3 h.2.1
  · simp only [cI, Ins.cs]; exact lits_int Tryz.underlying3 h.2.2.1
  · simp only [cI, Ins.cs]; exact lits_int Tryz.underlying3 h.2.2.2.1
  · simp only [cI64, Ins.cs]; exact lits_int Tryz.underlying2 h.2.2.2.2
theorem klaw_ins : WideMaps.KeyLaw Tryz.prog 51 := deep_law_laid (by kernel_rfl) types_n (of_decide_eq_true (by kernel_rfl)) (by kernel_rfl) (by kernel_rfl)
theorem kty_ins : Tryz.prog.keyType 51 = true := by kernel_rfl
theorem wide_ins : (match Tryz.prog.underlying 51 with | some (.array _ _) | some (.struct _) => true | _ => false) = true := by kernel_rfl
set_option maxRecDepth 100000 in
theorem eq_ins (x : Ins) (h : x.ok) (W : World) : (Op.equalIn 10000 51 (.agg #[.int .i64 x.op, .int .i64 x.a, .int .i64 x.b, .int .i64 x.c, .int .i64 x.n]) (.agg #[.int .i64 x.op, .int .i64 x.a, .int .i64 x.b, .int .i64 x.c, .int .i64 x.n])).run Tryz.prog W = .ok true W := by
  obtain ⟨d, hd⟩ := types_5
  obtain ⟨ls, hls⟩ := lits_ins x h (d + 3)
  have hk := Dk.key_of_lits (P := Tryz.prog) kty_ins wide_ins (cs := x.cs) (by rw [size_ins]; rfl) (by rw [hd]; exact hls)
  have h1 := Dk.eq_run (m := Tryz.prog.types.size + 1) klaw_ins types_m kty_ins wide_ins hk hk W
  refine h1.trans ?_
  rw [show (Lit.string (keyBytes ls)).sameKey (.string (keyBytes ls)) = true from WideAt.sameKey_self trivial]
theorem size_cas : Tryz.prog.cellsOf 105 = 4 := by kernel_rfl
theorem lits_cas (x : Cas) (h : x.ok) (d : Nat) : ∃ ls, Tryz.prog.keyLits (d + 2) 105 x.cs = some ls := by
  refine lits_struct Tryz.underlying105 (by rw [size_cas]; rfl) (by kernel_rfl) fun f hf => ?_
  simp only [List.mem_cons, List.not_mem_nil, or_false] at hf
  rcases hf with rfl | rfl | rfl | rfl
  · simp only [cB, Cas.cs]; exact lits_bool Tryz.underlying4 _
  · simp only [cI, Cas.cs]; exact lits_int Tryz.underlying3 h.1
  · simp only [cI, Cas.cs]; exact lits_int Tryz.underlying3 h.2.1
  · simp only [cI, Cas.cs]; exact lits_int Tryz.underlying3 h.2.2
theorem klaw_cas : WideMaps.KeyLaw Tryz.prog 105 := deep_law_laid (by kernel_rfl) types_n (of_decide_eq_true (by kernel_rfl)) (by kernel_rfl) (by kernel_rfl)
theorem kty_cas : Tryz.prog.keyType 105 = true := by kernel_rfl
theorem wide_cas : (match Tryz.prog.underlying 105 with | some (.array _ _) | some (.struct _) => true | _ => false) = true := by kernel_rfl
set_option maxRecDepth 100000 in
theorem eq_cas (x : Cas) (h : x.ok) (W : World) : (Op.equalIn 10000 105 (.agg #[.bool x.send, .int .i64 x.ch, .int .i64 x.reg, .int .i64 x.to]) (.agg #[.bool x.send, .int .i64 x.ch, .int .i64 x.reg, .int .i64 x.to])).run Tryz.prog W = .ok true W := by
  obtain ⟨d, hd⟩ := types_5
  obtain ⟨ls, hls⟩ := lits_cas x h (d + 3)
  have hk := Dk.key_of_lits (P := Tryz.prog) kty_cas wide_cas (cs := x.cs) (by rw [size_cas]; rfl) (by rw [hd]; exact hls)
  have h1 := Dk.eq_run (m := Tryz.prog.types.size + 1) klaw_cas types_m kty_cas wide_cas hk hk W
  refine h1.trans ?_
  rw [show (Lit.string (keyBytes ls)).sameKey (.string (keyBytes ls)) = true from WideAt.sameKey_self trivial]
theorem size_vr : Tryz.prog.cellsOf 83 = 2 := by kernel_rfl
theorem lits_vr (x : Vr) (h : I64 x.init) (d : Nat) : ∃ ls, Tryz.prog.keyLits (d + 2) 83 x.cs = some ls := by
  refine lits_struct Tryz.underlying83 (by rw [size_vr]; rfl) (by kernel_rfl) fun f hf => ?_
  simp only [List.mem_cons, List.not_mem_nil, or_false] at hf
  rcases hf with rfl | rfl
  · simp only [cB, Vr.cs]; exact lits_bool Tryz.underlying4 _
  · simp only [cI64, Vr.cs]; exact lits_int Tryz.underlying2 h
theorem klaw_vr : WideMaps.KeyLaw Tryz.prog 83 := deep_law_laid (by kernel_rfl) types_n (of_decide_eq_true (by kernel_rfl)) (by kernel_rfl) (by kernel_rfl)
theorem kty_vr : Tryz.prog.keyType 83 = true := by kernel_rfl
theorem wide_vr : (match Tryz.prog.underlying 83 with | some (.array _ _) | some (.struct _) => true | _ => false) = true := by kernel_rfl
set_option maxRecDepth 100000 in
theorem eq_vr (x : Vr) (h : I64 x.init) (W : World) : (Op.equalIn 10000 83 (.agg #[.bool x.atomic, .int .i64 x.init]) (.agg #[.bool x.atomic, .int .i64 x.init])).run Tryz.prog W = .ok true W := by
  obtain ⟨d, hd⟩ := types_5
  obtain ⟨ls, hls⟩ := lits_vr x h (d + 3)
  have hk := Dk.key_of_lits (P := Tryz.prog) kty_vr wide_vr (cs := x.cs) (by rw [size_vr]; rfl) (by rw [hd]; exact hls)
  have h1 := Dk.eq_run (m := Tryz.prog.types.size + 1) klaw_vr types_m kty_vr wide_vr hk hk W
  refine h1.trans ?_
  rw [show (Lit.string (keyBytes ls)).sameKey (.string (keyBytes ls)) = true from WideAt.sameKey_self trivial]
end Go.Proofs.YtlhhmlfcodmebaaGreatDoor.Pg
