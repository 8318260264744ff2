/- The kinds of lines: a map made, and looked into. No condition. -/
import Derived.Test.YtlhhmlfcodmebaaGreatDoorZa
import Derived.Test.YtlhhmlfcodmebaaGreatDoorZh
import Derived.MapKept
import Derived.Carry
import Derived.RangeFuncRecord
import Derived.RangeFuncOwn
namespace Go.Proofs.YtlhhmlfcodmebaaGreatDoor.Wd
set_option linter.unusedVariables false
set_option linter.unusedSimpArgs false
open Go.RowKit Go.WideShapes Go.ChangeShapes Go.MapKept
open Go.Proofs.YtlhhmlfcodmebaaGreatDoor.Pg (Env Blk)
set_option linter.unusedVariables false
set_option linter.unusedSimpArgs false
theorem hmf (fn : Go.Fn) (first cap : Array Value) (w : World) : (Instr.makeFunc fn first cap).run Tryz.prog w = .ok (.func fn first cap) w := rfl
/-- The entries of a map, in order. -/
def ents : List (ByteArray × Value) → Nat → List MapEntry
  | [], _ => []
  | (k, v) :: l, n => ⟨.string k, v, n⟩ :: ents l (n + 1)
theorem ents_app : ∀ (l : List (ByteArray × Value)) (n : Nat) (k : ByteArray) (v : Value), ents (l ++ [(k, v)]) n = ents l n ++ [⟨.string k, v, n + l.length⟩]
  | [], n, k, v => rfl
  | (a, b) :: l, n, k, v => by
    rw [List.cons_append, ents, ents_app l, ents, List.cons_append, List.length_cons]
    congr 4
    omega
/-- What a key finds. -/
def at? (k : ByteArray) : List (ByteArray × Value) → Option Value
  | [] => none
  | (a, v) :: l => if k = a then some v else at? k l
theorem find_ents (k : ByteArray) : ∀ (l : List (ByteArray × Value)) (n i : Nat),
    (at? k l = none ∧ Instr.findNow .string (.string k) (ents l n) i = some none) ∨ ∃ v j, at? k l = some v ∧ Instr.findNow .string (.string k) (ents l n) i = some (some (j, v))
  | [], n, i => .inl ⟨rfl, rfl⟩
  | (a, v) :: l, n, i => by
    by_cases h : k = a
    · subst h
      refine .inr ⟨v, i, by simp [at?], ?_⟩
      simp [ents, Instr.findNow, Instr.sameNow, (bytes_beq k k).2 rfl]
    · have hb : (k == a) = false := by
        cases e : (k == a)
        · rfl
        · exact absurd ((bytes_beq k a).1 e) h
      have hs : Instr.sameNow .string (.string k) (.string a) = some false := by simp [Instr.sameNow, hb]
      rcases find_ents k l (n + 1) (i + 1) with ⟨h1, h2⟩ | ⟨v', j, h1, h2⟩
      · exact .inl ⟨by simp [at?, h, h1], by simp [ents, Instr.findNow, hs, h2]⟩
      · exact .inr ⟨v', j, by simp [at?, h, h1], by simp [ents, Instr.findNow, hs, h2]⟩
/-- A map half made, and the boxes beside it. -/
structure KM (w : World) (r : Nat) (es : List (ByteArray × Value)) (bs : List (Nat × Array Value)) (W : World) : Prop where
  map : W.heap[r]? = some (.map (ents es 0).toArray es.length)
  env : Env w bs W
  low : w.heap.size ≤ r
  ne : ∀ p ∈ bs, p.1 ≠ r
theorem key_string (k : ByteArray) : IsKey .string (.string k) := by simp [IsKey]
theorem ty_map : Tryz.prog.underlying 114 = some (.map 9 112) := Tryz.underlying114
theorem run_put {W : World} {r : Nat} {es : List (ByteArray × Value)} (hb : W.heap[r]? = some (.map (ents es 0).toArray es.length)) (k : ByteArray) (v : Value) (hn : at? k es = none) :
    (Instr.mapUpdate 114 (.map (some r)) (.string k) v).run Tryz.prog W = .ok () (W.putObj r (.map (ents (es ++ [(k, v)]) 0).toArray (es.length + 1))) := by
  rcases find_ents k es 0 0 with ⟨_, h1⟩ | ⟨v', j, h1, _⟩
  · have hf := run_findKey (P := Tryz.prog) (w := W) (l := (ents es 0).toArray.toList) Tryz.underlying9 h1
    simp only at hf
    simp [Instr.mapUpdate, run_underlying ty_map, MapKept.run_getObj_map hb, run_checkKey Tryz.underlying9 (key_string k), hf, run_setObj_map _ hb, Result.andThen, ents_app, World.putObj]
  · rw [hn] at h1; cases h1
theorem KM.lt {w W : World} {r : Nat} {es : List (ByteArray × Value)} {bs : List (Nat × Array Value)} (h : KM w r es bs W) : r < W.heap.size := (Array.getElem?_eq_some_iff.1 h.map).1
theorem blk_put {b r : Nat} {arr : Array Value} {W : World} (h : Blk b arr W) (hne : b ≠ r) (o : Obj) : Blk b arr (W.putObj r o) :=
  ⟨by simpa using h.lt, fun j => (World.cell?_of_block (a := ⟨b, j, none⟩) (World.putObj_heap_other hne)).trans (h.cell j), fun j => (World.frozen?_of_block (a := ⟨b, j, none⟩) (World.putObj_heap_other hne)).trans (h.fr j)⟩
theorem KM.put {w W : World} {r : Nat} {es : List (ByteArray × Value)} {bs : List (Nat × Array Value)} (h : KM w r es bs W) (k : ByteArray) (v : Value) : KM w r (es ++ [(k, v)]) bs (W.putObj r (.map (ents (es ++ [(k, v)]) 0).toArray (es.length + 1))) :=
  ⟨by rw [World.putObj_heap_same h.lt, List.length_append]; rfl, ⟨h.env.acc.grown (grownBy_putObj' W r _) h.env.acc.size (fun k e => by cases e; exact h.low), fun p hp => blk_put (h.env.blk p hp) (h.ne p hp) _⟩, h.low, h.ne⟩
theorem KM.box {w W : World} {r : Nat} {es : List (ByteArray × Value)} {bs : List (Nat × Array Value)} (h : KM w r es bs W) (arr : Array Value) (T : TypeId) : KM w r es ((W.heap.size, arr) :: bs) (W.alloc (.cells arr T)) := by
  refine ⟨(Below.heap_alloc W _ r h.lt).trans h.map, h.env.push _ rfl arr T, h.low, fun p hp => ?_⟩
  have := h.lt
  rcases List.mem_cons.1 hp with rfl | hp
  · simp only; omega
  · exact h.ne p hp
theorem KM.new (w : World) : KM w w.heap.size [] [] (w.alloc (.map #[] 0)) := ⟨World.alloc_heap_new w _, Env.nil.skip _, Nat.le_refl _, fun _ h => by cases h⟩
/-- An entry laid, in the walk. -/
theorem wpList_put {ops : Array Oper} {rest : List Oper} {o : Oper} {a : Act} {Q : Exit → Act → World → Prop} {W : World} (hgd : o.guard = none) (m key val : Operand)
    (ho : o.op = .insert 114 m key val) {w : World} {r : Nat} {es : List (ByteArray × Value)} {bs : List (Nat × Array Value)} {k : ByteArray} {v : Value} (hm : a.eval m = .map (some r)) (hk : a.eval key = .string k) (hv : a.eval val = v)
    (hK : KM w r es bs W) (hn : at? k es = none) (h : ∀ W', KM w r (es ++ [(k, v)]) bs W' → wpList Tryz.prog ops Q rest (a.put o.dst undef) W') : wpList Tryz.prog ops Q (o :: rest) a W := by
  refine wpList_plain hgd fun K hKK => ?_
  have hrun := run_put hK.map k v hn
  unfold Oper.wp
  simp [execOp, ho, hm, hk, hv, hrun, Result.andThen]
  exact hKK _ _ (h _ (hK.put k v))
set_option maxHeartbeats 8000000 in
set_option maxRecDepth 100000 in
theorem upTo_walk (n : Int) (w W : World) (r : Nat) (es : List (ByteArray × Value)) (bs : List (Nat × Array Value)) (K : KM w r es bs W) : Calls Tryz.prog 77 #[.int .i64 n] W fun e w' => (∃ b, e = .returned (.func (.func 78) #[] #[.pointer (some ⟨b, 0, none⟩)]) ∧ KM w r es ((b, #[.int .i64 n]) :: bs) w') := by
  have hmf := hmf
  go_enter Tryz.func77, Tryz.ntmps77
  go_wp2
  go_ret
  exact ⟨_, rfl, K.box _ _⟩
/-- What a kind of line is told by. -/
def kd (n : Int) (may does : Value) : Value := .agg #[.int .i64 n, may, does]
def upTo (b : Nat) : Value := .func (.func 78) #[] #[.pointer (some ⟨b, 0, none⟩)]
def fnc (f : Nat) : Value := .func (.func f) #[] #[]
def kindsL (b1 b2 b3 b4 : Nat) : List (ByteArray × Value) :=
  [(⟨#[115, 99, 97, 114, 97, 98]⟩, kd 1 (fnc 79) (fnc 80)), (⟨#[118, 97, 114]⟩, kd 2 (upTo b1) (fnc 81)), (⟨#[97, 116, 111, 109, 105, 99]⟩, kd 2 (upTo b2) (fnc 81)),
   (⟨#[109, 117, 116, 101, 120]⟩, kd 1 (upTo b3) (fnc 82)), (⟨#[99, 104, 97, 110]⟩, kd 2 (upTo b4) (fnc 83)), (⟨#[102, 117, 110, 99]⟩, kd 3 (fnc 84) (fnc 85)),
   (⟨#[99, 104, 111, 111, 115, 101]⟩, kd 2 (fnc 86) (fnc 87)), (⟨#[111, 110, 115, 101, 110, 100]⟩, kd 4 (fnc 88) (fnc 89)), (⟨#[111, 110, 114, 101, 99, 118]⟩, kd 4 (fnc 88) (fnc 89))]
set_option maxHeartbeats 8000000 in
set_option maxRecDepth 100000 in
theorem kinds_walk (w : World) : Calls Tryz.prog 53 #[] w fun e w' => ∃ r b1 b2 b3 b4, e = .returned (.map (some r)) ∧ KM w r (kindsL b1 b2 b3 b4) [(b4, #[.int .i64 3]), (b3, #[.int .i64 2]), (b2, #[.int .i64 1]), (b1, #[.int .i64 1])] w' := by
  have hmf := hmf
  have hmm := @run_makeMap Tryz.prog
  have cU := Lib.hid (fun n W w r es bs K => upTo_walk n W w r es bs K)
  have K0 := KM.new w
  go_enter Tryz.func53, Tryz.ntmps53
  go_wp2_with (first | (go_at_call 77; ((with_reducible refine (cU.out _ _ _ _ _ _ (by assumption)).mono ?_); rintro e w' ⟨b, rfl, K⟩)) | (refine wpList_put rfl _ _ _ rfl rfl rfl rfl (by assumption) (by kernel_rfl) ?_; intro W' K; simp only [List.nil_append, List.cons_append] at K))
  go_ret
  exact ⟨_, _, _, _, _, rfl, by assumption⟩
theorem run_get {W : World} {r : Nat} {es : List (ByteArray × Value)} (hb : W.heap[r]? = some (.map (ents es 0).toArray es.length)) (k : ByteArray) :
    (Instr.lookup 114 (.map (some r)) (.string k) true).run Tryz.prog W = .ok (.tuple #[(at? k es).getD (.agg #[.int .i64 0, .nilFunc, .nilFunc]), .bool (at? k es).isSome]) W := by
  have hz := Tryz.zeroValue112 W
  rcases find_ents k es 0 0 with ⟨h0, h1⟩ | ⟨v', j, h0, h1⟩
  · have hf := run_findKey (P := Tryz.prog) (w := W) (l := (ents es 0).toArray.toList) Tryz.underlying9 h1
    simp only at hf
    simp [Instr.lookup, run_underlying ty_map, MapKept.run_getObj_map hb, run_checkKey Tryz.underlying9 (key_string k), hf, Result.andThen, h0, hz]
  · have hf := run_findKey (P := Tryz.prog) (w := W) (l := (ents es 0).toArray.toList) Tryz.underlying9 h1
    simp only at hf
    simp [Instr.lookup, run_underlying ty_map, MapKept.run_getObj_map hb, run_checkKey Tryz.underlying9 (key_string k), hf, Result.andThen, h0]
end Go.Proofs.YtlhhmlfcodmebaaGreatDoor.Wd
