/- Distinct: how many unlike states there are, and of each the place of the first like it. The states lie in a row; each is read as a key. -/
import Derived.Test.YtbcdeanmjhcgeaaD0
import Derived.Test.YtbcdeanmjhcgeaaDK
import Derived.Test.YtbcdeanmjhcgeaaEnv
import Derived.Maps.OwnOps
import Derived.Maps.AppendAt
import Derived.Deep.MidRow
import Derived.Laws.Tables
import Derived.WalkKit
import Derived.Lib.Hide
import Derived.Test.YtbcdeanmjhcgeaaProg
namespace Go.Proofs.Ytbcdeanmjhcgeaa.Di
open Go.RowKit Go.Maps
open Go.Proofs.Ytbcdeanmjhcgeaa.Pg (Blk)
theorem size32 : (Try.prog.info? 36).map (·.size) = some 121 := by kernel_rfl
theorem cellsS : Try.prog.cellsOf 36 = 121 := by kernel_rfl
theorem laid : laidOutB Try.prog = true := by kernel_rfl
theorem keyT : Try.prog.keyType 36 = true := by kernel_rfl
theorem wideT : (match Try.prog.underlying 36 with | some (.array _ _) | some (.struct _) => true | _ => false) = true := by kernel_rfl
theorem rowT : 36 < Try.prog.types.size := of_decide_eq_true (by kernel_rfl)
theorem typesN : Try.prog.types.size + 1 + 1 ≤ 10000 := of_decide_eq_true (by kernel_rfl)
theorem lawS : WideMaps.KeyLaw Try.prog 36 := deep_law_laid laid typesN rowT keyT wideT
theorem keyedS : Keyed Try.prog 36 := Keyed.of_law lawS
theorem eqS {x y : Value} {lx ly : Lit} (hx : keyOf Try.prog 36 x = some lx) (hy : keyOf Try.prog 36 y = some ly) (w : World) : (Op.equal 36 x y).run Try.prog w = .ok (lx.sameKey ly) w :=
  Dk.eq_run lawS (Nat.le_of_succ_le typesN) keyT wideT hx hy w
theorem zeroI (w : World) : (zeroValue 3).run Try.prog w = .ok (.int .i64 0) w := by kernel_rfl
theorem info3 : (Try.prog.info? 3).map (fun i => (i.zero, i.size, i.bytes)) = some (some (.int .i64 0), 1, 8) := by kernel_rfl
def zcells : Array Value := (List.replicate 12 (Value.int .i64 0) ++ ((List.replicate 4 (List.replicate 5 (Value.int .i64 0) ++ Value.bool false :: List.replicate 3 (Value.int .i64 0))).flatten ++ List.replicate 73 (Value.int .i64 0))).toArray
theorem zero_run (w : World) : (zeroValue 36).run Try.prog w = .ok (.agg zcells) w := by kernel_rfl
theorem zero_size : zcells.size = 121 := by kernel_rfl
theorem zeroS : ∃ zc : Array Value, (∀ w, (zeroValue 36).run Try.prog w = .ok (.agg zc) w) ∧ RowKit.Hid (zc.size = 121) ∧ zc ≠ #[] :=
  ⟨zcells, zero_run, Lib.hid zero_size, fun h => by have := zero_size; rw [h] at this; cases this⟩
theorem below_setCells {B : Nat} {a : World} {b : Nat} (hb : B ≤ b) : ∀ (vs : List Value) (o : Nat) (w : World), Below B a w → Below B a (w.setCells b o vs)
  | [], _, _, h => h
  | v :: vs, o, w, h => below_setCells hb vs (o + 1) _ (h.setCell (by simpa using hb) v)
theorem there_new (W : World) (arr : Array Value) (T : TypeId) (n : Nat) (h : n ≤ arr.size) : (W.alloc (.cells arr T)).there W.heap.size 0 n := fun j hj =>
  ⟨by rw [Nat.zero_add, World.cell?_alloc_new, Array.getElem?_eq_getElem (by omega)]; rfl, World.frozen?_alloc_new _ _ _ _⟩
/-- A whole state written into a new block: the state lies there, and nothing older is touched. -/
theorem stored (W : World) (arr : Array Value) (T : TypeId) (vs : List Value) (h : vs.length ≤ arr.size) :
    ((W.alloc (.cells arr T)).setCells W.heap.size 0 vs).rangeAt W.heap.size 0 vs ∧ Below W.heap.size W ((W.alloc (.cells arr T)).setCells W.heap.size 0 vs) ∧ W.heap.size < ((W.alloc (.cells arr T)).setCells W.heap.size 0 vs).heap.size := by
  have h2 := below_setCells (Nat.le_refl _) vs 0 _ (Below.alloc (Below.refl W.heap.size W) (Nat.le_refl _) (.cells arr T))
  have h3 := below_setCells (B := (W.alloc (.cells arr T)).heap.size - 1) (b := W.heap.size) (by simp) vs 0 _ (Below.refl _ (W.alloc (.cells arr T)))
  exact ⟨World.rangeAt_setCells_same _ _ _ _ (there_new W arr T _ h), h2, by have := h3.size; simp at this; omega⟩
theorem grown_of_below {W W' : World} (h : Below W.heap.size W W') : W.grownBy W' none := ⟨h.os, h.tape, h.output, h.size, fun k hk _ => h.block k hk⟩
theorem range_far {w w' : World} {row : Option Nat} (hg : w.grownBy w' row) {b o : Nat} {cs : List Value} (h : w.rangeAt b o cs) (hlt : b < w.heap.size) (hne : some b ≠ row) : w'.rangeAt b o cs := fun j v hv => by
  rw [World.cell?_of_block (w := w) (hg.block b hlt hne)]; exact h j v hv
theorem range_below {B : Nat} {w w' : World} (hg : Below B w w') {b o : Nat} {cs : List Value} (h : w.rangeAt b o cs) (hlt : b < B) : w'.rangeAt b o cs := fun j v hv => by
  rw [hg.cell (by exact hlt)]; exact h j v hv
/-- The law at a load of a whole state. -/
theorem load_s {ops : Array Oper} {rest : List Oper} {op : Oper} {a : Act} {w : World} {Q : Exit → Act → World → Prop} (hgd : op.guard = none) (x : Operand) (ho : op.op = .load 36 x)
    (b o : Nat) (hx : a.eval x = .pointer (some ⟨b, o, none⟩)) (arr : Array Value) (hc : w.rangeAt b o arr.toList) (hs : arr.size = 121)
    (h : wpList Try.prog ops Q rest (a.put op.dst (.agg arr)) w) : wpList Try.prog ops Q (op :: rest) a w :=
  wpList_load_mid hgd _ x ho b o hx arr.toList _ hc Try.underlying36 rfl (by rw [size32, Array.length_toList, hs]) (by simpa using h)
theorem store_s {ops : Array Oper} {rest : List Oper} {op : Oper} {a : Act} {w : World} {Q : Exit → Act → World → Prop} (hgd : op.guard = none) (x y : Operand) (ho : op.op = .store 36 x y)
    (W : World) (zc arr : Array Value) (T : TypeId) (hw : w = W.alloc (.cells zc T)) (hz : zc.size = 121) (hs : arr.size = 121) (h1 : arr.all (·.oneCell') = true) (hx : a.eval x = .pointer (some ⟨W.heap.size, 0, none⟩)) (hy : a.eval y = .agg arr)
    (h : ∀ w1, w1.rangeAt W.heap.size 0 arr.toList → Below W.heap.size W w1 → W.heap.size < w1.heap.size → wpList Try.prog ops Q rest (a.put op.dst undef) w1) : wpList Try.prog ops Q (op :: rest) a w := by
  subst hw
  obtain ⟨s1, s2, s3⟩ := stored W zc T arr.toList (by simp [hz, hs])
  exact wpList_store_mid hgd _ x y ho W.heap.size 0 arr hx hy (there_new W zc T _ (by omega)) (by rw [size32, hs]) h1 (h _ s1 s2 s3)
theorem row_ne {w : World} {base : Nat} {e : TypeId} {size : Nat} {v : Value} {n : Nat} {xs : List Value} (h : w.ownsRow base e size v n xs) {b : Nat} (hb : b < base) : some b ≠ v.ownBlock := fun e1 => by
  have := (h.lt b e1.symm).1; omega
/-- Some states in a row: cells, and keys. -/
structure Row (b off n : Nat) (C : Nat → Array Value) (K : Nat → Lit) (w : World) : Prop where
  lt : b < w.heap.size
  at_ : ∀ j, j < n → w.rangeAt b (off + j * 121) (C j).toList
  size : ∀ j, j < n → (C j).size = 121
  one : ∀ j, j < n → (C j).all (·.oneCell') = true
  key : ∀ j, j < n → keyOf Try.prog 36 (.agg (C j)) = some (K j)
  isKey : ∀ j, WideAt.IsKeyLit (K j)
set_option maxHeartbeats 4000000 in
set_option maxRecDepth 100000 in
theorem distinct_any (b off len cap : Nat) (C : Nat → Array Value) (K : Nat → Lit) (w : World) (hreach : len * 8 ≤ 140737488351232) (R : Row b off len C K w) :
    Calls Try.prog 4 #[.slice (some ⟨b, off, none⟩) len cap] w fun e w' => ∃ v, e = .returned (.tuple #[.int .i64 (dist (like K) len : Nat), v]) ∧ w'.ownsRow (w.heap.size + 1) 3 1 v (fsts (like K) len).length ((fsts (like K) len).map (Value.int .i64)) ∧ Below w.heap.size w w' := by
  have hmm := @run_makeMap Try.prog
  obtain ⟨i0, hi, hz0, hz1, hz2⟩ := info_parts info3
  obtain ⟨zc, hzv, hzs, hzn⟩ := zeroS
  go_enter Try.func4, Try.ntmps4
  go_wp2
  go_loopw [5, 13] (fun v i wr => ∃ k : Nat, k ≤ len ∧ i = .int .i64 k ∧ (∃ D, Held K k D ∧ wr.ownsMap Try.prog 36 (plainElem Try.prog 3) w.heap.size k D) ∧ wr.ownsRow (w.heap.size + 1) 3 1 v (fsts (like K) k).length ((fsts (like K) k).map (Value.int .i64)) ∧
      Below w.heap.size w wr ∧ w.heap.size + 1 ≤ wr.heap.size)
    (fun _ i _ => len - (intOf i).toNat)
  case atStart => exact ⟨0, Nat.zero_le _, rfl, ⟨_, Held.start, World.ownsMap_made _ _ _ _⟩, World.ownsRow_nil _ _ _ _, (Below.refl _ _).alloc (Nat.le_refl _) _, by simp⟩
  case round =>
    obtain ⟨k, hk, rfl, ⟨D, hD, hown⟩, hrow, hnx, hws⟩ := hrel
    have hcx : k < len → wr.rangeAt b (off + k * 121) (C k).toList := fun h => range_below hnx (R.at_ k h) R.lt
    have hsx := fun h => Lib.hid (R.size k h)
    have hox := fun h => Lib.hid (R.one k h)
    have hkx := R.key k
    generalize hCk : C k = ck at *
    have hfl := fsts_len (e := like K) k
    go_wp2_with (first
      | (at_builtin; refine wpList_append_own _ rfl _ _ 23 rfl (w.heap.size + 1) 3 i0 (.int .i64 0) 1 8 Try.underlying23 hi hz0 hz1 hz2 rfl (by decide) _ _ _ rfl (hrow2.alloc _) ⟨w2.heap.size, 0, none⟩ 1 1 [.int .i64 (fs (like K) k : Nat)] rfl rfl (cell_one_new _ _ _) (ints_oneCell .i64 [_]) (by unfold maxLen; omega) (by omega) (by simp; omega) ?_; intro v' w3 hown' hgrow3 hnil3)
      | (at_builtin; refine wpList_append_own _ rfl _ _ 23 rfl (w.heap.size + 1) 3 i0 (.int .i64 0) 1 8 Try.underlying23 hi hz0 hz1 hz2 rfl (by decide) _ _ _ rfl (hrow1.alloc _) ⟨w1.heap.size, 0, none⟩ 1 1 [.int .i64 (fs (like K) k : Nat)] rfl rfl (cell_one_new _ _ _) (ints_oneCell .i64 [_]) (by unfold maxLen; omega) (by omega) (by simp; omega) ?_; intro v' w3 hown' hgrow3 hnil3)
      | (at_lookup; refine wpList_lookup_own_int _ rfl _ _ 39 rfl 36 3 .i64 keyedS Try.underlying39 Try.underlying3 (zeroI _) w.heap.size _ _ rfl hown2 _ (K k) rfl hk1.out ?_; intro c hat hwc; obtain rfl := (Lit.int.inj (DataW.lit.inj (hat.symm.trans (Held.fst R.isKey hD2)))).2)
      | (at_lookup; refine wpList_lookup_own_int _ rfl _ _ 39 rfl 36 3 .i64 keyedS Try.underlying39 Try.underlying3 (zeroI _) w.heap.size _ _ rfl hown1 _ (K k) rfl hk1.out ?_; intro c hat hwc; have hD1 := Held.old R.isKey hD (not_f ‹(!Maps.has D (K k)) = false›); obtain rfl := (Lit.int.inj (DataW.lit.inj (hat.symm.trans (Held.fst R.isKey hD1)))).2)
      | (refine load_s rfl _ rfl wr.heap.size 0 rfl ck hS2 hs1.out ?_)
      | (at_mapUpdate; refine wpList_mapUpdate_own _ rfl _ _ _ 39 rfl 36 3 keyedS Try.underlying39 (plainElem (H := Unit) Try.prog 3) w.heap.size k _ rfl hown1 (by unfold maxLen; omega) _ _ _ rfl rfl hk1.out _ [] (plainElem_int Try.underlying3 (WalkArith.wf_i64 (by omega))) ?_; intro w2 hown2 hgrow2; have hS2 := range_far hgrow2 hS1 hlt1 (by simp; omega); have hrow2 := hrow1.kept hgrow2 (Or.inr (row_ne hrow1 (Nat.lt_succ_self _)).symm); have ss2 := hgrow2.size; have hD2 := Held.new R.isKey hD (not_t ‹(!Maps.has D (K k)) = true›))
      | (at_lookup; refine wpList_lookup_own_ok_int _ rfl _ _ 39 rfl 36 3 .i64 keyedS Try.underlying39 Try.underlying3 (zeroI _) w.heap.size _ _ rfl hown1 _ (K k) rfl hk1.out ?_; intro c0 hat0 hwc0)
      | (refine load_s rfl _ rfl wr.heap.size 0 rfl ck hS1 hs1.out ?_)
      | (refine store_s rfl _ _ rfl wr zc ck 36 rfl hzs.out hs1.out ho1.out rfl rfl ?_; intro w1 hS1 hb1 hlt1; have hown1 := hown.kept (grown_of_below hb1) (by simp); have hrow1 := hrow.kept (grown_of_below hb1) (Classical.em _); have ss1 := hb1.size)
      | (refine load_s rfl _ rfl b (off + k * 121) rfl ck (hcx (by omega)) (hsx (by omega)).out ?_; have hs1 := hsx (by omega); have ho1 := hox (by omega); have hk1 := Lib.hid (hkx (by omega)))
      | (at_len; refine wpList_len_own _ rfl _ 39 rfl 36 3 Try.underlying39 _ w.heap.size _ D rfl hown ?_)
      | go_in)
    · go_roundw
      case rel =>
        have b3 := ((hnx.trans (hb1.mono hnx.size)).grown hgrow2 (by omega) (fun j hj => by cases hj; exact Nat.le_refl _))
        have s3 := hgrow3.size
        simp at s3
        refine ⟨k + 1, by omega, by go_num, ⟨_, hD2, (hown2.alloc _).kept hgrow3 (row_ne hrow2 (Nat.lt_succ_self _))⟩, ?_, ((b3.alloc (by omega) _).grown hgrow3 (by simp; omega) (fun j hj => Nat.le_trans (Nat.le_succ _) (hrow2.lt j hj).1)), by omega⟩
        rw [fsts_succ]
        simpa using hown'
      case measure => simp [intOf]; omega
    · go_roundw
      case rel =>
        have b3 := hnx.trans (hb1.mono hnx.size)
        have s3 := hgrow3.size
        simp at s3
        refine ⟨k + 1, by omega, by go_num, ⟨_, hD1, (hown1.alloc _).mono (Nat.le_succ _) |>.kept hgrow3 (row_ne hrow1 (Nat.lt_succ_self _))⟩, ?_, ((b3.alloc (by omega) _).grown hgrow3 (by simp; omega) (fun j hj => Nat.le_trans (Nat.le_succ _) (hrow1.lt j hj).1)), by omega⟩
        rw [fsts_succ]
        simpa using hown'
      case measure => simp [intOf]; omega
    · have : k = len := by omega
      subst this
      refine bodyPost_ret (v := .tuple #[.int .i64 (Maps.size D : Nat), u5]) (by simp [results, Try.results4]) rfl ⟨_, by rw [hD.size], hrow, hnx⟩
end Go.Proofs.Ytbcdeanmjhcgeaa.Di
