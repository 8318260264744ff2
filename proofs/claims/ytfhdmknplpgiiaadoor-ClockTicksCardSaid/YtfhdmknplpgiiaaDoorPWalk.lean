/- Clocks, walked: Parse. -/
import Derived.Test.YtfhdmknplpgiiaaDoorPEnv
import Derived.Test.YtfhdmknplpgiiaaDoorW5
import Derived.Test.YtfhdmknplpgiiaaDoorW8
import Derived.Deep.RegionWith
import Derived.StillTailTactics
import Derived.Test.YtfhdmknplpgiiaaDoorW2
import Derived.Test.YtfhdmknplpgiiaaDoorW7
namespace Go.Proofs.YtfhdmknplpgiiaaDoor.Ck
open Go.ChangeShapes Go.WideShapes Go.RowKit
theorem itoa_env (n : Int) (h0 : -9223372036854775808 ≤ n) (h1 : n ≤ 9223372036854775807) (w : World) (E : Env w) : Calls Tryd.prog 36 #[.int .i64 n] w fun e w' => e = .returned (.string (num n)) ∧ Below w.heap.size w w' :=
  (Tryd.strconv_Itoa n h0 h1 w E.pow).mono fun e w' ⟨he, k, os, hw⟩ => ⟨he, by rw [hw]; exact Lib.below_grow _ w (Nat.le_refl _) k os⟩
theorem bare_size (s : ByteArray) : (bare s).size ≤ s.size := by
  have h1 := Lib.trimSuffix_le (Lib.trimPrefix s.data.toList [60]) [62]
  have h2 := Lib.trimPrefix_le s.data.toList [60]
  rw [Lib.size_eq, Lib.size_eq]
  unfold bare
  simp only
  omega
theorem split_sizes (sep : ByteArray) : ∀ (k : Nat) (s : ByteArray), ∀ x ∈ Lib.splitB sep 0 k s, x.size ≤ s.size
  | 0, s, x, hx => by simp [Lib.splitB_zero] at hx; subst hx; exact Nat.le_refl _
  | k + 1, s, x, hx => by
    rcases Lib.indexB_cases s sep with h | ⟨i, h, hi⟩
    · rw [Lib.splitB_miss _ _ _ _ h] at hx
      simp at hx; subst hx; exact Nat.le_refl _
    · rw [Lib.splitB_hit _ _ _ _ i h] at hx
      rcases List.mem_cons.1 hx with rfl | hx
      · simp [ByteArray.size_extract]; omega
      · have := split_sizes sep k _ x hx
        simp [ByteArray.size_extract] at this
        omega
theorem pieces_length (s : ByteArray) : (pieces s).length = Lib.countB (bare s) ⟨#[44]⟩ + 1 := Lib.splitB_all ⟨#[44]⟩ (by decide) 0 _ _ rfl
theorem pieces_sizes (s : ByteArray) : ∀ x ∈ pieces s, x.size ≤ s.size := fun x hx => Nat.le_trans (split_sizes _ _ _ x hx) (bare_size s)
set_option maxHeartbeats 4000000 in
set_option maxRecDepth 100000 in
theorem parse_long (s : ByteArray) (w : World) (hs : 65536 < s.size) : Calls Tryd.prog 21 #[.string s] w fun e w' => e = .returned (.tuple #[zero.v, .int .i64 2]) ∧ Below w.heap.size w w' := by
  go_enter Tryd.func21, Tryd.ntmps21
  go_wp2
  refine bodyPost_ret (v := .tuple #[zero.v, .int .i64 2]) (by simp [results, Tryd.results21, go_sem, C6.v, zero]) rfl ⟨rfl, ?_⟩
  repeat (first | (with_reducible exact Below.refl _ _) | (with_reducible refine Below.drew ?_) | (with_reducible refine Below.alloc ?_ (by simp <;> omega) _))
theorem trims (s : ByteArray) (hs : s.size ≤ 9223372036854775807) : ∃ p1 : ByteArray, (∀ W : World, Calls Tryd.prog 34 #[.string s, .string ⟨#[60]⟩] W fun e w' => e = .returned (.string p1) ∧ w' = W) ∧
    (∀ W : World, Calls Tryd.prog 33 #[.string p1, .string ⟨#[62]⟩] W fun e w' => e = .returned (.string (bare s)) ∧ w' = W) :=
  ⟨_, fun W => Tryd.strings_TrimPrefix s ⟨#[60]⟩ W, fun W => Tryd.strings_TrimSuffix ⟨(Lib.trimPrefix s.data.toList [60]).toArray⟩ ⟨#[62]⟩ W (by have := Lib.trimPrefix_le s.data.toList [60]; rw [Lib.size_eq] at *; simp only at *; omega)⟩
/-- The row that Split makes. -/
def rowOf (l : List ByteArray) : Obj := .cells (l.map Value.string).toArray 9
theorem splits (s : ByteArray) (w : World) (E : Env w) (hs : ¬ 65536 < s.size) : ∀ W : World, Below w.heap.size w W → Calls Tryd.prog 32 #[.string (bare s), .string ⟨#[44]⟩] W fun e w' => e = .returned (.slice (some ⟨W.heap.size, 0, none⟩) (pieces s).length (pieces s).length) ∧ w' = W.alloc (rowOf (pieces s)) := by
  obtain ⟨m, hm⟩ := E.top
  intro W hb
  have := bare_size s
  rw [pieces_length]
  exact Tryd.strings_Split (bare s) ⟨#[44]⟩ m W (by omega) (cell_below hm hb) (by decide)
set_option maxHeartbeats 4000000 in
set_option maxRecDepth 100000 in
theorem parse_other (s : ByteArray) (w : World) (E : Env w) (hs : ¬ 65536 < s.size) (hn : ¬ (pieces s).length = 6) : Calls Tryd.prog 21 #[.string s] w fun e w' => e = .returned (.tuple #[zero.v, .int .i64 8]) ∧ Below w.heap.size w w' := by
  have cS := Lib.hid (splits s w E hs)
  obtain ⟨p1, cP, cX⟩ := trims s (by omega)
  have cP := Lib.hid cP
  have cX := Lib.hid cX
  generalize (pieces s) = ps at *
  generalize bare s = bs at *
  clear E
  go_enter Tryd.func21, Tryd.ntmps21
  go_wp2_with (first
    | (go_at_call 34; ((with_reducible refine (cP.out _).mono ?_); rintro e w' ⟨rfl, rfl⟩))
    | (go_at_call 33; ((with_reducible refine (cX.out _).mono ?_); rintro e w' ⟨rfl, rfl⟩))
    | (go_at_call 32; ((with_reducible refine (cS.out _ (by repeat (first | (with_reducible exact Below.refl _ _) | (with_reducible refine Below.drew ?_) | (with_reducible refine Below.alloc ?_ (by simp <;> omega) _)))).mono ?_); rintro e w' ⟨rfl, rfl⟩)))
  refine bodyPost_ret (v := .tuple #[zero.v, .int .i64 8]) (by simp [results, Tryd.results21, go_sem, C6.v, zero]) rfl ⟨rfl, ?_⟩
  repeat (first | (with_reducible exact Below.refl _ _) | (with_reducible refine Below.drew ?_) | (with_reducible refine Below.alloc ?_ (by simp <;> omega) _))
theorem tl_inj {a b : ByteArray} (h : a.toList = b.toList) : a = b := by
  rw [Lib.toList_data, Lib.toList_data] at h
  exact ByteArray.ext (Array.toList_inj.1 h)
/-- The six, as cells. -/
def C6.arr (x : C6) : Array Value := #[.int .i64 x.a, .int .i64 x.b, .int .i64 x.c, .int .i64 x.d, .int .i64 x.e, .int .i64 x.f]
theorem C6.arr_nth (x : C6) (k : Nat) (hk : k < 6) : x.arr[k]? = some (.int .i64 (x.nth k)) := by
  match k, hk with
  | 0, _ | 1, _ | 2, _ | 3, _ | 4, _ | 5, _ => rfl
theorem C6.arr_out (x : C6) (k : Nat) (hk : ¬ k < 6) : x.arr[k]? = none := Array.getElem?_eq_none (by simp [C6.arr]; omega)
/-- Half way: the array, and the pieces. -/
structure Mid (w : World) (q : List ByteArray) (x : C6) (W : World) : Prop where
  c : ∀ k, W.cell? ⟨w.heap.size + 1, k, none⟩ = x.arr[k]?
  f : ∀ k, W.frozen? ⟨w.heap.size + 1, k, none⟩ = false
  p : ∀ k y, q[k]? = some y → W.cell? ⟨w.heap.size + 1 + 1, k, none⟩ = some (.string y)
  z : ∀ k, W.cell? ⟨w.heap.size, k, none⟩ = zero.arr[k]?
  zf : ∀ k, W.frozen? ⟨w.heap.size, k, none⟩ = false
  acc : Below w.heap.size w W
  sz : w.heap.size + 3 ≤ W.heap.size
def C6.set (x : C6) (v : Int) : Nat → C6
  | 0 => ⟨v, x.b, x.c, x.d, x.e, x.f⟩
  | 1 => ⟨x.a, v, x.c, x.d, x.e, x.f⟩
  | 2 => ⟨x.a, x.b, v, x.d, x.e, x.f⟩
  | 3 => ⟨x.a, x.b, x.c, v, x.e, x.f⟩
  | 4 => ⟨x.a, x.b, x.c, x.d, v, x.f⟩
  | _ => ⟨x.a, x.b, x.c, x.d, x.e, v⟩
theorem set_nth (x : C6) (v : Int) (k j : Nat) (hk : k < 6) (hj : j < 6) : (x.set v k).nth j = if j = k then v else x.nth j := by
  match k, hk, j, hj with
  | 0, _, 0, _ | 0, _, 1, _ | 0, _, 2, _ | 0, _, 3, _ | 0, _, 4, _ | 0, _, 5, _ => rfl
  | 1, _, 0, _ | 1, _, 1, _ | 1, _, 2, _ | 1, _, 3, _ | 1, _, 4, _ | 1, _, 5, _ => rfl
  | 2, _, 0, _ | 2, _, 1, _ | 2, _, 2, _ | 2, _, 3, _ | 2, _, 4, _ | 2, _, 5, _ => rfl
  | 3, _, 0, _ | 3, _, 1, _ | 3, _, 2, _ | 3, _, 3, _ | 3, _, 4, _ | 3, _, 5, _ => rfl
  | 4, _, 0, _ | 4, _, 1, _ | 4, _, 2, _ | 4, _, 3, _ | 4, _, 4, _ | 4, _, 5, _ => rfl
  | 5, _, 0, _ | 5, _, 1, _ | 5, _, 2, _ | 5, _, 3, _ | 5, _, 4, _ | 5, _, 5, _ => rfl
theorem Mid.below {w : World} {q : List ByteArray} {x : C6} {W w1 : World} (M : Mid w q x W) (hb : Below W.heap.size W w1) : Mid w q x w1 := by
  have hs := M.sz
  have h1 := hb.size
  refine ⟨fun k => ?_, fun k => ?_, fun k y hy => ?_, fun k => ?_, fun k => ?_, M.acc.trans (hb.mono (by omega)), by omega⟩
  · rw [hb.cell (by simp only; omega)]; exact M.c k
  · rw [hb.frozen (by simp only; omega)]; exact M.f k
  · rw [hb.cell (by simp only; omega)]; exact M.p k y hy
  · rw [hb.cell (by simp only; omega)]; exact M.z k
  · rw [hb.frozen (by simp only; omega)]; exact M.zf k
theorem Mid.put {w : World} {q : List ByteArray} {x : C6} {W : World} (M : Mid w q x W) (k : Nat) (hk : k < 6) (v : Int) : Mid w q (x.set v k) (W.setCell ⟨w.heap.size + 1, k, none⟩ (.int .i64 v)) := by
  refine ⟨fun j => ?_, fun j => ?_, fun j y hy => ?_, fun j => ?_, fun j => ?_, M.acc.setCell (by simp only; omega) _, by simpa [World.setCell] using M.sz⟩
  · by_cases h : j = k
    · subst h
      rw [C6.arr_nth _ j hk, set_nth x v j j hk hk, if_pos rfl]
      exact World.cell?_setCell_same _ _ _ ((M.c j).trans (C6.arr_nth _ j hk))
    · rw [World.cell?_setCell_other _ _ _ _ (by simp only [ne_eq, Addr.mk.injEq, true_and, and_true]; omega), M.c j]
      by_cases hj : j < 6
      · rw [C6.arr_nth _ j hj, C6.arr_nth _ j hj, set_nth x v k j hk hj, if_neg h]
      · rw [C6.arr_out _ j hj, C6.arr_out _ j hj]
  · rw [World.frozen?_setCell]; exact M.f j
  · rw [World.cell?_setCell_other _ _ _ _ (by simp only [ne_eq, Addr.mk.injEq]; omega)]
    exact M.p j y hy
  · rw [World.cell?_setCell_other _ _ _ _ (by simp only [ne_eq, Addr.mk.injEq]; omega)]
    exact M.z j
  · rw [World.frozen?_setCell]; exact M.zf j
/-- What one call and one write leave. -/
theorem Mid.next {w : World} {q : List ByteArray} {x : C6} {W w1 : World} (M : Mid w q x W) (hb : Below W.heap.size W w1) (k : Nat) (hk : k < 6) (v : Int) : Mid w q (x.set v k) (w1.setCell ⟨w.heap.size + 1, k, none⟩ (.int .i64 v)) := (M.below hb).put k hk v
set_option maxHeartbeats 4000000 in
set_option maxRecDepth 100000 in
theorem parse_six (s p0 p1 p2 p3 p4 p5 : ByteArray) (w : World) (E : Env w) (hs : ¬ 65536 < s.size) (hp : pieces s = [p0, p1, p2, p3, p4, p5]) : Calls Tryd.prog 21 #[.string s] w fun e w' => e = .returned (.tuple #[(pres s).1.v, .int .i64 (pres s).2]) ∧ Below w.heap.size w w' := by
  obtain ⟨r, hr⟩ : ∃ r, r = pres s := ⟨_, rfl⟩
  rw [← hr]
  have cS := Lib.hid (splits s w E hs)
  have hz := pieces_sizes s
  rw [hp] at cS hz
  have cA : ∀ x ∈ [p0, p1, p2, p3, p4, p5], ∀ W, Below w.heap.size w W → Calls Tryd.prog 35 #[.string x] W fun e w' => (∃ ev, e = .returned (.tuple #[.int .i64 (av x), ev])) ∧ Below W.heap.size W w' := fun x hx W hb => atoi_walk x (by have := hz x hx; omega) W (E.below hb)
  have a0 := Lib.hid (cA p0 (by simp))
  have a1 := Lib.hid (cA p1 (by simp))
  have a2 := Lib.hid (cA p2 (by simp))
  have a3 := Lib.hid (cA p3 (by simp))
  have a4 := Lib.hid (cA p4 (by simp))
  have a5 := Lib.hid (cA p5 (by simp))
  clear cA hz
  obtain ⟨q1, cP', cX'⟩ := trims s (by omega)
  have cP := Lib.hid cP'
  have cX := Lib.hid cX'
  clear cP' cX'
  generalize bare s = bs at *
  unfold rowOf at cS
  simp only [List.map_cons, List.map_nil, List.length_cons, List.length_nil] at cS
  have E' := Lib.hid E
  clear E
  go_enter Tryd.func21, Tryd.ntmps21
  go_wp2_with (first
    | (go_at_call 34; ((with_reducible refine (cP.out _).mono ?_); rintro e w' ⟨rfl, rfl⟩))
    | (go_at_call 33; ((with_reducible refine (cX.out _).mono ?_); rintro e w' ⟨rfl, rfl⟩))
    | (go_at_call 32; ((with_reducible refine (cS.out _ (by repeat (first | (with_reducible exact Below.refl _ _) | (with_reducible refine Below.drew ?_) | (with_reducible refine Below.alloc ?_ (by simp <;> omega) _)))).mono ?_); rintro e w' ⟨rfl, rfl⟩)))
  clear cP cX cS
  have hn1 : (w.alloc (box zero)).heap.size = w.heap.size + 1 := by simp
  have hn2 : ((w.alloc (box zero)).alloc (box zero)).heap.size = w.heap.size + 1 + 1 := by simp
  have M : Mid w [p0, p1, p2, p3, p4, p5] zero (((w.alloc (box zero)).alloc (box zero)).alloc (rowOf [p0, p1, p2, p3, p4, p5])) := by
    refine ⟨fun k => ?_, fun k => ?_, fun k y hy => ?_, fun k => ?_, fun k => ?_, ?_, by simp⟩
    · rw [World.cell?_alloc_lt _ _ _ (by simp), ← hn1]
      exact World.cell?_alloc_new _ _ _ _
    · rw [World.frozen?_alloc_old _ _ _ (by simp), ← hn1]
      exact World.frozen?_alloc_new _ _ _ _
    · rw [← hn2]
      refine (World.cell?_alloc_new _ _ _ _).trans ?_
      have hm := congrArg (Option.map Value.string) hy
      rw [← List.getElem?_map] at hm
      simpa using hm
    · rw [World.cell?_alloc_lt _ _ _ (by simp; omega), World.cell?_alloc_lt _ _ _ (by simp)]
      exact World.cell?_alloc_new _ _ _ _
    · rw [World.frozen?_alloc_old _ _ _ (by simp; omega), World.frozen?_alloc_old _ _ _ (by simp)]
      exact World.frozen?_alloc_new _ _ _ _
    · repeat (first | (with_reducible exact Below.refl _ _) | (with_reducible refine Below.drew ?_) | (with_reducible refine Below.alloc ?_ (by simp <;> omega) _))
  clear hn1 hn2
  simp only [box, zero, rowOf, List.map_cons, List.map_nil] at M
  generalize ((w.alloc _).alloc _).alloc _ = W0 at *
  refine wp_loop_rounds 7 ?_
  have k0 := M.p 0 _ rfl
  rw [rounds_succ]; go_wp2_with (go_at_call 35; ((with_reducible refine (a0.out _ M.acc).mono ?_); rintro e w1 ⟨⟨ev, rfl⟩, hb1⟩; have l1 := ((M.below hb1).c 0).trans (C6.arr_nth _ 0 (by omega)); have f1 := (M.below hb1).f 0))
  have M := M.next hb1 0 (by omega) (av p0)
  simp only [C6.set] at M
  generalize w1.setCell _ _ = W1 at *
  clear hb1 l1 f1 k0 a0
  have k1 := M.p 1 _ rfl
  rw [rounds_succ]; go_wp2_with (go_at_call 35; ((with_reducible refine (a1.out _ M.acc).mono ?_); rintro e w1 ⟨⟨ev, rfl⟩, hb1⟩; have l1 := ((M.below hb1).c 1).trans (C6.arr_nth _ 1 (by omega)); have f1 := (M.below hb1).f 1))
  have M := M.next hb1 1 (by omega) (av p1)
  simp only [C6.set] at M
  generalize w1.setCell _ _ = W2 at *
  clear hb1 l1 f1 k1 a1
  have k2 := M.p 2 _ rfl
  rw [rounds_succ]; go_wp2_with (go_at_call 35; ((with_reducible refine (a2.out _ M.acc).mono ?_); rintro e w1 ⟨⟨ev, rfl⟩, hb1⟩; have l1 := ((M.below hb1).c 2).trans (C6.arr_nth _ 2 (by omega)); have f1 := (M.below hb1).f 2))
  have M := M.next hb1 2 (by omega) (av p2)
  simp only [C6.set] at M
  generalize w1.setCell _ _ = W3 at *
  clear hb1 l1 f1 k2 a2
  have k3 := M.p 3 _ rfl
  rw [rounds_succ]; go_wp2_with (go_at_call 35; ((with_reducible refine (a3.out _ M.acc).mono ?_); rintro e w1 ⟨⟨ev, rfl⟩, hb1⟩; have l1 := ((M.below hb1).c 3).trans (C6.arr_nth _ 3 (by omega)); have f1 := (M.below hb1).f 3))
  have M := M.next hb1 3 (by omega) (av p3)
  simp only [C6.set] at M
  generalize w1.setCell _ _ = W4 at *
  clear hb1 l1 f1 k3 a3
  have k4 := M.p 4 _ rfl
  rw [rounds_succ]; go_wp2_with (go_at_call 35; ((with_reducible refine (a4.out _ M.acc).mono ?_); rintro e w1 ⟨⟨ev, rfl⟩, hb1⟩; have l1 := ((M.below hb1).c 4).trans (C6.arr_nth _ 4 (by omega)); have f1 := (M.below hb1).f 4))
  have M := M.next hb1 4 (by omega) (av p4)
  simp only [C6.set] at M
  generalize w1.setCell _ _ = W5 at *
  clear hb1 l1 f1 k4 a4
  have k5 := M.p 5 _ rfl
  rw [rounds_succ]; go_wp2_with (go_at_call 35; ((with_reducible refine (a5.out _ M.acc).mono ?_); rintro e w1 ⟨⟨ev, rfl⟩, hb1⟩; have l1 := ((M.below hb1).c 5).trans (C6.arr_nth _ 5 (by omega)); have f1 := (M.below hb1).f 5))
  have M := M.next hb1 5 (by omega) (av p5)
  simp only [C6.set] at M
  generalize w1.setCell _ _ = W6 at *
  clear hb1 l1 f1 k5 a5
  have E6 := Lib.hid (E'.out.below M.acc)
  have cc := M.c
  simp only [C6.arr] at cc
  generalize hX : (⟨av p0, av p1, av p2, av p3, av p4, av p5⟩ : C6) = X at *
  have hv : X.v = .agg #[.int .i64 (av p0), .int .i64 (av p1), .int .i64 (av p2), .int .i64 (av p3), .int .i64 (av p4), .int .i64 (av p5)] := by rw [← hX]; rfl
  have hXa : X.arr = #[.int .i64 (av p0), .int .i64 (av p1), .int .i64 (av p2), .int .i64 (av p3), .int .i64 (av p4), .int .i64 (av p5)] := by rw [← hX]; rfl
  have hK : ∀ W, Mid w [p0, p1, p2, p3, p4, p5] X W → Calls Tryd.prog 15 #[X.v] W fun e w' => e = .returned (.int .i64 (chk X)) ∧ Mid w [p0, p1, p2, p3, p4, p5] X w' ∧ (∀ o, w'.cell? ⟨w.heap.size + 1, o, none⟩ = X.arr[o]?) ∧ (∀ o, w'.cell? ⟨w.heap.size, o, none⟩ = zero.arr[o]?) ∧ (∀ o, w'.frozen? ⟨w.heap.size, o, none⟩ = false) := fun W m => (check_walk X W).mono fun e w' ⟨he, hw⟩ => by
    have m2 := m.below (w1 := w') (by rw [hw]; exact (Below.refl _ _).alloc (Nat.le_refl _) _)
    exact ⟨he, m2, m2.c, m2.z, m2.zf⟩
  rw [hv] at hK
  by_cases hR : right X = true
  · have ck := chk_ok hR
    have hT : ∀ W, Mid w [p0, p1, p2, p3, p4, p5] X W → Calls Tryd.prog 31 #[X.v] W fun e w' => e = .returned (.string (textB X)) ∧ Mid w [p0, p1, p2, p3, p4, p5] X w' ∧ (∀ o, w'.cell? ⟨w.heap.size + 1, o, none⟩ = X.arr[o]?) ∧ (∀ o, w'.cell? ⟨w.heap.size, o, none⟩ = zero.arr[o]?) ∧ (∀ o, w'.frozen? ⟨w.heap.size, o, none⟩ = false) := fun W m => (text_walk X W (small6_of hR) (fun k hk W' hW' => itoa_env _ (small6_of hR k hk).1 (small6_of hR k hk).2 W' (E'.out.below (m.acc.trans (hW'.mono (by have := m.sz; omega)))))).mono fun e w' ⟨he, hb⟩ => ⟨he, m.below hb, (m.below hb).c, (m.below hb).z, (m.below hb).zf⟩
    rw [ck] at hK
    rw [hv] at hT
    rw [hXa] at hT hK
    simp only [C6.arr, zero] at hT hK
    have hT' := Lib.hid hT
    have hK' := Lib.hid hK
    clear hT hK
    have hpr : pres s = if textB X = s then (X, 0) else (zero, 8) := by
      unfold pres
      rw [if_neg hs, hp]
      simp only [hX, hR, true_and]
    by_cases hS : textB X = s
    · rw [hpr, if_pos hS] at hr
      rw [rounds_succ]; go_wp2_with (first
        | (go_at_call 15; ((with_reducible refine (hK'.out _ M).mono ?_); rintro e w2 ⟨rfl, M2, cc2, cz2, cf2⟩))
        | (go_at_call 31; ((with_reducible refine (hT'.out _ M2).mono ?_); rintro e w3 ⟨rfl, M3, cc3, cz3, cf3⟩)))
      subst hr
      refine bodyPost_ret (v := .tuple #[X.v, .int .i64 0]) (by rw [hv]; simp [results, Tryd.results21, go_sem, cz3]) rfl ⟨rfl, ?_⟩
      repeat (first | (with_reducible exact Below.refl _ _) | (with_reducible exact M2.acc) | (with_reducible exact M3.acc) | (with_reducible refine Below.drew ?_) | (with_reducible refine Below.setCell ?_ (by simp only; omega) _) | (with_reducible refine Below.alloc ?_ (by simp <;> omega) _))
    · rw [hpr, if_neg hS] at hr
      have hq : ((textB X).toList == s.toList) = false := beq_eq_false_iff_ne.2 (fun k => hS (tl_inj k))
      rw [rounds_succ]; go_wp2_with (first
        | (go_at_call 15; ((with_reducible refine (hK'.out _ M).mono ?_); rintro e w2 ⟨rfl, M2, cc2, cz2, cf2⟩))
        | (go_at_call 31; ((with_reducible refine (hT'.out _ M2).mono ?_); rintro e w3 ⟨rfl, M3, cc3, cz3, cf3⟩)))
      subst hr
      refine bodyPost_ret (v := .tuple #[zero.v, .int .i64 8]) (by simp [results, Tryd.results21, go_sem, cz3, C6.v, zero]) rfl ⟨rfl, ?_⟩
      repeat (first | (with_reducible exact Below.refl _ _) | (with_reducible exact M2.acc) | (with_reducible exact M3.acc) | (with_reducible refine Below.drew ?_) | (with_reducible refine Below.setCell ?_ (by simp only; omega) _) | (with_reducible refine Below.alloc ?_ (by simp <;> omega) _))
  · have ck := chk_bad hR
    rw [ck, hXa] at hK
    simp only [C6.arr, zero] at hK
    have hK' := Lib.hid hK
    clear hK
    have hpr : pres s = (zero, 8) := by
      unfold pres
      rw [if_neg hs, hp]
      simp [hX, hR]
    rw [hpr] at hr
    rw [rounds_succ]; go_wp2_with (go_at_call 15; ((with_reducible refine (hK'.out _ M).mono ?_); rintro e w2 ⟨rfl, M2, cc2, cz2, cf2⟩))
    subst hr
    refine bodyPost_ret (v := .tuple #[zero.v, .int .i64 8]) (by simp [results, Tryd.results21, go_sem, cz2, C6.v, zero]) rfl ⟨rfl, ?_⟩
    repeat (first | (with_reducible exact Below.refl _ _) | (with_reducible exact M2.acc) | (with_reducible exact M3.acc) | (with_reducible refine Below.drew ?_) | (with_reducible refine Below.setCell ?_ (by simp only; omega) _) | (with_reducible refine Below.alloc ?_ (by simp <;> omega) _))
theorem parse_walk (s : ByteArray) (w : World) (E : Env w) : Calls Tryd.prog 21 #[.string s] w fun e w' => e = .returned (.tuple #[(pres s).1.v, .int .i64 (pres s).2]) ∧ Below w.heap.size w w' := by
  by_cases hs : 65536 < s.size
  · have h : pres s = (zero, 2) := by unfold pres; rw [if_pos hs]
    rw [h]
    exact parse_long s w hs
  · by_cases hn : (pieces s).length = 6
    · match hp : pieces s, hn with
      | [p0, p1, p2, p3, p4, p5], _ => exact parse_six s p0 p1 p2 p3 p4 p5 w E hs hp
    · have h : pres s = (zero, 8) := by
        unfold pres
        rw [if_neg hs]
        split
        · rename_i hp; rw [hp] at hn; simp at hn
        · rfl
      rw [h]
      exact parse_other s w E hs hn
end Go.Proofs.YtfhdmknplpgiiaaDoor.Ck
