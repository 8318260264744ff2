/- Clocks, walked: the reference's Parse. -/
import Derived.Test.YtfhdmknplpgiiaaDoorRPure
import Derived.Test.YtfhdmknplpgiiaaDoorRText
import Derived.Test.YtfhdmknplpgiiaaDoorKeep
import Derived.Deep.RegionHeld3
namespace Go.Proofs.YtfhdmknplpgiiaaDoor.Ck
open Go.ChangeShapes Go.WideShapes Go.RowKit
/-- The array and the result, in memory. -/
structure Two (w : World) (x : C6) (W : World) : Prop where
  c : ∀ k, W.cell? ⟨w.heap.size + 1, k, none⟩ = x.arr[k]?
  f : ∀ k, W.frozen? ⟨w.heap.size + 1, k, none⟩ = false
  z : ∀ k, W.cell? ⟨w.heap.size, k, none⟩ = zero.arr[k]?
  zf : ∀ k, W.frozen? ⟨w.heap.size, k, none⟩ = false
  acc : Below w.heap.size w W
  sz : w.heap.size + 2 ≤ W.heap.size
theorem Two.next {w : World} {x : C6} {W w1 : World} (M : Two w x W) (hb : Below W.heap.size W w1) : Two w x w1 := by
  have hs := M.sz
  have h1 := hb.size
  refine ⟨fun k => ?_, fun k => ?_, fun k => ?_, fun k => ?_, M.acc.trans (hb.mono (by omega)), by omega⟩
  · rw [hb.cell (by simp only; omega)]; exact M.c k
  · rw [hb.frozen (by simp only; omega)]; exact M.f k
  · rw [hb.cell (by simp only; omega)]; exact M.z k
  · rw [hb.frozen (by simp only; omega)]; exact M.zf k
theorem Two.put {w : World} {x : C6} {W : World} (M : Two w x W) (k : Nat) (hk : k < 6) (v : Int) : Two w (x.set v k) (W.setCell ⟨w.heap.size + 1, k, none⟩ (.int .i64 v)) := by
  refine ⟨fun j => ?_, fun j => ?_, fun j => ?_, fun j => ?_, M.acc.setCell (by simp only; omega) _, by simpa [World.setCell] using M.sz⟩
  · by_cases h : j = k
    · subst h
      rw [C6.arr_nth _ j hk, set_nth x v j j hk hk, if_pos rfl]
      exact World.cell?_setCell_same _ _ _ ((M.c j).trans (C6.arr_nth _ j hk))
    · rw [World.cell?_setCell_other _ _ _ _ (by simp only [ne_eq, Addr.mk.injEq, true_and, and_true]; omega), M.c j]
      by_cases hj : j < 6
      · rw [C6.arr_nth _ j hj, C6.arr_nth _ j hj, set_nth x v k j hk hj, if_neg h]
      · rw [C6.arr_out _ j hj, C6.arr_out _ j hj]
  · rw [World.frozen?_setCell]; exact M.f j
  · rw [World.cell?_setCell_other _ _ _ _ (by simp only [ne_eq, Addr.mk.injEq]; omega)]
    exact M.z j
  · rw [World.frozen?_setCell]; exact M.zf j
theorem drop_at (s : ByteArray) (k : Nat) (h : k < s.size) : s.data.toList.drop k = s[k] :: s.data.toList.drop (k + 1) := by
  rw [List.drop_eq_getElem_cons (by simpa using h)]
  rfl
theorem rp_six (l : List UInt8) (x : C6) (b : Bool) : rp l x 6 b = some x := by
  cases l with
  | nil => rfl
  | cons c r => rw [rp, if_pos (by omega)]
theorem two_start (w : World) : Two w zero ((w.alloc (box zero)).alloc (box zero)) := by
  have hn1 : (w.alloc (box zero)).heap.size = w.heap.size + 1 := by simp
  refine ⟨fun k => ?_, fun k => ?_, fun k => ?_, fun k => ?_, ?_, by simp⟩
  · rw [← hn1]; exact World.cell?_alloc_new _ _ _ _
  · rw [← hn1]; exact World.frozen?_alloc_new _ _ _ _
  · rw [World.cell?_alloc_lt _ _ _ (by simp)]; exact World.cell?_alloc_new _ _ _ _
  · rw [World.frozen?_alloc_old _ _ _ (by simp)]; exact World.frozen?_alloc_new _ _ _ _
  · repeat (first | (with_reducible exact Below.refl _ _) | (with_reducible refine Below.drew ?_) | (with_reducible refine Below.alloc ?_ (by simp <;> omega) _))
set_option maxHeartbeats 4000000 in
set_option maxRecDepth 100000 in
theorem rparse_long (s : ByteArray) (w : World) (hs : 65536 < s.size) : Calls Tryd.prog 22 #[.string s] w fun e w' => e = .returned (.tuple #[zero.v, .int .i64 2]) ∧ Below w.heap.size w w' := by
  go_enter Tryd.func22, Tryd.ntmps22
  go_wp2
  refine bodyPost_ret (v := .tuple #[zero.v, .int .i64 2]) (by simp [results, Tryd.results22, go_sem, C6.v, zero]) rfl ⟨rfl, ?_⟩
  repeat (first | (with_reducible exact Below.refl _ _) | (with_reducible refine Below.drew ?_) | (with_reducible refine Below.alloc ?_ (by simp <;> omega) _))
set_option maxHeartbeats 4000000 in
set_option maxRecDepth 100000 in
theorem rparse_rest (s : ByteArray) (w : World) (E : Env w) (hs : ¬ 65536 < s.size) : Calls Tryd.prog 22 #[.string s] w fun e w' => e = .returned (.tuple #[(rres s).1.v, .int .i64 (rres s).2]) ∧ Below w.heap.size w w' := by
  obtain ⟨r, hr⟩ : ∃ r, r = rres s := ⟨_, rfl⟩
  rw [← hr]
  have M := two_start w
  simp only [box, zero] at M
  have E' := Lib.hid E
  clear E
  go_enter Tryd.func22, Tryd.ntmps22
  go_wp2
  generalize (w.alloc _).alloc _ = W0 at *
  go_loopw [5, 6, 7] (fun n d i wr => ∃ (k m : Nat) (x : C6) (b : Bool), n = .int .i64 m ∧ d = .bool b ∧ i = .int .i64 k ∧ 1 ≤ k ∧ k ≤ 65537 ∧ m ≤ 6 ∧ right x = true ∧ Two w x wr ∧ rp (s.data.toList.drop 1) zero 0 false = rp (s.data.toList.drop k) x m b) (fun _ _ i _ => s.size - (intOf i).toNat)
  case atStart => exact ⟨1, 0, zero, false, rfl, rfl, rfl, by omega, by omega, by omega, by decide, M, rfl⟩
  case round =>
    obtain ⟨k, m, x, b, rfl, rfl, rfl, hk1, hk2, hm6, hx, T, hrp⟩ := hrel
    have cz := T.z
    have zf := T.zf
    simp only [C6.arr, zero] at cz
    by_cases hk : k < s.size
    · by_cases hm : m < 6
      · have cm := (T.c m).trans (C6.arr_nth x m hm)
        have fm := T.f m
        have hb := nth_bound hx m hm
        have hl := drop_at s k hk
        rw [hl] at hrp
        have hc := UInt8.toNat_lt s[k]
        rw [rp, if_neg (by omega)] at hrp
        obtain ⟨hb0, hb1⟩ := hb
        by_cases hd : 48 ≤ s[k].toNat ∧ s[k].toNat ≤ 57
        · rw [if_pos hd] at hrp
          obtain ⟨hd1, hd2⟩ := hd
          by_cases hov : 1073741824 < x.nth m * 10 + ((s[k].toNat : Int) - 48)
          · rw [if_pos hov] at hrp
            have hr8 : r = (zero, 8) := by rw [hr]; unfold rres; rw [if_neg hs, hrp]
            subst hr8
            clear hr
            generalize x.nth m = v at *
            go_wp2
            refine bodyPost_ret (v := .tuple #[zero.v, .int .i64 8]) (by simp [results, Tryd.results22, go_sem, cz, C6.v, zero]) rfl ⟨rfl, ?_⟩
            repeat (first | (with_reducible exact T.acc) | (with_reducible exact (T.put m hm _).acc) | (with_reducible refine Below.setCell ?_ (by simp only; omega) _))
          · rw [if_neg hov] at hrp
            have hx2 := right_set x (x.nth m * 10 + ((s[k].toNat : Int) - 48)) m hm hx (by omega) (by omega)
            have T2 := T.put m hm (x.nth m * 10 + ((s[k].toNat : Int) - 48))
            generalize hv0 : x.nth m = v at *
            go_wp2
            go_roundw
            case rel => exact ⟨k + 1, m, _, true, rfl, rfl, by go_num, by omega, by omega, hm6, hx2, T2, hrp⟩
            case measure => simp [intOf]; omega
        · rw [if_neg hd] at hrp
          cases b with
          | false =>
            rw [if_pos rfl] at hrp
            have hr8 : r = (zero, 8) := by rw [hr]; unfold rres; rw [if_neg hs, hrp]
            subst hr8
            clear hr
            go_wp2
            all_goals refine bodyPost_ret (v := .tuple #[zero.v, .int .i64 8]) (by simp [results, Tryd.results22, go_sem, cz, C6.v, zero]) rfl ⟨rfl, ?_⟩
            all_goals repeat (first | (with_reducible exact T.acc) | (with_reducible exact (T.put m hm _).acc) | (with_reducible refine Below.setCell ?_ (by simp only; omega) _))
          | true =>
            rw [if_neg (by simp)] at hrp
            go_wp2
            all_goals go_roundw
            all_goals first
              | exact ⟨k + 1, m + 1, x, false, by go_num, rfl, by go_num, by omega, by omega, by omega, hx, T, hrp⟩
              | (simp [intOf]; omega)
      · have hm' : m = 6 := by omega
        subst hm'
        rw [rp_six] at hrp
        have cR := fun W (h : Two w x W) => (rtext_walk x W (small6_of hx) (E'.out.below h.acc)).mono (fun e w' (q : e = .returned (.string (textB x)) ∧ Below W.heap.size W w') => (⟨q.1, h.next q.2, (h.next q.2).c, (h.next q.2).z, (h.next q.2).zf⟩ : e = .returned (.string (textB x)) ∧ Two w x w' ∧ (∀ o, w'.cell? ⟨w.heap.size + 1, o, none⟩ = x.arr[o]?) ∧ (∀ o, w'.cell? ⟨w.heap.size, o, none⟩ = zero.arr[o]?) ∧ ∀ o, w'.frozen? ⟨w.heap.size, o, none⟩ = false))
        have cc := T.c
        have hrr : r = if textB x = s then (x, 0) else (zero, 8) := by rw [hr]; unfold rres; rw [if_neg hs, hrp]
        clear hr
        simp only [C6.v, C6.arr, zero] at cR cc
        have cR' := Lib.hid cR
        clear cR
        by_cases hS : textB x = s
        · rw [if_pos hS] at hrr
          subst hrr
          go_wp2_with (go_at_call 23; ((with_reducible refine (cR'.out _ T).mono ?_); rintro e w1 ⟨rfl, T1, ca1, cz1, cf1⟩))
          refine bodyPost_ret (v := .tuple #[x.v, .int .i64 0]) (by simp [results, Tryd.results22, go_sem, cz1, C6.v]) rfl ⟨rfl, ?_⟩
          repeat (first | (with_reducible exact T1.acc) | (with_reducible refine Below.setCell ?_ (by simp only; omega) _))
        · rw [if_neg hS] at hrr
          have hq : ((textB x).toList == s.toList) = false := beq_eq_false_iff_ne.2 (fun q => hS (tl_inj q))
          subst hrr
          go_wp2_with (go_at_call 23; ((with_reducible refine (cR'.out _ T).mono ?_); rintro e w1 ⟨rfl, T1, ca1, cz1, cf1⟩))
          refine bodyPost_ret (v := .tuple #[zero.v, .int .i64 8]) (by simp [results, Tryd.results22, go_sem, cz1, C6.v, zero]) rfl ⟨rfl, ?_⟩
          repeat (first | (with_reducible exact T1.acc) | (with_reducible refine Below.setCell ?_ (by simp only; omega) _))
    · have hle : s.data.toList.length ≤ k := by have := Lib.size_eq s; omega
      rw [List.drop_eq_nil_of_le hle, show rp [] x m b = some x from rfl] at hrp
      have cR := fun W (h : Two w x W) => (rtext_walk x W (small6_of hx) (E'.out.below h.acc)).mono (fun e w' (q : e = .returned (.string (textB x)) ∧ Below W.heap.size W w') => (⟨q.1, h.next q.2, (h.next q.2).c, (h.next q.2).z, (h.next q.2).zf⟩ : e = .returned (.string (textB x)) ∧ Two w x w' ∧ (∀ o, w'.cell? ⟨w.heap.size + 1, o, none⟩ = x.arr[o]?) ∧ (∀ o, w'.cell? ⟨w.heap.size, o, none⟩ = zero.arr[o]?) ∧ ∀ o, w'.frozen? ⟨w.heap.size, o, none⟩ = false))
      have cc := T.c
      have hrr : r = if textB x = s then (x, 0) else (zero, 8) := by rw [hr]; unfold rres; rw [if_neg hs, hrp]
      clear hr
      simp only [C6.v, C6.arr, zero] at cR cc
      have cR' := Lib.hid cR
      clear cR
      by_cases hS : textB x = s
      · rw [if_pos hS] at hrr
        subst hrr
        go_wp2_with (go_at_call 23; ((with_reducible refine (cR'.out _ T).mono ?_); rintro e w1 ⟨rfl, T1, ca1, cz1, cf1⟩))
        refine bodyPost_ret (v := .tuple #[x.v, .int .i64 0]) (by simp [results, Tryd.results22, go_sem, cz1, C6.v]) rfl ⟨rfl, ?_⟩
        repeat (first | (with_reducible exact T1.acc) | (with_reducible refine Below.setCell ?_ (by simp only; omega) _))
      · rw [if_neg hS] at hrr
        have hq : ((textB x).toList == s.toList) = false := beq_eq_false_iff_ne.2 (fun q => hS (tl_inj q))
        subst hrr
        go_wp2_with (go_at_call 23; ((with_reducible refine (cR'.out _ T).mono ?_); rintro e w1 ⟨rfl, T1, ca1, cz1, cf1⟩))
        refine bodyPost_ret (v := .tuple #[zero.v, .int .i64 8]) (by simp [results, Tryd.results22, go_sem, cz1, C6.v, zero]) rfl ⟨rfl, ?_⟩
        repeat (first | (with_reducible exact T1.acc) | (with_reducible refine Below.setCell ?_ (by simp only; omega) _))
theorem rparse_walk (s : ByteArray) (w : World) (E : Env w) : Calls Tryd.prog 22 #[.string s] w fun e w' => e = .returned (.tuple #[(pres s).1.v, .int .i64 (pres s).2]) ∧ Below w.heap.size w w' := by
  rw [← rres_eq]
  by_cases hs : 65536 < s.size
  · have h : rres s = (zero, 2) := by unfold rres; rw [if_pos hs]
    rw [h]
    exact rparse_long s w hs
  · exact rparse_rest s w E hs
end Go.Proofs.YtfhdmknplpgiiaaDoor.Ck
