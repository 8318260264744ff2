/- May a line stand there; the letters of a kind; a line taken: walked (the reference), in one. The conditions: the program's lists in memory; where a form is asked, the operation is one. -/
import Derived.Test.YtlhhmlfcodmebaaGreatDoorZf
import Derived.Test.YtlhhmlfcodmebaaGreatDoorZRk1
import Derived.Test.YtlhhmlfcodmebaaGreatDoorZv
import Derived.Test.YtlhhmlfcodmebaaGreatDoorZRk4
import Derived.Test.YtlhhmlfcodmebaaGreatDoorZRk5
import Derived.Test.YtlhhmlfcodmebaaGreatDoorZVn
namespace Go.Proofs.YtlhhmlfcodmebaaGreatDoor.Pg
set_option linter.unusedVariables false
set_option linter.unusedSimpArgs false
open Go.RowKit Go.WideShapes Go.ChangeShapes
open Go.Proofs.YtlhhmlfcodmebaaGreatDoor.Wd (drop_at bt cur_add)
set_option linter.unusedVariables false
set_option linter.unusedSimpArgs false
set_option maxHeartbeats 8000000 in
set_option maxRecDepth 100000 in
theorem rmay_1 (last : Nat) (w : World) (h : last ≤ 10) : Calls Tryz.prog 29 #[.int .i64 1, .int .i64 (last : Int)] w fun e w' => e = .returned (.bool (may 1 last)) ∧ Below w.heap.size w w' := by
  have hc : last = 0 ∨ last = 1 ∨ last = 2 ∨ last = 3 ∨ last = 4 ∨ last = 5 ∨ last = 6 ∨ last = 7 ∨ last = 8 ∨ last = 9 ∨ last = 10 := by omega
  rcases hc with rfl | rfl | rfl | rfl | rfl | rfl | rfl | rfl | rfl | rfl | rfl
  all_goals go_enter Tryz.func29, Tryz.ntmps29
  all_goals go_wp2
  all_goals (repeat (go_quiet (fail); go_wp2))
  all_goals go_ret
  all_goals exact ⟨rfl, (by repeat (first | (with_reducible exact Below.refl _ _) | (with_reducible refine Below.drew ?_) | (with_reducible refine below_drewN ?_ _) | (with_reducible refine Below.alloc ?_ (by first | omega | (simp <;> omega)) _)))⟩
set_option maxHeartbeats 8000000 in
set_option maxRecDepth 100000 in
theorem rmay_2 (last : Nat) (w : World) (h : last ≤ 10) : Calls Tryz.prog 29 #[.int .i64 2, .int .i64 (last : Int)] w fun e w' => e = .returned (.bool (may 2 last)) ∧ Below w.heap.size w w' := by
  have hc : last = 0 ∨ last = 1 ∨ last = 2 ∨ last = 3 ∨ last = 4 ∨ last = 5 ∨ last = 6 ∨ last = 7 ∨ last = 8 ∨ last = 9 ∨ last = 10 := by omega
  rcases hc with rfl | rfl | rfl | rfl | rfl | rfl | rfl | rfl | rfl | rfl | rfl
  all_goals go_enter Tryz.func29, Tryz.ntmps29
  all_goals go_wp2
  all_goals (repeat (go_quiet (fail); go_wp2))
  all_goals go_ret
  all_goals exact ⟨rfl, (by repeat (first | (with_reducible exact Below.refl _ _) | (with_reducible refine Below.drew ?_) | (with_reducible refine below_drewN ?_ _) | (with_reducible refine Below.alloc ?_ (by first | omega | (simp <;> omega)) _)))⟩
set_option maxHeartbeats 8000000 in
set_option maxRecDepth 100000 in
theorem rmay_3 (last : Nat) (w : World) (h : last ≤ 10) : Calls Tryz.prog 29 #[.int .i64 3, .int .i64 (last : Int)] w fun e w' => e = .returned (.bool (may 3 last)) ∧ Below w.heap.size w w' := by
  have hc : last = 0 ∨ last = 1 ∨ last = 2 ∨ last = 3 ∨ last = 4 ∨ last = 5 ∨ last = 6 ∨ last = 7 ∨ last = 8 ∨ last = 9 ∨ last = 10 := by omega
  rcases hc with rfl | rfl | rfl | rfl | rfl | rfl | rfl | rfl | rfl | rfl | rfl
  all_goals go_enter Tryz.func29, Tryz.ntmps29
  all_goals go_wp2
  all_goals (repeat (go_quiet (fail); go_wp2))
  all_goals go_ret
  all_goals exact ⟨rfl, (by repeat (first | (with_reducible exact Below.refl _ _) | (with_reducible refine Below.drew ?_) | (with_reducible refine below_drewN ?_ _) | (with_reducible refine Below.alloc ?_ (by first | omega | (simp <;> omega)) _)))⟩
set_option maxHeartbeats 8000000 in
set_option maxRecDepth 100000 in
theorem rmay_4 (last : Nat) (w : World) (h : last ≤ 10) : Calls Tryz.prog 29 #[.int .i64 4, .int .i64 (last : Int)] w fun e w' => e = .returned (.bool (may 4 last)) ∧ Below w.heap.size w w' := by
  have hc : last = 0 ∨ last = 1 ∨ last = 2 ∨ last = 3 ∨ last = 4 ∨ last = 5 ∨ last = 6 ∨ last = 7 ∨ last = 8 ∨ last = 9 ∨ last = 10 := by omega
  rcases hc with rfl | rfl | rfl | rfl | rfl | rfl | rfl | rfl | rfl | rfl | rfl
  all_goals go_enter Tryz.func29, Tryz.ntmps29
  all_goals go_wp2
  all_goals (repeat (go_quiet (fail); go_wp2))
  all_goals go_ret
  all_goals exact ⟨rfl, (by repeat (first | (with_reducible exact Below.refl _ _) | (with_reducible refine Below.drew ?_) | (with_reducible refine below_drewN ?_ _) | (with_reducible refine Below.alloc ?_ (by first | omega | (simp <;> omega)) _)))⟩
set_option maxHeartbeats 8000000 in
set_option maxRecDepth 100000 in
theorem rmay_5 (last : Nat) (w : World) (h : last ≤ 10) : Calls Tryz.prog 29 #[.int .i64 5, .int .i64 (last : Int)] w fun e w' => e = .returned (.bool (may 5 last)) ∧ Below w.heap.size w w' := by
  have hc : last = 0 ∨ last = 1 ∨ last = 2 ∨ last = 3 ∨ last = 4 ∨ last = 5 ∨ last = 6 ∨ last = 7 ∨ last = 8 ∨ last = 9 ∨ last = 10 := by omega
  rcases hc with rfl | rfl | rfl | rfl | rfl | rfl | rfl | rfl | rfl | rfl | rfl
  all_goals go_enter Tryz.func29, Tryz.ntmps29
  all_goals go_wp2
  all_goals (repeat (go_quiet (fail); go_wp2))
  all_goals go_ret
  all_goals exact ⟨rfl, (by repeat (first | (with_reducible exact Below.refl _ _) | (with_reducible refine Below.drew ?_) | (with_reducible refine below_drewN ?_ _) | (with_reducible refine Below.alloc ?_ (by first | omega | (simp <;> omega)) _)))⟩
set_option maxHeartbeats 8000000 in
set_option maxRecDepth 100000 in
theorem rmay_6 (last : Nat) (w : World) (h : last ≤ 10) : Calls Tryz.prog 29 #[.int .i64 6, .int .i64 (last : Int)] w fun e w' => e = .returned (.bool (may 6 last)) ∧ Below w.heap.size w w' := by
  have hc : last = 0 ∨ last = 1 ∨ last = 2 ∨ last = 3 ∨ last = 4 ∨ last = 5 ∨ last = 6 ∨ last = 7 ∨ last = 8 ∨ last = 9 ∨ last = 10 := by omega
  rcases hc with rfl | rfl | rfl | rfl | rfl | rfl | rfl | rfl | rfl | rfl | rfl
  all_goals go_enter Tryz.func29, Tryz.ntmps29
  all_goals go_wp2
  all_goals (repeat (go_quiet (fail); go_wp2))
  all_goals go_ret
  all_goals exact ⟨rfl, (by repeat (first | (with_reducible exact Below.refl _ _) | (with_reducible refine Below.drew ?_) | (with_reducible refine below_drewN ?_ _) | (with_reducible refine Below.alloc ?_ (by first | omega | (simp <;> omega)) _)))⟩
set_option maxHeartbeats 8000000 in
set_option maxRecDepth 100000 in
theorem rmay_7 (last : Nat) (w : World) (h : last ≤ 10) : Calls Tryz.prog 29 #[.int .i64 7, .int .i64 (last : Int)] w fun e w' => e = .returned (.bool (may 7 last)) ∧ Below w.heap.size w w' := by
  have hc : last = 0 ∨ last = 1 ∨ last = 2 ∨ last = 3 ∨ last = 4 ∨ last = 5 ∨ last = 6 ∨ last = 7 ∨ last = 8 ∨ last = 9 ∨ last = 10 := by omega
  rcases hc with rfl | rfl | rfl | rfl | rfl | rfl | rfl | rfl | rfl | rfl | rfl
  all_goals go_enter Tryz.func29, Tryz.ntmps29
  all_goals go_wp2
  all_goals (repeat (go_quiet (fail); go_wp2))
  all_goals go_ret
  all_goals exact ⟨rfl, (by repeat (first | (with_reducible exact Below.refl _ _) | (with_reducible refine Below.drew ?_) | (with_reducible refine below_drewN ?_ _) | (with_reducible refine Below.alloc ?_ (by first | omega | (simp <;> omega)) _)))⟩
set_option maxHeartbeats 8000000 in
set_option maxRecDepth 100000 in
theorem rmay_8 (last : Nat) (w : World) (h : last ≤ 10) : Calls Tryz.prog 29 #[.int .i64 8, .int .i64 (last : Int)] w fun e w' => e = .returned (.bool (may 8 last)) ∧ Below w.heap.size w w' := by
  have hc : last = 0 ∨ last = 1 ∨ last = 2 ∨ last = 3 ∨ last = 4 ∨ last = 5 ∨ last = 6 ∨ last = 7 ∨ last = 8 ∨ last = 9 ∨ last = 10 := by omega
  rcases hc with rfl | rfl | rfl | rfl | rfl | rfl | rfl | rfl | rfl | rfl | rfl
  all_goals go_enter Tryz.func29, Tryz.ntmps29
  all_goals go_wp2
  all_goals (repeat (go_quiet (fail); go_wp2))
  all_goals go_ret
  all_goals exact ⟨rfl, (by repeat (first | (with_reducible exact Below.refl _ _) | (with_reducible refine Below.drew ?_) | (with_reducible refine below_drewN ?_ _) | (with_reducible refine Below.alloc ?_ (by first | omega | (simp <;> omega)) _)))⟩
set_option maxHeartbeats 8000000 in
set_option maxRecDepth 100000 in
theorem rmay_9 (last : Nat) (w : World) (h : last ≤ 10) : Calls Tryz.prog 29 #[.int .i64 9, .int .i64 (last : Int)] w fun e w' => e = .returned (.bool (may 9 last)) ∧ Below w.heap.size w w' := by
  have hc : last = 0 ∨ last = 1 ∨ last = 2 ∨ last = 3 ∨ last = 4 ∨ last = 5 ∨ last = 6 ∨ last = 7 ∨ last = 8 ∨ last = 9 ∨ last = 10 := by omega
  rcases hc with rfl | rfl | rfl | rfl | rfl | rfl | rfl | rfl | rfl | rfl | rfl
  all_goals go_enter Tryz.func29, Tryz.ntmps29
  all_goals go_wp2
  all_goals (repeat (go_quiet (fail); go_wp2))
  all_goals go_ret
  all_goals exact ⟨rfl, (by repeat (first | (with_reducible exact Below.refl _ _) | (with_reducible refine Below.drew ?_) | (with_reducible refine below_drewN ?_ _) | (with_reducible refine Below.alloc ?_ (by first | omega | (simp <;> omega)) _)))⟩
set_option maxHeartbeats 8000000 in
set_option maxRecDepth 100000 in
theorem rmay_10 (last : Nat) (w : World) (h : last ≤ 10) : Calls Tryz.prog 29 #[.int .i64 10, .int .i64 (last : Int)] w fun e w' => e = .returned (.bool (may 10 last)) ∧ Below w.heap.size w w' := by
  have hc : last = 0 ∨ last = 1 ∨ last = 2 ∨ last = 3 ∨ last = 4 ∨ last = 5 ∨ last = 6 ∨ last = 7 ∨ last = 8 ∨ last = 9 ∨ last = 10 := by omega
  rcases hc with rfl | rfl | rfl | rfl | rfl | rfl | rfl | rfl | rfl | rfl | rfl
  all_goals go_enter Tryz.func29, Tryz.ntmps29
  all_goals go_wp2
  all_goals (repeat (go_quiet (fail); go_wp2))
  all_goals go_ret
  all_goals exact ⟨rfl, (by repeat (first | (with_reducible exact Below.refl _ _) | (with_reducible refine Below.drew ?_) | (with_reducible refine below_drewN ?_ _) | (with_reducible refine Below.alloc ?_ (by first | omega | (simp <;> omega)) _)))⟩
theorem rmay_walk (k last : Nat) (w : World) (hk : 1 ≤ k ∧ k ≤ 10) (h : last ≤ 10) : Calls Tryz.prog 29 #[.int .i64 (k : Int), .int .i64 (last : Int)] w fun e w' => e = .returned (.bool (may k last)) ∧ Below w.heap.size w w' := by
  have hc : k = 1 ∨ k = 2 ∨ k = 3 ∨ k = 4 ∨ k = 5 ∨ k = 6 ∨ k = 7 ∨ k = 8 ∨ k = 9 ∨ k = 10 := by omega
  rcases hc with rfl | rfl | rfl | rfl | rfl | rfl | rfl | rfl | rfl | rfl
  · exact rmay_1 last w h
  · exact rmay_2 last w h
  · exact rmay_3 last w h
  · exact rmay_4 last w h
  · exact rmay_5 last w h
  · exact rmay_6 last w h
  · exact rmay_7 last w h
  · exact rmay_8 last w h
  · exact rmay_9 last w h
  · exact rmay_10 last w h
set_option maxHeartbeats 8000000 in
set_option maxRecDepth 100000 in
theorem rforms_1 (op : Int) (w : World) : Calls Tryz.prog 30 #[.int .i64 1, .int .i64 op] w fun e w' => e = .returned (.string (bt (lets 1 0))) ∧ Below w.heap.size w w' := by
  go_enter Tryz.func30, Tryz.ntmps30
  go_wp2
  go_ret
  exact ⟨rfl, Below.refl _ _⟩
set_option maxHeartbeats 8000000 in
set_option maxRecDepth 100000 in
theorem rforms_2 (op : Int) (w : World) : Calls Tryz.prog 30 #[.int .i64 2, .int .i64 op] w fun e w' => e = .returned (.string (bt (lets 2 0))) ∧ Below w.heap.size w w' := by
  go_enter Tryz.func30, Tryz.ntmps30
  go_wp2
  go_ret
  exact ⟨rfl, Below.refl _ _⟩
set_option maxHeartbeats 8000000 in
set_option maxRecDepth 100000 in
theorem rforms_3 (op : Int) (w : World) : Calls Tryz.prog 30 #[.int .i64 3, .int .i64 op] w fun e w' => e = .returned (.string (bt (lets 3 0))) ∧ Below w.heap.size w w' := by
  go_enter Tryz.func30, Tryz.ntmps30
  go_wp2
  go_ret
  exact ⟨rfl, Below.refl _ _⟩
set_option maxHeartbeats 8000000 in
set_option maxRecDepth 100000 in
theorem rforms_4 (op : Int) (w : World) : Calls Tryz.prog 30 #[.int .i64 4, .int .i64 op] w fun e w' => e = .returned (.string (bt (lets 4 0))) ∧ Below w.heap.size w w' := by
  go_enter Tryz.func30, Tryz.ntmps30
  go_wp2
  go_ret
  exact ⟨rfl, Below.refl _ _⟩
set_option maxHeartbeats 8000000 in
set_option maxRecDepth 100000 in
theorem rforms_5 (op : Int) (w : World) : Calls Tryz.prog 30 #[.int .i64 5, .int .i64 op] w fun e w' => e = .returned (.string (bt (lets 5 0))) ∧ Below w.heap.size w w' := by
  go_enter Tryz.func30, Tryz.ntmps30
  go_wp2
  go_ret
  exact ⟨rfl, Below.refl _ _⟩
set_option maxHeartbeats 8000000 in
set_option maxRecDepth 100000 in
theorem rforms_6 (op : Int) (w : World) : Calls Tryz.prog 30 #[.int .i64 6, .int .i64 op] w fun e w' => e = .returned (.string (bt (lets 6 0))) ∧ Below w.heap.size w w' := by
  go_enter Tryz.func30, Tryz.ntmps30
  go_wp2
  go_ret
  exact ⟨rfl, Below.refl _ _⟩
set_option maxHeartbeats 8000000 in
set_option maxRecDepth 100000 in
theorem rforms_7 (op : Int) (w : World) : Calls Tryz.prog 30 #[.int .i64 7, .int .i64 op] w fun e w' => e = .returned (.string (bt (lets 7 0))) ∧ Below w.heap.size w w' := by
  go_enter Tryz.func30, Tryz.ntmps30
  go_wp2
  go_ret
  exact ⟨rfl, Below.refl _ _⟩
set_option maxHeartbeats 8000000 in
set_option maxRecDepth 100000 in
theorem rforms_8 (op : Int) (w : World) : Calls Tryz.prog 30 #[.int .i64 8, .int .i64 op] w fun e w' => e = .returned (.string (bt (lets 8 0))) ∧ Below w.heap.size w w' := by
  go_enter Tryz.func30, Tryz.ntmps30
  go_wp2
  go_ret
  exact ⟨rfl, Below.refl _ _⟩
set_option maxHeartbeats 8000000 in
set_option maxRecDepth 100000 in
theorem rforms_9 (op : Int) (w : World) : Calls Tryz.prog 30 #[.int .i64 9, .int .i64 op] w fun e w' => e = .returned (.string (bt (lets 9 0))) ∧ Below w.heap.size w w' := by
  go_enter Tryz.func30, Tryz.ntmps30
  go_wp2
  go_ret
  exact ⟨rfl, Below.refl _ _⟩
theorem bt_toList (x : List UInt8) : (bt x).data.toList = x := rfl
set_option maxHeartbeats 8000000 in
set_option maxRecDepth 100000 in
theorem rforms_10 (op : Nat) (w : World) (hop : (form op).size = 4) : Calls Tryz.prog 30 #[.int .i64 10, .int .i64 (op : Int)] w fun e w' => e = .returned (.string (bt (lets 10 op))) ∧ Below w.heap.size w w' := by
  have hl10 : lets 10 op = (form op).data.toList.filter (fun c => decide (c ≠ 45)) := rfl
  have hL4 : (form op).data.toList.length = 4 := by rw [Array.length_toList]; exact hop
  have cF := Lib.hid (fun W => rform_walk (op : Int) W)
  rw [hl10]
  clear hl10
  generalize form op = s at *
  go_enter Tryz.func30, Tryz.ntmps30
  go_wp2_with (go_at_call 18; ((with_reducible refine (cF.out _).mono ?_); rintro e w' ⟨rfl, hW⟩; have hW' := hW.symm; subst hW'))
  go_loopw [5, 7] (fun cv i wr => ∃ (k : Nat) (c : ByteArray), k ≤ 4 ∧ cv = .string c ∧ i = .int .i64 k ∧ Below w.heap.size w wr ∧ Hid (c.data.toList = (s.data.toList.take k).filter (fun c => decide (c ≠ 45)))) (fun _ i _ => 4 - (intOf i).toNat)
  case atStart => exact ⟨0, ⟨#[]⟩, by omega, rfl, rfl, Below.refl _ _, Lib.hid rfl⟩
  case round =>
    obtain ⟨k, c, hk4, rfl, rfl, hB, hq⟩ := hrel
    by_cases hk : k < 4
    · have hd := drop_at s k (by omega)
      have hx := UInt8.toNat_lt s[k]
      have htk : s.data.toList.take (k + 1) = s.data.toList.take k ++ [s[k]] := by
        rw [List.take_add_one, List.getElem?_eq_getElem (by rw [Array.length_toList]; show k < s.size; omega)]
        rfl
      by_cases h45 : s[k] = 45
      · have t45 : ((s[k].toNat : Int) != 45) = false := by rw [h45]; rfl
        have hq1 : Hid (c.data.toList = (s.data.toList.take (k + 1)).filter (fun c => decide (c ≠ 45))) := Lib.hid (by rw [htk, List.filter_append, hq.out, h45]; simp)
        clear hd h45 htk hq
        go_wp2_with (fail)
        first
          | (refine ⟨⟨k + 1, c, by omega, rfl, by go_num, hB, hq1⟩, (by first | (simp [intOf]; done) | (simp [intOf]; omega) | omega)⟩)
          | (refine ⟨?_, (by first | (simp [intOf]; done) | (simp [intOf]; omega) | omega)⟩; (repeat apply Exists.intro); exact ⟨⟨k + 1, c, by omega, rfl, by go_num, hB, hq1⟩, rfl⟩)
      · have t45 : ((s[k].toNat : Int) != 45) = true := by
          rw [bne_iff_ne]
          exact fun e => h45 (UInt8.toNat_inj.1 (by show s[k].toNat = 45; omega))
        have hcs : c.size ≤ 4 := by
          have e1 : c.data.toList.length = c.size := by rw [Array.length_toList]; rfl
          have e2 := List.length_filter_le (fun c : UInt8 => decide (c ≠ 45)) (s.data.toList.take k)
          rw [← hq.out, e1, List.length_take] at e2
          omega
        have hq1 : Hid ((c ++ s.extract k (k + 1)).data.toList = (s.data.toList.take (k + 1)).filter (fun c => decide (c ≠ 45))) := Lib.hid (by rw [cur_add c s k (by omega), htk, List.filter_append, hq.out, List.filter_cons_of_pos (by simpa using h45)]; rfl)
        clear hd h45 htk hq
        go_wp2_with (fail)
        exact ⟨⟨k + 1, c ++ s.extract k (k + 1), by omega, rfl, by go_num, hB, hq1⟩, (by first | (simp [intOf]; done) | (simp [intOf]; omega) | omega)⟩
    · obtain rfl : k = 4 := by omega
      have hfin := hq.out
      rw [List.take_of_length_le (show s.data.toList.length ≤ 4 by omega)] at hfin
      replace hfin : Hid (bt (s.data.toList.filter (fun c => decide (c ≠ 45))) = c) := Lib.hid (by rw [← hfin]; rfl)
      clear hq
      go_wp2_with (fail)
      go_ret
      rw [hfin.out]
      exact ⟨rfl, hB⟩
theorem rforms_walk (k op : Nat) (w : World) (hk : 1 ≤ k ∧ k ≤ 10) (hop : k = 10 → (form op).size = 4) : Calls Tryz.prog 30 #[.int .i64 (k : Int), .int .i64 (op : Int)] w fun e w' => e = .returned (.string (bt (lets k op))) ∧ Below w.heap.size w w' := by
  have hc : k = 1 ∨ k = 2 ∨ k = 3 ∨ k = 4 ∨ k = 5 ∨ k = 6 ∨ k = 7 ∨ k = 8 ∨ k = 9 ∨ k = 10 := by omega
  rcases hc with rfl | rfl | rfl | rfl | rfl | rfl | rfl | rfl | rfl | rfl
  · exact rforms_1 op w
  · exact rforms_2 op w
  · exact rforms_3 op w
  · exact rforms_4 op w
  · exact rforms_5 op w
  · exact rforms_6 op w
  · exact rforms_7 op w
  · exact rforms_8 op w
  · exact rforms_9 op w
  · exact rforms_10 op w (hop rfl)
theorem two_xs {xs : List Int} (h : xs.length = 2) : ∃ x y, xs = [x, y] := by
  match xs, h with
  | [x, y], _ => exact ⟨x, y, rfl⟩
theorem one_xs {xs : List Int} (h : xs.length = 1) : ∃ x, xs = [x] := by
  match xs, h with
  | [x], _ => exact ⟨x, rfl⟩
theorem three_xs {xs : List Int} (h : xs.length = 3) : ∃ x y z, xs = [x, y, z] := by
  match xs, h with
  | [x, y, z], _ => exact ⟨x, y, z, rfl⟩
theorem nil_xs {xs : List Int} (h : xs.length = 0) : xs = [] := List.eq_nil_of_length_eq_zero h
theorem rtaken_walk (n0 N cap : Nat) (p : Pg) (k last op : Nat) (a : Option Addr) (xs : List Int) (W : World) (R : Rws n0 p.rows W) (F : p.Few N) (hn : n0 ≤ W.heap.size) (X : Xs a xs W) (hc : xs.length ≤ cap) (hN : N ≤ 1000000) (hI : Inv p last) (hm : may k last = true) (hk : 1 ≤ k ∧ k ≤ 10)
    (hop : k = 10 → (form op).size = 4 ∧ op ≤ 65) (hl : xs.length = (lets k op).length) (hoff : ∀ b, a = some ⟨b, 0, none⟩ → Off b p.rows) :
    Calls Tryz.prog 32 #[p.v, .int .i64 (k : Int), .int .i64 (op : Int), .slice a xs.length cap] W (Tkn n0 N W (taken p.bare k op xs)) := by
  have hc' : k = 1 ∨ k = 2 ∨ k = 3 ∨ k = 4 ∨ k = 5 ∨ k = 6 ∨ k = 7 ∨ k = 8 ∨ k = 9 ∨ k = 10 := by omega
  rcases hc' with rfl | rfl | rfl | rfl | rfl | rfl | rfl | rfl | rfl | rfl
  · obtain rfl := nil_xs hl
    exact rtaken_scarab n0 N cap p op a W R F hn hN
  · obtain ⟨x, rfl⟩ := one_xs hl
    exact rtaken_var n0 N cap p op a x W R F hn X hc hN
  · obtain ⟨x, rfl⟩ := one_xs hl
    exact rtaken_atomic n0 N cap p op a x W R F hn X hc hN
  · obtain rfl := nil_xs hl
    exact rtaken_lock n0 N cap p op a W R F hn hN
  · obtain ⟨x, rfl⟩ := one_xs hl
    exact rtaken_chan n0 N cap p op a x W R F hn X hc hN
  · obtain ⟨x, y, rfl⟩ := two_xs hl
    exact rtaken_func n0 N cap p op a x y W R F hn X hc hN
  · obtain ⟨x, rfl⟩ := one_xs hl
    rw [mayIs_7, decide_eq_true_eq] at hm
    obtain ⟨fs, f, hp, _⟩ := hI.funcs hm.1
    exact rtaken_choose n0 N cap p op a x W R F hn X hc hN fs f hp
  · obtain ⟨x, y, z, rfl⟩ := three_xs hl
    rw [mayIs_8, decide_eq_true_eq] at hm
    obtain ⟨fs, f, hp, _, h9⟩ := hI.funcs (by omega)
    obtain ⟨ss, s, hs⟩ := h9 hm
    exact rtaken_send n0 N cap p op a x y z W R F hn X hc hN fs f hp ss s hs hoff
  · obtain ⟨x, y, z, rfl⟩ := three_xs hl
    rw [mayIs_9, decide_eq_true_eq] at hm
    obtain ⟨fs, f, hp, _, h9⟩ := hI.funcs (by omega)
    obtain ⟨ss, s, hs⟩ := h9 hm
    exact rtaken_recv n0 N cap p op a x y z W R F hn X hc hN fs f hp ss s hs hoff
  · rw [mayIs_10, decide_eq_true_eq] at hm
    obtain ⟨fs, f, hp, _⟩ := hI.funcs hm
    exact rtaken_code n0 N cap p op a xs W R F hn X hc hN fs f hp (hop rfl).1 (hop rfl).2 hl
end Go.Proofs.YtlhhmlfcodmebaaGreatDoor.Pg
