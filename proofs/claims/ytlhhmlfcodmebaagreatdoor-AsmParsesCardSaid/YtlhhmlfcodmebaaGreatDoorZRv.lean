/- A word's number by its letter, walked (the reference). The conditions: the table and the variables as listed; the word is not empty. -/
import Derived.Test.YtlhhmlfcodmebaaGreatDoorZg
import Derived.Test.YtlhhmlfcodmebaaGreatDoorZVg
import Derived.Test.YtlhhmlfcodmebaaGreatDoorZPc
namespace Go.Proofs.YtlhhmlfcodmebaaGreatDoor.Pg
set_option linter.unusedVariables false
set_option linter.unusedSimpArgs false
open Go.RowKit Go.WideShapes Go.ChangeShapes
open Go.Proofs.YtlhhmlfcodmebaaGreatDoor.Wd (num rnumber_walk head_cons ext_tail)
set_option linter.unusedVariables false
set_option linter.unusedSimpArgs false
set_option maxHeartbeats 8000000 in
set_option maxRecDepth 100000 in
theorem rvalue_n (s : ByteArray) (w : World) (hL : Wd.Lies w) (hs : s.size ≤ 281474976710656) : Calls Tryz.prog 31 #[.int .u8 110, .string s] w fun e w' => e = .returned (.tuple #[.int .i64 (val 110 s.data.toList).1, .int .i64 (val 110 s.data.toList).2]) ∧ Below w.heap.size w w' := by
  have cN := Lib.hid (rnumber_walk s w hL hs)
  rw [show val 110 s.data.toList = nmb s.data.toList from rfl]
  unfold nmb
  clear hL
  generalize num s.data.toList = y at *
  obtain ⟨m, ok⟩ := y
  cases ok
  · rw [if_neg (by simp)]
    go_enter Tryz.func31, Tryz.ntmps31
    go_wp2_with ((go_at_call 60; ((with_reducible refine (cN.out).mono ?_); rintro e w' ⟨rfl, b1⟩)))
    all_goals (repeat (go_quiet (fail); go_wp2))
    all_goals go_ret2
    all_goals exact ⟨rfl, b1⟩
  · rw [if_pos rfl]
    go_enter Tryz.func31, Tryz.ntmps31
    go_wp2_with ((go_at_call 60; ((with_reducible refine (cN.out).mono ?_); rintro e w' ⟨rfl, b1⟩)))
    all_goals (repeat (go_quiet (fail); go_wp2))
    all_goals go_ret2
    all_goals exact ⟨rfl, b1⟩
set_option maxHeartbeats 8000000 in
set_option maxRecDepth 100000 in
theorem rvalue_big (s : ByteArray) (w : World) (hL : Wd.Lies w) (hs : s.size ≤ 281474976710656) : Calls Tryz.prog 31 #[.int .u8 78, .string s] w fun e w' => e = .returned (.tuple #[.int .i64 (val 78 s.data.toList).1, .int .i64 (val 78 s.data.toList).2]) ∧ Below w.heap.size w w' := by
  have cN := Lib.hid (rnumber_walk s w hL hs)
  rw [show val 78 s.data.toList = sml s.data.toList from rfl]
  unfold sml
  clear hL
  generalize num s.data.toList = y at *
  obtain ⟨m, ok⟩ := y
  cases ok
  · rw [if_neg (by simp)]
    go_enter Tryz.func31, Tryz.ntmps31
    go_wp2_with ((go_at_call 60; ((with_reducible refine (cN.out).mono ?_); rintro e w' ⟨rfl, b1⟩)))
    all_goals (repeat (go_quiet (fail); go_wp2))
    all_goals go_ret2
    all_goals exact ⟨rfl, b1⟩
  · by_cases h1 : m < 0
    · rw [if_neg (by simp only [true_and]; omega)]
      have d1 : decide (m < 0) = true := decide_eq_true h1
      go_enter Tryz.func31, Tryz.ntmps31
      go_wp2_with ((go_at_call 60; ((with_reducible refine (cN.out).mono ?_); rintro e w' ⟨rfl, b1⟩)))
      all_goals (repeat (go_quiet (fail); go_wp2))
      all_goals go_ret2
      all_goals exact ⟨rfl, b1⟩
    · by_cases h2 : 999999999 < m
      · rw [if_neg (by simp only [true_and]; omega)]
        have d1 : decide (m < 0) = false := decide_eq_false h1
        have d2 : decide (999999999 < m) = true := decide_eq_true h2
        go_enter Tryz.func31, Tryz.ntmps31
        go_wp2_with ((go_at_call 60; ((with_reducible refine (cN.out).mono ?_); rintro e w' ⟨rfl, b1⟩)))
        all_goals (repeat (go_quiet (fail); go_wp2))
        all_goals go_ret2
        all_goals exact ⟨rfl, b1⟩
      · rw [if_pos (by simp only [true_and]; omega)]
        have d1 : decide (m < 0) = false := decide_eq_false h1
        have d2 : decide (999999999 < m) = false := decide_eq_false h2
        go_enter Tryz.func31, Tryz.ntmps31
        go_wp2_with ((go_at_call 60; ((with_reducible refine (cN.out).mono ?_); rintro e w' ⟨rfl, b1⟩)))
        all_goals (repeat (go_quiet (fail); go_wp2))
        all_goals go_ret2
        all_goals exact ⟨rfl, b1⟩
set_option maxHeartbeats 8000000 in
set_option maxRecDepth 100000 in
theorem rvalue_r (s : ByteArray) (w : World) (hL : Wd.Lies w) (h0 : 0 < s.size) (hs : s.size ≤ 281474976710656) : Calls Tryz.prog 31 #[.int .u8 114, .string s] w fun e w' => e = .returned (.tuple #[.int .i64 (val 114 s.data.toList).1, .int .i64 (val 114 s.data.toList).2]) ∧ Below w.heap.size w w' := by
  rw [show val 114 s.data.toList = ltr s.data.toList 114 false from rfl]
  unfold ltr
  rw [if_neg (fun q => by cases q.1)]
  have hcons := head_cons s h0
  have hhd : s.data.toList.head? = some s[0] := by rw [hcons]; rfl
  have hsz : (0 : Int) < (s.size : Int) := by omega
  have hlt := UInt8.toNat_lt s[0]
  rw [hhd]
  by_cases he : s[0] = 114
  · rw [if_pos (by rw [he])]
    have t0 : s[0].toNat = 114 := by rw [he]; rfl
    have cN := Lib.hid (rnumber_walk (s.extract 1 s.size) w hL (by rw [ByteArray.size_extract]; omega))
    rw [ext_tail s h0] at cN
    unfold sml
    clear hL hcons hhd he
    generalize num s.data.toList.tail = y at *
    obtain ⟨m, ok⟩ := y
    cases ok
    · rw [if_neg (by simp)]
      go_enter Tryz.func31, Tryz.ntmps31
      go_wp2_with ((go_at_call 60; ((with_reducible refine (cN.out).mono ?_); rintro e w' ⟨rfl, b1⟩)))
      all_goals (repeat (go_quiet (fail); go_wp2))
      all_goals go_ret2
      all_goals exact ⟨rfl, b1⟩
    · by_cases h1 : m < 0
      · rw [if_neg (by simp only [true_and]; omega)]
        have d1 : decide (m < 0) = true := decide_eq_true h1
        go_enter Tryz.func31, Tryz.ntmps31
        go_wp2_with ((go_at_call 60; ((with_reducible refine (cN.out).mono ?_); rintro e w' ⟨rfl, b1⟩)))
        all_goals (repeat (go_quiet (fail); go_wp2))
        all_goals go_ret2
        all_goals exact ⟨rfl, b1⟩
      · by_cases h2 : 999999999 < m
        · rw [if_neg (by simp only [true_and]; omega)]
          have d1 : decide (m < 0) = false := decide_eq_false h1
          have d2 : decide (999999999 < m) = true := decide_eq_true h2
          go_enter Tryz.func31, Tryz.ntmps31
          go_wp2_with ((go_at_call 60; ((with_reducible refine (cN.out).mono ?_); rintro e w' ⟨rfl, b1⟩)))
          all_goals (repeat (go_quiet (fail); go_wp2))
          all_goals go_ret2
          all_goals exact ⟨rfl, b1⟩
        · rw [if_pos (by simp only [true_and]; omega)]
          have d1 : decide (m < 0) = false := decide_eq_false h1
          have d2 : decide (999999999 < m) = false := decide_eq_false h2
          go_enter Tryz.func31, Tryz.ntmps31
          go_wp2_with ((go_at_call 60; ((with_reducible refine (cN.out).mono ?_); rintro e w' ⟨rfl, b1⟩)))
          all_goals (repeat (go_quiet (fail); go_wp2))
          all_goals go_ret2
          all_goals exact ⟨rfl, b1⟩
  · rw [if_neg (fun q => he (Option.some.inj q))]
    have t0 : ((s[0].toNat : Int) == 114) = false := by
      rw [beq_eq_false_iff_ne]
      exact fun e => he (UInt8.toNat_inj.1 (by show s[0].toNat = 114; omega))
    clear hL hcons hhd he
    go_enter Tryz.func31, Tryz.ntmps31
    go_wp2_with (fail)
    all_goals (repeat (go_quiet (fail); go_wp2))
    all_goals go_ret2
    all_goals exact ⟨rfl, (by repeat (first | (with_reducible exact Below.refl _ _) | (with_reducible refine Below.drew ?_) | (with_reducible refine below_drewN ?_ _) | (with_reducible refine Below.alloc ?_ (by first | omega | (simp <;> omega)) _)))⟩
set_option maxHeartbeats 8000000 in
set_option maxRecDepth 100000 in
theorem rvalue_w (s : ByteArray) (w : World) (hL : Wd.Lies w) (h0 : 0 < s.size) (hs : s.size ≤ 281474976710656) : Calls Tryz.prog 31 #[.int .u8 119, .string s] w fun e w' => e = .returned (.tuple #[.int .i64 (val 119 s.data.toList).1, .int .i64 (val 119 s.data.toList).2]) ∧ Below w.heap.size w w' := by
  rw [show val 119 s.data.toList = ltr s.data.toList 114 false from rfl]
  unfold ltr
  rw [if_neg (fun q => by cases q.1)]
  have hcons := head_cons s h0
  have hhd : s.data.toList.head? = some s[0] := by rw [hcons]; rfl
  have hsz : (0 : Int) < (s.size : Int) := by omega
  have hlt := UInt8.toNat_lt s[0]
  rw [hhd]
  by_cases he : s[0] = 114
  · rw [if_pos (by rw [he])]
    have t0 : s[0].toNat = 114 := by rw [he]; rfl
    have cN := Lib.hid (rnumber_walk (s.extract 1 s.size) w hL (by rw [ByteArray.size_extract]; omega))
    rw [ext_tail s h0] at cN
    unfold sml
    clear hL hcons hhd he
    generalize num s.data.toList.tail = y at *
    obtain ⟨m, ok⟩ := y
    cases ok
    · rw [if_neg (by simp)]
      go_enter Tryz.func31, Tryz.ntmps31
      go_wp2_with ((go_at_call 60; ((with_reducible refine (cN.out).mono ?_); rintro e w' ⟨rfl, b1⟩)))
      all_goals (repeat (go_quiet (fail); go_wp2))
      all_goals go_ret2
      all_goals exact ⟨rfl, b1⟩
    · by_cases h1 : m < 0
      · rw [if_neg (by simp only [true_and]; omega)]
        have d1 : decide (m < 0) = true := decide_eq_true h1
        go_enter Tryz.func31, Tryz.ntmps31
        go_wp2_with ((go_at_call 60; ((with_reducible refine (cN.out).mono ?_); rintro e w' ⟨rfl, b1⟩)))
        all_goals (repeat (go_quiet (fail); go_wp2))
        all_goals go_ret2
        all_goals exact ⟨rfl, b1⟩
      · by_cases h2 : 999999999 < m
        · rw [if_neg (by simp only [true_and]; omega)]
          have d1 : decide (m < 0) = false := decide_eq_false h1
          have d2 : decide (999999999 < m) = true := decide_eq_true h2
          go_enter Tryz.func31, Tryz.ntmps31
          go_wp2_with ((go_at_call 60; ((with_reducible refine (cN.out).mono ?_); rintro e w' ⟨rfl, b1⟩)))
          all_goals (repeat (go_quiet (fail); go_wp2))
          all_goals go_ret2
          all_goals exact ⟨rfl, b1⟩
        · rw [if_pos (by simp only [true_and]; omega)]
          have d1 : decide (m < 0) = false := decide_eq_false h1
          have d2 : decide (999999999 < m) = false := decide_eq_false h2
          go_enter Tryz.func31, Tryz.ntmps31
          go_wp2_with ((go_at_call 60; ((with_reducible refine (cN.out).mono ?_); rintro e w' ⟨rfl, b1⟩)))
          all_goals (repeat (go_quiet (fail); go_wp2))
          all_goals go_ret2
          all_goals exact ⟨rfl, b1⟩
  · rw [if_neg (fun q => he (Option.some.inj q))]
    have t0 : ((s[0].toNat : Int) == 114) = false := by
      rw [beq_eq_false_iff_ne]
      exact fun e => he (UInt8.toNat_inj.1 (by show s[0].toNat = 114; omega))
    clear hL hcons hhd he
    go_enter Tryz.func31, Tryz.ntmps31
    go_wp2_with (fail)
    all_goals (repeat (go_quiet (fail); go_wp2))
    all_goals go_ret2
    all_goals exact ⟨rfl, (by repeat (first | (with_reducible exact Below.refl _ _) | (with_reducible refine Below.drew ?_) | (with_reducible refine below_drewN ?_ _) | (with_reducible refine Below.alloc ?_ (by first | omega | (simp <;> omega)) _)))⟩
set_option maxHeartbeats 8000000 in
set_option maxRecDepth 100000 in
theorem rvalue_p (s : ByteArray) (w : World) (hL : Wd.Lies w) (h0 : 0 < s.size) (hs : s.size ≤ 281474976710656) : Calls Tryz.prog 31 #[.int .u8 112, .string s] w fun e w' => e = .returned (.tuple #[.int .i64 (val 112 s.data.toList).1, .int .i64 (val 112 s.data.toList).2]) ∧ Below w.heap.size w w' := by
  rw [show val 112 s.data.toList = ltr s.data.toList 114 false from rfl]
  unfold ltr
  rw [if_neg (fun q => by cases q.1)]
  have hcons := head_cons s h0
  have hhd : s.data.toList.head? = some s[0] := by rw [hcons]; rfl
  have hsz : (0 : Int) < (s.size : Int) := by omega
  have hlt := UInt8.toNat_lt s[0]
  rw [hhd]
  by_cases he : s[0] = 114
  · rw [if_pos (by rw [he])]
    have t0 : s[0].toNat = 114 := by rw [he]; rfl
    have cN := Lib.hid (rnumber_walk (s.extract 1 s.size) w hL (by rw [ByteArray.size_extract]; omega))
    rw [ext_tail s h0] at cN
    unfold sml
    clear hL hcons hhd he
    generalize num s.data.toList.tail = y at *
    obtain ⟨m, ok⟩ := y
    cases ok
    · rw [if_neg (by simp)]
      go_enter Tryz.func31, Tryz.ntmps31
      go_wp2_with ((go_at_call 60; ((with_reducible refine (cN.out).mono ?_); rintro e w' ⟨rfl, b1⟩)))
      all_goals (repeat (go_quiet (fail); go_wp2))
      all_goals go_ret2
      all_goals exact ⟨rfl, b1⟩
    · by_cases h1 : m < 0
      · rw [if_neg (by simp only [true_and]; omega)]
        have d1 : decide (m < 0) = true := decide_eq_true h1
        go_enter Tryz.func31, Tryz.ntmps31
        go_wp2_with ((go_at_call 60; ((with_reducible refine (cN.out).mono ?_); rintro e w' ⟨rfl, b1⟩)))
        all_goals (repeat (go_quiet (fail); go_wp2))
        all_goals go_ret2
        all_goals exact ⟨rfl, b1⟩
      · by_cases h2 : 999999999 < m
        · rw [if_neg (by simp only [true_and]; omega)]
          have d1 : decide (m < 0) = false := decide_eq_false h1
          have d2 : decide (999999999 < m) = true := decide_eq_true h2
          go_enter Tryz.func31, Tryz.ntmps31
          go_wp2_with ((go_at_call 60; ((with_reducible refine (cN.out).mono ?_); rintro e w' ⟨rfl, b1⟩)))
          all_goals (repeat (go_quiet (fail); go_wp2))
          all_goals go_ret2
          all_goals exact ⟨rfl, b1⟩
        · rw [if_pos (by simp only [true_and]; omega)]
          have d1 : decide (m < 0) = false := decide_eq_false h1
          have d2 : decide (999999999 < m) = false := decide_eq_false h2
          go_enter Tryz.func31, Tryz.ntmps31
          go_wp2_with ((go_at_call 60; ((with_reducible refine (cN.out).mono ?_); rintro e w' ⟨rfl, b1⟩)))
          all_goals (repeat (go_quiet (fail); go_wp2))
          all_goals go_ret2
          all_goals exact ⟨rfl, b1⟩
  · rw [if_neg (fun q => he (Option.some.inj q))]
    have t0 : ((s[0].toNat : Int) == 114) = false := by
      rw [beq_eq_false_iff_ne]
      exact fun e => he (UInt8.toNat_inj.1 (by show s[0].toNat = 114; omega))
    clear hL hcons hhd he
    go_enter Tryz.func31, Tryz.ntmps31
    go_wp2_with (fail)
    all_goals (repeat (go_quiet (fail); go_wp2))
    all_goals go_ret2
    all_goals exact ⟨rfl, (by repeat (first | (with_reducible exact Below.refl _ _) | (with_reducible refine Below.drew ?_) | (with_reducible refine below_drewN ?_ _) | (with_reducible refine Below.alloc ?_ (by first | omega | (simp <;> omega)) _)))⟩
set_option maxHeartbeats 8000000 in
set_option maxRecDepth 100000 in
theorem rvalue_o (s : ByteArray) (w : World) (hL : Wd.Lies w) (h0 : 0 < s.size) (hs : s.size ≤ 281474976710656) : Calls Tryz.prog 31 #[.int .u8 111, .string s] w fun e w' => e = .returned (.tuple #[.int .i64 (val 111 s.data.toList).1, .int .i64 (val 111 s.data.toList).2]) ∧ Below w.heap.size w w' := by
  rw [show val 111 s.data.toList = ltr s.data.toList 114 true from rfl]
  unfold ltr
  by_cases hu : s.data.toList = [95]
  · rw [if_pos ⟨rfl, hu⟩]
    have hq : (s.toList == [95]) = true := by rw [ByteArray.toList_eq, hu]; rfl
    clear hL hu
    go_enter Tryz.func31, Tryz.ntmps31
    go_wp2_with (fail)
    all_goals (repeat (go_quiet (fail); go_wp2))
    all_goals go_ret2
    all_goals exact ⟨rfl, (by repeat (first | (with_reducible exact Below.refl _ _) | (with_reducible refine Below.drew ?_) | (with_reducible refine below_drewN ?_ _) | (with_reducible refine Below.alloc ?_ (by first | omega | (simp <;> omega)) _)))⟩
  · rw [if_neg (fun q => hu q.2)]
    have hq : (s.toList == [95]) = false := by rw [ByteArray.toList_eq]; exact beq_eq_false_iff_ne.2 hu
    clear hu
    have hcons := head_cons s h0
    have hhd : s.data.toList.head? = some s[0] := by rw [hcons]; rfl
    have hsz : (0 : Int) < (s.size : Int) := by omega
    have hlt := UInt8.toNat_lt s[0]
    rw [hhd]
    by_cases he : s[0] = 114
    · rw [if_pos (by rw [he])]
      have t0 : s[0].toNat = 114 := by rw [he]; rfl
      have cN := Lib.hid (rnumber_walk (s.extract 1 s.size) w hL (by rw [ByteArray.size_extract]; omega))
      rw [ext_tail s h0] at cN
      unfold sml
      clear hL hcons hhd he
      generalize num s.data.toList.tail = y at *
      obtain ⟨m, ok⟩ := y
      cases ok
      · rw [if_neg (by simp)]
        go_enter Tryz.func31, Tryz.ntmps31
        go_wp2_with ((go_at_call 60; ((with_reducible refine (cN.out).mono ?_); rintro e w' ⟨rfl, b1⟩)))
        all_goals (repeat (go_quiet (fail); go_wp2))
        all_goals go_ret2
        all_goals exact ⟨rfl, b1⟩
      · by_cases h1 : m < 0
        · rw [if_neg (by simp only [true_and]; omega)]
          have d1 : decide (m < 0) = true := decide_eq_true h1
          go_enter Tryz.func31, Tryz.ntmps31
          go_wp2_with ((go_at_call 60; ((with_reducible refine (cN.out).mono ?_); rintro e w' ⟨rfl, b1⟩)))
          all_goals (repeat (go_quiet (fail); go_wp2))
          all_goals go_ret2
          all_goals exact ⟨rfl, b1⟩
        · by_cases h2 : 999999999 < m
          · rw [if_neg (by simp only [true_and]; omega)]
            have d1 : decide (m < 0) = false := decide_eq_false h1
            have d2 : decide (999999999 < m) = true := decide_eq_true h2
            go_enter Tryz.func31, Tryz.ntmps31
            go_wp2_with ((go_at_call 60; ((with_reducible refine (cN.out).mono ?_); rintro e w' ⟨rfl, b1⟩)))
            all_goals (repeat (go_quiet (fail); go_wp2))
            all_goals go_ret2
            all_goals exact ⟨rfl, b1⟩
          · rw [if_pos (by simp only [true_and]; omega)]
            have d1 : decide (m < 0) = false := decide_eq_false h1
            have d2 : decide (999999999 < m) = false := decide_eq_false h2
            go_enter Tryz.func31, Tryz.ntmps31
            go_wp2_with ((go_at_call 60; ((with_reducible refine (cN.out).mono ?_); rintro e w' ⟨rfl, b1⟩)))
            all_goals (repeat (go_quiet (fail); go_wp2))
            all_goals go_ret2
            all_goals exact ⟨rfl, b1⟩
    · rw [if_neg (fun q => he (Option.some.inj q))]
      have t0 : ((s[0].toNat : Int) == 114) = false := by
        rw [beq_eq_false_iff_ne]
        exact fun e => he (UInt8.toNat_inj.1 (by show s[0].toNat = 114; omega))
      clear hL hcons hhd he
      go_enter Tryz.func31, Tryz.ntmps31
      go_wp2_with (fail)
      all_goals (repeat (go_quiet (fail); go_wp2))
      all_goals go_ret2
      all_goals exact ⟨rfl, (by repeat (first | (with_reducible exact Below.refl _ _) | (with_reducible refine Below.drew ?_) | (with_reducible refine below_drewN ?_ _) | (with_reducible refine Below.alloc ?_ (by first | omega | (simp <;> omega)) _)))⟩
set_option maxHeartbeats 8000000 in
set_option maxRecDepth 100000 in
theorem rvalue_v (s : ByteArray) (w : World) (hL : Wd.Lies w) (h0 : 0 < s.size) (hs : s.size ≤ 281474976710656) : Calls Tryz.prog 31 #[.int .u8 118, .string s] w fun e w' => e = .returned (.tuple #[.int .i64 (val 118 s.data.toList).1, .int .i64 (val 118 s.data.toList).2]) ∧ Below w.heap.size w w' := by
  rw [show val 118 s.data.toList = ltr s.data.toList 118 false from rfl]
  unfold ltr
  rw [if_neg (fun q => by cases q.1)]
  have hcons := head_cons s h0
  have hhd : s.data.toList.head? = some s[0] := by rw [hcons]; rfl
  have hsz : (0 : Int) < (s.size : Int) := by omega
  have hlt := UInt8.toNat_lt s[0]
  rw [hhd]
  by_cases he : s[0] = 118
  · rw [if_pos (by rw [he])]
    have t0 : s[0].toNat = 118 := by rw [he]; rfl
    have cN := Lib.hid (rnumber_walk (s.extract 1 s.size) w hL (by rw [ByteArray.size_extract]; omega))
    rw [ext_tail s h0] at cN
    unfold sml
    clear hL hcons hhd he
    generalize num s.data.toList.tail = y at *
    obtain ⟨m, ok⟩ := y
    cases ok
    · rw [if_neg (by simp)]
      go_enter Tryz.func31, Tryz.ntmps31
      go_wp2_with ((go_at_call 60; ((with_reducible refine (cN.out).mono ?_); rintro e w' ⟨rfl, b1⟩)))
      all_goals (repeat (go_quiet (fail); go_wp2))
      all_goals go_ret2
      all_goals exact ⟨rfl, b1⟩
    · by_cases h1 : m < 0
      · rw [if_neg (by simp only [true_and]; omega)]
        have d1 : decide (m < 0) = true := decide_eq_true h1
        go_enter Tryz.func31, Tryz.ntmps31
        go_wp2_with ((go_at_call 60; ((with_reducible refine (cN.out).mono ?_); rintro e w' ⟨rfl, b1⟩)))
        all_goals (repeat (go_quiet (fail); go_wp2))
        all_goals go_ret2
        all_goals exact ⟨rfl, b1⟩
      · by_cases h2 : 999999999 < m
        · rw [if_neg (by simp only [true_and]; omega)]
          have d1 : decide (m < 0) = false := decide_eq_false h1
          have d2 : decide (999999999 < m) = true := decide_eq_true h2
          go_enter Tryz.func31, Tryz.ntmps31
          go_wp2_with ((go_at_call 60; ((with_reducible refine (cN.out).mono ?_); rintro e w' ⟨rfl, b1⟩)))
          all_goals (repeat (go_quiet (fail); go_wp2))
          all_goals go_ret2
          all_goals exact ⟨rfl, b1⟩
        · rw [if_pos (by simp only [true_and]; omega)]
          have d1 : decide (m < 0) = false := decide_eq_false h1
          have d2 : decide (999999999 < m) = false := decide_eq_false h2
          go_enter Tryz.func31, Tryz.ntmps31
          go_wp2_with ((go_at_call 60; ((with_reducible refine (cN.out).mono ?_); rintro e w' ⟨rfl, b1⟩)))
          all_goals (repeat (go_quiet (fail); go_wp2))
          all_goals go_ret2
          all_goals exact ⟨rfl, b1⟩
  · rw [if_neg (fun q => he (Option.some.inj q))]
    have t0 : ((s[0].toNat : Int) == 118) = false := by
      rw [beq_eq_false_iff_ne]
      exact fun e => he (UInt8.toNat_inj.1 (by show s[0].toNat = 118; omega))
    clear hL hcons hhd he
    go_enter Tryz.func31, Tryz.ntmps31
    go_wp2_with (fail)
    all_goals (repeat (go_quiet (fail); go_wp2))
    all_goals go_ret2
    all_goals exact ⟨rfl, (by repeat (first | (with_reducible exact Below.refl _ _) | (with_reducible refine Below.drew ?_) | (with_reducible refine below_drewN ?_ _) | (with_reducible refine Below.alloc ?_ (by first | omega | (simp <;> omega)) _)))⟩
set_option maxHeartbeats 8000000 in
set_option maxRecDepth 100000 in
theorem rvalue_a (s : ByteArray) (w : World) (hL : Wd.Lies w) (h0 : 0 < s.size) (hs : s.size ≤ 281474976710656) : Calls Tryz.prog 31 #[.int .u8 97, .string s] w fun e w' => e = .returned (.tuple #[.int .i64 (val 97 s.data.toList).1, .int .i64 (val 97 s.data.toList).2]) ∧ Below w.heap.size w w' := by
  rw [show val 97 s.data.toList = ltr s.data.toList 118 false from rfl]
  unfold ltr
  rw [if_neg (fun q => by cases q.1)]
  have hcons := head_cons s h0
  have hhd : s.data.toList.head? = some s[0] := by rw [hcons]; rfl
  have hsz : (0 : Int) < (s.size : Int) := by omega
  have hlt := UInt8.toNat_lt s[0]
  rw [hhd]
  by_cases he : s[0] = 118
  · rw [if_pos (by rw [he])]
    have t0 : s[0].toNat = 118 := by rw [he]; rfl
    have cN := Lib.hid (rnumber_walk (s.extract 1 s.size) w hL (by rw [ByteArray.size_extract]; omega))
    rw [ext_tail s h0] at cN
    unfold sml
    clear hL hcons hhd he
    generalize num s.data.toList.tail = y at *
    obtain ⟨m, ok⟩ := y
    cases ok
    · rw [if_neg (by simp)]
      go_enter Tryz.func31, Tryz.ntmps31
      go_wp2_with ((go_at_call 60; ((with_reducible refine (cN.out).mono ?_); rintro e w' ⟨rfl, b1⟩)))
      all_goals (repeat (go_quiet (fail); go_wp2))
      all_goals go_ret2
      all_goals exact ⟨rfl, b1⟩
    · by_cases h1 : m < 0
      · rw [if_neg (by simp only [true_and]; omega)]
        have d1 : decide (m < 0) = true := decide_eq_true h1
        go_enter Tryz.func31, Tryz.ntmps31
        go_wp2_with ((go_at_call 60; ((with_reducible refine (cN.out).mono ?_); rintro e w' ⟨rfl, b1⟩)))
        all_goals (repeat (go_quiet (fail); go_wp2))
        all_goals go_ret2
        all_goals exact ⟨rfl, b1⟩
      · by_cases h2 : 999999999 < m
        · rw [if_neg (by simp only [true_and]; omega)]
          have d1 : decide (m < 0) = false := decide_eq_false h1
          have d2 : decide (999999999 < m) = true := decide_eq_true h2
          go_enter Tryz.func31, Tryz.ntmps31
          go_wp2_with ((go_at_call 60; ((with_reducible refine (cN.out).mono ?_); rintro e w' ⟨rfl, b1⟩)))
          all_goals (repeat (go_quiet (fail); go_wp2))
          all_goals go_ret2
          all_goals exact ⟨rfl, b1⟩
        · rw [if_pos (by simp only [true_and]; omega)]
          have d1 : decide (m < 0) = false := decide_eq_false h1
          have d2 : decide (999999999 < m) = false := decide_eq_false h2
          go_enter Tryz.func31, Tryz.ntmps31
          go_wp2_with ((go_at_call 60; ((with_reducible refine (cN.out).mono ?_); rintro e w' ⟨rfl, b1⟩)))
          all_goals (repeat (go_quiet (fail); go_wp2))
          all_goals go_ret2
          all_goals exact ⟨rfl, b1⟩
  · rw [if_neg (fun q => he (Option.some.inj q))]
    have t0 : ((s[0].toNat : Int) == 118) = false := by
      rw [beq_eq_false_iff_ne]
      exact fun e => he (UInt8.toNat_inj.1 (by show s[0].toNat = 118; omega))
    clear hL hcons hhd he
    go_enter Tryz.func31, Tryz.ntmps31
    go_wp2_with (fail)
    all_goals (repeat (go_quiet (fail); go_wp2))
    all_goals go_ret2
    all_goals exact ⟨rfl, (by repeat (first | (with_reducible exact Below.refl _ _) | (with_reducible refine Below.drew ?_) | (with_reducible refine below_drewN ?_ _) | (with_reducible refine Below.alloc ?_ (by first | omega | (simp <;> omega)) _)))⟩
set_option maxHeartbeats 8000000 in
set_option maxRecDepth 100000 in
theorem rvalue_l (s : ByteArray) (w : World) (hL : Wd.Lies w) (h0 : 0 < s.size) (hs : s.size ≤ 281474976710656) : Calls Tryz.prog 31 #[.int .u8 108, .string s] w fun e w' => e = .returned (.tuple #[.int .i64 (val 108 s.data.toList).1, .int .i64 (val 108 s.data.toList).2]) ∧ Below w.heap.size w w' := by
  rw [show val 108 s.data.toList = ltr s.data.toList 108 false from rfl]
  unfold ltr
  rw [if_neg (fun q => by cases q.1)]
  have hcons := head_cons s h0
  have hhd : s.data.toList.head? = some s[0] := by rw [hcons]; rfl
  have hsz : (0 : Int) < (s.size : Int) := by omega
  have hlt := UInt8.toNat_lt s[0]
  rw [hhd]
  by_cases he : s[0] = 108
  · rw [if_pos (by rw [he])]
    have t0 : s[0].toNat = 108 := by rw [he]; rfl
    have cN := Lib.hid (rnumber_walk (s.extract 1 s.size) w hL (by rw [ByteArray.size_extract]; omega))
    rw [ext_tail s h0] at cN
    unfold sml
    clear hL hcons hhd he
    generalize num s.data.toList.tail = y at *
    obtain ⟨m, ok⟩ := y
    cases ok
    · rw [if_neg (by simp)]
      go_enter Tryz.func31, Tryz.ntmps31
      go_wp2_with ((go_at_call 60; ((with_reducible refine (cN.out).mono ?_); rintro e w' ⟨rfl, b1⟩)))
      all_goals (repeat (go_quiet (fail); go_wp2))
      all_goals go_ret2
      all_goals exact ⟨rfl, b1⟩
    · by_cases h1 : m < 0
      · rw [if_neg (by simp only [true_and]; omega)]
        have d1 : decide (m < 0) = true := decide_eq_true h1
        go_enter Tryz.func31, Tryz.ntmps31
        go_wp2_with ((go_at_call 60; ((with_reducible refine (cN.out).mono ?_); rintro e w' ⟨rfl, b1⟩)))
        all_goals (repeat (go_quiet (fail); go_wp2))
        all_goals go_ret2
        all_goals exact ⟨rfl, b1⟩
      · by_cases h2 : 999999999 < m
        · rw [if_neg (by simp only [true_and]; omega)]
          have d1 : decide (m < 0) = false := decide_eq_false h1
          have d2 : decide (999999999 < m) = true := decide_eq_true h2
          go_enter Tryz.func31, Tryz.ntmps31
          go_wp2_with ((go_at_call 60; ((with_reducible refine (cN.out).mono ?_); rintro e w' ⟨rfl, b1⟩)))
          all_goals (repeat (go_quiet (fail); go_wp2))
          all_goals go_ret2
          all_goals exact ⟨rfl, b1⟩
        · rw [if_pos (by simp only [true_and]; omega)]
          have d1 : decide (m < 0) = false := decide_eq_false h1
          have d2 : decide (999999999 < m) = false := decide_eq_false h2
          go_enter Tryz.func31, Tryz.ntmps31
          go_wp2_with ((go_at_call 60; ((with_reducible refine (cN.out).mono ?_); rintro e w' ⟨rfl, b1⟩)))
          all_goals (repeat (go_quiet (fail); go_wp2))
          all_goals go_ret2
          all_goals exact ⟨rfl, b1⟩
  · rw [if_neg (fun q => he (Option.some.inj q))]
    have t0 : ((s[0].toNat : Int) == 108) = false := by
      rw [beq_eq_false_iff_ne]
      exact fun e => he (UInt8.toNat_inj.1 (by show s[0].toNat = 108; omega))
    clear hL hcons hhd he
    go_enter Tryz.func31, Tryz.ntmps31
    go_wp2_with (fail)
    all_goals (repeat (go_quiet (fail); go_wp2))
    all_goals go_ret2
    all_goals exact ⟨rfl, (by repeat (first | (with_reducible exact Below.refl _ _) | (with_reducible refine Below.drew ?_) | (with_reducible refine below_drewN ?_ _) | (with_reducible refine Below.alloc ?_ (by first | omega | (simp <;> omega)) _)))⟩
set_option maxHeartbeats 8000000 in
set_option maxRecDepth 100000 in
theorem rvalue_c (s : ByteArray) (w : World) (hL : Wd.Lies w) (h0 : 0 < s.size) (hs : s.size ≤ 281474976710656) : Calls Tryz.prog 31 #[.int .u8 99, .string s] w fun e w' => e = .returned (.tuple #[.int .i64 (val 99 s.data.toList).1, .int .i64 (val 99 s.data.toList).2]) ∧ Below w.heap.size w w' := by
  rw [show val 99 s.data.toList = ltr s.data.toList 99 false from rfl]
  unfold ltr
  rw [if_neg (fun q => by cases q.1)]
  have hcons := head_cons s h0
  have hhd : s.data.toList.head? = some s[0] := by rw [hcons]; rfl
  have hsz : (0 : Int) < (s.size : Int) := by omega
  have hlt := UInt8.toNat_lt s[0]
  rw [hhd]
  by_cases he : s[0] = 99
  · rw [if_pos (by rw [he])]
    have t0 : s[0].toNat = 99 := by rw [he]; rfl
    have cN := Lib.hid (rnumber_walk (s.extract 1 s.size) w hL (by rw [ByteArray.size_extract]; omega))
    rw [ext_tail s h0] at cN
    unfold sml
    clear hL hcons hhd he
    generalize num s.data.toList.tail = y at *
    obtain ⟨m, ok⟩ := y
    cases ok
    · rw [if_neg (by simp)]
      go_enter Tryz.func31, Tryz.ntmps31
      go_wp2_with ((go_at_call 60; ((with_reducible refine (cN.out).mono ?_); rintro e w' ⟨rfl, b1⟩)))
      all_goals (repeat (go_quiet (fail); go_wp2))
      all_goals go_ret2
      all_goals exact ⟨rfl, b1⟩
    · by_cases h1 : m < 0
      · rw [if_neg (by simp only [true_and]; omega)]
        have d1 : decide (m < 0) = true := decide_eq_true h1
        go_enter Tryz.func31, Tryz.ntmps31
        go_wp2_with ((go_at_call 60; ((with_reducible refine (cN.out).mono ?_); rintro e w' ⟨rfl, b1⟩)))
        all_goals (repeat (go_quiet (fail); go_wp2))
        all_goals go_ret2
        all_goals exact ⟨rfl, b1⟩
      · by_cases h2 : 999999999 < m
        · rw [if_neg (by simp only [true_and]; omega)]
          have d1 : decide (m < 0) = false := decide_eq_false h1
          have d2 : decide (999999999 < m) = true := decide_eq_true h2
          go_enter Tryz.func31, Tryz.ntmps31
          go_wp2_with ((go_at_call 60; ((with_reducible refine (cN.out).mono ?_); rintro e w' ⟨rfl, b1⟩)))
          all_goals (repeat (go_quiet (fail); go_wp2))
          all_goals go_ret2
          all_goals exact ⟨rfl, b1⟩
        · rw [if_pos (by simp only [true_and]; omega)]
          have d1 : decide (m < 0) = false := decide_eq_false h1
          have d2 : decide (999999999 < m) = false := decide_eq_false h2
          go_enter Tryz.func31, Tryz.ntmps31
          go_wp2_with ((go_at_call 60; ((with_reducible refine (cN.out).mono ?_); rintro e w' ⟨rfl, b1⟩)))
          all_goals (repeat (go_quiet (fail); go_wp2))
          all_goals go_ret2
          all_goals exact ⟨rfl, b1⟩
  · rw [if_neg (fun q => he (Option.some.inj q))]
    have t0 : ((s[0].toNat : Int) == 99) = false := by
      rw [beq_eq_false_iff_ne]
      exact fun e => he (UInt8.toNat_inj.1 (by show s[0].toNat = 99; omega))
    clear hL hcons hhd he
    go_enter Tryz.func31, Tryz.ntmps31
    go_wp2_with (fail)
    all_goals (repeat (go_quiet (fail); go_wp2))
    all_goals go_ret2
    all_goals exact ⟨rfl, (by repeat (first | (with_reducible exact Below.refl _ _) | (with_reducible refine Below.drew ?_) | (with_reducible refine below_drewN ?_ _) | (with_reducible refine Below.alloc ?_ (by first | omega | (simp <;> omega)) _)))⟩
set_option maxHeartbeats 8000000 in
set_option maxRecDepth 100000 in
theorem rvalue_s (s : ByteArray) (w : World) (hL : Wd.Lies w) (h0 : 0 < s.size) (hs : s.size ≤ 281474976710656) : Calls Tryz.prog 31 #[.int .u8 115, .string s] w fun e w' => e = .returned (.tuple #[.int .i64 (val 115 s.data.toList).1, .int .i64 (val 115 s.data.toList).2]) ∧ Below w.heap.size w w' := by
  rw [show val 115 s.data.toList = ltr s.data.toList 115 false from rfl]
  unfold ltr
  rw [if_neg (fun q => by cases q.1)]
  have hcons := head_cons s h0
  have hhd : s.data.toList.head? = some s[0] := by rw [hcons]; rfl
  have hsz : (0 : Int) < (s.size : Int) := by omega
  have hlt := UInt8.toNat_lt s[0]
  rw [hhd]
  by_cases he : s[0] = 115
  · rw [if_pos (by rw [he])]
    have t0 : s[0].toNat = 115 := by rw [he]; rfl
    have cN := Lib.hid (rnumber_walk (s.extract 1 s.size) w hL (by rw [ByteArray.size_extract]; omega))
    rw [ext_tail s h0] at cN
    unfold sml
    clear hL hcons hhd he
    generalize num s.data.toList.tail = y at *
    obtain ⟨m, ok⟩ := y
    cases ok
    · rw [if_neg (by simp)]
      go_enter Tryz.func31, Tryz.ntmps31
      go_wp2_with ((go_at_call 60; ((with_reducible refine (cN.out).mono ?_); rintro e w' ⟨rfl, b1⟩)))
      all_goals (repeat (go_quiet (fail); go_wp2))
      all_goals go_ret2
      all_goals exact ⟨rfl, b1⟩
    · by_cases h1 : m < 0
      · rw [if_neg (by simp only [true_and]; omega)]
        have d1 : decide (m < 0) = true := decide_eq_true h1
        go_enter Tryz.func31, Tryz.ntmps31
        go_wp2_with ((go_at_call 60; ((with_reducible refine (cN.out).mono ?_); rintro e w' ⟨rfl, b1⟩)))
        all_goals (repeat (go_quiet (fail); go_wp2))
        all_goals go_ret2
        all_goals exact ⟨rfl, b1⟩
      · by_cases h2 : 999999999 < m
        · rw [if_neg (by simp only [true_and]; omega)]
          have d1 : decide (m < 0) = false := decide_eq_false h1
          have d2 : decide (999999999 < m) = true := decide_eq_true h2
          go_enter Tryz.func31, Tryz.ntmps31
          go_wp2_with ((go_at_call 60; ((with_reducible refine (cN.out).mono ?_); rintro e w' ⟨rfl, b1⟩)))
          all_goals (repeat (go_quiet (fail); go_wp2))
          all_goals go_ret2
          all_goals exact ⟨rfl, b1⟩
        · rw [if_pos (by simp only [true_and]; omega)]
          have d1 : decide (m < 0) = false := decide_eq_false h1
          have d2 : decide (999999999 < m) = false := decide_eq_false h2
          go_enter Tryz.func31, Tryz.ntmps31
          go_wp2_with ((go_at_call 60; ((with_reducible refine (cN.out).mono ?_); rintro e w' ⟨rfl, b1⟩)))
          all_goals (repeat (go_quiet (fail); go_wp2))
          all_goals go_ret2
          all_goals exact ⟨rfl, b1⟩
  · rw [if_neg (fun q => he (Option.some.inj q))]
    have t0 : ((s[0].toNat : Int) == 115) = false := by
      rw [beq_eq_false_iff_ne]
      exact fun e => he (UInt8.toNat_inj.1 (by show s[0].toNat = 115; omega))
    clear hL hcons hhd he
    go_enter Tryz.func31, Tryz.ntmps31
    go_wp2_with (fail)
    all_goals (repeat (go_quiet (fail); go_wp2))
    all_goals go_ret2
    all_goals exact ⟨rfl, (by repeat (first | (with_reducible exact Below.refl _ _) | (with_reducible refine Below.drew ?_) | (with_reducible refine below_drewN ?_ _) | (with_reducible refine Below.alloc ?_ (by first | omega | (simp <;> omega)) _)))⟩
set_option maxHeartbeats 8000000 in
set_option maxRecDepth 100000 in
theorem rvalue_f (s : ByteArray) (w : World) (hL : Wd.Lies w) (h0 : 0 < s.size) (hs : s.size ≤ 281474976710656) : Calls Tryz.prog 31 #[.int .u8 102, .string s] w fun e w' => e = .returned (.tuple #[.int .i64 (val 102 s.data.toList).1, .int .i64 (val 102 s.data.toList).2]) ∧ Below w.heap.size w w' := by
  rw [show val 102 s.data.toList = ltr s.data.toList 102 false from rfl]
  unfold ltr
  rw [if_neg (fun q => by cases q.1)]
  have hcons := head_cons s h0
  have hhd : s.data.toList.head? = some s[0] := by rw [hcons]; rfl
  have hsz : (0 : Int) < (s.size : Int) := by omega
  have hlt := UInt8.toNat_lt s[0]
  rw [hhd]
  by_cases he : s[0] = 102
  · rw [if_pos (by rw [he])]
    have t0 : s[0].toNat = 102 := by rw [he]; rfl
    have cN := Lib.hid (rnumber_walk (s.extract 1 s.size) w hL (by rw [ByteArray.size_extract]; omega))
    rw [ext_tail s h0] at cN
    unfold sml
    clear hL hcons hhd he
    generalize num s.data.toList.tail = y at *
    obtain ⟨m, ok⟩ := y
    cases ok
    · rw [if_neg (by simp)]
      go_enter Tryz.func31, Tryz.ntmps31
      go_wp2_with ((go_at_call 60; ((with_reducible refine (cN.out).mono ?_); rintro e w' ⟨rfl, b1⟩)))
      all_goals (repeat (go_quiet (fail); go_wp2))
      all_goals go_ret2
      all_goals exact ⟨rfl, b1⟩
    · by_cases h1 : m < 0
      · rw [if_neg (by simp only [true_and]; omega)]
        have d1 : decide (m < 0) = true := decide_eq_true h1
        go_enter Tryz.func31, Tryz.ntmps31
        go_wp2_with ((go_at_call 60; ((with_reducible refine (cN.out).mono ?_); rintro e w' ⟨rfl, b1⟩)))
        all_goals (repeat (go_quiet (fail); go_wp2))
        all_goals go_ret2
        all_goals exact ⟨rfl, b1⟩
      · by_cases h2 : 999999999 < m
        · rw [if_neg (by simp only [true_and]; omega)]
          have d1 : decide (m < 0) = false := decide_eq_false h1
          have d2 : decide (999999999 < m) = true := decide_eq_true h2
          go_enter Tryz.func31, Tryz.ntmps31
          go_wp2_with ((go_at_call 60; ((with_reducible refine (cN.out).mono ?_); rintro e w' ⟨rfl, b1⟩)))
          all_goals (repeat (go_quiet (fail); go_wp2))
          all_goals go_ret2
          all_goals exact ⟨rfl, b1⟩
        · rw [if_pos (by simp only [true_and]; omega)]
          have d1 : decide (m < 0) = false := decide_eq_false h1
          have d2 : decide (999999999 < m) = false := decide_eq_false h2
          go_enter Tryz.func31, Tryz.ntmps31
          go_wp2_with ((go_at_call 60; ((with_reducible refine (cN.out).mono ?_); rintro e w' ⟨rfl, b1⟩)))
          all_goals (repeat (go_quiet (fail); go_wp2))
          all_goals go_ret2
          all_goals exact ⟨rfl, b1⟩
  · rw [if_neg (fun q => he (Option.some.inj q))]
    have t0 : ((s[0].toNat : Int) == 102) = false := by
      rw [beq_eq_false_iff_ne]
      exact fun e => he (UInt8.toNat_inj.1 (by show s[0].toNat = 102; omega))
    clear hL hcons hhd he
    go_enter Tryz.func31, Tryz.ntmps31
    go_wp2_with (fail)
    all_goals (repeat (go_quiet (fail); go_wp2))
    all_goals go_ret2
    all_goals exact ⟨rfl, (by repeat (first | (with_reducible exact Below.refl _ _) | (with_reducible refine Below.drew ?_) | (with_reducible refine below_drewN ?_ _) | (with_reducible refine Below.alloc ?_ (by first | omega | (simp <;> omega)) _)))⟩
set_option maxHeartbeats 8000000 in
set_option maxRecDepth 100000 in
theorem rvalue_t (s : ByteArray) (w : World) (hL : Wd.Lies w) (h0 : 0 < s.size) (hs : s.size ≤ 281474976710656) : Calls Tryz.prog 31 #[.int .u8 116, .string s] w fun e w' => e = .returned (.tuple #[.int .i64 (val 116 s.data.toList).1, .int .i64 (val 116 s.data.toList).2]) ∧ Below w.heap.size w w' := by
  rw [show val 116 s.data.toList = ltr s.data.toList 64 false from rfl]
  unfold ltr
  rw [if_neg (fun q => by cases q.1)]
  have hcons := head_cons s h0
  have hhd : s.data.toList.head? = some s[0] := by rw [hcons]; rfl
  have hsz : (0 : Int) < (s.size : Int) := by omega
  have hlt := UInt8.toNat_lt s[0]
  rw [hhd]
  by_cases he : s[0] = 64
  · rw [if_pos (by rw [he])]
    have t0 : s[0].toNat = 64 := by rw [he]; rfl
    have cN := Lib.hid (rnumber_walk (s.extract 1 s.size) w hL (by rw [ByteArray.size_extract]; omega))
    rw [ext_tail s h0] at cN
    unfold sml
    clear hL hcons hhd he
    generalize num s.data.toList.tail = y at *
    obtain ⟨m, ok⟩ := y
    cases ok
    · rw [if_neg (by simp)]
      go_enter Tryz.func31, Tryz.ntmps31
      go_wp2_with ((go_at_call 60; ((with_reducible refine (cN.out).mono ?_); rintro e w' ⟨rfl, b1⟩)))
      all_goals (repeat (go_quiet (fail); go_wp2))
      all_goals go_ret2
      all_goals exact ⟨rfl, b1⟩
    · by_cases h1 : m < 0
      · rw [if_neg (by simp only [true_and]; omega)]
        have d1 : decide (m < 0) = true := decide_eq_true h1
        go_enter Tryz.func31, Tryz.ntmps31
        go_wp2_with ((go_at_call 60; ((with_reducible refine (cN.out).mono ?_); rintro e w' ⟨rfl, b1⟩)))
        all_goals (repeat (go_quiet (fail); go_wp2))
        all_goals go_ret2
        all_goals exact ⟨rfl, b1⟩
      · by_cases h2 : 999999999 < m
        · rw [if_neg (by simp only [true_and]; omega)]
          have d1 : decide (m < 0) = false := decide_eq_false h1
          have d2 : decide (999999999 < m) = true := decide_eq_true h2
          go_enter Tryz.func31, Tryz.ntmps31
          go_wp2_with ((go_at_call 60; ((with_reducible refine (cN.out).mono ?_); rintro e w' ⟨rfl, b1⟩)))
          all_goals (repeat (go_quiet (fail); go_wp2))
          all_goals go_ret2
          all_goals exact ⟨rfl, b1⟩
        · rw [if_pos (by simp only [true_and]; omega)]
          have d1 : decide (m < 0) = false := decide_eq_false h1
          have d2 : decide (999999999 < m) = false := decide_eq_false h2
          go_enter Tryz.func31, Tryz.ntmps31
          go_wp2_with ((go_at_call 60; ((with_reducible refine (cN.out).mono ?_); rintro e w' ⟨rfl, b1⟩)))
          all_goals (repeat (go_quiet (fail); go_wp2))
          all_goals go_ret2
          all_goals exact ⟨rfl, b1⟩
  · rw [if_neg (fun q => he (Option.some.inj q))]
    have t0 : ((s[0].toNat : Int) == 64) = false := by
      rw [beq_eq_false_iff_ne]
      exact fun e => he (UInt8.toNat_inj.1 (by show s[0].toNat = 64; omega))
    clear hL hcons hhd he
    go_enter Tryz.func31, Tryz.ntmps31
    go_wp2_with (fail)
    all_goals (repeat (go_quiet (fail); go_wp2))
    all_goals go_ret2
    all_goals exact ⟨rfl, (by repeat (first | (with_reducible exact Below.refl _ _) | (with_reducible refine Below.drew ?_) | (with_reducible refine below_drewN ?_ _) | (with_reducible refine Below.alloc ?_ (by first | omega | (simp <;> omega)) _)))⟩
set_option maxHeartbeats 8000000 in
set_option maxRecDepth 100000 in
theorem rvalue_place (s : ByteArray) (w : World) (hL : Wd.Lies w) (h0 : 0 < s.size) (hs : s.size ≤ 281474976710656) : Calls Tryz.prog 31 #[.int .u8 84, .string s] w fun e w' => e = .returned (.tuple #[.int .i64 (val 84 s.data.toList).1, .int .i64 (val 84 s.data.toList).2]) ∧ Below w.heap.size w w' := by
  rw [show val 84 s.data.toList = ltr s.data.toList 64 true from rfl]
  unfold ltr
  by_cases hu : s.data.toList = [95]
  · rw [if_pos ⟨rfl, hu⟩]
    have hq : (s.toList == [95]) = true := by rw [ByteArray.toList_eq, hu]; rfl
    clear hL hu
    go_enter Tryz.func31, Tryz.ntmps31
    go_wp2_with (fail)
    all_goals (repeat (go_quiet (fail); go_wp2))
    all_goals go_ret2
    all_goals exact ⟨rfl, (by repeat (first | (with_reducible exact Below.refl _ _) | (with_reducible refine Below.drew ?_) | (with_reducible refine below_drewN ?_ _) | (with_reducible refine Below.alloc ?_ (by first | omega | (simp <;> omega)) _)))⟩
  · rw [if_neg (fun q => hu q.2)]
    have hq : (s.toList == [95]) = false := by rw [ByteArray.toList_eq]; exact beq_eq_false_iff_ne.2 hu
    clear hu
    have hcons := head_cons s h0
    have hhd : s.data.toList.head? = some s[0] := by rw [hcons]; rfl
    have hsz : (0 : Int) < (s.size : Int) := by omega
    have hlt := UInt8.toNat_lt s[0]
    rw [hhd]
    by_cases he : s[0] = 64
    · rw [if_pos (by rw [he])]
      have t0 : s[0].toNat = 64 := by rw [he]; rfl
      have cN := Lib.hid (rnumber_walk (s.extract 1 s.size) w hL (by rw [ByteArray.size_extract]; omega))
      rw [ext_tail s h0] at cN
      unfold sml
      clear hL hcons hhd he
      generalize num s.data.toList.tail = y at *
      obtain ⟨m, ok⟩ := y
      cases ok
      · rw [if_neg (by simp)]
        go_enter Tryz.func31, Tryz.ntmps31
        go_wp2_with ((go_at_call 60; ((with_reducible refine (cN.out).mono ?_); rintro e w' ⟨rfl, b1⟩)))
        all_goals (repeat (go_quiet (fail); go_wp2))
        all_goals go_ret2
        all_goals exact ⟨rfl, b1⟩
      · by_cases h1 : m < 0
        · rw [if_neg (by simp only [true_and]; omega)]
          have d1 : decide (m < 0) = true := decide_eq_true h1
          go_enter Tryz.func31, Tryz.ntmps31
          go_wp2_with ((go_at_call 60; ((with_reducible refine (cN.out).mono ?_); rintro e w' ⟨rfl, b1⟩)))
          all_goals (repeat (go_quiet (fail); go_wp2))
          all_goals go_ret2
          all_goals exact ⟨rfl, b1⟩
        · by_cases h2 : 999999999 < m
          · rw [if_neg (by simp only [true_and]; omega)]
            have d1 : decide (m < 0) = false := decide_eq_false h1
            have d2 : decide (999999999 < m) = true := decide_eq_true h2
            go_enter Tryz.func31, Tryz.ntmps31
            go_wp2_with ((go_at_call 60; ((with_reducible refine (cN.out).mono ?_); rintro e w' ⟨rfl, b1⟩)))
            all_goals (repeat (go_quiet (fail); go_wp2))
            all_goals go_ret2
            all_goals exact ⟨rfl, b1⟩
          · rw [if_pos (by simp only [true_and]; omega)]
            have d1 : decide (m < 0) = false := decide_eq_false h1
            have d2 : decide (999999999 < m) = false := decide_eq_false h2
            go_enter Tryz.func31, Tryz.ntmps31
            go_wp2_with ((go_at_call 60; ((with_reducible refine (cN.out).mono ?_); rintro e w' ⟨rfl, b1⟩)))
            all_goals (repeat (go_quiet (fail); go_wp2))
            all_goals go_ret2
            all_goals exact ⟨rfl, b1⟩
    · rw [if_neg (fun q => he (Option.some.inj q))]
      have t0 : ((s[0].toNat : Int) == 64) = false := by
        rw [beq_eq_false_iff_ne]
        exact fun e => he (UInt8.toNat_inj.1 (by show s[0].toNat = 64; omega))
      clear hL hcons hhd he
      go_enter Tryz.func31, Tryz.ntmps31
      go_wp2_with (fail)
      all_goals (repeat (go_quiet (fail); go_wp2))
      all_goals go_ret2
      all_goals exact ⟨rfl, (by repeat (first | (with_reducible exact Below.refl _ _) | (with_reducible refine Below.drew ?_) | (with_reducible refine below_drewN ?_ _) | (with_reducible refine Below.alloc ?_ (by first | omega | (simp <;> omega)) _)))⟩
theorem rvalue_walk (c : UInt8) (hc : alet c ∨ c = 78 ∨ c = 84) (s : ByteArray) (w : World) (hL : Wd.Lies w) (h0 : 0 < s.size) (hs : s.size ≤ 281474976710656) : Calls Tryz.prog 31 #[.int .u8 (c.toNat : Int), .string s] w fun e w' => e = .returned (.tuple #[.int .i64 (val c s.data.toList).1, .int .i64 (val c s.data.toList).2]) ∧ Below w.heap.size w w' := by
  rcases hc with (rfl | rfl | rfl | rfl | rfl | rfl | rfl | rfl | rfl | rfl | rfl | rfl) | rfl | rfl
  · exact rvalue_r s w hL h0 hs
  · exact rvalue_w s w hL h0 hs
  · exact rvalue_p s w hL h0 hs
  · exact rvalue_o s w hL h0 hs
  · exact rvalue_v s w hL h0 hs
  · exact rvalue_a s w hL h0 hs
  · exact rvalue_l s w hL h0 hs
  · exact rvalue_c s w hL h0 hs
  · exact rvalue_s s w hL h0 hs
  · exact rvalue_f s w hL h0 hs
  · exact rvalue_t s w hL h0 hs
  · exact rvalue_n s w hL hs
  · exact rvalue_big s w hL hs
  · exact rvalue_place s w hL h0 hs
end Go.Proofs.YtlhhmlfcodmebaaGreatDoor.Pg
