/- An operand's word, walked, both sides; an instruction's operands. The conditions: the table and the variables as listed. -/
import Derived.Test.YtlhhmlfcodmebaaGreatDoorZf
import Derived.Test.YtlhhmlfcodmebaaGreatDoorZy
import Derived.Test.YtlhhmlfcodmebaaGreatDoorZVg
namespace Go.Proofs.YtlhhmlfcodmebaaGreatDoor.Pg
set_option linter.unusedVariables false
set_option linter.unusedSimpArgs false
open Go.RowKit Go.WideShapes Go.ChangeShapes
open Go.Proofs.YtlhhmlfcodmebaaGreatDoor.Wd (bt format_calls)
open Go.Lib
set_option linter.unusedVariables false
set_option linter.unusedSimpArgs false
theorem ba_ext {x y : ByteArray} (h : x.data.toList = y.data.toList) : x = y := by
  have h1 : x.data = y.data := Array.toList_inj.1 h
  cases x; cases y
  simp only at h1
  rw [h1]
theorem bt_size (l : List UInt8) : (bt l).size = l.length := by
  show (l.toArray).size = _
  simp
theorem bt_cons (c : UInt8) (l : List UInt8) : (⟨#[c]⟩ : ByteArray) ++ bt l = bt (c :: l) := by
  refine ba_ext ?_
  rw [ByteArray.data_append, Array.toList_append]
  rfl
theorem bt_app (l m : List UInt8) : bt l ++ bt m = bt (l ++ m) := by
  refine ba_ext ?_
  rw [ByteArray.data_append, Array.toList_append]
  rfl
set_option maxHeartbeats 8000000 in
set_option maxRecDepth 100000 in
theorem aopd_r (n : Int) (w : World) (hL : Wd.Lies w) (hn : I64 n) : Calls Tryz.prog 46 #[.int .u8 114, .int .i64 n] w fun e w' => e = .returned (.string (bt (114 :: itoa n))) ∧ Below w.heap.size w w' := by
  have cF := Lib.hid (format_calls hL n hn.1 hn.2)
  have hs := itoa_20 n hn
  rw [← bt_size] at hs
  rw [← bt_cons]
  have hcv := fun W => conv_one W 114
  have henc : Utf8.encode 114 = ⟨#[114]⟩ := by rfl
  change Hid (Calls _ _ _ _ fun e w' => e = .returned (.string (bt (itoa n))) ∧ _) at cF
  generalize bt (itoa n) = x at *
  go_enter Tryz.func46, Tryz.ntmps46
  go_wp2_with ((go_at_call 45; ((with_reducible refine (cF.out).mono ?_); rintro e w' ⟨rfl, b1⟩)))
  all_goals go_ret
  all_goals exact ⟨rfl, by first | exact b1 | exact b1.alloc b1.size _⟩
set_option maxHeartbeats 8000000 in
set_option maxRecDepth 100000 in
theorem aopd_w (n : Int) (w : World) (hL : Wd.Lies w) (hn : I64 n) : Calls Tryz.prog 46 #[.int .u8 119, .int .i64 n] w fun e w' => e = .returned (.string (bt (114 :: itoa n))) ∧ Below w.heap.size w w' := by
  have cF := Lib.hid (format_calls hL n hn.1 hn.2)
  have hs := itoa_20 n hn
  rw [← bt_size] at hs
  rw [← bt_cons]
  have hcv := fun W => conv_one W 119
  have henc : Utf8.encode 119 = ⟨#[119]⟩ := by rfl
  change Hid (Calls _ _ _ _ fun e w' => e = .returned (.string (bt (itoa n))) ∧ _) at cF
  generalize bt (itoa n) = x at *
  go_enter Tryz.func46, Tryz.ntmps46
  go_wp2_with ((go_at_call 45; ((with_reducible refine (cF.out).mono ?_); rintro e w' ⟨rfl, b1⟩)))
  all_goals go_ret
  all_goals exact ⟨rfl, by first | exact b1 | exact b1.alloc b1.size _⟩
set_option maxHeartbeats 8000000 in
set_option maxRecDepth 100000 in
theorem aopd_p (n : Int) (w : World) (hL : Wd.Lies w) (hn : I64 n) : Calls Tryz.prog 46 #[.int .u8 112, .int .i64 n] w fun e w' => e = .returned (.string (bt (114 :: itoa n))) ∧ Below w.heap.size w w' := by
  have cF := Lib.hid (format_calls hL n hn.1 hn.2)
  have hs := itoa_20 n hn
  rw [← bt_size] at hs
  rw [← bt_cons]
  have hcv := fun W => conv_one W 112
  have henc : Utf8.encode 112 = ⟨#[112]⟩ := by rfl
  change Hid (Calls _ _ _ _ fun e w' => e = .returned (.string (bt (itoa n))) ∧ _) at cF
  generalize bt (itoa n) = x at *
  go_enter Tryz.func46, Tryz.ntmps46
  go_wp2_with ((go_at_call 45; ((with_reducible refine (cF.out).mono ?_); rintro e w' ⟨rfl, b1⟩)))
  all_goals go_ret
  all_goals exact ⟨rfl, by first | exact b1 | exact b1.alloc b1.size _⟩
set_option maxHeartbeats 8000000 in
set_option maxRecDepth 100000 in
theorem aopd_v (n : Int) (w : World) (hL : Wd.Lies w) (hn : I64 n) : Calls Tryz.prog 46 #[.int .u8 118, .int .i64 n] w fun e w' => e = .returned (.string (bt (118 :: itoa n))) ∧ Below w.heap.size w w' := by
  have cF := Lib.hid (format_calls hL n hn.1 hn.2)
  have hs := itoa_20 n hn
  rw [← bt_size] at hs
  rw [← bt_cons]
  have hcv := fun W => conv_one W 118
  have henc : Utf8.encode 118 = ⟨#[118]⟩ := by rfl
  change Hid (Calls _ _ _ _ fun e w' => e = .returned (.string (bt (itoa n))) ∧ _) at cF
  generalize bt (itoa n) = x at *
  go_enter Tryz.func46, Tryz.ntmps46
  go_wp2_with ((go_at_call 45; ((with_reducible refine (cF.out).mono ?_); rintro e w' ⟨rfl, b1⟩)))
  all_goals go_ret
  all_goals exact ⟨rfl, by first | exact b1 | exact b1.alloc b1.size _⟩
set_option maxHeartbeats 8000000 in
set_option maxRecDepth 100000 in
theorem aopd_a (n : Int) (w : World) (hL : Wd.Lies w) (hn : I64 n) : Calls Tryz.prog 46 #[.int .u8 97, .int .i64 n] w fun e w' => e = .returned (.string (bt (118 :: itoa n))) ∧ Below w.heap.size w w' := by
  have cF := Lib.hid (format_calls hL n hn.1 hn.2)
  have hs := itoa_20 n hn
  rw [← bt_size] at hs
  rw [← bt_cons]
  have hcv := fun W => conv_one W 97
  have henc : Utf8.encode 97 = ⟨#[97]⟩ := by rfl
  change Hid (Calls _ _ _ _ fun e w' => e = .returned (.string (bt (itoa n))) ∧ _) at cF
  generalize bt (itoa n) = x at *
  go_enter Tryz.func46, Tryz.ntmps46
  go_wp2_with ((go_at_call 45; ((with_reducible refine (cF.out).mono ?_); rintro e w' ⟨rfl, b1⟩)))
  all_goals go_ret
  all_goals exact ⟨rfl, by first | exact b1 | exact b1.alloc b1.size _⟩
set_option maxHeartbeats 8000000 in
set_option maxRecDepth 100000 in
theorem aopd_l (n : Int) (w : World) (hL : Wd.Lies w) (hn : I64 n) : Calls Tryz.prog 46 #[.int .u8 108, .int .i64 n] w fun e w' => e = .returned (.string (bt (108 :: itoa n))) ∧ Below w.heap.size w w' := by
  have cF := Lib.hid (format_calls hL n hn.1 hn.2)
  have hs := itoa_20 n hn
  rw [← bt_size] at hs
  rw [← bt_cons]
  have hcv := fun W => conv_one W 108
  have henc : Utf8.encode 108 = ⟨#[108]⟩ := by rfl
  change Hid (Calls _ _ _ _ fun e w' => e = .returned (.string (bt (itoa n))) ∧ _) at cF
  generalize bt (itoa n) = x at *
  go_enter Tryz.func46, Tryz.ntmps46
  go_wp2_with ((go_at_call 45; ((with_reducible refine (cF.out).mono ?_); rintro e w' ⟨rfl, b1⟩)))
  all_goals go_ret
  all_goals exact ⟨rfl, by first | exact b1 | exact b1.alloc b1.size _⟩
set_option maxHeartbeats 8000000 in
set_option maxRecDepth 100000 in
theorem aopd_c (n : Int) (w : World) (hL : Wd.Lies w) (hn : I64 n) : Calls Tryz.prog 46 #[.int .u8 99, .int .i64 n] w fun e w' => e = .returned (.string (bt (99 :: itoa n))) ∧ Below w.heap.size w w' := by
  have cF := Lib.hid (format_calls hL n hn.1 hn.2)
  have hs := itoa_20 n hn
  rw [← bt_size] at hs
  rw [← bt_cons]
  have hcv := fun W => conv_one W 99
  have henc : Utf8.encode 99 = ⟨#[99]⟩ := by rfl
  change Hid (Calls _ _ _ _ fun e w' => e = .returned (.string (bt (itoa n))) ∧ _) at cF
  generalize bt (itoa n) = x at *
  go_enter Tryz.func46, Tryz.ntmps46
  go_wp2_with ((go_at_call 45; ((with_reducible refine (cF.out).mono ?_); rintro e w' ⟨rfl, b1⟩)))
  all_goals go_ret
  all_goals exact ⟨rfl, by first | exact b1 | exact b1.alloc b1.size _⟩
set_option maxHeartbeats 8000000 in
set_option maxRecDepth 100000 in
theorem aopd_s (n : Int) (w : World) (hL : Wd.Lies w) (hn : I64 n) : Calls Tryz.prog 46 #[.int .u8 115, .int .i64 n] w fun e w' => e = .returned (.string (bt (115 :: itoa n))) ∧ Below w.heap.size w w' := by
  have cF := Lib.hid (format_calls hL n hn.1 hn.2)
  have hs := itoa_20 n hn
  rw [← bt_size] at hs
  rw [← bt_cons]
  have hcv := fun W => conv_one W 115
  have henc : Utf8.encode 115 = ⟨#[115]⟩ := by rfl
  change Hid (Calls _ _ _ _ fun e w' => e = .returned (.string (bt (itoa n))) ∧ _) at cF
  generalize bt (itoa n) = x at *
  go_enter Tryz.func46, Tryz.ntmps46
  go_wp2_with ((go_at_call 45; ((with_reducible refine (cF.out).mono ?_); rintro e w' ⟨rfl, b1⟩)))
  all_goals go_ret
  all_goals exact ⟨rfl, by first | exact b1 | exact b1.alloc b1.size _⟩
set_option maxHeartbeats 8000000 in
set_option maxRecDepth 100000 in
theorem aopd_f (n : Int) (w : World) (hL : Wd.Lies w) (hn : I64 n) : Calls Tryz.prog 46 #[.int .u8 102, .int .i64 n] w fun e w' => e = .returned (.string (bt (102 :: itoa n))) ∧ Below w.heap.size w w' := by
  have cF := Lib.hid (format_calls hL n hn.1 hn.2)
  have hs := itoa_20 n hn
  rw [← bt_size] at hs
  rw [← bt_cons]
  have hcv := fun W => conv_one W 102
  have henc : Utf8.encode 102 = ⟨#[102]⟩ := by rfl
  change Hid (Calls _ _ _ _ fun e w' => e = .returned (.string (bt (itoa n))) ∧ _) at cF
  generalize bt (itoa n) = x at *
  go_enter Tryz.func46, Tryz.ntmps46
  go_wp2_with ((go_at_call 45; ((with_reducible refine (cF.out).mono ?_); rintro e w' ⟨rfl, b1⟩)))
  all_goals go_ret
  all_goals exact ⟨rfl, by first | exact b1 | exact b1.alloc b1.size _⟩
set_option maxHeartbeats 8000000 in
set_option maxRecDepth 100000 in
theorem aopd_t (n : Int) (w : World) (hL : Wd.Lies w) (hn : I64 n) : Calls Tryz.prog 46 #[.int .u8 116, .int .i64 n] w fun e w' => e = .returned (.string (bt (64 :: itoa n))) ∧ Below w.heap.size w w' := by
  have cF := Lib.hid (format_calls hL n hn.1 hn.2)
  have hs := itoa_20 n hn
  rw [← bt_size] at hs
  rw [← bt_cons]
  have hcv := fun W => conv_one W 116
  have henc : Utf8.encode 116 = ⟨#[116]⟩ := by rfl
  change Hid (Calls _ _ _ _ fun e w' => e = .returned (.string (bt (itoa n))) ∧ _) at cF
  generalize bt (itoa n) = x at *
  go_enter Tryz.func46, Tryz.ntmps46
  go_wp2_with ((go_at_call 45; ((with_reducible refine (cF.out).mono ?_); rintro e w' ⟨rfl, b1⟩)))
  all_goals go_ret
  all_goals exact ⟨rfl, by first | exact b1 | exact b1.alloc b1.size _⟩
set_option maxHeartbeats 8000000 in
set_option maxRecDepth 100000 in
theorem aopd_n (n : Int) (w : World) (hL : Wd.Lies w) (hn : I64 n) : Calls Tryz.prog 46 #[.int .u8 110, .int .i64 n] w fun e w' => e = .returned (.string (bt (itoa n))) ∧ Below w.heap.size w w' := by
  have cF := Lib.hid (format_calls hL n hn.1 hn.2)
  change Hid (Calls _ _ _ _ fun e w' => e = .returned (.string (bt (itoa n))) ∧ _) at cF
  generalize bt (itoa n) = x at *
  go_enter Tryz.func46, Tryz.ntmps46
  go_wp2_with ((go_at_call 45; ((with_reducible refine (cF.out).mono ?_); rintro e w' ⟨rfl, b1⟩)))
  all_goals go_ret
  all_goals exact ⟨rfl, b1⟩
set_option maxHeartbeats 8000000 in
set_option maxRecDepth 100000 in
theorem aopd_o (n : Int) (w : World) (hL : Wd.Lies w) (hn : I64 n) : Calls Tryz.prog 46 #[.int .u8 111, .int .i64 n] w fun e w' => e = .returned (.string (bt (opw 111 n))) ∧ Below w.heap.size w w' := by
  have cF := Lib.hid (format_calls hL n hn.1 hn.2)
  have hs := itoa_20 n hn
  rw [← bt_size] at hs
  change Hid (Calls _ _ _ _ fun e w' => e = .returned (.string (bt (itoa n))) ∧ _) at cF
  by_cases hm : n = -1
  · have hr : opw 111 n = [95] := by rw [hm]; rfl
    rw [hr]
    subst hm
    go_enter Tryz.func46, Tryz.ntmps46
    go_wp2_with ((go_at_call 45; ((with_reducible refine (cF.out).mono ?_); rintro e w' ⟨rfl, b1⟩)))
    all_goals go_ret
    all_goals exact ⟨rfl, b1⟩
  · have hr : opw 111 n = 114 :: itoa n := by
      unfold opw
      rw [if_neg (by decide), if_neg (fun q => hm q.2)]
      rfl
    rw [hr, ← bt_cons]
    have hm' : (n == -1) = false := beq_eq_false_iff_ne.2 hm
    generalize bt (itoa n) = x at *
    go_enter Tryz.func46, Tryz.ntmps46
    go_wp2_with ((go_at_call 45; ((with_reducible refine (cF.out).mono ?_); rintro e w' ⟨rfl, b1⟩)))
    all_goals go_ret
    all_goals exact ⟨rfl, b1⟩
theorem aopd_walk (c : UInt8) (hc : alet c) (n : Int) (w : World) (hL : Wd.Lies w) (hn : I64 n) : Calls Tryz.prog 46 #[.int .u8 (c.toNat : Int), .int .i64 n] w fun e w' => e = .returned (.string (bt (opw c n))) ∧ Below w.heap.size w w' := by
  rcases hc with rfl | rfl | rfl | rfl | rfl | rfl | rfl | rfl | rfl | rfl | rfl | rfl
  · exact aopd_r n w hL hn
  · exact aopd_w n w hL hn
  · exact aopd_p n w hL hn
  · exact aopd_o n w hL hn
  · exact aopd_v n w hL hn
  · exact aopd_a n w hL hn
  · exact aopd_l n w hL hn
  · exact aopd_c n w hL hn
  · exact aopd_s n w hL hn
  · exact aopd_f n w hL hn
  · exact aopd_t n w hL hn
  · exact aopd_n n w hL hn
set_option maxHeartbeats 8000000 in
set_option maxRecDepth 100000 in
theorem raopd_r (n : Int) (w : World) (hL : Wd.Lies w) (hn : I64 n) : Calls Tryz.prog 67 #[.int .u8 114, .int .i64 n] w fun e w' => e = .returned (.string (bt (114 :: itoa n))) ∧ Below w.heap.size w w' := by
  have cF := Lib.hid (format_calls hL n hn.1 hn.2)
  have hs := itoa_20 n hn
  rw [← bt_size] at hs
  rw [← bt_cons]
  have hcv := fun W => conv_one W 114
  have henc : Utf8.encode 114 = ⟨#[114]⟩ := by rfl
  change Hid (Calls _ _ _ _ fun e w' => e = .returned (.string (bt (itoa n))) ∧ _) at cF
  generalize bt (itoa n) = x at *
  go_enter Tryz.func67, Tryz.ntmps67
  go_wp2_with ((go_at_call 45; ((with_reducible refine (cF.out).mono ?_); rintro e w' ⟨rfl, b1⟩)))
  all_goals go_ret
  all_goals exact ⟨rfl, by first | exact b1 | exact b1.alloc b1.size _⟩
set_option maxHeartbeats 8000000 in
set_option maxRecDepth 100000 in
theorem raopd_w (n : Int) (w : World) (hL : Wd.Lies w) (hn : I64 n) : Calls Tryz.prog 67 #[.int .u8 119, .int .i64 n] w fun e w' => e = .returned (.string (bt (114 :: itoa n))) ∧ Below w.heap.size w w' := by
  have cF := Lib.hid (format_calls hL n hn.1 hn.2)
  have hs := itoa_20 n hn
  rw [← bt_size] at hs
  rw [← bt_cons]
  have hcv := fun W => conv_one W 119
  have henc : Utf8.encode 119 = ⟨#[119]⟩ := by rfl
  change Hid (Calls _ _ _ _ fun e w' => e = .returned (.string (bt (itoa n))) ∧ _) at cF
  generalize bt (itoa n) = x at *
  go_enter Tryz.func67, Tryz.ntmps67
  go_wp2_with ((go_at_call 45; ((with_reducible refine (cF.out).mono ?_); rintro e w' ⟨rfl, b1⟩)))
  all_goals go_ret
  all_goals exact ⟨rfl, by first | exact b1 | exact b1.alloc b1.size _⟩
set_option maxHeartbeats 8000000 in
set_option maxRecDepth 100000 in
theorem raopd_p (n : Int) (w : World) (hL : Wd.Lies w) (hn : I64 n) : Calls Tryz.prog 67 #[.int .u8 112, .int .i64 n] w fun e w' => e = .returned (.string (bt (114 :: itoa n))) ∧ Below w.heap.size w w' := by
  have cF := Lib.hid (format_calls hL n hn.1 hn.2)
  have hs := itoa_20 n hn
  rw [← bt_size] at hs
  rw [← bt_cons]
  have hcv := fun W => conv_one W 112
  have henc : Utf8.encode 112 = ⟨#[112]⟩ := by rfl
  change Hid (Calls _ _ _ _ fun e w' => e = .returned (.string (bt (itoa n))) ∧ _) at cF
  generalize bt (itoa n) = x at *
  go_enter Tryz.func67, Tryz.ntmps67
  go_wp2_with ((go_at_call 45; ((with_reducible refine (cF.out).mono ?_); rintro e w' ⟨rfl, b1⟩)))
  all_goals go_ret
  all_goals exact ⟨rfl, by first | exact b1 | exact b1.alloc b1.size _⟩
set_option maxHeartbeats 8000000 in
set_option maxRecDepth 100000 in
theorem raopd_v (n : Int) (w : World) (hL : Wd.Lies w) (hn : I64 n) : Calls Tryz.prog 67 #[.int .u8 118, .int .i64 n] w fun e w' => e = .returned (.string (bt (118 :: itoa n))) ∧ Below w.heap.size w w' := by
  have cF := Lib.hid (format_calls hL n hn.1 hn.2)
  have hs := itoa_20 n hn
  rw [← bt_size] at hs
  rw [← bt_cons]
  have hcv := fun W => conv_one W 118
  have henc : Utf8.encode 118 = ⟨#[118]⟩ := by rfl
  change Hid (Calls _ _ _ _ fun e w' => e = .returned (.string (bt (itoa n))) ∧ _) at cF
  generalize bt (itoa n) = x at *
  go_enter Tryz.func67, Tryz.ntmps67
  go_wp2_with ((go_at_call 45; ((with_reducible refine (cF.out).mono ?_); rintro e w' ⟨rfl, b1⟩)))
  all_goals go_ret
  all_goals exact ⟨rfl, by first | exact b1 | exact b1.alloc b1.size _⟩
set_option maxHeartbeats 8000000 in
set_option maxRecDepth 100000 in
theorem raopd_a (n : Int) (w : World) (hL : Wd.Lies w) (hn : I64 n) : Calls Tryz.prog 67 #[.int .u8 97, .int .i64 n] w fun e w' => e = .returned (.string (bt (118 :: itoa n))) ∧ Below w.heap.size w w' := by
  have cF := Lib.hid (format_calls hL n hn.1 hn.2)
  have hs := itoa_20 n hn
  rw [← bt_size] at hs
  rw [← bt_cons]
  have hcv := fun W => conv_one W 97
  have henc : Utf8.encode 97 = ⟨#[97]⟩ := by rfl
  change Hid (Calls _ _ _ _ fun e w' => e = .returned (.string (bt (itoa n))) ∧ _) at cF
  generalize bt (itoa n) = x at *
  go_enter Tryz.func67, Tryz.ntmps67
  go_wp2_with ((go_at_call 45; ((with_reducible refine (cF.out).mono ?_); rintro e w' ⟨rfl, b1⟩)))
  all_goals go_ret
  all_goals exact ⟨rfl, by first | exact b1 | exact b1.alloc b1.size _⟩
set_option maxHeartbeats 8000000 in
set_option maxRecDepth 100000 in
theorem raopd_l (n : Int) (w : World) (hL : Wd.Lies w) (hn : I64 n) : Calls Tryz.prog 67 #[.int .u8 108, .int .i64 n] w fun e w' => e = .returned (.string (bt (108 :: itoa n))) ∧ Below w.heap.size w w' := by
  have cF := Lib.hid (format_calls hL n hn.1 hn.2)
  have hs := itoa_20 n hn
  rw [← bt_size] at hs
  rw [← bt_cons]
  have hcv := fun W => conv_one W 108
  have henc : Utf8.encode 108 = ⟨#[108]⟩ := by rfl
  change Hid (Calls _ _ _ _ fun e w' => e = .returned (.string (bt (itoa n))) ∧ _) at cF
  generalize bt (itoa n) = x at *
  go_enter Tryz.func67, Tryz.ntmps67
  go_wp2_with ((go_at_call 45; ((with_reducible refine (cF.out).mono ?_); rintro e w' ⟨rfl, b1⟩)))
  all_goals go_ret
  all_goals exact ⟨rfl, by first | exact b1 | exact b1.alloc b1.size _⟩
set_option maxHeartbeats 8000000 in
set_option maxRecDepth 100000 in
theorem raopd_c (n : Int) (w : World) (hL : Wd.Lies w) (hn : I64 n) : Calls Tryz.prog 67 #[.int .u8 99, .int .i64 n] w fun e w' => e = .returned (.string (bt (99 :: itoa n))) ∧ Below w.heap.size w w' := by
  have cF := Lib.hid (format_calls hL n hn.1 hn.2)
  have hs := itoa_20 n hn
  rw [← bt_size] at hs
  rw [← bt_cons]
  have hcv := fun W => conv_one W 99
  have henc : Utf8.encode 99 = ⟨#[99]⟩ := by rfl
  change Hid (Calls _ _ _ _ fun e w' => e = .returned (.string (bt (itoa n))) ∧ _) at cF
  generalize bt (itoa n) = x at *
  go_enter Tryz.func67, Tryz.ntmps67
  go_wp2_with ((go_at_call 45; ((with_reducible refine (cF.out).mono ?_); rintro e w' ⟨rfl, b1⟩)))
  all_goals go_ret
  all_goals exact ⟨rfl, by first | exact b1 | exact b1.alloc b1.size _⟩
set_option maxHeartbeats 8000000 in
set_option maxRecDepth 100000 in
theorem raopd_s (n : Int) (w : World) (hL : Wd.Lies w) (hn : I64 n) : Calls Tryz.prog 67 #[.int .u8 115, .int .i64 n] w fun e w' => e = .returned (.string (bt (115 :: itoa n))) ∧ Below w.heap.size w w' := by
  have cF := Lib.hid (format_calls hL n hn.1 hn.2)
  have hs := itoa_20 n hn
  rw [← bt_size] at hs
  rw [← bt_cons]
  have hcv := fun W => conv_one W 115
  have henc : Utf8.encode 115 = ⟨#[115]⟩ := by rfl
  change Hid (Calls _ _ _ _ fun e w' => e = .returned (.string (bt (itoa n))) ∧ _) at cF
  generalize bt (itoa n) = x at *
  go_enter Tryz.func67, Tryz.ntmps67
  go_wp2_with ((go_at_call 45; ((with_reducible refine (cF.out).mono ?_); rintro e w' ⟨rfl, b1⟩)))
  all_goals go_ret
  all_goals exact ⟨rfl, by first | exact b1 | exact b1.alloc b1.size _⟩
set_option maxHeartbeats 8000000 in
set_option maxRecDepth 100000 in
theorem raopd_f (n : Int) (w : World) (hL : Wd.Lies w) (hn : I64 n) : Calls Tryz.prog 67 #[.int .u8 102, .int .i64 n] w fun e w' => e = .returned (.string (bt (102 :: itoa n))) ∧ Below w.heap.size w w' := by
  have cF := Lib.hid (format_calls hL n hn.1 hn.2)
  have hs := itoa_20 n hn
  rw [← bt_size] at hs
  rw [← bt_cons]
  have hcv := fun W => conv_one W 102
  have henc : Utf8.encode 102 = ⟨#[102]⟩ := by rfl
  change Hid (Calls _ _ _ _ fun e w' => e = .returned (.string (bt (itoa n))) ∧ _) at cF
  generalize bt (itoa n) = x at *
  go_enter Tryz.func67, Tryz.ntmps67
  go_wp2_with ((go_at_call 45; ((with_reducible refine (cF.out).mono ?_); rintro e w' ⟨rfl, b1⟩)))
  all_goals go_ret
  all_goals exact ⟨rfl, by first | exact b1 | exact b1.alloc b1.size _⟩
set_option maxHeartbeats 8000000 in
set_option maxRecDepth 100000 in
theorem raopd_t (n : Int) (w : World) (hL : Wd.Lies w) (hn : I64 n) : Calls Tryz.prog 67 #[.int .u8 116, .int .i64 n] w fun e w' => e = .returned (.string (bt (64 :: itoa n))) ∧ Below w.heap.size w w' := by
  have cF := Lib.hid (format_calls hL n hn.1 hn.2)
  have hs := itoa_20 n hn
  rw [← bt_size] at hs
  rw [← bt_cons]
  have hcv := fun W => conv_one W 116
  have henc : Utf8.encode 116 = ⟨#[116]⟩ := by rfl
  change Hid (Calls _ _ _ _ fun e w' => e = .returned (.string (bt (itoa n))) ∧ _) at cF
  generalize bt (itoa n) = x at *
  go_enter Tryz.func67, Tryz.ntmps67
  go_wp2_with ((go_at_call 45; ((with_reducible refine (cF.out).mono ?_); rintro e w' ⟨rfl, b1⟩)))
  all_goals go_ret
  all_goals exact ⟨rfl, by first | exact b1 | exact b1.alloc b1.size _⟩
set_option maxHeartbeats 8000000 in
set_option maxRecDepth 100000 in
theorem raopd_n (n : Int) (w : World) (hL : Wd.Lies w) (hn : I64 n) : Calls Tryz.prog 67 #[.int .u8 110, .int .i64 n] w fun e w' => e = .returned (.string (bt (itoa n))) ∧ Below w.heap.size w w' := by
  have cF := Lib.hid (format_calls hL n hn.1 hn.2)
  change Hid (Calls _ _ _ _ fun e w' => e = .returned (.string (bt (itoa n))) ∧ _) at cF
  generalize bt (itoa n) = x at *
  go_enter Tryz.func67, Tryz.ntmps67
  go_wp2_with ((go_at_call 45; ((with_reducible refine (cF.out).mono ?_); rintro e w' ⟨rfl, b1⟩)))
  all_goals go_ret
  all_goals exact ⟨rfl, b1⟩
set_option maxHeartbeats 8000000 in
set_option maxRecDepth 100000 in
theorem raopd_o (n : Int) (w : World) (hL : Wd.Lies w) (hn : I64 n) : Calls Tryz.prog 67 #[.int .u8 111, .int .i64 n] w fun e w' => e = .returned (.string (bt (opw 111 n))) ∧ Below w.heap.size w w' := by
  have cF := Lib.hid (format_calls hL n hn.1 hn.2)
  have hs := itoa_20 n hn
  rw [← bt_size] at hs
  change Hid (Calls _ _ _ _ fun e w' => e = .returned (.string (bt (itoa n))) ∧ _) at cF
  by_cases hm : n = -1
  · have hr : opw 111 n = [95] := by rw [hm]; rfl
    rw [hr]
    subst hm
    go_enter Tryz.func67, Tryz.ntmps67
    go_wp2_with ((go_at_call 45; ((with_reducible refine (cF.out).mono ?_); rintro e w' ⟨rfl, b1⟩)))
    all_goals go_ret
    all_goals exact ⟨rfl, b1⟩
  · have hr : opw 111 n = 114 :: itoa n := by
      unfold opw
      rw [if_neg (by decide), if_neg (fun q => hm q.2)]
      rfl
    rw [hr, ← bt_cons]
    have hm' : (n == -1) = false := beq_eq_false_iff_ne.2 hm
    generalize bt (itoa n) = x at *
    go_enter Tryz.func67, Tryz.ntmps67
    go_wp2_with ((go_at_call 45; ((with_reducible refine (cF.out).mono ?_); rintro e w' ⟨rfl, b1⟩)))
    all_goals go_ret
    all_goals exact ⟨rfl, b1⟩
theorem raopd_walk (c : UInt8) (hc : alet c) (n : Int) (w : World) (hL : Wd.Lies w) (hn : I64 n) : Calls Tryz.prog 67 #[.int .u8 (c.toNat : Int), .int .i64 n] w fun e w' => e = .returned (.string (bt (opw c n))) ∧ Below w.heap.size w w' := by
  rcases hc with rfl | rfl | rfl | rfl | rfl | rfl | rfl | rfl | rfl | rfl | rfl | rfl
  · exact raopd_r n w hL hn
  · exact raopd_w n w hL hn
  · exact raopd_p n w hL hn
  · exact raopd_o n w hL hn
  · exact raopd_v n w hL hn
  · exact raopd_a n w hL hn
  · exact raopd_l n w hL hn
  · exact raopd_c n w hL hn
  · exact raopd_s n w hL hn
  · exact raopd_f n w hL hn
  · exact raopd_t n w hL hn
  · exact raopd_n n w hL hn
end Go.Proofs.YtlhhmlfcodmebaaGreatDoor.Pg
