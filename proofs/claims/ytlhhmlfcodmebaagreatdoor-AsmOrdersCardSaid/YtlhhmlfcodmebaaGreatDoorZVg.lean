/- A word's number by its letter, walked. The conditions: the table and the variables as listed. -/
import Derived.Test.YtlhhmlfcodmebaaGreatDoorZa
import Derived.Test.YtlhhmlfcodmebaaGreatDoorZh
import Derived.Laws.BytesArg
namespace Go.Proofs.YtlhhmlfcodmebaaGreatDoor.Pg
set_option linter.unusedVariables false
set_option linter.unusedSimpArgs false
open Go.RowKit Go.WideShapes Go.ChangeShapes
open Go.Proofs.YtlhhmlfcodmebaaGreatDoor.Wd (sml_walk nmb_walk ltr_walk num)
set_option linter.unusedVariables false
set_option linter.unusedSimpArgs false
theorem conv_one (w : World) (n : Int) : (convert 57 9 (.slice (some ⟨w.heap.size, 0, none⟩) 1 1)).run Tryz.prog (w.alloc (.cells #[.int .u8 n] 5)) = .ok (.string ⟨#[UInt8.ofNat n.toNat]⟩) (w.alloc (.cells #[.int .u8 n] 5)) := by
  have h := run_convert_bytes_arg (P := Tryz.prog) (w.alloc (.cells #[.int .u8 n] 5)) 57 5 Tryz.underlying57 Tryz.underlying5 w.heap.size 0 1 1 [n] rfl (fun i hi => by
    obtain rfl : i = 0 := by omega
    rw [World.cell?_alloc_new]
    rfl) 9 Tryz.underlying9
  exact h
set_option maxHeartbeats 8000000 in
set_option maxRecDepth 100000 in
theorem value_r (s : ByteArray) (w : World) (hL : Wd.Lies w) (hs : s.size ≤ 281474976710656) : Calls Tryz.prog 93 #[.int .u8 114, .string s] w fun e w' => e = .returned (.tuple #[.int .i64 (val 114 s.data.toList).1, .int .i64 (val 114 s.data.toList).2]) ∧ Below w.heap.size w w' := by
  have cV := Lib.hid (fun W hW => ltr_walk s 114 false W hW hs)
  rw [show val 114 s.data.toList = ltr s.data.toList 114 false from rfl]
  generalize ltr s.data.toList 114 false = y at *
  obtain ⟨n, e⟩ := y
  have b1 : Below w.heap.size w (w.alloc (.cells #[.int .u8 114] 5)) := (Below.refl _ _).alloc (Nat.le_refl _) _
  have hL1 := hL.below b1
  have hcv := conv_one w 114
  go_enter Tryz.func93, Tryz.ntmps93
  go_wp2_with (go_at_call 115; ((with_reducible refine (cV.out _ hL1).mono ?_); rintro e W2 ⟨rfl, b2⟩))
  go_ret2
  exact ⟨rfl, b1.trans (b2.mono b1.size)⟩
set_option maxHeartbeats 8000000 in
set_option maxRecDepth 100000 in
theorem value_w (s : ByteArray) (w : World) (hL : Wd.Lies w) (hs : s.size ≤ 281474976710656) : Calls Tryz.prog 93 #[.int .u8 119, .string s] w fun e w' => e = .returned (.tuple #[.int .i64 (val 119 s.data.toList).1, .int .i64 (val 119 s.data.toList).2]) ∧ Below w.heap.size w w' := by
  have cV := Lib.hid (fun W hW => ltr_walk s 114 false W hW hs)
  rw [show val 119 s.data.toList = ltr s.data.toList 114 false from rfl]
  generalize ltr s.data.toList 114 false = y at *
  obtain ⟨n, e⟩ := y
  have b1 : Below w.heap.size w (w.alloc (.cells #[.int .u8 119] 5)) := (Below.refl _ _).alloc (Nat.le_refl _) _
  have hL1 := hL.below b1
  have hcv := conv_one w 119
  go_enter Tryz.func93, Tryz.ntmps93
  go_wp2_with (go_at_call 115; ((with_reducible refine (cV.out _ hL1).mono ?_); rintro e W2 ⟨rfl, b2⟩))
  go_ret2
  exact ⟨rfl, b1.trans (b2.mono b1.size)⟩
set_option maxHeartbeats 8000000 in
set_option maxRecDepth 100000 in
theorem value_p (s : ByteArray) (w : World) (hL : Wd.Lies w) (hs : s.size ≤ 281474976710656) : Calls Tryz.prog 93 #[.int .u8 112, .string s] w fun e w' => e = .returned (.tuple #[.int .i64 (val 112 s.data.toList).1, .int .i64 (val 112 s.data.toList).2]) ∧ Below w.heap.size w w' := by
  have cV := Lib.hid (fun W hW => ltr_walk s 114 false W hW hs)
  rw [show val 112 s.data.toList = ltr s.data.toList 114 false from rfl]
  generalize ltr s.data.toList 114 false = y at *
  obtain ⟨n, e⟩ := y
  have b1 : Below w.heap.size w (w.alloc (.cells #[.int .u8 112] 5)) := (Below.refl _ _).alloc (Nat.le_refl _) _
  have hL1 := hL.below b1
  have hcv := conv_one w 112
  go_enter Tryz.func93, Tryz.ntmps93
  go_wp2_with (go_at_call 115; ((with_reducible refine (cV.out _ hL1).mono ?_); rintro e W2 ⟨rfl, b2⟩))
  go_ret2
  exact ⟨rfl, b1.trans (b2.mono b1.size)⟩
set_option maxHeartbeats 8000000 in
set_option maxRecDepth 100000 in
theorem value_o (s : ByteArray) (w : World) (hL : Wd.Lies w) (hs : s.size ≤ 281474976710656) : Calls Tryz.prog 93 #[.int .u8 111, .string s] w fun e w' => e = .returned (.tuple #[.int .i64 (val 111 s.data.toList).1, .int .i64 (val 111 s.data.toList).2]) ∧ Below w.heap.size w w' := by
  have cV := Lib.hid (fun W hW => ltr_walk s 114 true W hW hs)
  rw [show val 111 s.data.toList = ltr s.data.toList 114 true from rfl]
  generalize ltr s.data.toList 114 true = y at *
  obtain ⟨n, e⟩ := y
  have b1 : Below w.heap.size w (w.alloc (.cells #[.int .u8 111] 5)) := (Below.refl _ _).alloc (Nat.le_refl _) _
  have hL1 := hL.below b1
  have hcv := conv_one w 111
  go_enter Tryz.func93, Tryz.ntmps93
  go_wp2_with (go_at_call 115; ((with_reducible refine (cV.out _ hL1).mono ?_); rintro e W2 ⟨rfl, b2⟩))
  go_ret2
  exact ⟨rfl, b1.trans (b2.mono b1.size)⟩
set_option maxHeartbeats 8000000 in
set_option maxRecDepth 100000 in
theorem value_v (s : ByteArray) (w : World) (hL : Wd.Lies w) (hs : s.size ≤ 281474976710656) : Calls Tryz.prog 93 #[.int .u8 118, .string s] w fun e w' => e = .returned (.tuple #[.int .i64 (val 118 s.data.toList).1, .int .i64 (val 118 s.data.toList).2]) ∧ Below w.heap.size w w' := by
  have cV := Lib.hid (fun W hW => ltr_walk s 118 false W hW hs)
  rw [show val 118 s.data.toList = ltr s.data.toList 118 false from rfl]
  generalize ltr s.data.toList 118 false = y at *
  obtain ⟨n, e⟩ := y
  have b1 : Below w.heap.size w (w.alloc (.cells #[.int .u8 118] 5)) := (Below.refl _ _).alloc (Nat.le_refl _) _
  have hL1 := hL.below b1
  have hcv := conv_one w 118
  go_enter Tryz.func93, Tryz.ntmps93
  go_wp2_with (go_at_call 115; ((with_reducible refine (cV.out _ hL1).mono ?_); rintro e W2 ⟨rfl, b2⟩))
  go_ret2
  exact ⟨rfl, b1.trans (b2.mono b1.size)⟩
set_option maxHeartbeats 8000000 in
set_option maxRecDepth 100000 in
theorem value_a (s : ByteArray) (w : World) (hL : Wd.Lies w) (hs : s.size ≤ 281474976710656) : Calls Tryz.prog 93 #[.int .u8 97, .string s] w fun e w' => e = .returned (.tuple #[.int .i64 (val 97 s.data.toList).1, .int .i64 (val 97 s.data.toList).2]) ∧ Below w.heap.size w w' := by
  have cV := Lib.hid (fun W hW => ltr_walk s 118 false W hW hs)
  rw [show val 97 s.data.toList = ltr s.data.toList 118 false from rfl]
  generalize ltr s.data.toList 118 false = y at *
  obtain ⟨n, e⟩ := y
  have b1 : Below w.heap.size w (w.alloc (.cells #[.int .u8 97] 5)) := (Below.refl _ _).alloc (Nat.le_refl _) _
  have hL1 := hL.below b1
  have hcv := conv_one w 97
  go_enter Tryz.func93, Tryz.ntmps93
  go_wp2_with (go_at_call 115; ((with_reducible refine (cV.out _ hL1).mono ?_); rintro e W2 ⟨rfl, b2⟩))
  go_ret2
  exact ⟨rfl, b1.trans (b2.mono b1.size)⟩
set_option maxHeartbeats 8000000 in
set_option maxRecDepth 100000 in
theorem value_l (s : ByteArray) (w : World) (hL : Wd.Lies w) (hs : s.size ≤ 281474976710656) : Calls Tryz.prog 93 #[.int .u8 108, .string s] w fun e w' => e = .returned (.tuple #[.int .i64 (val 108 s.data.toList).1, .int .i64 (val 108 s.data.toList).2]) ∧ Below w.heap.size w w' := by
  have cV := Lib.hid (fun W hW => ltr_walk s 108 false W hW hs)
  rw [show val 108 s.data.toList = ltr s.data.toList 108 false from rfl]
  generalize ltr s.data.toList 108 false = y at *
  obtain ⟨n, e⟩ := y
  have b1 : Below w.heap.size w (w.alloc (.cells #[.int .u8 108] 5)) := (Below.refl _ _).alloc (Nat.le_refl _) _
  have hL1 := hL.below b1
  have hcv := conv_one w 108
  go_enter Tryz.func93, Tryz.ntmps93
  go_wp2_with (go_at_call 115; ((with_reducible refine (cV.out _ hL1).mono ?_); rintro e W2 ⟨rfl, b2⟩))
  go_ret2
  exact ⟨rfl, b1.trans (b2.mono b1.size)⟩
set_option maxHeartbeats 8000000 in
set_option maxRecDepth 100000 in
theorem value_c (s : ByteArray) (w : World) (hL : Wd.Lies w) (hs : s.size ≤ 281474976710656) : Calls Tryz.prog 93 #[.int .u8 99, .string s] w fun e w' => e = .returned (.tuple #[.int .i64 (val 99 s.data.toList).1, .int .i64 (val 99 s.data.toList).2]) ∧ Below w.heap.size w w' := by
  have cV := Lib.hid (fun W hW => ltr_walk s 99 false W hW hs)
  rw [show val 99 s.data.toList = ltr s.data.toList 99 false from rfl]
  generalize ltr s.data.toList 99 false = y at *
  obtain ⟨n, e⟩ := y
  have b1 : Below w.heap.size w (w.alloc (.cells #[.int .u8 99] 5)) := (Below.refl _ _).alloc (Nat.le_refl _) _
  have hL1 := hL.below b1
  have hcv := conv_one w 99
  go_enter Tryz.func93, Tryz.ntmps93
  go_wp2_with (go_at_call 115; ((with_reducible refine (cV.out _ hL1).mono ?_); rintro e W2 ⟨rfl, b2⟩))
  go_ret2
  exact ⟨rfl, b1.trans (b2.mono b1.size)⟩
set_option maxHeartbeats 8000000 in
set_option maxRecDepth 100000 in
theorem value_s (s : ByteArray) (w : World) (hL : Wd.Lies w) (hs : s.size ≤ 281474976710656) : Calls Tryz.prog 93 #[.int .u8 115, .string s] w fun e w' => e = .returned (.tuple #[.int .i64 (val 115 s.data.toList).1, .int .i64 (val 115 s.data.toList).2]) ∧ Below w.heap.size w w' := by
  have cV := Lib.hid (fun W hW => ltr_walk s 115 false W hW hs)
  rw [show val 115 s.data.toList = ltr s.data.toList 115 false from rfl]
  generalize ltr s.data.toList 115 false = y at *
  obtain ⟨n, e⟩ := y
  have b1 : Below w.heap.size w (w.alloc (.cells #[.int .u8 115] 5)) := (Below.refl _ _).alloc (Nat.le_refl _) _
  have hL1 := hL.below b1
  have hcv := conv_one w 115
  go_enter Tryz.func93, Tryz.ntmps93
  go_wp2_with (go_at_call 115; ((with_reducible refine (cV.out _ hL1).mono ?_); rintro e W2 ⟨rfl, b2⟩))
  go_ret2
  exact ⟨rfl, b1.trans (b2.mono b1.size)⟩
set_option maxHeartbeats 8000000 in
set_option maxRecDepth 100000 in
theorem value_f (s : ByteArray) (w : World) (hL : Wd.Lies w) (hs : s.size ≤ 281474976710656) : Calls Tryz.prog 93 #[.int .u8 102, .string s] w fun e w' => e = .returned (.tuple #[.int .i64 (val 102 s.data.toList).1, .int .i64 (val 102 s.data.toList).2]) ∧ Below w.heap.size w w' := by
  have cV := Lib.hid (fun W hW => ltr_walk s 102 false W hW hs)
  rw [show val 102 s.data.toList = ltr s.data.toList 102 false from rfl]
  generalize ltr s.data.toList 102 false = y at *
  obtain ⟨n, e⟩ := y
  have b1 : Below w.heap.size w (w.alloc (.cells #[.int .u8 102] 5)) := (Below.refl _ _).alloc (Nat.le_refl _) _
  have hL1 := hL.below b1
  have hcv := conv_one w 102
  go_enter Tryz.func93, Tryz.ntmps93
  go_wp2_with (go_at_call 115; ((with_reducible refine (cV.out _ hL1).mono ?_); rintro e W2 ⟨rfl, b2⟩))
  go_ret2
  exact ⟨rfl, b1.trans (b2.mono b1.size)⟩
set_option maxHeartbeats 8000000 in
set_option maxRecDepth 100000 in
theorem value_t (s : ByteArray) (w : World) (hL : Wd.Lies w) (hs : s.size ≤ 281474976710656) : Calls Tryz.prog 93 #[.int .u8 116, .string s] w fun e w' => e = .returned (.tuple #[.int .i64 (val 116 s.data.toList).1, .int .i64 (val 116 s.data.toList).2]) ∧ Below w.heap.size w w' := by
  have cV := Lib.hid (fun W hW => ltr_walk s 64 false W hW hs)
  rw [show val 116 s.data.toList = ltr s.data.toList 64 false from rfl]
  generalize ltr s.data.toList 64 false = y at *
  obtain ⟨n, e⟩ := y
  have b1 : Below w.heap.size w (w.alloc (.cells #[.int .u8 116] 5)) := (Below.refl _ _).alloc (Nat.le_refl _) _
  have hL1 := hL.below b1
  have hcv := conv_one w 116
  go_enter Tryz.func93, Tryz.ntmps93
  go_wp2_with (go_at_call 115; ((with_reducible refine (cV.out _ hL1).mono ?_); rintro e W2 ⟨rfl, b2⟩))
  go_ret2
  exact ⟨rfl, b1.trans (b2.mono b1.size)⟩
set_option maxHeartbeats 8000000 in
set_option maxRecDepth 100000 in
theorem value_n (s : ByteArray) (w : World) (hL : Wd.Lies w) (hs : s.size ≤ 281474976710656) : Calls Tryz.prog 93 #[.int .u8 110, .string s] w fun e w' => e = .returned (.tuple #[.int .i64 (val 110 s.data.toList).1, .int .i64 (val 110 s.data.toList).2]) ∧ Below w.heap.size w w' := by
  have cV := Lib.hid (fun W hW => nmb_walk s W hW hs)
  rw [show val 110 s.data.toList = nmb s.data.toList from rfl]
  generalize nmb s.data.toList = y at *
  obtain ⟨n, e⟩ := y
  go_enter Tryz.func93, Tryz.ntmps93
  go_wp2_with (go_at_call 113; ((with_reducible refine (cV.out _ hL).mono ?_); rintro e W2 ⟨rfl, b2⟩))
  go_ret2
  exact ⟨rfl, b2⟩
theorem value_walk (c : UInt8) (hc : c = 114 ∨ c = 119 ∨ c = 112 ∨ c = 111 ∨ c = 118 ∨ c = 97 ∨ c = 108 ∨ c = 99 ∨ c = 115 ∨ c = 102 ∨ c = 116 ∨ c = 110) (s : ByteArray) (w : World) (hL : Wd.Lies w) (hs : s.size ≤ 281474976710656) : Calls Tryz.prog 93 #[.int .u8 (c.toNat : Int), .string s] w fun e w' => e = .returned (.tuple #[.int .i64 (val c s.data.toList).1, .int .i64 (val c s.data.toList).2]) ∧ Below w.heap.size w w' := by
  rcases hc with rfl | rfl | rfl | rfl | rfl | rfl | rfl | rfl | rfl | rfl | rfl | rfl
  · exact value_r s w hL hs
  · exact value_w s w hL hs
  · exact value_p s w hL hs
  · exact value_o s w hL hs
  · exact value_v s w hL hs
  · exact value_a s w hL hs
  · exact value_l s w hL hs
  · exact value_c s w hL hs
  · exact value_s s w hL hs
  · exact value_f s w hL hs
  · exact value_t s w hL hs
  · exact value_n s w hL hs
end Go.Proofs.YtlhhmlfcodmebaaGreatDoor.Pg
