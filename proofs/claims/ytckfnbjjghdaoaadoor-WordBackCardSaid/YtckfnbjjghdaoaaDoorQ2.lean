-- This session's own text, made by its own run of the tools (wip/tools/pr.sh).
import Derived.Test.YtckfnbjjghdaoaaDoorQ0
import Derived.Test.YtckfnbjjghdaoaaDoorQ1
namespace Go.Proofs.YtckfnbjjghdaoaaDoor.Q
open Go.RowKit Go.Proofs.YtckfnbjjghdaoaaDoorW.PrintWords Go.Proofs.YtckfnbjjghdaoaaDoorW.PrintLast Go.Proofs.YtckfnbjjghdaoaaDoorW.PrintMore
attribute [local go_sem] max2_int min2_int max_two min_two max_three min_three max_four min_four   -- for this text's walks alone
set_option linter.unusedVariables false
set_option linter.unusedSimpArgs false

/-! ### word_one: function 43 -/
def word_one.f (k : Nat) (a0 : Int) (a1 : Int) : Option (Int) := if a0 = 3 then (if a1 ≥ 0 then (some a1) else (some (wrap64 (-a1)))) else (if a0 = 1 then (some (wrap64 (-a1))) else (if a0 = 2 then (some (Go.bits .xor .i64 (-1) a1)) else (if a0 = 4 then ((bits_OnesCount64.f (IntKind.u64.wrap (a1))).bind fun t105 => (some t105)) else (if a0 = 5 then ((bits_LeadingZeros64.f k (IntKind.u64.wrap (a1))).bind fun t106 => (some t106)) else (if a0 = 6 then ((bits_TrailingZeros64.f (IntKind.u64.wrap (a1))).bind fun t110 => (some t110)) else (if a0 = 7 then ((word_flip.f k a1).bind fun t107 => (some t107)) else (if a0 = 8 then ((word_yes.f (a1 != 0)).bind fun t108 => (some t108)) else (if a0 = 9 then ((word_yes.f (a1 == 0)).bind fun t109 => (some t109)) else (if a0 = 10 then (some (wrap64 (IntKind.i8.wrap (a1)))) else (if a0 = 11 then (some (wrap64 (IntKind.i16.wrap (a1)))) else (if a0 = 12 then (some (wrap64 (wrap32 (a1)))) else (if a0 = 13 then (some ((a1) % 256)) else (if a0 = 14 then (some (wrap64 (IntKind.u16.wrap (a1)))) else (some ((a1) % 4294967296)))))))))))))))
theorem word_one.mono : ∀ a0 a1 k, LeO (word_one.f k a0 a1) (word_one.f (k + 1) a0 a1) := by
  intro a0 a1 k
  unfold word_one.f
  repeat' first
      | (with_reducible exact bits_LeadingZeros64.mono _ _)
      | (with_reducible exact word_flip.mono _ _)
      | (with_reducible exact LeO.refl _)
      | (with_reducible exact LeO.none _)
      | (with_reducible refine LeO.ite ?_ ?_)
      | (with_reducible refine LeO.bind ?_ (fun _ => ?_))
      | exact bits_LeadingZeros64.mono _ _
      | exact word_flip.mono _ _
      | exact LeO.none _
      | refine LeO.ite ?_ ?_
      | refine LeO.bind ?_ (fun _ => ?_)
set_option maxHeartbeats 8000000 in
set_option maxRecDepth 100000 in
theorem word_one.calls_0 (k : Nat) (a0 : Int) (a1 : Int) (r : Int) (w : World) (h : word_one.f k a0 a1 = some r) (c3 : a0 = 3) (c4 : a1 ≥ 0) :
    Calls Tryd.prog 43 #[.int .i64 a0, .int .i64 a1] w fun e w' => e = .returned (.int .i64 r) ∧ Drawn0 w w' := by
  have H : (if a0 = 3 then (if a1 ≥ 0 then (some a1) else (some (wrap64 (-a1)))) else (if a0 = 1 then (some (wrap64 (-a1))) else (if a0 = 2 then (some (Go.bits .xor .i64 (-1) a1)) else (if a0 = 4 then ((bits_OnesCount64.f (IntKind.u64.wrap (a1))).bind fun t105 => (some t105)) else (if a0 = 5 then ((bits_LeadingZeros64.f k (IntKind.u64.wrap (a1))).bind fun t106 => (some t106)) else (if a0 = 6 then ((bits_TrailingZeros64.f (IntKind.u64.wrap (a1))).bind fun t110 => (some t110)) else (if a0 = 7 then ((word_flip.f k a1).bind fun t107 => (some t107)) else (if a0 = 8 then ((word_yes.f (a1 != 0)).bind fun t108 => (some t108)) else (if a0 = 9 then ((word_yes.f (a1 == 0)).bind fun t109 => (some t109)) else (if a0 = 10 then (some (wrap64 (IntKind.i8.wrap (a1)))) else (if a0 = 11 then (some (wrap64 (IntKind.i16.wrap (a1)))) else (if a0 = 12 then (some (wrap64 (wrap32 (a1)))) else (if a0 = 13 then (some ((a1) % 256)) else (if a0 = 14 then (some (wrap64 (IntKind.u16.wrap (a1)))) else (some ((a1) % 4294967296)))))))))))))))) = some r := h
  clear h
  rw [if_pos c3] at H
  have c3b0 : (a0 == 3) = true := beq_iff_eq.mpr c3
  have c3b1 : (a0 != 3) = false := bne_eq_false_iff_eq.mpr c3
  clear c3
  rw [if_pos c4] at H
  have c4b0 : decide (0 ≤ a1) = true := decide_eq_true c4
  clear c4
  obtain rfl := Option.some.inj H
  go_enter Tryd.func43, Tryd.ntmps43
  go_wp2
  go_ret
  exact ⟨by first | rfl | (simp; done) | (simp [*]; done), by repeat (first | exact Drawn0.refl _ | apply Drawn0.step)⟩
set_option maxHeartbeats 8000000 in
set_option maxRecDepth 100000 in
theorem word_one.calls_1 (k : Nat) (a0 : Int) (a1 : Int) (r : Int) (w : World) (h : word_one.f k a0 a1 = some r) (c3 : a0 = 3) (c4 : ¬ (a1 ≥ 0)) :
    Calls Tryd.prog 43 #[.int .i64 a0, .int .i64 a1] w fun e w' => e = .returned (.int .i64 r) ∧ Drawn0 w w' := by
  have H : (if a0 = 3 then (if a1 ≥ 0 then (some a1) else (some (wrap64 (-a1)))) else (if a0 = 1 then (some (wrap64 (-a1))) else (if a0 = 2 then (some (Go.bits .xor .i64 (-1) a1)) else (if a0 = 4 then ((bits_OnesCount64.f (IntKind.u64.wrap (a1))).bind fun t105 => (some t105)) else (if a0 = 5 then ((bits_LeadingZeros64.f k (IntKind.u64.wrap (a1))).bind fun t106 => (some t106)) else (if a0 = 6 then ((bits_TrailingZeros64.f (IntKind.u64.wrap (a1))).bind fun t110 => (some t110)) else (if a0 = 7 then ((word_flip.f k a1).bind fun t107 => (some t107)) else (if a0 = 8 then ((word_yes.f (a1 != 0)).bind fun t108 => (some t108)) else (if a0 = 9 then ((word_yes.f (a1 == 0)).bind fun t109 => (some t109)) else (if a0 = 10 then (some (wrap64 (IntKind.i8.wrap (a1)))) else (if a0 = 11 then (some (wrap64 (IntKind.i16.wrap (a1)))) else (if a0 = 12 then (some (wrap64 (wrap32 (a1)))) else (if a0 = 13 then (some ((a1) % 256)) else (if a0 = 14 then (some (wrap64 (IntKind.u16.wrap (a1)))) else (some ((a1) % 4294967296)))))))))))))))) = some r := h
  clear h
  rw [if_pos c3] at H
  have c3b0 : (a0 == 3) = true := beq_iff_eq.mpr c3
  have c3b1 : (a0 != 3) = false := bne_eq_false_iff_eq.mpr c3
  clear c3
  rw [if_neg c4] at H
  have c4b0 : decide (0 ≤ a1) = false := decide_eq_false c4
  clear c4
  obtain rfl := Option.some.inj H
  go_enter Tryd.func43, Tryd.ntmps43
  go_wp2
  go_ret
  exact ⟨by first | rfl | (simp; done) | (simp [*]; done), by repeat (first | exact Drawn0.refl _ | apply Drawn0.step)⟩
set_option maxHeartbeats 8000000 in
set_option maxRecDepth 100000 in
theorem word_one.calls_2 (k : Nat) (a0 : Int) (a1 : Int) (r : Int) (w : World) (h : word_one.f k a0 a1 = some r) (c3 : ¬ (a0 = 3)) (c5 : a0 = 1) :
    Calls Tryd.prog 43 #[.int .i64 a0, .int .i64 a1] w fun e w' => e = .returned (.int .i64 r) ∧ Drawn0 w w' := by
  have H : (if a0 = 3 then (if a1 ≥ 0 then (some a1) else (some (wrap64 (-a1)))) else (if a0 = 1 then (some (wrap64 (-a1))) else (if a0 = 2 then (some (Go.bits .xor .i64 (-1) a1)) else (if a0 = 4 then ((bits_OnesCount64.f (IntKind.u64.wrap (a1))).bind fun t105 => (some t105)) else (if a0 = 5 then ((bits_LeadingZeros64.f k (IntKind.u64.wrap (a1))).bind fun t106 => (some t106)) else (if a0 = 6 then ((bits_TrailingZeros64.f (IntKind.u64.wrap (a1))).bind fun t110 => (some t110)) else (if a0 = 7 then ((word_flip.f k a1).bind fun t107 => (some t107)) else (if a0 = 8 then ((word_yes.f (a1 != 0)).bind fun t108 => (some t108)) else (if a0 = 9 then ((word_yes.f (a1 == 0)).bind fun t109 => (some t109)) else (if a0 = 10 then (some (wrap64 (IntKind.i8.wrap (a1)))) else (if a0 = 11 then (some (wrap64 (IntKind.i16.wrap (a1)))) else (if a0 = 12 then (some (wrap64 (wrap32 (a1)))) else (if a0 = 13 then (some ((a1) % 256)) else (if a0 = 14 then (some (wrap64 (IntKind.u16.wrap (a1)))) else (some ((a1) % 4294967296)))))))))))))))) = some r := h
  clear h
  rw [if_neg c3] at H
  have c3b0 : (a0 == 3) = false := beq_eq_false_iff_ne.mpr c3
  have c3b1 : (a0 != 3) = true := bne_iff_ne.mpr c3
  rw [if_pos c5] at H
  have c5b0 : (a0 == 1) = true := beq_iff_eq.mpr c5
  have c5b1 : (a0 != 1) = false := bne_eq_false_iff_eq.mpr c5
  clear c5
  obtain rfl := Option.some.inj H
  go_enter Tryd.func43, Tryd.ntmps43
  go_wp2
  go_ret
  exact ⟨by first | rfl | (simp; done) | (simp [*]; done), by repeat (first | exact Drawn0.refl _ | apply Drawn0.step)⟩
set_option maxHeartbeats 8000000 in
set_option maxRecDepth 100000 in
theorem word_one.calls_3 (k : Nat) (a0 : Int) (a1 : Int) (r : Int) (w : World) (h : word_one.f k a0 a1 = some r) (c3 : ¬ (a0 = 3)) (c5 : ¬ (a0 = 1)) (c6 : a0 = 2) :
    Calls Tryd.prog 43 #[.int .i64 a0, .int .i64 a1] w fun e w' => e = .returned (.int .i64 r) ∧ Drawn0 w w' := by
  have H : (if a0 = 3 then (if a1 ≥ 0 then (some a1) else (some (wrap64 (-a1)))) else (if a0 = 1 then (some (wrap64 (-a1))) else (if a0 = 2 then (some (Go.bits .xor .i64 (-1) a1)) else (if a0 = 4 then ((bits_OnesCount64.f (IntKind.u64.wrap (a1))).bind fun t105 => (some t105)) else (if a0 = 5 then ((bits_LeadingZeros64.f k (IntKind.u64.wrap (a1))).bind fun t106 => (some t106)) else (if a0 = 6 then ((bits_TrailingZeros64.f (IntKind.u64.wrap (a1))).bind fun t110 => (some t110)) else (if a0 = 7 then ((word_flip.f k a1).bind fun t107 => (some t107)) else (if a0 = 8 then ((word_yes.f (a1 != 0)).bind fun t108 => (some t108)) else (if a0 = 9 then ((word_yes.f (a1 == 0)).bind fun t109 => (some t109)) else (if a0 = 10 then (some (wrap64 (IntKind.i8.wrap (a1)))) else (if a0 = 11 then (some (wrap64 (IntKind.i16.wrap (a1)))) else (if a0 = 12 then (some (wrap64 (wrap32 (a1)))) else (if a0 = 13 then (some ((a1) % 256)) else (if a0 = 14 then (some (wrap64 (IntKind.u16.wrap (a1)))) else (some ((a1) % 4294967296)))))))))))))))) = some r := h
  clear h
  rw [if_neg c3] at H
  have c3b0 : (a0 == 3) = false := beq_eq_false_iff_ne.mpr c3
  have c3b1 : (a0 != 3) = true := bne_iff_ne.mpr c3
  rw [if_neg c5] at H
  have c5b0 : (a0 == 1) = false := beq_eq_false_iff_ne.mpr c5
  have c5b1 : (a0 != 1) = true := bne_iff_ne.mpr c5
  rw [if_pos c6] at H
  have c6b0 : (a0 == 2) = true := beq_iff_eq.mpr c6
  have c6b1 : (a0 != 2) = false := bne_eq_false_iff_eq.mpr c6
  clear c6
  obtain rfl := Option.some.inj H
  go_enter Tryd.func43, Tryd.ntmps43
  go_wp2
  go_ret
  exact ⟨by first | rfl | (simp; done) | (simp [*]; done), by repeat (first | exact Drawn0.refl _ | apply Drawn0.step)⟩
set_option maxHeartbeats 8000000 in
set_option maxRecDepth 100000 in
theorem word_one.calls_4 (k : Nat) (a0 : Int) (a1 : Int) (r : Int) (w : World) (h : word_one.f k a0 a1 = some r) (c3 : ¬ (a0 = 3)) (c5 : ¬ (a0 = 1)) (c6 : ¬ (a0 = 2)) (c7 : a0 = 4) :
    Calls Tryd.prog 43 #[.int .i64 a0, .int .i64 a1] w fun e w' => e = .returned (.int .i64 r) ∧ Drawn0 w w' := by
  have H : (if a0 = 3 then (if a1 ≥ 0 then (some a1) else (some (wrap64 (-a1)))) else (if a0 = 1 then (some (wrap64 (-a1))) else (if a0 = 2 then (some (Go.bits .xor .i64 (-1) a1)) else (if a0 = 4 then ((bits_OnesCount64.f (IntKind.u64.wrap (a1))).bind fun t105 => (some t105)) else (if a0 = 5 then ((bits_LeadingZeros64.f k (IntKind.u64.wrap (a1))).bind fun t106 => (some t106)) else (if a0 = 6 then ((bits_TrailingZeros64.f (IntKind.u64.wrap (a1))).bind fun t110 => (some t110)) else (if a0 = 7 then ((word_flip.f k a1).bind fun t107 => (some t107)) else (if a0 = 8 then ((word_yes.f (a1 != 0)).bind fun t108 => (some t108)) else (if a0 = 9 then ((word_yes.f (a1 == 0)).bind fun t109 => (some t109)) else (if a0 = 10 then (some (wrap64 (IntKind.i8.wrap (a1)))) else (if a0 = 11 then (some (wrap64 (IntKind.i16.wrap (a1)))) else (if a0 = 12 then (some (wrap64 (wrap32 (a1)))) else (if a0 = 13 then (some ((a1) % 256)) else (if a0 = 14 then (some (wrap64 (IntKind.u16.wrap (a1)))) else (some ((a1) % 4294967296)))))))))))))))) = some r := h
  clear h
  rw [if_neg c3] at H
  have c3b0 : (a0 == 3) = false := beq_eq_false_iff_ne.mpr c3
  have c3b1 : (a0 != 3) = true := bne_iff_ne.mpr c3
  rw [if_neg c5] at H
  have c5b0 : (a0 == 1) = false := beq_eq_false_iff_ne.mpr c5
  have c5b1 : (a0 != 1) = true := bne_iff_ne.mpr c5
  rw [if_neg c6] at H
  have c6b0 : (a0 == 2) = false := beq_eq_false_iff_ne.mpr c6
  have c6b1 : (a0 != 2) = true := bne_iff_ne.mpr c6
  rw [if_pos c7] at H
  have c7b0 : (a0 == 4) = true := beq_iff_eq.mpr c7
  have c7b1 : (a0 != 4) = false := bne_eq_false_iff_eq.mpr c7
  clear c7
  replace H := Option.bind_eq_some_iff.mp H
  obtain ⟨t105, A80, H⟩ := H
  replace H : (some t105) = some r := H
  have A8 := Aside0.mk A80
  clear A80
  obtain rfl := Option.some.inj H
  go_enter Tryd.func43, Tryd.ntmps43
  go_wp2_with (first | ((with_reducible refine gate_callee (f := 57) rfl ?_); refine goesL_ (some 43) rfl rfl Tryd.func57 (by kernel_rfl) rfl #[.int .u64 (IntKind.u64.wrap (a1))] rfl (by (try simp only [List.map_toArray, List.map_cons, List.map_nil]); first | done | rfl | (simp only [List.length_drop, List.length_take]; rfl)) ?_; (with_reducible refine (bits_OnesCount64.calls (IntKind.u64.wrap (a1)) t105 _ A8.out).mono ?_); rintro e w' ⟨rfl, ⟨nd, rfl⟩⟩; refine ⟨_, rfl, ?_⟩))
  go_ret
  exact ⟨by first | rfl | (simp; done) | (simp [*]; done), by repeat (first | exact Drawn0.refl _ | apply Drawn0.step)⟩
set_option maxHeartbeats 8000000 in
set_option maxRecDepth 100000 in
theorem word_one.calls_5 (k : Nat) (a0 : Int) (a1 : Int) (r : Int) (w : World) (h : word_one.f k a0 a1 = some r) (c3 : ¬ (a0 = 3)) (c5 : ¬ (a0 = 1)) (c6 : ¬ (a0 = 2)) (c7 : ¬ (a0 = 4)) (c9 : a0 = 5) :
    Calls Tryd.prog 43 #[.int .i64 a0, .int .i64 a1] w fun e w' => e = .returned (.int .i64 r) ∧ Drawn0 w w' := by
  have H : (if a0 = 3 then (if a1 ≥ 0 then (some a1) else (some (wrap64 (-a1)))) else (if a0 = 1 then (some (wrap64 (-a1))) else (if a0 = 2 then (some (Go.bits .xor .i64 (-1) a1)) else (if a0 = 4 then ((bits_OnesCount64.f (IntKind.u64.wrap (a1))).bind fun t105 => (some t105)) else (if a0 = 5 then ((bits_LeadingZeros64.f k (IntKind.u64.wrap (a1))).bind fun t106 => (some t106)) else (if a0 = 6 then ((bits_TrailingZeros64.f (IntKind.u64.wrap (a1))).bind fun t110 => (some t110)) else (if a0 = 7 then ((word_flip.f k a1).bind fun t107 => (some t107)) else (if a0 = 8 then ((word_yes.f (a1 != 0)).bind fun t108 => (some t108)) else (if a0 = 9 then ((word_yes.f (a1 == 0)).bind fun t109 => (some t109)) else (if a0 = 10 then (some (wrap64 (IntKind.i8.wrap (a1)))) else (if a0 = 11 then (some (wrap64 (IntKind.i16.wrap (a1)))) else (if a0 = 12 then (some (wrap64 (wrap32 (a1)))) else (if a0 = 13 then (some ((a1) % 256)) else (if a0 = 14 then (some (wrap64 (IntKind.u16.wrap (a1)))) else (some ((a1) % 4294967296)))))))))))))))) = some r := h
  clear h
  rw [if_neg c3] at H
  have c3b0 : (a0 == 3) = false := beq_eq_false_iff_ne.mpr c3
  have c3b1 : (a0 != 3) = true := bne_iff_ne.mpr c3
  rw [if_neg c5] at H
  have c5b0 : (a0 == 1) = false := beq_eq_false_iff_ne.mpr c5
  have c5b1 : (a0 != 1) = true := bne_iff_ne.mpr c5
  rw [if_neg c6] at H
  have c6b0 : (a0 == 2) = false := beq_eq_false_iff_ne.mpr c6
  have c6b1 : (a0 != 2) = true := bne_iff_ne.mpr c6
  rw [if_neg c7] at H
  have c7b0 : (a0 == 4) = false := beq_eq_false_iff_ne.mpr c7
  have c7b1 : (a0 != 4) = true := bne_iff_ne.mpr c7
  rw [if_pos c9] at H
  have c9b0 : (a0 == 5) = true := beq_iff_eq.mpr c9
  have c9b1 : (a0 != 5) = false := bne_eq_false_iff_eq.mpr c9
  clear c9
  replace H := Option.bind_eq_some_iff.mp H
  obtain ⟨t106, A100, H⟩ := H
  replace H : (some t106) = some r := H
  have A10 := Aside0.mk A100
  clear A100
  obtain rfl := Option.some.inj H
  go_enter Tryd.func43, Tryd.ntmps43
  go_wp2_with (first | ((with_reducible refine gate_callee (f := 58) rfl ?_); refine goesL_ (some 46) rfl rfl Tryd.func58 (by kernel_rfl) rfl #[.int .u64 (IntKind.u64.wrap (a1))] rfl (by (try simp only [List.map_toArray, List.map_cons, List.map_nil]); first | done | rfl | (simp only [List.length_drop, List.length_take]; rfl)) ?_; (with_reducible refine (bits_LeadingZeros64.calls k (IntKind.u64.wrap (a1)) t106 _ A10.out).mono ?_); rintro e w' ⟨rfl, ⟨nd, rfl⟩⟩; refine ⟨_, rfl, ?_⟩))
  go_ret
  exact ⟨by first | rfl | (simp; done) | (simp [*]; done), by repeat (first | exact Drawn0.refl _ | apply Drawn0.step)⟩
set_option maxHeartbeats 8000000 in
set_option maxRecDepth 100000 in
theorem word_one.calls_6 (k : Nat) (a0 : Int) (a1 : Int) (r : Int) (w : World) (h : word_one.f k a0 a1 = some r) (c3 : ¬ (a0 = 3)) (c5 : ¬ (a0 = 1)) (c6 : ¬ (a0 = 2)) (c7 : ¬ (a0 = 4)) (c9 : ¬ (a0 = 5)) (c11 : a0 = 6) :
    Calls Tryd.prog 43 #[.int .i64 a0, .int .i64 a1] w fun e w' => e = .returned (.int .i64 r) ∧ Drawn0 w w' := by
  have H : (if a0 = 3 then (if a1 ≥ 0 then (some a1) else (some (wrap64 (-a1)))) else (if a0 = 1 then (some (wrap64 (-a1))) else (if a0 = 2 then (some (Go.bits .xor .i64 (-1) a1)) else (if a0 = 4 then ((bits_OnesCount64.f (IntKind.u64.wrap (a1))).bind fun t105 => (some t105)) else (if a0 = 5 then ((bits_LeadingZeros64.f k (IntKind.u64.wrap (a1))).bind fun t106 => (some t106)) else (if a0 = 6 then ((bits_TrailingZeros64.f (IntKind.u64.wrap (a1))).bind fun t110 => (some t110)) else (if a0 = 7 then ((word_flip.f k a1).bind fun t107 => (some t107)) else (if a0 = 8 then ((word_yes.f (a1 != 0)).bind fun t108 => (some t108)) else (if a0 = 9 then ((word_yes.f (a1 == 0)).bind fun t109 => (some t109)) else (if a0 = 10 then (some (wrap64 (IntKind.i8.wrap (a1)))) else (if a0 = 11 then (some (wrap64 (IntKind.i16.wrap (a1)))) else (if a0 = 12 then (some (wrap64 (wrap32 (a1)))) else (if a0 = 13 then (some ((a1) % 256)) else (if a0 = 14 then (some (wrap64 (IntKind.u16.wrap (a1)))) else (some ((a1) % 4294967296)))))))))))))))) = some r := h
  clear h
  rw [if_neg c3] at H
  have c3b0 : (a0 == 3) = false := beq_eq_false_iff_ne.mpr c3
  have c3b1 : (a0 != 3) = true := bne_iff_ne.mpr c3
  rw [if_neg c5] at H
  have c5b0 : (a0 == 1) = false := beq_eq_false_iff_ne.mpr c5
  have c5b1 : (a0 != 1) = true := bne_iff_ne.mpr c5
  rw [if_neg c6] at H
  have c6b0 : (a0 == 2) = false := beq_eq_false_iff_ne.mpr c6
  have c6b1 : (a0 != 2) = true := bne_iff_ne.mpr c6
  rw [if_neg c7] at H
  have c7b0 : (a0 == 4) = false := beq_eq_false_iff_ne.mpr c7
  have c7b1 : (a0 != 4) = true := bne_iff_ne.mpr c7
  rw [if_neg c9] at H
  have c9b0 : (a0 == 5) = false := beq_eq_false_iff_ne.mpr c9
  have c9b1 : (a0 != 5) = true := bne_iff_ne.mpr c9
  rw [if_pos c11] at H
  have c11b0 : (a0 == 6) = true := beq_iff_eq.mpr c11
  have c11b1 : (a0 != 6) = false := bne_eq_false_iff_eq.mpr c11
  clear c11
  replace H := Option.bind_eq_some_iff.mp H
  obtain ⟨t110, A120, H⟩ := H
  replace H : (some t110) = some r := H
  have A12 := Aside0.mk A120
  clear A120
  obtain rfl := Option.some.inj H
  go_enter Tryd.func43, Tryd.ntmps43
  go_wp2_with (first | ((with_reducible refine gate_callee (f := 59) rfl ?_); refine goesL_ (some 49) rfl rfl Tryd.func59 (by kernel_rfl) rfl #[.int .u64 (IntKind.u64.wrap (a1))] rfl (by (try simp only [List.map_toArray, List.map_cons, List.map_nil]); first | done | rfl | (simp only [List.length_drop, List.length_take]; rfl)) ?_; (with_reducible refine (bits_TrailingZeros64.calls (IntKind.u64.wrap (a1)) t110 _ A12.out).mono ?_); rintro e w' ⟨rfl, ⟨nd, rfl⟩⟩; refine ⟨_, rfl, ?_⟩))
  go_ret
  exact ⟨by first | rfl | (simp; done) | (simp [*]; done), by repeat (first | exact Drawn0.refl _ | apply Drawn0.step)⟩
set_option maxHeartbeats 8000000 in
set_option maxRecDepth 100000 in
theorem word_one.calls_7 (k : Nat) (a0 : Int) (a1 : Int) (r : Int) (w : World) (h : word_one.f k a0 a1 = some r) (c3 : ¬ (a0 = 3)) (c5 : ¬ (a0 = 1)) (c6 : ¬ (a0 = 2)) (c7 : ¬ (a0 = 4)) (c9 : ¬ (a0 = 5)) (c11 : ¬ (a0 = 6)) (c13 : a0 = 7) :
    Calls Tryd.prog 43 #[.int .i64 a0, .int .i64 a1] w fun e w' => e = .returned (.int .i64 r) ∧ Drawn0 w w' := by
  have H : (if a0 = 3 then (if a1 ≥ 0 then (some a1) else (some (wrap64 (-a1)))) else (if a0 = 1 then (some (wrap64 (-a1))) else (if a0 = 2 then (some (Go.bits .xor .i64 (-1) a1)) else (if a0 = 4 then ((bits_OnesCount64.f (IntKind.u64.wrap (a1))).bind fun t105 => (some t105)) else (if a0 = 5 then ((bits_LeadingZeros64.f k (IntKind.u64.wrap (a1))).bind fun t106 => (some t106)) else (if a0 = 6 then ((bits_TrailingZeros64.f (IntKind.u64.wrap (a1))).bind fun t110 => (some t110)) else (if a0 = 7 then ((word_flip.f k a1).bind fun t107 => (some t107)) else (if a0 = 8 then ((word_yes.f (a1 != 0)).bind fun t108 => (some t108)) else (if a0 = 9 then ((word_yes.f (a1 == 0)).bind fun t109 => (some t109)) else (if a0 = 10 then (some (wrap64 (IntKind.i8.wrap (a1)))) else (if a0 = 11 then (some (wrap64 (IntKind.i16.wrap (a1)))) else (if a0 = 12 then (some (wrap64 (wrap32 (a1)))) else (if a0 = 13 then (some ((a1) % 256)) else (if a0 = 14 then (some (wrap64 (IntKind.u16.wrap (a1)))) else (some ((a1) % 4294967296)))))))))))))))) = some r := h
  clear h
  rw [if_neg c3] at H
  have c3b0 : (a0 == 3) = false := beq_eq_false_iff_ne.mpr c3
  have c3b1 : (a0 != 3) = true := bne_iff_ne.mpr c3
  rw [if_neg c5] at H
  have c5b0 : (a0 == 1) = false := beq_eq_false_iff_ne.mpr c5
  have c5b1 : (a0 != 1) = true := bne_iff_ne.mpr c5
  rw [if_neg c6] at H
  have c6b0 : (a0 == 2) = false := beq_eq_false_iff_ne.mpr c6
  have c6b1 : (a0 != 2) = true := bne_iff_ne.mpr c6
  rw [if_neg c7] at H
  have c7b0 : (a0 == 4) = false := beq_eq_false_iff_ne.mpr c7
  have c7b1 : (a0 != 4) = true := bne_iff_ne.mpr c7
  rw [if_neg c9] at H
  have c9b0 : (a0 == 5) = false := beq_eq_false_iff_ne.mpr c9
  have c9b1 : (a0 != 5) = true := bne_iff_ne.mpr c9
  rw [if_neg c11] at H
  have c11b0 : (a0 == 6) = false := beq_eq_false_iff_ne.mpr c11
  have c11b1 : (a0 != 6) = true := bne_iff_ne.mpr c11
  rw [if_pos c13] at H
  have c13b0 : (a0 == 7) = true := beq_iff_eq.mpr c13
  have c13b1 : (a0 != 7) = false := bne_eq_false_iff_eq.mpr c13
  clear c13
  replace H := Option.bind_eq_some_iff.mp H
  obtain ⟨t107, A140, H⟩ := H
  replace H : (some t107) = some r := H
  have A14 := Aside0.mk A140
  clear A140
  obtain rfl := Option.some.inj H
  go_enter Tryd.func43, Tryd.ntmps43
  go_wp2_with (first | ((with_reducible refine gate_callee (f := 60) rfl ?_); refine goesL_ (some 51) rfl rfl Tryd.func60 (by kernel_rfl) rfl #[.int .i64 a1] rfl (by (try simp only [List.map_toArray, List.map_cons, List.map_nil]); first | done | rfl | (simp only [List.length_drop, List.length_take]; rfl)) ?_; (with_reducible refine (word_flip.calls k a1 t107 _ A14.out).mono ?_); rintro e w' ⟨rfl, ⟨nd, rfl⟩⟩; refine ⟨_, rfl, ?_⟩))
  go_ret
  exact ⟨by first | rfl | (simp; done) | (simp [*]; done), by repeat (first | exact Drawn0.refl _ | apply Drawn0.step)⟩
set_option maxHeartbeats 8000000 in
set_option maxRecDepth 100000 in
theorem word_one.calls_8 (k : Nat) (a0 : Int) (a1 : Int) (r : Int) (w : World) (h : word_one.f k a0 a1 = some r) (c3 : ¬ (a0 = 3)) (c5 : ¬ (a0 = 1)) (c6 : ¬ (a0 = 2)) (c7 : ¬ (a0 = 4)) (c9 : ¬ (a0 = 5)) (c11 : ¬ (a0 = 6)) (c13 : ¬ (a0 = 7)) (c15 : a0 = 8) :
    Calls Tryd.prog 43 #[.int .i64 a0, .int .i64 a1] w fun e w' => e = .returned (.int .i64 r) ∧ Drawn0 w w' := by
  have H : (if a0 = 3 then (if a1 ≥ 0 then (some a1) else (some (wrap64 (-a1)))) else (if a0 = 1 then (some (wrap64 (-a1))) else (if a0 = 2 then (some (Go.bits .xor .i64 (-1) a1)) else (if a0 = 4 then ((bits_OnesCount64.f (IntKind.u64.wrap (a1))).bind fun t105 => (some t105)) else (if a0 = 5 then ((bits_LeadingZeros64.f k (IntKind.u64.wrap (a1))).bind fun t106 => (some t106)) else (if a0 = 6 then ((bits_TrailingZeros64.f (IntKind.u64.wrap (a1))).bind fun t110 => (some t110)) else (if a0 = 7 then ((word_flip.f k a1).bind fun t107 => (some t107)) else (if a0 = 8 then ((word_yes.f (a1 != 0)).bind fun t108 => (some t108)) else (if a0 = 9 then ((word_yes.f (a1 == 0)).bind fun t109 => (some t109)) else (if a0 = 10 then (some (wrap64 (IntKind.i8.wrap (a1)))) else (if a0 = 11 then (some (wrap64 (IntKind.i16.wrap (a1)))) else (if a0 = 12 then (some (wrap64 (wrap32 (a1)))) else (if a0 = 13 then (some ((a1) % 256)) else (if a0 = 14 then (some (wrap64 (IntKind.u16.wrap (a1)))) else (some ((a1) % 4294967296)))))))))))))))) = some r := h
  clear h
  rw [if_neg c3] at H
  have c3b0 : (a0 == 3) = false := beq_eq_false_iff_ne.mpr c3
  have c3b1 : (a0 != 3) = true := bne_iff_ne.mpr c3
  rw [if_neg c5] at H
  have c5b0 : (a0 == 1) = false := beq_eq_false_iff_ne.mpr c5
  have c5b1 : (a0 != 1) = true := bne_iff_ne.mpr c5
  rw [if_neg c6] at H
  have c6b0 : (a0 == 2) = false := beq_eq_false_iff_ne.mpr c6
  have c6b1 : (a0 != 2) = true := bne_iff_ne.mpr c6
  rw [if_neg c7] at H
  have c7b0 : (a0 == 4) = false := beq_eq_false_iff_ne.mpr c7
  have c7b1 : (a0 != 4) = true := bne_iff_ne.mpr c7
  rw [if_neg c9] at H
  have c9b0 : (a0 == 5) = false := beq_eq_false_iff_ne.mpr c9
  have c9b1 : (a0 != 5) = true := bne_iff_ne.mpr c9
  rw [if_neg c11] at H
  have c11b0 : (a0 == 6) = false := beq_eq_false_iff_ne.mpr c11
  have c11b1 : (a0 != 6) = true := bne_iff_ne.mpr c11
  rw [if_neg c13] at H
  have c13b0 : (a0 == 7) = false := beq_eq_false_iff_ne.mpr c13
  have c13b1 : (a0 != 7) = true := bne_iff_ne.mpr c13
  rw [if_pos c15] at H
  have c15b0 : (a0 == 8) = true := beq_iff_eq.mpr c15
  have c15b1 : (a0 != 8) = false := bne_eq_false_iff_eq.mpr c15
  clear c15
  replace H := Option.bind_eq_some_iff.mp H
  obtain ⟨t108, A160, H⟩ := H
  replace H : (some t108) = some r := H
  have A16 := Aside0.mk A160
  clear A160
  obtain rfl := Option.some.inj H
  go_enter Tryd.func43, Tryd.ntmps43
  go_wp2_with (first | ((with_reducible refine gate_callee (f := 61) rfl ?_); refine goesL_ (some 54) rfl rfl Tryd.func61 (by kernel_rfl) rfl #[.bool (a1 != 0)] rfl (by (try simp only [List.map_toArray, List.map_cons, List.map_nil]); first | done | rfl | (simp only [List.length_drop, List.length_take]; rfl)) ?_; (with_reducible refine (word_yes.calls (a1 != 0) t108 _ A16.out).mono ?_); rintro e w' ⟨rfl, ⟨nd, rfl⟩⟩; refine ⟨_, rfl, ?_⟩))
  go_ret
  exact ⟨by first | rfl | (simp; done) | (simp [*]; done), by repeat (first | exact Drawn0.refl _ | apply Drawn0.step)⟩
set_option maxHeartbeats 8000000 in
set_option maxRecDepth 100000 in
theorem word_one.calls_9 (k : Nat) (a0 : Int) (a1 : Int) (r : Int) (w : World) (h : word_one.f k a0 a1 = some r) (c3 : ¬ (a0 = 3)) (c5 : ¬ (a0 = 1)) (c6 : ¬ (a0 = 2)) (c7 : ¬ (a0 = 4)) (c9 : ¬ (a0 = 5)) (c11 : ¬ (a0 = 6)) (c13 : ¬ (a0 = 7)) (c15 : ¬ (a0 = 8)) (c17 : a0 = 9) :
    Calls Tryd.prog 43 #[.int .i64 a0, .int .i64 a1] w fun e w' => e = .returned (.int .i64 r) ∧ Drawn0 w w' := by
  have H : (if a0 = 3 then (if a1 ≥ 0 then (some a1) else (some (wrap64 (-a1)))) else (if a0 = 1 then (some (wrap64 (-a1))) else (if a0 = 2 then (some (Go.bits .xor .i64 (-1) a1)) else (if a0 = 4 then ((bits_OnesCount64.f (IntKind.u64.wrap (a1))).bind fun t105 => (some t105)) else (if a0 = 5 then ((bits_LeadingZeros64.f k (IntKind.u64.wrap (a1))).bind fun t106 => (some t106)) else (if a0 = 6 then ((bits_TrailingZeros64.f (IntKind.u64.wrap (a1))).bind fun t110 => (some t110)) else (if a0 = 7 then ((word_flip.f k a1).bind fun t107 => (some t107)) else (if a0 = 8 then ((word_yes.f (a1 != 0)).bind fun t108 => (some t108)) else (if a0 = 9 then ((word_yes.f (a1 == 0)).bind fun t109 => (some t109)) else (if a0 = 10 then (some (wrap64 (IntKind.i8.wrap (a1)))) else (if a0 = 11 then (some (wrap64 (IntKind.i16.wrap (a1)))) else (if a0 = 12 then (some (wrap64 (wrap32 (a1)))) else (if a0 = 13 then (some ((a1) % 256)) else (if a0 = 14 then (some (wrap64 (IntKind.u16.wrap (a1)))) else (some ((a1) % 4294967296)))))))))))))))) = some r := h
  clear h
  rw [if_neg c3] at H
  have c3b0 : (a0 == 3) = false := beq_eq_false_iff_ne.mpr c3
  have c3b1 : (a0 != 3) = true := bne_iff_ne.mpr c3
  rw [if_neg c5] at H
  have c5b0 : (a0 == 1) = false := beq_eq_false_iff_ne.mpr c5
  have c5b1 : (a0 != 1) = true := bne_iff_ne.mpr c5
  rw [if_neg c6] at H
  have c6b0 : (a0 == 2) = false := beq_eq_false_iff_ne.mpr c6
  have c6b1 : (a0 != 2) = true := bne_iff_ne.mpr c6
  rw [if_neg c7] at H
  have c7b0 : (a0 == 4) = false := beq_eq_false_iff_ne.mpr c7
  have c7b1 : (a0 != 4) = true := bne_iff_ne.mpr c7
  rw [if_neg c9] at H
  have c9b0 : (a0 == 5) = false := beq_eq_false_iff_ne.mpr c9
  have c9b1 : (a0 != 5) = true := bne_iff_ne.mpr c9
  rw [if_neg c11] at H
  have c11b0 : (a0 == 6) = false := beq_eq_false_iff_ne.mpr c11
  have c11b1 : (a0 != 6) = true := bne_iff_ne.mpr c11
  rw [if_neg c13] at H
  have c13b0 : (a0 == 7) = false := beq_eq_false_iff_ne.mpr c13
  have c13b1 : (a0 != 7) = true := bne_iff_ne.mpr c13
  rw [if_neg c15] at H
  have c15b0 : (a0 == 8) = false := beq_eq_false_iff_ne.mpr c15
  have c15b1 : (a0 != 8) = true := bne_iff_ne.mpr c15
  rw [if_pos c17] at H
  have c17b0 : (a0 == 9) = true := beq_iff_eq.mpr c17
  have c17b1 : (a0 != 9) = false := bne_eq_false_iff_eq.mpr c17
  clear c17
  replace H := Option.bind_eq_some_iff.mp H
  obtain ⟨t109, A180, H⟩ := H
  replace H : (some t109) = some r := H
  have A18 := Aside0.mk A180
  clear A180
  obtain rfl := Option.some.inj H
  go_enter Tryd.func43, Tryd.ntmps43
  go_wp2_with (first | ((with_reducible refine gate_callee (f := 61) rfl ?_); refine goesL_ (some 57) rfl rfl Tryd.func61 (by kernel_rfl) rfl #[.bool (a1 == 0)] rfl (by (try simp only [List.map_toArray, List.map_cons, List.map_nil]); first | done | rfl | (simp only [List.length_drop, List.length_take]; rfl)) ?_; (with_reducible refine (word_yes.calls (a1 == 0) t109 _ A18.out).mono ?_); rintro e w' ⟨rfl, ⟨nd, rfl⟩⟩; refine ⟨_, rfl, ?_⟩))
  go_ret
  exact ⟨by first | rfl | (simp; done) | (simp [*]; done), by repeat (first | exact Drawn0.refl _ | apply Drawn0.step)⟩
set_option maxHeartbeats 8000000 in
set_option maxRecDepth 100000 in
theorem word_one.calls_10 (k : Nat) (a0 : Int) (a1 : Int) (r : Int) (w : World) (h : word_one.f k a0 a1 = some r) (c3 : ¬ (a0 = 3)) (c5 : ¬ (a0 = 1)) (c6 : ¬ (a0 = 2)) (c7 : ¬ (a0 = 4)) (c9 : ¬ (a0 = 5)) (c11 : ¬ (a0 = 6)) (c13 : ¬ (a0 = 7)) (c15 : ¬ (a0 = 8)) (c17 : ¬ (a0 = 9)) (c19 : a0 = 10) :
    Calls Tryd.prog 43 #[.int .i64 a0, .int .i64 a1] w fun e w' => e = .returned (.int .i64 r) ∧ Drawn0 w w' := by
  have H : (if a0 = 3 then (if a1 ≥ 0 then (some a1) else (some (wrap64 (-a1)))) else (if a0 = 1 then (some (wrap64 (-a1))) else (if a0 = 2 then (some (Go.bits .xor .i64 (-1) a1)) else (if a0 = 4 then ((bits_OnesCount64.f (IntKind.u64.wrap (a1))).bind fun t105 => (some t105)) else (if a0 = 5 then ((bits_LeadingZeros64.f k (IntKind.u64.wrap (a1))).bind fun t106 => (some t106)) else (if a0 = 6 then ((bits_TrailingZeros64.f (IntKind.u64.wrap (a1))).bind fun t110 => (some t110)) else (if a0 = 7 then ((word_flip.f k a1).bind fun t107 => (some t107)) else (if a0 = 8 then ((word_yes.f (a1 != 0)).bind fun t108 => (some t108)) else (if a0 = 9 then ((word_yes.f (a1 == 0)).bind fun t109 => (some t109)) else (if a0 = 10 then (some (wrap64 (IntKind.i8.wrap (a1)))) else (if a0 = 11 then (some (wrap64 (IntKind.i16.wrap (a1)))) else (if a0 = 12 then (some (wrap64 (wrap32 (a1)))) else (if a0 = 13 then (some ((a1) % 256)) else (if a0 = 14 then (some (wrap64 (IntKind.u16.wrap (a1)))) else (some ((a1) % 4294967296)))))))))))))))) = some r := h
  clear h
  rw [if_neg c3] at H
  have c3b0 : (a0 == 3) = false := beq_eq_false_iff_ne.mpr c3
  have c3b1 : (a0 != 3) = true := bne_iff_ne.mpr c3
  rw [if_neg c5] at H
  have c5b0 : (a0 == 1) = false := beq_eq_false_iff_ne.mpr c5
  have c5b1 : (a0 != 1) = true := bne_iff_ne.mpr c5
  rw [if_neg c6] at H
  have c6b0 : (a0 == 2) = false := beq_eq_false_iff_ne.mpr c6
  have c6b1 : (a0 != 2) = true := bne_iff_ne.mpr c6
  rw [if_neg c7] at H
  have c7b0 : (a0 == 4) = false := beq_eq_false_iff_ne.mpr c7
  have c7b1 : (a0 != 4) = true := bne_iff_ne.mpr c7
  rw [if_neg c9] at H
  have c9b0 : (a0 == 5) = false := beq_eq_false_iff_ne.mpr c9
  have c9b1 : (a0 != 5) = true := bne_iff_ne.mpr c9
  rw [if_neg c11] at H
  have c11b0 : (a0 == 6) = false := beq_eq_false_iff_ne.mpr c11
  have c11b1 : (a0 != 6) = true := bne_iff_ne.mpr c11
  rw [if_neg c13] at H
  have c13b0 : (a0 == 7) = false := beq_eq_false_iff_ne.mpr c13
  have c13b1 : (a0 != 7) = true := bne_iff_ne.mpr c13
  rw [if_neg c15] at H
  have c15b0 : (a0 == 8) = false := beq_eq_false_iff_ne.mpr c15
  have c15b1 : (a0 != 8) = true := bne_iff_ne.mpr c15
  rw [if_neg c17] at H
  have c17b0 : (a0 == 9) = false := beq_eq_false_iff_ne.mpr c17
  have c17b1 : (a0 != 9) = true := bne_iff_ne.mpr c17
  rw [if_pos c19] at H
  have c19b0 : (a0 == 10) = true := beq_iff_eq.mpr c19
  have c19b1 : (a0 != 10) = false := bne_eq_false_iff_eq.mpr c19
  clear c19
  obtain rfl := Option.some.inj H
  go_enter Tryd.func43, Tryd.ntmps43
  go_wp2
  go_ret
  exact ⟨by first | rfl | (simp; done) | (simp [*]; done), by repeat (first | exact Drawn0.refl _ | apply Drawn0.step)⟩
set_option maxHeartbeats 8000000 in
set_option maxRecDepth 100000 in
theorem word_one.calls_11 (k : Nat) (a0 : Int) (a1 : Int) (r : Int) (w : World) (h : word_one.f k a0 a1 = some r) (c3 : ¬ (a0 = 3)) (c5 : ¬ (a0 = 1)) (c6 : ¬ (a0 = 2)) (c7 : ¬ (a0 = 4)) (c9 : ¬ (a0 = 5)) (c11 : ¬ (a0 = 6)) (c13 : ¬ (a0 = 7)) (c15 : ¬ (a0 = 8)) (c17 : ¬ (a0 = 9)) (c19 : ¬ (a0 = 10)) (c20 : a0 = 11) :
    Calls Tryd.prog 43 #[.int .i64 a0, .int .i64 a1] w fun e w' => e = .returned (.int .i64 r) ∧ Drawn0 w w' := by
  have H : (if a0 = 3 then (if a1 ≥ 0 then (some a1) else (some (wrap64 (-a1)))) else (if a0 = 1 then (some (wrap64 (-a1))) else (if a0 = 2 then (some (Go.bits .xor .i64 (-1) a1)) else (if a0 = 4 then ((bits_OnesCount64.f (IntKind.u64.wrap (a1))).bind fun t105 => (some t105)) else (if a0 = 5 then ((bits_LeadingZeros64.f k (IntKind.u64.wrap (a1))).bind fun t106 => (some t106)) else (if a0 = 6 then ((bits_TrailingZeros64.f (IntKind.u64.wrap (a1))).bind fun t110 => (some t110)) else (if a0 = 7 then ((word_flip.f k a1).bind fun t107 => (some t107)) else (if a0 = 8 then ((word_yes.f (a1 != 0)).bind fun t108 => (some t108)) else (if a0 = 9 then ((word_yes.f (a1 == 0)).bind fun t109 => (some t109)) else (if a0 = 10 then (some (wrap64 (IntKind.i8.wrap (a1)))) else (if a0 = 11 then (some (wrap64 (IntKind.i16.wrap (a1)))) else (if a0 = 12 then (some (wrap64 (wrap32 (a1)))) else (if a0 = 13 then (some ((a1) % 256)) else (if a0 = 14 then (some (wrap64 (IntKind.u16.wrap (a1)))) else (some ((a1) % 4294967296)))))))))))))))) = some r := h
  clear h
  rw [if_neg c3] at H
  have c3b0 : (a0 == 3) = false := beq_eq_false_iff_ne.mpr c3
  have c3b1 : (a0 != 3) = true := bne_iff_ne.mpr c3
  rw [if_neg c5] at H
  have c5b0 : (a0 == 1) = false := beq_eq_false_iff_ne.mpr c5
  have c5b1 : (a0 != 1) = true := bne_iff_ne.mpr c5
  rw [if_neg c6] at H
  have c6b0 : (a0 == 2) = false := beq_eq_false_iff_ne.mpr c6
  have c6b1 : (a0 != 2) = true := bne_iff_ne.mpr c6
  rw [if_neg c7] at H
  have c7b0 : (a0 == 4) = false := beq_eq_false_iff_ne.mpr c7
  have c7b1 : (a0 != 4) = true := bne_iff_ne.mpr c7
  rw [if_neg c9] at H
  have c9b0 : (a0 == 5) = false := beq_eq_false_iff_ne.mpr c9
  have c9b1 : (a0 != 5) = true := bne_iff_ne.mpr c9
  rw [if_neg c11] at H
  have c11b0 : (a0 == 6) = false := beq_eq_false_iff_ne.mpr c11
  have c11b1 : (a0 != 6) = true := bne_iff_ne.mpr c11
  rw [if_neg c13] at H
  have c13b0 : (a0 == 7) = false := beq_eq_false_iff_ne.mpr c13
  have c13b1 : (a0 != 7) = true := bne_iff_ne.mpr c13
  rw [if_neg c15] at H
  have c15b0 : (a0 == 8) = false := beq_eq_false_iff_ne.mpr c15
  have c15b1 : (a0 != 8) = true := bne_iff_ne.mpr c15
  rw [if_neg c17] at H
  have c17b0 : (a0 == 9) = false := beq_eq_false_iff_ne.mpr c17
  have c17b1 : (a0 != 9) = true := bne_iff_ne.mpr c17
  rw [if_neg c19] at H
  have c19b0 : (a0 == 10) = false := beq_eq_false_iff_ne.mpr c19
  have c19b1 : (a0 != 10) = true := bne_iff_ne.mpr c19
  rw [if_pos c20] at H
  have c20b0 : (a0 == 11) = true := beq_iff_eq.mpr c20
  have c20b1 : (a0 != 11) = false := bne_eq_false_iff_eq.mpr c20
  clear c20
  obtain rfl := Option.some.inj H
  go_enter Tryd.func43, Tryd.ntmps43
  go_wp2
  go_ret
  exact ⟨by first | rfl | (simp; done) | (simp [*]; done), by repeat (first | exact Drawn0.refl _ | apply Drawn0.step)⟩
set_option maxHeartbeats 8000000 in
set_option maxRecDepth 100000 in
theorem word_one.calls_12 (k : Nat) (a0 : Int) (a1 : Int) (r : Int) (w : World) (h : word_one.f k a0 a1 = some r) (c3 : ¬ (a0 = 3)) (c5 : ¬ (a0 = 1)) (c6 : ¬ (a0 = 2)) (c7 : ¬ (a0 = 4)) (c9 : ¬ (a0 = 5)) (c11 : ¬ (a0 = 6)) (c13 : ¬ (a0 = 7)) (c15 : ¬ (a0 = 8)) (c17 : ¬ (a0 = 9)) (c19 : ¬ (a0 = 10)) (c20 : ¬ (a0 = 11)) (c21 : a0 = 12) :
    Calls Tryd.prog 43 #[.int .i64 a0, .int .i64 a1] w fun e w' => e = .returned (.int .i64 r) ∧ Drawn0 w w' := by
  have H : (if a0 = 3 then (if a1 ≥ 0 then (some a1) else (some (wrap64 (-a1)))) else (if a0 = 1 then (some (wrap64 (-a1))) else (if a0 = 2 then (some (Go.bits .xor .i64 (-1) a1)) else (if a0 = 4 then ((bits_OnesCount64.f (IntKind.u64.wrap (a1))).bind fun t105 => (some t105)) else (if a0 = 5 then ((bits_LeadingZeros64.f k (IntKind.u64.wrap (a1))).bind fun t106 => (some t106)) else (if a0 = 6 then ((bits_TrailingZeros64.f (IntKind.u64.wrap (a1))).bind fun t110 => (some t110)) else (if a0 = 7 then ((word_flip.f k a1).bind fun t107 => (some t107)) else (if a0 = 8 then ((word_yes.f (a1 != 0)).bind fun t108 => (some t108)) else (if a0 = 9 then ((word_yes.f (a1 == 0)).bind fun t109 => (some t109)) else (if a0 = 10 then (some (wrap64 (IntKind.i8.wrap (a1)))) else (if a0 = 11 then (some (wrap64 (IntKind.i16.wrap (a1)))) else (if a0 = 12 then (some (wrap64 (wrap32 (a1)))) else (if a0 = 13 then (some ((a1) % 256)) else (if a0 = 14 then (some (wrap64 (IntKind.u16.wrap (a1)))) else (some ((a1) % 4294967296)))))))))))))))) = some r := h
  clear h
  rw [if_neg c3] at H
  have c3b0 : (a0 == 3) = false := beq_eq_false_iff_ne.mpr c3
  have c3b1 : (a0 != 3) = true := bne_iff_ne.mpr c3
  rw [if_neg c5] at H
  have c5b0 : (a0 == 1) = false := beq_eq_false_iff_ne.mpr c5
  have c5b1 : (a0 != 1) = true := bne_iff_ne.mpr c5
  rw [if_neg c6] at H
  have c6b0 : (a0 == 2) = false := beq_eq_false_iff_ne.mpr c6
  have c6b1 : (a0 != 2) = true := bne_iff_ne.mpr c6
  rw [if_neg c7] at H
  have c7b0 : (a0 == 4) = false := beq_eq_false_iff_ne.mpr c7
  have c7b1 : (a0 != 4) = true := bne_iff_ne.mpr c7
  rw [if_neg c9] at H
  have c9b0 : (a0 == 5) = false := beq_eq_false_iff_ne.mpr c9
  have c9b1 : (a0 != 5) = true := bne_iff_ne.mpr c9
  rw [if_neg c11] at H
  have c11b0 : (a0 == 6) = false := beq_eq_false_iff_ne.mpr c11
  have c11b1 : (a0 != 6) = true := bne_iff_ne.mpr c11
  rw [if_neg c13] at H
  have c13b0 : (a0 == 7) = false := beq_eq_false_iff_ne.mpr c13
  have c13b1 : (a0 != 7) = true := bne_iff_ne.mpr c13
  rw [if_neg c15] at H
  have c15b0 : (a0 == 8) = false := beq_eq_false_iff_ne.mpr c15
  have c15b1 : (a0 != 8) = true := bne_iff_ne.mpr c15
  rw [if_neg c17] at H
  have c17b0 : (a0 == 9) = false := beq_eq_false_iff_ne.mpr c17
  have c17b1 : (a0 != 9) = true := bne_iff_ne.mpr c17
  rw [if_neg c19] at H
  have c19b0 : (a0 == 10) = false := beq_eq_false_iff_ne.mpr c19
  have c19b1 : (a0 != 10) = true := bne_iff_ne.mpr c19
  rw [if_neg c20] at H
  have c20b0 : (a0 == 11) = false := beq_eq_false_iff_ne.mpr c20
  have c20b1 : (a0 != 11) = true := bne_iff_ne.mpr c20
  rw [if_pos c21] at H
  have c21b0 : (a0 == 12) = true := beq_iff_eq.mpr c21
  have c21b1 : (a0 != 12) = false := bne_eq_false_iff_eq.mpr c21
  clear c21
  obtain rfl := Option.some.inj H
  go_enter Tryd.func43, Tryd.ntmps43
  go_wp2
  go_ret
  exact ⟨by first | rfl | (simp; done) | (simp [*]; done), by repeat (first | exact Drawn0.refl _ | apply Drawn0.step)⟩
set_option maxHeartbeats 8000000 in
set_option maxRecDepth 100000 in
theorem word_one.calls_13 (k : Nat) (a0 : Int) (a1 : Int) (r : Int) (w : World) (h : word_one.f k a0 a1 = some r) (c3 : ¬ (a0 = 3)) (c5 : ¬ (a0 = 1)) (c6 : ¬ (a0 = 2)) (c7 : ¬ (a0 = 4)) (c9 : ¬ (a0 = 5)) (c11 : ¬ (a0 = 6)) (c13 : ¬ (a0 = 7)) (c15 : ¬ (a0 = 8)) (c17 : ¬ (a0 = 9)) (c19 : ¬ (a0 = 10)) (c20 : ¬ (a0 = 11)) (c21 : ¬ (a0 = 12)) (c22 : a0 = 13) :
    Calls Tryd.prog 43 #[.int .i64 a0, .int .i64 a1] w fun e w' => e = .returned (.int .i64 r) ∧ Drawn0 w w' := by
  have H : (if a0 = 3 then (if a1 ≥ 0 then (some a1) else (some (wrap64 (-a1)))) else (if a0 = 1 then (some (wrap64 (-a1))) else (if a0 = 2 then (some (Go.bits .xor .i64 (-1) a1)) else (if a0 = 4 then ((bits_OnesCount64.f (IntKind.u64.wrap (a1))).bind fun t105 => (some t105)) else (if a0 = 5 then ((bits_LeadingZeros64.f k (IntKind.u64.wrap (a1))).bind fun t106 => (some t106)) else (if a0 = 6 then ((bits_TrailingZeros64.f (IntKind.u64.wrap (a1))).bind fun t110 => (some t110)) else (if a0 = 7 then ((word_flip.f k a1).bind fun t107 => (some t107)) else (if a0 = 8 then ((word_yes.f (a1 != 0)).bind fun t108 => (some t108)) else (if a0 = 9 then ((word_yes.f (a1 == 0)).bind fun t109 => (some t109)) else (if a0 = 10 then (some (wrap64 (IntKind.i8.wrap (a1)))) else (if a0 = 11 then (some (wrap64 (IntKind.i16.wrap (a1)))) else (if a0 = 12 then (some (wrap64 (wrap32 (a1)))) else (if a0 = 13 then (some ((a1) % 256)) else (if a0 = 14 then (some (wrap64 (IntKind.u16.wrap (a1)))) else (some ((a1) % 4294967296)))))))))))))))) = some r := h
  clear h
  rw [if_neg c3] at H
  have c3b0 : (a0 == 3) = false := beq_eq_false_iff_ne.mpr c3
  have c3b1 : (a0 != 3) = true := bne_iff_ne.mpr c3
  rw [if_neg c5] at H
  have c5b0 : (a0 == 1) = false := beq_eq_false_iff_ne.mpr c5
  have c5b1 : (a0 != 1) = true := bne_iff_ne.mpr c5
  rw [if_neg c6] at H
  have c6b0 : (a0 == 2) = false := beq_eq_false_iff_ne.mpr c6
  have c6b1 : (a0 != 2) = true := bne_iff_ne.mpr c6
  rw [if_neg c7] at H
  have c7b0 : (a0 == 4) = false := beq_eq_false_iff_ne.mpr c7
  have c7b1 : (a0 != 4) = true := bne_iff_ne.mpr c7
  rw [if_neg c9] at H
  have c9b0 : (a0 == 5) = false := beq_eq_false_iff_ne.mpr c9
  have c9b1 : (a0 != 5) = true := bne_iff_ne.mpr c9
  rw [if_neg c11] at H
  have c11b0 : (a0 == 6) = false := beq_eq_false_iff_ne.mpr c11
  have c11b1 : (a0 != 6) = true := bne_iff_ne.mpr c11
  rw [if_neg c13] at H
  have c13b0 : (a0 == 7) = false := beq_eq_false_iff_ne.mpr c13
  have c13b1 : (a0 != 7) = true := bne_iff_ne.mpr c13
  rw [if_neg c15] at H
  have c15b0 : (a0 == 8) = false := beq_eq_false_iff_ne.mpr c15
  have c15b1 : (a0 != 8) = true := bne_iff_ne.mpr c15
  rw [if_neg c17] at H
  have c17b0 : (a0 == 9) = false := beq_eq_false_iff_ne.mpr c17
  have c17b1 : (a0 != 9) = true := bne_iff_ne.mpr c17
  rw [if_neg c19] at H
  have c19b0 : (a0 == 10) = false := beq_eq_false_iff_ne.mpr c19
  have c19b1 : (a0 != 10) = true := bne_iff_ne.mpr c19
  rw [if_neg c20] at H
  have c20b0 : (a0 == 11) = false := beq_eq_false_iff_ne.mpr c20
  have c20b1 : (a0 != 11) = true := bne_iff_ne.mpr c20
  rw [if_neg c21] at H
  have c21b0 : (a0 == 12) = false := beq_eq_false_iff_ne.mpr c21
  have c21b1 : (a0 != 12) = true := bne_iff_ne.mpr c21
  rw [if_pos c22] at H
  have c22b0 : (a0 == 13) = true := beq_iff_eq.mpr c22
  have c22b1 : (a0 != 13) = false := bne_eq_false_iff_eq.mpr c22
  clear c22
  obtain rfl := Option.some.inj H
  go_enter Tryd.func43, Tryd.ntmps43
  go_wp2
  go_ret
  exact ⟨by first | rfl | (simp; done) | (simp [*]; done), by repeat (first | exact Drawn0.refl _ | apply Drawn0.step)⟩
set_option maxHeartbeats 8000000 in
set_option maxRecDepth 100000 in
theorem word_one.calls_14 (k : Nat) (a0 : Int) (a1 : Int) (r : Int) (w : World) (h : word_one.f k a0 a1 = some r) (c3 : ¬ (a0 = 3)) (c5 : ¬ (a0 = 1)) (c6 : ¬ (a0 = 2)) (c7 : ¬ (a0 = 4)) (c9 : ¬ (a0 = 5)) (c11 : ¬ (a0 = 6)) (c13 : ¬ (a0 = 7)) (c15 : ¬ (a0 = 8)) (c17 : ¬ (a0 = 9)) (c19 : ¬ (a0 = 10)) (c20 : ¬ (a0 = 11)) (c21 : ¬ (a0 = 12)) (c22 : ¬ (a0 = 13)) (c23 : a0 = 14) :
    Calls Tryd.prog 43 #[.int .i64 a0, .int .i64 a1] w fun e w' => e = .returned (.int .i64 r) ∧ Drawn0 w w' := by
  have H : (if a0 = 3 then (if a1 ≥ 0 then (some a1) else (some (wrap64 (-a1)))) else (if a0 = 1 then (some (wrap64 (-a1))) else (if a0 = 2 then (some (Go.bits .xor .i64 (-1) a1)) else (if a0 = 4 then ((bits_OnesCount64.f (IntKind.u64.wrap (a1))).bind fun t105 => (some t105)) else (if a0 = 5 then ((bits_LeadingZeros64.f k (IntKind.u64.wrap (a1))).bind fun t106 => (some t106)) else (if a0 = 6 then ((bits_TrailingZeros64.f (IntKind.u64.wrap (a1))).bind fun t110 => (some t110)) else (if a0 = 7 then ((word_flip.f k a1).bind fun t107 => (some t107)) else (if a0 = 8 then ((word_yes.f (a1 != 0)).bind fun t108 => (some t108)) else (if a0 = 9 then ((word_yes.f (a1 == 0)).bind fun t109 => (some t109)) else (if a0 = 10 then (some (wrap64 (IntKind.i8.wrap (a1)))) else (if a0 = 11 then (some (wrap64 (IntKind.i16.wrap (a1)))) else (if a0 = 12 then (some (wrap64 (wrap32 (a1)))) else (if a0 = 13 then (some ((a1) % 256)) else (if a0 = 14 then (some (wrap64 (IntKind.u16.wrap (a1)))) else (some ((a1) % 4294967296)))))))))))))))) = some r := h
  clear h
  rw [if_neg c3] at H
  have c3b0 : (a0 == 3) = false := beq_eq_false_iff_ne.mpr c3
  have c3b1 : (a0 != 3) = true := bne_iff_ne.mpr c3
  rw [if_neg c5] at H
  have c5b0 : (a0 == 1) = false := beq_eq_false_iff_ne.mpr c5
  have c5b1 : (a0 != 1) = true := bne_iff_ne.mpr c5
  rw [if_neg c6] at H
  have c6b0 : (a0 == 2) = false := beq_eq_false_iff_ne.mpr c6
  have c6b1 : (a0 != 2) = true := bne_iff_ne.mpr c6
  rw [if_neg c7] at H
  have c7b0 : (a0 == 4) = false := beq_eq_false_iff_ne.mpr c7
  have c7b1 : (a0 != 4) = true := bne_iff_ne.mpr c7
  rw [if_neg c9] at H
  have c9b0 : (a0 == 5) = false := beq_eq_false_iff_ne.mpr c9
  have c9b1 : (a0 != 5) = true := bne_iff_ne.mpr c9
  rw [if_neg c11] at H
  have c11b0 : (a0 == 6) = false := beq_eq_false_iff_ne.mpr c11
  have c11b1 : (a0 != 6) = true := bne_iff_ne.mpr c11
  rw [if_neg c13] at H
  have c13b0 : (a0 == 7) = false := beq_eq_false_iff_ne.mpr c13
  have c13b1 : (a0 != 7) = true := bne_iff_ne.mpr c13
  rw [if_neg c15] at H
  have c15b0 : (a0 == 8) = false := beq_eq_false_iff_ne.mpr c15
  have c15b1 : (a0 != 8) = true := bne_iff_ne.mpr c15
  rw [if_neg c17] at H
  have c17b0 : (a0 == 9) = false := beq_eq_false_iff_ne.mpr c17
  have c17b1 : (a0 != 9) = true := bne_iff_ne.mpr c17
  rw [if_neg c19] at H
  have c19b0 : (a0 == 10) = false := beq_eq_false_iff_ne.mpr c19
  have c19b1 : (a0 != 10) = true := bne_iff_ne.mpr c19
  rw [if_neg c20] at H
  have c20b0 : (a0 == 11) = false := beq_eq_false_iff_ne.mpr c20
  have c20b1 : (a0 != 11) = true := bne_iff_ne.mpr c20
  rw [if_neg c21] at H
  have c21b0 : (a0 == 12) = false := beq_eq_false_iff_ne.mpr c21
  have c21b1 : (a0 != 12) = true := bne_iff_ne.mpr c21
  rw [if_neg c22] at H
  have c22b0 : (a0 == 13) = false := beq_eq_false_iff_ne.mpr c22
  have c22b1 : (a0 != 13) = true := bne_iff_ne.mpr c22
  rw [if_pos c23] at H
  have c23b0 : (a0 == 14) = true := beq_iff_eq.mpr c23
  have c23b1 : (a0 != 14) = false := bne_eq_false_iff_eq.mpr c23
  clear c23
  obtain rfl := Option.some.inj H
  go_enter Tryd.func43, Tryd.ntmps43
  go_wp2
  go_ret
  exact ⟨by first | rfl | (simp; done) | (simp [*]; done), by repeat (first | exact Drawn0.refl _ | apply Drawn0.step)⟩
set_option maxHeartbeats 8000000 in
set_option maxRecDepth 100000 in
theorem word_one.calls_15 (k : Nat) (a0 : Int) (a1 : Int) (r : Int) (w : World) (h : word_one.f k a0 a1 = some r) (c3 : ¬ (a0 = 3)) (c5 : ¬ (a0 = 1)) (c6 : ¬ (a0 = 2)) (c7 : ¬ (a0 = 4)) (c9 : ¬ (a0 = 5)) (c11 : ¬ (a0 = 6)) (c13 : ¬ (a0 = 7)) (c15 : ¬ (a0 = 8)) (c17 : ¬ (a0 = 9)) (c19 : ¬ (a0 = 10)) (c20 : ¬ (a0 = 11)) (c21 : ¬ (a0 = 12)) (c22 : ¬ (a0 = 13)) (c23 : ¬ (a0 = 14)) :
    Calls Tryd.prog 43 #[.int .i64 a0, .int .i64 a1] w fun e w' => e = .returned (.int .i64 r) ∧ Drawn0 w w' := by
  have H : (if a0 = 3 then (if a1 ≥ 0 then (some a1) else (some (wrap64 (-a1)))) else (if a0 = 1 then (some (wrap64 (-a1))) else (if a0 = 2 then (some (Go.bits .xor .i64 (-1) a1)) else (if a0 = 4 then ((bits_OnesCount64.f (IntKind.u64.wrap (a1))).bind fun t105 => (some t105)) else (if a0 = 5 then ((bits_LeadingZeros64.f k (IntKind.u64.wrap (a1))).bind fun t106 => (some t106)) else (if a0 = 6 then ((bits_TrailingZeros64.f (IntKind.u64.wrap (a1))).bind fun t110 => (some t110)) else (if a0 = 7 then ((word_flip.f k a1).bind fun t107 => (some t107)) else (if a0 = 8 then ((word_yes.f (a1 != 0)).bind fun t108 => (some t108)) else (if a0 = 9 then ((word_yes.f (a1 == 0)).bind fun t109 => (some t109)) else (if a0 = 10 then (some (wrap64 (IntKind.i8.wrap (a1)))) else (if a0 = 11 then (some (wrap64 (IntKind.i16.wrap (a1)))) else (if a0 = 12 then (some (wrap64 (wrap32 (a1)))) else (if a0 = 13 then (some ((a1) % 256)) else (if a0 = 14 then (some (wrap64 (IntKind.u16.wrap (a1)))) else (some ((a1) % 4294967296)))))))))))))))) = some r := h
  clear h
  rw [if_neg c3] at H
  have c3b0 : (a0 == 3) = false := beq_eq_false_iff_ne.mpr c3
  have c3b1 : (a0 != 3) = true := bne_iff_ne.mpr c3
  rw [if_neg c5] at H
  have c5b0 : (a0 == 1) = false := beq_eq_false_iff_ne.mpr c5
  have c5b1 : (a0 != 1) = true := bne_iff_ne.mpr c5
  rw [if_neg c6] at H
  have c6b0 : (a0 == 2) = false := beq_eq_false_iff_ne.mpr c6
  have c6b1 : (a0 != 2) = true := bne_iff_ne.mpr c6
  rw [if_neg c7] at H
  have c7b0 : (a0 == 4) = false := beq_eq_false_iff_ne.mpr c7
  have c7b1 : (a0 != 4) = true := bne_iff_ne.mpr c7
  rw [if_neg c9] at H
  have c9b0 : (a0 == 5) = false := beq_eq_false_iff_ne.mpr c9
  have c9b1 : (a0 != 5) = true := bne_iff_ne.mpr c9
  rw [if_neg c11] at H
  have c11b0 : (a0 == 6) = false := beq_eq_false_iff_ne.mpr c11
  have c11b1 : (a0 != 6) = true := bne_iff_ne.mpr c11
  rw [if_neg c13] at H
  have c13b0 : (a0 == 7) = false := beq_eq_false_iff_ne.mpr c13
  have c13b1 : (a0 != 7) = true := bne_iff_ne.mpr c13
  rw [if_neg c15] at H
  have c15b0 : (a0 == 8) = false := beq_eq_false_iff_ne.mpr c15
  have c15b1 : (a0 != 8) = true := bne_iff_ne.mpr c15
  rw [if_neg c17] at H
  have c17b0 : (a0 == 9) = false := beq_eq_false_iff_ne.mpr c17
  have c17b1 : (a0 != 9) = true := bne_iff_ne.mpr c17
  rw [if_neg c19] at H
  have c19b0 : (a0 == 10) = false := beq_eq_false_iff_ne.mpr c19
  have c19b1 : (a0 != 10) = true := bne_iff_ne.mpr c19
  rw [if_neg c20] at H
  have c20b0 : (a0 == 11) = false := beq_eq_false_iff_ne.mpr c20
  have c20b1 : (a0 != 11) = true := bne_iff_ne.mpr c20
  rw [if_neg c21] at H
  have c21b0 : (a0 == 12) = false := beq_eq_false_iff_ne.mpr c21
  have c21b1 : (a0 != 12) = true := bne_iff_ne.mpr c21
  rw [if_neg c22] at H
  have c22b0 : (a0 == 13) = false := beq_eq_false_iff_ne.mpr c22
  have c22b1 : (a0 != 13) = true := bne_iff_ne.mpr c22
  rw [if_neg c23] at H
  have c23b0 : (a0 == 14) = false := beq_eq_false_iff_ne.mpr c23
  have c23b1 : (a0 != 14) = true := bne_iff_ne.mpr c23
  obtain rfl := Option.some.inj H
  go_enter Tryd.func43, Tryd.ntmps43
  go_wp2
  go_ret
  exact ⟨by first | rfl | (simp; done) | (simp [*]; done), by repeat (first | exact Drawn0.refl _ | apply Drawn0.step)⟩
set_option maxHeartbeats 8000000 in
set_option maxRecDepth 100000 in
theorem word_one.calls (k : Nat) (a0 : Int) (a1 : Int) (r : Int) (w : World) (h : word_one.f k a0 a1 = some r) :
    Calls Tryd.prog 43 #[.int .i64 a0, .int .i64 a1] w fun e w' => e = .returned (.int .i64 r) ∧ Drawn0 w w' := by
  by_cases c3 : a0 = 3
  · by_cases c4 : a1 ≥ 0
    · exact word_one.calls_0 k a0 a1 r w h c3 c4
    · exact word_one.calls_1 k a0 a1 r w h c3 c4
  · by_cases c5 : a0 = 1
    · exact word_one.calls_2 k a0 a1 r w h c3 c5
    · by_cases c6 : a0 = 2
      · exact word_one.calls_3 k a0 a1 r w h c3 c5 c6
      · by_cases c7 : a0 = 4
        · exact word_one.calls_4 k a0 a1 r w h c3 c5 c6 c7
        · by_cases c9 : a0 = 5
          · exact word_one.calls_5 k a0 a1 r w h c3 c5 c6 c7 c9
          · by_cases c11 : a0 = 6
            · exact word_one.calls_6 k a0 a1 r w h c3 c5 c6 c7 c9 c11
            · by_cases c13 : a0 = 7
              · exact word_one.calls_7 k a0 a1 r w h c3 c5 c6 c7 c9 c11 c13
              · by_cases c15 : a0 = 8
                · exact word_one.calls_8 k a0 a1 r w h c3 c5 c6 c7 c9 c11 c13 c15
                · by_cases c17 : a0 = 9
                  · exact word_one.calls_9 k a0 a1 r w h c3 c5 c6 c7 c9 c11 c13 c15 c17
                  · by_cases c19 : a0 = 10
                    · exact word_one.calls_10 k a0 a1 r w h c3 c5 c6 c7 c9 c11 c13 c15 c17 c19
                    · by_cases c20 : a0 = 11
                      · exact word_one.calls_11 k a0 a1 r w h c3 c5 c6 c7 c9 c11 c13 c15 c17 c19 c20
                      · by_cases c21 : a0 = 12
                        · exact word_one.calls_12 k a0 a1 r w h c3 c5 c6 c7 c9 c11 c13 c15 c17 c19 c20 c21
                        · by_cases c22 : a0 = 13
                          · exact word_one.calls_13 k a0 a1 r w h c3 c5 c6 c7 c9 c11 c13 c15 c17 c19 c20 c21 c22
                          · by_cases c23 : a0 = 14
                            · exact word_one.calls_14 k a0 a1 r w h c3 c5 c6 c7 c9 c11 c13 c15 c17 c19 c20 c21 c22 c23
                            · exact word_one.calls_15 k a0 a1 r w h c3 c5 c6 c7 c9 c11 c13 c15 c17 c19 c20 c21 c22 c23

/-! ### word_divided: function 44 -/
def word_divided.j0 : Nat → Int → Int → Int → Bool → Option (Int × Int)
  | 0, _, _, _, _ => none
  | k + 1, x0, x1, x2, x11 => if x11 = true then (some (wrap64 (-x1), 0)) else (if x0 = 19 then (if x2 = 0 then (none) else (some (wrap64 (Int.tdiv x1 x2), 0))) else (if x2 = (-1) then (some (0, 0)) else (if x2 = 0 then (none) else (some (Int.tmod x1 x2, 0)))))
def word_divided.f (k : Nat) (a0 : Int) (a1 : Int) (a2 : Int) : Option (Int × Int) := if a2 = 0 then (some (0, 20)) else (if a0 = 19 then (word_divided.j0 k a0 a1 a2 (a2 == (-1))) else (word_divided.j0 k a0 a1 a2 false))
theorem word_divided.mono_l : ∀ k, (∀ y0 y1 y2 y3, LeO (word_divided.j0 k y0 y1 y2 y3) (word_divided.j0 (k + 1) y0 y1 y2 y3))
  | 0 => fun _ _ _ _ r h => by simp [word_divided.j0] at h
  | k + 1 => by
    have ih0 := word_divided.mono_l k
    · intro y0 y1 y2 y3
      unfold word_divided.j0
      repeat' first
      | (with_reducible exact ih0 _ _ _ _)
      | (with_reducible exact LeO.refl _)
      | (with_reducible exact LeO.none _)
      | (with_reducible refine LeO.ite ?_ ?_)
      | (with_reducible refine LeO.bind ?_ (fun _ => ?_))
      | exact ih0 _ _ _ _
      | exact LeO.none _
      | refine LeO.ite ?_ ?_
      | refine LeO.bind ?_ (fun _ => ?_)
theorem word_divided.mono : ∀ a0 a1 a2 k, LeO (word_divided.f k a0 a1 a2) (word_divided.f (k + 1) a0 a1 a2) := by
  intro a0 a1 a2 k
  have ih0 := word_divided.mono_l k
  unfold word_divided.f
  repeat' first
      | (with_reducible exact ih0 _ _ _ _)
      | (with_reducible exact LeO.refl _)
      | (with_reducible exact LeO.none _)
      | (with_reducible refine LeO.ite ?_ ?_)
      | (with_reducible refine LeO.bind ?_ (fun _ => ?_))
      | exact ih0 _ _ _ _
      | exact LeO.none _
      | refine LeO.ite ?_ ?_
      | refine LeO.bind ?_ (fun _ => ?_)
set_option maxHeartbeats 8000000 in
set_option maxRecDepth 100000 in
theorem word_divided.calls (k : Nat) (a0 : Int) (a1 : Int) (a2 : Int) (r1 : Int) (r2 : Int) (w : World) (h : word_divided.f k a0 a1 a2 = some (r1, r2)) :
    Calls Tryd.prog 44 #[.int .i64 a0, .int .i64 a1, .int .i64 a2] w fun e w' => e = .returned (.tuple #[.int .i64 r1, .int .i64 r2]) ∧ Drawn0 w w' := by
  have H : (if a2 = 0 then (some (0, 20)) else (if a0 = 19 then (word_divided.j0 k a0 a1 a2 (a2 == (-1))) else (word_divided.j0 k a0 a1 a2 false))) = some (r1, r2) := h
  clear h
  by_cases c4 : a2 = 0
  · rw [if_pos c4] at H
    have c4b0 : (a2 == 0) = true := beq_iff_eq.mpr c4
    have c4b1 : (a2 != 0) = false := bne_eq_false_iff_eq.mpr c4
    clear c4
    simp only [Option.some.injEq, Prod.mk.injEq] at H
    obtain ⟨rfl, rfl⟩ := H
    go_enter Tryd.func44, Tryd.ntmps44
    go_wp2
    go_ret2
    exact ⟨by first | rfl | (simp; done) | (simp [*]; done), by repeat (first | exact Drawn0.refl _ | apply Drawn0.step)⟩
  · rw [if_neg c4] at H
    have c4b0 : (a2 == 0) = false := beq_eq_false_iff_ne.mpr c4
    have c4b1 : (a2 != 0) = true := bne_iff_ne.mpr c4
    have HC5 := Aside0.mk H
    clear H
    go_enter Tryd.func44, Tryd.ntmps44
    go_upto_region 3 with (fail)
    go_cut [11] (fun v11 wc => ∃ (kq : Nat) (x11_4 : Bool), v11 = .bool x11_4 ∧ Aside0 (word_divided.j0 kq a0 a1 a2 x11_4 = some (r1, r2)) ∧ Aside0 (kq ≤ k) ∧ Drawn0 w wc)
    case first =>
      have H := HC5.out
      clear HC5
      by_cases c6 : a0 = 19
      · rw [if_pos c6] at H
        have c6b0 : (a0 == 19) = true := beq_iff_eq.mpr c6
        have c6b1 : (a0 != 19) = false := bne_eq_false_iff_eq.mpr c6
        clear c6
        (first | rw [c6b0] | (simp only [i64_w, i32_w]; rw [c6b0]) | skip)
        have H' := Aside0.mk H
        clear H
        go_wp2
        go_meet
        case rel => exact ⟨_, ((a2 == (-1))), (by first | rfl | (simp; done) | (simp [*]; done)), H', ⟨by first | omega | exact Nat.le_refl _⟩, by repeat (first | exact Drawn0.refl _ | apply Drawn0.step)⟩
      · rw [if_neg c6] at H
        have c6b0 : (a0 == 19) = false := beq_eq_false_iff_ne.mpr c6
        have c6b1 : (a0 != 19) = true := bne_iff_ne.mpr c6
        (first | rw [c6b0] | (simp only [i64_w, i32_w]; rw [c6b0]) | skip)
        have H' := Aside0.mk H
        clear H
        go_wp2
        go_meet
        case rel => exact ⟨_, (false), (by first | rfl | (simp; done) | (simp [*]; done)), H', ⟨by first | omega | exact Nat.le_refl _⟩, by repeat (first | exact Drawn0.refl _ | apply Drawn0.step)⟩
    case rest =>
      clear HC5
      try clear p2
      try clear c4
      try clear c4b0
      try clear c4b1
      try clear c6
      try clear c6b0
      try clear c6b1
      obtain ⟨kq, x11_4, rfl, HA, HJ4, ⟨mc4, rfl⟩⟩ := hcut
      cases kq with
      | zero => exact absurd HA.out (by simp [word_divided.j0])
      | succ kj4 =>
        have H := HA.out
        clear HA
        simp only [word_divided.j0] at H
        by_cases c7 : x11_4 = true
        · subst c7
          have H1 : (some (wrap64 (-a1), 0)) = some (r1, r2) := by rw [if_pos rfl] at H; exact H
          clear H
          have H := H1
          clear H1
          simp only [Option.some.injEq, Prod.mk.injEq] at H
          obtain ⟨rfl, rfl⟩ := H
          go_wp2
          go_ret2
          exact ⟨by first | rfl | (simp; done) | (simp [*]; done), by repeat (first | exact Drawn0.refl _ | apply Drawn0.step)⟩
        · replace c7 := Bool.eq_false_iff.mpr c7
          subst c7
          have H1 : (if a0 = 19 then (if a2 = 0 then (none) else (some (wrap64 (Int.tdiv a1 a2), 0))) else (if a2 = (-1) then (some (0, 0)) else (if a2 = 0 then (none) else (some (Int.tmod a1 a2, 0))))) = some (r1, r2) := by rw [if_neg (show ¬ (false = true) by decide)] at H; exact H
          clear H
          have H := H1
          clear H1
          by_cases c8 : a0 = 19
          · rw [if_pos c8] at H
            have c8b0 : (a0 == 19) = true := beq_iff_eq.mpr c8
            have c8b1 : (a0 != 19) = false := bne_eq_false_iff_eq.mpr c8
            clear c8
            by_cases c9 : a2 = 0
            · rw [if_pos c9] at H
              exact absurd H (by simp)
            · rw [if_neg c9] at H
              have c9b0 : (a2 == 0) = false := beq_eq_false_iff_ne.mpr c9
              have c9b1 : (a2 != 0) = true := bne_iff_ne.mpr c9
              simp only [Option.some.injEq, Prod.mk.injEq] at H
              obtain ⟨rfl, rfl⟩ := H
              go_wp2
              go_ret2
              exact ⟨by first | rfl | (simp; done) | (simp [*]; done), by repeat (first | exact Drawn0.refl _ | apply Drawn0.step)⟩
          · rw [if_neg c8] at H
            have c8b0 : (a0 == 19) = false := beq_eq_false_iff_ne.mpr c8
            have c8b1 : (a0 != 19) = true := bne_iff_ne.mpr c8
            by_cases c10 : a2 = (-1)
            · rw [if_pos c10] at H
              have c10b0 : (a2 == (-1)) = true := beq_iff_eq.mpr c10
              have c10b1 : (a2 != (-1)) = false := bne_eq_false_iff_eq.mpr c10
              clear c10
              simp only [Option.some.injEq, Prod.mk.injEq] at H
              obtain ⟨rfl, rfl⟩ := H
              go_wp2
              go_ret2
              exact ⟨by first | rfl | (simp; done) | (simp [*]; done), by repeat (first | exact Drawn0.refl _ | apply Drawn0.step)⟩
            · rw [if_neg c10] at H
              have c10b0 : (a2 == (-1)) = false := beq_eq_false_iff_ne.mpr c10
              have c10b1 : (a2 != (-1)) = true := bne_iff_ne.mpr c10
              by_cases c11 : a2 = 0
              · rw [if_pos c11] at H
                exact absurd H (by simp)
              · rw [if_neg c11] at H
                have c11b0 : (a2 == 0) = false := beq_eq_false_iff_ne.mpr c11
                have c11b1 : (a2 != 0) = true := bne_iff_ne.mpr c11
                simp only [Option.some.injEq, Prod.mk.injEq] at H
                obtain ⟨rfl, rfl⟩ := H
                go_wp2
                go_ret2
                exact ⟨by first | rfl | (simp; done) | (simp [*]; done), by repeat (first | exact Drawn0.refl _ | apply Drawn0.step)⟩

/-! ### word_shifted: function 45 -/
def word_shifted.f (a0 : Int) (a1 : Int) (a2 : Int) : Option (Int × Int) := if a2 < 0 then (some (0, 21)) else (if a0 = 25 then (if 0 ≤ (IntKind.u64.wrap (a2)) then (some (shl .i64 a1 (IntKind.u64.wrap (a2)), 0)) else (none)) else (if a0 = 26 then (if 0 ≤ (IntKind.u64.wrap (a2)) then (some (shr .i64 a1 (IntKind.u64.wrap (a2)), 0)) else (none)) else (if 0 ≤ (IntKind.u64.wrap (a2)) then (some (wrap64 (shr .u64 (IntKind.u64.wrap (a1)) (IntKind.u64.wrap (a2))), 0)) else (none))))
set_option maxHeartbeats 8000000 in
set_option maxRecDepth 100000 in
theorem word_shifted.calls (a0 : Int) (a1 : Int) (a2 : Int) (r1 : Int) (r2 : Int) (w : World) (h : word_shifted.f a0 a1 a2 = some (r1, r2)) :
    Calls Tryd.prog 45 #[.int .i64 a0, .int .i64 a1, .int .i64 a2] w fun e w' => e = .returned (.tuple #[.int .i64 r1, .int .i64 r2]) ∧ Drawn0 w w' := by
  have H : (if a2 < 0 then (some (0, 21)) else (if a0 = 25 then (if 0 ≤ (IntKind.u64.wrap (a2)) then (some (shl .i64 a1 (IntKind.u64.wrap (a2)), 0)) else (none)) else (if a0 = 26 then (if 0 ≤ (IntKind.u64.wrap (a2)) then (some (shr .i64 a1 (IntKind.u64.wrap (a2)), 0)) else (none)) else (if 0 ≤ (IntKind.u64.wrap (a2)) then (some (wrap64 (shr .u64 (IntKind.u64.wrap (a1)) (IntKind.u64.wrap (a2))), 0)) else (none))))) = some (r1, r2) := h
  clear h
  by_cases c4 : a2 < 0
  · rw [if_pos c4] at H
    have c4b0 : decide (a2 < 0) = true := decide_eq_true c4
    clear c4
    simp only [Option.some.injEq, Prod.mk.injEq] at H
    obtain ⟨rfl, rfl⟩ := H
    go_enter Tryd.func45, Tryd.ntmps45
    go_wp2
    go_ret2
    exact ⟨by first | rfl | (simp; done) | (simp [*]; done), by repeat (first | exact Drawn0.refl _ | apply Drawn0.step)⟩
  · rw [if_neg c4] at H
    have c4b0 : decide (a2 < 0) = false := decide_eq_false c4
    clear c4
    by_cases c5 : a0 = 25
    · rw [if_pos c5] at H
      have c5b0 : (a0 == 25) = true := beq_iff_eq.mpr c5
      have c5b1 : (a0 != 25) = false := bne_eq_false_iff_eq.mpr c5
      clear c5
      obtain ⟨ji6, hji6⟩ : ∃ j_ : Int, (IntKind.u64.wrap (a2)) = j_ := ⟨_, rfl⟩
      replace H : (if 0 ≤ (ji6) then (some (shl .i64 a1 (ji6), 0)) else (none)) = some (r1, r2) := by first | (rw [hji6] at H; exact H) | (simp only [hji6] at H ⊢; exact H)
      by_cases c7 : 0 ≤ (ji6)
      · rw [if_pos c7] at H
        have c7b0 := eq_true c7
        have c7b1 : decide (0 ≤ (ji6)) = true := decide_eq_true c7
        clear c7
        obtain ⟨ji8, hji8⟩ : ∃ j_ : Int, (shl .i64 a1 (ji6)) = j_ := ⟨_, rfl⟩
        replace H : (some (ji8, 0)) = some (r1, r2) := by first | (rw [hji8] at H; exact H) | (simp only [hji8] at H ⊢; exact H)
        have hji8_ : (IntKind.i64.wrap (a1 * 2 ^ min (ji6).toNat 64)) = ji8 := hji8
        have hji8z : (ji6) ≤ 64 → (IntKind.i64.wrap (a1 * 2 ^ (ji6).toNat)) = ji8 := shl_small hji8
        have hji8y : (wrap64 (a1 * 2 ^ min (ji6).toNat 64)) = ji8 := (i64_w _).symm.trans hji8_
        have hji8x : (ji6) ≤ 64 → (wrap64 (a1 * 2 ^ (ji6).toNat)) = ji8 := fun h_ => (i64_w _).symm.trans (hji8z h_)
        simp only [Option.some.injEq, Prod.mk.injEq] at H
        obtain ⟨rfl, rfl⟩ := H
        go_enter Tryd.func45, Tryd.ntmps45
        go_wp2
        go_ret2
        exact ⟨by first | rfl | (simp; done) | (simp only [← hji6, ← hji8] <;> (first | rfl | simp)) | (simp [*]; done), by repeat (first | exact Drawn0.refl _ | apply Drawn0.step)⟩
      · rw [if_neg c7] at H
        exact absurd H (by simp)
    · rw [if_neg c5] at H
      have c5b0 : (a0 == 25) = false := beq_eq_false_iff_ne.mpr c5
      have c5b1 : (a0 != 25) = true := bne_iff_ne.mpr c5
      by_cases c9 : a0 = 26
      · rw [if_pos c9] at H
        have c9b0 : (a0 == 26) = true := beq_iff_eq.mpr c9
        have c9b1 : (a0 != 26) = false := bne_eq_false_iff_eq.mpr c9
        clear c9
        obtain ⟨ji10, hji10⟩ : ∃ j_ : Int, (IntKind.u64.wrap (a2)) = j_ := ⟨_, rfl⟩
        replace H : (if 0 ≤ (ji10) then (some (shr .i64 a1 (ji10), 0)) else (none)) = some (r1, r2) := by first | (rw [hji10] at H; exact H) | (simp only [hji10] at H ⊢; exact H)
        by_cases c11 : 0 ≤ (ji10)
        · rw [if_pos c11] at H
          have c11b0 := eq_true c11
          have c11b1 : decide (0 ≤ (ji10)) = true := decide_eq_true c11
          clear c11
          obtain ⟨ji12, hji12⟩ : ∃ j_ : Int, (shr .i64 a1 (ji10)) = j_ := ⟨_, rfl⟩
          replace H : (some (ji12, 0)) = some (r1, r2) := by first | (rw [hji12] at H; exact H) | (simp only [hji12] at H ⊢; exact H)
          have hji12_ : (a1 / 2 ^ min (ji10).toNat 64) = ji12 := hji12
          have hji12z : (ji10) ≤ 64 → (a1 / 2 ^ (ji10).toNat) = ji12 := shr_small hji12
          simp only [Option.some.injEq, Prod.mk.injEq] at H
          obtain ⟨rfl, rfl⟩ := H
          go_enter Tryd.func45, Tryd.ntmps45
          go_wp2
          go_ret2
          exact ⟨by first | rfl | (simp; done) | (simp only [← hji10, ← hji12] <;> (first | rfl | simp)) | (simp [*]; done), by repeat (first | exact Drawn0.refl _ | apply Drawn0.step)⟩
        · rw [if_neg c11] at H
          exact absurd H (by simp)
      · rw [if_neg c9] at H
        have c9b0 : (a0 == 26) = false := beq_eq_false_iff_ne.mpr c9
        have c9b1 : (a0 != 26) = true := bne_iff_ne.mpr c9
        obtain ⟨ji13, hji13⟩ : ∃ j_ : Int, (IntKind.u64.wrap (a2)) = j_ := ⟨_, rfl⟩
        replace H : (if 0 ≤ (ji13) then (some (wrap64 (shr .u64 (IntKind.u64.wrap (a1)) (ji13)), 0)) else (none)) = some (r1, r2) := by first | (rw [hji13] at H; exact H) | (simp only [hji13] at H ⊢; exact H)
        by_cases c14 : 0 ≤ (ji13)
        · rw [if_pos c14] at H
          have c14b0 := eq_true c14
          have c14b1 : decide (0 ≤ (ji13)) = true := decide_eq_true c14
          clear c14
          obtain ⟨ji15, hji15⟩ : ∃ j_ : Int, (shr .u64 (IntKind.u64.wrap (a1)) (ji13)) = j_ := ⟨_, rfl⟩
          replace H : (some (wrap64 (ji15), 0)) = some (r1, r2) := by first | (rw [hji15] at H; exact H) | (simp only [hji15] at H ⊢; exact H)
          have hji15_ : ((IntKind.u64.wrap (a1)) / 2 ^ min (ji13).toNat 64) = ji15 := hji15
          have hji15z : (ji13) ≤ 64 → ((IntKind.u64.wrap (a1)) / 2 ^ (ji13).toNat) = ji15 := shr_small hji15
          simp only [Option.some.injEq, Prod.mk.injEq] at H
          obtain ⟨rfl, rfl⟩ := H
          go_enter Tryd.func45, Tryd.ntmps45
          go_wp2
          go_ret2
          exact ⟨by first | rfl | (simp; done) | (simp only [← hji13, ← hji15] <;> (first | rfl | simp)) | (simp [*]; done), by repeat (first | exact Drawn0.refl _ | apply Drawn0.step)⟩
        · rw [if_neg c14] at H
          exact absurd H (by simp)

/-! ### bits_RotateLeft64: function 62 -/
def bits_RotateLeft64.f (a0 : Int) (a1 : Int) : Option (Int) := if 0 ≤ (Go.bits .and .u64 (IntKind.u64.wrap (a1)) 63) then (if 0 ≤ (IntKind.u64.wrap (64 - (Go.bits .and .u64 (IntKind.u64.wrap (a1)) 63))) then (some (Go.bits .or .u64 (shl .u64 a0 (Go.bits .and .u64 (IntKind.u64.wrap (a1)) 63)) (shr .u64 a0 (IntKind.u64.wrap (64 - (Go.bits .and .u64 (IntKind.u64.wrap (a1)) 63)))))) else (none)) else (none)
set_option maxHeartbeats 8000000 in
set_option maxRecDepth 100000 in
theorem bits_RotateLeft64.calls (a0 : Int) (a1 : Int) (r : Int) (w : World) (h : bits_RotateLeft64.f a0 a1 = some r) :
    Calls Tryd.prog 62 #[.int .u64 a0, .int .i64 a1] w fun e w' => e = .returned (.int .u64 r) ∧ Drawn0 w w' := by
  have H : (if 0 ≤ (Go.bits .and .u64 (IntKind.u64.wrap (a1)) 63) then (if 0 ≤ (IntKind.u64.wrap (64 - (Go.bits .and .u64 (IntKind.u64.wrap (a1)) 63))) then (some (Go.bits .or .u64 (shl .u64 a0 (Go.bits .and .u64 (IntKind.u64.wrap (a1)) 63)) (shr .u64 a0 (IntKind.u64.wrap (64 - (Go.bits .and .u64 (IntKind.u64.wrap (a1)) 63)))))) else (none)) else (none)) = some r := h
  clear h
  obtain ⟨ji3, hji3⟩ : ∃ j_ : Int, (Go.bits .and .u64 (IntKind.u64.wrap (a1)) 63) = j_ := ⟨_, rfl⟩
  replace H : (if 0 ≤ (ji3) then (if 0 ≤ (IntKind.u64.wrap (64 - (ji3))) then (some (Go.bits .or .u64 (shl .u64 a0 (ji3)) (shr .u64 a0 (IntKind.u64.wrap (64 - (ji3)))))) else (none)) else (none)) = some r := by first | (rw [hji3] at H; exact H) | (simp only [hji3] at H ⊢; exact H)
  by_cases c4 : 0 ≤ (ji3)
  · rw [if_pos c4] at H
    have c4b0 := eq_true c4
    have c4b1 : decide (0 ≤ (ji3)) = true := decide_eq_true c4
    clear c4
    obtain ⟨ji5, hji5⟩ : ∃ j_ : Int, (shl .u64 a0 (ji3)) = j_ := ⟨_, rfl⟩
    replace H : (if 0 ≤ (IntKind.u64.wrap (64 - (ji3))) then (some (Go.bits .or .u64 (ji5) (shr .u64 a0 (IntKind.u64.wrap (64 - (ji3)))))) else (none)) = some r := by first | (rw [hji5] at H; exact H) | (simp only [hji5] at H ⊢; exact H)
    have hji5_ : (IntKind.u64.wrap (a0 * 2 ^ min (ji3).toNat 64)) = ji5 := hji5
    have hji5z : (ji3) ≤ 64 → (IntKind.u64.wrap (a0 * 2 ^ (ji3).toNat)) = ji5 := shl_small hji5
    obtain ⟨ji6, hji6⟩ : ∃ j_ : Int, (IntKind.u64.wrap (64 - (ji3))) = j_ := ⟨_, rfl⟩
    replace H : (if 0 ≤ (ji6) then (some (Go.bits .or .u64 (ji5) (shr .u64 a0 (ji6)))) else (none)) = some r := by first | (rw [hji6] at H; exact H) | (simp only [hji6] at H ⊢; exact H)
    by_cases c7 : 0 ≤ (ji6)
    · rw [if_pos c7] at H
      have c7b0 := eq_true c7
      have c7b1 : decide (0 ≤ (ji6)) = true := decide_eq_true c7
      clear c7
      obtain ⟨ji8, hji8⟩ : ∃ j_ : Int, (shr .u64 a0 (ji6)) = j_ := ⟨_, rfl⟩
      replace H : (some (Go.bits .or .u64 (ji5) (ji8))) = some r := by first | (rw [hji8] at H; exact H) | (simp only [hji8] at H ⊢; exact H)
      have hji8_ : (a0 / 2 ^ min (ji6).toNat 64) = ji8 := hji8
      have hji8z : (ji6) ≤ 64 → (a0 / 2 ^ (ji6).toNat) = ji8 := shr_small hji8
      obtain rfl := Option.some.inj H
      go_enter Tryd.func62, Tryd.ntmps62
      go_wp2
      go_ret
      exact ⟨by first | rfl | (simp; done) | (simp only [← hji3, ← hji5, ← hji6, ← hji8] <;> (first | rfl | simp)) | (simp [*]; done), by repeat (first | exact Drawn0.refl _ | apply Drawn0.step)⟩
    · rw [if_neg c7] at H
      exact absurd H (by simp)
  · rw [if_neg c4] at H
    exact absurd H (by simp)

/-! ### word_two: function 46 -/
def word_two.f (a0 : Int) (a1 : Int) (a2 : Int) : Option (Int) := if a0 = 16 then (some (wrap64 (a1 + a2))) else (if a0 = 17 then (some (wrap64 (a1 - a2))) else (if a0 = 18 then (some (wrap64 (a1 * a2))) else (if a0 = 21 then (some (Go.bits .and .i64 a1 a2)) else (if a0 = 22 then (some (Go.bits .or .i64 a1 a2)) else (if a0 = 23 then (some (Go.bits .xor .i64 a1 a2)) else (if a0 = 24 then (some (Go.bits .andNot .i64 a1 a2)) else (if a0 = 28 then ((bits_RotateLeft64.f (IntKind.u64.wrap (a1)) (Go.bits .and .i64 a2 63)).bind fun t111 => (some (wrap64 (t111)))) else (if a0 = 29 then ((word_yes.f (a1 == a2)).bind fun t112 => (some t112)) else (if a0 = 30 then ((word_yes.f (a1 != a2)).bind fun t113 => (some t113)) else (if a0 = 31 then ((word_yes.f (decide (a1 < a2))).bind fun t114 => (some t114)) else (if a0 = 32 then ((word_yes.f (decide (a1 ≤ a2))).bind fun t115 => (some t115)) else (if a0 = 33 then ((word_yes.f (decide ((IntKind.u64.wrap (a1)) < (IntKind.u64.wrap (a2))))).bind fun t116 => (some t116)) else (if a0 = 34 then (some (mn a1 a2)) else (if a0 = 35 then (some (mx a1 a2)) else ((word_Wide.f a1 a2).bind fun bt117 => (some bt117.1))))))))))))))))
set_option maxHeartbeats 8000000 in
set_option maxRecDepth 100000 in
theorem word_two.calls_0 (a0 : Int) (a1 : Int) (a2 : Int) (r : Int) (w : World) (h : word_two.f a0 a1 a2 = some r) (c4 : a0 = 16) :
    Calls Tryd.prog 46 #[.int .i64 a0, .int .i64 a1, .int .i64 a2] w fun e w' => e = .returned (.int .i64 r) ∧ Below w.heap.size w w' := by
  have HB := Aside0.mk (Below.refl w.heap.size w)
  have H : (if a0 = 16 then (some (wrap64 (a1 + a2))) else (if a0 = 17 then (some (wrap64 (a1 - a2))) else (if a0 = 18 then (some (wrap64 (a1 * a2))) else (if a0 = 21 then (some (Go.bits .and .i64 a1 a2)) else (if a0 = 22 then (some (Go.bits .or .i64 a1 a2)) else (if a0 = 23 then (some (Go.bits .xor .i64 a1 a2)) else (if a0 = 24 then (some (Go.bits .andNot .i64 a1 a2)) else (if a0 = 28 then ((bits_RotateLeft64.f (IntKind.u64.wrap (a1)) (Go.bits .and .i64 a2 63)).bind fun t111 => (some (wrap64 (t111)))) else (if a0 = 29 then ((word_yes.f (a1 == a2)).bind fun t112 => (some t112)) else (if a0 = 30 then ((word_yes.f (a1 != a2)).bind fun t113 => (some t113)) else (if a0 = 31 then ((word_yes.f (decide (a1 < a2))).bind fun t114 => (some t114)) else (if a0 = 32 then ((word_yes.f (decide (a1 ≤ a2))).bind fun t115 => (some t115)) else (if a0 = 33 then ((word_yes.f (decide ((IntKind.u64.wrap (a1)) < (IntKind.u64.wrap (a2))))).bind fun t116 => (some t116)) else (if a0 = 34 then (some (mn a1 a2)) else (if a0 = 35 then (some (mx a1 a2)) else ((word_Wide.f a1 a2).bind fun bt117 => (some bt117.1))))))))))))))))) = some r := h
  clear h
  rw [if_pos c4] at H
  have c4b0 : (a0 == 16) = true := beq_iff_eq.mpr c4
  have c4b1 : (a0 != 16) = false := bne_eq_false_iff_eq.mpr c4
  clear c4
  obtain rfl := Option.some.inj H
  go_enter Tryd.func46, Tryd.ntmps46
  go_wp2
  go_ret
  exact ⟨by first | rfl | (simp [errW_none, errW_some] <;> rfl) | (simp [*, errW_none, errW_some] <;> rfl), by repeat (first | (with_reducible first | exact HB.out | apply below_alloc | apply pw_below_drewN | apply below_drew1) | exact HB.out)⟩
set_option maxHeartbeats 8000000 in
set_option maxRecDepth 100000 in
theorem word_two.calls_1 (a0 : Int) (a1 : Int) (a2 : Int) (r : Int) (w : World) (h : word_two.f a0 a1 a2 = some r) (c4 : ¬ (a0 = 16)) (c5 : a0 = 17) :
    Calls Tryd.prog 46 #[.int .i64 a0, .int .i64 a1, .int .i64 a2] w fun e w' => e = .returned (.int .i64 r) ∧ Below w.heap.size w w' := by
  have HB := Aside0.mk (Below.refl w.heap.size w)
  have H : (if a0 = 16 then (some (wrap64 (a1 + a2))) else (if a0 = 17 then (some (wrap64 (a1 - a2))) else (if a0 = 18 then (some (wrap64 (a1 * a2))) else (if a0 = 21 then (some (Go.bits .and .i64 a1 a2)) else (if a0 = 22 then (some (Go.bits .or .i64 a1 a2)) else (if a0 = 23 then (some (Go.bits .xor .i64 a1 a2)) else (if a0 = 24 then (some (Go.bits .andNot .i64 a1 a2)) else (if a0 = 28 then ((bits_RotateLeft64.f (IntKind.u64.wrap (a1)) (Go.bits .and .i64 a2 63)).bind fun t111 => (some (wrap64 (t111)))) else (if a0 = 29 then ((word_yes.f (a1 == a2)).bind fun t112 => (some t112)) else (if a0 = 30 then ((word_yes.f (a1 != a2)).bind fun t113 => (some t113)) else (if a0 = 31 then ((word_yes.f (decide (a1 < a2))).bind fun t114 => (some t114)) else (if a0 = 32 then ((word_yes.f (decide (a1 ≤ a2))).bind fun t115 => (some t115)) else (if a0 = 33 then ((word_yes.f (decide ((IntKind.u64.wrap (a1)) < (IntKind.u64.wrap (a2))))).bind fun t116 => (some t116)) else (if a0 = 34 then (some (mn a1 a2)) else (if a0 = 35 then (some (mx a1 a2)) else ((word_Wide.f a1 a2).bind fun bt117 => (some bt117.1))))))))))))))))) = some r := h
  clear h
  rw [if_neg c4] at H
  have c4b0 : (a0 == 16) = false := beq_eq_false_iff_ne.mpr c4
  have c4b1 : (a0 != 16) = true := bne_iff_ne.mpr c4
  rw [if_pos c5] at H
  have c5b0 : (a0 == 17) = true := beq_iff_eq.mpr c5
  have c5b1 : (a0 != 17) = false := bne_eq_false_iff_eq.mpr c5
  clear c5
  obtain rfl := Option.some.inj H
  go_enter Tryd.func46, Tryd.ntmps46
  go_wp2
  go_ret
  exact ⟨by first | rfl | (simp [errW_none, errW_some] <;> rfl) | (simp [*, errW_none, errW_some] <;> rfl), by repeat (first | (with_reducible first | exact HB.out | apply below_alloc | apply pw_below_drewN | apply below_drew1) | exact HB.out)⟩
set_option maxHeartbeats 8000000 in
set_option maxRecDepth 100000 in
theorem word_two.calls_2 (a0 : Int) (a1 : Int) (a2 : Int) (r : Int) (w : World) (h : word_two.f a0 a1 a2 = some r) (c4 : ¬ (a0 = 16)) (c5 : ¬ (a0 = 17)) (c6 : a0 = 18) :
    Calls Tryd.prog 46 #[.int .i64 a0, .int .i64 a1, .int .i64 a2] w fun e w' => e = .returned (.int .i64 r) ∧ Below w.heap.size w w' := by
  have HB := Aside0.mk (Below.refl w.heap.size w)
  have H : (if a0 = 16 then (some (wrap64 (a1 + a2))) else (if a0 = 17 then (some (wrap64 (a1 - a2))) else (if a0 = 18 then (some (wrap64 (a1 * a2))) else (if a0 = 21 then (some (Go.bits .and .i64 a1 a2)) else (if a0 = 22 then (some (Go.bits .or .i64 a1 a2)) else (if a0 = 23 then (some (Go.bits .xor .i64 a1 a2)) else (if a0 = 24 then (some (Go.bits .andNot .i64 a1 a2)) else (if a0 = 28 then ((bits_RotateLeft64.f (IntKind.u64.wrap (a1)) (Go.bits .and .i64 a2 63)).bind fun t111 => (some (wrap64 (t111)))) else (if a0 = 29 then ((word_yes.f (a1 == a2)).bind fun t112 => (some t112)) else (if a0 = 30 then ((word_yes.f (a1 != a2)).bind fun t113 => (some t113)) else (if a0 = 31 then ((word_yes.f (decide (a1 < a2))).bind fun t114 => (some t114)) else (if a0 = 32 then ((word_yes.f (decide (a1 ≤ a2))).bind fun t115 => (some t115)) else (if a0 = 33 then ((word_yes.f (decide ((IntKind.u64.wrap (a1)) < (IntKind.u64.wrap (a2))))).bind fun t116 => (some t116)) else (if a0 = 34 then (some (mn a1 a2)) else (if a0 = 35 then (some (mx a1 a2)) else ((word_Wide.f a1 a2).bind fun bt117 => (some bt117.1))))))))))))))))) = some r := h
  clear h
  rw [if_neg c4] at H
  have c4b0 : (a0 == 16) = false := beq_eq_false_iff_ne.mpr c4
  have c4b1 : (a0 != 16) = true := bne_iff_ne.mpr c4
  rw [if_neg c5] at H
  have c5b0 : (a0 == 17) = false := beq_eq_false_iff_ne.mpr c5
  have c5b1 : (a0 != 17) = true := bne_iff_ne.mpr c5
  rw [if_pos c6] at H
  have c6b0 : (a0 == 18) = true := beq_iff_eq.mpr c6
  have c6b1 : (a0 != 18) = false := bne_eq_false_iff_eq.mpr c6
  clear c6
  obtain rfl := Option.some.inj H
  go_enter Tryd.func46, Tryd.ntmps46
  go_wp2
  go_ret
  exact ⟨by first | rfl | (simp [errW_none, errW_some] <;> rfl) | (simp [*, errW_none, errW_some] <;> rfl), by repeat (first | (with_reducible first | exact HB.out | apply below_alloc | apply pw_below_drewN | apply below_drew1) | exact HB.out)⟩
set_option maxHeartbeats 8000000 in
set_option maxRecDepth 100000 in
theorem word_two.calls_3 (a0 : Int) (a1 : Int) (a2 : Int) (r : Int) (w : World) (h : word_two.f a0 a1 a2 = some r) (c4 : ¬ (a0 = 16)) (c5 : ¬ (a0 = 17)) (c6 : ¬ (a0 = 18)) (c7 : a0 = 21) :
    Calls Tryd.prog 46 #[.int .i64 a0, .int .i64 a1, .int .i64 a2] w fun e w' => e = .returned (.int .i64 r) ∧ Below w.heap.size w w' := by
  have HB := Aside0.mk (Below.refl w.heap.size w)
  have H : (if a0 = 16 then (some (wrap64 (a1 + a2))) else (if a0 = 17 then (some (wrap64 (a1 - a2))) else (if a0 = 18 then (some (wrap64 (a1 * a2))) else (if a0 = 21 then (some (Go.bits .and .i64 a1 a2)) else (if a0 = 22 then (some (Go.bits .or .i64 a1 a2)) else (if a0 = 23 then (some (Go.bits .xor .i64 a1 a2)) else (if a0 = 24 then (some (Go.bits .andNot .i64 a1 a2)) else (if a0 = 28 then ((bits_RotateLeft64.f (IntKind.u64.wrap (a1)) (Go.bits .and .i64 a2 63)).bind fun t111 => (some (wrap64 (t111)))) else (if a0 = 29 then ((word_yes.f (a1 == a2)).bind fun t112 => (some t112)) else (if a0 = 30 then ((word_yes.f (a1 != a2)).bind fun t113 => (some t113)) else (if a0 = 31 then ((word_yes.f (decide (a1 < a2))).bind fun t114 => (some t114)) else (if a0 = 32 then ((word_yes.f (decide (a1 ≤ a2))).bind fun t115 => (some t115)) else (if a0 = 33 then ((word_yes.f (decide ((IntKind.u64.wrap (a1)) < (IntKind.u64.wrap (a2))))).bind fun t116 => (some t116)) else (if a0 = 34 then (some (mn a1 a2)) else (if a0 = 35 then (some (mx a1 a2)) else ((word_Wide.f a1 a2).bind fun bt117 => (some bt117.1))))))))))))))))) = some r := h
  clear h
  rw [if_neg c4] at H
  have c4b0 : (a0 == 16) = false := beq_eq_false_iff_ne.mpr c4
  have c4b1 : (a0 != 16) = true := bne_iff_ne.mpr c4
  rw [if_neg c5] at H
  have c5b0 : (a0 == 17) = false := beq_eq_false_iff_ne.mpr c5
  have c5b1 : (a0 != 17) = true := bne_iff_ne.mpr c5
  rw [if_neg c6] at H
  have c6b0 : (a0 == 18) = false := beq_eq_false_iff_ne.mpr c6
  have c6b1 : (a0 != 18) = true := bne_iff_ne.mpr c6
  rw [if_pos c7] at H
  have c7b0 : (a0 == 21) = true := beq_iff_eq.mpr c7
  have c7b1 : (a0 != 21) = false := bne_eq_false_iff_eq.mpr c7
  clear c7
  obtain rfl := Option.some.inj H
  go_enter Tryd.func46, Tryd.ntmps46
  go_wp2
  go_ret
  exact ⟨by first | rfl | (simp [errW_none, errW_some] <;> rfl) | (simp [*, errW_none, errW_some] <;> rfl), by repeat (first | (with_reducible first | exact HB.out | apply below_alloc | apply pw_below_drewN | apply below_drew1) | exact HB.out)⟩
set_option maxHeartbeats 8000000 in
set_option maxRecDepth 100000 in
theorem word_two.calls_4 (a0 : Int) (a1 : Int) (a2 : Int) (r : Int) (w : World) (h : word_two.f a0 a1 a2 = some r) (c4 : ¬ (a0 = 16)) (c5 : ¬ (a0 = 17)) (c6 : ¬ (a0 = 18)) (c7 : ¬ (a0 = 21)) (c8 : a0 = 22) :
    Calls Tryd.prog 46 #[.int .i64 a0, .int .i64 a1, .int .i64 a2] w fun e w' => e = .returned (.int .i64 r) ∧ Below w.heap.size w w' := by
  have HB := Aside0.mk (Below.refl w.heap.size w)
  have H : (if a0 = 16 then (some (wrap64 (a1 + a2))) else (if a0 = 17 then (some (wrap64 (a1 - a2))) else (if a0 = 18 then (some (wrap64 (a1 * a2))) else (if a0 = 21 then (some (Go.bits .and .i64 a1 a2)) else (if a0 = 22 then (some (Go.bits .or .i64 a1 a2)) else (if a0 = 23 then (some (Go.bits .xor .i64 a1 a2)) else (if a0 = 24 then (some (Go.bits .andNot .i64 a1 a2)) else (if a0 = 28 then ((bits_RotateLeft64.f (IntKind.u64.wrap (a1)) (Go.bits .and .i64 a2 63)).bind fun t111 => (some (wrap64 (t111)))) else (if a0 = 29 then ((word_yes.f (a1 == a2)).bind fun t112 => (some t112)) else (if a0 = 30 then ((word_yes.f (a1 != a2)).bind fun t113 => (some t113)) else (if a0 = 31 then ((word_yes.f (decide (a1 < a2))).bind fun t114 => (some t114)) else (if a0 = 32 then ((word_yes.f (decide (a1 ≤ a2))).bind fun t115 => (some t115)) else (if a0 = 33 then ((word_yes.f (decide ((IntKind.u64.wrap (a1)) < (IntKind.u64.wrap (a2))))).bind fun t116 => (some t116)) else (if a0 = 34 then (some (mn a1 a2)) else (if a0 = 35 then (some (mx a1 a2)) else ((word_Wide.f a1 a2).bind fun bt117 => (some bt117.1))))))))))))))))) = some r := h
  clear h
  rw [if_neg c4] at H
  have c4b0 : (a0 == 16) = false := beq_eq_false_iff_ne.mpr c4
  have c4b1 : (a0 != 16) = true := bne_iff_ne.mpr c4
  rw [if_neg c5] at H
  have c5b0 : (a0 == 17) = false := beq_eq_false_iff_ne.mpr c5
  have c5b1 : (a0 != 17) = true := bne_iff_ne.mpr c5
  rw [if_neg c6] at H
  have c6b0 : (a0 == 18) = false := beq_eq_false_iff_ne.mpr c6
  have c6b1 : (a0 != 18) = true := bne_iff_ne.mpr c6
  rw [if_neg c7] at H
  have c7b0 : (a0 == 21) = false := beq_eq_false_iff_ne.mpr c7
  have c7b1 : (a0 != 21) = true := bne_iff_ne.mpr c7
  rw [if_pos c8] at H
  have c8b0 : (a0 == 22) = true := beq_iff_eq.mpr c8
  have c8b1 : (a0 != 22) = false := bne_eq_false_iff_eq.mpr c8
  clear c8
  obtain rfl := Option.some.inj H
  go_enter Tryd.func46, Tryd.ntmps46
  go_wp2
  go_ret
  exact ⟨by first | rfl | (simp [errW_none, errW_some] <;> rfl) | (simp [*, errW_none, errW_some] <;> rfl), by repeat (first | (with_reducible first | exact HB.out | apply below_alloc | apply pw_below_drewN | apply below_drew1) | exact HB.out)⟩
set_option maxHeartbeats 8000000 in
set_option maxRecDepth 100000 in
theorem word_two.calls_5 (a0 : Int) (a1 : Int) (a2 : Int) (r : Int) (w : World) (h : word_two.f a0 a1 a2 = some r) (c4 : ¬ (a0 = 16)) (c5 : ¬ (a0 = 17)) (c6 : ¬ (a0 = 18)) (c7 : ¬ (a0 = 21)) (c8 : ¬ (a0 = 22)) (c9 : a0 = 23) :
    Calls Tryd.prog 46 #[.int .i64 a0, .int .i64 a1, .int .i64 a2] w fun e w' => e = .returned (.int .i64 r) ∧ Below w.heap.size w w' := by
  have HB := Aside0.mk (Below.refl w.heap.size w)
  have H : (if a0 = 16 then (some (wrap64 (a1 + a2))) else (if a0 = 17 then (some (wrap64 (a1 - a2))) else (if a0 = 18 then (some (wrap64 (a1 * a2))) else (if a0 = 21 then (some (Go.bits .and .i64 a1 a2)) else (if a0 = 22 then (some (Go.bits .or .i64 a1 a2)) else (if a0 = 23 then (some (Go.bits .xor .i64 a1 a2)) else (if a0 = 24 then (some (Go.bits .andNot .i64 a1 a2)) else (if a0 = 28 then ((bits_RotateLeft64.f (IntKind.u64.wrap (a1)) (Go.bits .and .i64 a2 63)).bind fun t111 => (some (wrap64 (t111)))) else (if a0 = 29 then ((word_yes.f (a1 == a2)).bind fun t112 => (some t112)) else (if a0 = 30 then ((word_yes.f (a1 != a2)).bind fun t113 => (some t113)) else (if a0 = 31 then ((word_yes.f (decide (a1 < a2))).bind fun t114 => (some t114)) else (if a0 = 32 then ((word_yes.f (decide (a1 ≤ a2))).bind fun t115 => (some t115)) else (if a0 = 33 then ((word_yes.f (decide ((IntKind.u64.wrap (a1)) < (IntKind.u64.wrap (a2))))).bind fun t116 => (some t116)) else (if a0 = 34 then (some (mn a1 a2)) else (if a0 = 35 then (some (mx a1 a2)) else ((word_Wide.f a1 a2).bind fun bt117 => (some bt117.1))))))))))))))))) = some r := h
  clear h
  rw [if_neg c4] at H
  have c4b0 : (a0 == 16) = false := beq_eq_false_iff_ne.mpr c4
  have c4b1 : (a0 != 16) = true := bne_iff_ne.mpr c4
  rw [if_neg c5] at H
  have c5b0 : (a0 == 17) = false := beq_eq_false_iff_ne.mpr c5
  have c5b1 : (a0 != 17) = true := bne_iff_ne.mpr c5
  rw [if_neg c6] at H
  have c6b0 : (a0 == 18) = false := beq_eq_false_iff_ne.mpr c6
  have c6b1 : (a0 != 18) = true := bne_iff_ne.mpr c6
  rw [if_neg c7] at H
  have c7b0 : (a0 == 21) = false := beq_eq_false_iff_ne.mpr c7
  have c7b1 : (a0 != 21) = true := bne_iff_ne.mpr c7
  rw [if_neg c8] at H
  have c8b0 : (a0 == 22) = false := beq_eq_false_iff_ne.mpr c8
  have c8b1 : (a0 != 22) = true := bne_iff_ne.mpr c8
  rw [if_pos c9] at H
  have c9b0 : (a0 == 23) = true := beq_iff_eq.mpr c9
  have c9b1 : (a0 != 23) = false := bne_eq_false_iff_eq.mpr c9
  clear c9
  obtain rfl := Option.some.inj H
  go_enter Tryd.func46, Tryd.ntmps46
  go_wp2
  go_ret
  exact ⟨by first | rfl | (simp [errW_none, errW_some] <;> rfl) | (simp [*, errW_none, errW_some] <;> rfl), by repeat (first | (with_reducible first | exact HB.out | apply below_alloc | apply pw_below_drewN | apply below_drew1) | exact HB.out)⟩
set_option maxHeartbeats 8000000 in
set_option maxRecDepth 100000 in
theorem word_two.calls_6 (a0 : Int) (a1 : Int) (a2 : Int) (r : Int) (w : World) (h : word_two.f a0 a1 a2 = some r) (c4 : ¬ (a0 = 16)) (c5 : ¬ (a0 = 17)) (c6 : ¬ (a0 = 18)) (c7 : ¬ (a0 = 21)) (c8 : ¬ (a0 = 22)) (c9 : ¬ (a0 = 23)) (c10 : a0 = 24) :
    Calls Tryd.prog 46 #[.int .i64 a0, .int .i64 a1, .int .i64 a2] w fun e w' => e = .returned (.int .i64 r) ∧ Below w.heap.size w w' := by
  have HB := Aside0.mk (Below.refl w.heap.size w)
  have H : (if a0 = 16 then (some (wrap64 (a1 + a2))) else (if a0 = 17 then (some (wrap64 (a1 - a2))) else (if a0 = 18 then (some (wrap64 (a1 * a2))) else (if a0 = 21 then (some (Go.bits .and .i64 a1 a2)) else (if a0 = 22 then (some (Go.bits .or .i64 a1 a2)) else (if a0 = 23 then (some (Go.bits .xor .i64 a1 a2)) else (if a0 = 24 then (some (Go.bits .andNot .i64 a1 a2)) else (if a0 = 28 then ((bits_RotateLeft64.f (IntKind.u64.wrap (a1)) (Go.bits .and .i64 a2 63)).bind fun t111 => (some (wrap64 (t111)))) else (if a0 = 29 then ((word_yes.f (a1 == a2)).bind fun t112 => (some t112)) else (if a0 = 30 then ((word_yes.f (a1 != a2)).bind fun t113 => (some t113)) else (if a0 = 31 then ((word_yes.f (decide (a1 < a2))).bind fun t114 => (some t114)) else (if a0 = 32 then ((word_yes.f (decide (a1 ≤ a2))).bind fun t115 => (some t115)) else (if a0 = 33 then ((word_yes.f (decide ((IntKind.u64.wrap (a1)) < (IntKind.u64.wrap (a2))))).bind fun t116 => (some t116)) else (if a0 = 34 then (some (mn a1 a2)) else (if a0 = 35 then (some (mx a1 a2)) else ((word_Wide.f a1 a2).bind fun bt117 => (some bt117.1))))))))))))))))) = some r := h
  clear h
  rw [if_neg c4] at H
  have c4b0 : (a0 == 16) = false := beq_eq_false_iff_ne.mpr c4
  have c4b1 : (a0 != 16) = true := bne_iff_ne.mpr c4
  rw [if_neg c5] at H
  have c5b0 : (a0 == 17) = false := beq_eq_false_iff_ne.mpr c5
  have c5b1 : (a0 != 17) = true := bne_iff_ne.mpr c5
  rw [if_neg c6] at H
  have c6b0 : (a0 == 18) = false := beq_eq_false_iff_ne.mpr c6
  have c6b1 : (a0 != 18) = true := bne_iff_ne.mpr c6
  rw [if_neg c7] at H
  have c7b0 : (a0 == 21) = false := beq_eq_false_iff_ne.mpr c7
  have c7b1 : (a0 != 21) = true := bne_iff_ne.mpr c7
  rw [if_neg c8] at H
  have c8b0 : (a0 == 22) = false := beq_eq_false_iff_ne.mpr c8
  have c8b1 : (a0 != 22) = true := bne_iff_ne.mpr c8
  rw [if_neg c9] at H
  have c9b0 : (a0 == 23) = false := beq_eq_false_iff_ne.mpr c9
  have c9b1 : (a0 != 23) = true := bne_iff_ne.mpr c9
  rw [if_pos c10] at H
  have c10b0 : (a0 == 24) = true := beq_iff_eq.mpr c10
  have c10b1 : (a0 != 24) = false := bne_eq_false_iff_eq.mpr c10
  clear c10
  obtain rfl := Option.some.inj H
  go_enter Tryd.func46, Tryd.ntmps46
  go_wp2
  go_ret
  exact ⟨by first | rfl | (simp [errW_none, errW_some] <;> rfl) | (simp [*, errW_none, errW_some] <;> rfl), by repeat (first | (with_reducible first | exact HB.out | apply below_alloc | apply pw_below_drewN | apply below_drew1) | exact HB.out)⟩
set_option maxHeartbeats 8000000 in
set_option maxRecDepth 100000 in
theorem word_two.calls_7 (a0 : Int) (a1 : Int) (a2 : Int) (r : Int) (w : World) (h : word_two.f a0 a1 a2 = some r) (c4 : ¬ (a0 = 16)) (c5 : ¬ (a0 = 17)) (c6 : ¬ (a0 = 18)) (c7 : ¬ (a0 = 21)) (c8 : ¬ (a0 = 22)) (c9 : ¬ (a0 = 23)) (c10 : ¬ (a0 = 24)) (c11 : a0 = 28) :
    Calls Tryd.prog 46 #[.int .i64 a0, .int .i64 a1, .int .i64 a2] w fun e w' => e = .returned (.int .i64 r) ∧ Below w.heap.size w w' := by
  have HB := Aside0.mk (Below.refl w.heap.size w)
  have H : (if a0 = 16 then (some (wrap64 (a1 + a2))) else (if a0 = 17 then (some (wrap64 (a1 - a2))) else (if a0 = 18 then (some (wrap64 (a1 * a2))) else (if a0 = 21 then (some (Go.bits .and .i64 a1 a2)) else (if a0 = 22 then (some (Go.bits .or .i64 a1 a2)) else (if a0 = 23 then (some (Go.bits .xor .i64 a1 a2)) else (if a0 = 24 then (some (Go.bits .andNot .i64 a1 a2)) else (if a0 = 28 then ((bits_RotateLeft64.f (IntKind.u64.wrap (a1)) (Go.bits .and .i64 a2 63)).bind fun t111 => (some (wrap64 (t111)))) else (if a0 = 29 then ((word_yes.f (a1 == a2)).bind fun t112 => (some t112)) else (if a0 = 30 then ((word_yes.f (a1 != a2)).bind fun t113 => (some t113)) else (if a0 = 31 then ((word_yes.f (decide (a1 < a2))).bind fun t114 => (some t114)) else (if a0 = 32 then ((word_yes.f (decide (a1 ≤ a2))).bind fun t115 => (some t115)) else (if a0 = 33 then ((word_yes.f (decide ((IntKind.u64.wrap (a1)) < (IntKind.u64.wrap (a2))))).bind fun t116 => (some t116)) else (if a0 = 34 then (some (mn a1 a2)) else (if a0 = 35 then (some (mx a1 a2)) else ((word_Wide.f a1 a2).bind fun bt117 => (some bt117.1))))))))))))))))) = some r := h
  clear h
  rw [if_neg c4] at H
  have c4b0 : (a0 == 16) = false := beq_eq_false_iff_ne.mpr c4
  have c4b1 : (a0 != 16) = true := bne_iff_ne.mpr c4
  rw [if_neg c5] at H
  have c5b0 : (a0 == 17) = false := beq_eq_false_iff_ne.mpr c5
  have c5b1 : (a0 != 17) = true := bne_iff_ne.mpr c5
  rw [if_neg c6] at H
  have c6b0 : (a0 == 18) = false := beq_eq_false_iff_ne.mpr c6
  have c6b1 : (a0 != 18) = true := bne_iff_ne.mpr c6
  rw [if_neg c7] at H
  have c7b0 : (a0 == 21) = false := beq_eq_false_iff_ne.mpr c7
  have c7b1 : (a0 != 21) = true := bne_iff_ne.mpr c7
  rw [if_neg c8] at H
  have c8b0 : (a0 == 22) = false := beq_eq_false_iff_ne.mpr c8
  have c8b1 : (a0 != 22) = true := bne_iff_ne.mpr c8
  rw [if_neg c9] at H
  have c9b0 : (a0 == 23) = false := beq_eq_false_iff_ne.mpr c9
  have c9b1 : (a0 != 23) = true := bne_iff_ne.mpr c9
  rw [if_neg c10] at H
  have c10b0 : (a0 == 24) = false := beq_eq_false_iff_ne.mpr c10
  have c10b1 : (a0 != 24) = true := bne_iff_ne.mpr c10
  rw [if_pos c11] at H
  have c11b0 : (a0 == 28) = true := beq_iff_eq.mpr c11
  have c11b1 : (a0 != 28) = false := bne_eq_false_iff_eq.mpr c11
  clear c11
  replace H := Option.bind_eq_some_iff.mp H
  obtain ⟨t111, A120, H⟩ := H
  replace H : (some (wrap64 (t111))) = some r := H
  have A12 := Aside0.mk A120
  clear A120
  obtain rfl := Option.some.inj H
  go_enter Tryd.func46, Tryd.ntmps46
  go_wp2_with (first | ((with_reducible refine gate_callee (f := 62) rfl ?_); refine goesL_ (some 51) rfl rfl Tryd.func62 (by kernel_rfl) rfl #[.int .u64 (IntKind.u64.wrap (a1)), .int .i64 (Go.bits .and .i64 a2 63)] rfl (by (try simp only [List.map_toArray, List.map_cons, List.map_nil]); first | done | rfl | (simp only [List.length_drop, List.length_take]; rfl)) ?_; (with_reducible refine (bits_RotateLeft64.calls (IntKind.u64.wrap (a1)) (Go.bits .and .i64 a2 63) t111 _ A12.out).mono ?_); rintro e w' ⟨rfl, ⟨nd, rfl⟩⟩; refine ⟨_, rfl, ?_⟩))
  go_ret
  exact ⟨by first | rfl | (simp [errW_none, errW_some] <;> rfl) | (simp [*, errW_none, errW_some] <;> rfl), by repeat (first | (with_reducible first | exact HB.out | apply below_alloc | apply pw_below_drewN | apply below_drew1) | exact HB.out)⟩
set_option maxHeartbeats 8000000 in
set_option maxRecDepth 100000 in
theorem word_two.calls_8 (a0 : Int) (a1 : Int) (a2 : Int) (r : Int) (w : World) (h : word_two.f a0 a1 a2 = some r) (c4 : ¬ (a0 = 16)) (c5 : ¬ (a0 = 17)) (c6 : ¬ (a0 = 18)) (c7 : ¬ (a0 = 21)) (c8 : ¬ (a0 = 22)) (c9 : ¬ (a0 = 23)) (c10 : ¬ (a0 = 24)) (c11 : ¬ (a0 = 28)) (c13 : a0 = 29) :
    Calls Tryd.prog 46 #[.int .i64 a0, .int .i64 a1, .int .i64 a2] w fun e w' => e = .returned (.int .i64 r) ∧ Below w.heap.size w w' := by
  have HB := Aside0.mk (Below.refl w.heap.size w)
  have H : (if a0 = 16 then (some (wrap64 (a1 + a2))) else (if a0 = 17 then (some (wrap64 (a1 - a2))) else (if a0 = 18 then (some (wrap64 (a1 * a2))) else (if a0 = 21 then (some (Go.bits .and .i64 a1 a2)) else (if a0 = 22 then (some (Go.bits .or .i64 a1 a2)) else (if a0 = 23 then (some (Go.bits .xor .i64 a1 a2)) else (if a0 = 24 then (some (Go.bits .andNot .i64 a1 a2)) else (if a0 = 28 then ((bits_RotateLeft64.f (IntKind.u64.wrap (a1)) (Go.bits .and .i64 a2 63)).bind fun t111 => (some (wrap64 (t111)))) else (if a0 = 29 then ((word_yes.f (a1 == a2)).bind fun t112 => (some t112)) else (if a0 = 30 then ((word_yes.f (a1 != a2)).bind fun t113 => (some t113)) else (if a0 = 31 then ((word_yes.f (decide (a1 < a2))).bind fun t114 => (some t114)) else (if a0 = 32 then ((word_yes.f (decide (a1 ≤ a2))).bind fun t115 => (some t115)) else (if a0 = 33 then ((word_yes.f (decide ((IntKind.u64.wrap (a1)) < (IntKind.u64.wrap (a2))))).bind fun t116 => (some t116)) else (if a0 = 34 then (some (mn a1 a2)) else (if a0 = 35 then (some (mx a1 a2)) else ((word_Wide.f a1 a2).bind fun bt117 => (some bt117.1))))))))))))))))) = some r := h
  clear h
  rw [if_neg c4] at H
  have c4b0 : (a0 == 16) = false := beq_eq_false_iff_ne.mpr c4
  have c4b1 : (a0 != 16) = true := bne_iff_ne.mpr c4
  rw [if_neg c5] at H
  have c5b0 : (a0 == 17) = false := beq_eq_false_iff_ne.mpr c5
  have c5b1 : (a0 != 17) = true := bne_iff_ne.mpr c5
  rw [if_neg c6] at H
  have c6b0 : (a0 == 18) = false := beq_eq_false_iff_ne.mpr c6
  have c6b1 : (a0 != 18) = true := bne_iff_ne.mpr c6
  rw [if_neg c7] at H
  have c7b0 : (a0 == 21) = false := beq_eq_false_iff_ne.mpr c7
  have c7b1 : (a0 != 21) = true := bne_iff_ne.mpr c7
  rw [if_neg c8] at H
  have c8b0 : (a0 == 22) = false := beq_eq_false_iff_ne.mpr c8
  have c8b1 : (a0 != 22) = true := bne_iff_ne.mpr c8
  rw [if_neg c9] at H
  have c9b0 : (a0 == 23) = false := beq_eq_false_iff_ne.mpr c9
  have c9b1 : (a0 != 23) = true := bne_iff_ne.mpr c9
  rw [if_neg c10] at H
  have c10b0 : (a0 == 24) = false := beq_eq_false_iff_ne.mpr c10
  have c10b1 : (a0 != 24) = true := bne_iff_ne.mpr c10
  rw [if_neg c11] at H
  have c11b0 : (a0 == 28) = false := beq_eq_false_iff_ne.mpr c11
  have c11b1 : (a0 != 28) = true := bne_iff_ne.mpr c11
  rw [if_pos c13] at H
  have c13b0 : (a0 == 29) = true := beq_iff_eq.mpr c13
  have c13b1 : (a0 != 29) = false := bne_eq_false_iff_eq.mpr c13
  clear c13
  replace H := Option.bind_eq_some_iff.mp H
  obtain ⟨t112, A140, H⟩ := H
  replace H : (some t112) = some r := H
  have A14 := Aside0.mk A140
  clear A140
  obtain rfl := Option.some.inj H
  go_enter Tryd.func46, Tryd.ntmps46
  go_wp2_with (first | ((with_reducible refine gate_callee (f := 61) rfl ?_); refine goesL_ (some 58) rfl rfl Tryd.func61 (by kernel_rfl) rfl #[.bool (a1 == a2)] rfl (by (try simp only [List.map_toArray, List.map_cons, List.map_nil]); first | done | rfl | (simp only [List.length_drop, List.length_take]; rfl)) ?_; (with_reducible refine (word_yes.calls (a1 == a2) t112 _ A14.out).mono ?_); rintro e w' ⟨rfl, ⟨nd, rfl⟩⟩; refine ⟨_, rfl, ?_⟩))
  go_ret
  exact ⟨by first | rfl | (simp [errW_none, errW_some] <;> rfl) | (simp [*, errW_none, errW_some] <;> rfl), by repeat (first | (with_reducible first | exact HB.out | apply below_alloc | apply pw_below_drewN | apply below_drew1) | exact HB.out)⟩
set_option maxHeartbeats 8000000 in
set_option maxRecDepth 100000 in
theorem word_two.calls_9 (a0 : Int) (a1 : Int) (a2 : Int) (r : Int) (w : World) (h : word_two.f a0 a1 a2 = some r) (c4 : ¬ (a0 = 16)) (c5 : ¬ (a0 = 17)) (c6 : ¬ (a0 = 18)) (c7 : ¬ (a0 = 21)) (c8 : ¬ (a0 = 22)) (c9 : ¬ (a0 = 23)) (c10 : ¬ (a0 = 24)) (c11 : ¬ (a0 = 28)) (c13 : ¬ (a0 = 29)) (c15 : a0 = 30) :
    Calls Tryd.prog 46 #[.int .i64 a0, .int .i64 a1, .int .i64 a2] w fun e w' => e = .returned (.int .i64 r) ∧ Below w.heap.size w w' := by
  have HB := Aside0.mk (Below.refl w.heap.size w)
  have H : (if a0 = 16 then (some (wrap64 (a1 + a2))) else (if a0 = 17 then (some (wrap64 (a1 - a2))) else (if a0 = 18 then (some (wrap64 (a1 * a2))) else (if a0 = 21 then (some (Go.bits .and .i64 a1 a2)) else (if a0 = 22 then (some (Go.bits .or .i64 a1 a2)) else (if a0 = 23 then (some (Go.bits .xor .i64 a1 a2)) else (if a0 = 24 then (some (Go.bits .andNot .i64 a1 a2)) else (if a0 = 28 then ((bits_RotateLeft64.f (IntKind.u64.wrap (a1)) (Go.bits .and .i64 a2 63)).bind fun t111 => (some (wrap64 (t111)))) else (if a0 = 29 then ((word_yes.f (a1 == a2)).bind fun t112 => (some t112)) else (if a0 = 30 then ((word_yes.f (a1 != a2)).bind fun t113 => (some t113)) else (if a0 = 31 then ((word_yes.f (decide (a1 < a2))).bind fun t114 => (some t114)) else (if a0 = 32 then ((word_yes.f (decide (a1 ≤ a2))).bind fun t115 => (some t115)) else (if a0 = 33 then ((word_yes.f (decide ((IntKind.u64.wrap (a1)) < (IntKind.u64.wrap (a2))))).bind fun t116 => (some t116)) else (if a0 = 34 then (some (mn a1 a2)) else (if a0 = 35 then (some (mx a1 a2)) else ((word_Wide.f a1 a2).bind fun bt117 => (some bt117.1))))))))))))))))) = some r := h
  clear h
  rw [if_neg c4] at H
  have c4b0 : (a0 == 16) = false := beq_eq_false_iff_ne.mpr c4
  have c4b1 : (a0 != 16) = true := bne_iff_ne.mpr c4
  rw [if_neg c5] at H
  have c5b0 : (a0 == 17) = false := beq_eq_false_iff_ne.mpr c5
  have c5b1 : (a0 != 17) = true := bne_iff_ne.mpr c5
  rw [if_neg c6] at H
  have c6b0 : (a0 == 18) = false := beq_eq_false_iff_ne.mpr c6
  have c6b1 : (a0 != 18) = true := bne_iff_ne.mpr c6
  rw [if_neg c7] at H
  have c7b0 : (a0 == 21) = false := beq_eq_false_iff_ne.mpr c7
  have c7b1 : (a0 != 21) = true := bne_iff_ne.mpr c7
  rw [if_neg c8] at H
  have c8b0 : (a0 == 22) = false := beq_eq_false_iff_ne.mpr c8
  have c8b1 : (a0 != 22) = true := bne_iff_ne.mpr c8
  rw [if_neg c9] at H
  have c9b0 : (a0 == 23) = false := beq_eq_false_iff_ne.mpr c9
  have c9b1 : (a0 != 23) = true := bne_iff_ne.mpr c9
  rw [if_neg c10] at H
  have c10b0 : (a0 == 24) = false := beq_eq_false_iff_ne.mpr c10
  have c10b1 : (a0 != 24) = true := bne_iff_ne.mpr c10
  rw [if_neg c11] at H
  have c11b0 : (a0 == 28) = false := beq_eq_false_iff_ne.mpr c11
  have c11b1 : (a0 != 28) = true := bne_iff_ne.mpr c11
  rw [if_neg c13] at H
  have c13b0 : (a0 == 29) = false := beq_eq_false_iff_ne.mpr c13
  have c13b1 : (a0 != 29) = true := bne_iff_ne.mpr c13
  rw [if_pos c15] at H
  have c15b0 : (a0 == 30) = true := beq_iff_eq.mpr c15
  have c15b1 : (a0 != 30) = false := bne_eq_false_iff_eq.mpr c15
  clear c15
  replace H := Option.bind_eq_some_iff.mp H
  obtain ⟨t113, A160, H⟩ := H
  replace H : (some t113) = some r := H
  have A16 := Aside0.mk A160
  clear A160
  obtain rfl := Option.some.inj H
  go_enter Tryd.func46, Tryd.ntmps46
  go_wp2_with (first | ((with_reducible refine gate_callee (f := 61) rfl ?_); refine goesL_ (some 64) rfl rfl Tryd.func61 (by kernel_rfl) rfl #[.bool (a1 != a2)] rfl (by (try simp only [List.map_toArray, List.map_cons, List.map_nil]); first | done | rfl | (simp only [List.length_drop, List.length_take]; rfl)) ?_; (with_reducible refine (word_yes.calls (a1 != a2) t113 _ A16.out).mono ?_); rintro e w' ⟨rfl, ⟨nd, rfl⟩⟩; refine ⟨_, rfl, ?_⟩))
  go_ret
  exact ⟨by first | rfl | (simp [errW_none, errW_some] <;> rfl) | (simp [*, errW_none, errW_some] <;> rfl), by repeat (first | (with_reducible first | exact HB.out | apply below_alloc | apply pw_below_drewN | apply below_drew1) | exact HB.out)⟩
set_option maxHeartbeats 8000000 in
set_option maxRecDepth 100000 in
theorem word_two.calls_10 (a0 : Int) (a1 : Int) (a2 : Int) (r : Int) (w : World) (h : word_two.f a0 a1 a2 = some r) (c4 : ¬ (a0 = 16)) (c5 : ¬ (a0 = 17)) (c6 : ¬ (a0 = 18)) (c7 : ¬ (a0 = 21)) (c8 : ¬ (a0 = 22)) (c9 : ¬ (a0 = 23)) (c10 : ¬ (a0 = 24)) (c11 : ¬ (a0 = 28)) (c13 : ¬ (a0 = 29)) (c15 : ¬ (a0 = 30)) (c17 : a0 = 31) :
    Calls Tryd.prog 46 #[.int .i64 a0, .int .i64 a1, .int .i64 a2] w fun e w' => e = .returned (.int .i64 r) ∧ Below w.heap.size w w' := by
  have HB := Aside0.mk (Below.refl w.heap.size w)
  have H : (if a0 = 16 then (some (wrap64 (a1 + a2))) else (if a0 = 17 then (some (wrap64 (a1 - a2))) else (if a0 = 18 then (some (wrap64 (a1 * a2))) else (if a0 = 21 then (some (Go.bits .and .i64 a1 a2)) else (if a0 = 22 then (some (Go.bits .or .i64 a1 a2)) else (if a0 = 23 then (some (Go.bits .xor .i64 a1 a2)) else (if a0 = 24 then (some (Go.bits .andNot .i64 a1 a2)) else (if a0 = 28 then ((bits_RotateLeft64.f (IntKind.u64.wrap (a1)) (Go.bits .and .i64 a2 63)).bind fun t111 => (some (wrap64 (t111)))) else (if a0 = 29 then ((word_yes.f (a1 == a2)).bind fun t112 => (some t112)) else (if a0 = 30 then ((word_yes.f (a1 != a2)).bind fun t113 => (some t113)) else (if a0 = 31 then ((word_yes.f (decide (a1 < a2))).bind fun t114 => (some t114)) else (if a0 = 32 then ((word_yes.f (decide (a1 ≤ a2))).bind fun t115 => (some t115)) else (if a0 = 33 then ((word_yes.f (decide ((IntKind.u64.wrap (a1)) < (IntKind.u64.wrap (a2))))).bind fun t116 => (some t116)) else (if a0 = 34 then (some (mn a1 a2)) else (if a0 = 35 then (some (mx a1 a2)) else ((word_Wide.f a1 a2).bind fun bt117 => (some bt117.1))))))))))))))))) = some r := h
  clear h
  rw [if_neg c4] at H
  have c4b0 : (a0 == 16) = false := beq_eq_false_iff_ne.mpr c4
  have c4b1 : (a0 != 16) = true := bne_iff_ne.mpr c4
  rw [if_neg c5] at H
  have c5b0 : (a0 == 17) = false := beq_eq_false_iff_ne.mpr c5
  have c5b1 : (a0 != 17) = true := bne_iff_ne.mpr c5
  rw [if_neg c6] at H
  have c6b0 : (a0 == 18) = false := beq_eq_false_iff_ne.mpr c6
  have c6b1 : (a0 != 18) = true := bne_iff_ne.mpr c6
  rw [if_neg c7] at H
  have c7b0 : (a0 == 21) = false := beq_eq_false_iff_ne.mpr c7
  have c7b1 : (a0 != 21) = true := bne_iff_ne.mpr c7
  rw [if_neg c8] at H
  have c8b0 : (a0 == 22) = false := beq_eq_false_iff_ne.mpr c8
  have c8b1 : (a0 != 22) = true := bne_iff_ne.mpr c8
  rw [if_neg c9] at H
  have c9b0 : (a0 == 23) = false := beq_eq_false_iff_ne.mpr c9
  have c9b1 : (a0 != 23) = true := bne_iff_ne.mpr c9
  rw [if_neg c10] at H
  have c10b0 : (a0 == 24) = false := beq_eq_false_iff_ne.mpr c10
  have c10b1 : (a0 != 24) = true := bne_iff_ne.mpr c10
  rw [if_neg c11] at H
  have c11b0 : (a0 == 28) = false := beq_eq_false_iff_ne.mpr c11
  have c11b1 : (a0 != 28) = true := bne_iff_ne.mpr c11
  rw [if_neg c13] at H
  have c13b0 : (a0 == 29) = false := beq_eq_false_iff_ne.mpr c13
  have c13b1 : (a0 != 29) = true := bne_iff_ne.mpr c13
  rw [if_neg c15] at H
  have c15b0 : (a0 == 30) = false := beq_eq_false_iff_ne.mpr c15
  have c15b1 : (a0 != 30) = true := bne_iff_ne.mpr c15
  rw [if_pos c17] at H
  have c17b0 : (a0 == 31) = true := beq_iff_eq.mpr c17
  have c17b1 : (a0 != 31) = false := bne_eq_false_iff_eq.mpr c17
  clear c17
  replace H := Option.bind_eq_some_iff.mp H
  obtain ⟨t114, A180, H⟩ := H
  replace H : (some t114) = some r := H
  have A18 := Aside0.mk A180
  clear A180
  obtain rfl := Option.some.inj H
  go_enter Tryd.func46, Tryd.ntmps46
  go_wp2_with (first | ((with_reducible refine gate_callee (f := 61) rfl ?_); refine goesL_ (some 70) rfl rfl Tryd.func61 (by kernel_rfl) rfl #[.bool (decide (a1 < a2))] rfl (by (try simp only [List.map_toArray, List.map_cons, List.map_nil]); first | done | rfl | (simp only [List.length_drop, List.length_take]; rfl)) ?_; (with_reducible refine (word_yes.calls (decide (a1 < a2)) t114 _ A18.out).mono ?_); rintro e w' ⟨rfl, ⟨nd, rfl⟩⟩; refine ⟨_, rfl, ?_⟩))
  go_ret
  exact ⟨by first | rfl | (simp [errW_none, errW_some] <;> rfl) | (simp [*, errW_none, errW_some] <;> rfl), by repeat (first | (with_reducible first | exact HB.out | apply below_alloc | apply pw_below_drewN | apply below_drew1) | exact HB.out)⟩
set_option maxHeartbeats 8000000 in
set_option maxRecDepth 100000 in
theorem word_two.calls_11 (a0 : Int) (a1 : Int) (a2 : Int) (r : Int) (w : World) (h : word_two.f a0 a1 a2 = some r) (c4 : ¬ (a0 = 16)) (c5 : ¬ (a0 = 17)) (c6 : ¬ (a0 = 18)) (c7 : ¬ (a0 = 21)) (c8 : ¬ (a0 = 22)) (c9 : ¬ (a0 = 23)) (c10 : ¬ (a0 = 24)) (c11 : ¬ (a0 = 28)) (c13 : ¬ (a0 = 29)) (c15 : ¬ (a0 = 30)) (c17 : ¬ (a0 = 31)) (c19 : a0 = 32) :
    Calls Tryd.prog 46 #[.int .i64 a0, .int .i64 a1, .int .i64 a2] w fun e w' => e = .returned (.int .i64 r) ∧ Below w.heap.size w w' := by
  have HB := Aside0.mk (Below.refl w.heap.size w)
  have H : (if a0 = 16 then (some (wrap64 (a1 + a2))) else (if a0 = 17 then (some (wrap64 (a1 - a2))) else (if a0 = 18 then (some (wrap64 (a1 * a2))) else (if a0 = 21 then (some (Go.bits .and .i64 a1 a2)) else (if a0 = 22 then (some (Go.bits .or .i64 a1 a2)) else (if a0 = 23 then (some (Go.bits .xor .i64 a1 a2)) else (if a0 = 24 then (some (Go.bits .andNot .i64 a1 a2)) else (if a0 = 28 then ((bits_RotateLeft64.f (IntKind.u64.wrap (a1)) (Go.bits .and .i64 a2 63)).bind fun t111 => (some (wrap64 (t111)))) else (if a0 = 29 then ((word_yes.f (a1 == a2)).bind fun t112 => (some t112)) else (if a0 = 30 then ((word_yes.f (a1 != a2)).bind fun t113 => (some t113)) else (if a0 = 31 then ((word_yes.f (decide (a1 < a2))).bind fun t114 => (some t114)) else (if a0 = 32 then ((word_yes.f (decide (a1 ≤ a2))).bind fun t115 => (some t115)) else (if a0 = 33 then ((word_yes.f (decide ((IntKind.u64.wrap (a1)) < (IntKind.u64.wrap (a2))))).bind fun t116 => (some t116)) else (if a0 = 34 then (some (mn a1 a2)) else (if a0 = 35 then (some (mx a1 a2)) else ((word_Wide.f a1 a2).bind fun bt117 => (some bt117.1))))))))))))))))) = some r := h
  clear h
  rw [if_neg c4] at H
  have c4b0 : (a0 == 16) = false := beq_eq_false_iff_ne.mpr c4
  have c4b1 : (a0 != 16) = true := bne_iff_ne.mpr c4
  rw [if_neg c5] at H
  have c5b0 : (a0 == 17) = false := beq_eq_false_iff_ne.mpr c5
  have c5b1 : (a0 != 17) = true := bne_iff_ne.mpr c5
  rw [if_neg c6] at H
  have c6b0 : (a0 == 18) = false := beq_eq_false_iff_ne.mpr c6
  have c6b1 : (a0 != 18) = true := bne_iff_ne.mpr c6
  rw [if_neg c7] at H
  have c7b0 : (a0 == 21) = false := beq_eq_false_iff_ne.mpr c7
  have c7b1 : (a0 != 21) = true := bne_iff_ne.mpr c7
  rw [if_neg c8] at H
  have c8b0 : (a0 == 22) = false := beq_eq_false_iff_ne.mpr c8
  have c8b1 : (a0 != 22) = true := bne_iff_ne.mpr c8
  rw [if_neg c9] at H
  have c9b0 : (a0 == 23) = false := beq_eq_false_iff_ne.mpr c9
  have c9b1 : (a0 != 23) = true := bne_iff_ne.mpr c9
  rw [if_neg c10] at H
  have c10b0 : (a0 == 24) = false := beq_eq_false_iff_ne.mpr c10
  have c10b1 : (a0 != 24) = true := bne_iff_ne.mpr c10
  rw [if_neg c11] at H
  have c11b0 : (a0 == 28) = false := beq_eq_false_iff_ne.mpr c11
  have c11b1 : (a0 != 28) = true := bne_iff_ne.mpr c11
  rw [if_neg c13] at H
  have c13b0 : (a0 == 29) = false := beq_eq_false_iff_ne.mpr c13
  have c13b1 : (a0 != 29) = true := bne_iff_ne.mpr c13
  rw [if_neg c15] at H
  have c15b0 : (a0 == 30) = false := beq_eq_false_iff_ne.mpr c15
  have c15b1 : (a0 != 30) = true := bne_iff_ne.mpr c15
  rw [if_neg c17] at H
  have c17b0 : (a0 == 31) = false := beq_eq_false_iff_ne.mpr c17
  have c17b1 : (a0 != 31) = true := bne_iff_ne.mpr c17
  rw [if_pos c19] at H
  have c19b0 : (a0 == 32) = true := beq_iff_eq.mpr c19
  have c19b1 : (a0 != 32) = false := bne_eq_false_iff_eq.mpr c19
  clear c19
  replace H := Option.bind_eq_some_iff.mp H
  obtain ⟨t115, A200, H⟩ := H
  replace H : (some t115) = some r := H
  have A20 := Aside0.mk A200
  clear A200
  obtain rfl := Option.some.inj H
  go_enter Tryd.func46, Tryd.ntmps46
  go_wp2_with (first | ((with_reducible refine gate_callee (f := 61) rfl ?_); refine goesL_ (some 76) rfl rfl Tryd.func61 (by kernel_rfl) rfl #[.bool (decide (a1 ≤ a2))] rfl (by (try simp only [List.map_toArray, List.map_cons, List.map_nil]); first | done | rfl | (simp only [List.length_drop, List.length_take]; rfl)) ?_; (with_reducible refine (word_yes.calls (decide (a1 ≤ a2)) t115 _ A20.out).mono ?_); rintro e w' ⟨rfl, ⟨nd, rfl⟩⟩; refine ⟨_, rfl, ?_⟩))
  go_ret
  exact ⟨by first | rfl | (simp [errW_none, errW_some] <;> rfl) | (simp [*, errW_none, errW_some] <;> rfl), by repeat (first | (with_reducible first | exact HB.out | apply below_alloc | apply pw_below_drewN | apply below_drew1) | exact HB.out)⟩
set_option maxHeartbeats 8000000 in
set_option maxRecDepth 100000 in
theorem word_two.calls_12 (a0 : Int) (a1 : Int) (a2 : Int) (r : Int) (w : World) (h : word_two.f a0 a1 a2 = some r) (c4 : ¬ (a0 = 16)) (c5 : ¬ (a0 = 17)) (c6 : ¬ (a0 = 18)) (c7 : ¬ (a0 = 21)) (c8 : ¬ (a0 = 22)) (c9 : ¬ (a0 = 23)) (c10 : ¬ (a0 = 24)) (c11 : ¬ (a0 = 28)) (c13 : ¬ (a0 = 29)) (c15 : ¬ (a0 = 30)) (c17 : ¬ (a0 = 31)) (c19 : ¬ (a0 = 32)) (c21 : a0 = 33) :
    Calls Tryd.prog 46 #[.int .i64 a0, .int .i64 a1, .int .i64 a2] w fun e w' => e = .returned (.int .i64 r) ∧ Below w.heap.size w w' := by
  have HB := Aside0.mk (Below.refl w.heap.size w)
  have H : (if a0 = 16 then (some (wrap64 (a1 + a2))) else (if a0 = 17 then (some (wrap64 (a1 - a2))) else (if a0 = 18 then (some (wrap64 (a1 * a2))) else (if a0 = 21 then (some (Go.bits .and .i64 a1 a2)) else (if a0 = 22 then (some (Go.bits .or .i64 a1 a2)) else (if a0 = 23 then (some (Go.bits .xor .i64 a1 a2)) else (if a0 = 24 then (some (Go.bits .andNot .i64 a1 a2)) else (if a0 = 28 then ((bits_RotateLeft64.f (IntKind.u64.wrap (a1)) (Go.bits .and .i64 a2 63)).bind fun t111 => (some (wrap64 (t111)))) else (if a0 = 29 then ((word_yes.f (a1 == a2)).bind fun t112 => (some t112)) else (if a0 = 30 then ((word_yes.f (a1 != a2)).bind fun t113 => (some t113)) else (if a0 = 31 then ((word_yes.f (decide (a1 < a2))).bind fun t114 => (some t114)) else (if a0 = 32 then ((word_yes.f (decide (a1 ≤ a2))).bind fun t115 => (some t115)) else (if a0 = 33 then ((word_yes.f (decide ((IntKind.u64.wrap (a1)) < (IntKind.u64.wrap (a2))))).bind fun t116 => (some t116)) else (if a0 = 34 then (some (mn a1 a2)) else (if a0 = 35 then (some (mx a1 a2)) else ((word_Wide.f a1 a2).bind fun bt117 => (some bt117.1))))))))))))))))) = some r := h
  clear h
  rw [if_neg c4] at H
  have c4b0 : (a0 == 16) = false := beq_eq_false_iff_ne.mpr c4
  have c4b1 : (a0 != 16) = true := bne_iff_ne.mpr c4
  rw [if_neg c5] at H
  have c5b0 : (a0 == 17) = false := beq_eq_false_iff_ne.mpr c5
  have c5b1 : (a0 != 17) = true := bne_iff_ne.mpr c5
  rw [if_neg c6] at H
  have c6b0 : (a0 == 18) = false := beq_eq_false_iff_ne.mpr c6
  have c6b1 : (a0 != 18) = true := bne_iff_ne.mpr c6
  rw [if_neg c7] at H
  have c7b0 : (a0 == 21) = false := beq_eq_false_iff_ne.mpr c7
  have c7b1 : (a0 != 21) = true := bne_iff_ne.mpr c7
  rw [if_neg c8] at H
  have c8b0 : (a0 == 22) = false := beq_eq_false_iff_ne.mpr c8
  have c8b1 : (a0 != 22) = true := bne_iff_ne.mpr c8
  rw [if_neg c9] at H
  have c9b0 : (a0 == 23) = false := beq_eq_false_iff_ne.mpr c9
  have c9b1 : (a0 != 23) = true := bne_iff_ne.mpr c9
  rw [if_neg c10] at H
  have c10b0 : (a0 == 24) = false := beq_eq_false_iff_ne.mpr c10
  have c10b1 : (a0 != 24) = true := bne_iff_ne.mpr c10
  rw [if_neg c11] at H
  have c11b0 : (a0 == 28) = false := beq_eq_false_iff_ne.mpr c11
  have c11b1 : (a0 != 28) = true := bne_iff_ne.mpr c11
  rw [if_neg c13] at H
  have c13b0 : (a0 == 29) = false := beq_eq_false_iff_ne.mpr c13
  have c13b1 : (a0 != 29) = true := bne_iff_ne.mpr c13
  rw [if_neg c15] at H
  have c15b0 : (a0 == 30) = false := beq_eq_false_iff_ne.mpr c15
  have c15b1 : (a0 != 30) = true := bne_iff_ne.mpr c15
  rw [if_neg c17] at H
  have c17b0 : (a0 == 31) = false := beq_eq_false_iff_ne.mpr c17
  have c17b1 : (a0 != 31) = true := bne_iff_ne.mpr c17
  rw [if_neg c19] at H
  have c19b0 : (a0 == 32) = false := beq_eq_false_iff_ne.mpr c19
  have c19b1 : (a0 != 32) = true := bne_iff_ne.mpr c19
  rw [if_pos c21] at H
  have c21b0 : (a0 == 33) = true := beq_iff_eq.mpr c21
  have c21b1 : (a0 != 33) = false := bne_eq_false_iff_eq.mpr c21
  clear c21
  replace H := Option.bind_eq_some_iff.mp H
  obtain ⟨t116, A220, H⟩ := H
  replace H : (some t116) = some r := H
  have A22 := Aside0.mk A220
  clear A220
  obtain rfl := Option.some.inj H
  go_enter Tryd.func46, Tryd.ntmps46
  go_wp2_with (first | ((with_reducible refine gate_callee (f := 61) rfl ?_); refine goesL_ (some 84) rfl rfl Tryd.func61 (by kernel_rfl) rfl #[.bool (decide ((IntKind.u64.wrap (a1)) < (IntKind.u64.wrap (a2))))] rfl (by (try simp only [List.map_toArray, List.map_cons, List.map_nil]); first | done | rfl | (simp only [List.length_drop, List.length_take]; rfl)) ?_; (with_reducible refine (word_yes.calls (decide ((IntKind.u64.wrap (a1)) < (IntKind.u64.wrap (a2)))) t116 _ A22.out).mono ?_); rintro e w' ⟨rfl, ⟨nd, rfl⟩⟩; refine ⟨_, rfl, ?_⟩))
  go_ret
  exact ⟨by first | rfl | (simp [errW_none, errW_some] <;> rfl) | (simp [*, errW_none, errW_some] <;> rfl), by repeat (first | (with_reducible first | exact HB.out | apply below_alloc | apply pw_below_drewN | apply below_drew1) | exact HB.out)⟩
set_option maxHeartbeats 8000000 in
set_option maxRecDepth 100000 in
theorem word_two.calls_13 (a0 : Int) (a1 : Int) (a2 : Int) (r : Int) (w : World) (h : word_two.f a0 a1 a2 = some r) (c4 : ¬ (a0 = 16)) (c5 : ¬ (a0 = 17)) (c6 : ¬ (a0 = 18)) (c7 : ¬ (a0 = 21)) (c8 : ¬ (a0 = 22)) (c9 : ¬ (a0 = 23)) (c10 : ¬ (a0 = 24)) (c11 : ¬ (a0 = 28)) (c13 : ¬ (a0 = 29)) (c15 : ¬ (a0 = 30)) (c17 : ¬ (a0 = 31)) (c19 : ¬ (a0 = 32)) (c21 : ¬ (a0 = 33)) (c23 : a0 = 34) :
    Calls Tryd.prog 46 #[.int .i64 a0, .int .i64 a1, .int .i64 a2] w fun e w' => e = .returned (.int .i64 r) ∧ Below w.heap.size w w' := by
  have HB := Aside0.mk (Below.refl w.heap.size w)
  have H : (if a0 = 16 then (some (wrap64 (a1 + a2))) else (if a0 = 17 then (some (wrap64 (a1 - a2))) else (if a0 = 18 then (some (wrap64 (a1 * a2))) else (if a0 = 21 then (some (Go.bits .and .i64 a1 a2)) else (if a0 = 22 then (some (Go.bits .or .i64 a1 a2)) else (if a0 = 23 then (some (Go.bits .xor .i64 a1 a2)) else (if a0 = 24 then (some (Go.bits .andNot .i64 a1 a2)) else (if a0 = 28 then ((bits_RotateLeft64.f (IntKind.u64.wrap (a1)) (Go.bits .and .i64 a2 63)).bind fun t111 => (some (wrap64 (t111)))) else (if a0 = 29 then ((word_yes.f (a1 == a2)).bind fun t112 => (some t112)) else (if a0 = 30 then ((word_yes.f (a1 != a2)).bind fun t113 => (some t113)) else (if a0 = 31 then ((word_yes.f (decide (a1 < a2))).bind fun t114 => (some t114)) else (if a0 = 32 then ((word_yes.f (decide (a1 ≤ a2))).bind fun t115 => (some t115)) else (if a0 = 33 then ((word_yes.f (decide ((IntKind.u64.wrap (a1)) < (IntKind.u64.wrap (a2))))).bind fun t116 => (some t116)) else (if a0 = 34 then (some (mn a1 a2)) else (if a0 = 35 then (some (mx a1 a2)) else ((word_Wide.f a1 a2).bind fun bt117 => (some bt117.1))))))))))))))))) = some r := h
  clear h
  rw [if_neg c4] at H
  have c4b0 : (a0 == 16) = false := beq_eq_false_iff_ne.mpr c4
  have c4b1 : (a0 != 16) = true := bne_iff_ne.mpr c4
  rw [if_neg c5] at H
  have c5b0 : (a0 == 17) = false := beq_eq_false_iff_ne.mpr c5
  have c5b1 : (a0 != 17) = true := bne_iff_ne.mpr c5
  rw [if_neg c6] at H
  have c6b0 : (a0 == 18) = false := beq_eq_false_iff_ne.mpr c6
  have c6b1 : (a0 != 18) = true := bne_iff_ne.mpr c6
  rw [if_neg c7] at H
  have c7b0 : (a0 == 21) = false := beq_eq_false_iff_ne.mpr c7
  have c7b1 : (a0 != 21) = true := bne_iff_ne.mpr c7
  rw [if_neg c8] at H
  have c8b0 : (a0 == 22) = false := beq_eq_false_iff_ne.mpr c8
  have c8b1 : (a0 != 22) = true := bne_iff_ne.mpr c8
  rw [if_neg c9] at H
  have c9b0 : (a0 == 23) = false := beq_eq_false_iff_ne.mpr c9
  have c9b1 : (a0 != 23) = true := bne_iff_ne.mpr c9
  rw [if_neg c10] at H
  have c10b0 : (a0 == 24) = false := beq_eq_false_iff_ne.mpr c10
  have c10b1 : (a0 != 24) = true := bne_iff_ne.mpr c10
  rw [if_neg c11] at H
  have c11b0 : (a0 == 28) = false := beq_eq_false_iff_ne.mpr c11
  have c11b1 : (a0 != 28) = true := bne_iff_ne.mpr c11
  rw [if_neg c13] at H
  have c13b0 : (a0 == 29) = false := beq_eq_false_iff_ne.mpr c13
  have c13b1 : (a0 != 29) = true := bne_iff_ne.mpr c13
  rw [if_neg c15] at H
  have c15b0 : (a0 == 30) = false := beq_eq_false_iff_ne.mpr c15
  have c15b1 : (a0 != 30) = true := bne_iff_ne.mpr c15
  rw [if_neg c17] at H
  have c17b0 : (a0 == 31) = false := beq_eq_false_iff_ne.mpr c17
  have c17b1 : (a0 != 31) = true := bne_iff_ne.mpr c17
  rw [if_neg c19] at H
  have c19b0 : (a0 == 32) = false := beq_eq_false_iff_ne.mpr c19
  have c19b1 : (a0 != 32) = true := bne_iff_ne.mpr c19
  rw [if_neg c21] at H
  have c21b0 : (a0 == 33) = false := beq_eq_false_iff_ne.mpr c21
  have c21b1 : (a0 != 33) = true := bne_iff_ne.mpr c21
  rw [if_pos c23] at H
  have c23b0 : (a0 == 34) = true := beq_iff_eq.mpr c23
  have c23b1 : (a0 != 34) = false := bne_eq_false_iff_eq.mpr c23
  clear c23
  obtain ⟨ji24, hji24⟩ : ∃ j_ : Int, (mn a1 a2) = j_ := ⟨_, rfl⟩
  replace H : (some ji24) = some r := by first | (rw [hji24] at H; exact H) | (simp only [hji24] at H ⊢; exact H)
  have hji24_ : (if a2 < a1 then a2 else a1) = ji24 := hji24
  obtain rfl := Option.some.inj H
  go_enter Tryd.func46, Tryd.ntmps46
  go_wp2
  go_ret
  exact ⟨by first | rfl | (simp [errW_none, errW_some] <;> rfl) | (simp only [← hji24]; first | rfl | (simp [errW_none, errW_some] <;> rfl)) | (simp [*, errW_none, errW_some] <;> rfl), by repeat (first | (with_reducible first | exact HB.out | apply below_alloc | apply pw_below_drewN | apply below_drew1) | exact HB.out)⟩
set_option maxHeartbeats 8000000 in
set_option maxRecDepth 100000 in
theorem word_two.calls_14 (a0 : Int) (a1 : Int) (a2 : Int) (r : Int) (w : World) (h : word_two.f a0 a1 a2 = some r) (c4 : ¬ (a0 = 16)) (c5 : ¬ (a0 = 17)) (c6 : ¬ (a0 = 18)) (c7 : ¬ (a0 = 21)) (c8 : ¬ (a0 = 22)) (c9 : ¬ (a0 = 23)) (c10 : ¬ (a0 = 24)) (c11 : ¬ (a0 = 28)) (c13 : ¬ (a0 = 29)) (c15 : ¬ (a0 = 30)) (c17 : ¬ (a0 = 31)) (c19 : ¬ (a0 = 32)) (c21 : ¬ (a0 = 33)) (c23 : ¬ (a0 = 34)) (c25 : a0 = 35) :
    Calls Tryd.prog 46 #[.int .i64 a0, .int .i64 a1, .int .i64 a2] w fun e w' => e = .returned (.int .i64 r) ∧ Below w.heap.size w w' := by
  have HB := Aside0.mk (Below.refl w.heap.size w)
  have H : (if a0 = 16 then (some (wrap64 (a1 + a2))) else (if a0 = 17 then (some (wrap64 (a1 - a2))) else (if a0 = 18 then (some (wrap64 (a1 * a2))) else (if a0 = 21 then (some (Go.bits .and .i64 a1 a2)) else (if a0 = 22 then (some (Go.bits .or .i64 a1 a2)) else (if a0 = 23 then (some (Go.bits .xor .i64 a1 a2)) else (if a0 = 24 then (some (Go.bits .andNot .i64 a1 a2)) else (if a0 = 28 then ((bits_RotateLeft64.f (IntKind.u64.wrap (a1)) (Go.bits .and .i64 a2 63)).bind fun t111 => (some (wrap64 (t111)))) else (if a0 = 29 then ((word_yes.f (a1 == a2)).bind fun t112 => (some t112)) else (if a0 = 30 then ((word_yes.f (a1 != a2)).bind fun t113 => (some t113)) else (if a0 = 31 then ((word_yes.f (decide (a1 < a2))).bind fun t114 => (some t114)) else (if a0 = 32 then ((word_yes.f (decide (a1 ≤ a2))).bind fun t115 => (some t115)) else (if a0 = 33 then ((word_yes.f (decide ((IntKind.u64.wrap (a1)) < (IntKind.u64.wrap (a2))))).bind fun t116 => (some t116)) else (if a0 = 34 then (some (mn a1 a2)) else (if a0 = 35 then (some (mx a1 a2)) else ((word_Wide.f a1 a2).bind fun bt117 => (some bt117.1))))))))))))))))) = some r := h
  clear h
  rw [if_neg c4] at H
  have c4b0 : (a0 == 16) = false := beq_eq_false_iff_ne.mpr c4
  have c4b1 : (a0 != 16) = true := bne_iff_ne.mpr c4
  rw [if_neg c5] at H
  have c5b0 : (a0 == 17) = false := beq_eq_false_iff_ne.mpr c5
  have c5b1 : (a0 != 17) = true := bne_iff_ne.mpr c5
  rw [if_neg c6] at H
  have c6b0 : (a0 == 18) = false := beq_eq_false_iff_ne.mpr c6
  have c6b1 : (a0 != 18) = true := bne_iff_ne.mpr c6
  rw [if_neg c7] at H
  have c7b0 : (a0 == 21) = false := beq_eq_false_iff_ne.mpr c7
  have c7b1 : (a0 != 21) = true := bne_iff_ne.mpr c7
  rw [if_neg c8] at H
  have c8b0 : (a0 == 22) = false := beq_eq_false_iff_ne.mpr c8
  have c8b1 : (a0 != 22) = true := bne_iff_ne.mpr c8
  rw [if_neg c9] at H
  have c9b0 : (a0 == 23) = false := beq_eq_false_iff_ne.mpr c9
  have c9b1 : (a0 != 23) = true := bne_iff_ne.mpr c9
  rw [if_neg c10] at H
  have c10b0 : (a0 == 24) = false := beq_eq_false_iff_ne.mpr c10
  have c10b1 : (a0 != 24) = true := bne_iff_ne.mpr c10
  rw [if_neg c11] at H
  have c11b0 : (a0 == 28) = false := beq_eq_false_iff_ne.mpr c11
  have c11b1 : (a0 != 28) = true := bne_iff_ne.mpr c11
  rw [if_neg c13] at H
  have c13b0 : (a0 == 29) = false := beq_eq_false_iff_ne.mpr c13
  have c13b1 : (a0 != 29) = true := bne_iff_ne.mpr c13
  rw [if_neg c15] at H
  have c15b0 : (a0 == 30) = false := beq_eq_false_iff_ne.mpr c15
  have c15b1 : (a0 != 30) = true := bne_iff_ne.mpr c15
  rw [if_neg c17] at H
  have c17b0 : (a0 == 31) = false := beq_eq_false_iff_ne.mpr c17
  have c17b1 : (a0 != 31) = true := bne_iff_ne.mpr c17
  rw [if_neg c19] at H
  have c19b0 : (a0 == 32) = false := beq_eq_false_iff_ne.mpr c19
  have c19b1 : (a0 != 32) = true := bne_iff_ne.mpr c19
  rw [if_neg c21] at H
  have c21b0 : (a0 == 33) = false := beq_eq_false_iff_ne.mpr c21
  have c21b1 : (a0 != 33) = true := bne_iff_ne.mpr c21
  rw [if_neg c23] at H
  have c23b0 : (a0 == 34) = false := beq_eq_false_iff_ne.mpr c23
  have c23b1 : (a0 != 34) = true := bne_iff_ne.mpr c23
  rw [if_pos c25] at H
  have c25b0 : (a0 == 35) = true := beq_iff_eq.mpr c25
  have c25b1 : (a0 != 35) = false := bne_eq_false_iff_eq.mpr c25
  clear c25
  obtain ⟨ji26, hji26⟩ : ∃ j_ : Int, (mx a1 a2) = j_ := ⟨_, rfl⟩
  replace H : (some ji26) = some r := by first | (rw [hji26] at H; exact H) | (simp only [hji26] at H ⊢; exact H)
  have hji26_ : (if a1 < a2 then a2 else a1) = ji26 := hji26
  obtain rfl := Option.some.inj H
  go_enter Tryd.func46, Tryd.ntmps46
  go_wp2
  go_ret
  exact ⟨by first | rfl | (simp [errW_none, errW_some] <;> rfl) | (simp only [← hji26]; first | rfl | (simp [errW_none, errW_some] <;> rfl)) | (simp [*, errW_none, errW_some] <;> rfl), by repeat (first | (with_reducible first | exact HB.out | apply below_alloc | apply pw_below_drewN | apply below_drew1) | exact HB.out)⟩
set_option maxHeartbeats 8000000 in
set_option maxRecDepth 100000 in
theorem word_two.calls_15 (a0 : Int) (a1 : Int) (a2 : Int) (r : Int) (w : World) (h : word_two.f a0 a1 a2 = some r) (c4 : ¬ (a0 = 16)) (c5 : ¬ (a0 = 17)) (c6 : ¬ (a0 = 18)) (c7 : ¬ (a0 = 21)) (c8 : ¬ (a0 = 22)) (c9 : ¬ (a0 = 23)) (c10 : ¬ (a0 = 24)) (c11 : ¬ (a0 = 28)) (c13 : ¬ (a0 = 29)) (c15 : ¬ (a0 = 30)) (c17 : ¬ (a0 = 31)) (c19 : ¬ (a0 = 32)) (c21 : ¬ (a0 = 33)) (c23 : ¬ (a0 = 34)) (c25 : ¬ (a0 = 35)) :
    Calls Tryd.prog 46 #[.int .i64 a0, .int .i64 a1, .int .i64 a2] w fun e w' => e = .returned (.int .i64 r) ∧ Below w.heap.size w w' := by
  have HB := Aside0.mk (Below.refl w.heap.size w)
  have H : (if a0 = 16 then (some (wrap64 (a1 + a2))) else (if a0 = 17 then (some (wrap64 (a1 - a2))) else (if a0 = 18 then (some (wrap64 (a1 * a2))) else (if a0 = 21 then (some (Go.bits .and .i64 a1 a2)) else (if a0 = 22 then (some (Go.bits .or .i64 a1 a2)) else (if a0 = 23 then (some (Go.bits .xor .i64 a1 a2)) else (if a0 = 24 then (some (Go.bits .andNot .i64 a1 a2)) else (if a0 = 28 then ((bits_RotateLeft64.f (IntKind.u64.wrap (a1)) (Go.bits .and .i64 a2 63)).bind fun t111 => (some (wrap64 (t111)))) else (if a0 = 29 then ((word_yes.f (a1 == a2)).bind fun t112 => (some t112)) else (if a0 = 30 then ((word_yes.f (a1 != a2)).bind fun t113 => (some t113)) else (if a0 = 31 then ((word_yes.f (decide (a1 < a2))).bind fun t114 => (some t114)) else (if a0 = 32 then ((word_yes.f (decide (a1 ≤ a2))).bind fun t115 => (some t115)) else (if a0 = 33 then ((word_yes.f (decide ((IntKind.u64.wrap (a1)) < (IntKind.u64.wrap (a2))))).bind fun t116 => (some t116)) else (if a0 = 34 then (some (mn a1 a2)) else (if a0 = 35 then (some (mx a1 a2)) else ((word_Wide.f a1 a2).bind fun bt117 => (some bt117.1))))))))))))))))) = some r := h
  clear h
  rw [if_neg c4] at H
  have c4b0 : (a0 == 16) = false := beq_eq_false_iff_ne.mpr c4
  have c4b1 : (a0 != 16) = true := bne_iff_ne.mpr c4
  rw [if_neg c5] at H
  have c5b0 : (a0 == 17) = false := beq_eq_false_iff_ne.mpr c5
  have c5b1 : (a0 != 17) = true := bne_iff_ne.mpr c5
  rw [if_neg c6] at H
  have c6b0 : (a0 == 18) = false := beq_eq_false_iff_ne.mpr c6
  have c6b1 : (a0 != 18) = true := bne_iff_ne.mpr c6
  rw [if_neg c7] at H
  have c7b0 : (a0 == 21) = false := beq_eq_false_iff_ne.mpr c7
  have c7b1 : (a0 != 21) = true := bne_iff_ne.mpr c7
  rw [if_neg c8] at H
  have c8b0 : (a0 == 22) = false := beq_eq_false_iff_ne.mpr c8
  have c8b1 : (a0 != 22) = true := bne_iff_ne.mpr c8
  rw [if_neg c9] at H
  have c9b0 : (a0 == 23) = false := beq_eq_false_iff_ne.mpr c9
  have c9b1 : (a0 != 23) = true := bne_iff_ne.mpr c9
  rw [if_neg c10] at H
  have c10b0 : (a0 == 24) = false := beq_eq_false_iff_ne.mpr c10
  have c10b1 : (a0 != 24) = true := bne_iff_ne.mpr c10
  rw [if_neg c11] at H
  have c11b0 : (a0 == 28) = false := beq_eq_false_iff_ne.mpr c11
  have c11b1 : (a0 != 28) = true := bne_iff_ne.mpr c11
  rw [if_neg c13] at H
  have c13b0 : (a0 == 29) = false := beq_eq_false_iff_ne.mpr c13
  have c13b1 : (a0 != 29) = true := bne_iff_ne.mpr c13
  rw [if_neg c15] at H
  have c15b0 : (a0 == 30) = false := beq_eq_false_iff_ne.mpr c15
  have c15b1 : (a0 != 30) = true := bne_iff_ne.mpr c15
  rw [if_neg c17] at H
  have c17b0 : (a0 == 31) = false := beq_eq_false_iff_ne.mpr c17
  have c17b1 : (a0 != 31) = true := bne_iff_ne.mpr c17
  rw [if_neg c19] at H
  have c19b0 : (a0 == 32) = false := beq_eq_false_iff_ne.mpr c19
  have c19b1 : (a0 != 32) = true := bne_iff_ne.mpr c19
  rw [if_neg c21] at H
  have c21b0 : (a0 == 33) = false := beq_eq_false_iff_ne.mpr c21
  have c21b1 : (a0 != 33) = true := bne_iff_ne.mpr c21
  rw [if_neg c23] at H
  have c23b0 : (a0 == 34) = false := beq_eq_false_iff_ne.mpr c23
  have c23b1 : (a0 != 34) = true := bne_iff_ne.mpr c23
  rw [if_neg c25] at H
  have c25b0 : (a0 == 35) = false := beq_eq_false_iff_ne.mpr c25
  have c25b1 : (a0 != 35) = true := bne_iff_ne.mpr c25
  replace H := Option.bind_eq_some_iff.mp H
  obtain ⟨⟨t117, t118⟩, A270, H⟩ := H
  replace H : (some t117) = some r := H
  have A27 := Aside0.mk A270
  clear A270
  obtain rfl := Option.some.inj H
  go_enter Tryd.func46, Tryd.ntmps46
  go_wp2_with (first | ((with_reducible refine gate_callee (f := 17) rfl ?_); refine goesL_ (some 98) rfl rfl Tryd.func17 (by kernel_rfl) rfl #[.int .i64 a1, .int .i64 a2] rfl (by (try simp only [List.map_toArray, List.map_cons, List.map_nil]); first | done | rfl | (simp only [List.length_drop, List.length_take]; rfl)) ?_; (with_reducible refine (word_Wide.calls a1 a2 t117 t118 _ A27.out).mono ?_); rintro e w' ⟨rfl, ⟨nd, rfl⟩⟩; refine ⟨_, rfl, ?_⟩))
  go_ret
  exact ⟨by first | rfl | (simp [errW_none, errW_some] <;> rfl) | (simp [*, errW_none, errW_some] <;> rfl), by repeat (first | (with_reducible first | exact HB.out | apply below_alloc | apply pw_below_drewN | apply below_drew1) | exact HB.out)⟩
set_option maxHeartbeats 8000000 in
set_option maxRecDepth 100000 in
theorem word_two.calls (a0 : Int) (a1 : Int) (a2 : Int) (r : Int) (w : World) (h : word_two.f a0 a1 a2 = some r) :
    Calls Tryd.prog 46 #[.int .i64 a0, .int .i64 a1, .int .i64 a2] w fun e w' => e = .returned (.int .i64 r) ∧ Below w.heap.size w w' := by
  by_cases c4 : a0 = 16
  · exact word_two.calls_0 a0 a1 a2 r w h c4
  · by_cases c5 : a0 = 17
    · exact word_two.calls_1 a0 a1 a2 r w h c4 c5
    · by_cases c6 : a0 = 18
      · exact word_two.calls_2 a0 a1 a2 r w h c4 c5 c6
      · by_cases c7 : a0 = 21
        · exact word_two.calls_3 a0 a1 a2 r w h c4 c5 c6 c7
        · by_cases c8 : a0 = 22
          · exact word_two.calls_4 a0 a1 a2 r w h c4 c5 c6 c7 c8
          · by_cases c9 : a0 = 23
            · exact word_two.calls_5 a0 a1 a2 r w h c4 c5 c6 c7 c8 c9
            · by_cases c10 : a0 = 24
              · exact word_two.calls_6 a0 a1 a2 r w h c4 c5 c6 c7 c8 c9 c10
              · by_cases c11 : a0 = 28
                · exact word_two.calls_7 a0 a1 a2 r w h c4 c5 c6 c7 c8 c9 c10 c11
                · by_cases c13 : a0 = 29
                  · exact word_two.calls_8 a0 a1 a2 r w h c4 c5 c6 c7 c8 c9 c10 c11 c13
                  · by_cases c15 : a0 = 30
                    · exact word_two.calls_9 a0 a1 a2 r w h c4 c5 c6 c7 c8 c9 c10 c11 c13 c15
                    · by_cases c17 : a0 = 31
                      · exact word_two.calls_10 a0 a1 a2 r w h c4 c5 c6 c7 c8 c9 c10 c11 c13 c15 c17
                      · by_cases c19 : a0 = 32
                        · exact word_two.calls_11 a0 a1 a2 r w h c4 c5 c6 c7 c8 c9 c10 c11 c13 c15 c17 c19
                        · by_cases c21 : a0 = 33
                          · exact word_two.calls_12 a0 a1 a2 r w h c4 c5 c6 c7 c8 c9 c10 c11 c13 c15 c17 c19 c21
                          · by_cases c23 : a0 = 34
                            · exact word_two.calls_13 a0 a1 a2 r w h c4 c5 c6 c7 c8 c9 c10 c11 c13 c15 c17 c19 c21 c23
                            · by_cases c25 : a0 = 35
                              · exact word_two.calls_14 a0 a1 a2 r w h c4 c5 c6 c7 c8 c9 c10 c11 c13 c15 c17 c19 c21 c23 c25
                              · exact word_two.calls_15 a0 a1 a2 r w h c4 c5 c6 c7 c8 c9 c10 c11 c13 c15 c17 c19 c21 c23 c25

end Go.Proofs.YtckfnbjjghdaoaaDoor.Q
