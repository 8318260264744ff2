-- This session's own text, made by its own run of the tools (wip/tools/pr.sh).
import Derived.Test.YtckfnbjjghdaoaaDoorQ0
import Derived.Test.YtckfnbjjghdaoaaDoorQ1
import Derived.Test.YtckfnbjjghdaoaaDoorQ3
import Derived.Test.YtckfnbjjghdaoaaDoorQ6
import Derived.Test.YtckfnbjjghdaoaaDoorQ7
namespace Go.Proofs.YtckfnbjjghdaoaaDoor.Q
open Go.RowKit Go.Proofs.YtckfnbjjghdaoaaDoorW.PrintWords Go.Proofs.YtckfnbjjghdaoaaDoorW.PrintLast Go.Proofs.YtckfnbjjghdaoaaDoorW.PrintMore
attribute [local go_sem] max2_int min2_int max_two min_two max_three min_three max_four min_four   -- for this text's walks alone
set_option linter.unusedVariables false
set_option linter.unusedSimpArgs false

/-! ### scarablaw02_WordPowers: function 9 -/
def scarablaw02_WordPowers.f (k : Nat) (a0 : Int) (a1 : Int) : Option (Bool) := (scarablaw02_speaks.f k).bind fun t244 => (if t244 = true then ((word_Power.f k 3 4).bind fun t245 => (if t245 = 81 then ((word_Power.f k a0 a1).bind fun t246 => ((scarabref02_Power.f k a0 a1).bind fun t247 => (some (t246 == t247)))) else (some false))) else (some false))
theorem scarablaw02_WordPowers.mono : ∀ a0 a1 k, LeO (scarablaw02_WordPowers.f k a0 a1) (scarablaw02_WordPowers.f (k + 1) a0 a1) := by
  intro a0 a1 k
  unfold scarablaw02_WordPowers.f
  repeat' first
      | (with_reducible exact scarablaw02_speaks.mono _)
      | (with_reducible exact scarabref02_Power.mono _ _ _)
      | (with_reducible exact word_Power.mono _ _ _)
      | (with_reducible exact LeO.refl _)
      | (with_reducible exact LeO.none _)
      | (with_reducible refine LeO.ite ?_ ?_)
      | (with_reducible refine LeO.bind ?_ (fun _ => ?_))
      | exact scarablaw02_speaks.mono _
      | exact scarabref02_Power.mono _ _ _
      | exact word_Power.mono _ _ _
      | exact LeO.none _
      | refine LeO.ite ?_ ?_
      | refine LeO.bind ?_ (fun _ => ?_)
set_option maxHeartbeats 8000000 in
set_option maxRecDepth 100000 in
theorem scarablaw02_WordPowers.calls (k : Nat) (a0 : Int) (a1 : Int) (r : Bool) (w : World) (h : scarablaw02_WordPowers.f k a0 a1 = some r) :
    Calls Tryd.prog 9 #[.int .i64 a0, .int .u64 a1] w fun e w' => e = .returned (.bool r) ∧ Below w.heap.size w w' := by
  have HB := Aside0.mk (Below.refl w.heap.size w)
  have H : ((scarablaw02_speaks.f k).bind fun t244 => (if t244 = true then ((word_Power.f k 3 4).bind fun t245 => (if t245 = 81 then ((word_Power.f k a0 a1).bind fun t246 => ((scarabref02_Power.f k a0 a1).bind fun t247 => (some (t246 == t247)))) else (some false))) else (some false))) = some r := h
  clear h
  replace H := Option.bind_eq_some_iff.mp H
  obtain ⟨t244, A30, H⟩ := H
  replace H : (if t244 = true then ((word_Power.f k 3 4).bind fun t245 => (if t245 = 81 then ((word_Power.f k a0 a1).bind fun t246 => ((scarabref02_Power.f k a0 a1).bind fun t247 => (some (t246 == t247)))) else (some false))) else (some false)) = some r := H
  have A3 := Aside0.mk A30
  clear A30
  by_cases c4 : t244 = true
  · subst c4
    have H1 : ((word_Power.f k 3 4).bind fun t245 => (if t245 = 81 then ((word_Power.f k a0 a1).bind fun t246 => ((scarabref02_Power.f k a0 a1).bind fun t247 => (some (t246 == t247)))) else (some false))) = some r := by rw [if_pos rfl] at H; exact H
    clear H
    have H := H1
    clear H1
    replace H := Option.bind_eq_some_iff.mp H
    obtain ⟨t245, A50, H⟩ := H
    replace H : (if t245 = 81 then ((word_Power.f k a0 a1).bind fun t246 => ((scarabref02_Power.f k a0 a1).bind fun t247 => (some (t246 == t247)))) else (some false)) = some r := H
    have A5 := Aside0.mk A50
    clear A50
    by_cases c6 : t245 = 81
    · rw [if_pos c6] at H
      have c6b0 : (t245 == 81) = true := beq_iff_eq.mpr c6
      have c6b1 : (t245 != 81) = false := bne_eq_false_iff_eq.mpr c6
      clear c6
      replace H := Option.bind_eq_some_iff.mp H
      obtain ⟨t246, A70, H⟩ := H
      replace H : ((scarabref02_Power.f k a0 a1).bind fun t247 => (some (t246 == t247))) = some r := H
      have A7 := Aside0.mk A70
      clear A70
      replace H := Option.bind_eq_some_iff.mp H
      obtain ⟨t247, A80, H⟩ := H
      replace H : (some (t246 == t247)) = some r := H
      have A8 := Aside0.mk A80
      clear A80
      obtain rfl := Option.some.inj H
      go_enter Tryd.func9, Tryd.ntmps9
      go_wp2_with (first | ((with_reducible refine gate_callee (f := 19) rfl ?_); refine goesL_ (some 5) rfl rfl Tryd.func19 (by kernel_rfl) rfl #[] rfl (by (try simp only [List.map_toArray, List.map_cons, List.map_nil]); first | done | rfl | (simp only [List.length_drop, List.length_take]; rfl)) ?_; (with_reducible refine (scarablaw02_speaks.calls k  true _ A3.out).mono ?_); rintro e w9 ⟨rfl, hb⟩; refine ⟨_, rfl, ?_⟩; have n0_ := Aside0.mk (below_step (by repeat (first | (with_reducible first | exact HB.out | apply below_alloc | apply pw_below_drewN | apply below_drew1) | exact HB.out)) hb); clear HB; have HB := n0_; clear n0_; (try clear hb); (try clear hb2); (try clear hk); (try clear hi)) | (go_at_call 25; (with_reducible refine (word_Power.calls k 3 4 t245 _ A5.out).mono ?_); rintro e w' ⟨rfl, ⟨nd, rfl⟩⟩) | (go_at_call 25; (with_reducible refine (word_Power.calls k a0 a1 t246 _ A7.out).mono ?_); rintro e w' ⟨rfl, ⟨nd, rfl⟩⟩) | (go_at_call 26; (with_reducible refine (scarabref02_Power.calls k a0 a1 t247 _ A8.out).mono ?_); rintro e w' ⟨rfl, ⟨nd, rfl⟩⟩))
      go_ret
      exact ⟨by first | rfl | (simp [errW_none, errW_some] <;> rfl) | (simp [*, errW_none, errW_some] <;> rfl), by repeat (first | (with_reducible first | exact HB.out | apply below_alloc | apply pw_below_drewN | apply below_drew1) | exact HB.out)⟩
    · rw [if_neg c6] at H
      have c6b0 : (t245 == 81) = false := beq_eq_false_iff_ne.mpr c6
      have c6b1 : (t245 != 81) = true := bne_iff_ne.mpr c6
      obtain rfl := Option.some.inj H
      go_enter Tryd.func9, Tryd.ntmps9
      go_wp2_with (first | ((with_reducible refine gate_callee (f := 19) rfl ?_); refine goesL_ (some 5) rfl rfl Tryd.func19 (by kernel_rfl) rfl #[] rfl (by (try simp only [List.map_toArray, List.map_cons, List.map_nil]); first | done | rfl | (simp only [List.length_drop, List.length_take]; rfl)) ?_; (with_reducible refine (scarablaw02_speaks.calls k  true _ A3.out).mono ?_); rintro e w10 ⟨rfl, hb⟩; refine ⟨_, rfl, ?_⟩; have n0_ := Aside0.mk (below_step (by repeat (first | (with_reducible first | exact HB.out | apply below_alloc | apply pw_below_drewN | apply below_drew1) | exact HB.out)) hb); clear HB; have HB := n0_; clear n0_; (try clear hb); (try clear hb2); (try clear hk); (try clear hi)) | (go_at_call 25; (with_reducible refine (word_Power.calls k 3 4 t245 _ A5.out).mono ?_); rintro e w' ⟨rfl, ⟨nd, rfl⟩⟩))
      go_ret
      exact ⟨by first | rfl | (simp [errW_none, errW_some] <;> rfl) | (simp [*, errW_none, errW_some] <;> rfl), by repeat (first | (with_reducible first | exact HB.out | apply below_alloc | apply pw_below_drewN | apply below_drew1) | exact HB.out)⟩
  · replace c4 := Bool.eq_false_iff.mpr c4
    subst c4
    have H1 : (some false) = some r := by rw [if_neg (show ¬ (false = true) by decide)] at H; exact H
    clear H
    have H := H1
    clear H1
    obtain rfl := Option.some.inj H
    go_enter Tryd.func9, Tryd.ntmps9
    go_wp2_with (first | ((with_reducible refine gate_callee (f := 19) rfl ?_); refine goesL_ (some 5) rfl rfl Tryd.func19 (by kernel_rfl) rfl #[] rfl (by (try simp only [List.map_toArray, List.map_cons, List.map_nil]); first | done | rfl | (simp only [List.length_drop, List.length_take]; rfl)) ?_; (with_reducible refine (scarablaw02_speaks.calls k  false _ A3.out).mono ?_); rintro e w11 ⟨rfl, hb⟩; refine ⟨_, rfl, ?_⟩; have n0_ := Aside0.mk (below_step (by repeat (first | (with_reducible first | exact HB.out | apply below_alloc | apply pw_below_drewN | apply below_drew1) | exact HB.out)) hb); clear HB; have HB := n0_; clear n0_; (try clear hb); (try clear hb2); (try clear hk); (try clear hi)))
    go_ret
    exact ⟨by first | rfl | (simp [errW_none, errW_some] <;> rfl) | (simp [*, errW_none, errW_some] <;> rfl), by repeat (first | (with_reducible first | exact HB.out | apply below_alloc | apply pw_below_drewN | apply below_drew1) | exact HB.out)⟩

/-- THE ONE PURE STATEMENT of scarablaw02_WordPowers: yours. -/
def scarablaw02_WordPowers.Pure : Prop := ∀ (a0 : Int) (a1 : Int), (Lit.int .i64 a0).wf = true → (Lit.int .u64 a1).wf = true → ∃ k, scarablaw02_WordPowers.f k a0 a1 = some true
theorem scarablaw02_WordPowers.walk (P : scarablaw02_WordPowers.Pure) (a0 : Int) (a1 : Int) (w : World) (w0 : (Lit.int .i64 a0).wf = true) (w1 : (Lit.int .u64 a1).wf = true) :
    Calls Tryd.prog 9 #[.int .i64 a0, .int .u64 a1] w fun e w' => e = .returned (.bool true) ∧ Below w.heap.size w w' := by
  obtain ⟨k, h⟩ := P a0 a1 w0 w1
  refine (scarablaw02_WordPowers.calls k a0 a1 true w h).mono ?_
  rintro e w' ⟨rfl, hd⟩
  exact ⟨rfl, hd⟩

/-! ### scarabref02_Arity: function 29 -/
def scarabref02_Arity.j0 : Nat → Int → Bool → Option (Int)
  | 0, _, _ => none
  | k + 1, x0, x8 => if x8 = true then (some 0) else (if x0 ≤ 15 then (some 1) else (some 2))
def scarabref02_Arity.f (k : Nat) (a0 : Int) : Option (Int) := if a0 < 1 then (scarabref02_Arity.j0 k a0 true) else (scarabref02_Arity.j0 k a0 (decide (a0 > 36)))
theorem scarabref02_Arity.mono_l : ∀ k, (∀ y0 y1, LeO (scarabref02_Arity.j0 k y0 y1) (scarabref02_Arity.j0 (k + 1) y0 y1))
  | 0 => fun _ _ r h => by simp [scarabref02_Arity.j0] at h
  | k + 1 => by
    have ih0 := scarabref02_Arity.mono_l k
    · intro y0 y1
      unfold scarabref02_Arity.j0
      repeat' first
      | (with_reducible exact ih0 _ _)
      | (with_reducible exact LeO.refl _)
      | (with_reducible exact LeO.none _)
      | (with_reducible refine LeO.ite ?_ ?_)
      | (with_reducible refine LeO.bind ?_ (fun _ => ?_))
      | exact ih0 _ _
      | exact LeO.none _
      | refine LeO.ite ?_ ?_
      | refine LeO.bind ?_ (fun _ => ?_)
theorem scarabref02_Arity.mono : ∀ a0 k, LeO (scarabref02_Arity.f k a0) (scarabref02_Arity.f (k + 1) a0) := by
  intro a0 k
  have ih0 := scarabref02_Arity.mono_l k
  unfold scarabref02_Arity.f
  repeat' first
      | (with_reducible exact ih0 _ _)
      | (with_reducible exact LeO.refl _)
      | (with_reducible exact LeO.none _)
      | (with_reducible refine LeO.ite ?_ ?_)
      | (with_reducible refine LeO.bind ?_ (fun _ => ?_))
      | exact ih0 _ _
      | exact LeO.none _
      | refine LeO.ite ?_ ?_
      | refine LeO.bind ?_ (fun _ => ?_)
set_option maxHeartbeats 8000000 in
set_option maxRecDepth 100000 in
theorem scarabref02_Arity.calls (k : Nat) (a0 : Int) (r : Int) (w : World) (h : scarabref02_Arity.f k a0 = some r) :
    Calls Tryd.prog 29 #[.int .i64 a0] w fun e w' => e = .returned (.int .i64 r) ∧ Drawn0 w w' := by
  have H : (if a0 < 1 then (scarabref02_Arity.j0 k a0 true) else (scarabref02_Arity.j0 k a0 (decide (a0 > 36)))) = some r := h
  clear h
  have HC2 := Aside0.mk H
  clear H
  go_enter Tryd.func29, Tryd.ntmps29
  go_upto_region 1 with (fail)
  go_cut [8] (fun v8 wc => ∃ (kq : Nat) (x8_1 : Bool), v8 = .bool x8_1 ∧ Aside0 (scarabref02_Arity.j0 kq a0 x8_1 = some r) ∧ Aside0 (kq ≤ k) ∧ Drawn0 w wc)
  case first =>
    have H := HC2.out
    clear HC2
    by_cases c3 : a0 < 1
    · rw [if_pos c3] at H
      have c3b0 : decide (a0 < 1) = true := decide_eq_true c3
      clear c3
      (first | rw [c3b0] | (simp only [i64_w, i32_w]; rw [c3b0]) | skip)
      have H' := Aside0.mk H
      clear H
      go_wp2
      go_meet
      case rel => exact ⟨_, (true), (by first | rfl | (simp; done) | (simp [*]; done)), H', ⟨by first | omega | exact Nat.le_refl _⟩, by repeat (first | exact Drawn0.refl _ | apply Drawn0.step)⟩
    · rw [if_neg c3] at H
      have c3b0 : decide (a0 < 1) = false := decide_eq_false c3
      clear c3
      (first | rw [c3b0] | (simp only [i64_w, i32_w]; rw [c3b0]) | skip)
      have H' := Aside0.mk H
      clear H
      go_wp2
      go_meet
      case rel => exact ⟨_, (decide (a0 > 36)), (by first | rfl | (simp; done) | (simp [*]; done)), H', ⟨by first | omega | exact Nat.le_refl _⟩, by repeat (first | exact Drawn0.refl _ | apply Drawn0.step)⟩
  case rest =>
    clear HC2
    try clear c2
    try clear p2
    try clear c3
    try clear c3b0
    obtain ⟨kq, x8_1, rfl, HA, HJ1, ⟨mc1, rfl⟩⟩ := hcut
    cases kq with
    | zero => exact absurd HA.out (by simp [scarabref02_Arity.j0])
    | succ kj1 =>
      have H := HA.out
      clear HA
      simp only [scarabref02_Arity.j0] at H
      by_cases c4 : x8_1 = true
      · subst c4
        have H1 : (some 0) = some r := by rw [if_pos rfl] at H; exact H
        clear H
        have H := H1
        clear H1
        obtain rfl := Option.some.inj H
        go_wp2
        go_ret
        exact ⟨by first | rfl | (simp; done) | (simp [*]; done), by repeat (first | exact Drawn0.refl _ | apply Drawn0.step)⟩
      · replace c4 := Bool.eq_false_iff.mpr c4
        subst c4
        have H1 : (if a0 ≤ 15 then (some 1) else (some 2)) = some r := by rw [if_neg (show ¬ (false = true) by decide)] at H; exact H
        clear H
        have H := H1
        clear H1
        by_cases c5 : a0 ≤ 15
        · rw [if_pos c5] at H
          have c5b0 : decide (a0 ≤ 15) = true := decide_eq_true c5
          clear c5
          obtain rfl := Option.some.inj H
          go_wp2
          go_ret
          exact ⟨by first | rfl | (simp; done) | (simp [*]; done), by repeat (first | exact Drawn0.refl _ | apply Drawn0.step)⟩
        · rw [if_neg c5] at H
          have c5b0 : decide (a0 ≤ 15) = false := decide_eq_false c5
          clear c5
          obtain rfl := Option.some.inj H
          go_wp2
          go_ret
          exact ⟨by first | rfl | (simp; done) | (simp [*]; done), by repeat (first | exact Drawn0.refl _ | apply Drawn0.step)⟩

/-! ### scarabref02_shifted: function 51 -/
mutual
def scarabref02_shifted.l0 : Nat → Int → Int → Int → Int → Int → Option (Int)
  | 0, _, _, _, _, _ => none
  | k + 1, x0, x1, x2, x7, x8 => if x8 < 64 then (if (wrap64 (x8 - x1)) ≥ 0 then (scarabref02_shifted.j1 k x0 x1 x2 x7 x8 x2 (decide ((wrap64 (x8 - x1)) < 64))) else (scarabref02_shifted.j1 k x0 x1 x2 x7 x8 x2 false)) else (some x7)
def scarabref02_shifted.j1 : Nat → Int → Int → Int → Int → Int → Int → Bool → Option (Int)
  | 0, _, _, _, _, _, _, _ => none
  | k + 1, x0, x1, x2, x7, x8, x9, x24 => if x24 = true then ((scarabref02_bit.f x0 (wrap64 (x8 - x1))).bind fun t248 => ((scarabref02_put.f x7 x8 t248).bind fun t249 => (scarabref02_shifted.l0 k x0 x1 x2 t249 (wrap64 (x8 + 1))))) else ((scarabref02_put.f x7 x8 x9).bind fun t250 => (scarabref02_shifted.l0 k x0 x1 x2 t250 (wrap64 (x8 + 1))))
end
def scarabref02_shifted.f (k : Nat) (a0 : Int) (a1 : Int) (a2 : Int) : Option (Int) := scarabref02_shifted.l0 k a0 a1 a2 0 0
theorem scarabref02_shifted.mono_l : ∀ k, (∀ y0 y1 y2 y3 y4, LeO (scarabref02_shifted.l0 k y0 y1 y2 y3 y4) (scarabref02_shifted.l0 (k + 1) y0 y1 y2 y3 y4)) ∧ (∀ y0 y1 y2 y3 y4 y5 y6, LeO (scarabref02_shifted.j1 k y0 y1 y2 y3 y4 y5 y6) (scarabref02_shifted.j1 (k + 1) y0 y1 y2 y3 y4 y5 y6))
  | 0 => ⟨fun _ _ _ _ _ r h => by simp [scarabref02_shifted.l0] at h, fun _ _ _ _ _ _ _ r h => by simp [scarabref02_shifted.j1] at h⟩
  | k + 1 => by
    obtain ⟨ih0, ih1⟩ := scarabref02_shifted.mono_l k
    refine ⟨?_, ?_⟩
    · intro y0 y1 y2 y3 y4
      unfold scarabref02_shifted.l0
      repeat' first
      | (with_reducible exact ih0 _ _ _ _ _)
      | (with_reducible exact ih1 _ _ _ _ _ _ _)
      | (with_reducible exact LeO.refl _)
      | (with_reducible exact LeO.none _)
      | (with_reducible refine LeO.ite ?_ ?_)
      | (with_reducible refine LeO.bind ?_ (fun _ => ?_))
      | exact ih0 _ _ _ _ _
      | exact ih1 _ _ _ _ _ _ _
      | exact LeO.none _
      | refine LeO.ite ?_ ?_
      | refine LeO.bind ?_ (fun _ => ?_)
    · intro y0 y1 y2 y3 y4 y5 y6
      unfold scarabref02_shifted.j1
      repeat' first
      | (with_reducible exact ih0 _ _ _ _ _)
      | (with_reducible exact ih1 _ _ _ _ _ _ _)
      | (with_reducible exact LeO.refl _)
      | (with_reducible exact LeO.none _)
      | (with_reducible refine LeO.ite ?_ ?_)
      | (with_reducible refine LeO.bind ?_ (fun _ => ?_))
      | exact ih0 _ _ _ _ _
      | exact ih1 _ _ _ _ _ _ _
      | exact LeO.none _
      | refine LeO.ite ?_ ?_
      | refine LeO.bind ?_ (fun _ => ?_)
theorem scarabref02_shifted.mono : ∀ a0 a1 a2 k, LeO (scarabref02_shifted.f k a0 a1 a2) (scarabref02_shifted.f (k + 1) a0 a1 a2) := by
  intro a0 a1 a2 k
  obtain ⟨ih0, ih1⟩ := scarabref02_shifted.mono_l k
  unfold scarabref02_shifted.f
  repeat' first
      | (with_reducible exact ih0 _ _ _ _ _)
      | (with_reducible exact ih1 _ _ _ _ _ _ _)
      | (with_reducible exact LeO.refl _)
      | (with_reducible exact LeO.none _)
      | (with_reducible refine LeO.ite ?_ ?_)
      | (with_reducible refine LeO.bind ?_ (fun _ => ?_))
      | exact ih0 _ _ _ _ _
      | exact ih1 _ _ _ _ _ _ _
      | exact LeO.none _
      | refine LeO.ite ?_ ?_
      | refine LeO.bind ?_ (fun _ => ?_)
set_option maxHeartbeats 8000000 in
set_option maxRecDepth 100000 in
theorem scarabref02_shifted.calls (k : Nat) (a0 : Int) (a1 : Int) (a2 : Int) (r : Int) (w : World) (h : scarabref02_shifted.f k a0 a1 a2 = some r) :
    Calls Tryd.prog 51 #[.int .i64 a0, .int .i64 a1, .int .i64 a2] w fun e w' => e = .returned (.int .i64 r) ∧ Drawn0 w w' := by
  have H : (scarabref02_shifted.l0 k a0 a1 a2 0 0) = some r := h
  clear h
  have H' := Aside0.mk H
  clear H
  go_enter Tryd.func51, Tryd.ntmps51
  go_wp2
  go_loopg [7, 8] k (fun kq v7 v8 w' => ∃ (x7_1 : Int) (x8_1 : Int), v7 = .int .i64 x7_1 ∧ v8 = .int .i64 x8_1 ∧ Aside0 (scarabref02_shifted.l0 kq a0 a1 a2 x7_1 x8_1 = some r) ∧ Aside0 (kq ≤ k) ∧ Drawn0 w w')
  case atStart => exact ⟨(0), (0), (by first | rfl | (simp; done) | (simp [*]; done)), (by first | rfl | (simp; done) | (simp [*]; done)), H', ⟨Nat.le_refl _⟩, by repeat (first | exact Drawn0.refl _ | apply Drawn0.step)⟩
  case round =>
    clear H'
    try clear p2
    obtain ⟨x7_1, x8_1, rfl, rfl, HA, HK1, ⟨m1, rfl⟩⟩ := hrel
    cases gk with
    | zero => exact absurd HA.out (by simp [scarabref02_shifted.l0])
    | succ k1 =>
      have H := HA.out
      clear HA
      simp only [scarabref02_shifted.l0] at H
      by_cases c4 : x8_1 < 64
      · rw [if_pos c4] at H
        have c4b0 : decide (x8_1 < 64) = true := decide_eq_true c4
        clear c4
        have HC5 := Aside0.mk H
        clear H
        go_upto_region 6 with (fail)
        go_cut [24] (fun v24 wc => ∃ (kq : Nat) (x24_4 : Bool), v24 = .bool x24_4 ∧ Aside0 (scarabref02_shifted.j1 kq a0 a1 a2 x7_1 x8_1 a2 x24_4 = some r) ∧ Aside0 (kq ≤ k1) ∧ Drawn0 w wc)
        case first =>
          have H := HC5.out
          clear HC5
          by_cases c6 : (wrap64 (x8_1 - a1)) ≥ 0
          · rw [if_pos c6] at H
            have c6b0 : decide (0 ≤ (wrap64 (x8_1 - a1))) = true := decide_eq_true c6
            clear c6
            (first | rw [c6b0] | (simp only [i64_w, i32_w]; rw [c6b0]) | skip)
            have H' := Aside0.mk H
            clear H
            go_wp2
            go_meet
            case rel => exact ⟨_, (decide ((wrap64 (x8_1 - a1)) < 64)), (by first | rfl | (simp; done) | (simp [*]; done)), H', ⟨by have := HK1.out; first | omega | exact Nat.le_refl _⟩, by repeat (first | exact Drawn0.refl _ | apply Drawn0.step)⟩
          · rw [if_neg c6] at H
            have c6b0 : decide (0 ≤ (wrap64 (x8_1 - a1))) = false := decide_eq_false c6
            clear c6
            (first | rw [c6b0] | (simp only [i64_w, i32_w]; rw [c6b0]) | skip)
            have H' := Aside0.mk H
            clear H
            go_wp2
            go_meet
            case rel => exact ⟨_, (false), (by first | rfl | (simp; done) | (simp [*]; done)), H', ⟨by have := HK1.out; first | omega | exact Nat.le_refl _⟩, by repeat (first | exact Drawn0.refl _ | apply Drawn0.step)⟩
        case rest =>
          clear HC5
          try clear p2
          try clear c4
          try clear c4b0
          try clear c5
          try clear c6
          try clear c6b0
          try clear p6
          try clear p2
          obtain ⟨kq, x24_4, rfl, HA, HJ4, ⟨mc4, rfl⟩⟩ := hcut
          cases kq with
          | zero => exact absurd HA.out (by simp [scarabref02_shifted.j1])
          | succ kj4 =>
            have H := HA.out
            clear HA
            simp only [scarabref02_shifted.j1] at H
            by_cases c7 : x24_4 = true
            · subst c7
              have H1 : ((scarabref02_bit.f a0 (wrap64 (x8_1 - a1))).bind fun t248 => ((scarabref02_put.f x7_1 x8_1 t248).bind fun t249 => (scarabref02_shifted.l0 kj4 a0 a1 a2 t249 (wrap64 (x8_1 + 1))))) = some r := by rw [if_pos rfl] at H; exact H
              clear H
              have H := H1
              clear H1
              replace H := Option.bind_eq_some_iff.mp H
              obtain ⟨t248, A80, H⟩ := H
              replace H : ((scarabref02_put.f x7_1 x8_1 t248).bind fun t249 => (scarabref02_shifted.l0 kj4 a0 a1 a2 t249 (wrap64 (x8_1 + 1)))) = some r := H
              have A8 := Aside0.mk A80
              clear A80
              replace H := Option.bind_eq_some_iff.mp H
              obtain ⟨t249, A90, H⟩ := H
              replace H : (scarabref02_shifted.l0 kj4 a0 a1 a2 t249 (wrap64 (x8_1 + 1))) = some r := H
              have A9 := Aside0.mk A90
              clear A90
              have H' := Aside0.mk H
              clear H
              go_wp2_with (first | ((with_reducible refine gate_callee (f := 42) rfl ?_); refine goesL_ (some 29) rfl rfl Tryd.func42 (by kernel_rfl) rfl #[.int .i64 a0, .int .i64 (wrap64 (x8_1 - a1))] rfl (by (try simp only [List.map_toArray, List.map_cons, List.map_nil]); first | done | rfl | (simp only [List.length_drop, List.length_take]; rfl)) ?_; (with_reducible refine (scarabref02_bit.calls a0 (wrap64 (x8_1 - a1)) t248 _ A8.out).mono ?_); rintro e w' ⟨rfl, ⟨nd, rfl⟩⟩; refine ⟨_, rfl, ?_⟩) | ((with_reducible refine gate_callee (f := 63) rfl ?_); refine goesL_ (some 33) rfl rfl Tryd.func63 (by kernel_rfl) rfl #[.int .i64 x7_1, .int .i64 x8_1, .int .i64 t248] rfl (by (try simp only [List.map_toArray, List.map_cons, List.map_nil]); first | done | rfl | (simp only [List.length_drop, List.length_take]; rfl)) ?_; (with_reducible refine (scarabref02_put.calls x7_1 x8_1 t248 t249 _ A9.out).mono ?_); rintro e w' ⟨rfl, ⟨nd, rfl⟩⟩; refine ⟨_, rfl, ?_⟩))
              go_roundg kj4
              case measure => have := HK1.out; have := HJ4.out; omega
              case rel => exact ⟨(t249), (wrap64 (x8_1 + 1)), (by first | rfl | (simp; done) | (simp [*]; done)), (by first | rfl | (simp; done) | (simp [*]; done)), H', ⟨by have := HK1.out; have := HJ4.out; omega⟩, by repeat (first | exact Drawn0.refl _ | apply Drawn0.step)⟩
            · replace c7 := Bool.eq_false_iff.mpr c7
              subst c7
              have H1 : ((scarabref02_put.f x7_1 x8_1 a2).bind fun t250 => (scarabref02_shifted.l0 kj4 a0 a1 a2 t250 (wrap64 (x8_1 + 1)))) = some r := by rw [if_neg (show ¬ (false = true) by decide)] at H; exact H
              clear H
              have H := H1
              clear H1
              replace H := Option.bind_eq_some_iff.mp H
              obtain ⟨t250, A100, H⟩ := H
              replace H : (scarabref02_shifted.l0 kj4 a0 a1 a2 t250 (wrap64 (x8_1 + 1))) = some r := H
              have A10 := Aside0.mk A100
              clear A100
              have H' := Aside0.mk H
              clear H
              go_wp2_with (first | ((with_reducible refine gate_callee (f := 63) rfl ?_); refine goesL_ (some 33) rfl rfl Tryd.func63 (by kernel_rfl) rfl #[.int .i64 x7_1, .int .i64 x8_1, .int .i64 a2] rfl (by (try simp only [List.map_toArray, List.map_cons, List.map_nil]); first | done | rfl | (simp only [List.length_drop, List.length_take]; rfl)) ?_; (with_reducible refine (scarabref02_put.calls x7_1 x8_1 a2 t250 _ A10.out).mono ?_); rintro e w' ⟨rfl, ⟨nd, rfl⟩⟩; refine ⟨_, rfl, ?_⟩))
              go_roundg kj4
              case measure => have := HK1.out; have := HJ4.out; omega
              case rel => exact ⟨(t250), (wrap64 (x8_1 + 1)), (by first | rfl | (simp; done) | (simp [*]; done)), (by first | rfl | (simp; done) | (simp [*]; done)), H', ⟨by have := HK1.out; have := HJ4.out; omega⟩, by repeat (first | exact Drawn0.refl _ | apply Drawn0.step)⟩
      · rw [if_neg c4] at H
        have c4b0 : decide (x8_1 < 64) = false := decide_eq_false c4
        clear c4
        obtain rfl := Option.some.inj H
        go_wp2
        go_ret
        exact ⟨by first | rfl | (simp; done) | (simp [*]; done), by repeat (first | exact Drawn0.refl _ | apply Drawn0.step)⟩

/-! ### scarabref02_few: function 52 -/
def scarabref02_few.f (a0 : Int) : Option (Int) := if a0 > 64 then (some 64) else (some a0)
set_option maxHeartbeats 8000000 in
set_option maxRecDepth 100000 in
theorem scarabref02_few.calls (a0 : Int) (r : Int) (w : World) (h : scarabref02_few.f a0 = some r) :
    Calls Tryd.prog 52 #[.int .i64 a0] w fun e w' => e = .returned (.int .i64 r) ∧ Drawn0 w w' := by
  have H : (if a0 > 64 then (some 64) else (some a0)) = some r := h
  clear h
  by_cases c2 : a0 > 64
  · rw [if_pos c2] at H
    have c2b0 : decide (64 < a0) = true := decide_eq_true c2
    clear c2
    obtain rfl := Option.some.inj H
    go_enter Tryd.func52, Tryd.ntmps52
    go_wp2
    go_ret
    exact ⟨by first | rfl | (simp; done) | (simp [*]; done), by repeat (first | exact Drawn0.refl _ | apply Drawn0.step)⟩
  · rw [if_neg c2] at H
    have c2b0 : decide (64 < a0) = false := decide_eq_false c2
    clear c2
    obtain rfl := Option.some.inj H
    go_enter Tryd.func52, Tryd.ntmps52
    go_wp2
    go_ret
    exact ⟨by first | rfl | (simp; done) | (simp [*]; done), by repeat (first | exact Drawn0.refl _ | apply Drawn0.step)⟩

/-! ### scarabref02_bits: function 66 -/
def scarabref02_bits.l0 : Nat → Int → Int → Int → Int → Int → Option (Int)
  | 0, _, _, _, _, _ => none
  | k + 1, x0, x1, x2, x7, x8 => if x8 < 64 then ((scarabref02_bit.f x1 x8).bind fun t251 => ((scarabref02_bit.f x2 x8).bind fun t252 => (if x0 = 21 then ((scarabref02_yes.f ((wrap64 (t251 + t252)) == 2)).bind fun t253 => ((scarabref02_put.f x7 x8 t253).bind fun t254 => (scarabref02_bits.l0 k x0 x1 x2 t254 (wrap64 (x8 + 1))))) else (if x0 = 22 then ((scarabref02_yes.f (decide ((wrap64 (t251 + t252)) > 0))).bind fun t255 => ((scarabref02_put.f x7 x8 t255).bind fun t256 => (scarabref02_bits.l0 k x0 x1 x2 t256 (wrap64 (x8 + 1))))) else (if x0 = 23 then ((scarabref02_yes.f ((wrap64 (t251 + t252)) == 1)).bind fun t257 => ((scarabref02_put.f x7 x8 t257).bind fun t258 => (scarabref02_bits.l0 k x0 x1 x2 t258 (wrap64 (x8 + 1))))) else (if x0 = 24 then (if t251 = 1 then ((scarabref02_yes.f (t252 == 0)).bind fun t259 => ((scarabref02_put.f x7 x8 t259).bind fun t260 => (scarabref02_bits.l0 k x0 x1 x2 t260 (wrap64 (x8 + 1))))) else ((scarabref02_yes.f false).bind fun t261 => ((scarabref02_put.f x7 x8 t261).bind fun t262 => (scarabref02_bits.l0 k x0 x1 x2 t262 (wrap64 (x8 + 1)))))) else ((scarabref02_yes.f false).bind fun t263 => ((scarabref02_put.f x7 x8 t263).bind fun t264 => (scarabref02_bits.l0 k x0 x1 x2 t264 (wrap64 (x8 + 1))))))))))) else (some x7)
def scarabref02_bits.f (k : Nat) (a0 : Int) (a1 : Int) (a2 : Int) : Option (Int) := scarabref02_bits.l0 k a0 a1 a2 0 0
theorem scarabref02_bits.mono_l : ∀ k, (∀ y0 y1 y2 y3 y4, LeO (scarabref02_bits.l0 k y0 y1 y2 y3 y4) (scarabref02_bits.l0 (k + 1) y0 y1 y2 y3 y4))
  | 0 => fun _ _ _ _ _ r h => by simp [scarabref02_bits.l0] at h
  | k + 1 => by
    have ih0 := scarabref02_bits.mono_l k
    · intro y0 y1 y2 y3 y4
      unfold scarabref02_bits.l0
      repeat' first
      | (with_reducible exact ih0 _ _ _ _ _)
      | (with_reducible exact LeO.refl _)
      | (with_reducible exact LeO.none _)
      | (with_reducible refine LeO.ite ?_ ?_)
      | (with_reducible refine LeO.bind ?_ (fun _ => ?_))
      | exact ih0 _ _ _ _ _
      | exact LeO.none _
      | refine LeO.ite ?_ ?_
      | refine LeO.bind ?_ (fun _ => ?_)
theorem scarabref02_bits.mono : ∀ a0 a1 a2 k, LeO (scarabref02_bits.f k a0 a1 a2) (scarabref02_bits.f (k + 1) a0 a1 a2) := by
  intro a0 a1 a2 k
  have ih0 := scarabref02_bits.mono_l k
  unfold scarabref02_bits.f
  repeat' first
      | (with_reducible exact ih0 _ _ _ _ _)
      | (with_reducible exact LeO.refl _)
      | (with_reducible exact LeO.none _)
      | (with_reducible refine LeO.ite ?_ ?_)
      | (with_reducible refine LeO.bind ?_ (fun _ => ?_))
      | exact ih0 _ _ _ _ _
      | exact LeO.none _
      | refine LeO.ite ?_ ?_
      | refine LeO.bind ?_ (fun _ => ?_)
set_option maxHeartbeats 8000000 in
set_option maxRecDepth 100000 in
theorem scarabref02_bits.calls (k : Nat) (a0 : Int) (a1 : Int) (a2 : Int) (r : Int) (w : World) (h : scarabref02_bits.f k a0 a1 a2 = some r) :
    Calls Tryd.prog 66 #[.int .i64 a0, .int .i64 a1, .int .i64 a2] w fun e w' => e = .returned (.int .i64 r) ∧ Drawn0 w w' := by
  have H : (scarabref02_bits.l0 k a0 a1 a2 0 0) = some r := h
  clear h
  have H' := Aside0.mk H
  clear H
  go_enter Tryd.func66, Tryd.ntmps66
  go_wp2
  go_loopg [7, 8] k (fun kq v7 v8 w' => ∃ (x7_1 : Int) (x8_1 : Int), v7 = .int .i64 x7_1 ∧ v8 = .int .i64 x8_1 ∧ Aside0 (scarabref02_bits.l0 kq a0 a1 a2 x7_1 x8_1 = some r) ∧ Aside0 (kq ≤ k) ∧ Drawn0 w w')
  case atStart => exact ⟨(0), (0), (by first | rfl | (simp; done) | (simp [*]; done)), (by first | rfl | (simp; done) | (simp [*]; done)), H', ⟨Nat.le_refl _⟩, by repeat (first | exact Drawn0.refl _ | apply Drawn0.step)⟩
  case round =>
    clear H'
    try clear p2
    obtain ⟨x7_1, x8_1, rfl, rfl, HA, HK1, ⟨m1, rfl⟩⟩ := hrel
    cases gk with
    | zero => exact absurd HA.out (by simp [scarabref02_bits.l0])
    | succ k1 =>
      have H := HA.out
      clear HA
      simp only [scarabref02_bits.l0] at H
      by_cases c4 : x8_1 < 64
      · rw [if_pos c4] at H
        have c4b0 : decide (x8_1 < 64) = true := decide_eq_true c4
        clear c4
        replace H := Option.bind_eq_some_iff.mp H
        obtain ⟨t251, A50, H⟩ := H
        replace H : ((scarabref02_bit.f a2 x8_1).bind fun t252 => (if a0 = 21 then ((scarabref02_yes.f ((wrap64 (t251 + t252)) == 2)).bind fun t253 => ((scarabref02_put.f x7_1 x8_1 t253).bind fun t254 => (scarabref02_bits.l0 k1 a0 a1 a2 t254 (wrap64 (x8_1 + 1))))) else (if a0 = 22 then ((scarabref02_yes.f (decide ((wrap64 (t251 + t252)) > 0))).bind fun t255 => ((scarabref02_put.f x7_1 x8_1 t255).bind fun t256 => (scarabref02_bits.l0 k1 a0 a1 a2 t256 (wrap64 (x8_1 + 1))))) else (if a0 = 23 then ((scarabref02_yes.f ((wrap64 (t251 + t252)) == 1)).bind fun t257 => ((scarabref02_put.f x7_1 x8_1 t257).bind fun t258 => (scarabref02_bits.l0 k1 a0 a1 a2 t258 (wrap64 (x8_1 + 1))))) else (if a0 = 24 then (if t251 = 1 then ((scarabref02_yes.f (t252 == 0)).bind fun t259 => ((scarabref02_put.f x7_1 x8_1 t259).bind fun t260 => (scarabref02_bits.l0 k1 a0 a1 a2 t260 (wrap64 (x8_1 + 1))))) else ((scarabref02_yes.f false).bind fun t261 => ((scarabref02_put.f x7_1 x8_1 t261).bind fun t262 => (scarabref02_bits.l0 k1 a0 a1 a2 t262 (wrap64 (x8_1 + 1)))))) else ((scarabref02_yes.f false).bind fun t263 => ((scarabref02_put.f x7_1 x8_1 t263).bind fun t264 => (scarabref02_bits.l0 k1 a0 a1 a2 t264 (wrap64 (x8_1 + 1)))))))))) = some r := H
        have A5 := Aside0.mk A50
        clear A50
        replace H := Option.bind_eq_some_iff.mp H
        obtain ⟨t252, A60, H⟩ := H
        replace H : (if a0 = 21 then ((scarabref02_yes.f ((wrap64 (t251 + t252)) == 2)).bind fun t253 => ((scarabref02_put.f x7_1 x8_1 t253).bind fun t254 => (scarabref02_bits.l0 k1 a0 a1 a2 t254 (wrap64 (x8_1 + 1))))) else (if a0 = 22 then ((scarabref02_yes.f (decide ((wrap64 (t251 + t252)) > 0))).bind fun t255 => ((scarabref02_put.f x7_1 x8_1 t255).bind fun t256 => (scarabref02_bits.l0 k1 a0 a1 a2 t256 (wrap64 (x8_1 + 1))))) else (if a0 = 23 then ((scarabref02_yes.f ((wrap64 (t251 + t252)) == 1)).bind fun t257 => ((scarabref02_put.f x7_1 x8_1 t257).bind fun t258 => (scarabref02_bits.l0 k1 a0 a1 a2 t258 (wrap64 (x8_1 + 1))))) else (if a0 = 24 then (if t251 = 1 then ((scarabref02_yes.f (t252 == 0)).bind fun t259 => ((scarabref02_put.f x7_1 x8_1 t259).bind fun t260 => (scarabref02_bits.l0 k1 a0 a1 a2 t260 (wrap64 (x8_1 + 1))))) else ((scarabref02_yes.f false).bind fun t261 => ((scarabref02_put.f x7_1 x8_1 t261).bind fun t262 => (scarabref02_bits.l0 k1 a0 a1 a2 t262 (wrap64 (x8_1 + 1)))))) else ((scarabref02_yes.f false).bind fun t263 => ((scarabref02_put.f x7_1 x8_1 t263).bind fun t264 => (scarabref02_bits.l0 k1 a0 a1 a2 t264 (wrap64 (x8_1 + 1))))))))) = some r := H
        have A6 := Aside0.mk A60
        clear A60
        by_cases c7 : a0 = 21
        · rw [if_pos c7] at H
          have c7b0 : (a0 == 21) = true := beq_iff_eq.mpr c7
          have c7b1 : (a0 != 21) = false := bne_eq_false_iff_eq.mpr c7
          clear c7
          replace H := Option.bind_eq_some_iff.mp H
          obtain ⟨t253, A80, H⟩ := H
          replace H : ((scarabref02_put.f x7_1 x8_1 t253).bind fun t254 => (scarabref02_bits.l0 k1 a0 a1 a2 t254 (wrap64 (x8_1 + 1)))) = some r := H
          have A8 := Aside0.mk A80
          clear A80
          replace H := Option.bind_eq_some_iff.mp H
          obtain ⟨t254, A90, H⟩ := H
          replace H : (scarabref02_bits.l0 k1 a0 a1 a2 t254 (wrap64 (x8_1 + 1))) = some r := H
          have A9 := Aside0.mk A90
          clear A90
          have H' := Aside0.mk H
          clear H
          go_wp2_with (first | ((with_reducible refine gate_callee (f := 42) rfl ?_); refine goesL_ (some 18) rfl rfl Tryd.func42 (by kernel_rfl) rfl #[.int .i64 a1, .int .i64 x8_1] rfl (by (try simp only [List.map_toArray, List.map_cons, List.map_nil]); first | done | rfl | (simp only [List.length_drop, List.length_take]; rfl)) ?_; (with_reducible refine (scarabref02_bit.calls a1 x8_1 t251 _ A5.out).mono ?_); rintro e w' ⟨rfl, ⟨nd, rfl⟩⟩; refine ⟨_, rfl, ?_⟩) | ((with_reducible refine gate_callee (f := 42) rfl ?_); refine goesL_ (some 21) rfl rfl Tryd.func42 (by kernel_rfl) rfl #[.int .i64 a2, .int .i64 x8_1] rfl (by (try simp only [List.map_toArray, List.map_cons, List.map_nil]); first | done | rfl | (simp only [List.length_drop, List.length_take]; rfl)) ?_; (with_reducible refine (scarabref02_bit.calls a2 x8_1 t252 _ A6.out).mono ?_); rintro e w' ⟨rfl, ⟨nd, rfl⟩⟩; refine ⟨_, rfl, ?_⟩) | ((with_reducible refine gate_callee (f := 64) rfl ?_); refine goesL_ (some 52) rfl rfl Tryd.func64 (by kernel_rfl) rfl #[.bool ((wrap64 (t251 + t252)) == 2)] rfl (by (try simp only [List.map_toArray, List.map_cons, List.map_nil]); first | done | rfl | (simp only [List.length_drop, List.length_take]; rfl)) ?_; (with_reducible refine (scarabref02_yes.calls ((wrap64 (t251 + t252)) == 2) t253 _ A8.out).mono ?_); rintro e w' ⟨rfl, ⟨nd, rfl⟩⟩; refine ⟨_, rfl, ?_⟩) | ((with_reducible refine gate_callee (f := 63) rfl ?_); refine goesL_ (some 53) rfl rfl Tryd.func63 (by kernel_rfl) rfl #[.int .i64 x7_1, .int .i64 x8_1, .int .i64 t253] rfl (by (try simp only [List.map_toArray, List.map_cons, List.map_nil]); first | done | rfl | (simp only [List.length_drop, List.length_take]; rfl)) ?_; (with_reducible refine (scarabref02_put.calls x7_1 x8_1 t253 t254 _ A9.out).mono ?_); rintro e w' ⟨rfl, ⟨nd, rfl⟩⟩; refine ⟨_, rfl, ?_⟩))
          go_roundg k1
          case measure => have := HK1.out; omega
          case rel => exact ⟨(t254), (wrap64 (x8_1 + 1)), (by first | rfl | (simp; done) | (simp [*]; done)), (by first | rfl | (simp; done) | (simp [*]; done)), H', ⟨by have := HK1.out; omega⟩, by repeat (first | exact Drawn0.refl _ | apply Drawn0.step)⟩
        · rw [if_neg c7] at H
          have c7b0 : (a0 == 21) = false := beq_eq_false_iff_ne.mpr c7
          have c7b1 : (a0 != 21) = true := bne_iff_ne.mpr c7
          by_cases c10 : a0 = 22
          · rw [if_pos c10] at H
            have c10b0 : (a0 == 22) = true := beq_iff_eq.mpr c10
            have c10b1 : (a0 != 22) = false := bne_eq_false_iff_eq.mpr c10
            clear c10
            replace H := Option.bind_eq_some_iff.mp H
            obtain ⟨t255, A110, H⟩ := H
            replace H : ((scarabref02_put.f x7_1 x8_1 t255).bind fun t256 => (scarabref02_bits.l0 k1 a0 a1 a2 t256 (wrap64 (x8_1 + 1)))) = some r := H
            have A11 := Aside0.mk A110
            clear A110
            replace H := Option.bind_eq_some_iff.mp H
            obtain ⟨t256, A120, H⟩ := H
            replace H : (scarabref02_bits.l0 k1 a0 a1 a2 t256 (wrap64 (x8_1 + 1))) = some r := H
            have A12 := Aside0.mk A120
            clear A120
            have H' := Aside0.mk H
            clear H
            go_wp2_with (first | ((with_reducible refine gate_callee (f := 42) rfl ?_); refine goesL_ (some 18) rfl rfl Tryd.func42 (by kernel_rfl) rfl #[.int .i64 a1, .int .i64 x8_1] rfl (by (try simp only [List.map_toArray, List.map_cons, List.map_nil]); first | done | rfl | (simp only [List.length_drop, List.length_take]; rfl)) ?_; (with_reducible refine (scarabref02_bit.calls a1 x8_1 t251 _ A5.out).mono ?_); rintro e w' ⟨rfl, ⟨nd, rfl⟩⟩; refine ⟨_, rfl, ?_⟩) | ((with_reducible refine gate_callee (f := 42) rfl ?_); refine goesL_ (some 21) rfl rfl Tryd.func42 (by kernel_rfl) rfl #[.int .i64 a2, .int .i64 x8_1] rfl (by (try simp only [List.map_toArray, List.map_cons, List.map_nil]); first | done | rfl | (simp only [List.length_drop, List.length_take]; rfl)) ?_; (with_reducible refine (scarabref02_bit.calls a2 x8_1 t252 _ A6.out).mono ?_); rintro e w' ⟨rfl, ⟨nd, rfl⟩⟩; refine ⟨_, rfl, ?_⟩) | ((with_reducible refine gate_callee (f := 64) rfl ?_); refine goesL_ (some 52) rfl rfl Tryd.func64 (by kernel_rfl) rfl #[.bool (decide ((wrap64 (t251 + t252)) > 0))] rfl (by (try simp only [List.map_toArray, List.map_cons, List.map_nil]); first | done | rfl | (simp only [List.length_drop, List.length_take]; rfl)) ?_; (with_reducible refine (scarabref02_yes.calls (decide ((wrap64 (t251 + t252)) > 0)) t255 _ A11.out).mono ?_); rintro e w' ⟨rfl, ⟨nd, rfl⟩⟩; refine ⟨_, rfl, ?_⟩) | ((with_reducible refine gate_callee (f := 63) rfl ?_); refine goesL_ (some 53) rfl rfl Tryd.func63 (by kernel_rfl) rfl #[.int .i64 x7_1, .int .i64 x8_1, .int .i64 t255] rfl (by (try simp only [List.map_toArray, List.map_cons, List.map_nil]); first | done | rfl | (simp only [List.length_drop, List.length_take]; rfl)) ?_; (with_reducible refine (scarabref02_put.calls x7_1 x8_1 t255 t256 _ A12.out).mono ?_); rintro e w' ⟨rfl, ⟨nd, rfl⟩⟩; refine ⟨_, rfl, ?_⟩))
            go_roundg k1
            case measure => have := HK1.out; omega
            case rel => exact ⟨(t256), (wrap64 (x8_1 + 1)), (by first | rfl | (simp; done) | (simp [*]; done)), (by first | rfl | (simp; done) | (simp [*]; done)), H', ⟨by have := HK1.out; omega⟩, by repeat (first | exact Drawn0.refl _ | apply Drawn0.step)⟩
          · rw [if_neg c10] at H
            have c10b0 : (a0 == 22) = false := beq_eq_false_iff_ne.mpr c10
            have c10b1 : (a0 != 22) = true := bne_iff_ne.mpr c10
            by_cases c13 : a0 = 23
            · rw [if_pos c13] at H
              have c13b0 : (a0 == 23) = true := beq_iff_eq.mpr c13
              have c13b1 : (a0 != 23) = false := bne_eq_false_iff_eq.mpr c13
              clear c13
              replace H := Option.bind_eq_some_iff.mp H
              obtain ⟨t257, A140, H⟩ := H
              replace H : ((scarabref02_put.f x7_1 x8_1 t257).bind fun t258 => (scarabref02_bits.l0 k1 a0 a1 a2 t258 (wrap64 (x8_1 + 1)))) = some r := H
              have A14 := Aside0.mk A140
              clear A140
              replace H := Option.bind_eq_some_iff.mp H
              obtain ⟨t258, A150, H⟩ := H
              replace H : (scarabref02_bits.l0 k1 a0 a1 a2 t258 (wrap64 (x8_1 + 1))) = some r := H
              have A15 := Aside0.mk A150
              clear A150
              have H' := Aside0.mk H
              clear H
              go_wp2_with (first | ((with_reducible refine gate_callee (f := 42) rfl ?_); refine goesL_ (some 18) rfl rfl Tryd.func42 (by kernel_rfl) rfl #[.int .i64 a1, .int .i64 x8_1] rfl (by (try simp only [List.map_toArray, List.map_cons, List.map_nil]); first | done | rfl | (simp only [List.length_drop, List.length_take]; rfl)) ?_; (with_reducible refine (scarabref02_bit.calls a1 x8_1 t251 _ A5.out).mono ?_); rintro e w' ⟨rfl, ⟨nd, rfl⟩⟩; refine ⟨_, rfl, ?_⟩) | ((with_reducible refine gate_callee (f := 42) rfl ?_); refine goesL_ (some 21) rfl rfl Tryd.func42 (by kernel_rfl) rfl #[.int .i64 a2, .int .i64 x8_1] rfl (by (try simp only [List.map_toArray, List.map_cons, List.map_nil]); first | done | rfl | (simp only [List.length_drop, List.length_take]; rfl)) ?_; (with_reducible refine (scarabref02_bit.calls a2 x8_1 t252 _ A6.out).mono ?_); rintro e w' ⟨rfl, ⟨nd, rfl⟩⟩; refine ⟨_, rfl, ?_⟩) | ((with_reducible refine gate_callee (f := 64) rfl ?_); refine goesL_ (some 52) rfl rfl Tryd.func64 (by kernel_rfl) rfl #[.bool ((wrap64 (t251 + t252)) == 1)] rfl (by (try simp only [List.map_toArray, List.map_cons, List.map_nil]); first | done | rfl | (simp only [List.length_drop, List.length_take]; rfl)) ?_; (with_reducible refine (scarabref02_yes.calls ((wrap64 (t251 + t252)) == 1) t257 _ A14.out).mono ?_); rintro e w' ⟨rfl, ⟨nd, rfl⟩⟩; refine ⟨_, rfl, ?_⟩) | ((with_reducible refine gate_callee (f := 63) rfl ?_); refine goesL_ (some 53) rfl rfl Tryd.func63 (by kernel_rfl) rfl #[.int .i64 x7_1, .int .i64 x8_1, .int .i64 t257] rfl (by (try simp only [List.map_toArray, List.map_cons, List.map_nil]); first | done | rfl | (simp only [List.length_drop, List.length_take]; rfl)) ?_; (with_reducible refine (scarabref02_put.calls x7_1 x8_1 t257 t258 _ A15.out).mono ?_); rintro e w' ⟨rfl, ⟨nd, rfl⟩⟩; refine ⟨_, rfl, ?_⟩))
              go_roundg k1
              case measure => have := HK1.out; omega
              case rel => exact ⟨(t258), (wrap64 (x8_1 + 1)), (by first | rfl | (simp; done) | (simp [*]; done)), (by first | rfl | (simp; done) | (simp [*]; done)), H', ⟨by have := HK1.out; omega⟩, by repeat (first | exact Drawn0.refl _ | apply Drawn0.step)⟩
            · rw [if_neg c13] at H
              have c13b0 : (a0 == 23) = false := beq_eq_false_iff_ne.mpr c13
              have c13b1 : (a0 != 23) = true := bne_iff_ne.mpr c13
              by_cases c16 : a0 = 24
              · rw [if_pos c16] at H
                have c16b0 : (a0 == 24) = true := beq_iff_eq.mpr c16
                have c16b1 : (a0 != 24) = false := bne_eq_false_iff_eq.mpr c16
                clear c16
                by_cases c17 : t251 = 1
                · rw [if_pos c17] at H
                  have c17b0 : (t251 == 1) = true := beq_iff_eq.mpr c17
                  have c17b1 : (t251 != 1) = false := bne_eq_false_iff_eq.mpr c17
                  clear c17
                  replace H := Option.bind_eq_some_iff.mp H
                  obtain ⟨t259, A180, H⟩ := H
                  replace H : ((scarabref02_put.f x7_1 x8_1 t259).bind fun t260 => (scarabref02_bits.l0 k1 a0 a1 a2 t260 (wrap64 (x8_1 + 1)))) = some r := H
                  have A18 := Aside0.mk A180
                  clear A180
                  replace H := Option.bind_eq_some_iff.mp H
                  obtain ⟨t260, A190, H⟩ := H
                  replace H : (scarabref02_bits.l0 k1 a0 a1 a2 t260 (wrap64 (x8_1 + 1))) = some r := H
                  have A19 := Aside0.mk A190
                  clear A190
                  have H' := Aside0.mk H
                  clear H
                  go_wp2_with (first | ((with_reducible refine gate_callee (f := 42) rfl ?_); refine goesL_ (some 18) rfl rfl Tryd.func42 (by kernel_rfl) rfl #[.int .i64 a1, .int .i64 x8_1] rfl (by (try simp only [List.map_toArray, List.map_cons, List.map_nil]); first | done | rfl | (simp only [List.length_drop, List.length_take]; rfl)) ?_; (with_reducible refine (scarabref02_bit.calls a1 x8_1 t251 _ A5.out).mono ?_); rintro e w' ⟨rfl, ⟨nd, rfl⟩⟩; refine ⟨_, rfl, ?_⟩) | ((with_reducible refine gate_callee (f := 42) rfl ?_); refine goesL_ (some 21) rfl rfl Tryd.func42 (by kernel_rfl) rfl #[.int .i64 a2, .int .i64 x8_1] rfl (by (try simp only [List.map_toArray, List.map_cons, List.map_nil]); first | done | rfl | (simp only [List.length_drop, List.length_take]; rfl)) ?_; (with_reducible refine (scarabref02_bit.calls a2 x8_1 t252 _ A6.out).mono ?_); rintro e w' ⟨rfl, ⟨nd, rfl⟩⟩; refine ⟨_, rfl, ?_⟩) | ((with_reducible refine gate_callee (f := 64) rfl ?_); refine goesL_ (some 52) rfl rfl Tryd.func64 (by kernel_rfl) rfl #[.bool (t252 == 0)] rfl (by (try simp only [List.map_toArray, List.map_cons, List.map_nil]); first | done | rfl | (simp only [List.length_drop, List.length_take]; rfl)) ?_; (with_reducible refine (scarabref02_yes.calls (t252 == 0) t259 _ A18.out).mono ?_); rintro e w' ⟨rfl, ⟨nd, rfl⟩⟩; refine ⟨_, rfl, ?_⟩) | ((with_reducible refine gate_callee (f := 63) rfl ?_); refine goesL_ (some 53) rfl rfl Tryd.func63 (by kernel_rfl) rfl #[.int .i64 x7_1, .int .i64 x8_1, .int .i64 t259] rfl (by (try simp only [List.map_toArray, List.map_cons, List.map_nil]); first | done | rfl | (simp only [List.length_drop, List.length_take]; rfl)) ?_; (with_reducible refine (scarabref02_put.calls x7_1 x8_1 t259 t260 _ A19.out).mono ?_); rintro e w' ⟨rfl, ⟨nd, rfl⟩⟩; refine ⟨_, rfl, ?_⟩))
                  go_roundg k1
                  case measure => have := HK1.out; omega
                  case rel => exact ⟨(t260), (wrap64 (x8_1 + 1)), (by first | rfl | (simp; done) | (simp [*]; done)), (by first | rfl | (simp; done) | (simp [*]; done)), H', ⟨by have := HK1.out; omega⟩, by repeat (first | exact Drawn0.refl _ | apply Drawn0.step)⟩
                · rw [if_neg c17] at H
                  have c17b0 : (t251 == 1) = false := beq_eq_false_iff_ne.mpr c17
                  have c17b1 : (t251 != 1) = true := bne_iff_ne.mpr c17
                  replace H := Option.bind_eq_some_iff.mp H
                  obtain ⟨t261, A200, H⟩ := H
                  replace H : ((scarabref02_put.f x7_1 x8_1 t261).bind fun t262 => (scarabref02_bits.l0 k1 a0 a1 a2 t262 (wrap64 (x8_1 + 1)))) = some r := H
                  have A20 := Aside0.mk A200
                  clear A200
                  replace H := Option.bind_eq_some_iff.mp H
                  obtain ⟨t262, A210, H⟩ := H
                  replace H : (scarabref02_bits.l0 k1 a0 a1 a2 t262 (wrap64 (x8_1 + 1))) = some r := H
                  have A21 := Aside0.mk A210
                  clear A210
                  have H' := Aside0.mk H
                  clear H
                  go_wp2_with (first | ((with_reducible refine gate_callee (f := 42) rfl ?_); refine goesL_ (some 18) rfl rfl Tryd.func42 (by kernel_rfl) rfl #[.int .i64 a1, .int .i64 x8_1] rfl (by (try simp only [List.map_toArray, List.map_cons, List.map_nil]); first | done | rfl | (simp only [List.length_drop, List.length_take]; rfl)) ?_; (with_reducible refine (scarabref02_bit.calls a1 x8_1 t251 _ A5.out).mono ?_); rintro e w' ⟨rfl, ⟨nd, rfl⟩⟩; refine ⟨_, rfl, ?_⟩) | ((with_reducible refine gate_callee (f := 42) rfl ?_); refine goesL_ (some 21) rfl rfl Tryd.func42 (by kernel_rfl) rfl #[.int .i64 a2, .int .i64 x8_1] rfl (by (try simp only [List.map_toArray, List.map_cons, List.map_nil]); first | done | rfl | (simp only [List.length_drop, List.length_take]; rfl)) ?_; (with_reducible refine (scarabref02_bit.calls a2 x8_1 t252 _ A6.out).mono ?_); rintro e w' ⟨rfl, ⟨nd, rfl⟩⟩; refine ⟨_, rfl, ?_⟩) | ((with_reducible refine gate_callee (f := 64) rfl ?_); refine goesL_ (some 52) rfl rfl Tryd.func64 (by kernel_rfl) rfl #[.bool false] rfl (by (try simp only [List.map_toArray, List.map_cons, List.map_nil]); first | done | rfl | (simp only [List.length_drop, List.length_take]; rfl)) ?_; (with_reducible refine (scarabref02_yes.calls false t261 _ A20.out).mono ?_); rintro e w' ⟨rfl, ⟨nd, rfl⟩⟩; refine ⟨_, rfl, ?_⟩) | ((with_reducible refine gate_callee (f := 63) rfl ?_); refine goesL_ (some 53) rfl rfl Tryd.func63 (by kernel_rfl) rfl #[.int .i64 x7_1, .int .i64 x8_1, .int .i64 t261] rfl (by (try simp only [List.map_toArray, List.map_cons, List.map_nil]); first | done | rfl | (simp only [List.length_drop, List.length_take]; rfl)) ?_; (with_reducible refine (scarabref02_put.calls x7_1 x8_1 t261 t262 _ A21.out).mono ?_); rintro e w' ⟨rfl, ⟨nd, rfl⟩⟩; refine ⟨_, rfl, ?_⟩))
                  go_roundg k1
                  case measure => have := HK1.out; omega
                  case rel => exact ⟨(t262), (wrap64 (x8_1 + 1)), (by first | rfl | (simp; done) | (simp [*]; done)), (by first | rfl | (simp; done) | (simp [*]; done)), H', ⟨by have := HK1.out; omega⟩, by repeat (first | exact Drawn0.refl _ | apply Drawn0.step)⟩
              · rw [if_neg c16] at H
                have c16b0 : (a0 == 24) = false := beq_eq_false_iff_ne.mpr c16
                have c16b1 : (a0 != 24) = true := bne_iff_ne.mpr c16
                replace H := Option.bind_eq_some_iff.mp H
                obtain ⟨t263, A220, H⟩ := H
                replace H : ((scarabref02_put.f x7_1 x8_1 t263).bind fun t264 => (scarabref02_bits.l0 k1 a0 a1 a2 t264 (wrap64 (x8_1 + 1)))) = some r := H
                have A22 := Aside0.mk A220
                clear A220
                replace H := Option.bind_eq_some_iff.mp H
                obtain ⟨t264, A230, H⟩ := H
                replace H : (scarabref02_bits.l0 k1 a0 a1 a2 t264 (wrap64 (x8_1 + 1))) = some r := H
                have A23 := Aside0.mk A230
                clear A230
                have H' := Aside0.mk H
                clear H
                go_wp2_with (first | ((with_reducible refine gate_callee (f := 42) rfl ?_); refine goesL_ (some 18) rfl rfl Tryd.func42 (by kernel_rfl) rfl #[.int .i64 a1, .int .i64 x8_1] rfl (by (try simp only [List.map_toArray, List.map_cons, List.map_nil]); first | done | rfl | (simp only [List.length_drop, List.length_take]; rfl)) ?_; (with_reducible refine (scarabref02_bit.calls a1 x8_1 t251 _ A5.out).mono ?_); rintro e w' ⟨rfl, ⟨nd, rfl⟩⟩; refine ⟨_, rfl, ?_⟩) | ((with_reducible refine gate_callee (f := 42) rfl ?_); refine goesL_ (some 21) rfl rfl Tryd.func42 (by kernel_rfl) rfl #[.int .i64 a2, .int .i64 x8_1] rfl (by (try simp only [List.map_toArray, List.map_cons, List.map_nil]); first | done | rfl | (simp only [List.length_drop, List.length_take]; rfl)) ?_; (with_reducible refine (scarabref02_bit.calls a2 x8_1 t252 _ A6.out).mono ?_); rintro e w' ⟨rfl, ⟨nd, rfl⟩⟩; refine ⟨_, rfl, ?_⟩) | ((with_reducible refine gate_callee (f := 64) rfl ?_); refine goesL_ (some 52) rfl rfl Tryd.func64 (by kernel_rfl) rfl #[.bool false] rfl (by (try simp only [List.map_toArray, List.map_cons, List.map_nil]); first | done | rfl | (simp only [List.length_drop, List.length_take]; rfl)) ?_; (with_reducible refine (scarabref02_yes.calls false t263 _ A22.out).mono ?_); rintro e w' ⟨rfl, ⟨nd, rfl⟩⟩; refine ⟨_, rfl, ?_⟩) | ((with_reducible refine gate_callee (f := 63) rfl ?_); refine goesL_ (some 53) rfl rfl Tryd.func63 (by kernel_rfl) rfl #[.int .i64 x7_1, .int .i64 x8_1, .int .i64 t263] rfl (by (try simp only [List.map_toArray, List.map_cons, List.map_nil]); first | done | rfl | (simp only [List.length_drop, List.length_take]; rfl)) ?_; (with_reducible refine (scarabref02_put.calls x7_1 x8_1 t263 t264 _ A23.out).mono ?_); rintro e w' ⟨rfl, ⟨nd, rfl⟩⟩; refine ⟨_, rfl, ?_⟩))
                go_roundg k1
                case measure => have := HK1.out; omega
                case rel => exact ⟨(t264), (wrap64 (x8_1 + 1)), (by first | rfl | (simp; done) | (simp [*]; done)), (by first | rfl | (simp; done) | (simp [*]; done)), H', ⟨by have := HK1.out; omega⟩, by repeat (first | exact Drawn0.refl _ | apply Drawn0.step)⟩
      · rw [if_neg c4] at H
        have c4b0 : decide (x8_1 < 64) = false := decide_eq_false c4
        clear c4
        obtain rfl := Option.some.inj H
        go_wp2
        go_ret
        exact ⟨by first | rfl | (simp; done) | (simp [*]; done), by repeat (first | exact Drawn0.refl _ | apply Drawn0.step)⟩

/-! ### scarabref02_held: function 67 -/
def scarabref02_held.f (k : Nat) (a0 : Int) (a1 : Int) (a2 : Int) : Option (Int) := if a0 = 29 then ((scarabref02_yes.f (a1 == a2)).bind fun t265 => (some t265)) else (if a0 = 30 then ((scarabref02_yes.f (a1 != a2)).bind fun t266 => (some t266)) else (if a0 = 31 then ((scarabref02_yes.f (decide (a1 < a2))).bind fun t267 => (some t267)) else (if a0 = 32 then ((scarabref02_yes.f (decide (a1 ≤ a2))).bind fun t268 => (some t268)) else (if a0 = 33 then ((scarabref02_yes.f (decide ((IntKind.u64.wrap (a1)) < (IntKind.u64.wrap (a2))))).bind fun t269 => (some t269)) else (if a0 = 34 then (if a2 < a1 then (some a2) else (some a1)) else (if a0 = 35 then (if a2 > a1 then (some a2) else (some a1)) else ((scarabref02_Wide.f k a1 a2).bind fun bt270 => (some bt270.1))))))))
theorem scarabref02_held.mono : ∀ a0 a1 a2 k, LeO (scarabref02_held.f k a0 a1 a2) (scarabref02_held.f (k + 1) a0 a1 a2) := by
  intro a0 a1 a2 k
  unfold scarabref02_held.f
  repeat' first
      | (with_reducible exact scarabref02_Wide.mono _ _ _)
      | (with_reducible exact LeO.refl _)
      | (with_reducible exact LeO.none _)
      | (with_reducible refine LeO.ite ?_ ?_)
      | (with_reducible refine LeO.bind ?_ (fun _ => ?_))
      | exact scarabref02_Wide.mono _ _ _
      | exact LeO.none _
      | refine LeO.ite ?_ ?_
      | refine LeO.bind ?_ (fun _ => ?_)
set_option maxHeartbeats 8000000 in
set_option maxRecDepth 100000 in
theorem scarabref02_held.calls_0 (k : Nat) (a0 : Int) (a1 : Int) (a2 : Int) (r : Int) (w : World) (h : scarabref02_held.f k a0 a1 a2 = some r) (c4 : a0 = 29) :
    Calls Tryd.prog 67 #[.int .i64 a0, .int .i64 a1, .int .i64 a2] w fun e w' => e = .returned (.int .i64 r) ∧ Drawn0 w w' := by
  have H : (if a0 = 29 then ((scarabref02_yes.f (a1 == a2)).bind fun t265 => (some t265)) else (if a0 = 30 then ((scarabref02_yes.f (a1 != a2)).bind fun t266 => (some t266)) else (if a0 = 31 then ((scarabref02_yes.f (decide (a1 < a2))).bind fun t267 => (some t267)) else (if a0 = 32 then ((scarabref02_yes.f (decide (a1 ≤ a2))).bind fun t268 => (some t268)) else (if a0 = 33 then ((scarabref02_yes.f (decide ((IntKind.u64.wrap (a1)) < (IntKind.u64.wrap (a2))))).bind fun t269 => (some t269)) else (if a0 = 34 then (if a2 < a1 then (some a2) else (some a1)) else (if a0 = 35 then (if a2 > a1 then (some a2) else (some a1)) else ((scarabref02_Wide.f k a1 a2).bind fun bt270 => (some bt270.1))))))))) = some r := h
  clear h
  rw [if_pos c4] at H
  have c4b0 : (a0 == 29) = true := beq_iff_eq.mpr c4
  have c4b1 : (a0 != 29) = false := bne_eq_false_iff_eq.mpr c4
  clear c4
  replace H := Option.bind_eq_some_iff.mp H
  obtain ⟨t265, A50, H⟩ := H
  replace H : (some t265) = some r := H
  have A5 := Aside0.mk A50
  clear A50
  obtain rfl := Option.some.inj H
  go_enter Tryd.func67, Tryd.ntmps67
  go_wp2_with (first | ((with_reducible refine gate_callee (f := 64) rfl ?_); refine goesL_ (some 15) rfl rfl Tryd.func64 (by kernel_rfl) rfl #[.bool (a1 == a2)] rfl (by (try simp only [List.map_toArray, List.map_cons, List.map_nil]); first | done | rfl | (simp only [List.length_drop, List.length_take]; rfl)) ?_; (with_reducible refine (scarabref02_yes.calls (a1 == a2) t265 _ A5.out).mono ?_); rintro e w' ⟨rfl, ⟨nd, rfl⟩⟩; refine ⟨_, rfl, ?_⟩))
  go_ret
  exact ⟨by first | rfl | (simp; done) | (simp [*]; done), by repeat (first | exact Drawn0.refl _ | apply Drawn0.step)⟩
set_option maxHeartbeats 8000000 in
set_option maxRecDepth 100000 in
theorem scarabref02_held.calls_1 (k : Nat) (a0 : Int) (a1 : Int) (a2 : Int) (r : Int) (w : World) (h : scarabref02_held.f k a0 a1 a2 = some r) (c4 : ¬ (a0 = 29)) (c6 : a0 = 30) :
    Calls Tryd.prog 67 #[.int .i64 a0, .int .i64 a1, .int .i64 a2] w fun e w' => e = .returned (.int .i64 r) ∧ Drawn0 w w' := by
  have H : (if a0 = 29 then ((scarabref02_yes.f (a1 == a2)).bind fun t265 => (some t265)) else (if a0 = 30 then ((scarabref02_yes.f (a1 != a2)).bind fun t266 => (some t266)) else (if a0 = 31 then ((scarabref02_yes.f (decide (a1 < a2))).bind fun t267 => (some t267)) else (if a0 = 32 then ((scarabref02_yes.f (decide (a1 ≤ a2))).bind fun t268 => (some t268)) else (if a0 = 33 then ((scarabref02_yes.f (decide ((IntKind.u64.wrap (a1)) < (IntKind.u64.wrap (a2))))).bind fun t269 => (some t269)) else (if a0 = 34 then (if a2 < a1 then (some a2) else (some a1)) else (if a0 = 35 then (if a2 > a1 then (some a2) else (some a1)) else ((scarabref02_Wide.f k a1 a2).bind fun bt270 => (some bt270.1))))))))) = some r := h
  clear h
  rw [if_neg c4] at H
  have c4b0 : (a0 == 29) = false := beq_eq_false_iff_ne.mpr c4
  have c4b1 : (a0 != 29) = true := bne_iff_ne.mpr c4
  rw [if_pos c6] at H
  have c6b0 : (a0 == 30) = true := beq_iff_eq.mpr c6
  have c6b1 : (a0 != 30) = false := bne_eq_false_iff_eq.mpr c6
  clear c6
  replace H := Option.bind_eq_some_iff.mp H
  obtain ⟨t266, A70, H⟩ := H
  replace H : (some t266) = some r := H
  have A7 := Aside0.mk A70
  clear A70
  obtain rfl := Option.some.inj H
  go_enter Tryd.func67, Tryd.ntmps67
  go_wp2_with (first | ((with_reducible refine gate_callee (f := 64) rfl ?_); refine goesL_ (some 21) rfl rfl Tryd.func64 (by kernel_rfl) rfl #[.bool (a1 != a2)] rfl (by (try simp only [List.map_toArray, List.map_cons, List.map_nil]); first | done | rfl | (simp only [List.length_drop, List.length_take]; rfl)) ?_; (with_reducible refine (scarabref02_yes.calls (a1 != a2) t266 _ A7.out).mono ?_); rintro e w' ⟨rfl, ⟨nd, rfl⟩⟩; refine ⟨_, rfl, ?_⟩))
  go_ret
  exact ⟨by first | rfl | (simp; done) | (simp [*]; done), by repeat (first | exact Drawn0.refl _ | apply Drawn0.step)⟩
set_option maxHeartbeats 8000000 in
set_option maxRecDepth 100000 in
theorem scarabref02_held.calls_2 (k : Nat) (a0 : Int) (a1 : Int) (a2 : Int) (r : Int) (w : World) (h : scarabref02_held.f k a0 a1 a2 = some r) (c4 : ¬ (a0 = 29)) (c6 : ¬ (a0 = 30)) (c8 : a0 = 31) :
    Calls Tryd.prog 67 #[.int .i64 a0, .int .i64 a1, .int .i64 a2] w fun e w' => e = .returned (.int .i64 r) ∧ Drawn0 w w' := by
  have H : (if a0 = 29 then ((scarabref02_yes.f (a1 == a2)).bind fun t265 => (some t265)) else (if a0 = 30 then ((scarabref02_yes.f (a1 != a2)).bind fun t266 => (some t266)) else (if a0 = 31 then ((scarabref02_yes.f (decide (a1 < a2))).bind fun t267 => (some t267)) else (if a0 = 32 then ((scarabref02_yes.f (decide (a1 ≤ a2))).bind fun t268 => (some t268)) else (if a0 = 33 then ((scarabref02_yes.f (decide ((IntKind.u64.wrap (a1)) < (IntKind.u64.wrap (a2))))).bind fun t269 => (some t269)) else (if a0 = 34 then (if a2 < a1 then (some a2) else (some a1)) else (if a0 = 35 then (if a2 > a1 then (some a2) else (some a1)) else ((scarabref02_Wide.f k a1 a2).bind fun bt270 => (some bt270.1))))))))) = some r := h
  clear h
  rw [if_neg c4] at H
  have c4b0 : (a0 == 29) = false := beq_eq_false_iff_ne.mpr c4
  have c4b1 : (a0 != 29) = true := bne_iff_ne.mpr c4
  rw [if_neg c6] at H
  have c6b0 : (a0 == 30) = false := beq_eq_false_iff_ne.mpr c6
  have c6b1 : (a0 != 30) = true := bne_iff_ne.mpr c6
  rw [if_pos c8] at H
  have c8b0 : (a0 == 31) = true := beq_iff_eq.mpr c8
  have c8b1 : (a0 != 31) = false := bne_eq_false_iff_eq.mpr c8
  clear c8
  replace H := Option.bind_eq_some_iff.mp H
  obtain ⟨t267, A90, H⟩ := H
  replace H : (some t267) = some r := H
  have A9 := Aside0.mk A90
  clear A90
  obtain rfl := Option.some.inj H
  go_enter Tryd.func67, Tryd.ntmps67
  go_wp2_with (first | ((with_reducible refine gate_callee (f := 64) rfl ?_); refine goesL_ (some 27) rfl rfl Tryd.func64 (by kernel_rfl) rfl #[.bool (decide (a1 < a2))] rfl (by (try simp only [List.map_toArray, List.map_cons, List.map_nil]); first | done | rfl | (simp only [List.length_drop, List.length_take]; rfl)) ?_; (with_reducible refine (scarabref02_yes.calls (decide (a1 < a2)) t267 _ A9.out).mono ?_); rintro e w' ⟨rfl, ⟨nd, rfl⟩⟩; refine ⟨_, rfl, ?_⟩))
  go_ret
  exact ⟨by first | rfl | (simp; done) | (simp [*]; done), by repeat (first | exact Drawn0.refl _ | apply Drawn0.step)⟩
set_option maxHeartbeats 8000000 in
set_option maxRecDepth 100000 in
theorem scarabref02_held.calls_3 (k : Nat) (a0 : Int) (a1 : Int) (a2 : Int) (r : Int) (w : World) (h : scarabref02_held.f k a0 a1 a2 = some r) (c4 : ¬ (a0 = 29)) (c6 : ¬ (a0 = 30)) (c8 : ¬ (a0 = 31)) (c10 : a0 = 32) :
    Calls Tryd.prog 67 #[.int .i64 a0, .int .i64 a1, .int .i64 a2] w fun e w' => e = .returned (.int .i64 r) ∧ Drawn0 w w' := by
  have H : (if a0 = 29 then ((scarabref02_yes.f (a1 == a2)).bind fun t265 => (some t265)) else (if a0 = 30 then ((scarabref02_yes.f (a1 != a2)).bind fun t266 => (some t266)) else (if a0 = 31 then ((scarabref02_yes.f (decide (a1 < a2))).bind fun t267 => (some t267)) else (if a0 = 32 then ((scarabref02_yes.f (decide (a1 ≤ a2))).bind fun t268 => (some t268)) else (if a0 = 33 then ((scarabref02_yes.f (decide ((IntKind.u64.wrap (a1)) < (IntKind.u64.wrap (a2))))).bind fun t269 => (some t269)) else (if a0 = 34 then (if a2 < a1 then (some a2) else (some a1)) else (if a0 = 35 then (if a2 > a1 then (some a2) else (some a1)) else ((scarabref02_Wide.f k a1 a2).bind fun bt270 => (some bt270.1))))))))) = some r := h
  clear h
  rw [if_neg c4] at H
  have c4b0 : (a0 == 29) = false := beq_eq_false_iff_ne.mpr c4
  have c4b1 : (a0 != 29) = true := bne_iff_ne.mpr c4
  rw [if_neg c6] at H
  have c6b0 : (a0 == 30) = false := beq_eq_false_iff_ne.mpr c6
  have c6b1 : (a0 != 30) = true := bne_iff_ne.mpr c6
  rw [if_neg c8] at H
  have c8b0 : (a0 == 31) = false := beq_eq_false_iff_ne.mpr c8
  have c8b1 : (a0 != 31) = true := bne_iff_ne.mpr c8
  rw [if_pos c10] at H
  have c10b0 : (a0 == 32) = true := beq_iff_eq.mpr c10
  have c10b1 : (a0 != 32) = false := bne_eq_false_iff_eq.mpr c10
  clear c10
  replace H := Option.bind_eq_some_iff.mp H
  obtain ⟨t268, A110, H⟩ := H
  replace H : (some t268) = some r := H
  have A11 := Aside0.mk A110
  clear A110
  obtain rfl := Option.some.inj H
  go_enter Tryd.func67, Tryd.ntmps67
  go_wp2_with (first | ((with_reducible refine gate_callee (f := 64) rfl ?_); refine goesL_ (some 33) rfl rfl Tryd.func64 (by kernel_rfl) rfl #[.bool (decide (a1 ≤ a2))] rfl (by (try simp only [List.map_toArray, List.map_cons, List.map_nil]); first | done | rfl | (simp only [List.length_drop, List.length_take]; rfl)) ?_; (with_reducible refine (scarabref02_yes.calls (decide (a1 ≤ a2)) t268 _ A11.out).mono ?_); rintro e w' ⟨rfl, ⟨nd, rfl⟩⟩; refine ⟨_, rfl, ?_⟩))
  go_ret
  exact ⟨by first | rfl | (simp; done) | (simp [*]; done), by repeat (first | exact Drawn0.refl _ | apply Drawn0.step)⟩
set_option maxHeartbeats 8000000 in
set_option maxRecDepth 100000 in
theorem scarabref02_held.calls_4 (k : Nat) (a0 : Int) (a1 : Int) (a2 : Int) (r : Int) (w : World) (h : scarabref02_held.f k a0 a1 a2 = some r) (c4 : ¬ (a0 = 29)) (c6 : ¬ (a0 = 30)) (c8 : ¬ (a0 = 31)) (c10 : ¬ (a0 = 32)) (c12 : a0 = 33) :
    Calls Tryd.prog 67 #[.int .i64 a0, .int .i64 a1, .int .i64 a2] w fun e w' => e = .returned (.int .i64 r) ∧ Drawn0 w w' := by
  have H : (if a0 = 29 then ((scarabref02_yes.f (a1 == a2)).bind fun t265 => (some t265)) else (if a0 = 30 then ((scarabref02_yes.f (a1 != a2)).bind fun t266 => (some t266)) else (if a0 = 31 then ((scarabref02_yes.f (decide (a1 < a2))).bind fun t267 => (some t267)) else (if a0 = 32 then ((scarabref02_yes.f (decide (a1 ≤ a2))).bind fun t268 => (some t268)) else (if a0 = 33 then ((scarabref02_yes.f (decide ((IntKind.u64.wrap (a1)) < (IntKind.u64.wrap (a2))))).bind fun t269 => (some t269)) else (if a0 = 34 then (if a2 < a1 then (some a2) else (some a1)) else (if a0 = 35 then (if a2 > a1 then (some a2) else (some a1)) else ((scarabref02_Wide.f k a1 a2).bind fun bt270 => (some bt270.1))))))))) = some r := h
  clear h
  rw [if_neg c4] at H
  have c4b0 : (a0 == 29) = false := beq_eq_false_iff_ne.mpr c4
  have c4b1 : (a0 != 29) = true := bne_iff_ne.mpr c4
  rw [if_neg c6] at H
  have c6b0 : (a0 == 30) = false := beq_eq_false_iff_ne.mpr c6
  have c6b1 : (a0 != 30) = true := bne_iff_ne.mpr c6
  rw [if_neg c8] at H
  have c8b0 : (a0 == 31) = false := beq_eq_false_iff_ne.mpr c8
  have c8b1 : (a0 != 31) = true := bne_iff_ne.mpr c8
  rw [if_neg c10] at H
  have c10b0 : (a0 == 32) = false := beq_eq_false_iff_ne.mpr c10
  have c10b1 : (a0 != 32) = true := bne_iff_ne.mpr c10
  rw [if_pos c12] at H
  have c12b0 : (a0 == 33) = true := beq_iff_eq.mpr c12
  have c12b1 : (a0 != 33) = false := bne_eq_false_iff_eq.mpr c12
  clear c12
  replace H := Option.bind_eq_some_iff.mp H
  obtain ⟨t269, A130, H⟩ := H
  replace H : (some t269) = some r := H
  have A13 := Aside0.mk A130
  clear A130
  obtain rfl := Option.some.inj H
  go_enter Tryd.func67, Tryd.ntmps67
  go_wp2_with (first | ((with_reducible refine gate_callee (f := 64) rfl ?_); refine goesL_ (some 41) rfl rfl Tryd.func64 (by kernel_rfl) rfl #[.bool (decide ((IntKind.u64.wrap (a1)) < (IntKind.u64.wrap (a2))))] rfl (by (try simp only [List.map_toArray, List.map_cons, List.map_nil]); first | done | rfl | (simp only [List.length_drop, List.length_take]; rfl)) ?_; (with_reducible refine (scarabref02_yes.calls (decide ((IntKind.u64.wrap (a1)) < (IntKind.u64.wrap (a2)))) t269 _ A13.out).mono ?_); rintro e w' ⟨rfl, ⟨nd, rfl⟩⟩; refine ⟨_, rfl, ?_⟩))
  go_ret
  exact ⟨by first | rfl | (simp; done) | (simp [*]; done), by repeat (first | exact Drawn0.refl _ | apply Drawn0.step)⟩
set_option maxHeartbeats 8000000 in
set_option maxRecDepth 100000 in
theorem scarabref02_held.calls_5 (k : Nat) (a0 : Int) (a1 : Int) (a2 : Int) (r : Int) (w : World) (h : scarabref02_held.f k a0 a1 a2 = some r) (c4 : ¬ (a0 = 29)) (c6 : ¬ (a0 = 30)) (c8 : ¬ (a0 = 31)) (c10 : ¬ (a0 = 32)) (c12 : ¬ (a0 = 33)) (c14 : a0 = 34) (c15 : a2 < a1) :
    Calls Tryd.prog 67 #[.int .i64 a0, .int .i64 a1, .int .i64 a2] w fun e w' => e = .returned (.int .i64 r) ∧ Drawn0 w w' := by
  have H : (if a0 = 29 then ((scarabref02_yes.f (a1 == a2)).bind fun t265 => (some t265)) else (if a0 = 30 then ((scarabref02_yes.f (a1 != a2)).bind fun t266 => (some t266)) else (if a0 = 31 then ((scarabref02_yes.f (decide (a1 < a2))).bind fun t267 => (some t267)) else (if a0 = 32 then ((scarabref02_yes.f (decide (a1 ≤ a2))).bind fun t268 => (some t268)) else (if a0 = 33 then ((scarabref02_yes.f (decide ((IntKind.u64.wrap (a1)) < (IntKind.u64.wrap (a2))))).bind fun t269 => (some t269)) else (if a0 = 34 then (if a2 < a1 then (some a2) else (some a1)) else (if a0 = 35 then (if a2 > a1 then (some a2) else (some a1)) else ((scarabref02_Wide.f k a1 a2).bind fun bt270 => (some bt270.1))))))))) = some r := h
  clear h
  rw [if_neg c4] at H
  have c4b0 : (a0 == 29) = false := beq_eq_false_iff_ne.mpr c4
  have c4b1 : (a0 != 29) = true := bne_iff_ne.mpr c4
  rw [if_neg c6] at H
  have c6b0 : (a0 == 30) = false := beq_eq_false_iff_ne.mpr c6
  have c6b1 : (a0 != 30) = true := bne_iff_ne.mpr c6
  rw [if_neg c8] at H
  have c8b0 : (a0 == 31) = false := beq_eq_false_iff_ne.mpr c8
  have c8b1 : (a0 != 31) = true := bne_iff_ne.mpr c8
  rw [if_neg c10] at H
  have c10b0 : (a0 == 32) = false := beq_eq_false_iff_ne.mpr c10
  have c10b1 : (a0 != 32) = true := bne_iff_ne.mpr c10
  rw [if_neg c12] at H
  have c12b0 : (a0 == 33) = false := beq_eq_false_iff_ne.mpr c12
  have c12b1 : (a0 != 33) = true := bne_iff_ne.mpr c12
  rw [if_pos c14] at H
  have c14b0 : (a0 == 34) = true := beq_iff_eq.mpr c14
  have c14b1 : (a0 != 34) = false := bne_eq_false_iff_eq.mpr c14
  clear c14
  rw [if_pos c15] at H
  have c15b0 : decide (a2 < a1) = true := decide_eq_true c15
  clear c15
  obtain rfl := Option.some.inj H
  go_enter Tryd.func67, Tryd.ntmps67
  go_wp2
  go_ret
  exact ⟨by first | rfl | (simp; done) | (simp [*]; done), by repeat (first | exact Drawn0.refl _ | apply Drawn0.step)⟩
set_option maxHeartbeats 8000000 in
set_option maxRecDepth 100000 in
theorem scarabref02_held.calls_6 (k : Nat) (a0 : Int) (a1 : Int) (a2 : Int) (r : Int) (w : World) (h : scarabref02_held.f k a0 a1 a2 = some r) (c4 : ¬ (a0 = 29)) (c6 : ¬ (a0 = 30)) (c8 : ¬ (a0 = 31)) (c10 : ¬ (a0 = 32)) (c12 : ¬ (a0 = 33)) (c14 : a0 = 34) (c15 : ¬ (a2 < a1)) :
    Calls Tryd.prog 67 #[.int .i64 a0, .int .i64 a1, .int .i64 a2] w fun e w' => e = .returned (.int .i64 r) ∧ Drawn0 w w' := by
  have H : (if a0 = 29 then ((scarabref02_yes.f (a1 == a2)).bind fun t265 => (some t265)) else (if a0 = 30 then ((scarabref02_yes.f (a1 != a2)).bind fun t266 => (some t266)) else (if a0 = 31 then ((scarabref02_yes.f (decide (a1 < a2))).bind fun t267 => (some t267)) else (if a0 = 32 then ((scarabref02_yes.f (decide (a1 ≤ a2))).bind fun t268 => (some t268)) else (if a0 = 33 then ((scarabref02_yes.f (decide ((IntKind.u64.wrap (a1)) < (IntKind.u64.wrap (a2))))).bind fun t269 => (some t269)) else (if a0 = 34 then (if a2 < a1 then (some a2) else (some a1)) else (if a0 = 35 then (if a2 > a1 then (some a2) else (some a1)) else ((scarabref02_Wide.f k a1 a2).bind fun bt270 => (some bt270.1))))))))) = some r := h
  clear h
  rw [if_neg c4] at H
  have c4b0 : (a0 == 29) = false := beq_eq_false_iff_ne.mpr c4
  have c4b1 : (a0 != 29) = true := bne_iff_ne.mpr c4
  rw [if_neg c6] at H
  have c6b0 : (a0 == 30) = false := beq_eq_false_iff_ne.mpr c6
  have c6b1 : (a0 != 30) = true := bne_iff_ne.mpr c6
  rw [if_neg c8] at H
  have c8b0 : (a0 == 31) = false := beq_eq_false_iff_ne.mpr c8
  have c8b1 : (a0 != 31) = true := bne_iff_ne.mpr c8
  rw [if_neg c10] at H
  have c10b0 : (a0 == 32) = false := beq_eq_false_iff_ne.mpr c10
  have c10b1 : (a0 != 32) = true := bne_iff_ne.mpr c10
  rw [if_neg c12] at H
  have c12b0 : (a0 == 33) = false := beq_eq_false_iff_ne.mpr c12
  have c12b1 : (a0 != 33) = true := bne_iff_ne.mpr c12
  rw [if_pos c14] at H
  have c14b0 : (a0 == 34) = true := beq_iff_eq.mpr c14
  have c14b1 : (a0 != 34) = false := bne_eq_false_iff_eq.mpr c14
  clear c14
  rw [if_neg c15] at H
  have c15b0 : decide (a2 < a1) = false := decide_eq_false c15
  clear c15
  obtain rfl := Option.some.inj H
  go_enter Tryd.func67, Tryd.ntmps67
  go_wp2
  go_ret
  exact ⟨by first | rfl | (simp; done) | (simp [*]; done), by repeat (first | exact Drawn0.refl _ | apply Drawn0.step)⟩
set_option maxHeartbeats 8000000 in
set_option maxRecDepth 100000 in
theorem scarabref02_held.calls_7 (k : Nat) (a0 : Int) (a1 : Int) (a2 : Int) (r : Int) (w : World) (h : scarabref02_held.f k a0 a1 a2 = some r) (c4 : ¬ (a0 = 29)) (c6 : ¬ (a0 = 30)) (c8 : ¬ (a0 = 31)) (c10 : ¬ (a0 = 32)) (c12 : ¬ (a0 = 33)) (c14 : ¬ (a0 = 34)) (c16 : a0 = 35) (c17 : a2 > a1) :
    Calls Tryd.prog 67 #[.int .i64 a0, .int .i64 a1, .int .i64 a2] w fun e w' => e = .returned (.int .i64 r) ∧ Drawn0 w w' := by
  have H : (if a0 = 29 then ((scarabref02_yes.f (a1 == a2)).bind fun t265 => (some t265)) else (if a0 = 30 then ((scarabref02_yes.f (a1 != a2)).bind fun t266 => (some t266)) else (if a0 = 31 then ((scarabref02_yes.f (decide (a1 < a2))).bind fun t267 => (some t267)) else (if a0 = 32 then ((scarabref02_yes.f (decide (a1 ≤ a2))).bind fun t268 => (some t268)) else (if a0 = 33 then ((scarabref02_yes.f (decide ((IntKind.u64.wrap (a1)) < (IntKind.u64.wrap (a2))))).bind fun t269 => (some t269)) else (if a0 = 34 then (if a2 < a1 then (some a2) else (some a1)) else (if a0 = 35 then (if a2 > a1 then (some a2) else (some a1)) else ((scarabref02_Wide.f k a1 a2).bind fun bt270 => (some bt270.1))))))))) = some r := h
  clear h
  rw [if_neg c4] at H
  have c4b0 : (a0 == 29) = false := beq_eq_false_iff_ne.mpr c4
  have c4b1 : (a0 != 29) = true := bne_iff_ne.mpr c4
  rw [if_neg c6] at H
  have c6b0 : (a0 == 30) = false := beq_eq_false_iff_ne.mpr c6
  have c6b1 : (a0 != 30) = true := bne_iff_ne.mpr c6
  rw [if_neg c8] at H
  have c8b0 : (a0 == 31) = false := beq_eq_false_iff_ne.mpr c8
  have c8b1 : (a0 != 31) = true := bne_iff_ne.mpr c8
  rw [if_neg c10] at H
  have c10b0 : (a0 == 32) = false := beq_eq_false_iff_ne.mpr c10
  have c10b1 : (a0 != 32) = true := bne_iff_ne.mpr c10
  rw [if_neg c12] at H
  have c12b0 : (a0 == 33) = false := beq_eq_false_iff_ne.mpr c12
  have c12b1 : (a0 != 33) = true := bne_iff_ne.mpr c12
  rw [if_neg c14] at H
  have c14b0 : (a0 == 34) = false := beq_eq_false_iff_ne.mpr c14
  have c14b1 : (a0 != 34) = true := bne_iff_ne.mpr c14
  rw [if_pos c16] at H
  have c16b0 : (a0 == 35) = true := beq_iff_eq.mpr c16
  have c16b1 : (a0 != 35) = false := bne_eq_false_iff_eq.mpr c16
  clear c16
  rw [if_pos c17] at H
  have c17b0 : decide (a1 < a2) = true := decide_eq_true c17
  clear c17
  obtain rfl := Option.some.inj H
  go_enter Tryd.func67, Tryd.ntmps67
  go_wp2
  go_ret
  exact ⟨by first | rfl | (simp; done) | (simp [*]; done), by repeat (first | exact Drawn0.refl _ | apply Drawn0.step)⟩
set_option maxHeartbeats 8000000 in
set_option maxRecDepth 100000 in
theorem scarabref02_held.calls_8 (k : Nat) (a0 : Int) (a1 : Int) (a2 : Int) (r : Int) (w : World) (h : scarabref02_held.f k a0 a1 a2 = some r) (c4 : ¬ (a0 = 29)) (c6 : ¬ (a0 = 30)) (c8 : ¬ (a0 = 31)) (c10 : ¬ (a0 = 32)) (c12 : ¬ (a0 = 33)) (c14 : ¬ (a0 = 34)) (c16 : a0 = 35) (c17 : ¬ (a2 > a1)) :
    Calls Tryd.prog 67 #[.int .i64 a0, .int .i64 a1, .int .i64 a2] w fun e w' => e = .returned (.int .i64 r) ∧ Drawn0 w w' := by
  have H : (if a0 = 29 then ((scarabref02_yes.f (a1 == a2)).bind fun t265 => (some t265)) else (if a0 = 30 then ((scarabref02_yes.f (a1 != a2)).bind fun t266 => (some t266)) else (if a0 = 31 then ((scarabref02_yes.f (decide (a1 < a2))).bind fun t267 => (some t267)) else (if a0 = 32 then ((scarabref02_yes.f (decide (a1 ≤ a2))).bind fun t268 => (some t268)) else (if a0 = 33 then ((scarabref02_yes.f (decide ((IntKind.u64.wrap (a1)) < (IntKind.u64.wrap (a2))))).bind fun t269 => (some t269)) else (if a0 = 34 then (if a2 < a1 then (some a2) else (some a1)) else (if a0 = 35 then (if a2 > a1 then (some a2) else (some a1)) else ((scarabref02_Wide.f k a1 a2).bind fun bt270 => (some bt270.1))))))))) = some r := h
  clear h
  rw [if_neg c4] at H
  have c4b0 : (a0 == 29) = false := beq_eq_false_iff_ne.mpr c4
  have c4b1 : (a0 != 29) = true := bne_iff_ne.mpr c4
  rw [if_neg c6] at H
  have c6b0 : (a0 == 30) = false := beq_eq_false_iff_ne.mpr c6
  have c6b1 : (a0 != 30) = true := bne_iff_ne.mpr c6
  rw [if_neg c8] at H
  have c8b0 : (a0 == 31) = false := beq_eq_false_iff_ne.mpr c8
  have c8b1 : (a0 != 31) = true := bne_iff_ne.mpr c8
  rw [if_neg c10] at H
  have c10b0 : (a0 == 32) = false := beq_eq_false_iff_ne.mpr c10
  have c10b1 : (a0 != 32) = true := bne_iff_ne.mpr c10
  rw [if_neg c12] at H
  have c12b0 : (a0 == 33) = false := beq_eq_false_iff_ne.mpr c12
  have c12b1 : (a0 != 33) = true := bne_iff_ne.mpr c12
  rw [if_neg c14] at H
  have c14b0 : (a0 == 34) = false := beq_eq_false_iff_ne.mpr c14
  have c14b1 : (a0 != 34) = true := bne_iff_ne.mpr c14
  rw [if_pos c16] at H
  have c16b0 : (a0 == 35) = true := beq_iff_eq.mpr c16
  have c16b1 : (a0 != 35) = false := bne_eq_false_iff_eq.mpr c16
  clear c16
  rw [if_neg c17] at H
  have c17b0 : decide (a1 < a2) = false := decide_eq_false c17
  clear c17
  obtain rfl := Option.some.inj H
  go_enter Tryd.func67, Tryd.ntmps67
  go_wp2
  go_ret
  exact ⟨by first | rfl | (simp; done) | (simp [*]; done), by repeat (first | exact Drawn0.refl _ | apply Drawn0.step)⟩
set_option maxHeartbeats 8000000 in
set_option maxRecDepth 100000 in
theorem scarabref02_held.calls_9 (k : Nat) (a0 : Int) (a1 : Int) (a2 : Int) (r : Int) (w : World) (h : scarabref02_held.f k a0 a1 a2 = some r) (c4 : ¬ (a0 = 29)) (c6 : ¬ (a0 = 30)) (c8 : ¬ (a0 = 31)) (c10 : ¬ (a0 = 32)) (c12 : ¬ (a0 = 33)) (c14 : ¬ (a0 = 34)) (c16 : ¬ (a0 = 35)) :
    Calls Tryd.prog 67 #[.int .i64 a0, .int .i64 a1, .int .i64 a2] w fun e w' => e = .returned (.int .i64 r) ∧ Drawn0 w w' := by
  have H : (if a0 = 29 then ((scarabref02_yes.f (a1 == a2)).bind fun t265 => (some t265)) else (if a0 = 30 then ((scarabref02_yes.f (a1 != a2)).bind fun t266 => (some t266)) else (if a0 = 31 then ((scarabref02_yes.f (decide (a1 < a2))).bind fun t267 => (some t267)) else (if a0 = 32 then ((scarabref02_yes.f (decide (a1 ≤ a2))).bind fun t268 => (some t268)) else (if a0 = 33 then ((scarabref02_yes.f (decide ((IntKind.u64.wrap (a1)) < (IntKind.u64.wrap (a2))))).bind fun t269 => (some t269)) else (if a0 = 34 then (if a2 < a1 then (some a2) else (some a1)) else (if a0 = 35 then (if a2 > a1 then (some a2) else (some a1)) else ((scarabref02_Wide.f k a1 a2).bind fun bt270 => (some bt270.1))))))))) = some r := h
  clear h
  rw [if_neg c4] at H
  have c4b0 : (a0 == 29) = false := beq_eq_false_iff_ne.mpr c4
  have c4b1 : (a0 != 29) = true := bne_iff_ne.mpr c4
  rw [if_neg c6] at H
  have c6b0 : (a0 == 30) = false := beq_eq_false_iff_ne.mpr c6
  have c6b1 : (a0 != 30) = true := bne_iff_ne.mpr c6
  rw [if_neg c8] at H
  have c8b0 : (a0 == 31) = false := beq_eq_false_iff_ne.mpr c8
  have c8b1 : (a0 != 31) = true := bne_iff_ne.mpr c8
  rw [if_neg c10] at H
  have c10b0 : (a0 == 32) = false := beq_eq_false_iff_ne.mpr c10
  have c10b1 : (a0 != 32) = true := bne_iff_ne.mpr c10
  rw [if_neg c12] at H
  have c12b0 : (a0 == 33) = false := beq_eq_false_iff_ne.mpr c12
  have c12b1 : (a0 != 33) = true := bne_iff_ne.mpr c12
  rw [if_neg c14] at H
  have c14b0 : (a0 == 34) = false := beq_eq_false_iff_ne.mpr c14
  have c14b1 : (a0 != 34) = true := bne_iff_ne.mpr c14
  rw [if_neg c16] at H
  have c16b0 : (a0 == 35) = false := beq_eq_false_iff_ne.mpr c16
  have c16b1 : (a0 != 35) = true := bne_iff_ne.mpr c16
  replace H := Option.bind_eq_some_iff.mp H
  obtain ⟨⟨t270, t271⟩, A180, H⟩ := H
  replace H : (some t270) = some r := H
  have A18 := Aside0.mk A180
  clear A180
  obtain rfl := Option.some.inj H
  go_enter Tryd.func67, Tryd.ntmps67
  go_wp2_with (first | ((with_reducible refine gate_callee (f := 18) rfl ?_); refine goesL_ (some 59) rfl rfl Tryd.func18 (by kernel_rfl) rfl #[.int .i64 a1, .int .i64 a2] rfl (by (try simp only [List.map_toArray, List.map_cons, List.map_nil]); first | done | rfl | (simp only [List.length_drop, List.length_take]; rfl)) ?_; (with_reducible refine (scarabref02_Wide.calls k a1 a2 t270 t271 _ A18.out).mono ?_); rintro e w' ⟨rfl, ⟨nd, rfl⟩⟩; refine ⟨_, rfl, ?_⟩))
  go_ret
  exact ⟨by first | rfl | (simp; done) | (simp [*]; done), by repeat (first | exact Drawn0.refl _ | apply Drawn0.step)⟩
set_option maxHeartbeats 8000000 in
set_option maxRecDepth 100000 in
theorem scarabref02_held.calls (k : Nat) (a0 : Int) (a1 : Int) (a2 : Int) (r : Int) (w : World) (h : scarabref02_held.f k a0 a1 a2 = some r) :
    Calls Tryd.prog 67 #[.int .i64 a0, .int .i64 a1, .int .i64 a2] w fun e w' => e = .returned (.int .i64 r) ∧ Drawn0 w w' := by
  by_cases c4 : a0 = 29
  · exact scarabref02_held.calls_0 k a0 a1 a2 r w h c4
  · by_cases c6 : a0 = 30
    · exact scarabref02_held.calls_1 k a0 a1 a2 r w h c4 c6
    · by_cases c8 : a0 = 31
      · exact scarabref02_held.calls_2 k a0 a1 a2 r w h c4 c6 c8
      · by_cases c10 : a0 = 32
        · exact scarabref02_held.calls_3 k a0 a1 a2 r w h c4 c6 c8 c10
        · by_cases c12 : a0 = 33
          · exact scarabref02_held.calls_4 k a0 a1 a2 r w h c4 c6 c8 c10 c12
          · by_cases c14 : a0 = 34
            · by_cases c15 : a2 < a1
              · exact scarabref02_held.calls_5 k a0 a1 a2 r w h c4 c6 c8 c10 c12 c14 c15
              · exact scarabref02_held.calls_6 k a0 a1 a2 r w h c4 c6 c8 c10 c12 c14 c15
            · by_cases c16 : a0 = 35
              · by_cases c17 : a2 > a1
                · exact scarabref02_held.calls_7 k a0 a1 a2 r w h c4 c6 c8 c10 c12 c14 c16 c17
                · exact scarabref02_held.calls_8 k a0 a1 a2 r w h c4 c6 c8 c10 c12 c14 c16 c17
              · exact scarabref02_held.calls_9 k a0 a1 a2 r w h c4 c6 c8 c10 c12 c14 c16

end Go.Proofs.YtckfnbjjghdaoaaDoor.Q
