-- This session's own text, made by its own run of the tools (wip/tools/pr.sh).
import Derived.Test.YtckfnbjjghdaoaaDoorQ0
import Derived.Test.YtckfnbjjghdaoaaDoorQ3
namespace Go.Proofs.YtckfnbjjghdaoaaDoor.Q
open Go.RowKit Go.Proofs.YtckfnbjjghdaoaaDoorW.PrintWords Go.Proofs.YtckfnbjjghdaoaaDoorW.PrintLast Go.Proofs.YtckfnbjjghdaoaaDoorW.PrintMore
attribute [local go_sem] max2_int min2_int max_two min_two max_three min_three max_four min_four   -- for this text's walks alone
set_option linter.unusedVariables false
set_option linter.unusedSimpArgs false

/-! ### scarablaw02_WordQuotient: function 5 -/
mutual
def scarablaw02_WordQuotient.j0 : Nat → Int → Int → Int → Int → Bool → Option (Bool)
  | 0, _, _, _, _, _ => none
  | k + 1, x0, x1, x7, x11, x12 => if x12 = true then (if x11 = x0 then (if x7 = 0 then (scarablaw02_WordQuotient.j1 k x1 x7 false) else (scarablaw02_WordQuotient.j1 k x1 x7 ((decide (x7 < 0)) != (decide (x0 < 0))))) else (scarablaw02_WordQuotient.j1 k x1 x7 true)) else (scarablaw02_WordQuotient.j1 k x1 x7 true)
def scarablaw02_WordQuotient.j1 : Nat → Int → Int → Bool → Option (Bool)
  | 0, _, _, _ => none
  | k + 1, x1, x7, x81 => if x81 = true then (some false) else (if x7 > 0 then (if x1 > 0 then (some (decide ((wrap64 (-x7)) > (wrap64 (-x1))))) else (some (decide ((wrap64 (-x7)) > x1)))) else (if x1 > 0 then (some (decide (x7 > (wrap64 (-x1))))) else (some (decide (x7 > x1)))))
end
def scarablaw02_WordQuotient.f (k : Nat) (a0 : Int) (a1 : Int) : Option (Bool) := (scarablaw02_speaks.f k).bind fun t171 => (if t171 = true then ((word_Apply.f k 19 a0 a1).bind fun bt172 => ((word_Apply.f k 20 a0 a1).bind fun bt174 => (if a1 = 0 then (if bt172.1 = 0 then (if bt174.1 = 0 then (if bt172.2 = 20 then (some (bt174.2 == 20)) else (some false)) else (some false)) else (some false)) else ((scarablaw02_did.f k 18 bt172.1 a1).bind fun bt176 => (if bt172.2 = 0 then ((scarablaw02_pair.f k 16 bt176.1 bt176.2 bt174.1 (bt174.2 == 0)).bind fun bt178 => (scarablaw02_WordQuotient.j0 k a0 a1 bt174.1 bt178.1 bt178.2)) else ((scarablaw02_pair.f k 16 bt176.1 bt176.2 bt174.1 false).bind fun bt180 => (scarablaw02_WordQuotient.j0 k a0 a1 bt174.1 bt180.1 bt180.2))))))) else (some false))
theorem scarablaw02_WordQuotient.mono_l : ∀ k, (∀ y0 y1 y2 y3 y4, LeO (scarablaw02_WordQuotient.j0 k y0 y1 y2 y3 y4) (scarablaw02_WordQuotient.j0 (k + 1) y0 y1 y2 y3 y4)) ∧ (∀ y0 y1 y2, LeO (scarablaw02_WordQuotient.j1 k y0 y1 y2) (scarablaw02_WordQuotient.j1 (k + 1) y0 y1 y2))
  | 0 => ⟨fun _ _ _ _ _ r h => by simp [scarablaw02_WordQuotient.j0] at h, fun _ _ _ r h => by simp [scarablaw02_WordQuotient.j1] at h⟩
  | k + 1 => by
    obtain ⟨ih0, ih1⟩ := scarablaw02_WordQuotient.mono_l k
    refine ⟨?_, ?_⟩
    · intro y0 y1 y2 y3 y4
      unfold scarablaw02_WordQuotient.j0
      repeat' first
      | (with_reducible exact ih0 _ _ _ _ _)
      | (with_reducible exact ih1 _ _ _)
      | (with_reducible exact scarablaw02_did.mono _ _ _ _)
      | (with_reducible exact scarablaw02_pair.mono _ _ _ _ _ _)
      | (with_reducible exact scarablaw02_speaks.mono _)
      | (with_reducible exact word_Apply.mono _ _ _ _)
      | (with_reducible exact LeO.refl _)
      | (with_reducible exact LeO.none _)
      | (with_reducible refine LeO.ite ?_ ?_)
      | (with_reducible refine LeO.bind ?_ (fun _ => ?_))
      | exact ih0 _ _ _ _ _
      | exact ih1 _ _ _
      | exact scarablaw02_did.mono _ _ _ _
      | exact scarablaw02_pair.mono _ _ _ _ _ _
      | exact scarablaw02_speaks.mono _
      | exact word_Apply.mono _ _ _ _
      | exact LeO.none _
      | refine LeO.ite ?_ ?_
      | refine LeO.bind ?_ (fun _ => ?_)
    · intro y0 y1 y2
      unfold scarablaw02_WordQuotient.j1
      repeat' first
      | (with_reducible exact ih0 _ _ _ _ _)
      | (with_reducible exact ih1 _ _ _)
      | (with_reducible exact scarablaw02_did.mono _ _ _ _)
      | (with_reducible exact scarablaw02_pair.mono _ _ _ _ _ _)
      | (with_reducible exact scarablaw02_speaks.mono _)
      | (with_reducible exact word_Apply.mono _ _ _ _)
      | (with_reducible exact LeO.refl _)
      | (with_reducible exact LeO.none _)
      | (with_reducible refine LeO.ite ?_ ?_)
      | (with_reducible refine LeO.bind ?_ (fun _ => ?_))
      | exact ih0 _ _ _ _ _
      | exact ih1 _ _ _
      | exact scarablaw02_did.mono _ _ _ _
      | exact scarablaw02_pair.mono _ _ _ _ _ _
      | exact scarablaw02_speaks.mono _
      | exact word_Apply.mono _ _ _ _
      | exact LeO.none _
      | refine LeO.ite ?_ ?_
      | refine LeO.bind ?_ (fun _ => ?_)
theorem scarablaw02_WordQuotient.mono : ∀ a0 a1 k, LeO (scarablaw02_WordQuotient.f k a0 a1) (scarablaw02_WordQuotient.f (k + 1) a0 a1) := by
  intro a0 a1 k
  obtain ⟨ih0, ih1⟩ := scarablaw02_WordQuotient.mono_l k
  unfold scarablaw02_WordQuotient.f
  repeat' first
      | (with_reducible exact ih0 _ _ _ _ _)
      | (with_reducible exact ih1 _ _ _)
      | (with_reducible exact scarablaw02_did.mono _ _ _ _)
      | (with_reducible exact scarablaw02_pair.mono _ _ _ _ _ _)
      | (with_reducible exact scarablaw02_speaks.mono _)
      | (with_reducible exact word_Apply.mono _ _ _ _)
      | (with_reducible exact LeO.refl _)
      | (with_reducible exact LeO.none _)
      | (with_reducible refine LeO.ite ?_ ?_)
      | (with_reducible refine LeO.bind ?_ (fun _ => ?_))
      | exact ih0 _ _ _ _ _
      | exact ih1 _ _ _
      | exact scarablaw02_did.mono _ _ _ _
      | exact scarablaw02_pair.mono _ _ _ _ _ _
      | exact scarablaw02_speaks.mono _
      | exact word_Apply.mono _ _ _ _
      | exact LeO.none _
      | refine LeO.ite ?_ ?_
      | refine LeO.bind ?_ (fun _ => ?_)
set_option maxHeartbeats 8000000 in
set_option maxRecDepth 100000 in
theorem scarablaw02_WordQuotient.calls (k : Nat) (a0 : Int) (a1 : Int) (r : Bool) (w : World) (h : scarablaw02_WordQuotient.f k a0 a1 = some r) :
    Calls Tryd.prog 5 #[.int .i64 a0, .int .i64 a1] w fun e w' => e = .returned (.bool r) ∧ Below w.heap.size w w' := by
  have HB := Aside0.mk (Below.refl w.heap.size w)
  have H : ((scarablaw02_speaks.f k).bind fun t171 => (if t171 = true then ((word_Apply.f k 19 a0 a1).bind fun bt172 => ((word_Apply.f k 20 a0 a1).bind fun bt174 => (if a1 = 0 then (if bt172.1 = 0 then (if bt174.1 = 0 then (if bt172.2 = 20 then (some (bt174.2 == 20)) else (some false)) else (some false)) else (some false)) else ((scarablaw02_did.f k 18 bt172.1 a1).bind fun bt176 => (if bt172.2 = 0 then ((scarablaw02_pair.f k 16 bt176.1 bt176.2 bt174.1 (bt174.2 == 0)).bind fun bt178 => (scarablaw02_WordQuotient.j0 k a0 a1 bt174.1 bt178.1 bt178.2)) else ((scarablaw02_pair.f k 16 bt176.1 bt176.2 bt174.1 false).bind fun bt180 => (scarablaw02_WordQuotient.j0 k a0 a1 bt174.1 bt180.1 bt180.2))))))) else (some false))) = some r := h
  clear h
  replace H := Option.bind_eq_some_iff.mp H
  obtain ⟨t171, A30, H⟩ := H
  replace H : (if t171 = true then ((word_Apply.f k 19 a0 a1).bind fun bt172 => ((word_Apply.f k 20 a0 a1).bind fun bt174 => (if a1 = 0 then (if bt172.1 = 0 then (if bt174.1 = 0 then (if bt172.2 = 20 then (some (bt174.2 == 20)) else (some false)) else (some false)) else (some false)) else ((scarablaw02_did.f k 18 bt172.1 a1).bind fun bt176 => (if bt172.2 = 0 then ((scarablaw02_pair.f k 16 bt176.1 bt176.2 bt174.1 (bt174.2 == 0)).bind fun bt178 => (scarablaw02_WordQuotient.j0 k a0 a1 bt174.1 bt178.1 bt178.2)) else ((scarablaw02_pair.f k 16 bt176.1 bt176.2 bt174.1 false).bind fun bt180 => (scarablaw02_WordQuotient.j0 k a0 a1 bt174.1 bt180.1 bt180.2))))))) else (some false)) = some r := H
  have A3 := Aside0.mk A30
  clear A30
  by_cases c4 : t171 = true
  · subst c4
    have H1 : ((word_Apply.f k 19 a0 a1).bind fun bt172 => ((word_Apply.f k 20 a0 a1).bind fun bt174 => (if a1 = 0 then (if bt172.1 = 0 then (if bt174.1 = 0 then (if bt172.2 = 20 then (some (bt174.2 == 20)) else (some false)) else (some false)) else (some false)) else ((scarablaw02_did.f k 18 bt172.1 a1).bind fun bt176 => (if bt172.2 = 0 then ((scarablaw02_pair.f k 16 bt176.1 bt176.2 bt174.1 (bt174.2 == 0)).bind fun bt178 => (scarablaw02_WordQuotient.j0 k a0 a1 bt174.1 bt178.1 bt178.2)) else ((scarablaw02_pair.f k 16 bt176.1 bt176.2 bt174.1 false).bind fun bt180 => (scarablaw02_WordQuotient.j0 k a0 a1 bt174.1 bt180.1 bt180.2))))))) = some r := by rw [if_pos rfl] at H; exact H
    clear H
    have H := H1
    clear H1
    replace H := Option.bind_eq_some_iff.mp H
    obtain ⟨⟨t172, t173⟩, A50, H⟩ := H
    replace H : ((word_Apply.f k 20 a0 a1).bind fun bt174 => (if a1 = 0 then (if t172 = 0 then (if bt174.1 = 0 then (if t173 = 20 then (some (bt174.2 == 20)) else (some false)) else (some false)) else (some false)) else ((scarablaw02_did.f k 18 t172 a1).bind fun bt176 => (if t173 = 0 then ((scarablaw02_pair.f k 16 bt176.1 bt176.2 bt174.1 (bt174.2 == 0)).bind fun bt178 => (scarablaw02_WordQuotient.j0 k a0 a1 bt174.1 bt178.1 bt178.2)) else ((scarablaw02_pair.f k 16 bt176.1 bt176.2 bt174.1 false).bind fun bt180 => (scarablaw02_WordQuotient.j0 k a0 a1 bt174.1 bt180.1 bt180.2)))))) = some r := H
    have A5 := Aside0.mk A50
    clear A50
    replace H := Option.bind_eq_some_iff.mp H
    obtain ⟨⟨t174, t175⟩, A60, H⟩ := H
    replace H : (if a1 = 0 then (if t172 = 0 then (if t174 = 0 then (if t173 = 20 then (some (t175 == 20)) else (some false)) else (some false)) else (some false)) else ((scarablaw02_did.f k 18 t172 a1).bind fun bt176 => (if t173 = 0 then ((scarablaw02_pair.f k 16 bt176.1 bt176.2 t174 (t175 == 0)).bind fun bt178 => (scarablaw02_WordQuotient.j0 k a0 a1 t174 bt178.1 bt178.2)) else ((scarablaw02_pair.f k 16 bt176.1 bt176.2 t174 false).bind fun bt180 => (scarablaw02_WordQuotient.j0 k a0 a1 t174 bt180.1 bt180.2))))) = some r := H
    have A6 := Aside0.mk A60
    clear A60
    by_cases c7 : a1 = 0
    · rw [if_pos c7] at H
      have c7b0 : (a1 == 0) = true := beq_iff_eq.mpr c7
      have c7b1 : (a1 != 0) = false := bne_eq_false_iff_eq.mpr c7
      clear c7
      by_cases c8 : t172 = 0
      · rw [if_pos c8] at H
        have c8b0 : (t172 == 0) = true := beq_iff_eq.mpr c8
        have c8b1 : (t172 != 0) = false := bne_eq_false_iff_eq.mpr c8
        clear c8
        by_cases c9 : t174 = 0
        · rw [if_pos c9] at H
          have c9b0 : (t174 == 0) = true := beq_iff_eq.mpr c9
          have c9b1 : (t174 != 0) = false := bne_eq_false_iff_eq.mpr c9
          clear c9
          by_cases c10 : t173 = 20
          · rw [if_pos c10] at H
            have c10b0 : (t173 == 20) = true := beq_iff_eq.mpr c10
            have c10b1 : (t173 != 20) = false := bne_eq_false_iff_eq.mpr c10
            clear c10
            obtain rfl := Option.some.inj H
            go_enter Tryd.func5, Tryd.ntmps5
            go_wp2_with (first | ((with_reducible refine gate_callee (f := 19) rfl ?_); refine goesL_ (some 15) rfl rfl Tryd.func19 (by kernel_rfl) rfl #[] rfl (by (try simp only [List.map_toArray, List.map_cons, List.map_nil]); first | done | rfl | (simp only [List.length_drop, List.length_take]; rfl)) ?_; (with_reducible refine (scarablaw02_speaks.calls k  true _ A3.out).mono ?_); rintro e w11 ⟨rfl, hb⟩; refine ⟨_, rfl, ?_⟩; have n0_ := Aside0.mk (below_step (by repeat (first | (with_reducible first | exact HB.out | apply below_alloc | apply pw_below_drewN | apply below_drew1) | exact HB.out)) hb); clear HB; have HB := n0_; clear n0_; (try clear hb); (try clear hb2); (try clear hk); (try clear hi)) | ((with_reducible refine gate_callee (f := 22) rfl ?_); refine goesL_ (some 20) rfl rfl Tryd.func22 (by kernel_rfl) rfl #[.int .i64 19, .int .i64 a0, .int .i64 a1] rfl (by (try simp only [List.map_toArray, List.map_cons, List.map_nil]); first | done | rfl | (simp only [List.length_drop, List.length_take]; rfl)) ?_; (with_reducible refine (word_Apply.calls k 19 a0 a1 t172 t173 _ A5.out).mono ?_); rintro e w12 ⟨rfl, hb⟩; refine ⟨_, rfl, ?_⟩; have n0_ := Aside0.mk (below_step (by repeat (first | (with_reducible first | exact HB.out | apply below_alloc | apply pw_below_drewN | apply below_drew1) | exact HB.out)) hb); clear HB; have HB := n0_; clear n0_; (try clear hb); (try clear hb2); (try clear hk); (try clear hi)) | ((with_reducible refine gate_callee (f := 22) rfl ?_); refine goesL_ (some 26) rfl rfl Tryd.func22 (by kernel_rfl) rfl #[.int .i64 20, .int .i64 a0, .int .i64 a1] rfl (by (try simp only [List.map_toArray, List.map_cons, List.map_nil]); first | done | rfl | (simp only [List.length_drop, List.length_take]; rfl)) ?_; (with_reducible refine (word_Apply.calls k 20 a0 a1 t174 t175 _ A6.out).mono ?_); rintro e w13 ⟨rfl, hb⟩; refine ⟨_, rfl, ?_⟩; have n0_ := Aside0.mk (below_step (by repeat (first | (with_reducible first | exact HB.out | apply below_alloc | apply pw_below_drewN | apply below_drew1) | exact HB.out)) hb); clear HB; have HB := n0_; clear n0_; (try clear hb); (try clear hb2); (try clear hk); (try clear hi)))
            go_ret
            exact ⟨by first | rfl | (simp [errW_none, errW_some] <;> rfl) | (simp [*, errW_none, errW_some] <;> rfl), by repeat (first | (with_reducible first | exact HB.out | apply below_alloc | apply pw_below_drewN | apply below_drew1) | exact HB.out)⟩
          · rw [if_neg c10] at H
            have c10b0 : (t173 == 20) = false := beq_eq_false_iff_ne.mpr c10
            have c10b1 : (t173 != 20) = true := bne_iff_ne.mpr c10
            obtain rfl := Option.some.inj H
            go_enter Tryd.func5, Tryd.ntmps5
            go_wp2_with (first | ((with_reducible refine gate_callee (f := 19) rfl ?_); refine goesL_ (some 15) rfl rfl Tryd.func19 (by kernel_rfl) rfl #[] rfl (by (try simp only [List.map_toArray, List.map_cons, List.map_nil]); first | done | rfl | (simp only [List.length_drop, List.length_take]; rfl)) ?_; (with_reducible refine (scarablaw02_speaks.calls k  true _ A3.out).mono ?_); rintro e w14 ⟨rfl, hb⟩; refine ⟨_, rfl, ?_⟩; have n0_ := Aside0.mk (below_step (by repeat (first | (with_reducible first | exact HB.out | apply below_alloc | apply pw_below_drewN | apply below_drew1) | exact HB.out)) hb); clear HB; have HB := n0_; clear n0_; (try clear hb); (try clear hb2); (try clear hk); (try clear hi)) | ((with_reducible refine gate_callee (f := 22) rfl ?_); refine goesL_ (some 20) rfl rfl Tryd.func22 (by kernel_rfl) rfl #[.int .i64 19, .int .i64 a0, .int .i64 a1] rfl (by (try simp only [List.map_toArray, List.map_cons, List.map_nil]); first | done | rfl | (simp only [List.length_drop, List.length_take]; rfl)) ?_; (with_reducible refine (word_Apply.calls k 19 a0 a1 t172 t173 _ A5.out).mono ?_); rintro e w15 ⟨rfl, hb⟩; refine ⟨_, rfl, ?_⟩; have n0_ := Aside0.mk (below_step (by repeat (first | (with_reducible first | exact HB.out | apply below_alloc | apply pw_below_drewN | apply below_drew1) | exact HB.out)) hb); clear HB; have HB := n0_; clear n0_; (try clear hb); (try clear hb2); (try clear hk); (try clear hi)) | ((with_reducible refine gate_callee (f := 22) rfl ?_); refine goesL_ (some 26) rfl rfl Tryd.func22 (by kernel_rfl) rfl #[.int .i64 20, .int .i64 a0, .int .i64 a1] rfl (by (try simp only [List.map_toArray, List.map_cons, List.map_nil]); first | done | rfl | (simp only [List.length_drop, List.length_take]; rfl)) ?_; (with_reducible refine (word_Apply.calls k 20 a0 a1 t174 t175 _ A6.out).mono ?_); rintro e w16 ⟨rfl, hb⟩; refine ⟨_, rfl, ?_⟩; have n0_ := Aside0.mk (below_step (by repeat (first | (with_reducible first | exact HB.out | apply below_alloc | apply pw_below_drewN | apply below_drew1) | exact HB.out)) hb); clear HB; have HB := n0_; clear n0_; (try clear hb); (try clear hb2); (try clear hk); (try clear hi)))
            go_ret
            exact ⟨by first | rfl | (simp [errW_none, errW_some] <;> rfl) | (simp [*, errW_none, errW_some] <;> rfl), by repeat (first | (with_reducible first | exact HB.out | apply below_alloc | apply pw_below_drewN | apply below_drew1) | exact HB.out)⟩
        · rw [if_neg c9] at H
          have c9b0 : (t174 == 0) = false := beq_eq_false_iff_ne.mpr c9
          have c9b1 : (t174 != 0) = true := bne_iff_ne.mpr c9
          obtain rfl := Option.some.inj H
          go_enter Tryd.func5, Tryd.ntmps5
          go_wp2_with (first | ((with_reducible refine gate_callee (f := 19) rfl ?_); refine goesL_ (some 15) rfl rfl Tryd.func19 (by kernel_rfl) rfl #[] rfl (by (try simp only [List.map_toArray, List.map_cons, List.map_nil]); first | done | rfl | (simp only [List.length_drop, List.length_take]; rfl)) ?_; (with_reducible refine (scarablaw02_speaks.calls k  true _ A3.out).mono ?_); rintro e w17 ⟨rfl, hb⟩; refine ⟨_, rfl, ?_⟩; have n0_ := Aside0.mk (below_step (by repeat (first | (with_reducible first | exact HB.out | apply below_alloc | apply pw_below_drewN | apply below_drew1) | exact HB.out)) hb); clear HB; have HB := n0_; clear n0_; (try clear hb); (try clear hb2); (try clear hk); (try clear hi)) | ((with_reducible refine gate_callee (f := 22) rfl ?_); refine goesL_ (some 20) rfl rfl Tryd.func22 (by kernel_rfl) rfl #[.int .i64 19, .int .i64 a0, .int .i64 a1] rfl (by (try simp only [List.map_toArray, List.map_cons, List.map_nil]); first | done | rfl | (simp only [List.length_drop, List.length_take]; rfl)) ?_; (with_reducible refine (word_Apply.calls k 19 a0 a1 t172 t173 _ A5.out).mono ?_); rintro e w18 ⟨rfl, hb⟩; refine ⟨_, rfl, ?_⟩; have n0_ := Aside0.mk (below_step (by repeat (first | (with_reducible first | exact HB.out | apply below_alloc | apply pw_below_drewN | apply below_drew1) | exact HB.out)) hb); clear HB; have HB := n0_; clear n0_; (try clear hb); (try clear hb2); (try clear hk); (try clear hi)) | ((with_reducible refine gate_callee (f := 22) rfl ?_); refine goesL_ (some 26) rfl rfl Tryd.func22 (by kernel_rfl) rfl #[.int .i64 20, .int .i64 a0, .int .i64 a1] rfl (by (try simp only [List.map_toArray, List.map_cons, List.map_nil]); first | done | rfl | (simp only [List.length_drop, List.length_take]; rfl)) ?_; (with_reducible refine (word_Apply.calls k 20 a0 a1 t174 t175 _ A6.out).mono ?_); rintro e w19 ⟨rfl, hb⟩; refine ⟨_, rfl, ?_⟩; have n0_ := Aside0.mk (below_step (by repeat (first | (with_reducible first | exact HB.out | apply below_alloc | apply pw_below_drewN | apply below_drew1) | exact HB.out)) hb); clear HB; have HB := n0_; clear n0_; (try clear hb); (try clear hb2); (try clear hk); (try clear hi)))
          go_ret
          exact ⟨by first | rfl | (simp [errW_none, errW_some] <;> rfl) | (simp [*, errW_none, errW_some] <;> rfl), by repeat (first | (with_reducible first | exact HB.out | apply below_alloc | apply pw_below_drewN | apply below_drew1) | exact HB.out)⟩
      · rw [if_neg c8] at H
        have c8b0 : (t172 == 0) = false := beq_eq_false_iff_ne.mpr c8
        have c8b1 : (t172 != 0) = true := bne_iff_ne.mpr c8
        obtain rfl := Option.some.inj H
        go_enter Tryd.func5, Tryd.ntmps5
        go_wp2_with (first | ((with_reducible refine gate_callee (f := 19) rfl ?_); refine goesL_ (some 15) rfl rfl Tryd.func19 (by kernel_rfl) rfl #[] rfl (by (try simp only [List.map_toArray, List.map_cons, List.map_nil]); first | done | rfl | (simp only [List.length_drop, List.length_take]; rfl)) ?_; (with_reducible refine (scarablaw02_speaks.calls k  true _ A3.out).mono ?_); rintro e w20 ⟨rfl, hb⟩; refine ⟨_, rfl, ?_⟩; have n0_ := Aside0.mk (below_step (by repeat (first | (with_reducible first | exact HB.out | apply below_alloc | apply pw_below_drewN | apply below_drew1) | exact HB.out)) hb); clear HB; have HB := n0_; clear n0_; (try clear hb); (try clear hb2); (try clear hk); (try clear hi)) | ((with_reducible refine gate_callee (f := 22) rfl ?_); refine goesL_ (some 20) rfl rfl Tryd.func22 (by kernel_rfl) rfl #[.int .i64 19, .int .i64 a0, .int .i64 a1] rfl (by (try simp only [List.map_toArray, List.map_cons, List.map_nil]); first | done | rfl | (simp only [List.length_drop, List.length_take]; rfl)) ?_; (with_reducible refine (word_Apply.calls k 19 a0 a1 t172 t173 _ A5.out).mono ?_); rintro e w21 ⟨rfl, hb⟩; refine ⟨_, rfl, ?_⟩; have n0_ := Aside0.mk (below_step (by repeat (first | (with_reducible first | exact HB.out | apply below_alloc | apply pw_below_drewN | apply below_drew1) | exact HB.out)) hb); clear HB; have HB := n0_; clear n0_; (try clear hb); (try clear hb2); (try clear hk); (try clear hi)) | ((with_reducible refine gate_callee (f := 22) rfl ?_); refine goesL_ (some 26) rfl rfl Tryd.func22 (by kernel_rfl) rfl #[.int .i64 20, .int .i64 a0, .int .i64 a1] rfl (by (try simp only [List.map_toArray, List.map_cons, List.map_nil]); first | done | rfl | (simp only [List.length_drop, List.length_take]; rfl)) ?_; (with_reducible refine (word_Apply.calls k 20 a0 a1 t174 t175 _ A6.out).mono ?_); rintro e w22 ⟨rfl, hb⟩; refine ⟨_, rfl, ?_⟩; have n0_ := Aside0.mk (below_step (by repeat (first | (with_reducible first | exact HB.out | apply below_alloc | apply pw_below_drewN | apply below_drew1) | exact HB.out)) hb); clear HB; have HB := n0_; clear n0_; (try clear hb); (try clear hb2); (try clear hk); (try clear hi)))
        go_ret
        exact ⟨by first | rfl | (simp [errW_none, errW_some] <;> rfl) | (simp [*, errW_none, errW_some] <;> rfl), by repeat (first | (with_reducible first | exact HB.out | apply below_alloc | apply pw_below_drewN | apply below_drew1) | exact HB.out)⟩
    · rw [if_neg c7] at H
      have c7b0 : (a1 == 0) = false := beq_eq_false_iff_ne.mpr c7
      have c7b1 : (a1 != 0) = true := bne_iff_ne.mpr c7
      replace H := Option.bind_eq_some_iff.mp H
      obtain ⟨⟨t176, t177⟩, A230, H⟩ := H
      replace H : (if t173 = 0 then ((scarablaw02_pair.f k 16 t176 t177 t174 (t175 == 0)).bind fun bt178 => (scarablaw02_WordQuotient.j0 k a0 a1 t174 bt178.1 bt178.2)) else ((scarablaw02_pair.f k 16 t176 t177 t174 false).bind fun bt180 => (scarablaw02_WordQuotient.j0 k a0 a1 t174 bt180.1 bt180.2))) = some r := H
      have A23 := Aside0.mk A230
      clear A230
      have HC24 := Aside0.mk H
      clear H
      go_enter Tryd.func5, Tryd.ntmps5
      go_upto_region 8 with (first | ((with_reducible refine gate_callee (f := 19) rfl ?_); refine goesL_ (some 15) rfl rfl Tryd.func19 (by kernel_rfl) rfl #[] rfl (by (try simp only [List.map_toArray, List.map_cons, List.map_nil]); first | done | rfl | (simp only [List.length_drop, List.length_take]; rfl)) ?_; (with_reducible refine (scarablaw02_speaks.calls k  true _ A3.out).mono ?_); rintro e w25 ⟨rfl, hb⟩; refine ⟨_, rfl, ?_⟩; have n0_ := Aside0.mk (below_step (by repeat (first | (with_reducible first | exact HB.out | apply below_alloc | apply pw_below_drewN | apply below_drew1) | exact HB.out)) hb); clear HB; have HB := n0_; clear n0_; (try clear hb); (try clear hb2); (try clear hk); (try clear hi)) | ((with_reducible refine gate_callee (f := 22) rfl ?_); refine goesL_ (some 20) rfl rfl Tryd.func22 (by kernel_rfl) rfl #[.int .i64 19, .int .i64 a0, .int .i64 a1] rfl (by (try simp only [List.map_toArray, List.map_cons, List.map_nil]); first | done | rfl | (simp only [List.length_drop, List.length_take]; rfl)) ?_; (with_reducible refine (word_Apply.calls k 19 a0 a1 t172 t173 _ A5.out).mono ?_); rintro e w26 ⟨rfl, hb⟩; refine ⟨_, rfl, ?_⟩; have n0_ := Aside0.mk (below_step (by repeat (first | (with_reducible first | exact HB.out | apply below_alloc | apply pw_below_drewN | apply below_drew1) | exact HB.out)) hb); clear HB; have HB := n0_; clear n0_; (try clear hb); (try clear hb2); (try clear hk); (try clear hi)) | ((with_reducible refine gate_callee (f := 22) rfl ?_); refine goesL_ (some 26) rfl rfl Tryd.func22 (by kernel_rfl) rfl #[.int .i64 20, .int .i64 a0, .int .i64 a1] rfl (by (try simp only [List.map_toArray, List.map_cons, List.map_nil]); first | done | rfl | (simp only [List.length_drop, List.length_take]; rfl)) ?_; (with_reducible refine (word_Apply.calls k 20 a0 a1 t174 t175 _ A6.out).mono ?_); rintro e w27 ⟨rfl, hb⟩; refine ⟨_, rfl, ?_⟩; have n0_ := Aside0.mk (below_step (by repeat (first | (with_reducible first | exact HB.out | apply below_alloc | apply pw_below_drewN | apply below_drew1) | exact HB.out)) hb); clear HB; have HB := n0_; clear n0_; (try clear hb); (try clear hb2); (try clear hk); (try clear hi)) | ((with_reducible refine gate_callee (f := 20) rfl ?_); refine goesL_ (some 48) rfl rfl Tryd.func20 (by kernel_rfl) rfl #[.int .i64 18, .int .i64 t172, .int .i64 a1] rfl (by (try simp only [List.map_toArray, List.map_cons, List.map_nil]); first | done | rfl | (simp only [List.length_drop, List.length_take]; rfl)) ?_; (with_reducible refine (scarablaw02_did.calls k 18 t172 a1 t176 t177 _ A23.out).mono ?_); rintro e w28 ⟨rfl, hb⟩; refine ⟨_, rfl, ?_⟩; have n0_ := Aside0.mk (below_step (by repeat (first | (with_reducible first | exact HB.out | apply below_alloc | apply pw_below_drewN | apply below_drew1) | exact HB.out)) hb); clear HB; have HB := n0_; clear n0_; (try clear hb); (try clear hb2); (try clear hk); (try clear hi)))
      (try simp only [Act.put, List.setIfInBounds_toArray, List.set_cons_zero, List.set_cons_succ])
      go_cut [11, 12] (fun v11 v12 wc => ∃ (kq : Nat) (x11_23 : Int) (x12_23 : Bool), v11 = .int .i64 x11_23 ∧ v12 = .bool x12_23 ∧ Aside0 (scarablaw02_WordQuotient.j0 kq a0 a1 t174 x11_23 x12_23 = some r) ∧ Aside0 (kq ≤ k) ∧ Aside0 (Below w.heap.size w wc))
      case first =>
        have H := HC24.out
        clear HC24
        by_cases c29 : t173 = 0
        · rw [if_pos c29] at H
          have c29b0 : (t173 == 0) = true := beq_iff_eq.mpr c29
          have c29b1 : (t173 != 0) = false := bne_eq_false_iff_eq.mpr c29
          clear c29
          (first | rw [c29b0] | (simp only [i64_w, i32_w]; rw [c29b0]) | skip)
          replace H := Option.bind_eq_some_iff.mp H
          obtain ⟨⟨t178, t179⟩, A300, H⟩ := H
          replace H : (scarablaw02_WordQuotient.j0 k a0 a1 t174 t178 t179) = some r := H
          have A30 := Aside0.mk A300
          clear A300
          have H' := Aside0.mk H
          clear H
          go_wp2_with (first | ((with_reducible refine gate_callee (f := 21) rfl ?_); refine goesL_ (some 61) rfl rfl Tryd.func21 (by kernel_rfl) rfl #[.int .i64 16, .int .i64 t176, .bool t177, .int .i64 t174, .bool (t175 == 0)] rfl (by (try simp only [List.map_toArray, List.map_cons, List.map_nil]); first | done | rfl | (simp only [List.length_drop, List.length_take]; rfl)) ?_; (with_reducible refine (scarablaw02_pair.calls k 16 t176 t177 t174 (t175 == 0) t178 t179 _ A30.out).mono ?_); rintro e w31 ⟨rfl, hb⟩; refine ⟨_, rfl, ?_⟩; have n0_ := Aside0.mk (below_step (by repeat (first | (with_reducible first | exact HB.out | apply below_alloc | apply pw_below_drewN | apply below_drew1) | exact HB.out)) hb); clear HB; have HB := n0_; clear n0_; (try clear hb); (try clear hb2); (try clear hk); (try clear hi)))
          go_meet
          case rel => exact ⟨_, (t178), (t179), (by first | rfl | (simp; done) | (simp [*]; done)), (by first | rfl | (simp; done) | (simp [*]; done)), H', ⟨by first | omega | exact Nat.le_refl _⟩, ⟨by repeat (first | (with_reducible first | exact HB.out | apply below_alloc | apply pw_below_drewN | apply below_drew1) | exact HB.out)⟩⟩
        · rw [if_neg c29] at H
          have c29b0 : (t173 == 0) = false := beq_eq_false_iff_ne.mpr c29
          have c29b1 : (t173 != 0) = true := bne_iff_ne.mpr c29
          (first | rw [c29b0] | (simp only [i64_w, i32_w]; rw [c29b0]) | skip)
          replace H := Option.bind_eq_some_iff.mp H
          obtain ⟨⟨t180, t181⟩, A320, H⟩ := H
          replace H : (scarablaw02_WordQuotient.j0 k a0 a1 t174 t180 t181) = some r := H
          have A32 := Aside0.mk A320
          clear A320
          have H' := Aside0.mk H
          clear H
          go_wp2_with (first | ((with_reducible refine gate_callee (f := 21) rfl ?_); refine goesL_ (some 61) rfl rfl Tryd.func21 (by kernel_rfl) rfl #[.int .i64 16, .int .i64 t176, .bool t177, .int .i64 t174, .bool false] rfl (by (try simp only [List.map_toArray, List.map_cons, List.map_nil]); first | done | rfl | (simp only [List.length_drop, List.length_take]; rfl)) ?_; (with_reducible refine (scarablaw02_pair.calls k 16 t176 t177 t174 false t180 t181 _ A32.out).mono ?_); rintro e w33 ⟨rfl, hb⟩; refine ⟨_, rfl, ?_⟩; have n0_ := Aside0.mk (below_step (by repeat (first | (with_reducible first | exact HB.out | apply below_alloc | apply pw_below_drewN | apply below_drew1) | exact HB.out)) hb); clear HB; have HB := n0_; clear n0_; (try clear hb); (try clear hb2); (try clear hk); (try clear hi)))
          go_meet
          case rel => exact ⟨_, (t180), (t181), (by first | rfl | (simp; done) | (simp [*]; done)), (by first | rfl | (simp; done) | (simp [*]; done)), H', ⟨by first | omega | exact Nat.le_refl _⟩, ⟨by repeat (first | (with_reducible first | exact HB.out | apply below_alloc | apply pw_below_drewN | apply below_drew1) | exact HB.out)⟩⟩
      case rest =>
        clear HC24
        try clear c1
        try clear c2
        try clear p2
        try clear c4
        try clear c5
        try clear c7
        try clear c7b0
        try clear c7b1
        try clear c8
        try clear c8b0
        try clear c8b1
        try clear c9
        try clear c9b0
        try clear c9b1
        try clear c10
        try clear c10b0
        try clear c10b1
        try clear c19
        try clear c20
        try clear c21
        try clear c22
        try clear c29
        try clear c29b0
        try clear c29b1
        obtain ⟨kq, x11_23, x12_23, rfl, rfl, HA, HJ23, HB⟩ := hcut
        cases kq with
        | zero => exact absurd HA.out (by simp [scarablaw02_WordQuotient.j0])
        | succ kj23 =>
          have H := HA.out
          clear HA
          simp only [scarablaw02_WordQuotient.j0] at H
          have HC34 := Aside0.mk H
          clear H
          go_upto_region 9 with (fail)
          go_cut [81] (fun v81 wc => ∃ (kq : Nat) (x81_33 : Bool), v81 = .bool x81_33 ∧ Aside0 (scarablaw02_WordQuotient.j1 kq a1 t174 x81_33 = some r) ∧ Aside0 (kq ≤ kj23) ∧ Aside0 (Below w.heap.size w wc))
          case first =>
            have H := HC34.out
            clear HC34
            by_cases c35 : x12_23 = true
            · subst c35
              have H1 : (if x11_23 = a0 then (if t174 = 0 then (scarablaw02_WordQuotient.j1 kj23 a1 t174 false) else (scarablaw02_WordQuotient.j1 kj23 a1 t174 ((decide (t174 < 0)) != (decide (a0 < 0))))) else (scarablaw02_WordQuotient.j1 kj23 a1 t174 true)) = some r := by rw [if_pos rfl] at H; exact H
              clear H
              have H := H1
              clear H1
              by_cases c36 : x11_23 = a0
              · rw [if_pos c36] at H
                have c36b0 : (x11_23 == a0) = true := beq_iff_eq.mpr c36
                have c36b1 : (x11_23 != a0) = false := bne_eq_false_iff_eq.mpr c36
                clear c36
                (first | rw [c36b0] | (simp only [i64_w, i32_w]; rw [c36b0]) | skip)
                by_cases c37 : t174 = 0
                · rw [if_pos c37] at H
                  have c37b0 : (t174 == 0) = true := beq_iff_eq.mpr c37
                  have c37b1 : (t174 != 0) = false := bne_eq_false_iff_eq.mpr c37
                  clear c37
                  have H' := Aside0.mk H
                  clear H
                  go_wp2
                  go_meet
                  case rel => exact ⟨_, (false), (by first | rfl | (simp; done) | (simp [*]; done)), H', ⟨by have := HJ23.out; first | omega | exact Nat.le_refl _⟩, ⟨by repeat (first | (with_reducible first | exact HB.out | apply below_alloc | apply pw_below_drewN | apply below_drew1) | exact HB.out)⟩⟩
                · rw [if_neg c37] at H
                  have c37b0 : (t174 == 0) = false := beq_eq_false_iff_ne.mpr c37
                  have c37b1 : (t174 != 0) = true := bne_iff_ne.mpr c37
                  have H' := Aside0.mk H
                  clear H
                  go_wp2
                  go_meet
                  case rel => exact ⟨_, (((decide (t174 < 0)) != (decide (a0 < 0)))), (by first | rfl | (simp; done) | (simp [*]; done)), H', ⟨by have := HJ23.out; first | omega | exact Nat.le_refl _⟩, ⟨by repeat (first | (with_reducible first | exact HB.out | apply below_alloc | apply pw_below_drewN | apply below_drew1) | exact HB.out)⟩⟩
              · rw [if_neg c36] at H
                have c36b0 : (x11_23 == a0) = false := beq_eq_false_iff_ne.mpr c36
                have c36b1 : (x11_23 != a0) = true := bne_iff_ne.mpr c36
                (first | rw [c36b0] | (simp only [i64_w, i32_w]; rw [c36b0]) | skip)
                have H' := Aside0.mk H
                clear H
                go_wp2
                go_meet
                case rel => exact ⟨_, (true), (by first | rfl | (simp; done) | (simp [*]; done)), H', ⟨by have := HJ23.out; first | omega | exact Nat.le_refl _⟩, ⟨by repeat (first | (with_reducible first | exact HB.out | apply below_alloc | apply pw_below_drewN | apply below_drew1) | exact HB.out)⟩⟩
            · replace c35 := Bool.eq_false_iff.mpr c35
              subst c35
              have H1 : (scarablaw02_WordQuotient.j1 kj23 a1 t174 true) = some r := by rw [if_neg (show ¬ (false = true) by decide)] at H; exact H
              clear H
              have H := H1
              clear H1
              have H' := Aside0.mk H
              clear H
              go_wp2
              go_meet
              case rel => exact ⟨_, (true), (by first | rfl | (simp; done) | (simp [*]; done)), H', ⟨by have := HJ23.out; first | omega | exact Nat.le_refl _⟩, ⟨by repeat (first | (with_reducible first | exact HB.out | apply below_alloc | apply pw_below_drewN | apply below_drew1) | exact HB.out)⟩⟩
          case rest =>
            clear HC34
            try clear c1
            try clear c2
            try clear p2
            try clear c3
            try clear c4
            try clear c5
            try clear c7
            try clear c7b0
            try clear c7b1
            try clear c8
            try clear c8b0
            try clear c8b1
            try clear c9
            try clear c9b0
            try clear c9b1
            try clear c10
            try clear c10b0
            try clear c10b1
            try clear c19
            try clear c20
            try clear c21
            try clear c22
            try clear c29
            try clear c29b0
            try clear c29b1
            try clear c35
            try clear c36
            try clear c36b0
            try clear c36b1
            try clear c37
            try clear c37b0
            try clear c37b1
            try clear p2
            obtain ⟨kq, x81_33, rfl, HA, HJ33, HB⟩ := hcut
            cases kq with
            | zero => exact absurd HA.out (by simp [scarablaw02_WordQuotient.j1])
            | succ kj33 =>
              have H := HA.out
              clear HA
              simp only [scarablaw02_WordQuotient.j1] at H
              by_cases c38 : x81_33 = true
              · subst c38
                have H1 : (some false) = some r := by rw [if_pos rfl] at H; exact H
                clear H
                have H := H1
                clear H1
                obtain rfl := Option.some.inj H
                go_wp2
                go_ret
                exact ⟨by first | rfl | (simp [errW_none, errW_some] <;> rfl) | (simp [*, errW_none, errW_some] <;> rfl), by repeat (first | (with_reducible first | exact HB.out | apply below_alloc | apply pw_below_drewN | apply below_drew1) | exact HB.out)⟩
              · replace c38 := Bool.eq_false_iff.mpr c38
                subst c38
                have H1 : (if t174 > 0 then (if a1 > 0 then (some (decide ((wrap64 (-t174)) > (wrap64 (-a1))))) else (some (decide ((wrap64 (-t174)) > a1)))) else (if a1 > 0 then (some (decide (t174 > (wrap64 (-a1))))) else (some (decide (t174 > a1))))) = some r := by rw [if_neg (show ¬ (false = true) by decide)] at H; exact H
                clear H
                have H := H1
                clear H1
                by_cases c39 : t174 > 0
                · rw [if_pos c39] at H
                  have c39b0 : decide (0 < t174) = true := decide_eq_true c39
                  clear c39
                  by_cases c40 : a1 > 0
                  · rw [if_pos c40] at H
                    have c40b0 : decide (0 < a1) = true := decide_eq_true c40
                    clear c40
                    obtain rfl := Option.some.inj H
                    go_wp2
                    go_ret
                    exact ⟨by first | rfl | (simp [errW_none, errW_some] <;> rfl) | (simp [*, errW_none, errW_some] <;> rfl), by repeat (first | (with_reducible first | exact HB.out | apply below_alloc | apply pw_below_drewN | apply below_drew1) | exact HB.out)⟩
                  · rw [if_neg c40] at H
                    have c40b0 : decide (0 < a1) = false := decide_eq_false c40
                    clear c40
                    obtain rfl := Option.some.inj H
                    go_wp2
                    go_ret
                    exact ⟨by first | rfl | (simp [errW_none, errW_some] <;> rfl) | (simp [*, errW_none, errW_some] <;> rfl), by repeat (first | (with_reducible first | exact HB.out | apply below_alloc | apply pw_below_drewN | apply below_drew1) | exact HB.out)⟩
                · rw [if_neg c39] at H
                  have c39b0 : decide (0 < t174) = false := decide_eq_false c39
                  clear c39
                  by_cases c41 : a1 > 0
                  · rw [if_pos c41] at H
                    have c41b0 : decide (0 < a1) = true := decide_eq_true c41
                    clear c41
                    obtain rfl := Option.some.inj H
                    go_wp2
                    go_ret
                    exact ⟨by first | rfl | (simp [errW_none, errW_some] <;> rfl) | (simp [*, errW_none, errW_some] <;> rfl), by repeat (first | (with_reducible first | exact HB.out | apply below_alloc | apply pw_below_drewN | apply below_drew1) | exact HB.out)⟩
                  · rw [if_neg c41] at H
                    have c41b0 : decide (0 < a1) = false := decide_eq_false c41
                    clear c41
                    obtain rfl := Option.some.inj H
                    go_wp2
                    go_ret
                    exact ⟨by first | rfl | (simp [errW_none, errW_some] <;> rfl) | (simp [*, errW_none, errW_some] <;> rfl), by repeat (first | (with_reducible first | exact HB.out | apply below_alloc | apply pw_below_drewN | apply below_drew1) | exact HB.out)⟩
  · replace c4 := Bool.eq_false_iff.mpr c4
    subst c4
    have H1 : (some false) = some r := by rw [if_neg (show ¬ (false = true) by decide)] at H; exact H
    clear H
    have H := H1
    clear H1
    obtain rfl := Option.some.inj H
    go_enter Tryd.func5, Tryd.ntmps5
    go_wp2_with (first | ((with_reducible refine gate_callee (f := 19) rfl ?_); refine goesL_ (some 15) rfl rfl Tryd.func19 (by kernel_rfl) rfl #[] rfl (by (try simp only [List.map_toArray, List.map_cons, List.map_nil]); first | done | rfl | (simp only [List.length_drop, List.length_take]; rfl)) ?_; (with_reducible refine (scarablaw02_speaks.calls k  false _ A3.out).mono ?_); rintro e w42 ⟨rfl, hb⟩; refine ⟨_, rfl, ?_⟩; have n0_ := Aside0.mk (below_step (by repeat (first | (with_reducible first | exact HB.out | apply below_alloc | apply pw_below_drewN | apply below_drew1) | exact HB.out)) hb); clear HB; have HB := n0_; clear n0_; (try clear hb); (try clear hb2); (try clear hk); (try clear hi)))
    go_ret
    exact ⟨by first | rfl | (simp [errW_none, errW_some] <;> rfl) | (simp [*, errW_none, errW_some] <;> rfl), by repeat (first | (with_reducible first | exact HB.out | apply below_alloc | apply pw_below_drewN | apply below_drew1) | exact HB.out)⟩

/-- THE ONE PURE STATEMENT of scarablaw02_WordQuotient: yours. -/
def scarablaw02_WordQuotient.Pure : Prop := ∀ (a0 : Int) (a1 : Int), (Lit.int .i64 a0).wf = true → (Lit.int .i64 a1).wf = true → ∃ k, scarablaw02_WordQuotient.f k a0 a1 = some true
theorem scarablaw02_WordQuotient.walk (P : scarablaw02_WordQuotient.Pure) (a0 : Int) (a1 : Int) (w : World) (w0 : (Lit.int .i64 a0).wf = true) (w1 : (Lit.int .i64 a1).wf = true) :
    Calls Tryd.prog 5 #[.int .i64 a0, .int .i64 a1] w fun e w' => e = .returned (.bool true) ∧ Below w.heap.size w w' := by
  obtain ⟨k, h⟩ := P a0 a1 w0 w1
  refine (scarablaw02_WordQuotient.calls k a0 a1 true w h).mono ?_
  rintro e w' ⟨rfl, hd⟩
  exact ⟨rfl, hd⟩

/-! ### scarablaw02_WordTurns: function 6 -/
def scarablaw02_WordTurns.j0 : Nat → Int → Int → Int → Int → Bool → Option (Bool)
  | 0, _, _, _, _, _ => none
  | k + 1, x0, x7, x11, x15, x108 => if x108 = true then (some false) else ((scarablaw02_did.f k 4 x0 0).bind fun bt197 => ((scarablaw02_did.f k 4 x15 0).bind fun bt199 => ((scarablaw02_did.f k 4 x7 0).bind fun bt201 => ((scarablaw02_did.f k 5 x0 0).bind fun bt203 => ((scarablaw02_did.f k 6 x11 0).bind fun bt205 => (if bt197.2 = true then (if bt199.2 = true then (if bt201.2 = true then (if bt203.2 = true then (if bt205.2 = true then (if (wrap64 (bt197.1 + bt199.1)) = 64 then (if bt201.1 = bt197.1 then (some (bt203.1 == bt205.1)) else (some false)) else (some false)) else (some false)) else (some false)) else (some false)) else (some false)) else (some false)))))))
def scarablaw02_WordTurns.f (k : Nat) (a0 : Int) (a1 : Int) : Option (Bool) := (scarablaw02_speaks.f k).bind fun t182 => (if t182 = true then ((scarablaw02_did.f k 1 a1 0).bind fun bt183 => ((scarablaw02_did.f k 28 a0 a1).bind fun bt185 => ((scarablaw02_did.f k 28 bt185.1 bt183.1).bind fun bt187 => ((scarablaw02_did.f k 7 a0 0).bind fun bt189 => ((scarablaw02_did.f k 7 bt189.1 0).bind fun bt191 => ((scarablaw02_did.f k 2 a0 0).bind fun bt193 => ((scarablaw02_did.f k 2 bt193.1 0).bind fun bt195 => (if bt183.2 = true then (if bt185.2 = true then (if bt187.2 = true then (if bt189.2 = true then (if bt191.2 = true then (if bt193.2 = true then (if bt195.2 = true then (if bt187.1 = a0 then (if bt191.1 = a0 then (scarablaw02_WordTurns.j0 k a0 bt185.1 bt189.1 bt193.1 (bt195.1 != a0)) else (scarablaw02_WordTurns.j0 k a0 bt185.1 bt189.1 bt193.1 true)) else (scarablaw02_WordTurns.j0 k a0 bt185.1 bt189.1 bt193.1 true)) else (scarablaw02_WordTurns.j0 k a0 bt185.1 bt189.1 bt193.1 true)) else (scarablaw02_WordTurns.j0 k a0 bt185.1 bt189.1 bt193.1 true)) else (scarablaw02_WordTurns.j0 k a0 bt185.1 bt189.1 bt193.1 true)) else (scarablaw02_WordTurns.j0 k a0 bt185.1 bt189.1 bt193.1 true)) else (scarablaw02_WordTurns.j0 k a0 bt185.1 bt189.1 bt193.1 true)) else (scarablaw02_WordTurns.j0 k a0 bt185.1 bt189.1 bt193.1 true)) else (scarablaw02_WordTurns.j0 k a0 bt185.1 bt189.1 bt193.1 true))))))))) else (some false))
theorem scarablaw02_WordTurns.mono_l : ∀ k, (∀ y0 y1 y2 y3 y4, LeO (scarablaw02_WordTurns.j0 k y0 y1 y2 y3 y4) (scarablaw02_WordTurns.j0 (k + 1) y0 y1 y2 y3 y4))
  | 0 => fun _ _ _ _ _ r h => by simp [scarablaw02_WordTurns.j0] at h
  | k + 1 => by
    have ih0 := scarablaw02_WordTurns.mono_l k
    · intro y0 y1 y2 y3 y4
      unfold scarablaw02_WordTurns.j0
      repeat' first
      | (with_reducible exact ih0 _ _ _ _ _)
      | (with_reducible exact scarablaw02_did.mono _ _ _ _)
      | (with_reducible exact scarablaw02_speaks.mono _)
      | (with_reducible exact LeO.refl _)
      | (with_reducible exact LeO.none _)
      | (with_reducible refine LeO.ite ?_ ?_)
      | (with_reducible refine LeO.bind ?_ (fun _ => ?_))
      | exact ih0 _ _ _ _ _
      | exact scarablaw02_did.mono _ _ _ _
      | exact scarablaw02_speaks.mono _
      | exact LeO.none _
      | refine LeO.ite ?_ ?_
      | refine LeO.bind ?_ (fun _ => ?_)
theorem scarablaw02_WordTurns.mono : ∀ a0 a1 k, LeO (scarablaw02_WordTurns.f k a0 a1) (scarablaw02_WordTurns.f (k + 1) a0 a1) := by
  intro a0 a1 k
  have ih0 := scarablaw02_WordTurns.mono_l k
  unfold scarablaw02_WordTurns.f
  repeat' first
      | (with_reducible exact ih0 _ _ _ _ _)
      | (with_reducible exact scarablaw02_did.mono _ _ _ _)
      | (with_reducible exact scarablaw02_speaks.mono _)
      | (with_reducible exact LeO.refl _)
      | (with_reducible exact LeO.none _)
      | (with_reducible refine LeO.ite ?_ ?_)
      | (with_reducible refine LeO.bind ?_ (fun _ => ?_))
      | exact ih0 _ _ _ _ _
      | exact scarablaw02_did.mono _ _ _ _
      | exact scarablaw02_speaks.mono _
      | exact LeO.none _
      | refine LeO.ite ?_ ?_
      | refine LeO.bind ?_ (fun _ => ?_)
set_option maxHeartbeats 8000000 in
set_option maxRecDepth 100000 in
theorem scarablaw02_WordTurns.calls (k : Nat) (a0 : Int) (a1 : Int) (r : Bool) (w : World) (h : scarablaw02_WordTurns.f k a0 a1 = some r) :
    Calls Tryd.prog 6 #[.int .i64 a0, .int .i64 a1] w fun e w' => e = .returned (.bool r) ∧ Below w.heap.size w w' := by
  have HB := Aside0.mk (Below.refl w.heap.size w)
  have H : ((scarablaw02_speaks.f k).bind fun t182 => (if t182 = true then ((scarablaw02_did.f k 1 a1 0).bind fun bt183 => ((scarablaw02_did.f k 28 a0 a1).bind fun bt185 => ((scarablaw02_did.f k 28 bt185.1 bt183.1).bind fun bt187 => ((scarablaw02_did.f k 7 a0 0).bind fun bt189 => ((scarablaw02_did.f k 7 bt189.1 0).bind fun bt191 => ((scarablaw02_did.f k 2 a0 0).bind fun bt193 => ((scarablaw02_did.f k 2 bt193.1 0).bind fun bt195 => (if bt183.2 = true then (if bt185.2 = true then (if bt187.2 = true then (if bt189.2 = true then (if bt191.2 = true then (if bt193.2 = true then (if bt195.2 = true then (if bt187.1 = a0 then (if bt191.1 = a0 then (scarablaw02_WordTurns.j0 k a0 bt185.1 bt189.1 bt193.1 (bt195.1 != a0)) else (scarablaw02_WordTurns.j0 k a0 bt185.1 bt189.1 bt193.1 true)) else (scarablaw02_WordTurns.j0 k a0 bt185.1 bt189.1 bt193.1 true)) else (scarablaw02_WordTurns.j0 k a0 bt185.1 bt189.1 bt193.1 true)) else (scarablaw02_WordTurns.j0 k a0 bt185.1 bt189.1 bt193.1 true)) else (scarablaw02_WordTurns.j0 k a0 bt185.1 bt189.1 bt193.1 true)) else (scarablaw02_WordTurns.j0 k a0 bt185.1 bt189.1 bt193.1 true)) else (scarablaw02_WordTurns.j0 k a0 bt185.1 bt189.1 bt193.1 true)) else (scarablaw02_WordTurns.j0 k a0 bt185.1 bt189.1 bt193.1 true)) else (scarablaw02_WordTurns.j0 k a0 bt185.1 bt189.1 bt193.1 true))))))))) else (some false))) = some r := h
  clear h
  replace H := Option.bind_eq_some_iff.mp H
  obtain ⟨t182, A30, H⟩ := H
  replace H : (if t182 = true then ((scarablaw02_did.f k 1 a1 0).bind fun bt183 => ((scarablaw02_did.f k 28 a0 a1).bind fun bt185 => ((scarablaw02_did.f k 28 bt185.1 bt183.1).bind fun bt187 => ((scarablaw02_did.f k 7 a0 0).bind fun bt189 => ((scarablaw02_did.f k 7 bt189.1 0).bind fun bt191 => ((scarablaw02_did.f k 2 a0 0).bind fun bt193 => ((scarablaw02_did.f k 2 bt193.1 0).bind fun bt195 => (if bt183.2 = true then (if bt185.2 = true then (if bt187.2 = true then (if bt189.2 = true then (if bt191.2 = true then (if bt193.2 = true then (if bt195.2 = true then (if bt187.1 = a0 then (if bt191.1 = a0 then (scarablaw02_WordTurns.j0 k a0 bt185.1 bt189.1 bt193.1 (bt195.1 != a0)) else (scarablaw02_WordTurns.j0 k a0 bt185.1 bt189.1 bt193.1 true)) else (scarablaw02_WordTurns.j0 k a0 bt185.1 bt189.1 bt193.1 true)) else (scarablaw02_WordTurns.j0 k a0 bt185.1 bt189.1 bt193.1 true)) else (scarablaw02_WordTurns.j0 k a0 bt185.1 bt189.1 bt193.1 true)) else (scarablaw02_WordTurns.j0 k a0 bt185.1 bt189.1 bt193.1 true)) else (scarablaw02_WordTurns.j0 k a0 bt185.1 bt189.1 bt193.1 true)) else (scarablaw02_WordTurns.j0 k a0 bt185.1 bt189.1 bt193.1 true)) else (scarablaw02_WordTurns.j0 k a0 bt185.1 bt189.1 bt193.1 true)) else (scarablaw02_WordTurns.j0 k a0 bt185.1 bt189.1 bt193.1 true))))))))) else (some false)) = some r := H
  have A3 := Aside0.mk A30
  clear A30
  by_cases c4 : t182 = true
  · subst c4
    have H1 : ((scarablaw02_did.f k 1 a1 0).bind fun bt183 => ((scarablaw02_did.f k 28 a0 a1).bind fun bt185 => ((scarablaw02_did.f k 28 bt185.1 bt183.1).bind fun bt187 => ((scarablaw02_did.f k 7 a0 0).bind fun bt189 => ((scarablaw02_did.f k 7 bt189.1 0).bind fun bt191 => ((scarablaw02_did.f k 2 a0 0).bind fun bt193 => ((scarablaw02_did.f k 2 bt193.1 0).bind fun bt195 => (if bt183.2 = true then (if bt185.2 = true then (if bt187.2 = true then (if bt189.2 = true then (if bt191.2 = true then (if bt193.2 = true then (if bt195.2 = true then (if bt187.1 = a0 then (if bt191.1 = a0 then (scarablaw02_WordTurns.j0 k a0 bt185.1 bt189.1 bt193.1 (bt195.1 != a0)) else (scarablaw02_WordTurns.j0 k a0 bt185.1 bt189.1 bt193.1 true)) else (scarablaw02_WordTurns.j0 k a0 bt185.1 bt189.1 bt193.1 true)) else (scarablaw02_WordTurns.j0 k a0 bt185.1 bt189.1 bt193.1 true)) else (scarablaw02_WordTurns.j0 k a0 bt185.1 bt189.1 bt193.1 true)) else (scarablaw02_WordTurns.j0 k a0 bt185.1 bt189.1 bt193.1 true)) else (scarablaw02_WordTurns.j0 k a0 bt185.1 bt189.1 bt193.1 true)) else (scarablaw02_WordTurns.j0 k a0 bt185.1 bt189.1 bt193.1 true)) else (scarablaw02_WordTurns.j0 k a0 bt185.1 bt189.1 bt193.1 true)) else (scarablaw02_WordTurns.j0 k a0 bt185.1 bt189.1 bt193.1 true))))))))) = some r := by rw [if_pos rfl] at H; exact H
    clear H
    have H := H1
    clear H1
    replace H := Option.bind_eq_some_iff.mp H
    obtain ⟨⟨t183, t184⟩, A50, H⟩ := H
    replace H : ((scarablaw02_did.f k 28 a0 a1).bind fun bt185 => ((scarablaw02_did.f k 28 bt185.1 t183).bind fun bt187 => ((scarablaw02_did.f k 7 a0 0).bind fun bt189 => ((scarablaw02_did.f k 7 bt189.1 0).bind fun bt191 => ((scarablaw02_did.f k 2 a0 0).bind fun bt193 => ((scarablaw02_did.f k 2 bt193.1 0).bind fun bt195 => (if t184 = true then (if bt185.2 = true then (if bt187.2 = true then (if bt189.2 = true then (if bt191.2 = true then (if bt193.2 = true then (if bt195.2 = true then (if bt187.1 = a0 then (if bt191.1 = a0 then (scarablaw02_WordTurns.j0 k a0 bt185.1 bt189.1 bt193.1 (bt195.1 != a0)) else (scarablaw02_WordTurns.j0 k a0 bt185.1 bt189.1 bt193.1 true)) else (scarablaw02_WordTurns.j0 k a0 bt185.1 bt189.1 bt193.1 true)) else (scarablaw02_WordTurns.j0 k a0 bt185.1 bt189.1 bt193.1 true)) else (scarablaw02_WordTurns.j0 k a0 bt185.1 bt189.1 bt193.1 true)) else (scarablaw02_WordTurns.j0 k a0 bt185.1 bt189.1 bt193.1 true)) else (scarablaw02_WordTurns.j0 k a0 bt185.1 bt189.1 bt193.1 true)) else (scarablaw02_WordTurns.j0 k a0 bt185.1 bt189.1 bt193.1 true)) else (scarablaw02_WordTurns.j0 k a0 bt185.1 bt189.1 bt193.1 true)) else (scarablaw02_WordTurns.j0 k a0 bt185.1 bt189.1 bt193.1 true)))))))) = some r := H
    have A5 := Aside0.mk A50
    clear A50
    replace H := Option.bind_eq_some_iff.mp H
    obtain ⟨⟨t185, t186⟩, A60, H⟩ := H
    replace H : ((scarablaw02_did.f k 28 t185 t183).bind fun bt187 => ((scarablaw02_did.f k 7 a0 0).bind fun bt189 => ((scarablaw02_did.f k 7 bt189.1 0).bind fun bt191 => ((scarablaw02_did.f k 2 a0 0).bind fun bt193 => ((scarablaw02_did.f k 2 bt193.1 0).bind fun bt195 => (if t184 = true then (if t186 = true then (if bt187.2 = true then (if bt189.2 = true then (if bt191.2 = true then (if bt193.2 = true then (if bt195.2 = true then (if bt187.1 = a0 then (if bt191.1 = a0 then (scarablaw02_WordTurns.j0 k a0 t185 bt189.1 bt193.1 (bt195.1 != a0)) else (scarablaw02_WordTurns.j0 k a0 t185 bt189.1 bt193.1 true)) else (scarablaw02_WordTurns.j0 k a0 t185 bt189.1 bt193.1 true)) else (scarablaw02_WordTurns.j0 k a0 t185 bt189.1 bt193.1 true)) else (scarablaw02_WordTurns.j0 k a0 t185 bt189.1 bt193.1 true)) else (scarablaw02_WordTurns.j0 k a0 t185 bt189.1 bt193.1 true)) else (scarablaw02_WordTurns.j0 k a0 t185 bt189.1 bt193.1 true)) else (scarablaw02_WordTurns.j0 k a0 t185 bt189.1 bt193.1 true)) else (scarablaw02_WordTurns.j0 k a0 t185 bt189.1 bt193.1 true)) else (scarablaw02_WordTurns.j0 k a0 t185 bt189.1 bt193.1 true))))))) = some r := H
    have A6 := Aside0.mk A60
    clear A60
    replace H := Option.bind_eq_some_iff.mp H
    obtain ⟨⟨t187, t188⟩, A70, H⟩ := H
    replace H : ((scarablaw02_did.f k 7 a0 0).bind fun bt189 => ((scarablaw02_did.f k 7 bt189.1 0).bind fun bt191 => ((scarablaw02_did.f k 2 a0 0).bind fun bt193 => ((scarablaw02_did.f k 2 bt193.1 0).bind fun bt195 => (if t184 = true then (if t186 = true then (if t188 = true then (if bt189.2 = true then (if bt191.2 = true then (if bt193.2 = true then (if bt195.2 = true then (if t187 = a0 then (if bt191.1 = a0 then (scarablaw02_WordTurns.j0 k a0 t185 bt189.1 bt193.1 (bt195.1 != a0)) else (scarablaw02_WordTurns.j0 k a0 t185 bt189.1 bt193.1 true)) else (scarablaw02_WordTurns.j0 k a0 t185 bt189.1 bt193.1 true)) else (scarablaw02_WordTurns.j0 k a0 t185 bt189.1 bt193.1 true)) else (scarablaw02_WordTurns.j0 k a0 t185 bt189.1 bt193.1 true)) else (scarablaw02_WordTurns.j0 k a0 t185 bt189.1 bt193.1 true)) else (scarablaw02_WordTurns.j0 k a0 t185 bt189.1 bt193.1 true)) else (scarablaw02_WordTurns.j0 k a0 t185 bt189.1 bt193.1 true)) else (scarablaw02_WordTurns.j0 k a0 t185 bt189.1 bt193.1 true)) else (scarablaw02_WordTurns.j0 k a0 t185 bt189.1 bt193.1 true)))))) = some r := H
    have A7 := Aside0.mk A70
    clear A70
    replace H := Option.bind_eq_some_iff.mp H
    obtain ⟨⟨t189, t190⟩, A80, H⟩ := H
    replace H : ((scarablaw02_did.f k 7 t189 0).bind fun bt191 => ((scarablaw02_did.f k 2 a0 0).bind fun bt193 => ((scarablaw02_did.f k 2 bt193.1 0).bind fun bt195 => (if t184 = true then (if t186 = true then (if t188 = true then (if t190 = true then (if bt191.2 = true then (if bt193.2 = true then (if bt195.2 = true then (if t187 = a0 then (if bt191.1 = a0 then (scarablaw02_WordTurns.j0 k a0 t185 t189 bt193.1 (bt195.1 != a0)) else (scarablaw02_WordTurns.j0 k a0 t185 t189 bt193.1 true)) else (scarablaw02_WordTurns.j0 k a0 t185 t189 bt193.1 true)) else (scarablaw02_WordTurns.j0 k a0 t185 t189 bt193.1 true)) else (scarablaw02_WordTurns.j0 k a0 t185 t189 bt193.1 true)) else (scarablaw02_WordTurns.j0 k a0 t185 t189 bt193.1 true)) else (scarablaw02_WordTurns.j0 k a0 t185 t189 bt193.1 true)) else (scarablaw02_WordTurns.j0 k a0 t185 t189 bt193.1 true)) else (scarablaw02_WordTurns.j0 k a0 t185 t189 bt193.1 true)) else (scarablaw02_WordTurns.j0 k a0 t185 t189 bt193.1 true))))) = some r := H
    have A8 := Aside0.mk A80
    clear A80
    replace H := Option.bind_eq_some_iff.mp H
    obtain ⟨⟨t191, t192⟩, A90, H⟩ := H
    replace H : ((scarablaw02_did.f k 2 a0 0).bind fun bt193 => ((scarablaw02_did.f k 2 bt193.1 0).bind fun bt195 => (if t184 = true then (if t186 = true then (if t188 = true then (if t190 = true then (if t192 = true then (if bt193.2 = true then (if bt195.2 = true then (if t187 = a0 then (if t191 = a0 then (scarablaw02_WordTurns.j0 k a0 t185 t189 bt193.1 (bt195.1 != a0)) else (scarablaw02_WordTurns.j0 k a0 t185 t189 bt193.1 true)) else (scarablaw02_WordTurns.j0 k a0 t185 t189 bt193.1 true)) else (scarablaw02_WordTurns.j0 k a0 t185 t189 bt193.1 true)) else (scarablaw02_WordTurns.j0 k a0 t185 t189 bt193.1 true)) else (scarablaw02_WordTurns.j0 k a0 t185 t189 bt193.1 true)) else (scarablaw02_WordTurns.j0 k a0 t185 t189 bt193.1 true)) else (scarablaw02_WordTurns.j0 k a0 t185 t189 bt193.1 true)) else (scarablaw02_WordTurns.j0 k a0 t185 t189 bt193.1 true)) else (scarablaw02_WordTurns.j0 k a0 t185 t189 bt193.1 true)))) = some r := H
    have A9 := Aside0.mk A90
    clear A90
    replace H := Option.bind_eq_some_iff.mp H
    obtain ⟨⟨t193, t194⟩, A100, H⟩ := H
    replace H : ((scarablaw02_did.f k 2 t193 0).bind fun bt195 => (if t184 = true then (if t186 = true then (if t188 = true then (if t190 = true then (if t192 = true then (if t194 = true then (if bt195.2 = true then (if t187 = a0 then (if t191 = a0 then (scarablaw02_WordTurns.j0 k a0 t185 t189 t193 (bt195.1 != a0)) else (scarablaw02_WordTurns.j0 k a0 t185 t189 t193 true)) else (scarablaw02_WordTurns.j0 k a0 t185 t189 t193 true)) else (scarablaw02_WordTurns.j0 k a0 t185 t189 t193 true)) else (scarablaw02_WordTurns.j0 k a0 t185 t189 t193 true)) else (scarablaw02_WordTurns.j0 k a0 t185 t189 t193 true)) else (scarablaw02_WordTurns.j0 k a0 t185 t189 t193 true)) else (scarablaw02_WordTurns.j0 k a0 t185 t189 t193 true)) else (scarablaw02_WordTurns.j0 k a0 t185 t189 t193 true)) else (scarablaw02_WordTurns.j0 k a0 t185 t189 t193 true))) = some r := H
    have A10 := Aside0.mk A100
    clear A100
    replace H := Option.bind_eq_some_iff.mp H
    obtain ⟨⟨t195, t196⟩, A110, H⟩ := H
    replace H : (if t184 = true then (if t186 = true then (if t188 = true then (if t190 = true then (if t192 = true then (if t194 = true then (if t196 = true then (if t187 = a0 then (if t191 = a0 then (scarablaw02_WordTurns.j0 k a0 t185 t189 t193 (t195 != a0)) else (scarablaw02_WordTurns.j0 k a0 t185 t189 t193 true)) else (scarablaw02_WordTurns.j0 k a0 t185 t189 t193 true)) else (scarablaw02_WordTurns.j0 k a0 t185 t189 t193 true)) else (scarablaw02_WordTurns.j0 k a0 t185 t189 t193 true)) else (scarablaw02_WordTurns.j0 k a0 t185 t189 t193 true)) else (scarablaw02_WordTurns.j0 k a0 t185 t189 t193 true)) else (scarablaw02_WordTurns.j0 k a0 t185 t189 t193 true)) else (scarablaw02_WordTurns.j0 k a0 t185 t189 t193 true)) else (scarablaw02_WordTurns.j0 k a0 t185 t189 t193 true)) = some r := H
    have A11 := Aside0.mk A110
    clear A110
    have HC12 := Aside0.mk H
    clear H
    go_enter Tryd.func6, Tryd.ntmps6
    go_upto_region 10 with (first | ((with_reducible refine gate_callee (f := 19) rfl ?_); refine goesL_ (some 29) rfl rfl Tryd.func19 (by kernel_rfl) rfl #[] rfl (by (try simp only [List.map_toArray, List.map_cons, List.map_nil]); first | done | rfl | (simp only [List.length_drop, List.length_take]; rfl)) ?_; (with_reducible refine (scarablaw02_speaks.calls k  true _ A3.out).mono ?_); rintro e w13 ⟨rfl, hb⟩; refine ⟨_, rfl, ?_⟩; have n0_ := Aside0.mk (below_step (by repeat (first | (with_reducible first | exact HB.out | apply below_alloc | apply pw_below_drewN | apply below_drew1) | exact HB.out)) hb); clear HB; have HB := n0_; clear n0_; (try clear hb); (try clear hb2); (try clear hk); (try clear hi)) | ((with_reducible refine gate_callee (f := 20) rfl ?_); refine goesL_ (some 33) rfl rfl Tryd.func20 (by kernel_rfl) rfl #[.int .i64 1, .int .i64 a1, .int .i64 0] rfl (by (try simp only [List.map_toArray, List.map_cons, List.map_nil]); first | done | rfl | (simp only [List.length_drop, List.length_take]; rfl)) ?_; (with_reducible refine (scarablaw02_did.calls k 1 a1 0 t183 t184 _ A5.out).mono ?_); rintro e w14 ⟨rfl, hb⟩; refine ⟨_, rfl, ?_⟩; have n0_ := Aside0.mk (below_step (by repeat (first | (with_reducible first | exact HB.out | apply below_alloc | apply pw_below_drewN | apply below_drew1) | exact HB.out)) hb); clear HB; have HB := n0_; clear n0_; (try clear hb); (try clear hb2); (try clear hk); (try clear hi)) | ((with_reducible refine gate_callee (f := 20) rfl ?_); refine goesL_ (some 39) rfl rfl Tryd.func20 (by kernel_rfl) rfl #[.int .i64 28, .int .i64 a0, .int .i64 a1] rfl (by (try simp only [List.map_toArray, List.map_cons, List.map_nil]); first | done | rfl | (simp only [List.length_drop, List.length_take]; rfl)) ?_; (with_reducible refine (scarablaw02_did.calls k 28 a0 a1 t185 t186 _ A6.out).mono ?_); rintro e w15 ⟨rfl, hb⟩; refine ⟨_, rfl, ?_⟩; have n0_ := Aside0.mk (below_step (by repeat (first | (with_reducible first | exact HB.out | apply below_alloc | apply pw_below_drewN | apply below_drew1) | exact HB.out)) hb); clear HB; have HB := n0_; clear n0_; (try clear hb); (try clear hb2); (try clear hk); (try clear hi)) | ((with_reducible refine gate_callee (f := 20) rfl ?_); refine goesL_ (some 45) rfl rfl Tryd.func20 (by kernel_rfl) rfl #[.int .i64 28, .int .i64 t185, .int .i64 t183] rfl (by (try simp only [List.map_toArray, List.map_cons, List.map_nil]); first | done | rfl | (simp only [List.length_drop, List.length_take]; rfl)) ?_; (with_reducible refine (scarablaw02_did.calls k 28 t185 t183 t187 t188 _ A7.out).mono ?_); rintro e w16 ⟨rfl, hb⟩; refine ⟨_, rfl, ?_⟩; have n0_ := Aside0.mk (below_step (by repeat (first | (with_reducible first | exact HB.out | apply below_alloc | apply pw_below_drewN | apply below_drew1) | exact HB.out)) hb); clear HB; have HB := n0_; clear n0_; (try clear hb); (try clear hb2); (try clear hk); (try clear hi)) | ((with_reducible refine gate_callee (f := 20) rfl ?_); refine goesL_ (some 50) rfl rfl Tryd.func20 (by kernel_rfl) rfl #[.int .i64 7, .int .i64 a0, .int .i64 0] rfl (by (try simp only [List.map_toArray, List.map_cons, List.map_nil]); first | done | rfl | (simp only [List.length_drop, List.length_take]; rfl)) ?_; (with_reducible refine (scarablaw02_did.calls k 7 a0 0 t189 t190 _ A8.out).mono ?_); rintro e w17 ⟨rfl, hb⟩; refine ⟨_, rfl, ?_⟩; have n0_ := Aside0.mk (below_step (by repeat (first | (with_reducible first | exact HB.out | apply below_alloc | apply pw_below_drewN | apply below_drew1) | exact HB.out)) hb); clear HB; have HB := n0_; clear n0_; (try clear hb); (try clear hb2); (try clear hk); (try clear hi)) | ((with_reducible refine gate_callee (f := 20) rfl ?_); refine goesL_ (some 55) rfl rfl Tryd.func20 (by kernel_rfl) rfl #[.int .i64 7, .int .i64 t189, .int .i64 0] rfl (by (try simp only [List.map_toArray, List.map_cons, List.map_nil]); first | done | rfl | (simp only [List.length_drop, List.length_take]; rfl)) ?_; (with_reducible refine (scarablaw02_did.calls k 7 t189 0 t191 t192 _ A9.out).mono ?_); rintro e w18 ⟨rfl, hb⟩; refine ⟨_, rfl, ?_⟩; have n0_ := Aside0.mk (below_step (by repeat (first | (with_reducible first | exact HB.out | apply below_alloc | apply pw_below_drewN | apply below_drew1) | exact HB.out)) hb); clear HB; have HB := n0_; clear n0_; (try clear hb); (try clear hb2); (try clear hk); (try clear hi)) | ((with_reducible refine gate_callee (f := 20) rfl ?_); refine goesL_ (some 60) rfl rfl Tryd.func20 (by kernel_rfl) rfl #[.int .i64 2, .int .i64 a0, .int .i64 0] rfl (by (try simp only [List.map_toArray, List.map_cons, List.map_nil]); first | done | rfl | (simp only [List.length_drop, List.length_take]; rfl)) ?_; (with_reducible refine (scarablaw02_did.calls k 2 a0 0 t193 t194 _ A10.out).mono ?_); rintro e w19 ⟨rfl, hb⟩; refine ⟨_, rfl, ?_⟩; have n0_ := Aside0.mk (below_step (by repeat (first | (with_reducible first | exact HB.out | apply below_alloc | apply pw_below_drewN | apply below_drew1) | exact HB.out)) hb); clear HB; have HB := n0_; clear n0_; (try clear hb); (try clear hb2); (try clear hk); (try clear hi)) | ((with_reducible refine gate_callee (f := 20) rfl ?_); refine goesL_ (some 65) rfl rfl Tryd.func20 (by kernel_rfl) rfl #[.int .i64 2, .int .i64 t193, .int .i64 0] rfl (by (try simp only [List.map_toArray, List.map_cons, List.map_nil]); first | done | rfl | (simp only [List.length_drop, List.length_take]; rfl)) ?_; (with_reducible refine (scarablaw02_did.calls k 2 t193 0 t195 t196 _ A11.out).mono ?_); rintro e w20 ⟨rfl, hb⟩; refine ⟨_, rfl, ?_⟩; have n0_ := Aside0.mk (below_step (by repeat (first | (with_reducible first | exact HB.out | apply below_alloc | apply pw_below_drewN | apply below_drew1) | exact HB.out)) hb); clear HB; have HB := n0_; clear n0_; (try clear hb); (try clear hb2); (try clear hk); (try clear hi)))
    (try simp only [Act.put, List.setIfInBounds_toArray, List.set_cons_zero, List.set_cons_succ])
    go_cut [108] (fun v108 wc => ∃ (kq : Nat) (x108_11 : Bool), v108 = .bool x108_11 ∧ Aside0 (scarablaw02_WordTurns.j0 kq a0 t185 t189 t193 x108_11 = some r) ∧ Aside0 (kq ≤ k) ∧ Aside0 (Below w.heap.size w wc))
    case first =>
      have H := HC12.out
      clear HC12
      by_cases c21 : t184 = true
      · subst c21
        have H1 : (if t186 = true then (if t188 = true then (if t190 = true then (if t192 = true then (if t194 = true then (if t196 = true then (if t187 = a0 then (if t191 = a0 then (scarablaw02_WordTurns.j0 k a0 t185 t189 t193 (t195 != a0)) else (scarablaw02_WordTurns.j0 k a0 t185 t189 t193 true)) else (scarablaw02_WordTurns.j0 k a0 t185 t189 t193 true)) else (scarablaw02_WordTurns.j0 k a0 t185 t189 t193 true)) else (scarablaw02_WordTurns.j0 k a0 t185 t189 t193 true)) else (scarablaw02_WordTurns.j0 k a0 t185 t189 t193 true)) else (scarablaw02_WordTurns.j0 k a0 t185 t189 t193 true)) else (scarablaw02_WordTurns.j0 k a0 t185 t189 t193 true)) else (scarablaw02_WordTurns.j0 k a0 t185 t189 t193 true)) = some r := by rw [if_pos rfl] at H; exact H
        clear H
        have H := H1
        clear H1
        by_cases c22 : t186 = true
        · subst c22
          have H1 : (if t188 = true then (if t190 = true then (if t192 = true then (if t194 = true then (if t196 = true then (if t187 = a0 then (if t191 = a0 then (scarablaw02_WordTurns.j0 k a0 t185 t189 t193 (t195 != a0)) else (scarablaw02_WordTurns.j0 k a0 t185 t189 t193 true)) else (scarablaw02_WordTurns.j0 k a0 t185 t189 t193 true)) else (scarablaw02_WordTurns.j0 k a0 t185 t189 t193 true)) else (scarablaw02_WordTurns.j0 k a0 t185 t189 t193 true)) else (scarablaw02_WordTurns.j0 k a0 t185 t189 t193 true)) else (scarablaw02_WordTurns.j0 k a0 t185 t189 t193 true)) else (scarablaw02_WordTurns.j0 k a0 t185 t189 t193 true)) = some r := by rw [if_pos rfl] at H; exact H
          clear H
          have H := H1
          clear H1
          by_cases c23 : t188 = true
          · subst c23
            have H1 : (if t190 = true then (if t192 = true then (if t194 = true then (if t196 = true then (if t187 = a0 then (if t191 = a0 then (scarablaw02_WordTurns.j0 k a0 t185 t189 t193 (t195 != a0)) else (scarablaw02_WordTurns.j0 k a0 t185 t189 t193 true)) else (scarablaw02_WordTurns.j0 k a0 t185 t189 t193 true)) else (scarablaw02_WordTurns.j0 k a0 t185 t189 t193 true)) else (scarablaw02_WordTurns.j0 k a0 t185 t189 t193 true)) else (scarablaw02_WordTurns.j0 k a0 t185 t189 t193 true)) else (scarablaw02_WordTurns.j0 k a0 t185 t189 t193 true)) = some r := by rw [if_pos rfl] at H; exact H
            clear H
            have H := H1
            clear H1
            by_cases c24 : t190 = true
            · subst c24
              have H1 : (if t192 = true then (if t194 = true then (if t196 = true then (if t187 = a0 then (if t191 = a0 then (scarablaw02_WordTurns.j0 k a0 t185 t189 t193 (t195 != a0)) else (scarablaw02_WordTurns.j0 k a0 t185 t189 t193 true)) else (scarablaw02_WordTurns.j0 k a0 t185 t189 t193 true)) else (scarablaw02_WordTurns.j0 k a0 t185 t189 t193 true)) else (scarablaw02_WordTurns.j0 k a0 t185 t189 t193 true)) else (scarablaw02_WordTurns.j0 k a0 t185 t189 t193 true)) = some r := by rw [if_pos rfl] at H; exact H
              clear H
              have H := H1
              clear H1
              by_cases c25 : t192 = true
              · subst c25
                have H1 : (if t194 = true then (if t196 = true then (if t187 = a0 then (if t191 = a0 then (scarablaw02_WordTurns.j0 k a0 t185 t189 t193 (t195 != a0)) else (scarablaw02_WordTurns.j0 k a0 t185 t189 t193 true)) else (scarablaw02_WordTurns.j0 k a0 t185 t189 t193 true)) else (scarablaw02_WordTurns.j0 k a0 t185 t189 t193 true)) else (scarablaw02_WordTurns.j0 k a0 t185 t189 t193 true)) = some r := by rw [if_pos rfl] at H; exact H
                clear H
                have H := H1
                clear H1
                by_cases c26 : t194 = true
                · subst c26
                  have H1 : (if t196 = true then (if t187 = a0 then (if t191 = a0 then (scarablaw02_WordTurns.j0 k a0 t185 t189 t193 (t195 != a0)) else (scarablaw02_WordTurns.j0 k a0 t185 t189 t193 true)) else (scarablaw02_WordTurns.j0 k a0 t185 t189 t193 true)) else (scarablaw02_WordTurns.j0 k a0 t185 t189 t193 true)) = some r := by rw [if_pos rfl] at H; exact H
                  clear H
                  have H := H1
                  clear H1
                  by_cases c27 : t196 = true
                  · subst c27
                    have H1 : (if t187 = a0 then (if t191 = a0 then (scarablaw02_WordTurns.j0 k a0 t185 t189 t193 (t195 != a0)) else (scarablaw02_WordTurns.j0 k a0 t185 t189 t193 true)) else (scarablaw02_WordTurns.j0 k a0 t185 t189 t193 true)) = some r := by rw [if_pos rfl] at H; exact H
                    clear H
                    have H := H1
                    clear H1
                    by_cases c28 : t187 = a0
                    · rw [if_pos c28] at H
                      have c28b0 : (t187 == a0) = true := beq_iff_eq.mpr c28
                      have c28b1 : (t187 != a0) = false := bne_eq_false_iff_eq.mpr c28
                      clear c28
                      (first | rw [c28b0] | (simp only [i64_w, i32_w]; rw [c28b0]) | skip)
                      by_cases c29 : t191 = a0
                      · rw [if_pos c29] at H
                        have c29b0 : (t191 == a0) = true := beq_iff_eq.mpr c29
                        have c29b1 : (t191 != a0) = false := bne_eq_false_iff_eq.mpr c29
                        clear c29
                        have H' := Aside0.mk H
                        clear H
                        go_wp2
                        go_meet
                        case rel => exact ⟨_, ((t195 != a0)), (by first | rfl | (simp; done) | (simp [*]; done)), H', ⟨by first | omega | exact Nat.le_refl _⟩, ⟨by repeat (first | (with_reducible first | exact HB.out | apply below_alloc | apply pw_below_drewN | apply below_drew1) | exact HB.out)⟩⟩
                      · rw [if_neg c29] at H
                        have c29b0 : (t191 == a0) = false := beq_eq_false_iff_ne.mpr c29
                        have c29b1 : (t191 != a0) = true := bne_iff_ne.mpr c29
                        have H' := Aside0.mk H
                        clear H
                        go_wp2
                        go_meet
                        case rel => exact ⟨_, (true), (by first | rfl | (simp; done) | (simp [*]; done)), H', ⟨by first | omega | exact Nat.le_refl _⟩, ⟨by repeat (first | (with_reducible first | exact HB.out | apply below_alloc | apply pw_below_drewN | apply below_drew1) | exact HB.out)⟩⟩
                    · rw [if_neg c28] at H
                      have c28b0 : (t187 == a0) = false := beq_eq_false_iff_ne.mpr c28
                      have c28b1 : (t187 != a0) = true := bne_iff_ne.mpr c28
                      (first | rw [c28b0] | (simp only [i64_w, i32_w]; rw [c28b0]) | skip)
                      have H' := Aside0.mk H
                      clear H
                      go_wp2
                      go_meet
                      case rel => exact ⟨_, (true), (by first | rfl | (simp; done) | (simp [*]; done)), H', ⟨by first | omega | exact Nat.le_refl _⟩, ⟨by repeat (first | (with_reducible first | exact HB.out | apply below_alloc | apply pw_below_drewN | apply below_drew1) | exact HB.out)⟩⟩
                  · replace c27 := Bool.eq_false_iff.mpr c27
                    subst c27
                    have H1 : (scarablaw02_WordTurns.j0 k a0 t185 t189 t193 true) = some r := by rw [if_neg (show ¬ (false = true) by decide)] at H; exact H
                    clear H
                    have H := H1
                    clear H1
                    have H' := Aside0.mk H
                    clear H
                    go_wp2
                    go_meet
                    case rel => exact ⟨_, (true), (by first | rfl | (simp; done) | (simp [*]; done)), H', ⟨by first | omega | exact Nat.le_refl _⟩, ⟨by repeat (first | (with_reducible first | exact HB.out | apply below_alloc | apply pw_below_drewN | apply below_drew1) | exact HB.out)⟩⟩
                · replace c26 := Bool.eq_false_iff.mpr c26
                  subst c26
                  have H1 : (scarablaw02_WordTurns.j0 k a0 t185 t189 t193 true) = some r := by rw [if_neg (show ¬ (false = true) by decide)] at H; exact H
                  clear H
                  have H := H1
                  clear H1
                  have H' := Aside0.mk H
                  clear H
                  go_wp2
                  go_meet
                  case rel => exact ⟨_, (true), (by first | rfl | (simp; done) | (simp [*]; done)), H', ⟨by first | omega | exact Nat.le_refl _⟩, ⟨by repeat (first | (with_reducible first | exact HB.out | apply below_alloc | apply pw_below_drewN | apply below_drew1) | exact HB.out)⟩⟩
              · replace c25 := Bool.eq_false_iff.mpr c25
                subst c25
                have H1 : (scarablaw02_WordTurns.j0 k a0 t185 t189 t193 true) = some r := by rw [if_neg (show ¬ (false = true) by decide)] at H; exact H
                clear H
                have H := H1
                clear H1
                have H' := Aside0.mk H
                clear H
                go_wp2
                go_meet
                case rel => exact ⟨_, (true), (by first | rfl | (simp; done) | (simp [*]; done)), H', ⟨by first | omega | exact Nat.le_refl _⟩, ⟨by repeat (first | (with_reducible first | exact HB.out | apply below_alloc | apply pw_below_drewN | apply below_drew1) | exact HB.out)⟩⟩
            · replace c24 := Bool.eq_false_iff.mpr c24
              subst c24
              have H1 : (scarablaw02_WordTurns.j0 k a0 t185 t189 t193 true) = some r := by rw [if_neg (show ¬ (false = true) by decide)] at H; exact H
              clear H
              have H := H1
              clear H1
              have H' := Aside0.mk H
              clear H
              go_wp2
              go_meet
              case rel => exact ⟨_, (true), (by first | rfl | (simp; done) | (simp [*]; done)), H', ⟨by first | omega | exact Nat.le_refl _⟩, ⟨by repeat (first | (with_reducible first | exact HB.out | apply below_alloc | apply pw_below_drewN | apply below_drew1) | exact HB.out)⟩⟩
          · replace c23 := Bool.eq_false_iff.mpr c23
            subst c23
            have H1 : (scarablaw02_WordTurns.j0 k a0 t185 t189 t193 true) = some r := by rw [if_neg (show ¬ (false = true) by decide)] at H; exact H
            clear H
            have H := H1
            clear H1
            have H' := Aside0.mk H
            clear H
            go_wp2
            go_meet
            case rel => exact ⟨_, (true), (by first | rfl | (simp; done) | (simp [*]; done)), H', ⟨by first | omega | exact Nat.le_refl _⟩, ⟨by repeat (first | (with_reducible first | exact HB.out | apply below_alloc | apply pw_below_drewN | apply below_drew1) | exact HB.out)⟩⟩
        · replace c22 := Bool.eq_false_iff.mpr c22
          subst c22
          have H1 : (scarablaw02_WordTurns.j0 k a0 t185 t189 t193 true) = some r := by rw [if_neg (show ¬ (false = true) by decide)] at H; exact H
          clear H
          have H := H1
          clear H1
          have H' := Aside0.mk H
          clear H
          go_wp2
          go_meet
          case rel => exact ⟨_, (true), (by first | rfl | (simp; done) | (simp [*]; done)), H', ⟨by first | omega | exact Nat.le_refl _⟩, ⟨by repeat (first | (with_reducible first | exact HB.out | apply below_alloc | apply pw_below_drewN | apply below_drew1) | exact HB.out)⟩⟩
      · replace c21 := Bool.eq_false_iff.mpr c21
        subst c21
        have H1 : (scarablaw02_WordTurns.j0 k a0 t185 t189 t193 true) = some r := by rw [if_neg (show ¬ (false = true) by decide)] at H; exact H
        clear H
        have H := H1
        clear H1
        have H' := Aside0.mk H
        clear H
        go_wp2
        go_meet
        case rel => exact ⟨_, (true), (by first | rfl | (simp; done) | (simp [*]; done)), H', ⟨by first | omega | exact Nat.le_refl _⟩, ⟨by repeat (first | (with_reducible first | exact HB.out | apply below_alloc | apply pw_below_drewN | apply below_drew1) | exact HB.out)⟩⟩
    case rest =>
      clear HC12
      try clear c1
      try clear c2
      try clear p2
      try clear c4
      try clear c6
      try clear c19
      try clear c20
      try clear c21
      try clear c22
      try clear c23
      try clear c24
      try clear c25
      try clear c26
      try clear c27
      try clear c28
      try clear c28b0
      try clear c28b1
      try clear c29
      try clear c29b0
      try clear c29b1
      obtain ⟨kq, x108_11, rfl, HA, HJ11, HB⟩ := hcut
      cases kq with
      | zero => exact absurd HA.out (by simp [scarablaw02_WordTurns.j0])
      | succ kj11 =>
        have H := HA.out
        clear HA
        simp only [scarablaw02_WordTurns.j0] at H
        by_cases c30 : x108_11 = true
        · subst c30
          have H1 : (some false) = some r := by rw [if_pos rfl] at H; exact H
          clear H
          have H := H1
          clear H1
          obtain rfl := Option.some.inj H
          go_wp2
          go_ret
          exact ⟨by first | rfl | (simp [errW_none, errW_some] <;> rfl) | (simp [*, errW_none, errW_some] <;> rfl), by repeat (first | (with_reducible first | exact HB.out | apply below_alloc | apply pw_below_drewN | apply below_drew1) | exact HB.out)⟩
        · replace c30 := Bool.eq_false_iff.mpr c30
          subst c30
          have H1 : ((scarablaw02_did.f kj11 4 a0 0).bind fun bt197 => ((scarablaw02_did.f kj11 4 t193 0).bind fun bt199 => ((scarablaw02_did.f kj11 4 t185 0).bind fun bt201 => ((scarablaw02_did.f kj11 5 a0 0).bind fun bt203 => ((scarablaw02_did.f kj11 6 t189 0).bind fun bt205 => (if bt197.2 = true then (if bt199.2 = true then (if bt201.2 = true then (if bt203.2 = true then (if bt205.2 = true then (if (wrap64 (bt197.1 + bt199.1)) = 64 then (if bt201.1 = bt197.1 then (some (bt203.1 == bt205.1)) else (some false)) else (some false)) else (some false)) else (some false)) else (some false)) else (some false)) else (some false))))))) = some r := by rw [if_neg (show ¬ (false = true) by decide)] at H; exact H
          clear H
          have H := H1
          clear H1
          replace H := Option.bind_eq_some_iff.mp H
          obtain ⟨⟨t197, t198⟩, A310, H⟩ := H
          replace H : ((scarablaw02_did.f kj11 4 t193 0).bind fun bt199 => ((scarablaw02_did.f kj11 4 t185 0).bind fun bt201 => ((scarablaw02_did.f kj11 5 a0 0).bind fun bt203 => ((scarablaw02_did.f kj11 6 t189 0).bind fun bt205 => (if t198 = true then (if bt199.2 = true then (if bt201.2 = true then (if bt203.2 = true then (if bt205.2 = true then (if (wrap64 (t197 + bt199.1)) = 64 then (if bt201.1 = t197 then (some (bt203.1 == bt205.1)) else (some false)) else (some false)) else (some false)) else (some false)) else (some false)) else (some false)) else (some false)))))) = some r := H
          have A31 := Aside0.mk A310
          clear A310
          replace H := Option.bind_eq_some_iff.mp H
          obtain ⟨⟨t199, t200⟩, A320, H⟩ := H
          replace H : ((scarablaw02_did.f kj11 4 t185 0).bind fun bt201 => ((scarablaw02_did.f kj11 5 a0 0).bind fun bt203 => ((scarablaw02_did.f kj11 6 t189 0).bind fun bt205 => (if t198 = true then (if t200 = true then (if bt201.2 = true then (if bt203.2 = true then (if bt205.2 = true then (if (wrap64 (t197 + t199)) = 64 then (if bt201.1 = t197 then (some (bt203.1 == bt205.1)) else (some false)) else (some false)) else (some false)) else (some false)) else (some false)) else (some false)) else (some false))))) = some r := H
          have A32 := Aside0.mk A320
          clear A320
          replace H := Option.bind_eq_some_iff.mp H
          obtain ⟨⟨t201, t202⟩, A330, H⟩ := H
          replace H : ((scarablaw02_did.f kj11 5 a0 0).bind fun bt203 => ((scarablaw02_did.f kj11 6 t189 0).bind fun bt205 => (if t198 = true then (if t200 = true then (if t202 = true then (if bt203.2 = true then (if bt205.2 = true then (if (wrap64 (t197 + t199)) = 64 then (if t201 = t197 then (some (bt203.1 == bt205.1)) else (some false)) else (some false)) else (some false)) else (some false)) else (some false)) else (some false)) else (some false)))) = some r := H
          have A33 := Aside0.mk A330
          clear A330
          replace H := Option.bind_eq_some_iff.mp H
          obtain ⟨⟨t203, t204⟩, A340, H⟩ := H
          replace H : ((scarablaw02_did.f kj11 6 t189 0).bind fun bt205 => (if t198 = true then (if t200 = true then (if t202 = true then (if t204 = true then (if bt205.2 = true then (if (wrap64 (t197 + t199)) = 64 then (if t201 = t197 then (some (t203 == bt205.1)) else (some false)) else (some false)) else (some false)) else (some false)) else (some false)) else (some false)) else (some false))) = some r := H
          have A34 := Aside0.mk A340
          clear A340
          replace H := Option.bind_eq_some_iff.mp H
          obtain ⟨⟨t205, t206⟩, A350, H⟩ := H
          replace H : (if t198 = true then (if t200 = true then (if t202 = true then (if t204 = true then (if t206 = true then (if (wrap64 (t197 + t199)) = 64 then (if t201 = t197 then (some (t203 == t205)) else (some false)) else (some false)) else (some false)) else (some false)) else (some false)) else (some false)) else (some false)) = some r := H
          have A35 := Aside0.mk A350
          clear A350
          by_cases c36 : t198 = true
          · subst c36
            have H1 : (if t200 = true then (if t202 = true then (if t204 = true then (if t206 = true then (if (wrap64 (t197 + t199)) = 64 then (if t201 = t197 then (some (t203 == t205)) else (some false)) else (some false)) else (some false)) else (some false)) else (some false)) else (some false)) = some r := by rw [if_pos rfl] at H; exact H
            clear H
            have H := H1
            clear H1
            by_cases c37 : t200 = true
            · subst c37
              have H1 : (if t202 = true then (if t204 = true then (if t206 = true then (if (wrap64 (t197 + t199)) = 64 then (if t201 = t197 then (some (t203 == t205)) else (some false)) else (some false)) else (some false)) else (some false)) else (some false)) = some r := by rw [if_pos rfl] at H; exact H
              clear H
              have H := H1
              clear H1
              by_cases c38 : t202 = true
              · subst c38
                have H1 : (if t204 = true then (if t206 = true then (if (wrap64 (t197 + t199)) = 64 then (if t201 = t197 then (some (t203 == t205)) else (some false)) else (some false)) else (some false)) else (some false)) = some r := by rw [if_pos rfl] at H; exact H
                clear H
                have H := H1
                clear H1
                by_cases c39 : t204 = true
                · subst c39
                  have H1 : (if t206 = true then (if (wrap64 (t197 + t199)) = 64 then (if t201 = t197 then (some (t203 == t205)) else (some false)) else (some false)) else (some false)) = some r := by rw [if_pos rfl] at H; exact H
                  clear H
                  have H := H1
                  clear H1
                  by_cases c40 : t206 = true
                  · subst c40
                    have H1 : (if (wrap64 (t197 + t199)) = 64 then (if t201 = t197 then (some (t203 == t205)) else (some false)) else (some false)) = some r := by rw [if_pos rfl] at H; exact H
                    clear H
                    have H := H1
                    clear H1
                    by_cases c41 : (wrap64 (t197 + t199)) = 64
                    · rw [if_pos c41] at H
                      have c41b0 : ((wrap64 (t197 + t199)) == 64) = true := beq_iff_eq.mpr c41
                      have c41b1 : ((wrap64 (t197 + t199)) != 64) = false := bne_eq_false_iff_eq.mpr c41
                      clear c41
                      by_cases c42 : t201 = t197
                      · rw [if_pos c42] at H
                        have c42b0 : (t201 == t197) = true := beq_iff_eq.mpr c42
                        have c42b1 : (t201 != t197) = false := bne_eq_false_iff_eq.mpr c42
                        clear c42
                        obtain rfl := Option.some.inj H
                        go_wp2_with (first | ((with_reducible refine gate_callee (f := 20) rfl ?_); refine goesL_ (some 111) rfl rfl Tryd.func20 (by kernel_rfl) rfl #[.int .i64 4, .int .i64 a0, .int .i64 0] rfl (by (try simp only [List.map_toArray, List.map_cons, List.map_nil]); first | done | rfl | (simp only [List.length_drop, List.length_take]; rfl)) ?_; (with_reducible refine (scarablaw02_did.calls kj11 4 a0 0 t197 true _ A31.out).mono ?_); rintro e w43 ⟨rfl, hb⟩; refine ⟨_, rfl, ?_⟩; have n0_ := Aside0.mk (below_step (by repeat (first | (with_reducible first | exact HB.out | apply below_alloc | apply pw_below_drewN | apply below_drew1) | exact HB.out)) hb); clear HB; have HB := n0_; clear n0_; (try clear hb); (try clear hb2); (try clear hk); (try clear hi)) | ((with_reducible refine gate_callee (f := 20) rfl ?_); refine goesL_ (some 116) rfl rfl Tryd.func20 (by kernel_rfl) rfl #[.int .i64 4, .int .i64 t193, .int .i64 0] rfl (by (try simp only [List.map_toArray, List.map_cons, List.map_nil]); first | done | rfl | (simp only [List.length_drop, List.length_take]; rfl)) ?_; (with_reducible refine (scarablaw02_did.calls kj11 4 t193 0 t199 true _ A32.out).mono ?_); rintro e w44 ⟨rfl, hb⟩; refine ⟨_, rfl, ?_⟩; have n0_ := Aside0.mk (below_step (by repeat (first | (with_reducible first | exact HB.out | apply below_alloc | apply pw_below_drewN | apply below_drew1) | exact HB.out)) hb); clear HB; have HB := n0_; clear n0_; (try clear hb); (try clear hb2); (try clear hk); (try clear hi)) | ((with_reducible refine gate_callee (f := 20) rfl ?_); refine goesL_ (some 121) rfl rfl Tryd.func20 (by kernel_rfl) rfl #[.int .i64 4, .int .i64 t185, .int .i64 0] rfl (by (try simp only [List.map_toArray, List.map_cons, List.map_nil]); first | done | rfl | (simp only [List.length_drop, List.length_take]; rfl)) ?_; (with_reducible refine (scarablaw02_did.calls kj11 4 t185 0 t201 true _ A33.out).mono ?_); rintro e w45 ⟨rfl, hb⟩; refine ⟨_, rfl, ?_⟩; have n0_ := Aside0.mk (below_step (by repeat (first | (with_reducible first | exact HB.out | apply below_alloc | apply pw_below_drewN | apply below_drew1) | exact HB.out)) hb); clear HB; have HB := n0_; clear n0_; (try clear hb); (try clear hb2); (try clear hk); (try clear hi)) | ((with_reducible refine gate_callee (f := 20) rfl ?_); refine goesL_ (some 126) rfl rfl Tryd.func20 (by kernel_rfl) rfl #[.int .i64 5, .int .i64 a0, .int .i64 0] rfl (by (try simp only [List.map_toArray, List.map_cons, List.map_nil]); first | done | rfl | (simp only [List.length_drop, List.length_take]; rfl)) ?_; (with_reducible refine (scarablaw02_did.calls kj11 5 a0 0 t203 true _ A34.out).mono ?_); rintro e w46 ⟨rfl, hb⟩; refine ⟨_, rfl, ?_⟩; have n0_ := Aside0.mk (below_step (by repeat (first | (with_reducible first | exact HB.out | apply below_alloc | apply pw_below_drewN | apply below_drew1) | exact HB.out)) hb); clear HB; have HB := n0_; clear n0_; (try clear hb); (try clear hb2); (try clear hk); (try clear hi)) | ((with_reducible refine gate_callee (f := 20) rfl ?_); refine goesL_ (some 131) rfl rfl Tryd.func20 (by kernel_rfl) rfl #[.int .i64 6, .int .i64 t189, .int .i64 0] rfl (by (try simp only [List.map_toArray, List.map_cons, List.map_nil]); first | done | rfl | (simp only [List.length_drop, List.length_take]; rfl)) ?_; (with_reducible refine (scarablaw02_did.calls kj11 6 t189 0 t205 true _ A35.out).mono ?_); rintro e w47 ⟨rfl, hb⟩; refine ⟨_, rfl, ?_⟩; have n0_ := Aside0.mk (below_step (by repeat (first | (with_reducible first | exact HB.out | apply below_alloc | apply pw_below_drewN | apply below_drew1) | exact HB.out)) hb); clear HB; have HB := n0_; clear n0_; (try clear hb); (try clear hb2); (try clear hk); (try clear hi)))
                        go_ret
                        exact ⟨by first | rfl | (simp [errW_none, errW_some] <;> rfl) | (simp [*, errW_none, errW_some] <;> rfl), by repeat (first | (with_reducible first | exact HB.out | apply below_alloc | apply pw_below_drewN | apply below_drew1) | exact HB.out)⟩
                      · rw [if_neg c42] at H
                        have c42b0 : (t201 == t197) = false := beq_eq_false_iff_ne.mpr c42
                        have c42b1 : (t201 != t197) = true := bne_iff_ne.mpr c42
                        obtain rfl := Option.some.inj H
                        go_wp2_with (first | ((with_reducible refine gate_callee (f := 20) rfl ?_); refine goesL_ (some 111) rfl rfl Tryd.func20 (by kernel_rfl) rfl #[.int .i64 4, .int .i64 a0, .int .i64 0] rfl (by (try simp only [List.map_toArray, List.map_cons, List.map_nil]); first | done | rfl | (simp only [List.length_drop, List.length_take]; rfl)) ?_; (with_reducible refine (scarablaw02_did.calls kj11 4 a0 0 t197 true _ A31.out).mono ?_); rintro e w48 ⟨rfl, hb⟩; refine ⟨_, rfl, ?_⟩; have n0_ := Aside0.mk (below_step (by repeat (first | (with_reducible first | exact HB.out | apply below_alloc | apply pw_below_drewN | apply below_drew1) | exact HB.out)) hb); clear HB; have HB := n0_; clear n0_; (try clear hb); (try clear hb2); (try clear hk); (try clear hi)) | ((with_reducible refine gate_callee (f := 20) rfl ?_); refine goesL_ (some 116) rfl rfl Tryd.func20 (by kernel_rfl) rfl #[.int .i64 4, .int .i64 t193, .int .i64 0] rfl (by (try simp only [List.map_toArray, List.map_cons, List.map_nil]); first | done | rfl | (simp only [List.length_drop, List.length_take]; rfl)) ?_; (with_reducible refine (scarablaw02_did.calls kj11 4 t193 0 t199 true _ A32.out).mono ?_); rintro e w49 ⟨rfl, hb⟩; refine ⟨_, rfl, ?_⟩; have n0_ := Aside0.mk (below_step (by repeat (first | (with_reducible first | exact HB.out | apply below_alloc | apply pw_below_drewN | apply below_drew1) | exact HB.out)) hb); clear HB; have HB := n0_; clear n0_; (try clear hb); (try clear hb2); (try clear hk); (try clear hi)) | ((with_reducible refine gate_callee (f := 20) rfl ?_); refine goesL_ (some 121) rfl rfl Tryd.func20 (by kernel_rfl) rfl #[.int .i64 4, .int .i64 t185, .int .i64 0] rfl (by (try simp only [List.map_toArray, List.map_cons, List.map_nil]); first | done | rfl | (simp only [List.length_drop, List.length_take]; rfl)) ?_; (with_reducible refine (scarablaw02_did.calls kj11 4 t185 0 t201 true _ A33.out).mono ?_); rintro e w50 ⟨rfl, hb⟩; refine ⟨_, rfl, ?_⟩; have n0_ := Aside0.mk (below_step (by repeat (first | (with_reducible first | exact HB.out | apply below_alloc | apply pw_below_drewN | apply below_drew1) | exact HB.out)) hb); clear HB; have HB := n0_; clear n0_; (try clear hb); (try clear hb2); (try clear hk); (try clear hi)) | ((with_reducible refine gate_callee (f := 20) rfl ?_); refine goesL_ (some 126) rfl rfl Tryd.func20 (by kernel_rfl) rfl #[.int .i64 5, .int .i64 a0, .int .i64 0] rfl (by (try simp only [List.map_toArray, List.map_cons, List.map_nil]); first | done | rfl | (simp only [List.length_drop, List.length_take]; rfl)) ?_; (with_reducible refine (scarablaw02_did.calls kj11 5 a0 0 t203 true _ A34.out).mono ?_); rintro e w51 ⟨rfl, hb⟩; refine ⟨_, rfl, ?_⟩; have n0_ := Aside0.mk (below_step (by repeat (first | (with_reducible first | exact HB.out | apply below_alloc | apply pw_below_drewN | apply below_drew1) | exact HB.out)) hb); clear HB; have HB := n0_; clear n0_; (try clear hb); (try clear hb2); (try clear hk); (try clear hi)) | ((with_reducible refine gate_callee (f := 20) rfl ?_); refine goesL_ (some 131) rfl rfl Tryd.func20 (by kernel_rfl) rfl #[.int .i64 6, .int .i64 t189, .int .i64 0] rfl (by (try simp only [List.map_toArray, List.map_cons, List.map_nil]); first | done | rfl | (simp only [List.length_drop, List.length_take]; rfl)) ?_; (with_reducible refine (scarablaw02_did.calls kj11 6 t189 0 t205 true _ A35.out).mono ?_); rintro e w52 ⟨rfl, hb⟩; refine ⟨_, rfl, ?_⟩; have n0_ := Aside0.mk (below_step (by repeat (first | (with_reducible first | exact HB.out | apply below_alloc | apply pw_below_drewN | apply below_drew1) | exact HB.out)) hb); clear HB; have HB := n0_; clear n0_; (try clear hb); (try clear hb2); (try clear hk); (try clear hi)))
                        go_ret
                        exact ⟨by first | rfl | (simp [errW_none, errW_some] <;> rfl) | (simp [*, errW_none, errW_some] <;> rfl), by repeat (first | (with_reducible first | exact HB.out | apply below_alloc | apply pw_below_drewN | apply below_drew1) | exact HB.out)⟩
                    · rw [if_neg c41] at H
                      have c41b0 : ((wrap64 (t197 + t199)) == 64) = false := beq_eq_false_iff_ne.mpr c41
                      have c41b1 : ((wrap64 (t197 + t199)) != 64) = true := bne_iff_ne.mpr c41
                      obtain rfl := Option.some.inj H
                      go_wp2_with (first | ((with_reducible refine gate_callee (f := 20) rfl ?_); refine goesL_ (some 111) rfl rfl Tryd.func20 (by kernel_rfl) rfl #[.int .i64 4, .int .i64 a0, .int .i64 0] rfl (by (try simp only [List.map_toArray, List.map_cons, List.map_nil]); first | done | rfl | (simp only [List.length_drop, List.length_take]; rfl)) ?_; (with_reducible refine (scarablaw02_did.calls kj11 4 a0 0 t197 true _ A31.out).mono ?_); rintro e w53 ⟨rfl, hb⟩; refine ⟨_, rfl, ?_⟩; have n0_ := Aside0.mk (below_step (by repeat (first | (with_reducible first | exact HB.out | apply below_alloc | apply pw_below_drewN | apply below_drew1) | exact HB.out)) hb); clear HB; have HB := n0_; clear n0_; (try clear hb); (try clear hb2); (try clear hk); (try clear hi)) | ((with_reducible refine gate_callee (f := 20) rfl ?_); refine goesL_ (some 116) rfl rfl Tryd.func20 (by kernel_rfl) rfl #[.int .i64 4, .int .i64 t193, .int .i64 0] rfl (by (try simp only [List.map_toArray, List.map_cons, List.map_nil]); first | done | rfl | (simp only [List.length_drop, List.length_take]; rfl)) ?_; (with_reducible refine (scarablaw02_did.calls kj11 4 t193 0 t199 true _ A32.out).mono ?_); rintro e w54 ⟨rfl, hb⟩; refine ⟨_, rfl, ?_⟩; have n0_ := Aside0.mk (below_step (by repeat (first | (with_reducible first | exact HB.out | apply below_alloc | apply pw_below_drewN | apply below_drew1) | exact HB.out)) hb); clear HB; have HB := n0_; clear n0_; (try clear hb); (try clear hb2); (try clear hk); (try clear hi)) | ((with_reducible refine gate_callee (f := 20) rfl ?_); refine goesL_ (some 121) rfl rfl Tryd.func20 (by kernel_rfl) rfl #[.int .i64 4, .int .i64 t185, .int .i64 0] rfl (by (try simp only [List.map_toArray, List.map_cons, List.map_nil]); first | done | rfl | (simp only [List.length_drop, List.length_take]; rfl)) ?_; (with_reducible refine (scarablaw02_did.calls kj11 4 t185 0 t201 true _ A33.out).mono ?_); rintro e w55 ⟨rfl, hb⟩; refine ⟨_, rfl, ?_⟩; have n0_ := Aside0.mk (below_step (by repeat (first | (with_reducible first | exact HB.out | apply below_alloc | apply pw_below_drewN | apply below_drew1) | exact HB.out)) hb); clear HB; have HB := n0_; clear n0_; (try clear hb); (try clear hb2); (try clear hk); (try clear hi)) | ((with_reducible refine gate_callee (f := 20) rfl ?_); refine goesL_ (some 126) rfl rfl Tryd.func20 (by kernel_rfl) rfl #[.int .i64 5, .int .i64 a0, .int .i64 0] rfl (by (try simp only [List.map_toArray, List.map_cons, List.map_nil]); first | done | rfl | (simp only [List.length_drop, List.length_take]; rfl)) ?_; (with_reducible refine (scarablaw02_did.calls kj11 5 a0 0 t203 true _ A34.out).mono ?_); rintro e w56 ⟨rfl, hb⟩; refine ⟨_, rfl, ?_⟩; have n0_ := Aside0.mk (below_step (by repeat (first | (with_reducible first | exact HB.out | apply below_alloc | apply pw_below_drewN | apply below_drew1) | exact HB.out)) hb); clear HB; have HB := n0_; clear n0_; (try clear hb); (try clear hb2); (try clear hk); (try clear hi)) | ((with_reducible refine gate_callee (f := 20) rfl ?_); refine goesL_ (some 131) rfl rfl Tryd.func20 (by kernel_rfl) rfl #[.int .i64 6, .int .i64 t189, .int .i64 0] rfl (by (try simp only [List.map_toArray, List.map_cons, List.map_nil]); first | done | rfl | (simp only [List.length_drop, List.length_take]; rfl)) ?_; (with_reducible refine (scarablaw02_did.calls kj11 6 t189 0 t205 true _ A35.out).mono ?_); rintro e w57 ⟨rfl, hb⟩; refine ⟨_, rfl, ?_⟩; have n0_ := Aside0.mk (below_step (by repeat (first | (with_reducible first | exact HB.out | apply below_alloc | apply pw_below_drewN | apply below_drew1) | exact HB.out)) hb); clear HB; have HB := n0_; clear n0_; (try clear hb); (try clear hb2); (try clear hk); (try clear hi)))
                      go_ret
                      exact ⟨by first | rfl | (simp [errW_none, errW_some] <;> rfl) | (simp [*, errW_none, errW_some] <;> rfl), by repeat (first | (with_reducible first | exact HB.out | apply below_alloc | apply pw_below_drewN | apply below_drew1) | exact HB.out)⟩
                  · replace c40 := Bool.eq_false_iff.mpr c40
                    subst c40
                    have H1 : (some false) = some r := by rw [if_neg (show ¬ (false = true) by decide)] at H; exact H
                    clear H
                    have H := H1
                    clear H1
                    obtain rfl := Option.some.inj H
                    go_wp2_with (first | ((with_reducible refine gate_callee (f := 20) rfl ?_); refine goesL_ (some 111) rfl rfl Tryd.func20 (by kernel_rfl) rfl #[.int .i64 4, .int .i64 a0, .int .i64 0] rfl (by (try simp only [List.map_toArray, List.map_cons, List.map_nil]); first | done | rfl | (simp only [List.length_drop, List.length_take]; rfl)) ?_; (with_reducible refine (scarablaw02_did.calls kj11 4 a0 0 t197 true _ A31.out).mono ?_); rintro e w58 ⟨rfl, hb⟩; refine ⟨_, rfl, ?_⟩; have n0_ := Aside0.mk (below_step (by repeat (first | (with_reducible first | exact HB.out | apply below_alloc | apply pw_below_drewN | apply below_drew1) | exact HB.out)) hb); clear HB; have HB := n0_; clear n0_; (try clear hb); (try clear hb2); (try clear hk); (try clear hi)) | ((with_reducible refine gate_callee (f := 20) rfl ?_); refine goesL_ (some 116) rfl rfl Tryd.func20 (by kernel_rfl) rfl #[.int .i64 4, .int .i64 t193, .int .i64 0] rfl (by (try simp only [List.map_toArray, List.map_cons, List.map_nil]); first | done | rfl | (simp only [List.length_drop, List.length_take]; rfl)) ?_; (with_reducible refine (scarablaw02_did.calls kj11 4 t193 0 t199 true _ A32.out).mono ?_); rintro e w59 ⟨rfl, hb⟩; refine ⟨_, rfl, ?_⟩; have n0_ := Aside0.mk (below_step (by repeat (first | (with_reducible first | exact HB.out | apply below_alloc | apply pw_below_drewN | apply below_drew1) | exact HB.out)) hb); clear HB; have HB := n0_; clear n0_; (try clear hb); (try clear hb2); (try clear hk); (try clear hi)) | ((with_reducible refine gate_callee (f := 20) rfl ?_); refine goesL_ (some 121) rfl rfl Tryd.func20 (by kernel_rfl) rfl #[.int .i64 4, .int .i64 t185, .int .i64 0] rfl (by (try simp only [List.map_toArray, List.map_cons, List.map_nil]); first | done | rfl | (simp only [List.length_drop, List.length_take]; rfl)) ?_; (with_reducible refine (scarablaw02_did.calls kj11 4 t185 0 t201 true _ A33.out).mono ?_); rintro e w60 ⟨rfl, hb⟩; refine ⟨_, rfl, ?_⟩; have n0_ := Aside0.mk (below_step (by repeat (first | (with_reducible first | exact HB.out | apply below_alloc | apply pw_below_drewN | apply below_drew1) | exact HB.out)) hb); clear HB; have HB := n0_; clear n0_; (try clear hb); (try clear hb2); (try clear hk); (try clear hi)) | ((with_reducible refine gate_callee (f := 20) rfl ?_); refine goesL_ (some 126) rfl rfl Tryd.func20 (by kernel_rfl) rfl #[.int .i64 5, .int .i64 a0, .int .i64 0] rfl (by (try simp only [List.map_toArray, List.map_cons, List.map_nil]); first | done | rfl | (simp only [List.length_drop, List.length_take]; rfl)) ?_; (with_reducible refine (scarablaw02_did.calls kj11 5 a0 0 t203 true _ A34.out).mono ?_); rintro e w61 ⟨rfl, hb⟩; refine ⟨_, rfl, ?_⟩; have n0_ := Aside0.mk (below_step (by repeat (first | (with_reducible first | exact HB.out | apply below_alloc | apply pw_below_drewN | apply below_drew1) | exact HB.out)) hb); clear HB; have HB := n0_; clear n0_; (try clear hb); (try clear hb2); (try clear hk); (try clear hi)) | ((with_reducible refine gate_callee (f := 20) rfl ?_); refine goesL_ (some 131) rfl rfl Tryd.func20 (by kernel_rfl) rfl #[.int .i64 6, .int .i64 t189, .int .i64 0] rfl (by (try simp only [List.map_toArray, List.map_cons, List.map_nil]); first | done | rfl | (simp only [List.length_drop, List.length_take]; rfl)) ?_; (with_reducible refine (scarablaw02_did.calls kj11 6 t189 0 t205 false _ A35.out).mono ?_); rintro e w62 ⟨rfl, hb⟩; refine ⟨_, rfl, ?_⟩; have n0_ := Aside0.mk (below_step (by repeat (first | (with_reducible first | exact HB.out | apply below_alloc | apply pw_below_drewN | apply below_drew1) | exact HB.out)) hb); clear HB; have HB := n0_; clear n0_; (try clear hb); (try clear hb2); (try clear hk); (try clear hi)))
                    go_ret
                    exact ⟨by first | rfl | (simp [errW_none, errW_some] <;> rfl) | (simp [*, errW_none, errW_some] <;> rfl), by repeat (first | (with_reducible first | exact HB.out | apply below_alloc | apply pw_below_drewN | apply below_drew1) | exact HB.out)⟩
                · replace c39 := Bool.eq_false_iff.mpr c39
                  subst c39
                  have H1 : (some false) = some r := by rw [if_neg (show ¬ (false = true) by decide)] at H; exact H
                  clear H
                  have H := H1
                  clear H1
                  obtain rfl := Option.some.inj H
                  go_wp2_with (first | ((with_reducible refine gate_callee (f := 20) rfl ?_); refine goesL_ (some 111) rfl rfl Tryd.func20 (by kernel_rfl) rfl #[.int .i64 4, .int .i64 a0, .int .i64 0] rfl (by (try simp only [List.map_toArray, List.map_cons, List.map_nil]); first | done | rfl | (simp only [List.length_drop, List.length_take]; rfl)) ?_; (with_reducible refine (scarablaw02_did.calls kj11 4 a0 0 t197 true _ A31.out).mono ?_); rintro e w63 ⟨rfl, hb⟩; refine ⟨_, rfl, ?_⟩; have n0_ := Aside0.mk (below_step (by repeat (first | (with_reducible first | exact HB.out | apply below_alloc | apply pw_below_drewN | apply below_drew1) | exact HB.out)) hb); clear HB; have HB := n0_; clear n0_; (try clear hb); (try clear hb2); (try clear hk); (try clear hi)) | ((with_reducible refine gate_callee (f := 20) rfl ?_); refine goesL_ (some 116) rfl rfl Tryd.func20 (by kernel_rfl) rfl #[.int .i64 4, .int .i64 t193, .int .i64 0] rfl (by (try simp only [List.map_toArray, List.map_cons, List.map_nil]); first | done | rfl | (simp only [List.length_drop, List.length_take]; rfl)) ?_; (with_reducible refine (scarablaw02_did.calls kj11 4 t193 0 t199 true _ A32.out).mono ?_); rintro e w64 ⟨rfl, hb⟩; refine ⟨_, rfl, ?_⟩; have n0_ := Aside0.mk (below_step (by repeat (first | (with_reducible first | exact HB.out | apply below_alloc | apply pw_below_drewN | apply below_drew1) | exact HB.out)) hb); clear HB; have HB := n0_; clear n0_; (try clear hb); (try clear hb2); (try clear hk); (try clear hi)) | ((with_reducible refine gate_callee (f := 20) rfl ?_); refine goesL_ (some 121) rfl rfl Tryd.func20 (by kernel_rfl) rfl #[.int .i64 4, .int .i64 t185, .int .i64 0] rfl (by (try simp only [List.map_toArray, List.map_cons, List.map_nil]); first | done | rfl | (simp only [List.length_drop, List.length_take]; rfl)) ?_; (with_reducible refine (scarablaw02_did.calls kj11 4 t185 0 t201 true _ A33.out).mono ?_); rintro e w65 ⟨rfl, hb⟩; refine ⟨_, rfl, ?_⟩; have n0_ := Aside0.mk (below_step (by repeat (first | (with_reducible first | exact HB.out | apply below_alloc | apply pw_below_drewN | apply below_drew1) | exact HB.out)) hb); clear HB; have HB := n0_; clear n0_; (try clear hb); (try clear hb2); (try clear hk); (try clear hi)) | ((with_reducible refine gate_callee (f := 20) rfl ?_); refine goesL_ (some 126) rfl rfl Tryd.func20 (by kernel_rfl) rfl #[.int .i64 5, .int .i64 a0, .int .i64 0] rfl (by (try simp only [List.map_toArray, List.map_cons, List.map_nil]); first | done | rfl | (simp only [List.length_drop, List.length_take]; rfl)) ?_; (with_reducible refine (scarablaw02_did.calls kj11 5 a0 0 t203 false _ A34.out).mono ?_); rintro e w66 ⟨rfl, hb⟩; refine ⟨_, rfl, ?_⟩; have n0_ := Aside0.mk (below_step (by repeat (first | (with_reducible first | exact HB.out | apply below_alloc | apply pw_below_drewN | apply below_drew1) | exact HB.out)) hb); clear HB; have HB := n0_; clear n0_; (try clear hb); (try clear hb2); (try clear hk); (try clear hi)) | ((with_reducible refine gate_callee (f := 20) rfl ?_); refine goesL_ (some 131) rfl rfl Tryd.func20 (by kernel_rfl) rfl #[.int .i64 6, .int .i64 t189, .int .i64 0] rfl (by (try simp only [List.map_toArray, List.map_cons, List.map_nil]); first | done | rfl | (simp only [List.length_drop, List.length_take]; rfl)) ?_; (with_reducible refine (scarablaw02_did.calls kj11 6 t189 0 t205 t206 _ A35.out).mono ?_); rintro e w67 ⟨rfl, hb⟩; refine ⟨_, rfl, ?_⟩; have n0_ := Aside0.mk (below_step (by repeat (first | (with_reducible first | exact HB.out | apply below_alloc | apply pw_below_drewN | apply below_drew1) | exact HB.out)) hb); clear HB; have HB := n0_; clear n0_; (try clear hb); (try clear hb2); (try clear hk); (try clear hi)))
                  go_ret
                  exact ⟨by first | rfl | (simp [errW_none, errW_some] <;> rfl) | (simp [*, errW_none, errW_some] <;> rfl), by repeat (first | (with_reducible first | exact HB.out | apply below_alloc | apply pw_below_drewN | apply below_drew1) | exact HB.out)⟩
              · replace c38 := Bool.eq_false_iff.mpr c38
                subst c38
                have H1 : (some false) = some r := by rw [if_neg (show ¬ (false = true) by decide)] at H; exact H
                clear H
                have H := H1
                clear H1
                obtain rfl := Option.some.inj H
                go_wp2_with (first | ((with_reducible refine gate_callee (f := 20) rfl ?_); refine goesL_ (some 111) rfl rfl Tryd.func20 (by kernel_rfl) rfl #[.int .i64 4, .int .i64 a0, .int .i64 0] rfl (by (try simp only [List.map_toArray, List.map_cons, List.map_nil]); first | done | rfl | (simp only [List.length_drop, List.length_take]; rfl)) ?_; (with_reducible refine (scarablaw02_did.calls kj11 4 a0 0 t197 true _ A31.out).mono ?_); rintro e w68 ⟨rfl, hb⟩; refine ⟨_, rfl, ?_⟩; have n0_ := Aside0.mk (below_step (by repeat (first | (with_reducible first | exact HB.out | apply below_alloc | apply pw_below_drewN | apply below_drew1) | exact HB.out)) hb); clear HB; have HB := n0_; clear n0_; (try clear hb); (try clear hb2); (try clear hk); (try clear hi)) | ((with_reducible refine gate_callee (f := 20) rfl ?_); refine goesL_ (some 116) rfl rfl Tryd.func20 (by kernel_rfl) rfl #[.int .i64 4, .int .i64 t193, .int .i64 0] rfl (by (try simp only [List.map_toArray, List.map_cons, List.map_nil]); first | done | rfl | (simp only [List.length_drop, List.length_take]; rfl)) ?_; (with_reducible refine (scarablaw02_did.calls kj11 4 t193 0 t199 true _ A32.out).mono ?_); rintro e w69 ⟨rfl, hb⟩; refine ⟨_, rfl, ?_⟩; have n0_ := Aside0.mk (below_step (by repeat (first | (with_reducible first | exact HB.out | apply below_alloc | apply pw_below_drewN | apply below_drew1) | exact HB.out)) hb); clear HB; have HB := n0_; clear n0_; (try clear hb); (try clear hb2); (try clear hk); (try clear hi)) | ((with_reducible refine gate_callee (f := 20) rfl ?_); refine goesL_ (some 121) rfl rfl Tryd.func20 (by kernel_rfl) rfl #[.int .i64 4, .int .i64 t185, .int .i64 0] rfl (by (try simp only [List.map_toArray, List.map_cons, List.map_nil]); first | done | rfl | (simp only [List.length_drop, List.length_take]; rfl)) ?_; (with_reducible refine (scarablaw02_did.calls kj11 4 t185 0 t201 false _ A33.out).mono ?_); rintro e w70 ⟨rfl, hb⟩; refine ⟨_, rfl, ?_⟩; have n0_ := Aside0.mk (below_step (by repeat (first | (with_reducible first | exact HB.out | apply below_alloc | apply pw_below_drewN | apply below_drew1) | exact HB.out)) hb); clear HB; have HB := n0_; clear n0_; (try clear hb); (try clear hb2); (try clear hk); (try clear hi)) | ((with_reducible refine gate_callee (f := 20) rfl ?_); refine goesL_ (some 126) rfl rfl Tryd.func20 (by kernel_rfl) rfl #[.int .i64 5, .int .i64 a0, .int .i64 0] rfl (by (try simp only [List.map_toArray, List.map_cons, List.map_nil]); first | done | rfl | (simp only [List.length_drop, List.length_take]; rfl)) ?_; (with_reducible refine (scarablaw02_did.calls kj11 5 a0 0 t203 t204 _ A34.out).mono ?_); rintro e w71 ⟨rfl, hb⟩; refine ⟨_, rfl, ?_⟩; have n0_ := Aside0.mk (below_step (by repeat (first | (with_reducible first | exact HB.out | apply below_alloc | apply pw_below_drewN | apply below_drew1) | exact HB.out)) hb); clear HB; have HB := n0_; clear n0_; (try clear hb); (try clear hb2); (try clear hk); (try clear hi)) | ((with_reducible refine gate_callee (f := 20) rfl ?_); refine goesL_ (some 131) rfl rfl Tryd.func20 (by kernel_rfl) rfl #[.int .i64 6, .int .i64 t189, .int .i64 0] rfl (by (try simp only [List.map_toArray, List.map_cons, List.map_nil]); first | done | rfl | (simp only [List.length_drop, List.length_take]; rfl)) ?_; (with_reducible refine (scarablaw02_did.calls kj11 6 t189 0 t205 t206 _ A35.out).mono ?_); rintro e w72 ⟨rfl, hb⟩; refine ⟨_, rfl, ?_⟩; have n0_ := Aside0.mk (below_step (by repeat (first | (with_reducible first | exact HB.out | apply below_alloc | apply pw_below_drewN | apply below_drew1) | exact HB.out)) hb); clear HB; have HB := n0_; clear n0_; (try clear hb); (try clear hb2); (try clear hk); (try clear hi)))
                go_ret
                exact ⟨by first | rfl | (simp [errW_none, errW_some] <;> rfl) | (simp [*, errW_none, errW_some] <;> rfl), by repeat (first | (with_reducible first | exact HB.out | apply below_alloc | apply pw_below_drewN | apply below_drew1) | exact HB.out)⟩
            · replace c37 := Bool.eq_false_iff.mpr c37
              subst c37
              have H1 : (some false) = some r := by rw [if_neg (show ¬ (false = true) by decide)] at H; exact H
              clear H
              have H := H1
              clear H1
              obtain rfl := Option.some.inj H
              go_wp2_with (first | ((with_reducible refine gate_callee (f := 20) rfl ?_); refine goesL_ (some 111) rfl rfl Tryd.func20 (by kernel_rfl) rfl #[.int .i64 4, .int .i64 a0, .int .i64 0] rfl (by (try simp only [List.map_toArray, List.map_cons, List.map_nil]); first | done | rfl | (simp only [List.length_drop, List.length_take]; rfl)) ?_; (with_reducible refine (scarablaw02_did.calls kj11 4 a0 0 t197 true _ A31.out).mono ?_); rintro e w73 ⟨rfl, hb⟩; refine ⟨_, rfl, ?_⟩; have n0_ := Aside0.mk (below_step (by repeat (first | (with_reducible first | exact HB.out | apply below_alloc | apply pw_below_drewN | apply below_drew1) | exact HB.out)) hb); clear HB; have HB := n0_; clear n0_; (try clear hb); (try clear hb2); (try clear hk); (try clear hi)) | ((with_reducible refine gate_callee (f := 20) rfl ?_); refine goesL_ (some 116) rfl rfl Tryd.func20 (by kernel_rfl) rfl #[.int .i64 4, .int .i64 t193, .int .i64 0] rfl (by (try simp only [List.map_toArray, List.map_cons, List.map_nil]); first | done | rfl | (simp only [List.length_drop, List.length_take]; rfl)) ?_; (with_reducible refine (scarablaw02_did.calls kj11 4 t193 0 t199 false _ A32.out).mono ?_); rintro e w74 ⟨rfl, hb⟩; refine ⟨_, rfl, ?_⟩; have n0_ := Aside0.mk (below_step (by repeat (first | (with_reducible first | exact HB.out | apply below_alloc | apply pw_below_drewN | apply below_drew1) | exact HB.out)) hb); clear HB; have HB := n0_; clear n0_; (try clear hb); (try clear hb2); (try clear hk); (try clear hi)) | ((with_reducible refine gate_callee (f := 20) rfl ?_); refine goesL_ (some 121) rfl rfl Tryd.func20 (by kernel_rfl) rfl #[.int .i64 4, .int .i64 t185, .int .i64 0] rfl (by (try simp only [List.map_toArray, List.map_cons, List.map_nil]); first | done | rfl | (simp only [List.length_drop, List.length_take]; rfl)) ?_; (with_reducible refine (scarablaw02_did.calls kj11 4 t185 0 t201 t202 _ A33.out).mono ?_); rintro e w75 ⟨rfl, hb⟩; refine ⟨_, rfl, ?_⟩; have n0_ := Aside0.mk (below_step (by repeat (first | (with_reducible first | exact HB.out | apply below_alloc | apply pw_below_drewN | apply below_drew1) | exact HB.out)) hb); clear HB; have HB := n0_; clear n0_; (try clear hb); (try clear hb2); (try clear hk); (try clear hi)) | ((with_reducible refine gate_callee (f := 20) rfl ?_); refine goesL_ (some 126) rfl rfl Tryd.func20 (by kernel_rfl) rfl #[.int .i64 5, .int .i64 a0, .int .i64 0] rfl (by (try simp only [List.map_toArray, List.map_cons, List.map_nil]); first | done | rfl | (simp only [List.length_drop, List.length_take]; rfl)) ?_; (with_reducible refine (scarablaw02_did.calls kj11 5 a0 0 t203 t204 _ A34.out).mono ?_); rintro e w76 ⟨rfl, hb⟩; refine ⟨_, rfl, ?_⟩; have n0_ := Aside0.mk (below_step (by repeat (first | (with_reducible first | exact HB.out | apply below_alloc | apply pw_below_drewN | apply below_drew1) | exact HB.out)) hb); clear HB; have HB := n0_; clear n0_; (try clear hb); (try clear hb2); (try clear hk); (try clear hi)) | ((with_reducible refine gate_callee (f := 20) rfl ?_); refine goesL_ (some 131) rfl rfl Tryd.func20 (by kernel_rfl) rfl #[.int .i64 6, .int .i64 t189, .int .i64 0] rfl (by (try simp only [List.map_toArray, List.map_cons, List.map_nil]); first | done | rfl | (simp only [List.length_drop, List.length_take]; rfl)) ?_; (with_reducible refine (scarablaw02_did.calls kj11 6 t189 0 t205 t206 _ A35.out).mono ?_); rintro e w77 ⟨rfl, hb⟩; refine ⟨_, rfl, ?_⟩; have n0_ := Aside0.mk (below_step (by repeat (first | (with_reducible first | exact HB.out | apply below_alloc | apply pw_below_drewN | apply below_drew1) | exact HB.out)) hb); clear HB; have HB := n0_; clear n0_; (try clear hb); (try clear hb2); (try clear hk); (try clear hi)))
              go_ret
              exact ⟨by first | rfl | (simp [errW_none, errW_some] <;> rfl) | (simp [*, errW_none, errW_some] <;> rfl), by repeat (first | (with_reducible first | exact HB.out | apply below_alloc | apply pw_below_drewN | apply below_drew1) | exact HB.out)⟩
          · replace c36 := Bool.eq_false_iff.mpr c36
            subst c36
            have H1 : (some false) = some r := by rw [if_neg (show ¬ (false = true) by decide)] at H; exact H
            clear H
            have H := H1
            clear H1
            obtain rfl := Option.some.inj H
            go_wp2_with (first | ((with_reducible refine gate_callee (f := 20) rfl ?_); refine goesL_ (some 111) rfl rfl Tryd.func20 (by kernel_rfl) rfl #[.int .i64 4, .int .i64 a0, .int .i64 0] rfl (by (try simp only [List.map_toArray, List.map_cons, List.map_nil]); first | done | rfl | (simp only [List.length_drop, List.length_take]; rfl)) ?_; (with_reducible refine (scarablaw02_did.calls kj11 4 a0 0 t197 false _ A31.out).mono ?_); rintro e w78 ⟨rfl, hb⟩; refine ⟨_, rfl, ?_⟩; have n0_ := Aside0.mk (below_step (by repeat (first | (with_reducible first | exact HB.out | apply below_alloc | apply pw_below_drewN | apply below_drew1) | exact HB.out)) hb); clear HB; have HB := n0_; clear n0_; (try clear hb); (try clear hb2); (try clear hk); (try clear hi)) | ((with_reducible refine gate_callee (f := 20) rfl ?_); refine goesL_ (some 116) rfl rfl Tryd.func20 (by kernel_rfl) rfl #[.int .i64 4, .int .i64 t193, .int .i64 0] rfl (by (try simp only [List.map_toArray, List.map_cons, List.map_nil]); first | done | rfl | (simp only [List.length_drop, List.length_take]; rfl)) ?_; (with_reducible refine (scarablaw02_did.calls kj11 4 t193 0 t199 t200 _ A32.out).mono ?_); rintro e w79 ⟨rfl, hb⟩; refine ⟨_, rfl, ?_⟩; have n0_ := Aside0.mk (below_step (by repeat (first | (with_reducible first | exact HB.out | apply below_alloc | apply pw_below_drewN | apply below_drew1) | exact HB.out)) hb); clear HB; have HB := n0_; clear n0_; (try clear hb); (try clear hb2); (try clear hk); (try clear hi)) | ((with_reducible refine gate_callee (f := 20) rfl ?_); refine goesL_ (some 121) rfl rfl Tryd.func20 (by kernel_rfl) rfl #[.int .i64 4, .int .i64 t185, .int .i64 0] rfl (by (try simp only [List.map_toArray, List.map_cons, List.map_nil]); first | done | rfl | (simp only [List.length_drop, List.length_take]; rfl)) ?_; (with_reducible refine (scarablaw02_did.calls kj11 4 t185 0 t201 t202 _ A33.out).mono ?_); rintro e w80 ⟨rfl, hb⟩; refine ⟨_, rfl, ?_⟩; have n0_ := Aside0.mk (below_step (by repeat (first | (with_reducible first | exact HB.out | apply below_alloc | apply pw_below_drewN | apply below_drew1) | exact HB.out)) hb); clear HB; have HB := n0_; clear n0_; (try clear hb); (try clear hb2); (try clear hk); (try clear hi)) | ((with_reducible refine gate_callee (f := 20) rfl ?_); refine goesL_ (some 126) rfl rfl Tryd.func20 (by kernel_rfl) rfl #[.int .i64 5, .int .i64 a0, .int .i64 0] rfl (by (try simp only [List.map_toArray, List.map_cons, List.map_nil]); first | done | rfl | (simp only [List.length_drop, List.length_take]; rfl)) ?_; (with_reducible refine (scarablaw02_did.calls kj11 5 a0 0 t203 t204 _ A34.out).mono ?_); rintro e w81 ⟨rfl, hb⟩; refine ⟨_, rfl, ?_⟩; have n0_ := Aside0.mk (below_step (by repeat (first | (with_reducible first | exact HB.out | apply below_alloc | apply pw_below_drewN | apply below_drew1) | exact HB.out)) hb); clear HB; have HB := n0_; clear n0_; (try clear hb); (try clear hb2); (try clear hk); (try clear hi)) | ((with_reducible refine gate_callee (f := 20) rfl ?_); refine goesL_ (some 131) rfl rfl Tryd.func20 (by kernel_rfl) rfl #[.int .i64 6, .int .i64 t189, .int .i64 0] rfl (by (try simp only [List.map_toArray, List.map_cons, List.map_nil]); first | done | rfl | (simp only [List.length_drop, List.length_take]; rfl)) ?_; (with_reducible refine (scarablaw02_did.calls kj11 6 t189 0 t205 t206 _ A35.out).mono ?_); rintro e w82 ⟨rfl, hb⟩; refine ⟨_, rfl, ?_⟩; have n0_ := Aside0.mk (below_step (by repeat (first | (with_reducible first | exact HB.out | apply below_alloc | apply pw_below_drewN | apply below_drew1) | exact HB.out)) hb); clear HB; have HB := n0_; clear n0_; (try clear hb); (try clear hb2); (try clear hk); (try clear hi)))
            go_ret
            exact ⟨by first | rfl | (simp [errW_none, errW_some] <;> rfl) | (simp [*, errW_none, errW_some] <;> rfl), by repeat (first | (with_reducible first | exact HB.out | apply below_alloc | apply pw_below_drewN | apply below_drew1) | exact HB.out)⟩
  · replace c4 := Bool.eq_false_iff.mpr c4
    subst c4
    have H1 : (some false) = some r := by rw [if_neg (show ¬ (false = true) by decide)] at H; exact H
    clear H
    have H := H1
    clear H1
    obtain rfl := Option.some.inj H
    go_enter Tryd.func6, Tryd.ntmps6
    go_wp2_with (first | ((with_reducible refine gate_callee (f := 19) rfl ?_); refine goesL_ (some 29) rfl rfl Tryd.func19 (by kernel_rfl) rfl #[] rfl (by (try simp only [List.map_toArray, List.map_cons, List.map_nil]); first | done | rfl | (simp only [List.length_drop, List.length_take]; rfl)) ?_; (with_reducible refine (scarablaw02_speaks.calls k  false _ A3.out).mono ?_); rintro e w83 ⟨rfl, hb⟩; refine ⟨_, rfl, ?_⟩; have n0_ := Aside0.mk (below_step (by repeat (first | (with_reducible first | exact HB.out | apply below_alloc | apply pw_below_drewN | apply below_drew1) | exact HB.out)) hb); clear HB; have HB := n0_; clear n0_; (try clear hb); (try clear hb2); (try clear hk); (try clear hi)))
    go_ret
    exact ⟨by first | rfl | (simp [errW_none, errW_some] <;> rfl) | (simp [*, errW_none, errW_some] <;> rfl), by repeat (first | (with_reducible first | exact HB.out | apply below_alloc | apply pw_below_drewN | apply below_drew1) | exact HB.out)⟩

/-- THE ONE PURE STATEMENT of scarablaw02_WordTurns: yours. -/
def scarablaw02_WordTurns.Pure : Prop := ∀ (a0 : Int) (a1 : Int), (Lit.int .i64 a0).wf = true → (Lit.int .i64 a1).wf = true → ∃ k, scarablaw02_WordTurns.f k a0 a1 = some true
theorem scarablaw02_WordTurns.walk (P : scarablaw02_WordTurns.Pure) (a0 : Int) (a1 : Int) (w : World) (w0 : (Lit.int .i64 a0).wf = true) (w1 : (Lit.int .i64 a1).wf = true) :
    Calls Tryd.prog 6 #[.int .i64 a0, .int .i64 a1] w fun e w' => e = .returned (.bool true) ∧ Below w.heap.size w w' := by
  obtain ⟨k, h⟩ := P a0 a1 w0 w1
  refine (scarablaw02_WordTurns.calls k a0 a1 true w h).mono ?_
  rintro e w' ⟨rfl, hd⟩
  exact ⟨rfl, hd⟩

end Go.Proofs.YtckfnbjjghdaoaaDoor.Q
