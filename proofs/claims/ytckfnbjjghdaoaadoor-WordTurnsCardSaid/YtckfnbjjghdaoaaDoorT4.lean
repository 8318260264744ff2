-- This session's own text, made by its own run of the tools (wip/tools/pr.sh).
import Derived.Test.YtckfnbjjghdaoaaDoorT0
import Derived.Test.YtckfnbjjghdaoaaDoorT3
namespace Go.Proofs.YtckfnbjjghdaoaaDoor.T
open Go.RowKit Go.Proofs.YtckfnbjjghdaoaaDoorW.PrintWords Go.Proofs.YtckfnbjjghdaoaaDoorW.PrintLast Go.Proofs.YtckfnbjjghdaoaaDoorW.PrintMore
attribute [local go_sem] max2_int min2_int max_two min_two max_three min_three max_four min_four   -- for this text's walks alone
set_option linter.unusedVariables false
set_option linter.unusedSimpArgs false

/-! ### scarablaw02_WordTurns: function 6 -/
def scarablaw02_WordTurns.j0 : Nat → Int → Int → Int → Int → Bool → Option (Bool)
  | 0, _, _, _, _, _ => none
  | k + 1, x0, x7, x11, x15, x108 => if x108 = true then (some false) else ((scarablaw02_did.f k 4 x0 0).bind fun bt160 => ((scarablaw02_did.f k 4 x15 0).bind fun bt162 => ((scarablaw02_did.f k 4 x7 0).bind fun bt164 => ((scarablaw02_did.f k 5 x0 0).bind fun bt166 => ((scarablaw02_did.f k 6 x11 0).bind fun bt168 => (if bt160.2 = true then (if bt162.2 = true then (if bt164.2 = true then (if bt166.2 = true then (if bt168.2 = true then (if (wrap64 (bt160.1 + bt162.1)) = 64 then (if bt164.1 = bt160.1 then (some (bt166.1 == bt168.1)) else (some false)) else (some false)) else (some false)) else (some false)) else (some false)) else (some false)) else (some false)))))))
def scarablaw02_WordTurns.f (k : Nat) (a0 : Int) (a1 : Int) : Option (Bool) := (scarablaw02_speaks.f k).bind fun t145 => (if t145 = true then ((scarablaw02_did.f k 1 a1 0).bind fun bt146 => ((scarablaw02_did.f k 28 a0 a1).bind fun bt148 => ((scarablaw02_did.f k 28 bt148.1 bt146.1).bind fun bt150 => ((scarablaw02_did.f k 7 a0 0).bind fun bt152 => ((scarablaw02_did.f k 7 bt152.1 0).bind fun bt154 => ((scarablaw02_did.f k 2 a0 0).bind fun bt156 => ((scarablaw02_did.f k 2 bt156.1 0).bind fun bt158 => (if bt146.2 = true then (if bt148.2 = true then (if bt150.2 = true then (if bt152.2 = true then (if bt154.2 = true then (if bt156.2 = true then (if bt158.2 = true then (if bt150.1 = a0 then (if bt154.1 = a0 then (scarablaw02_WordTurns.j0 k a0 bt148.1 bt152.1 bt156.1 (bt158.1 != a0)) else (scarablaw02_WordTurns.j0 k a0 bt148.1 bt152.1 bt156.1 true)) else (scarablaw02_WordTurns.j0 k a0 bt148.1 bt152.1 bt156.1 true)) else (scarablaw02_WordTurns.j0 k a0 bt148.1 bt152.1 bt156.1 true)) else (scarablaw02_WordTurns.j0 k a0 bt148.1 bt152.1 bt156.1 true)) else (scarablaw02_WordTurns.j0 k a0 bt148.1 bt152.1 bt156.1 true)) else (scarablaw02_WordTurns.j0 k a0 bt148.1 bt152.1 bt156.1 true)) else (scarablaw02_WordTurns.j0 k a0 bt148.1 bt152.1 bt156.1 true)) else (scarablaw02_WordTurns.j0 k a0 bt148.1 bt152.1 bt156.1 true)) else (scarablaw02_WordTurns.j0 k a0 bt148.1 bt152.1 bt156.1 true))))))))) else (some false))
theorem scarablaw02_WordTurns.mono_l : ∀ k, (∀ y0 y1 y2 y3 y4, LeO (scarablaw02_WordTurns.j0 k y0 y1 y2 y3 y4) (scarablaw02_WordTurns.j0 (k + 1) y0 y1 y2 y3 y4))
  | 0 => fun _ _ _ _ _ r h => by simp [scarablaw02_WordTurns.j0] at h
  | k + 1 => by
    have ih0 := scarablaw02_WordTurns.mono_l k
    · intro y0 y1 y2 y3 y4
      unfold scarablaw02_WordTurns.j0
      repeat' first
      | (with_reducible exact ih0 _ _ _ _ _)
      | (with_reducible exact scarablaw02_did.mono _ _ _ _)
      | (with_reducible exact scarablaw02_speaks.mono _)
      | (with_reducible exact LeO.refl _)
      | (with_reducible exact LeO.none _)
      | (with_reducible refine LeO.ite ?_ ?_)
      | (with_reducible refine LeO.bind ?_ (fun _ => ?_))
      | exact ih0 _ _ _ _ _
      | exact scarablaw02_did.mono _ _ _ _
      | exact scarablaw02_speaks.mono _
      | exact LeO.none _
      | refine LeO.ite ?_ ?_
      | refine LeO.bind ?_ (fun _ => ?_)
theorem scarablaw02_WordTurns.mono : ∀ a0 a1 k, LeO (scarablaw02_WordTurns.f k a0 a1) (scarablaw02_WordTurns.f (k + 1) a0 a1) := by
  intro a0 a1 k
  have ih0 := scarablaw02_WordTurns.mono_l k
  unfold scarablaw02_WordTurns.f
  repeat' first
      | (with_reducible exact ih0 _ _ _ _ _)
      | (with_reducible exact scarablaw02_did.mono _ _ _ _)
      | (with_reducible exact scarablaw02_speaks.mono _)
      | (with_reducible exact LeO.refl _)
      | (with_reducible exact LeO.none _)
      | (with_reducible refine LeO.ite ?_ ?_)
      | (with_reducible refine LeO.bind ?_ (fun _ => ?_))
      | exact ih0 _ _ _ _ _
      | exact scarablaw02_did.mono _ _ _ _
      | exact scarablaw02_speaks.mono _
      | exact LeO.none _
      | refine LeO.ite ?_ ?_
      | refine LeO.bind ?_ (fun _ => ?_)
set_option maxHeartbeats 8000000 in
set_option maxRecDepth 100000 in
theorem scarablaw02_WordTurns.calls (k : Nat) (a0 : Int) (a1 : Int) (r : Bool) (w : World) [Tab.TabOK w] (h : scarablaw02_WordTurns.f k a0 a1 = some r) :
    Calls Tryd.prog 6 #[.int .i64 a0, .int .i64 a1] w fun e w' => e = .returned (.bool r) ∧ Below w.heap.size w w' := by
  have HB := Aside0.mk (Below.refl w.heap.size w)
  have H : ((scarablaw02_speaks.f k).bind fun t145 => (if t145 = true then ((scarablaw02_did.f k 1 a1 0).bind fun bt146 => ((scarablaw02_did.f k 28 a0 a1).bind fun bt148 => ((scarablaw02_did.f k 28 bt148.1 bt146.1).bind fun bt150 => ((scarablaw02_did.f k 7 a0 0).bind fun bt152 => ((scarablaw02_did.f k 7 bt152.1 0).bind fun bt154 => ((scarablaw02_did.f k 2 a0 0).bind fun bt156 => ((scarablaw02_did.f k 2 bt156.1 0).bind fun bt158 => (if bt146.2 = true then (if bt148.2 = true then (if bt150.2 = true then (if bt152.2 = true then (if bt154.2 = true then (if bt156.2 = true then (if bt158.2 = true then (if bt150.1 = a0 then (if bt154.1 = a0 then (scarablaw02_WordTurns.j0 k a0 bt148.1 bt152.1 bt156.1 (bt158.1 != a0)) else (scarablaw02_WordTurns.j0 k a0 bt148.1 bt152.1 bt156.1 true)) else (scarablaw02_WordTurns.j0 k a0 bt148.1 bt152.1 bt156.1 true)) else (scarablaw02_WordTurns.j0 k a0 bt148.1 bt152.1 bt156.1 true)) else (scarablaw02_WordTurns.j0 k a0 bt148.1 bt152.1 bt156.1 true)) else (scarablaw02_WordTurns.j0 k a0 bt148.1 bt152.1 bt156.1 true)) else (scarablaw02_WordTurns.j0 k a0 bt148.1 bt152.1 bt156.1 true)) else (scarablaw02_WordTurns.j0 k a0 bt148.1 bt152.1 bt156.1 true)) else (scarablaw02_WordTurns.j0 k a0 bt148.1 bt152.1 bt156.1 true)) else (scarablaw02_WordTurns.j0 k a0 bt148.1 bt152.1 bt156.1 true))))))))) else (some false))) = some r := h
  clear h
  replace H := Option.bind_eq_some_iff.mp H
  obtain ⟨t145, A30, H⟩ := H
  replace H : (if t145 = true then ((scarablaw02_did.f k 1 a1 0).bind fun bt146 => ((scarablaw02_did.f k 28 a0 a1).bind fun bt148 => ((scarablaw02_did.f k 28 bt148.1 bt146.1).bind fun bt150 => ((scarablaw02_did.f k 7 a0 0).bind fun bt152 => ((scarablaw02_did.f k 7 bt152.1 0).bind fun bt154 => ((scarablaw02_did.f k 2 a0 0).bind fun bt156 => ((scarablaw02_did.f k 2 bt156.1 0).bind fun bt158 => (if bt146.2 = true then (if bt148.2 = true then (if bt150.2 = true then (if bt152.2 = true then (if bt154.2 = true then (if bt156.2 = true then (if bt158.2 = true then (if bt150.1 = a0 then (if bt154.1 = a0 then (scarablaw02_WordTurns.j0 k a0 bt148.1 bt152.1 bt156.1 (bt158.1 != a0)) else (scarablaw02_WordTurns.j0 k a0 bt148.1 bt152.1 bt156.1 true)) else (scarablaw02_WordTurns.j0 k a0 bt148.1 bt152.1 bt156.1 true)) else (scarablaw02_WordTurns.j0 k a0 bt148.1 bt152.1 bt156.1 true)) else (scarablaw02_WordTurns.j0 k a0 bt148.1 bt152.1 bt156.1 true)) else (scarablaw02_WordTurns.j0 k a0 bt148.1 bt152.1 bt156.1 true)) else (scarablaw02_WordTurns.j0 k a0 bt148.1 bt152.1 bt156.1 true)) else (scarablaw02_WordTurns.j0 k a0 bt148.1 bt152.1 bt156.1 true)) else (scarablaw02_WordTurns.j0 k a0 bt148.1 bt152.1 bt156.1 true)) else (scarablaw02_WordTurns.j0 k a0 bt148.1 bt152.1 bt156.1 true))))))))) else (some false)) = some r := H
  have A3 := Aside0.mk A30
  clear A30
  by_cases c4 : t145 = true
  · subst c4
    have H1 : ((scarablaw02_did.f k 1 a1 0).bind fun bt146 => ((scarablaw02_did.f k 28 a0 a1).bind fun bt148 => ((scarablaw02_did.f k 28 bt148.1 bt146.1).bind fun bt150 => ((scarablaw02_did.f k 7 a0 0).bind fun bt152 => ((scarablaw02_did.f k 7 bt152.1 0).bind fun bt154 => ((scarablaw02_did.f k 2 a0 0).bind fun bt156 => ((scarablaw02_did.f k 2 bt156.1 0).bind fun bt158 => (if bt146.2 = true then (if bt148.2 = true then (if bt150.2 = true then (if bt152.2 = true then (if bt154.2 = true then (if bt156.2 = true then (if bt158.2 = true then (if bt150.1 = a0 then (if bt154.1 = a0 then (scarablaw02_WordTurns.j0 k a0 bt148.1 bt152.1 bt156.1 (bt158.1 != a0)) else (scarablaw02_WordTurns.j0 k a0 bt148.1 bt152.1 bt156.1 true)) else (scarablaw02_WordTurns.j0 k a0 bt148.1 bt152.1 bt156.1 true)) else (scarablaw02_WordTurns.j0 k a0 bt148.1 bt152.1 bt156.1 true)) else (scarablaw02_WordTurns.j0 k a0 bt148.1 bt152.1 bt156.1 true)) else (scarablaw02_WordTurns.j0 k a0 bt148.1 bt152.1 bt156.1 true)) else (scarablaw02_WordTurns.j0 k a0 bt148.1 bt152.1 bt156.1 true)) else (scarablaw02_WordTurns.j0 k a0 bt148.1 bt152.1 bt156.1 true)) else (scarablaw02_WordTurns.j0 k a0 bt148.1 bt152.1 bt156.1 true)) else (scarablaw02_WordTurns.j0 k a0 bt148.1 bt152.1 bt156.1 true))))))))) = some r := by rw [if_pos rfl] at H; exact H
    clear H
    have H := H1
    clear H1
    replace H := Option.bind_eq_some_iff.mp H
    obtain ⟨⟨t146, t147⟩, A50, H⟩ := H
    replace H : ((scarablaw02_did.f k 28 a0 a1).bind fun bt148 => ((scarablaw02_did.f k 28 bt148.1 t146).bind fun bt150 => ((scarablaw02_did.f k 7 a0 0).bind fun bt152 => ((scarablaw02_did.f k 7 bt152.1 0).bind fun bt154 => ((scarablaw02_did.f k 2 a0 0).bind fun bt156 => ((scarablaw02_did.f k 2 bt156.1 0).bind fun bt158 => (if t147 = true then (if bt148.2 = true then (if bt150.2 = true then (if bt152.2 = true then (if bt154.2 = true then (if bt156.2 = true then (if bt158.2 = true then (if bt150.1 = a0 then (if bt154.1 = a0 then (scarablaw02_WordTurns.j0 k a0 bt148.1 bt152.1 bt156.1 (bt158.1 != a0)) else (scarablaw02_WordTurns.j0 k a0 bt148.1 bt152.1 bt156.1 true)) else (scarablaw02_WordTurns.j0 k a0 bt148.1 bt152.1 bt156.1 true)) else (scarablaw02_WordTurns.j0 k a0 bt148.1 bt152.1 bt156.1 true)) else (scarablaw02_WordTurns.j0 k a0 bt148.1 bt152.1 bt156.1 true)) else (scarablaw02_WordTurns.j0 k a0 bt148.1 bt152.1 bt156.1 true)) else (scarablaw02_WordTurns.j0 k a0 bt148.1 bt152.1 bt156.1 true)) else (scarablaw02_WordTurns.j0 k a0 bt148.1 bt152.1 bt156.1 true)) else (scarablaw02_WordTurns.j0 k a0 bt148.1 bt152.1 bt156.1 true)) else (scarablaw02_WordTurns.j0 k a0 bt148.1 bt152.1 bt156.1 true)))))))) = some r := H
    have A5 := Aside0.mk A50
    clear A50
    replace H := Option.bind_eq_some_iff.mp H
    obtain ⟨⟨t148, t149⟩, A60, H⟩ := H
    replace H : ((scarablaw02_did.f k 28 t148 t146).bind fun bt150 => ((scarablaw02_did.f k 7 a0 0).bind fun bt152 => ((scarablaw02_did.f k 7 bt152.1 0).bind fun bt154 => ((scarablaw02_did.f k 2 a0 0).bind fun bt156 => ((scarablaw02_did.f k 2 bt156.1 0).bind fun bt158 => (if t147 = true then (if t149 = true then (if bt150.2 = true then (if bt152.2 = true then (if bt154.2 = true then (if bt156.2 = true then (if bt158.2 = true then (if bt150.1 = a0 then (if bt154.1 = a0 then (scarablaw02_WordTurns.j0 k a0 t148 bt152.1 bt156.1 (bt158.1 != a0)) else (scarablaw02_WordTurns.j0 k a0 t148 bt152.1 bt156.1 true)) else (scarablaw02_WordTurns.j0 k a0 t148 bt152.1 bt156.1 true)) else (scarablaw02_WordTurns.j0 k a0 t148 bt152.1 bt156.1 true)) else (scarablaw02_WordTurns.j0 k a0 t148 bt152.1 bt156.1 true)) else (scarablaw02_WordTurns.j0 k a0 t148 bt152.1 bt156.1 true)) else (scarablaw02_WordTurns.j0 k a0 t148 bt152.1 bt156.1 true)) else (scarablaw02_WordTurns.j0 k a0 t148 bt152.1 bt156.1 true)) else (scarablaw02_WordTurns.j0 k a0 t148 bt152.1 bt156.1 true)) else (scarablaw02_WordTurns.j0 k a0 t148 bt152.1 bt156.1 true))))))) = some r := H
    have A6 := Aside0.mk A60
    clear A60
    replace H := Option.bind_eq_some_iff.mp H
    obtain ⟨⟨t150, t151⟩, A70, H⟩ := H
    replace H : ((scarablaw02_did.f k 7 a0 0).bind fun bt152 => ((scarablaw02_did.f k 7 bt152.1 0).bind fun bt154 => ((scarablaw02_did.f k 2 a0 0).bind fun bt156 => ((scarablaw02_did.f k 2 bt156.1 0).bind fun bt158 => (if t147 = true then (if t149 = true then (if t151 = true then (if bt152.2 = true then (if bt154.2 = true then (if bt156.2 = true then (if bt158.2 = true then (if t150 = a0 then (if bt154.1 = a0 then (scarablaw02_WordTurns.j0 k a0 t148 bt152.1 bt156.1 (bt158.1 != a0)) else (scarablaw02_WordTurns.j0 k a0 t148 bt152.1 bt156.1 true)) else (scarablaw02_WordTurns.j0 k a0 t148 bt152.1 bt156.1 true)) else (scarablaw02_WordTurns.j0 k a0 t148 bt152.1 bt156.1 true)) else (scarablaw02_WordTurns.j0 k a0 t148 bt152.1 bt156.1 true)) else (scarablaw02_WordTurns.j0 k a0 t148 bt152.1 bt156.1 true)) else (scarablaw02_WordTurns.j0 k a0 t148 bt152.1 bt156.1 true)) else (scarablaw02_WordTurns.j0 k a0 t148 bt152.1 bt156.1 true)) else (scarablaw02_WordTurns.j0 k a0 t148 bt152.1 bt156.1 true)) else (scarablaw02_WordTurns.j0 k a0 t148 bt152.1 bt156.1 true)))))) = some r := H
    have A7 := Aside0.mk A70
    clear A70
    replace H := Option.bind_eq_some_iff.mp H
    obtain ⟨⟨t152, t153⟩, A80, H⟩ := H
    replace H : ((scarablaw02_did.f k 7 t152 0).bind fun bt154 => ((scarablaw02_did.f k 2 a0 0).bind fun bt156 => ((scarablaw02_did.f k 2 bt156.1 0).bind fun bt158 => (if t147 = true then (if t149 = true then (if t151 = true then (if t153 = true then (if bt154.2 = true then (if bt156.2 = true then (if bt158.2 = true then (if t150 = a0 then (if bt154.1 = a0 then (scarablaw02_WordTurns.j0 k a0 t148 t152 bt156.1 (bt158.1 != a0)) else (scarablaw02_WordTurns.j0 k a0 t148 t152 bt156.1 true)) else (scarablaw02_WordTurns.j0 k a0 t148 t152 bt156.1 true)) else (scarablaw02_WordTurns.j0 k a0 t148 t152 bt156.1 true)) else (scarablaw02_WordTurns.j0 k a0 t148 t152 bt156.1 true)) else (scarablaw02_WordTurns.j0 k a0 t148 t152 bt156.1 true)) else (scarablaw02_WordTurns.j0 k a0 t148 t152 bt156.1 true)) else (scarablaw02_WordTurns.j0 k a0 t148 t152 bt156.1 true)) else (scarablaw02_WordTurns.j0 k a0 t148 t152 bt156.1 true)) else (scarablaw02_WordTurns.j0 k a0 t148 t152 bt156.1 true))))) = some r := H
    have A8 := Aside0.mk A80
    clear A80
    replace H := Option.bind_eq_some_iff.mp H
    obtain ⟨⟨t154, t155⟩, A90, H⟩ := H
    replace H : ((scarablaw02_did.f k 2 a0 0).bind fun bt156 => ((scarablaw02_did.f k 2 bt156.1 0).bind fun bt158 => (if t147 = true then (if t149 = true then (if t151 = true then (if t153 = true then (if t155 = true then (if bt156.2 = true then (if bt158.2 = true then (if t150 = a0 then (if t154 = a0 then (scarablaw02_WordTurns.j0 k a0 t148 t152 bt156.1 (bt158.1 != a0)) else (scarablaw02_WordTurns.j0 k a0 t148 t152 bt156.1 true)) else (scarablaw02_WordTurns.j0 k a0 t148 t152 bt156.1 true)) else (scarablaw02_WordTurns.j0 k a0 t148 t152 bt156.1 true)) else (scarablaw02_WordTurns.j0 k a0 t148 t152 bt156.1 true)) else (scarablaw02_WordTurns.j0 k a0 t148 t152 bt156.1 true)) else (scarablaw02_WordTurns.j0 k a0 t148 t152 bt156.1 true)) else (scarablaw02_WordTurns.j0 k a0 t148 t152 bt156.1 true)) else (scarablaw02_WordTurns.j0 k a0 t148 t152 bt156.1 true)) else (scarablaw02_WordTurns.j0 k a0 t148 t152 bt156.1 true)))) = some r := H
    have A9 := Aside0.mk A90
    clear A90
    replace H := Option.bind_eq_some_iff.mp H
    obtain ⟨⟨t156, t157⟩, A100, H⟩ := H
    replace H : ((scarablaw02_did.f k 2 t156 0).bind fun bt158 => (if t147 = true then (if t149 = true then (if t151 = true then (if t153 = true then (if t155 = true then (if t157 = true then (if bt158.2 = true then (if t150 = a0 then (if t154 = a0 then (scarablaw02_WordTurns.j0 k a0 t148 t152 t156 (bt158.1 != a0)) else (scarablaw02_WordTurns.j0 k a0 t148 t152 t156 true)) else (scarablaw02_WordTurns.j0 k a0 t148 t152 t156 true)) else (scarablaw02_WordTurns.j0 k a0 t148 t152 t156 true)) else (scarablaw02_WordTurns.j0 k a0 t148 t152 t156 true)) else (scarablaw02_WordTurns.j0 k a0 t148 t152 t156 true)) else (scarablaw02_WordTurns.j0 k a0 t148 t152 t156 true)) else (scarablaw02_WordTurns.j0 k a0 t148 t152 t156 true)) else (scarablaw02_WordTurns.j0 k a0 t148 t152 t156 true)) else (scarablaw02_WordTurns.j0 k a0 t148 t152 t156 true))) = some r := H
    have A10 := Aside0.mk A100
    clear A100
    replace H := Option.bind_eq_some_iff.mp H
    obtain ⟨⟨t158, t159⟩, A110, H⟩ := H
    replace H : (if t147 = true then (if t149 = true then (if t151 = true then (if t153 = true then (if t155 = true then (if t157 = true then (if t159 = true then (if t150 = a0 then (if t154 = a0 then (scarablaw02_WordTurns.j0 k a0 t148 t152 t156 (t158 != a0)) else (scarablaw02_WordTurns.j0 k a0 t148 t152 t156 true)) else (scarablaw02_WordTurns.j0 k a0 t148 t152 t156 true)) else (scarablaw02_WordTurns.j0 k a0 t148 t152 t156 true)) else (scarablaw02_WordTurns.j0 k a0 t148 t152 t156 true)) else (scarablaw02_WordTurns.j0 k a0 t148 t152 t156 true)) else (scarablaw02_WordTurns.j0 k a0 t148 t152 t156 true)) else (scarablaw02_WordTurns.j0 k a0 t148 t152 t156 true)) else (scarablaw02_WordTurns.j0 k a0 t148 t152 t156 true)) else (scarablaw02_WordTurns.j0 k a0 t148 t152 t156 true)) = some r := H
    have A11 := Aside0.mk A110
    clear A110
    have HC12 := Aside0.mk H
    clear H
    go_enter Tryd.func6, Tryd.ntmps6
    go_upto_region 10 with (first | ((with_reducible refine gate_callee (f := 19) rfl ?_); refine goesL_ (some 29) rfl rfl Tryd.func19 (by kernel_rfl) rfl #[] rfl (by (try simp only [List.map_toArray, List.map_cons, List.map_nil]); first | done | rfl | (simp only [List.length_drop, List.length_take]; rfl)) ?_; (with_reducible refine (scarablaw02_speaks.calls k  true _ A3.out).mono ?_); rintro e w13 ⟨rfl, hb⟩; refine ⟨_, rfl, ?_⟩; have n0_ := Aside0.mk (below_step (by repeat (first | (with_reducible first | exact HB.out | apply below_alloc | apply pw_below_drewN | apply below_drew1) | exact HB.out)) hb); clear HB; have HB := n0_; clear n0_; (try haveI tb_ := Tab.TabOK.below (w := w) inferInstance HB.out); (try clear hb); (try clear hb2); (try clear hk); (try clear hi)) | ((with_reducible refine gate_callee (f := 20) rfl ?_); refine goesL_ (some 33) rfl rfl Tryd.func20 (by kernel_rfl) rfl #[.int .i64 1, .int .i64 a1, .int .i64 0] rfl (by (try simp only [List.map_toArray, List.map_cons, List.map_nil]); first | done | rfl | (simp only [List.length_drop, List.length_take]; rfl)) ?_; (with_reducible refine (scarablaw02_did.calls k 1 a1 0 t146 t147 _ A5.out).mono ?_); rintro e w14 ⟨rfl, hb⟩; refine ⟨_, rfl, ?_⟩; have n0_ := Aside0.mk (below_step (by repeat (first | (with_reducible first | exact HB.out | apply below_alloc | apply pw_below_drewN | apply below_drew1) | exact HB.out)) hb); clear HB; have HB := n0_; clear n0_; (try haveI tb_ := Tab.TabOK.below (w := w) inferInstance HB.out); (try clear hb); (try clear hb2); (try clear hk); (try clear hi)) | ((with_reducible refine gate_callee (f := 20) rfl ?_); refine goesL_ (some 39) rfl rfl Tryd.func20 (by kernel_rfl) rfl #[.int .i64 28, .int .i64 a0, .int .i64 a1] rfl (by (try simp only [List.map_toArray, List.map_cons, List.map_nil]); first | done | rfl | (simp only [List.length_drop, List.length_take]; rfl)) ?_; (with_reducible refine (scarablaw02_did.calls k 28 a0 a1 t148 t149 _ A6.out).mono ?_); rintro e w15 ⟨rfl, hb⟩; refine ⟨_, rfl, ?_⟩; have n0_ := Aside0.mk (below_step (by repeat (first | (with_reducible first | exact HB.out | apply below_alloc | apply pw_below_drewN | apply below_drew1) | exact HB.out)) hb); clear HB; have HB := n0_; clear n0_; (try haveI tb_ := Tab.TabOK.below (w := w) inferInstance HB.out); (try clear hb); (try clear hb2); (try clear hk); (try clear hi)) | ((with_reducible refine gate_callee (f := 20) rfl ?_); refine goesL_ (some 45) rfl rfl Tryd.func20 (by kernel_rfl) rfl #[.int .i64 28, .int .i64 t148, .int .i64 t146] rfl (by (try simp only [List.map_toArray, List.map_cons, List.map_nil]); first | done | rfl | (simp only [List.length_drop, List.length_take]; rfl)) ?_; (with_reducible refine (scarablaw02_did.calls k 28 t148 t146 t150 t151 _ A7.out).mono ?_); rintro e w16 ⟨rfl, hb⟩; refine ⟨_, rfl, ?_⟩; have n0_ := Aside0.mk (below_step (by repeat (first | (with_reducible first | exact HB.out | apply below_alloc | apply pw_below_drewN | apply below_drew1) | exact HB.out)) hb); clear HB; have HB := n0_; clear n0_; (try haveI tb_ := Tab.TabOK.below (w := w) inferInstance HB.out); (try clear hb); (try clear hb2); (try clear hk); (try clear hi)) | ((with_reducible refine gate_callee (f := 20) rfl ?_); refine goesL_ (some 50) rfl rfl Tryd.func20 (by kernel_rfl) rfl #[.int .i64 7, .int .i64 a0, .int .i64 0] rfl (by (try simp only [List.map_toArray, List.map_cons, List.map_nil]); first | done | rfl | (simp only [List.length_drop, List.length_take]; rfl)) ?_; (with_reducible refine (scarablaw02_did.calls k 7 a0 0 t152 t153 _ A8.out).mono ?_); rintro e w17 ⟨rfl, hb⟩; refine ⟨_, rfl, ?_⟩; have n0_ := Aside0.mk (below_step (by repeat (first | (with_reducible first | exact HB.out | apply below_alloc | apply pw_below_drewN | apply below_drew1) | exact HB.out)) hb); clear HB; have HB := n0_; clear n0_; (try haveI tb_ := Tab.TabOK.below (w := w) inferInstance HB.out); (try clear hb); (try clear hb2); (try clear hk); (try clear hi)) | ((with_reducible refine gate_callee (f := 20) rfl ?_); refine goesL_ (some 55) rfl rfl Tryd.func20 (by kernel_rfl) rfl #[.int .i64 7, .int .i64 t152, .int .i64 0] rfl (by (try simp only [List.map_toArray, List.map_cons, List.map_nil]); first | done | rfl | (simp only [List.length_drop, List.length_take]; rfl)) ?_; (with_reducible refine (scarablaw02_did.calls k 7 t152 0 t154 t155 _ A9.out).mono ?_); rintro e w18 ⟨rfl, hb⟩; refine ⟨_, rfl, ?_⟩; have n0_ := Aside0.mk (below_step (by repeat (first | (with_reducible first | exact HB.out | apply below_alloc | apply pw_below_drewN | apply below_drew1) | exact HB.out)) hb); clear HB; have HB := n0_; clear n0_; (try haveI tb_ := Tab.TabOK.below (w := w) inferInstance HB.out); (try clear hb); (try clear hb2); (try clear hk); (try clear hi)) | ((with_reducible refine gate_callee (f := 20) rfl ?_); refine goesL_ (some 60) rfl rfl Tryd.func20 (by kernel_rfl) rfl #[.int .i64 2, .int .i64 a0, .int .i64 0] rfl (by (try simp only [List.map_toArray, List.map_cons, List.map_nil]); first | done | rfl | (simp only [List.length_drop, List.length_take]; rfl)) ?_; (with_reducible refine (scarablaw02_did.calls k 2 a0 0 t156 t157 _ A10.out).mono ?_); rintro e w19 ⟨rfl, hb⟩; refine ⟨_, rfl, ?_⟩; have n0_ := Aside0.mk (below_step (by repeat (first | (with_reducible first | exact HB.out | apply below_alloc | apply pw_below_drewN | apply below_drew1) | exact HB.out)) hb); clear HB; have HB := n0_; clear n0_; (try haveI tb_ := Tab.TabOK.below (w := w) inferInstance HB.out); (try clear hb); (try clear hb2); (try clear hk); (try clear hi)) | ((with_reducible refine gate_callee (f := 20) rfl ?_); refine goesL_ (some 65) rfl rfl Tryd.func20 (by kernel_rfl) rfl #[.int .i64 2, .int .i64 t156, .int .i64 0] rfl (by (try simp only [List.map_toArray, List.map_cons, List.map_nil]); first | done | rfl | (simp only [List.length_drop, List.length_take]; rfl)) ?_; (with_reducible refine (scarablaw02_did.calls k 2 t156 0 t158 t159 _ A11.out).mono ?_); rintro e w20 ⟨rfl, hb⟩; refine ⟨_, rfl, ?_⟩; have n0_ := Aside0.mk (below_step (by repeat (first | (with_reducible first | exact HB.out | apply below_alloc | apply pw_below_drewN | apply below_drew1) | exact HB.out)) hb); clear HB; have HB := n0_; clear n0_; (try haveI tb_ := Tab.TabOK.below (w := w) inferInstance HB.out); (try clear hb); (try clear hb2); (try clear hk); (try clear hi)))
    (try simp only [Act.put, List.setIfInBounds_toArray, List.set_cons_zero, List.set_cons_succ])
    go_cut [108] (fun v108 wc => ∃ (kq : Nat) (x108_11 : Bool), v108 = .bool x108_11 ∧ Aside0 (scarablaw02_WordTurns.j0 kq a0 t148 t152 t156 x108_11 = some r) ∧ Aside0 (kq ≤ k) ∧ Aside0 (Below w.heap.size w wc))
    case first =>
      have H := HC12.out
      clear HC12
      by_cases c21 : t147 = true
      · subst c21
        have H1 : (if t149 = true then (if t151 = true then (if t153 = true then (if t155 = true then (if t157 = true then (if t159 = true then (if t150 = a0 then (if t154 = a0 then (scarablaw02_WordTurns.j0 k a0 t148 t152 t156 (t158 != a0)) else (scarablaw02_WordTurns.j0 k a0 t148 t152 t156 true)) else (scarablaw02_WordTurns.j0 k a0 t148 t152 t156 true)) else (scarablaw02_WordTurns.j0 k a0 t148 t152 t156 true)) else (scarablaw02_WordTurns.j0 k a0 t148 t152 t156 true)) else (scarablaw02_WordTurns.j0 k a0 t148 t152 t156 true)) else (scarablaw02_WordTurns.j0 k a0 t148 t152 t156 true)) else (scarablaw02_WordTurns.j0 k a0 t148 t152 t156 true)) else (scarablaw02_WordTurns.j0 k a0 t148 t152 t156 true)) = some r := by rw [if_pos rfl] at H; exact H
        clear H
        have H := H1
        clear H1
        by_cases c22 : t149 = true
        · subst c22
          have H1 : (if t151 = true then (if t153 = true then (if t155 = true then (if t157 = true then (if t159 = true then (if t150 = a0 then (if t154 = a0 then (scarablaw02_WordTurns.j0 k a0 t148 t152 t156 (t158 != a0)) else (scarablaw02_WordTurns.j0 k a0 t148 t152 t156 true)) else (scarablaw02_WordTurns.j0 k a0 t148 t152 t156 true)) else (scarablaw02_WordTurns.j0 k a0 t148 t152 t156 true)) else (scarablaw02_WordTurns.j0 k a0 t148 t152 t156 true)) else (scarablaw02_WordTurns.j0 k a0 t148 t152 t156 true)) else (scarablaw02_WordTurns.j0 k a0 t148 t152 t156 true)) else (scarablaw02_WordTurns.j0 k a0 t148 t152 t156 true)) = some r := by rw [if_pos rfl] at H; exact H
          clear H
          have H := H1
          clear H1
          by_cases c23 : t151 = true
          · subst c23
            have H1 : (if t153 = true then (if t155 = true then (if t157 = true then (if t159 = true then (if t150 = a0 then (if t154 = a0 then (scarablaw02_WordTurns.j0 k a0 t148 t152 t156 (t158 != a0)) else (scarablaw02_WordTurns.j0 k a0 t148 t152 t156 true)) else (scarablaw02_WordTurns.j0 k a0 t148 t152 t156 true)) else (scarablaw02_WordTurns.j0 k a0 t148 t152 t156 true)) else (scarablaw02_WordTurns.j0 k a0 t148 t152 t156 true)) else (scarablaw02_WordTurns.j0 k a0 t148 t152 t156 true)) else (scarablaw02_WordTurns.j0 k a0 t148 t152 t156 true)) = some r := by rw [if_pos rfl] at H; exact H
            clear H
            have H := H1
            clear H1
            by_cases c24 : t153 = true
            · subst c24
              have H1 : (if t155 = true then (if t157 = true then (if t159 = true then (if t150 = a0 then (if t154 = a0 then (scarablaw02_WordTurns.j0 k a0 t148 t152 t156 (t158 != a0)) else (scarablaw02_WordTurns.j0 k a0 t148 t152 t156 true)) else (scarablaw02_WordTurns.j0 k a0 t148 t152 t156 true)) else (scarablaw02_WordTurns.j0 k a0 t148 t152 t156 true)) else (scarablaw02_WordTurns.j0 k a0 t148 t152 t156 true)) else (scarablaw02_WordTurns.j0 k a0 t148 t152 t156 true)) = some r := by rw [if_pos rfl] at H; exact H
              clear H
              have H := H1
              clear H1
              by_cases c25 : t155 = true
              · subst c25
                have H1 : (if t157 = true then (if t159 = true then (if t150 = a0 then (if t154 = a0 then (scarablaw02_WordTurns.j0 k a0 t148 t152 t156 (t158 != a0)) else (scarablaw02_WordTurns.j0 k a0 t148 t152 t156 true)) else (scarablaw02_WordTurns.j0 k a0 t148 t152 t156 true)) else (scarablaw02_WordTurns.j0 k a0 t148 t152 t156 true)) else (scarablaw02_WordTurns.j0 k a0 t148 t152 t156 true)) = some r := by rw [if_pos rfl] at H; exact H
                clear H
                have H := H1
                clear H1
                by_cases c26 : t157 = true
                · subst c26
                  have H1 : (if t159 = true then (if t150 = a0 then (if t154 = a0 then (scarablaw02_WordTurns.j0 k a0 t148 t152 t156 (t158 != a0)) else (scarablaw02_WordTurns.j0 k a0 t148 t152 t156 true)) else (scarablaw02_WordTurns.j0 k a0 t148 t152 t156 true)) else (scarablaw02_WordTurns.j0 k a0 t148 t152 t156 true)) = some r := by rw [if_pos rfl] at H; exact H
                  clear H
                  have H := H1
                  clear H1
                  by_cases c27 : t159 = true
                  · subst c27
                    have H1 : (if t150 = a0 then (if t154 = a0 then (scarablaw02_WordTurns.j0 k a0 t148 t152 t156 (t158 != a0)) else (scarablaw02_WordTurns.j0 k a0 t148 t152 t156 true)) else (scarablaw02_WordTurns.j0 k a0 t148 t152 t156 true)) = some r := by rw [if_pos rfl] at H; exact H
                    clear H
                    have H := H1
                    clear H1
                    by_cases c28 : t150 = a0
                    · rw [if_pos c28] at H
                      have c28b0 : (t150 == a0) = true := beq_iff_eq.mpr c28
                      have c28b1 : (t150 != a0) = false := bne_eq_false_iff_eq.mpr c28
                      clear c28
                      (first | rw [c28b0] | (simp only [i64_w, i32_w]; rw [c28b0]) | skip)
                      by_cases c29 : t154 = a0
                      · rw [if_pos c29] at H
                        have c29b0 : (t154 == a0) = true := beq_iff_eq.mpr c29
                        have c29b1 : (t154 != a0) = false := bne_eq_false_iff_eq.mpr c29
                        clear c29
                        have H' := Aside0.mk H
                        clear H
                        go_wp2
                        go_meet
                        case rel => exact ⟨_, ((t158 != a0)), (by first | rfl | (simp; done) | (simp [*]; done)), H', ⟨by first | omega | exact Nat.le_refl _⟩, ⟨by repeat (first | (with_reducible first | exact HB.out | apply below_alloc | apply pw_below_drewN | apply below_drew1) | exact HB.out)⟩⟩
                      · rw [if_neg c29] at H
                        have c29b0 : (t154 == a0) = false := beq_eq_false_iff_ne.mpr c29
                        have c29b1 : (t154 != a0) = true := bne_iff_ne.mpr c29
                        have H' := Aside0.mk H
                        clear H
                        go_wp2
                        go_meet
                        case rel => exact ⟨_, (true), (by first | rfl | (simp; done) | (simp [*]; done)), H', ⟨by first | omega | exact Nat.le_refl _⟩, ⟨by repeat (first | (with_reducible first | exact HB.out | apply below_alloc | apply pw_below_drewN | apply below_drew1) | exact HB.out)⟩⟩
                    · rw [if_neg c28] at H
                      have c28b0 : (t150 == a0) = false := beq_eq_false_iff_ne.mpr c28
                      have c28b1 : (t150 != a0) = true := bne_iff_ne.mpr c28
                      (first | rw [c28b0] | (simp only [i64_w, i32_w]; rw [c28b0]) | skip)
                      have H' := Aside0.mk H
                      clear H
                      go_wp2
                      go_meet
                      case rel => exact ⟨_, (true), (by first | rfl | (simp; done) | (simp [*]; done)), H', ⟨by first | omega | exact Nat.le_refl _⟩, ⟨by repeat (first | (with_reducible first | exact HB.out | apply below_alloc | apply pw_below_drewN | apply below_drew1) | exact HB.out)⟩⟩
                  · replace c27 := Bool.eq_false_iff.mpr c27
                    subst c27
                    have H1 : (scarablaw02_WordTurns.j0 k a0 t148 t152 t156 true) = some r := by rw [if_neg (show ¬ (false = true) by decide)] at H; exact H
                    clear H
                    have H := H1
                    clear H1
                    have H' := Aside0.mk H
                    clear H
                    go_wp2
                    go_meet
                    case rel => exact ⟨_, (true), (by first | rfl | (simp; done) | (simp [*]; done)), H', ⟨by first | omega | exact Nat.le_refl _⟩, ⟨by repeat (first | (with_reducible first | exact HB.out | apply below_alloc | apply pw_below_drewN | apply below_drew1) | exact HB.out)⟩⟩
                · replace c26 := Bool.eq_false_iff.mpr c26
                  subst c26
                  have H1 : (scarablaw02_WordTurns.j0 k a0 t148 t152 t156 true) = some r := by rw [if_neg (show ¬ (false = true) by decide)] at H; exact H
                  clear H
                  have H := H1
                  clear H1
                  have H' := Aside0.mk H
                  clear H
                  go_wp2
                  go_meet
                  case rel => exact ⟨_, (true), (by first | rfl | (simp; done) | (simp [*]; done)), H', ⟨by first | omega | exact Nat.le_refl _⟩, ⟨by repeat (first | (with_reducible first | exact HB.out | apply below_alloc | apply pw_below_drewN | apply below_drew1) | exact HB.out)⟩⟩
              · replace c25 := Bool.eq_false_iff.mpr c25
                subst c25
                have H1 : (scarablaw02_WordTurns.j0 k a0 t148 t152 t156 true) = some r := by rw [if_neg (show ¬ (false = true) by decide)] at H; exact H
                clear H
                have H := H1
                clear H1
                have H' := Aside0.mk H
                clear H
                go_wp2
                go_meet
                case rel => exact ⟨_, (true), (by first | rfl | (simp; done) | (simp [*]; done)), H', ⟨by first | omega | exact Nat.le_refl _⟩, ⟨by repeat (first | (with_reducible first | exact HB.out | apply below_alloc | apply pw_below_drewN | apply below_drew1) | exact HB.out)⟩⟩
            · replace c24 := Bool.eq_false_iff.mpr c24
              subst c24
              have H1 : (scarablaw02_WordTurns.j0 k a0 t148 t152 t156 true) = some r := by rw [if_neg (show ¬ (false = true) by decide)] at H; exact H
              clear H
              have H := H1
              clear H1
              have H' := Aside0.mk H
              clear H
              go_wp2
              go_meet
              case rel => exact ⟨_, (true), (by first | rfl | (simp; done) | (simp [*]; done)), H', ⟨by first | omega | exact Nat.le_refl _⟩, ⟨by repeat (first | (with_reducible first | exact HB.out | apply below_alloc | apply pw_below_drewN | apply below_drew1) | exact HB.out)⟩⟩
          · replace c23 := Bool.eq_false_iff.mpr c23
            subst c23
            have H1 : (scarablaw02_WordTurns.j0 k a0 t148 t152 t156 true) = some r := by rw [if_neg (show ¬ (false = true) by decide)] at H; exact H
            clear H
            have H := H1
            clear H1
            have H' := Aside0.mk H
            clear H
            go_wp2
            go_meet
            case rel => exact ⟨_, (true), (by first | rfl | (simp; done) | (simp [*]; done)), H', ⟨by first | omega | exact Nat.le_refl _⟩, ⟨by repeat (first | (with_reducible first | exact HB.out | apply below_alloc | apply pw_below_drewN | apply below_drew1) | exact HB.out)⟩⟩
        · replace c22 := Bool.eq_false_iff.mpr c22
          subst c22
          have H1 : (scarablaw02_WordTurns.j0 k a0 t148 t152 t156 true) = some r := by rw [if_neg (show ¬ (false = true) by decide)] at H; exact H
          clear H
          have H := H1
          clear H1
          have H' := Aside0.mk H
          clear H
          go_wp2
          go_meet
          case rel => exact ⟨_, (true), (by first | rfl | (simp; done) | (simp [*]; done)), H', ⟨by first | omega | exact Nat.le_refl _⟩, ⟨by repeat (first | (with_reducible first | exact HB.out | apply below_alloc | apply pw_below_drewN | apply below_drew1) | exact HB.out)⟩⟩
      · replace c21 := Bool.eq_false_iff.mpr c21
        subst c21
        have H1 : (scarablaw02_WordTurns.j0 k a0 t148 t152 t156 true) = some r := by rw [if_neg (show ¬ (false = true) by decide)] at H; exact H
        clear H
        have H := H1
        clear H1
        have H' := Aside0.mk H
        clear H
        go_wp2
        go_meet
        case rel => exact ⟨_, (true), (by first | rfl | (simp; done) | (simp [*]; done)), H', ⟨by first | omega | exact Nat.le_refl _⟩, ⟨by repeat (first | (with_reducible first | exact HB.out | apply below_alloc | apply pw_below_drewN | apply below_drew1) | exact HB.out)⟩⟩
    case rest =>
      clear HC12
      try clear c1
      try clear c2
      try clear p2
      try clear c4
      try clear c6
      try clear c19
      try clear c20
      try clear c21
      try clear c22
      try clear c23
      try clear c24
      try clear c25
      try clear c26
      try clear c27
      try clear c28
      try clear c28b0
      try clear c28b1
      try clear c29
      try clear c29b0
      try clear c29b1
      obtain ⟨kq, x108_11, rfl, HA, HJ11, HB⟩ := hcut
      haveI tb_ := Tab.TabOK.below (w := w) inferInstance HB.out
      cases kq with
      | zero => exact absurd HA.out (by simp [scarablaw02_WordTurns.j0])
      | succ kj11 =>
        have H := HA.out
        clear HA
        simp only [scarablaw02_WordTurns.j0] at H
        by_cases c30 : x108_11 = true
        · subst c30
          have H1 : (some false) = some r := by rw [if_pos rfl] at H; exact H
          clear H
          have H := H1
          clear H1
          obtain rfl := Option.some.inj H
          go_wp2
          go_ret
          exact ⟨by first | rfl | (simp [errW_none, errW_some] <;> rfl) | (simp [*, errW_none, errW_some] <;> rfl), by repeat (first | (with_reducible first | exact HB.out | apply below_alloc | apply pw_below_drewN | apply below_drew1) | exact HB.out)⟩
        · replace c30 := Bool.eq_false_iff.mpr c30
          subst c30
          have H1 : ((scarablaw02_did.f kj11 4 a0 0).bind fun bt160 => ((scarablaw02_did.f kj11 4 t156 0).bind fun bt162 => ((scarablaw02_did.f kj11 4 t148 0).bind fun bt164 => ((scarablaw02_did.f kj11 5 a0 0).bind fun bt166 => ((scarablaw02_did.f kj11 6 t152 0).bind fun bt168 => (if bt160.2 = true then (if bt162.2 = true then (if bt164.2 = true then (if bt166.2 = true then (if bt168.2 = true then (if (wrap64 (bt160.1 + bt162.1)) = 64 then (if bt164.1 = bt160.1 then (some (bt166.1 == bt168.1)) else (some false)) else (some false)) else (some false)) else (some false)) else (some false)) else (some false)) else (some false))))))) = some r := by rw [if_neg (show ¬ (false = true) by decide)] at H; exact H
          clear H
          have H := H1
          clear H1
          replace H := Option.bind_eq_some_iff.mp H
          obtain ⟨⟨t160, t161⟩, A310, H⟩ := H
          replace H : ((scarablaw02_did.f kj11 4 t156 0).bind fun bt162 => ((scarablaw02_did.f kj11 4 t148 0).bind fun bt164 => ((scarablaw02_did.f kj11 5 a0 0).bind fun bt166 => ((scarablaw02_did.f kj11 6 t152 0).bind fun bt168 => (if t161 = true then (if bt162.2 = true then (if bt164.2 = true then (if bt166.2 = true then (if bt168.2 = true then (if (wrap64 (t160 + bt162.1)) = 64 then (if bt164.1 = t160 then (some (bt166.1 == bt168.1)) else (some false)) else (some false)) else (some false)) else (some false)) else (some false)) else (some false)) else (some false)))))) = some r := H
          have A31 := Aside0.mk A310
          clear A310
          replace H := Option.bind_eq_some_iff.mp H
          obtain ⟨⟨t162, t163⟩, A320, H⟩ := H
          replace H : ((scarablaw02_did.f kj11 4 t148 0).bind fun bt164 => ((scarablaw02_did.f kj11 5 a0 0).bind fun bt166 => ((scarablaw02_did.f kj11 6 t152 0).bind fun bt168 => (if t161 = true then (if t163 = true then (if bt164.2 = true then (if bt166.2 = true then (if bt168.2 = true then (if (wrap64 (t160 + t162)) = 64 then (if bt164.1 = t160 then (some (bt166.1 == bt168.1)) else (some false)) else (some false)) else (some false)) else (some false)) else (some false)) else (some false)) else (some false))))) = some r := H
          have A32 := Aside0.mk A320
          clear A320
          replace H := Option.bind_eq_some_iff.mp H
          obtain ⟨⟨t164, t165⟩, A330, H⟩ := H
          replace H : ((scarablaw02_did.f kj11 5 a0 0).bind fun bt166 => ((scarablaw02_did.f kj11 6 t152 0).bind fun bt168 => (if t161 = true then (if t163 = true then (if t165 = true then (if bt166.2 = true then (if bt168.2 = true then (if (wrap64 (t160 + t162)) = 64 then (if t164 = t160 then (some (bt166.1 == bt168.1)) else (some false)) else (some false)) else (some false)) else (some false)) else (some false)) else (some false)) else (some false)))) = some r := H
          have A33 := Aside0.mk A330
          clear A330
          replace H := Option.bind_eq_some_iff.mp H
          obtain ⟨⟨t166, t167⟩, A340, H⟩ := H
          replace H : ((scarablaw02_did.f kj11 6 t152 0).bind fun bt168 => (if t161 = true then (if t163 = true then (if t165 = true then (if t167 = true then (if bt168.2 = true then (if (wrap64 (t160 + t162)) = 64 then (if t164 = t160 then (some (t166 == bt168.1)) else (some false)) else (some false)) else (some false)) else (some false)) else (some false)) else (some false)) else (some false))) = some r := H
          have A34 := Aside0.mk A340
          clear A340
          replace H := Option.bind_eq_some_iff.mp H
          obtain ⟨⟨t168, t169⟩, A350, H⟩ := H
          replace H : (if t161 = true then (if t163 = true then (if t165 = true then (if t167 = true then (if t169 = true then (if (wrap64 (t160 + t162)) = 64 then (if t164 = t160 then (some (t166 == t168)) else (some false)) else (some false)) else (some false)) else (some false)) else (some false)) else (some false)) else (some false)) = some r := H
          have A35 := Aside0.mk A350
          clear A350
          by_cases c36 : t161 = true
          · subst c36
            have H1 : (if t163 = true then (if t165 = true then (if t167 = true then (if t169 = true then (if (wrap64 (t160 + t162)) = 64 then (if t164 = t160 then (some (t166 == t168)) else (some false)) else (some false)) else (some false)) else (some false)) else (some false)) else (some false)) = some r := by rw [if_pos rfl] at H; exact H
            clear H
            have H := H1
            clear H1
            by_cases c37 : t163 = true
            · subst c37
              have H1 : (if t165 = true then (if t167 = true then (if t169 = true then (if (wrap64 (t160 + t162)) = 64 then (if t164 = t160 then (some (t166 == t168)) else (some false)) else (some false)) else (some false)) else (some false)) else (some false)) = some r := by rw [if_pos rfl] at H; exact H
              clear H
              have H := H1
              clear H1
              by_cases c38 : t165 = true
              · subst c38
                have H1 : (if t167 = true then (if t169 = true then (if (wrap64 (t160 + t162)) = 64 then (if t164 = t160 then (some (t166 == t168)) else (some false)) else (some false)) else (some false)) else (some false)) = some r := by rw [if_pos rfl] at H; exact H
                clear H
                have H := H1
                clear H1
                by_cases c39 : t167 = true
                · subst c39
                  have H1 : (if t169 = true then (if (wrap64 (t160 + t162)) = 64 then (if t164 = t160 then (some (t166 == t168)) else (some false)) else (some false)) else (some false)) = some r := by rw [if_pos rfl] at H; exact H
                  clear H
                  have H := H1
                  clear H1
                  by_cases c40 : t169 = true
                  · subst c40
                    have H1 : (if (wrap64 (t160 + t162)) = 64 then (if t164 = t160 then (some (t166 == t168)) else (some false)) else (some false)) = some r := by rw [if_pos rfl] at H; exact H
                    clear H
                    have H := H1
                    clear H1
                    by_cases c41 : (wrap64 (t160 + t162)) = 64
                    · rw [if_pos c41] at H
                      have c41b0 : ((wrap64 (t160 + t162)) == 64) = true := beq_iff_eq.mpr c41
                      have c41b1 : ((wrap64 (t160 + t162)) != 64) = false := bne_eq_false_iff_eq.mpr c41
                      clear c41
                      by_cases c42 : t164 = t160
                      · rw [if_pos c42] at H
                        have c42b0 : (t164 == t160) = true := beq_iff_eq.mpr c42
                        have c42b1 : (t164 != t160) = false := bne_eq_false_iff_eq.mpr c42
                        clear c42
                        obtain rfl := Option.some.inj H
                        go_wp2_with (first | ((with_reducible refine gate_callee (f := 20) rfl ?_); refine goesL_ (some 111) rfl rfl Tryd.func20 (by kernel_rfl) rfl #[.int .i64 4, .int .i64 a0, .int .i64 0] rfl (by (try simp only [List.map_toArray, List.map_cons, List.map_nil]); first | done | rfl | (simp only [List.length_drop, List.length_take]; rfl)) ?_; (with_reducible refine (scarablaw02_did.calls kj11 4 a0 0 t160 true _ A31.out).mono ?_); rintro e w43 ⟨rfl, hb⟩; refine ⟨_, rfl, ?_⟩; have n0_ := Aside0.mk (below_step (by repeat (first | (with_reducible first | exact HB.out | apply below_alloc | apply pw_below_drewN | apply below_drew1) | exact HB.out)) hb); clear HB; have HB := n0_; clear n0_; (try haveI tb_ := Tab.TabOK.below (w := w) inferInstance HB.out); (try clear hb); (try clear hb2); (try clear hk); (try clear hi)) | ((with_reducible refine gate_callee (f := 20) rfl ?_); refine goesL_ (some 116) rfl rfl Tryd.func20 (by kernel_rfl) rfl #[.int .i64 4, .int .i64 t156, .int .i64 0] rfl (by (try simp only [List.map_toArray, List.map_cons, List.map_nil]); first | done | rfl | (simp only [List.length_drop, List.length_take]; rfl)) ?_; (with_reducible refine (scarablaw02_did.calls kj11 4 t156 0 t162 true _ A32.out).mono ?_); rintro e w44 ⟨rfl, hb⟩; refine ⟨_, rfl, ?_⟩; have n0_ := Aside0.mk (below_step (by repeat (first | (with_reducible first | exact HB.out | apply below_alloc | apply pw_below_drewN | apply below_drew1) | exact HB.out)) hb); clear HB; have HB := n0_; clear n0_; (try haveI tb_ := Tab.TabOK.below (w := w) inferInstance HB.out); (try clear hb); (try clear hb2); (try clear hk); (try clear hi)) | ((with_reducible refine gate_callee (f := 20) rfl ?_); refine goesL_ (some 121) rfl rfl Tryd.func20 (by kernel_rfl) rfl #[.int .i64 4, .int .i64 t148, .int .i64 0] rfl (by (try simp only [List.map_toArray, List.map_cons, List.map_nil]); first | done | rfl | (simp only [List.length_drop, List.length_take]; rfl)) ?_; (with_reducible refine (scarablaw02_did.calls kj11 4 t148 0 t164 true _ A33.out).mono ?_); rintro e w45 ⟨rfl, hb⟩; refine ⟨_, rfl, ?_⟩; have n0_ := Aside0.mk (below_step (by repeat (first | (with_reducible first | exact HB.out | apply below_alloc | apply pw_below_drewN | apply below_drew1) | exact HB.out)) hb); clear HB; have HB := n0_; clear n0_; (try haveI tb_ := Tab.TabOK.below (w := w) inferInstance HB.out); (try clear hb); (try clear hb2); (try clear hk); (try clear hi)) | ((with_reducible refine gate_callee (f := 20) rfl ?_); refine goesL_ (some 126) rfl rfl Tryd.func20 (by kernel_rfl) rfl #[.int .i64 5, .int .i64 a0, .int .i64 0] rfl (by (try simp only [List.map_toArray, List.map_cons, List.map_nil]); first | done | rfl | (simp only [List.length_drop, List.length_take]; rfl)) ?_; (with_reducible refine (scarablaw02_did.calls kj11 5 a0 0 t166 true _ A34.out).mono ?_); rintro e w46 ⟨rfl, hb⟩; refine ⟨_, rfl, ?_⟩; have n0_ := Aside0.mk (below_step (by repeat (first | (with_reducible first | exact HB.out | apply below_alloc | apply pw_below_drewN | apply below_drew1) | exact HB.out)) hb); clear HB; have HB := n0_; clear n0_; (try haveI tb_ := Tab.TabOK.below (w := w) inferInstance HB.out); (try clear hb); (try clear hb2); (try clear hk); (try clear hi)) | ((with_reducible refine gate_callee (f := 20) rfl ?_); refine goesL_ (some 131) rfl rfl Tryd.func20 (by kernel_rfl) rfl #[.int .i64 6, .int .i64 t152, .int .i64 0] rfl (by (try simp only [List.map_toArray, List.map_cons, List.map_nil]); first | done | rfl | (simp only [List.length_drop, List.length_take]; rfl)) ?_; (with_reducible refine (scarablaw02_did.calls kj11 6 t152 0 t168 true _ A35.out).mono ?_); rintro e w47 ⟨rfl, hb⟩; refine ⟨_, rfl, ?_⟩; have n0_ := Aside0.mk (below_step (by repeat (first | (with_reducible first | exact HB.out | apply below_alloc | apply pw_below_drewN | apply below_drew1) | exact HB.out)) hb); clear HB; have HB := n0_; clear n0_; (try haveI tb_ := Tab.TabOK.below (w := w) inferInstance HB.out); (try clear hb); (try clear hb2); (try clear hk); (try clear hi)))
                        go_ret
                        exact ⟨by first | rfl | (simp [errW_none, errW_some] <;> rfl) | (simp [*, errW_none, errW_some] <;> rfl), by repeat (first | (with_reducible first | exact HB.out | apply below_alloc | apply pw_below_drewN | apply below_drew1) | exact HB.out)⟩
                      · rw [if_neg c42] at H
                        have c42b0 : (t164 == t160) = false := beq_eq_false_iff_ne.mpr c42
                        have c42b1 : (t164 != t160) = true := bne_iff_ne.mpr c42
                        obtain rfl := Option.some.inj H
                        go_wp2_with (first | ((with_reducible refine gate_callee (f := 20) rfl ?_); refine goesL_ (some 111) rfl rfl Tryd.func20 (by kernel_rfl) rfl #[.int .i64 4, .int .i64 a0, .int .i64 0] rfl (by (try simp only [List.map_toArray, List.map_cons, List.map_nil]); first | done | rfl | (simp only [List.length_drop, List.length_take]; rfl)) ?_; (with_reducible refine (scarablaw02_did.calls kj11 4 a0 0 t160 true _ A31.out).mono ?_); rintro e w48 ⟨rfl, hb⟩; refine ⟨_, rfl, ?_⟩; have n0_ := Aside0.mk (below_step (by repeat (first | (with_reducible first | exact HB.out | apply below_alloc | apply pw_below_drewN | apply below_drew1) | exact HB.out)) hb); clear HB; have HB := n0_; clear n0_; (try haveI tb_ := Tab.TabOK.below (w := w) inferInstance HB.out); (try clear hb); (try clear hb2); (try clear hk); (try clear hi)) | ((with_reducible refine gate_callee (f := 20) rfl ?_); refine goesL_ (some 116) rfl rfl Tryd.func20 (by kernel_rfl) rfl #[.int .i64 4, .int .i64 t156, .int .i64 0] rfl (by (try simp only [List.map_toArray, List.map_cons, List.map_nil]); first | done | rfl | (simp only [List.length_drop, List.length_take]; rfl)) ?_; (with_reducible refine (scarablaw02_did.calls kj11 4 t156 0 t162 true _ A32.out).mono ?_); rintro e w49 ⟨rfl, hb⟩; refine ⟨_, rfl, ?_⟩; have n0_ := Aside0.mk (below_step (by repeat (first | (with_reducible first | exact HB.out | apply below_alloc | apply pw_below_drewN | apply below_drew1) | exact HB.out)) hb); clear HB; have HB := n0_; clear n0_; (try haveI tb_ := Tab.TabOK.below (w := w) inferInstance HB.out); (try clear hb); (try clear hb2); (try clear hk); (try clear hi)) | ((with_reducible refine gate_callee (f := 20) rfl ?_); refine goesL_ (some 121) rfl rfl Tryd.func20 (by kernel_rfl) rfl #[.int .i64 4, .int .i64 t148, .int .i64 0] rfl (by (try simp only [List.map_toArray, List.map_cons, List.map_nil]); first | done | rfl | (simp only [List.length_drop, List.length_take]; rfl)) ?_; (with_reducible refine (scarablaw02_did.calls kj11 4 t148 0 t164 true _ A33.out).mono ?_); rintro e w50 ⟨rfl, hb⟩; refine ⟨_, rfl, ?_⟩; have n0_ := Aside0.mk (below_step (by repeat (first | (with_reducible first | exact HB.out | apply below_alloc | apply pw_below_drewN | apply below_drew1) | exact HB.out)) hb); clear HB; have HB := n0_; clear n0_; (try haveI tb_ := Tab.TabOK.below (w := w) inferInstance HB.out); (try clear hb); (try clear hb2); (try clear hk); (try clear hi)) | ((with_reducible refine gate_callee (f := 20) rfl ?_); refine goesL_ (some 126) rfl rfl Tryd.func20 (by kernel_rfl) rfl #[.int .i64 5, .int .i64 a0, .int .i64 0] rfl (by (try simp only [List.map_toArray, List.map_cons, List.map_nil]); first | done | rfl | (simp only [List.length_drop, List.length_take]; rfl)) ?_; (with_reducible refine (scarablaw02_did.calls kj11 5 a0 0 t166 true _ A34.out).mono ?_); rintro e w51 ⟨rfl, hb⟩; refine ⟨_, rfl, ?_⟩; have n0_ := Aside0.mk (below_step (by repeat (first | (with_reducible first | exact HB.out | apply below_alloc | apply pw_below_drewN | apply below_drew1) | exact HB.out)) hb); clear HB; have HB := n0_; clear n0_; (try haveI tb_ := Tab.TabOK.below (w := w) inferInstance HB.out); (try clear hb); (try clear hb2); (try clear hk); (try clear hi)) | ((with_reducible refine gate_callee (f := 20) rfl ?_); refine goesL_ (some 131) rfl rfl Tryd.func20 (by kernel_rfl) rfl #[.int .i64 6, .int .i64 t152, .int .i64 0] rfl (by (try simp only [List.map_toArray, List.map_cons, List.map_nil]); first | done | rfl | (simp only [List.length_drop, List.length_take]; rfl)) ?_; (with_reducible refine (scarablaw02_did.calls kj11 6 t152 0 t168 true _ A35.out).mono ?_); rintro e w52 ⟨rfl, hb⟩; refine ⟨_, rfl, ?_⟩; have n0_ := Aside0.mk (below_step (by repeat (first | (with_reducible first | exact HB.out | apply below_alloc | apply pw_below_drewN | apply below_drew1) | exact HB.out)) hb); clear HB; have HB := n0_; clear n0_; (try haveI tb_ := Tab.TabOK.below (w := w) inferInstance HB.out); (try clear hb); (try clear hb2); (try clear hk); (try clear hi)))
                        go_ret
                        exact ⟨by first | rfl | (simp [errW_none, errW_some] <;> rfl) | (simp [*, errW_none, errW_some] <;> rfl), by repeat (first | (with_reducible first | exact HB.out | apply below_alloc | apply pw_below_drewN | apply below_drew1) | exact HB.out)⟩
                    · rw [if_neg c41] at H
                      have c41b0 : ((wrap64 (t160 + t162)) == 64) = false := beq_eq_false_iff_ne.mpr c41
                      have c41b1 : ((wrap64 (t160 + t162)) != 64) = true := bne_iff_ne.mpr c41
                      obtain rfl := Option.some.inj H
                      go_wp2_with (first | ((with_reducible refine gate_callee (f := 20) rfl ?_); refine goesL_ (some 111) rfl rfl Tryd.func20 (by kernel_rfl) rfl #[.int .i64 4, .int .i64 a0, .int .i64 0] rfl (by (try simp only [List.map_toArray, List.map_cons, List.map_nil]); first | done | rfl | (simp only [List.length_drop, List.length_take]; rfl)) ?_; (with_reducible refine (scarablaw02_did.calls kj11 4 a0 0 t160 true _ A31.out).mono ?_); rintro e w53 ⟨rfl, hb⟩; refine ⟨_, rfl, ?_⟩; have n0_ := Aside0.mk (below_step (by repeat (first | (with_reducible first | exact HB.out | apply below_alloc | apply pw_below_drewN | apply below_drew1) | exact HB.out)) hb); clear HB; have HB := n0_; clear n0_; (try haveI tb_ := Tab.TabOK.below (w := w) inferInstance HB.out); (try clear hb); (try clear hb2); (try clear hk); (try clear hi)) | ((with_reducible refine gate_callee (f := 20) rfl ?_); refine goesL_ (some 116) rfl rfl Tryd.func20 (by kernel_rfl) rfl #[.int .i64 4, .int .i64 t156, .int .i64 0] rfl (by (try simp only [List.map_toArray, List.map_cons, List.map_nil]); first | done | rfl | (simp only [List.length_drop, List.length_take]; rfl)) ?_; (with_reducible refine (scarablaw02_did.calls kj11 4 t156 0 t162 true _ A32.out).mono ?_); rintro e w54 ⟨rfl, hb⟩; refine ⟨_, rfl, ?_⟩; have n0_ := Aside0.mk (below_step (by repeat (first | (with_reducible first | exact HB.out | apply below_alloc | apply pw_below_drewN | apply below_drew1) | exact HB.out)) hb); clear HB; have HB := n0_; clear n0_; (try haveI tb_ := Tab.TabOK.below (w := w) inferInstance HB.out); (try clear hb); (try clear hb2); (try clear hk); (try clear hi)) | ((with_reducible refine gate_callee (f := 20) rfl ?_); refine goesL_ (some 121) rfl rfl Tryd.func20 (by kernel_rfl) rfl #[.int .i64 4, .int .i64 t148, .int .i64 0] rfl (by (try simp only [List.map_toArray, List.map_cons, List.map_nil]); first | done | rfl | (simp only [List.length_drop, List.length_take]; rfl)) ?_; (with_reducible refine (scarablaw02_did.calls kj11 4 t148 0 t164 true _ A33.out).mono ?_); rintro e w55 ⟨rfl, hb⟩; refine ⟨_, rfl, ?_⟩; have n0_ := Aside0.mk (below_step (by repeat (first | (with_reducible first | exact HB.out | apply below_alloc | apply pw_below_drewN | apply below_drew1) | exact HB.out)) hb); clear HB; have HB := n0_; clear n0_; (try haveI tb_ := Tab.TabOK.below (w := w) inferInstance HB.out); (try clear hb); (try clear hb2); (try clear hk); (try clear hi)) | ((with_reducible refine gate_callee (f := 20) rfl ?_); refine goesL_ (some 126) rfl rfl Tryd.func20 (by kernel_rfl) rfl #[.int .i64 5, .int .i64 a0, .int .i64 0] rfl (by (try simp only [List.map_toArray, List.map_cons, List.map_nil]); first | done | rfl | (simp only [List.length_drop, List.length_take]; rfl)) ?_; (with_reducible refine (scarablaw02_did.calls kj11 5 a0 0 t166 true _ A34.out).mono ?_); rintro e w56 ⟨rfl, hb⟩; refine ⟨_, rfl, ?_⟩; have n0_ := Aside0.mk (below_step (by repeat (first | (with_reducible first | exact HB.out | apply below_alloc | apply pw_below_drewN | apply below_drew1) | exact HB.out)) hb); clear HB; have HB := n0_; clear n0_; (try haveI tb_ := Tab.TabOK.below (w := w) inferInstance HB.out); (try clear hb); (try clear hb2); (try clear hk); (try clear hi)) | ((with_reducible refine gate_callee (f := 20) rfl ?_); refine goesL_ (some 131) rfl rfl Tryd.func20 (by kernel_rfl) rfl #[.int .i64 6, .int .i64 t152, .int .i64 0] rfl (by (try simp only [List.map_toArray, List.map_cons, List.map_nil]); first | done | rfl | (simp only [List.length_drop, List.length_take]; rfl)) ?_; (with_reducible refine (scarablaw02_did.calls kj11 6 t152 0 t168 true _ A35.out).mono ?_); rintro e w57 ⟨rfl, hb⟩; refine ⟨_, rfl, ?_⟩; have n0_ := Aside0.mk (below_step (by repeat (first | (with_reducible first | exact HB.out | apply below_alloc | apply pw_below_drewN | apply below_drew1) | exact HB.out)) hb); clear HB; have HB := n0_; clear n0_; (try haveI tb_ := Tab.TabOK.below (w := w) inferInstance HB.out); (try clear hb); (try clear hb2); (try clear hk); (try clear hi)))
                      go_ret
                      exact ⟨by first | rfl | (simp [errW_none, errW_some] <;> rfl) | (simp [*, errW_none, errW_some] <;> rfl), by repeat (first | (with_reducible first | exact HB.out | apply below_alloc | apply pw_below_drewN | apply below_drew1) | exact HB.out)⟩
                  · replace c40 := Bool.eq_false_iff.mpr c40
                    subst c40
                    have H1 : (some false) = some r := by rw [if_neg (show ¬ (false = true) by decide)] at H; exact H
                    clear H
                    have H := H1
                    clear H1
                    obtain rfl := Option.some.inj H
                    go_wp2_with (first | ((with_reducible refine gate_callee (f := 20) rfl ?_); refine goesL_ (some 111) rfl rfl Tryd.func20 (by kernel_rfl) rfl #[.int .i64 4, .int .i64 a0, .int .i64 0] rfl (by (try simp only [List.map_toArray, List.map_cons, List.map_nil]); first | done | rfl | (simp only [List.length_drop, List.length_take]; rfl)) ?_; (with_reducible refine (scarablaw02_did.calls kj11 4 a0 0 t160 true _ A31.out).mono ?_); rintro e w58 ⟨rfl, hb⟩; refine ⟨_, rfl, ?_⟩; have n0_ := Aside0.mk (below_step (by repeat (first | (with_reducible first | exact HB.out | apply below_alloc | apply pw_below_drewN | apply below_drew1) | exact HB.out)) hb); clear HB; have HB := n0_; clear n0_; (try haveI tb_ := Tab.TabOK.below (w := w) inferInstance HB.out); (try clear hb); (try clear hb2); (try clear hk); (try clear hi)) | ((with_reducible refine gate_callee (f := 20) rfl ?_); refine goesL_ (some 116) rfl rfl Tryd.func20 (by kernel_rfl) rfl #[.int .i64 4, .int .i64 t156, .int .i64 0] rfl (by (try simp only [List.map_toArray, List.map_cons, List.map_nil]); first | done | rfl | (simp only [List.length_drop, List.length_take]; rfl)) ?_; (with_reducible refine (scarablaw02_did.calls kj11 4 t156 0 t162 true _ A32.out).mono ?_); rintro e w59 ⟨rfl, hb⟩; refine ⟨_, rfl, ?_⟩; have n0_ := Aside0.mk (below_step (by repeat (first | (with_reducible first | exact HB.out | apply below_alloc | apply pw_below_drewN | apply below_drew1) | exact HB.out)) hb); clear HB; have HB := n0_; clear n0_; (try haveI tb_ := Tab.TabOK.below (w := w) inferInstance HB.out); (try clear hb); (try clear hb2); (try clear hk); (try clear hi)) | ((with_reducible refine gate_callee (f := 20) rfl ?_); refine goesL_ (some 121) rfl rfl Tryd.func20 (by kernel_rfl) rfl #[.int .i64 4, .int .i64 t148, .int .i64 0] rfl (by (try simp only [List.map_toArray, List.map_cons, List.map_nil]); first | done | rfl | (simp only [List.length_drop, List.length_take]; rfl)) ?_; (with_reducible refine (scarablaw02_did.calls kj11 4 t148 0 t164 true _ A33.out).mono ?_); rintro e w60 ⟨rfl, hb⟩; refine ⟨_, rfl, ?_⟩; have n0_ := Aside0.mk (below_step (by repeat (first | (with_reducible first | exact HB.out | apply below_alloc | apply pw_below_drewN | apply below_drew1) | exact HB.out)) hb); clear HB; have HB := n0_; clear n0_; (try haveI tb_ := Tab.TabOK.below (w := w) inferInstance HB.out); (try clear hb); (try clear hb2); (try clear hk); (try clear hi)) | ((with_reducible refine gate_callee (f := 20) rfl ?_); refine goesL_ (some 126) rfl rfl Tryd.func20 (by kernel_rfl) rfl #[.int .i64 5, .int .i64 a0, .int .i64 0] rfl (by (try simp only [List.map_toArray, List.map_cons, List.map_nil]); first | done | rfl | (simp only [List.length_drop, List.length_take]; rfl)) ?_; (with_reducible refine (scarablaw02_did.calls kj11 5 a0 0 t166 true _ A34.out).mono ?_); rintro e w61 ⟨rfl, hb⟩; refine ⟨_, rfl, ?_⟩; have n0_ := Aside0.mk (below_step (by repeat (first | (with_reducible first | exact HB.out | apply below_alloc | apply pw_below_drewN | apply below_drew1) | exact HB.out)) hb); clear HB; have HB := n0_; clear n0_; (try haveI tb_ := Tab.TabOK.below (w := w) inferInstance HB.out); (try clear hb); (try clear hb2); (try clear hk); (try clear hi)) | ((with_reducible refine gate_callee (f := 20) rfl ?_); refine goesL_ (some 131) rfl rfl Tryd.func20 (by kernel_rfl) rfl #[.int .i64 6, .int .i64 t152, .int .i64 0] rfl (by (try simp only [List.map_toArray, List.map_cons, List.map_nil]); first | done | rfl | (simp only [List.length_drop, List.length_take]; rfl)) ?_; (with_reducible refine (scarablaw02_did.calls kj11 6 t152 0 t168 false _ A35.out).mono ?_); rintro e w62 ⟨rfl, hb⟩; refine ⟨_, rfl, ?_⟩; have n0_ := Aside0.mk (below_step (by repeat (first | (with_reducible first | exact HB.out | apply below_alloc | apply pw_below_drewN | apply below_drew1) | exact HB.out)) hb); clear HB; have HB := n0_; clear n0_; (try haveI tb_ := Tab.TabOK.below (w := w) inferInstance HB.out); (try clear hb); (try clear hb2); (try clear hk); (try clear hi)))
                    go_ret
                    exact ⟨by first | rfl | (simp [errW_none, errW_some] <;> rfl) | (simp [*, errW_none, errW_some] <;> rfl), by repeat (first | (with_reducible first | exact HB.out | apply below_alloc | apply pw_below_drewN | apply below_drew1) | exact HB.out)⟩
                · replace c39 := Bool.eq_false_iff.mpr c39
                  subst c39
                  have H1 : (some false) = some r := by rw [if_neg (show ¬ (false = true) by decide)] at H; exact H
                  clear H
                  have H := H1
                  clear H1
                  obtain rfl := Option.some.inj H
                  go_wp2_with (first | ((with_reducible refine gate_callee (f := 20) rfl ?_); refine goesL_ (some 111) rfl rfl Tryd.func20 (by kernel_rfl) rfl #[.int .i64 4, .int .i64 a0, .int .i64 0] rfl (by (try simp only [List.map_toArray, List.map_cons, List.map_nil]); first | done | rfl | (simp only [List.length_drop, List.length_take]; rfl)) ?_; (with_reducible refine (scarablaw02_did.calls kj11 4 a0 0 t160 true _ A31.out).mono ?_); rintro e w63 ⟨rfl, hb⟩; refine ⟨_, rfl, ?_⟩; have n0_ := Aside0.mk (below_step (by repeat (first | (with_reducible first | exact HB.out | apply below_alloc | apply pw_below_drewN | apply below_drew1) | exact HB.out)) hb); clear HB; have HB := n0_; clear n0_; (try haveI tb_ := Tab.TabOK.below (w := w) inferInstance HB.out); (try clear hb); (try clear hb2); (try clear hk); (try clear hi)) | ((with_reducible refine gate_callee (f := 20) rfl ?_); refine goesL_ (some 116) rfl rfl Tryd.func20 (by kernel_rfl) rfl #[.int .i64 4, .int .i64 t156, .int .i64 0] rfl (by (try simp only [List.map_toArray, List.map_cons, List.map_nil]); first | done | rfl | (simp only [List.length_drop, List.length_take]; rfl)) ?_; (with_reducible refine (scarablaw02_did.calls kj11 4 t156 0 t162 true _ A32.out).mono ?_); rintro e w64 ⟨rfl, hb⟩; refine ⟨_, rfl, ?_⟩; have n0_ := Aside0.mk (below_step (by repeat (first | (with_reducible first | exact HB.out | apply below_alloc | apply pw_below_drewN | apply below_drew1) | exact HB.out)) hb); clear HB; have HB := n0_; clear n0_; (try haveI tb_ := Tab.TabOK.below (w := w) inferInstance HB.out); (try clear hb); (try clear hb2); (try clear hk); (try clear hi)) | ((with_reducible refine gate_callee (f := 20) rfl ?_); refine goesL_ (some 121) rfl rfl Tryd.func20 (by kernel_rfl) rfl #[.int .i64 4, .int .i64 t148, .int .i64 0] rfl (by (try simp only [List.map_toArray, List.map_cons, List.map_nil]); first | done | rfl | (simp only [List.length_drop, List.length_take]; rfl)) ?_; (with_reducible refine (scarablaw02_did.calls kj11 4 t148 0 t164 true _ A33.out).mono ?_); rintro e w65 ⟨rfl, hb⟩; refine ⟨_, rfl, ?_⟩; have n0_ := Aside0.mk (below_step (by repeat (first | (with_reducible first | exact HB.out | apply below_alloc | apply pw_below_drewN | apply below_drew1) | exact HB.out)) hb); clear HB; have HB := n0_; clear n0_; (try haveI tb_ := Tab.TabOK.below (w := w) inferInstance HB.out); (try clear hb); (try clear hb2); (try clear hk); (try clear hi)) | ((with_reducible refine gate_callee (f := 20) rfl ?_); refine goesL_ (some 126) rfl rfl Tryd.func20 (by kernel_rfl) rfl #[.int .i64 5, .int .i64 a0, .int .i64 0] rfl (by (try simp only [List.map_toArray, List.map_cons, List.map_nil]); first | done | rfl | (simp only [List.length_drop, List.length_take]; rfl)) ?_; (with_reducible refine (scarablaw02_did.calls kj11 5 a0 0 t166 false _ A34.out).mono ?_); rintro e w66 ⟨rfl, hb⟩; refine ⟨_, rfl, ?_⟩; have n0_ := Aside0.mk (below_step (by repeat (first | (with_reducible first | exact HB.out | apply below_alloc | apply pw_below_drewN | apply below_drew1) | exact HB.out)) hb); clear HB; have HB := n0_; clear n0_; (try haveI tb_ := Tab.TabOK.below (w := w) inferInstance HB.out); (try clear hb); (try clear hb2); (try clear hk); (try clear hi)) | ((with_reducible refine gate_callee (f := 20) rfl ?_); refine goesL_ (some 131) rfl rfl Tryd.func20 (by kernel_rfl) rfl #[.int .i64 6, .int .i64 t152, .int .i64 0] rfl (by (try simp only [List.map_toArray, List.map_cons, List.map_nil]); first | done | rfl | (simp only [List.length_drop, List.length_take]; rfl)) ?_; (with_reducible refine (scarablaw02_did.calls kj11 6 t152 0 t168 t169 _ A35.out).mono ?_); rintro e w67 ⟨rfl, hb⟩; refine ⟨_, rfl, ?_⟩; have n0_ := Aside0.mk (below_step (by repeat (first | (with_reducible first | exact HB.out | apply below_alloc | apply pw_below_drewN | apply below_drew1) | exact HB.out)) hb); clear HB; have HB := n0_; clear n0_; (try haveI tb_ := Tab.TabOK.below (w := w) inferInstance HB.out); (try clear hb); (try clear hb2); (try clear hk); (try clear hi)))
                  go_ret
                  exact ⟨by first | rfl | (simp [errW_none, errW_some] <;> rfl) | (simp [*, errW_none, errW_some] <;> rfl), by repeat (first | (with_reducible first | exact HB.out | apply below_alloc | apply pw_below_drewN | apply below_drew1) | exact HB.out)⟩
              · replace c38 := Bool.eq_false_iff.mpr c38
                subst c38
                have H1 : (some false) = some r := by rw [if_neg (show ¬ (false = true) by decide)] at H; exact H
                clear H
                have H := H1
                clear H1
                obtain rfl := Option.some.inj H
                go_wp2_with (first | ((with_reducible refine gate_callee (f := 20) rfl ?_); refine goesL_ (some 111) rfl rfl Tryd.func20 (by kernel_rfl) rfl #[.int .i64 4, .int .i64 a0, .int .i64 0] rfl (by (try simp only [List.map_toArray, List.map_cons, List.map_nil]); first | done | rfl | (simp only [List.length_drop, List.length_take]; rfl)) ?_; (with_reducible refine (scarablaw02_did.calls kj11 4 a0 0 t160 true _ A31.out).mono ?_); rintro e w68 ⟨rfl, hb⟩; refine ⟨_, rfl, ?_⟩; have n0_ := Aside0.mk (below_step (by repeat (first | (with_reducible first | exact HB.out | apply below_alloc | apply pw_below_drewN | apply below_drew1) | exact HB.out)) hb); clear HB; have HB := n0_; clear n0_; (try haveI tb_ := Tab.TabOK.below (w := w) inferInstance HB.out); (try clear hb); (try clear hb2); (try clear hk); (try clear hi)) | ((with_reducible refine gate_callee (f := 20) rfl ?_); refine goesL_ (some 116) rfl rfl Tryd.func20 (by kernel_rfl) rfl #[.int .i64 4, .int .i64 t156, .int .i64 0] rfl (by (try simp only [List.map_toArray, List.map_cons, List.map_nil]); first | done | rfl | (simp only [List.length_drop, List.length_take]; rfl)) ?_; (with_reducible refine (scarablaw02_did.calls kj11 4 t156 0 t162 true _ A32.out).mono ?_); rintro e w69 ⟨rfl, hb⟩; refine ⟨_, rfl, ?_⟩; have n0_ := Aside0.mk (below_step (by repeat (first | (with_reducible first | exact HB.out | apply below_alloc | apply pw_below_drewN | apply below_drew1) | exact HB.out)) hb); clear HB; have HB := n0_; clear n0_; (try haveI tb_ := Tab.TabOK.below (w := w) inferInstance HB.out); (try clear hb); (try clear hb2); (try clear hk); (try clear hi)) | ((with_reducible refine gate_callee (f := 20) rfl ?_); refine goesL_ (some 121) rfl rfl Tryd.func20 (by kernel_rfl) rfl #[.int .i64 4, .int .i64 t148, .int .i64 0] rfl (by (try simp only [List.map_toArray, List.map_cons, List.map_nil]); first | done | rfl | (simp only [List.length_drop, List.length_take]; rfl)) ?_; (with_reducible refine (scarablaw02_did.calls kj11 4 t148 0 t164 false _ A33.out).mono ?_); rintro e w70 ⟨rfl, hb⟩; refine ⟨_, rfl, ?_⟩; have n0_ := Aside0.mk (below_step (by repeat (first | (with_reducible first | exact HB.out | apply below_alloc | apply pw_below_drewN | apply below_drew1) | exact HB.out)) hb); clear HB; have HB := n0_; clear n0_; (try haveI tb_ := Tab.TabOK.below (w := w) inferInstance HB.out); (try clear hb); (try clear hb2); (try clear hk); (try clear hi)) | ((with_reducible refine gate_callee (f := 20) rfl ?_); refine goesL_ (some 126) rfl rfl Tryd.func20 (by kernel_rfl) rfl #[.int .i64 5, .int .i64 a0, .int .i64 0] rfl (by (try simp only [List.map_toArray, List.map_cons, List.map_nil]); first | done | rfl | (simp only [List.length_drop, List.length_take]; rfl)) ?_; (with_reducible refine (scarablaw02_did.calls kj11 5 a0 0 t166 t167 _ A34.out).mono ?_); rintro e w71 ⟨rfl, hb⟩; refine ⟨_, rfl, ?_⟩; have n0_ := Aside0.mk (below_step (by repeat (first | (with_reducible first | exact HB.out | apply below_alloc | apply pw_below_drewN | apply below_drew1) | exact HB.out)) hb); clear HB; have HB := n0_; clear n0_; (try haveI tb_ := Tab.TabOK.below (w := w) inferInstance HB.out); (try clear hb); (try clear hb2); (try clear hk); (try clear hi)) | ((with_reducible refine gate_callee (f := 20) rfl ?_); refine goesL_ (some 131) rfl rfl Tryd.func20 (by kernel_rfl) rfl #[.int .i64 6, .int .i64 t152, .int .i64 0] rfl (by (try simp only [List.map_toArray, List.map_cons, List.map_nil]); first | done | rfl | (simp only [List.length_drop, List.length_take]; rfl)) ?_; (with_reducible refine (scarablaw02_did.calls kj11 6 t152 0 t168 t169 _ A35.out).mono ?_); rintro e w72 ⟨rfl, hb⟩; refine ⟨_, rfl, ?_⟩; have n0_ := Aside0.mk (below_step (by repeat (first | (with_reducible first | exact HB.out | apply below_alloc | apply pw_below_drewN | apply below_drew1) | exact HB.out)) hb); clear HB; have HB := n0_; clear n0_; (try haveI tb_ := Tab.TabOK.below (w := w) inferInstance HB.out); (try clear hb); (try clear hb2); (try clear hk); (try clear hi)))
                go_ret
                exact ⟨by first | rfl | (simp [errW_none, errW_some] <;> rfl) | (simp [*, errW_none, errW_some] <;> rfl), by repeat (first | (with_reducible first | exact HB.out | apply below_alloc | apply pw_below_drewN | apply below_drew1) | exact HB.out)⟩
            · replace c37 := Bool.eq_false_iff.mpr c37
              subst c37
              have H1 : (some false) = some r := by rw [if_neg (show ¬ (false = true) by decide)] at H; exact H
              clear H
              have H := H1
              clear H1
              obtain rfl := Option.some.inj H
              go_wp2_with (first | ((with_reducible refine gate_callee (f := 20) rfl ?_); refine goesL_ (some 111) rfl rfl Tryd.func20 (by kernel_rfl) rfl #[.int .i64 4, .int .i64 a0, .int .i64 0] rfl (by (try simp only [List.map_toArray, List.map_cons, List.map_nil]); first | done | rfl | (simp only [List.length_drop, List.length_take]; rfl)) ?_; (with_reducible refine (scarablaw02_did.calls kj11 4 a0 0 t160 true _ A31.out).mono ?_); rintro e w73 ⟨rfl, hb⟩; refine ⟨_, rfl, ?_⟩; have n0_ := Aside0.mk (below_step (by repeat (first | (with_reducible first | exact HB.out | apply below_alloc | apply pw_below_drewN | apply below_drew1) | exact HB.out)) hb); clear HB; have HB := n0_; clear n0_; (try haveI tb_ := Tab.TabOK.below (w := w) inferInstance HB.out); (try clear hb); (try clear hb2); (try clear hk); (try clear hi)) | ((with_reducible refine gate_callee (f := 20) rfl ?_); refine goesL_ (some 116) rfl rfl Tryd.func20 (by kernel_rfl) rfl #[.int .i64 4, .int .i64 t156, .int .i64 0] rfl (by (try simp only [List.map_toArray, List.map_cons, List.map_nil]); first | done | rfl | (simp only [List.length_drop, List.length_take]; rfl)) ?_; (with_reducible refine (scarablaw02_did.calls kj11 4 t156 0 t162 false _ A32.out).mono ?_); rintro e w74 ⟨rfl, hb⟩; refine ⟨_, rfl, ?_⟩; have n0_ := Aside0.mk (below_step (by repeat (first | (with_reducible first | exact HB.out | apply below_alloc | apply pw_below_drewN | apply below_drew1) | exact HB.out)) hb); clear HB; have HB := n0_; clear n0_; (try haveI tb_ := Tab.TabOK.below (w := w) inferInstance HB.out); (try clear hb); (try clear hb2); (try clear hk); (try clear hi)) | ((with_reducible refine gate_callee (f := 20) rfl ?_); refine goesL_ (some 121) rfl rfl Tryd.func20 (by kernel_rfl) rfl #[.int .i64 4, .int .i64 t148, .int .i64 0] rfl (by (try simp only [List.map_toArray, List.map_cons, List.map_nil]); first | done | rfl | (simp only [List.length_drop, List.length_take]; rfl)) ?_; (with_reducible refine (scarablaw02_did.calls kj11 4 t148 0 t164 t165 _ A33.out).mono ?_); rintro e w75 ⟨rfl, hb⟩; refine ⟨_, rfl, ?_⟩; have n0_ := Aside0.mk (below_step (by repeat (first | (with_reducible first | exact HB.out | apply below_alloc | apply pw_below_drewN | apply below_drew1) | exact HB.out)) hb); clear HB; have HB := n0_; clear n0_; (try haveI tb_ := Tab.TabOK.below (w := w) inferInstance HB.out); (try clear hb); (try clear hb2); (try clear hk); (try clear hi)) | ((with_reducible refine gate_callee (f := 20) rfl ?_); refine goesL_ (some 126) rfl rfl Tryd.func20 (by kernel_rfl) rfl #[.int .i64 5, .int .i64 a0, .int .i64 0] rfl (by (try simp only [List.map_toArray, List.map_cons, List.map_nil]); first | done | rfl | (simp only [List.length_drop, List.length_take]; rfl)) ?_; (with_reducible refine (scarablaw02_did.calls kj11 5 a0 0 t166 t167 _ A34.out).mono ?_); rintro e w76 ⟨rfl, hb⟩; refine ⟨_, rfl, ?_⟩; have n0_ := Aside0.mk (below_step (by repeat (first | (with_reducible first | exact HB.out | apply below_alloc | apply pw_below_drewN | apply below_drew1) | exact HB.out)) hb); clear HB; have HB := n0_; clear n0_; (try haveI tb_ := Tab.TabOK.below (w := w) inferInstance HB.out); (try clear hb); (try clear hb2); (try clear hk); (try clear hi)) | ((with_reducible refine gate_callee (f := 20) rfl ?_); refine goesL_ (some 131) rfl rfl Tryd.func20 (by kernel_rfl) rfl #[.int .i64 6, .int .i64 t152, .int .i64 0] rfl (by (try simp only [List.map_toArray, List.map_cons, List.map_nil]); first | done | rfl | (simp only [List.length_drop, List.length_take]; rfl)) ?_; (with_reducible refine (scarablaw02_did.calls kj11 6 t152 0 t168 t169 _ A35.out).mono ?_); rintro e w77 ⟨rfl, hb⟩; refine ⟨_, rfl, ?_⟩; have n0_ := Aside0.mk (below_step (by repeat (first | (with_reducible first | exact HB.out | apply below_alloc | apply pw_below_drewN | apply below_drew1) | exact HB.out)) hb); clear HB; have HB := n0_; clear n0_; (try haveI tb_ := Tab.TabOK.below (w := w) inferInstance HB.out); (try clear hb); (try clear hb2); (try clear hk); (try clear hi)))
              go_ret
              exact ⟨by first | rfl | (simp [errW_none, errW_some] <;> rfl) | (simp [*, errW_none, errW_some] <;> rfl), by repeat (first | (with_reducible first | exact HB.out | apply below_alloc | apply pw_below_drewN | apply below_drew1) | exact HB.out)⟩
          · replace c36 := Bool.eq_false_iff.mpr c36
            subst c36
            have H1 : (some false) = some r := by rw [if_neg (show ¬ (false = true) by decide)] at H; exact H
            clear H
            have H := H1
            clear H1
            obtain rfl := Option.some.inj H
            go_wp2_with (first | ((with_reducible refine gate_callee (f := 20) rfl ?_); refine goesL_ (some 111) rfl rfl Tryd.func20 (by kernel_rfl) rfl #[.int .i64 4, .int .i64 a0, .int .i64 0] rfl (by (try simp only [List.map_toArray, List.map_cons, List.map_nil]); first | done | rfl | (simp only [List.length_drop, List.length_take]; rfl)) ?_; (with_reducible refine (scarablaw02_did.calls kj11 4 a0 0 t160 false _ A31.out).mono ?_); rintro e w78 ⟨rfl, hb⟩; refine ⟨_, rfl, ?_⟩; have n0_ := Aside0.mk (below_step (by repeat (first | (with_reducible first | exact HB.out | apply below_alloc | apply pw_below_drewN | apply below_drew1) | exact HB.out)) hb); clear HB; have HB := n0_; clear n0_; (try haveI tb_ := Tab.TabOK.below (w := w) inferInstance HB.out); (try clear hb); (try clear hb2); (try clear hk); (try clear hi)) | ((with_reducible refine gate_callee (f := 20) rfl ?_); refine goesL_ (some 116) rfl rfl Tryd.func20 (by kernel_rfl) rfl #[.int .i64 4, .int .i64 t156, .int .i64 0] rfl (by (try simp only [List.map_toArray, List.map_cons, List.map_nil]); first | done | rfl | (simp only [List.length_drop, List.length_take]; rfl)) ?_; (with_reducible refine (scarablaw02_did.calls kj11 4 t156 0 t162 t163 _ A32.out).mono ?_); rintro e w79 ⟨rfl, hb⟩; refine ⟨_, rfl, ?_⟩; have n0_ := Aside0.mk (below_step (by repeat (first | (with_reducible first | exact HB.out | apply below_alloc | apply pw_below_drewN | apply below_drew1) | exact HB.out)) hb); clear HB; have HB := n0_; clear n0_; (try haveI tb_ := Tab.TabOK.below (w := w) inferInstance HB.out); (try clear hb); (try clear hb2); (try clear hk); (try clear hi)) | ((with_reducible refine gate_callee (f := 20) rfl ?_); refine goesL_ (some 121) rfl rfl Tryd.func20 (by kernel_rfl) rfl #[.int .i64 4, .int .i64 t148, .int .i64 0] rfl (by (try simp only [List.map_toArray, List.map_cons, List.map_nil]); first | done | rfl | (simp only [List.length_drop, List.length_take]; rfl)) ?_; (with_reducible refine (scarablaw02_did.calls kj11 4 t148 0 t164 t165 _ A33.out).mono ?_); rintro e w80 ⟨rfl, hb⟩; refine ⟨_, rfl, ?_⟩; have n0_ := Aside0.mk (below_step (by repeat (first | (with_reducible first | exact HB.out | apply below_alloc | apply pw_below_drewN | apply below_drew1) | exact HB.out)) hb); clear HB; have HB := n0_; clear n0_; (try haveI tb_ := Tab.TabOK.below (w := w) inferInstance HB.out); (try clear hb); (try clear hb2); (try clear hk); (try clear hi)) | ((with_reducible refine gate_callee (f := 20) rfl ?_); refine goesL_ (some 126) rfl rfl Tryd.func20 (by kernel_rfl) rfl #[.int .i64 5, .int .i64 a0, .int .i64 0] rfl (by (try simp only [List.map_toArray, List.map_cons, List.map_nil]); first | done | rfl | (simp only [List.length_drop, List.length_take]; rfl)) ?_; (with_reducible refine (scarablaw02_did.calls kj11 5 a0 0 t166 t167 _ A34.out).mono ?_); rintro e w81 ⟨rfl, hb⟩; refine ⟨_, rfl, ?_⟩; have n0_ := Aside0.mk (below_step (by repeat (first | (with_reducible first | exact HB.out | apply below_alloc | apply pw_below_drewN | apply below_drew1) | exact HB.out)) hb); clear HB; have HB := n0_; clear n0_; (try haveI tb_ := Tab.TabOK.below (w := w) inferInstance HB.out); (try clear hb); (try clear hb2); (try clear hk); (try clear hi)) | ((with_reducible refine gate_callee (f := 20) rfl ?_); refine goesL_ (some 131) rfl rfl Tryd.func20 (by kernel_rfl) rfl #[.int .i64 6, .int .i64 t152, .int .i64 0] rfl (by (try simp only [List.map_toArray, List.map_cons, List.map_nil]); first | done | rfl | (simp only [List.length_drop, List.length_take]; rfl)) ?_; (with_reducible refine (scarablaw02_did.calls kj11 6 t152 0 t168 t169 _ A35.out).mono ?_); rintro e w82 ⟨rfl, hb⟩; refine ⟨_, rfl, ?_⟩; have n0_ := Aside0.mk (below_step (by repeat (first | (with_reducible first | exact HB.out | apply below_alloc | apply pw_below_drewN | apply below_drew1) | exact HB.out)) hb); clear HB; have HB := n0_; clear n0_; (try haveI tb_ := Tab.TabOK.below (w := w) inferInstance HB.out); (try clear hb); (try clear hb2); (try clear hk); (try clear hi)))
            go_ret
            exact ⟨by first | rfl | (simp [errW_none, errW_some] <;> rfl) | (simp [*, errW_none, errW_some] <;> rfl), by repeat (first | (with_reducible first | exact HB.out | apply below_alloc | apply pw_below_drewN | apply below_drew1) | exact HB.out)⟩
  · replace c4 := Bool.eq_false_iff.mpr c4
    subst c4
    have H1 : (some false) = some r := by rw [if_neg (show ¬ (false = true) by decide)] at H; exact H
    clear H
    have H := H1
    clear H1
    obtain rfl := Option.some.inj H
    go_enter Tryd.func6, Tryd.ntmps6
    go_wp2_with (first | ((with_reducible refine gate_callee (f := 19) rfl ?_); refine goesL_ (some 29) rfl rfl Tryd.func19 (by kernel_rfl) rfl #[] rfl (by (try simp only [List.map_toArray, List.map_cons, List.map_nil]); first | done | rfl | (simp only [List.length_drop, List.length_take]; rfl)) ?_; (with_reducible refine (scarablaw02_speaks.calls k  false _ A3.out).mono ?_); rintro e w83 ⟨rfl, hb⟩; refine ⟨_, rfl, ?_⟩; have n0_ := Aside0.mk (below_step (by repeat (first | (with_reducible first | exact HB.out | apply below_alloc | apply pw_below_drewN | apply below_drew1) | exact HB.out)) hb); clear HB; have HB := n0_; clear n0_; (try haveI tb_ := Tab.TabOK.below (w := w) inferInstance HB.out); (try clear hb); (try clear hb2); (try clear hk); (try clear hi)))
    go_ret
    exact ⟨by first | rfl | (simp [errW_none, errW_some] <;> rfl) | (simp [*, errW_none, errW_some] <;> rfl), by repeat (first | (with_reducible first | exact HB.out | apply below_alloc | apply pw_below_drewN | apply below_drew1) | exact HB.out)⟩

/-- THE ONE PURE STATEMENT of scarablaw02_WordTurns: yours. -/
def scarablaw02_WordTurns.Pure : Prop := ∀ (a0 : Int) (a1 : Int), (Lit.int .i64 a0).wf = true → (Lit.int .i64 a1).wf = true → ∃ k, scarablaw02_WordTurns.f k a0 a1 = some true
theorem scarablaw02_WordTurns.walk (P : scarablaw02_WordTurns.Pure) (a0 : Int) (a1 : Int) (w : World) [Tab.TabOK w] (w0 : (Lit.int .i64 a0).wf = true) (w1 : (Lit.int .i64 a1).wf = true) :
    Calls Tryd.prog 6 #[.int .i64 a0, .int .i64 a1] w fun e w' => e = .returned (.bool true) ∧ Below w.heap.size w w' := by
  obtain ⟨k, h⟩ := P a0 a1 w0 w1
  refine (scarablaw02_WordTurns.calls k a0 a1 true w h).mono ?_
  rintro e w' ⟨rfl, hd⟩
  exact ⟨rfl, hd⟩

/-! ### scarabref02_Arity: function 29 -/
def scarabref02_Arity.j0 : Nat → Int → Bool → Option (Int)
  | 0, _, _ => none
  | k + 1, x0, x8 => if x8 = true then (some 0) else (if x0 ≤ 15 then (some 1) else (some 2))
def scarabref02_Arity.f (k : Nat) (a0 : Int) : Option (Int) := if a0 < 1 then (scarabref02_Arity.j0 k a0 true) else (scarabref02_Arity.j0 k a0 (decide (a0 > 36)))
theorem scarabref02_Arity.mono_l : ∀ k, (∀ y0 y1, LeO (scarabref02_Arity.j0 k y0 y1) (scarabref02_Arity.j0 (k + 1) y0 y1))
  | 0 => fun _ _ r h => by simp [scarabref02_Arity.j0] at h
  | k + 1 => by
    have ih0 := scarabref02_Arity.mono_l k
    · intro y0 y1
      unfold scarabref02_Arity.j0
      repeat' first
      | (with_reducible exact ih0 _ _)
      | (with_reducible exact LeO.refl _)
      | (with_reducible exact LeO.none _)
      | (with_reducible refine LeO.ite ?_ ?_)
      | (with_reducible refine LeO.bind ?_ (fun _ => ?_))
      | exact ih0 _ _
      | exact LeO.none _
      | refine LeO.ite ?_ ?_
      | refine LeO.bind ?_ (fun _ => ?_)
theorem scarabref02_Arity.mono : ∀ a0 k, LeO (scarabref02_Arity.f k a0) (scarabref02_Arity.f (k + 1) a0) := by
  intro a0 k
  have ih0 := scarabref02_Arity.mono_l k
  unfold scarabref02_Arity.f
  repeat' first
      | (with_reducible exact ih0 _ _)
      | (with_reducible exact LeO.refl _)
      | (with_reducible exact LeO.none _)
      | (with_reducible refine LeO.ite ?_ ?_)
      | (with_reducible refine LeO.bind ?_ (fun _ => ?_))
      | exact ih0 _ _
      | exact LeO.none _
      | refine LeO.ite ?_ ?_
      | refine LeO.bind ?_ (fun _ => ?_)
set_option maxHeartbeats 8000000 in
set_option maxRecDepth 100000 in
theorem scarabref02_Arity.calls (k : Nat) (a0 : Int) (r : Int) (w : World) (h : scarabref02_Arity.f k a0 = some r) :
    Calls Tryd.prog 29 #[.int .i64 a0] w fun e w' => e = .returned (.int .i64 r) ∧ Drawn0 w w' := by
  have H : (if a0 < 1 then (scarabref02_Arity.j0 k a0 true) else (scarabref02_Arity.j0 k a0 (decide (a0 > 36)))) = some r := h
  clear h
  have HC2 := Aside0.mk H
  clear H
  go_enter Tryd.func29, Tryd.ntmps29
  go_upto_region 1 with (fail)
  go_cut [8] (fun v8 wc => ∃ (kq : Nat) (x8_1 : Bool), v8 = .bool x8_1 ∧ Aside0 (scarabref02_Arity.j0 kq a0 x8_1 = some r) ∧ Aside0 (kq ≤ k) ∧ Drawn0 w wc)
  case first =>
    have H := HC2.out
    clear HC2
    by_cases c3 : a0 < 1
    · rw [if_pos c3] at H
      have c3b0 : decide (a0 < 1) = true := decide_eq_true c3
      clear c3
      (first | rw [c3b0] | (simp only [i64_w, i32_w]; rw [c3b0]) | skip)
      have H' := Aside0.mk H
      clear H
      go_wp2
      go_meet
      case rel => exact ⟨_, (true), (by first | rfl | (simp; done) | (simp [*]; done)), H', ⟨by first | omega | exact Nat.le_refl _⟩, by repeat (first | exact Drawn0.refl _ | apply Drawn0.step)⟩
    · rw [if_neg c3] at H
      have c3b0 : decide (a0 < 1) = false := decide_eq_false c3
      clear c3
      (first | rw [c3b0] | (simp only [i64_w, i32_w]; rw [c3b0]) | skip)
      have H' := Aside0.mk H
      clear H
      go_wp2
      go_meet
      case rel => exact ⟨_, (decide (a0 > 36)), (by first | rfl | (simp; done) | (simp [*]; done)), H', ⟨by first | omega | exact Nat.le_refl _⟩, by repeat (first | exact Drawn0.refl _ | apply Drawn0.step)⟩
  case rest =>
    clear HC2
    try clear c2
    try clear p2
    try clear c3
    try clear c3b0
    obtain ⟨kq, x8_1, rfl, HA, HJ1, ⟨mc1, rfl⟩⟩ := hcut
    cases kq with
    | zero => exact absurd HA.out (by simp [scarabref02_Arity.j0])
    | succ kj1 =>
      have H := HA.out
      clear HA
      simp only [scarabref02_Arity.j0] at H
      by_cases c4 : x8_1 = true
      · subst c4
        have H1 : (some 0) = some r := by rw [if_pos rfl] at H; exact H
        clear H
        have H := H1
        clear H1
        obtain rfl := Option.some.inj H
        go_wp2
        go_ret
        exact ⟨by first | rfl | (simp; done) | (simp [*]; done), by repeat (first | exact Drawn0.refl _ | apply Drawn0.step)⟩
      · replace c4 := Bool.eq_false_iff.mpr c4
        subst c4
        have H1 : (if a0 ≤ 15 then (some 1) else (some 2)) = some r := by rw [if_neg (show ¬ (false = true) by decide)] at H; exact H
        clear H
        have H := H1
        clear H1
        by_cases c5 : a0 ≤ 15
        · rw [if_pos c5] at H
          have c5b0 : decide (a0 ≤ 15) = true := decide_eq_true c5
          clear c5
          obtain rfl := Option.some.inj H
          go_wp2
          go_ret
          exact ⟨by first | rfl | (simp; done) | (simp [*]; done), by repeat (first | exact Drawn0.refl _ | apply Drawn0.step)⟩
        · rw [if_neg c5] at H
          have c5b0 : decide (a0 ≤ 15) = false := decide_eq_false c5
          clear c5
          obtain rfl := Option.some.inj H
          go_wp2
          go_ret
          exact ⟨by first | rfl | (simp; done) | (simp [*]; done), by repeat (first | exact Drawn0.refl _ | apply Drawn0.step)⟩

/-! ### scarabref02_bit: function 42 -/
def scarabref02_bit.f (a0 : Int) (a1 : Int) : Option (Int) := if 0 ≤ (IntKind.u64.wrap (a1)) then (some (wrap64 (Go.bits .and .u64 (shr .u64 (IntKind.u64.wrap (a0)) (IntKind.u64.wrap (a1))) 1))) else (none)
set_option maxHeartbeats 8000000 in
set_option maxRecDepth 100000 in
theorem scarabref02_bit.calls (a0 : Int) (a1 : Int) (r : Int) (w : World) (h : scarabref02_bit.f a0 a1 = some r) :
    Calls Tryd.prog 42 #[.int .i64 a0, .int .i64 a1] w fun e w' => e = .returned (.int .i64 r) ∧ Drawn0 w w' := by
  have H : (if 0 ≤ (IntKind.u64.wrap (a1)) then (some (wrap64 (Go.bits .and .u64 (shr .u64 (IntKind.u64.wrap (a0)) (IntKind.u64.wrap (a1))) 1))) else (none)) = some r := h
  clear h
  obtain ⟨ji3, hji3⟩ : ∃ j_ : Int, (IntKind.u64.wrap (a1)) = j_ := ⟨_, rfl⟩
  replace H : (if 0 ≤ (ji3) then (some (wrap64 (Go.bits .and .u64 (shr .u64 (IntKind.u64.wrap (a0)) (ji3)) 1))) else (none)) = some r := by first | (rw [hji3] at H; exact H) | (simp only [hji3] at H ⊢; exact H)
  by_cases c4 : 0 ≤ (ji3)
  · rw [if_pos c4] at H
    have c4b0 := eq_true c4
    have c4b1 : decide (0 ≤ (ji3)) = true := decide_eq_true c4
    clear c4
    obtain ⟨ji5, hji5⟩ : ∃ j_ : Int, (shr .u64 (IntKind.u64.wrap (a0)) (ji3)) = j_ := ⟨_, rfl⟩
    replace H : (some (wrap64 (Go.bits .and .u64 (ji5) 1))) = some r := by first | (rw [hji5] at H; exact H) | (simp only [hji5] at H ⊢; exact H)
    have hji5_ : ((IntKind.u64.wrap (a0)) / 2 ^ min (ji3).toNat 64) = ji5 := hji5
    have hji5z : (ji3) ≤ 64 → ((IntKind.u64.wrap (a0)) / 2 ^ (ji3).toNat) = ji5 := shr_small hji5
    obtain rfl := Option.some.inj H
    go_enter Tryd.func42, Tryd.ntmps42
    go_wp2
    go_ret
    exact ⟨by first | rfl | (simp; done) | (simp only [← hji3, ← hji5] <;> (first | rfl | simp)) | (simp [*]; done), by repeat (first | exact Drawn0.refl _ | apply Drawn0.step)⟩
  · rw [if_neg c4] at H
    exact absurd H (by simp)

/-! ### scarabref02_put: function 63 -/
def scarabref02_put.f (a0 : Int) (a1 : Int) (a2 : Int) : Option (Int) := if 0 ≤ (IntKind.u64.wrap (a1)) then (some (wrap64 (Go.bits .or .u64 (IntKind.u64.wrap (a0)) (shl .u64 (IntKind.u64.wrap (a2)) (IntKind.u64.wrap (a1)))))) else (none)
set_option maxHeartbeats 8000000 in
set_option maxRecDepth 100000 in
theorem scarabref02_put.calls (a0 : Int) (a1 : Int) (a2 : Int) (r : Int) (w : World) (h : scarabref02_put.f a0 a1 a2 = some r) :
    Calls Tryd.prog 63 #[.int .i64 a0, .int .i64 a1, .int .i64 a2] w fun e w' => e = .returned (.int .i64 r) ∧ Drawn0 w w' := by
  have H : (if 0 ≤ (IntKind.u64.wrap (a1)) then (some (wrap64 (Go.bits .or .u64 (IntKind.u64.wrap (a0)) (shl .u64 (IntKind.u64.wrap (a2)) (IntKind.u64.wrap (a1)))))) else (none)) = some r := h
  clear h
  obtain ⟨ji4, hji4⟩ : ∃ j_ : Int, (IntKind.u64.wrap (a1)) = j_ := ⟨_, rfl⟩
  replace H : (if 0 ≤ (ji4) then (some (wrap64 (Go.bits .or .u64 (IntKind.u64.wrap (a0)) (shl .u64 (IntKind.u64.wrap (a2)) (ji4))))) else (none)) = some r := by first | (rw [hji4] at H; exact H) | (simp only [hji4] at H ⊢; exact H)
  by_cases c5 : 0 ≤ (ji4)
  · rw [if_pos c5] at H
    have c5b0 := eq_true c5
    have c5b1 : decide (0 ≤ (ji4)) = true := decide_eq_true c5
    clear c5
    obtain ⟨ji6, hji6⟩ : ∃ j_ : Int, (shl .u64 (IntKind.u64.wrap (a2)) (ji4)) = j_ := ⟨_, rfl⟩
    replace H : (some (wrap64 (Go.bits .or .u64 (IntKind.u64.wrap (a0)) (ji6)))) = some r := by first | (rw [hji6] at H; exact H) | (simp only [hji6] at H ⊢; exact H)
    have hji6_ : (IntKind.u64.wrap ((IntKind.u64.wrap (a2)) * 2 ^ min (ji4).toNat 64)) = ji6 := hji6
    have hji6z : (ji4) ≤ 64 → (IntKind.u64.wrap ((IntKind.u64.wrap (a2)) * 2 ^ (ji4).toNat)) = ji6 := shl_small hji6
    obtain rfl := Option.some.inj H
    go_enter Tryd.func63, Tryd.ntmps63
    go_wp2
    go_ret
    exact ⟨by first | rfl | (simp; done) | (simp only [← hji4, ← hji6] <;> (first | rfl | simp)) | (simp [*]; done), by repeat (first | exact Drawn0.refl _ | apply Drawn0.step)⟩
  · rw [if_neg c5] at H
    exact absurd H (by simp)

/-! ### scarabref02_yes: function 64 -/
def scarabref02_yes.f (a0 : Bool) : Option (Int) := if a0 = true then (some 1) else (some 0)
set_option maxHeartbeats 8000000 in
set_option maxRecDepth 100000 in
theorem scarabref02_yes.calls (a0 : Bool) (r : Int) (w : World) (h : scarabref02_yes.f a0 = some r) :
    Calls Tryd.prog 64 #[.bool a0] w fun e w' => e = .returned (.int .i64 r) ∧ Drawn0 w w' := by
  have H : (if a0 = true then (some 1) else (some 0)) = some r := h
  clear h
  by_cases c2 : a0 = true
  · subst c2
    have H1 : (some 1) = some r := by rw [if_pos rfl] at H; exact H
    clear H
    have H := H1
    clear H1
    obtain rfl := Option.some.inj H
    go_enter Tryd.func64, Tryd.ntmps64
    go_wp2
    go_ret
    exact ⟨by first | rfl | (simp; done) | (simp [*]; done), by repeat (first | exact Drawn0.refl _ | apply Drawn0.step)⟩
  · replace c2 := Bool.eq_false_iff.mpr c2
    subst c2
    have H1 : (some 0) = some r := by rw [if_neg (show ¬ (false = true) by decide)] at H; exact H
    clear H
    have H := H1
    clear H1
    obtain rfl := Option.some.inj H
    go_enter Tryd.func64, Tryd.ntmps64
    go_wp2
    go_ret
    exact ⟨by first | rfl | (simp; done) | (simp [*]; done), by repeat (first | exact Drawn0.refl _ | apply Drawn0.step)⟩

/-! ### scarabref02_converted: function 65 -/
def scarabref02_converted.l0 : Nat → Int → Int → Bool → Int → Int → Option (Int)
  | 0, _, _, _, _, _ => none
  | k + 1, x0, x1, x2, x7, x8 => if x8 < 64 then (if x8 < x1 then ((scarabref02_bit.f x0 x8).bind fun t170 => ((scarabref02_put.f x7 x8 t170).bind fun t171 => (scarabref02_converted.l0 k x0 x1 x2 t171 (wrap64 (x8 + 1))))) else (if x2 = true then ((scarabref02_bit.f x0 (wrap64 (x1 - 1))).bind fun t172 => ((scarabref02_put.f x7 x8 t172).bind fun t173 => (scarabref02_converted.l0 k x0 x1 x2 t173 (wrap64 (x8 + 1))))) else ((scarabref02_put.f x7 x8 0).bind fun t174 => (scarabref02_converted.l0 k x0 x1 x2 t174 (wrap64 (x8 + 1)))))) else (some x7)
def scarabref02_converted.f (k : Nat) (a0 : Int) (a1 : Int) (a2 : Bool) : Option (Int) := scarabref02_converted.l0 k a0 a1 a2 0 0
theorem scarabref02_converted.mono_l : ∀ k, (∀ y0 y1 y2 y3 y4, LeO (scarabref02_converted.l0 k y0 y1 y2 y3 y4) (scarabref02_converted.l0 (k + 1) y0 y1 y2 y3 y4))
  | 0 => fun _ _ _ _ _ r h => by simp [scarabref02_converted.l0] at h
  | k + 1 => by
    have ih0 := scarabref02_converted.mono_l k
    · intro y0 y1 y2 y3 y4
      unfold scarabref02_converted.l0
      repeat' first
      | (with_reducible exact ih0 _ _ _ _ _)
      | (with_reducible exact LeO.refl _)
      | (with_reducible exact LeO.none _)
      | (with_reducible refine LeO.ite ?_ ?_)
      | (with_reducible refine LeO.bind ?_ (fun _ => ?_))
      | exact ih0 _ _ _ _ _
      | exact LeO.none _
      | refine LeO.ite ?_ ?_
      | refine LeO.bind ?_ (fun _ => ?_)
theorem scarabref02_converted.mono : ∀ a0 a1 a2 k, LeO (scarabref02_converted.f k a0 a1 a2) (scarabref02_converted.f (k + 1) a0 a1 a2) := by
  intro a0 a1 a2 k
  have ih0 := scarabref02_converted.mono_l k
  unfold scarabref02_converted.f
  repeat' first
      | (with_reducible exact ih0 _ _ _ _ _)
      | (with_reducible exact LeO.refl _)
      | (with_reducible exact LeO.none _)
      | (with_reducible refine LeO.ite ?_ ?_)
      | (with_reducible refine LeO.bind ?_ (fun _ => ?_))
      | exact ih0 _ _ _ _ _
      | exact LeO.none _
      | refine LeO.ite ?_ ?_
      | refine LeO.bind ?_ (fun _ => ?_)
set_option maxHeartbeats 8000000 in
set_option maxRecDepth 100000 in
theorem scarabref02_converted.calls (k : Nat) (a0 : Int) (a1 : Int) (a2 : Bool) (r : Int) (w : World) (h : scarabref02_converted.f k a0 a1 a2 = some r) :
    Calls Tryd.prog 65 #[.int .i64 a0, .int .i64 a1, .bool a2] w fun e w' => e = .returned (.int .i64 r) ∧ Drawn0 w w' := by
  have H : (scarabref02_converted.l0 k a0 a1 a2 0 0) = some r := h
  clear h
  have H' := Aside0.mk H
  clear H
  go_enter Tryd.func65, Tryd.ntmps65
  go_wp2
  go_loopg [7, 8] k (fun kq v7 v8 w' => ∃ (x7_1 : Int) (x8_1 : Int), v7 = .int .i64 x7_1 ∧ v8 = .int .i64 x8_1 ∧ Aside0 (scarabref02_converted.l0 kq a0 a1 a2 x7_1 x8_1 = some r) ∧ Aside0 (kq ≤ k) ∧ Drawn0 w w')
  case atStart => exact ⟨(0), (0), (by first | rfl | (simp; done) | (simp [*]; done)), (by first | rfl | (simp; done) | (simp [*]; done)), H', ⟨Nat.le_refl _⟩, by repeat (first | exact Drawn0.refl _ | apply Drawn0.step)⟩
  case round =>
    clear H'
    try clear p2
    obtain ⟨x7_1, x8_1, rfl, rfl, HA, HK1, ⟨m1, rfl⟩⟩ := hrel
    cases gk with
    | zero => exact absurd HA.out (by simp [scarabref02_converted.l0])
    | succ k1 =>
      have H := HA.out
      clear HA
      simp only [scarabref02_converted.l0] at H
      by_cases c4 : x8_1 < 64
      · rw [if_pos c4] at H
        have c4b0 : decide (x8_1 < 64) = true := decide_eq_true c4
        clear c4
        by_cases c5 : x8_1 < a1
        · rw [if_pos c5] at H
          have c5b0 : decide (x8_1 < a1) = true := decide_eq_true c5
          clear c5
          replace H := Option.bind_eq_some_iff.mp H
          obtain ⟨t170, A60, H⟩ := H
          replace H : ((scarabref02_put.f x7_1 x8_1 t170).bind fun t171 => (scarabref02_converted.l0 k1 a0 a1 a2 t171 (wrap64 (x8_1 + 1)))) = some r := H
          have A6 := Aside0.mk A60
          clear A60
          replace H := Option.bind_eq_some_iff.mp H
          obtain ⟨t171, A70, H⟩ := H
          replace H : (scarabref02_converted.l0 k1 a0 a1 a2 t171 (wrap64 (x8_1 + 1))) = some r := H
          have A7 := Aside0.mk A70
          clear A70
          have H' := Aside0.mk H
          clear H
          go_wp2_with (first | ((with_reducible refine gate_callee (f := 42) rfl ?_); refine goesL_ (some 19) rfl rfl Tryd.func42 (by kernel_rfl) rfl #[.int .i64 a0, .int .i64 x8_1] rfl (by (try simp only [List.map_toArray, List.map_cons, List.map_nil]); first | done | rfl | (simp only [List.length_drop, List.length_take]; rfl)) ?_; (with_reducible refine (scarabref02_bit.calls a0 x8_1 t170 _ A6.out).mono ?_); rintro e w' ⟨rfl, ⟨nd, rfl⟩⟩; refine ⟨_, rfl, ?_⟩) | ((with_reducible refine gate_callee (f := 63) rfl ?_); refine goesL_ (some 28) rfl rfl Tryd.func63 (by kernel_rfl) rfl #[.int .i64 x7_1, .int .i64 x8_1, .int .i64 t170] rfl (by (try simp only [List.map_toArray, List.map_cons, List.map_nil]); first | done | rfl | (simp only [List.length_drop, List.length_take]; rfl)) ?_; (with_reducible refine (scarabref02_put.calls x7_1 x8_1 t170 t171 _ A7.out).mono ?_); rintro e w' ⟨rfl, ⟨nd, rfl⟩⟩; refine ⟨_, rfl, ?_⟩))
          go_roundg k1
          case measure => have := HK1.out; omega
          case rel => exact ⟨(t171), (wrap64 (x8_1 + 1)), (by first | rfl | (simp; done) | (simp [*]; done)), (by first | rfl | (simp; done) | (simp [*]; done)), H', ⟨by have := HK1.out; omega⟩, by repeat (first | exact Drawn0.refl _ | apply Drawn0.step)⟩
        · rw [if_neg c5] at H
          have c5b0 : decide (x8_1 < a1) = false := decide_eq_false c5
          clear c5
          by_cases c8 : a2 = true
          · subst c8
            have H1 : ((scarabref02_bit.f a0 (wrap64 (a1 - 1))).bind fun t172 => ((scarabref02_put.f x7_1 x8_1 t172).bind fun t173 => (scarabref02_converted.l0 k1 a0 a1 true t173 (wrap64 (x8_1 + 1))))) = some r := by rw [if_pos rfl] at H; exact H
            clear H
            have H := H1
            clear H1
            replace H := Option.bind_eq_some_iff.mp H
            obtain ⟨t172, A90, H⟩ := H
            replace H : ((scarabref02_put.f x7_1 x8_1 t172).bind fun t173 => (scarabref02_converted.l0 k1 a0 a1 true t173 (wrap64 (x8_1 + 1)))) = some r := H
            have A9 := Aside0.mk A90
            clear A90
            replace H := Option.bind_eq_some_iff.mp H
            obtain ⟨t173, A100, H⟩ := H
            replace H : (scarabref02_converted.l0 k1 a0 a1 true t173 (wrap64 (x8_1 + 1))) = some r := H
            have A10 := Aside0.mk A100
            clear A100
            have H' := Aside0.mk H
            clear H
            go_wp2_with (first | ((with_reducible refine gate_callee (f := 42) rfl ?_); refine goesL_ (some 24) rfl rfl Tryd.func42 (by kernel_rfl) rfl #[.int .i64 a0, .int .i64 (wrap64 (a1 - 1))] rfl (by (try simp only [List.map_toArray, List.map_cons, List.map_nil]); first | done | rfl | (simp only [List.length_drop, List.length_take]; rfl)) ?_; (with_reducible refine (scarabref02_bit.calls a0 (wrap64 (a1 - 1)) t172 _ A9.out).mono ?_); rintro e w' ⟨rfl, ⟨nd, rfl⟩⟩; refine ⟨_, rfl, ?_⟩) | ((with_reducible refine gate_callee (f := 63) rfl ?_); refine goesL_ (some 28) rfl rfl Tryd.func63 (by kernel_rfl) rfl #[.int .i64 x7_1, .int .i64 x8_1, .int .i64 t172] rfl (by (try simp only [List.map_toArray, List.map_cons, List.map_nil]); first | done | rfl | (simp only [List.length_drop, List.length_take]; rfl)) ?_; (with_reducible refine (scarabref02_put.calls x7_1 x8_1 t172 t173 _ A10.out).mono ?_); rintro e w' ⟨rfl, ⟨nd, rfl⟩⟩; refine ⟨_, rfl, ?_⟩))
            go_roundg k1
            case measure => have := HK1.out; omega
            case rel => exact ⟨(t173), (wrap64 (x8_1 + 1)), (by first | rfl | (simp; done) | (simp [*]; done)), (by first | rfl | (simp; done) | (simp [*]; done)), H', ⟨by have := HK1.out; omega⟩, by repeat (first | exact Drawn0.refl _ | apply Drawn0.step)⟩
          · replace c8 := Bool.eq_false_iff.mpr c8
            subst c8
            have H1 : ((scarabref02_put.f x7_1 x8_1 0).bind fun t174 => (scarabref02_converted.l0 k1 a0 a1 false t174 (wrap64 (x8_1 + 1)))) = some r := by rw [if_neg (show ¬ (false = true) by decide)] at H; exact H
            clear H
            have H := H1
            clear H1
            replace H := Option.bind_eq_some_iff.mp H
            obtain ⟨t174, A110, H⟩ := H
            replace H : (scarabref02_converted.l0 k1 a0 a1 false t174 (wrap64 (x8_1 + 1))) = some r := H
            have A11 := Aside0.mk A110
            clear A110
            have H' := Aside0.mk H
            clear H
            go_wp2_with (first | ((with_reducible refine gate_callee (f := 63) rfl ?_); refine goesL_ (some 28) rfl rfl Tryd.func63 (by kernel_rfl) rfl #[.int .i64 x7_1, .int .i64 x8_1, .int .i64 0] rfl (by (try simp only [List.map_toArray, List.map_cons, List.map_nil]); first | done | rfl | (simp only [List.length_drop, List.length_take]; rfl)) ?_; (with_reducible refine (scarabref02_put.calls x7_1 x8_1 0 t174 _ A11.out).mono ?_); rintro e w' ⟨rfl, ⟨nd, rfl⟩⟩; refine ⟨_, rfl, ?_⟩))
            go_roundg k1
            case measure => have := HK1.out; omega
            case rel => exact ⟨(t174), (wrap64 (x8_1 + 1)), (by first | rfl | (simp; done) | (simp [*]; done)), (by first | rfl | (simp; done) | (simp [*]; done)), H', ⟨by have := HK1.out; omega⟩, by repeat (first | exact Drawn0.refl _ | apply Drawn0.step)⟩
      · rw [if_neg c4] at H
        have c4b0 : decide (x8_1 < 64) = false := decide_eq_false c4
        clear c4
        obtain rfl := Option.some.inj H
        go_wp2
        go_ret
        exact ⟨by first | rfl | (simp; done) | (simp [*]; done), by repeat (first | exact Drawn0.refl _ | apply Drawn0.step)⟩

end Go.Proofs.YtckfnbjjghdaoaaDoor.T
