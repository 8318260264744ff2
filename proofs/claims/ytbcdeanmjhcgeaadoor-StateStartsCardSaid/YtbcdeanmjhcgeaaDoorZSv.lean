/- A started state is valid. No condition. -/
import Derived.Test.YtbcdeanmjhcgeaaDoorZe
import Derived.Test.YtbcdeanmjhcgeaaDoorZV8
namespace Go.Proofs.YtbcdeanmjhcgeaaDoor.Pg
set_option linter.unusedVariables false
set_option linter.unusedSimpArgs false
variable {P : Pg}
theorem valid_first (hR : right P = true) (g : Gr) (hg : fits P g = true) (hg2 : g.status ≠ 2) : valid P ((St.first P).setGo 0 g) = true := by
  have R := Rt.of hR
  rw [valid_eq]
  simp only [Bool.and_eq_true]
  refine ⟨hR, by show decide ((1 : Int) ≤ 1 ∧ (1 : Int) ≤ 6) = true; rfl, ?_, ?_, ?_, ?_, ?_⟩
  · refine all_yes fun k hk => ?_
    rw [Bool.or_eq_true, decide_eq_true_eq, decide_eq_true_eq]
    by_cases h : k < P.vars.length
    · exact .inl h
    · refine .inr ?_
      show (P.inits ++ List.replicate (8 - P.vars.length) 0).getD k 0 = 0
      rw [List.getD_eq_getElem?_getD, List.getElem?_append_right (by simp [Pg.inits]; omega), List.getElem?_replicate]
      split <;> rfl
  · refine all_yes fun k hk => ?_
    have e : ((St.first P).setGo 0 g).owner.getD k 0 = 0 := by
      show ([0, 0, 0, 0] : List Int).getD k 0 = 0
      match k, hk with
      | 0, _ | 1, _ | 2, _ | 3, _ => rfl
    rw [e]
    show (decide ((0 : Int) ≤ 0 ∧ (0 : Int) ≤ 1) && _) = true
    simp
  · refine all_yes fun k hk => ?_
    show (if (k : Int) < 1 then fits P (([default, default, default, default, default, default] : List Gr).set 0 g |>.getD k default) else decide ((([default, default, default, default, default, default] : List Gr).set 0 g |>.getD k default) = default)) = true
    match k, hk with
    | 0, _ => simpa using hg
    | 1, _ | 2, _ | 3, _ | 4, _ | 5, _ => simp
  · refine all_yes fun k hk => ?_
    have e : ((St.first P).setGo 0 g).chans.getD k default = default := by
      show ([default, default, default, default] : List Ch).getD k default = default
      match k, hk with
      | 0, _ | 1, _ | 2, _ | 3, _ => rfl
    rw [e]
    by_cases h : k < P.chans.length
    · rw [if_pos h]
      have hc := R.cap k
      unfold chanOk
      show (decide ((0 : Int) ≤ 0 ∧ (0 : Int) ≤ P.chans.getD k 0 ∧ (0 : Int) ≤ 0 ∧ (0 : Int) ≤ 3 ∧ ((0 : Int) = 0 ∨ P.chans.getD k 0 = 0)) && (zeros 0 [0, 0, 0, 0] && (if (0 : Int) = 0 then decide ((0 : Int) = 0 ∧ (0 : Int) = 0) else _))) = true
      rw [show zeros 0 [0, 0, 0, 0] = true from rfl, if_pos rfl]
      generalize P.chans.getD k 0 = n at *
      simp [hc.1]
    · rw [if_neg h]; rfl
  · refine all_yes fun k hk => ?_
    rw [Bool.or_eq_true, decide_eq_true_eq]
    left
    show (([default, default, default, default, default, default] : List Gr).set 0 g |>.getD k default).status ≠ 2
    match k, hk with
    | 0, _ => simpa using hg2
    | 1, _ | 2, _ | 3, _ | 4, _ | 5, _ => exact (by decide : (default : Gr).status ≠ 2)
end Go.Proofs.YtbcdeanmjhcgeaaDoor.Pg
