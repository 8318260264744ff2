/- StateValids, walked: a program, a state, numbers that came in. The condition: what word.Apply gives is A. -/
import Derived.Test.YtbcdeanmjhcgeaaDoorZV9
import Derived.Test.YtbcdeanmjhcgeaaDoorZL12
import Derived.Deep.RegionHeld3
namespace Go.Proofs.YtbcdeanmjhcgeaaDoor.Pg
set_option linter.unusedVariables false
set_option linter.unusedSimpArgs false
open Go.ChangeShapes Go.WideShapes Go.RowKit
set_option linter.unusedVariables false
set_option linter.unusedSimpArgs false
/-- A case's cells. -/
def caseCs (P : Pg) (s : St) (g f : Int) : List Value := P.cs ++ (s.cs ++ [.int .i64 g, .int .i64 f])
theorem case_cells (P : Pg) {s : St} (hs : s.ok) (g f : Int) : (∀ (j : Nat) (v : Value), P.cs[j]? = some v → (caseCs P s g f).toArray[j]? = some v) ∧ (∀ (j : Nat) (v : Value), s.cs[j]? = some v → (caseCs P s g f).toArray[4 + j]? = some v) ∧ (caseCs P s g f).toArray[125]? = some (.int .i64 g) ∧ (caseCs P s g f).toArray[126]? = some (.int .i64 f) ∧ (caseCs P s g f).toArray.size = 127 := by
  have h4 : P.cs.length = 4 := rfl
  have h121 := St.cs_len hs
  unfold caseCs
  refine ⟨fun j v hv => ?_, fun j v hv => ?_, ?_, ?_, ?_⟩
  · have := (List.getElem?_eq_some_iff.1 hv).1
    rw [List.getElem?_toArray, List.getElem?_append_left (by omega)]; exact hv
  · have := (List.getElem?_eq_some_iff.1 hv).1
    rw [List.getElem?_toArray, List.getElem?_append_right (by omega), List.getElem?_append_left (by omega), h4, show 4 + j - 4 = j by omega]; exact hv
  · rw [List.getElem?_toArray, List.getElem?_append_right (by omega), List.getElem?_append_right (by omega), h4, h121]; rfl
  · rw [List.getElem?_toArray, List.getElem?_append_right (by omega), List.getElem?_append_right (by omega), h4, h121]; rfl
  · simp [h4, h121]
set_option maxHeartbeats 8000000 in
set_option maxRecDepth 100000 in
theorem valids_walk {A : Int → Int → Int → Int × Int} (AI : AluOk A) (AW : AluWhy A) (P : Pg) (s : St) (g f : Int) (w : World) (I : P.In w) (hs : s.ok) (hA : AppW A w) :
    Calls Tryd.prog 5 #[.agg (caseCs P s g f).toArray] w fun e w' => e = .returned (.bool true) ∧ Below w.heap.size w w' := by
  obtain ⟨k1, k2, _, _, k5⟩ := case_cells P hs g f
  have a0 := k1 0 _ rfl; have a1 := k1 1 _ rfl; have a2 := k1 2 _ rfl; have a3 := k1 3 _ rfl
  obtain ⟨v, hv⟩ : ∃ v, v = valid P s := ⟨_, rfl⟩
  have cV := Lib.hid (fun W (hb : Below w.heap.size w W) => valid_walk P s W (I.below hb) hs)
  have cU := Lib.hid (fun W (hb : Below w.heap.size w W) => rvalid_walk P s W (I.below hb) hs)
  have cM := Lib.hid (fun W (hb : Below w.heap.size w W) => small_walk AI AW W (hA.below hb))
  rw [← hv] at cV cU
  have h121 := St.cs_len hs
  unfold Pg.v St.v at *
  have kr := Lib.hid (fun (W : World) (b : Nat) (h : ∀ o, W.cell? ⟨b, o, none⟩ = (caseCs P s g f).toArray[o]?) => (fun j v hv => (h (4 + j)).trans (k2 j v hv) : W.rangeAt b 4 s.cs))
  generalize (caseCs P s g f).toArray = arr at *
  clear k1 k2 hv
  replace k5 := Lib.hid k5
  go_enter Tryd.func5, Tryd.ntmps5
  have E0 := (Env.nil (w := w)).push w.heap.size rfl arr 52
  go_wp2
  apply wp_toS (Env w [(w.heap.size, arr)])
  · refine wp_region_held_drew (S := (fun W => ∀ o, W.cell? ⟨w.heap.size, o, none⟩ = arr[o]?)) (by kernel_rfl) (by first | exact E0.drew.h0.cell | exact E0.h0.cell) (fun hHeld => ?_)
    refine wpAnyH_take (i := 0) (v := ?_) rfl (by kernel_rfl) (by kernel_rfl) (by kernel_rfl) (fun _ _ _ h => h) (Or.inl ⟨by rfl, ?_⟩) (by assumption) ?_
    rotate_left
    · intro w hSw; (try dsimp only at hSw); go_simp <;> (try with_reducible rfl)
    simp only [Act.put, List.getElem_toArray, List.getElem_cons_zero, List.getElem_cons_succ, List.setIfInBounds_toArray, List.set_cons_zero, List.set_cons_succ]
    refine wpAnyH_take (i := 1) (v := ?_) rfl (by kernel_rfl) (by kernel_rfl) (by kernel_rfl) (fun _ _ _ h => h) (Or.inl ⟨by rfl, ?_⟩) (by assumption) ?_
    rotate_left
    · intro w hSw; (try dsimp only at hSw); go_simp <;> (try with_reducible rfl)
    simp only [Act.put, List.getElem_toArray, List.getElem_cons_zero, List.getElem_cons_succ, List.setIfInBounds_toArray, List.set_cons_zero, List.set_cons_succ]
    refine wpAnyH_take (i := 2) (v := ?_) rfl (by kernel_rfl) (by kernel_rfl) (by kernel_rfl) (fun _ _ _ h => h) (Or.inl ⟨by rfl, ?_⟩) (by assumption) ?_
    rotate_left
    · intro w hSw; (try dsimp only at hSw); go_simp <;> (try with_reducible rfl)
    simp only [Act.put, List.getElem_toArray, List.getElem_cons_zero, List.getElem_cons_succ, List.setIfInBounds_toArray, List.set_cons_zero, List.set_cons_succ]
    refine wpAnyH_take (i := 3) (v := .agg s.cs.toArray) rfl (by kernel_rfl) (by kernel_rfl) (by kernel_rfl) (fun _ _ _ h => h) (yieldsIf_load_mid (by rfl) 32 _ rfl w.heap.size 4 rfl s.cs _ (fun W h => kr.out W _ h) Tryd.underlying32 rfl (by rw [size32, h121])) (by assumption) ?_
    simp only [Act.put, List.getElem_toArray, List.getElem_cons_zero, List.getElem_cons_succ, List.setIfInBounds_toArray, List.set_cons_zero, List.set_cons_succ]
    refine wpAnyH_take (i := 5) (v := ?_) rfl (by kernel_rfl) (by kernel_rfl) (by kernel_rfl) (fun _ _ _ h => h) (Or.inl ⟨by rfl, ?_⟩) (by assumption) ?_
    rotate_left
    · intro w hSw; (try dsimp only at hSw); go_simp <;> (try with_reducible rfl)
    simp only [Act.put, List.getElem_toArray, List.getElem_cons_zero, List.getElem_cons_succ, List.setIfInBounds_toArray, List.set_cons_zero, List.set_cons_succ]
    refine wpAnyH_take (i := 6) (v := ?_) rfl (by kernel_rfl) (by kernel_rfl) (by kernel_rfl) (fun _ _ _ h => h) (Or.inl ⟨by rfl, ?_⟩) (by assumption) ?_
    rotate_left
    · intro w hSw; (try dsimp only at hSw); go_simp <;> (try with_reducible rfl)
    simp only [Act.put, List.getElem_toArray, List.getElem_cons_zero, List.getElem_cons_succ, List.setIfInBounds_toArray, List.set_cons_zero, List.set_cons_succ]
    refine wpAnyH_take (i := 7) (v := ?_) rfl (by kernel_rfl) (by kernel_rfl) (by kernel_rfl) (fun _ _ _ h => h) (Or.inl ⟨by rfl, ?_⟩) (by assumption) ?_
    rotate_left
    · intro w hSw; (try dsimp only at hSw); go_simp <;> (try with_reducible rfl)
    simp only [Act.put, List.getElem_toArray, List.getElem_cons_zero, List.getElem_cons_succ, List.setIfInBounds_toArray, List.set_cons_zero, List.set_cons_succ]
    refine wpAnyH_take (i := 8) (v := .agg s.cs.toArray) rfl (by kernel_rfl) (by kernel_rfl) (by kernel_rfl) (fun _ _ _ h => h) (yieldsIf_load_mid (by rfl) 32 _ rfl w.heap.size 4 rfl s.cs _ (fun W h => kr.out W _ h) Tryd.underlying32 rfl (by rw [size32, h121])) (by assumption) ?_
    simp only [Act.put, List.getElem_toArray, List.getElem_cons_zero, List.getElem_cons_succ, List.setIfInBounds_toArray, List.set_cons_zero, List.set_cons_succ]
    refine wpAnyH_ready (rs := [4]) (by kernel_rfl) (by simp) (AllReadyH.cons rfl (fun K hK => ?_) AllReadyH.nil)
    · skip
      go_simp
      ((go_at_call 20; ((with_reducible refine (cV.out _ E0.drew.acc).mono ?_); rintro e w' ⟨rfl, hb1⟩)))
      try go_wp2_with fail
      refine hK.out _ _ (E0.drew.next hb1).h0.cell (fun hHeld2 => ?_)
      clear hK K hHeld; have hHeld := hHeld2; clear hHeld2
      try simp only [Act.put, List.getElem_toArray, List.getElem_cons_zero, List.getElem_cons_succ, List.setIfInBounds_toArray, List.set_cons_zero, List.set_cons_succ]
      have E1 := E0.drew.next hb1
      refine wpAnyH_ready (rs := [9]) (by kernel_rfl) (by simp) (AllReadyH.cons rfl (fun K hK => ?_) AllReadyH.nil)
      go_simp
      ((go_at_call 21; ((with_reducible refine (cU.out _ E1.acc).mono ?_); rintro e w' ⟨rfl, hb2⟩)))
      try go_wp2_with fail
      refine hK.out _ _ (E1.next hb2).h0.cell (fun hHeld2 => ?_)
      clear hK K hHeld; have hHeld := hHeld2; clear hHeld2
      try simp only [Act.put, List.getElem_toArray, List.getElem_cons_zero, List.getElem_cons_succ, List.setIfInBounds_toArray, List.set_cons_zero, List.set_cons_succ]
      have E2 := E1.next hb2
      refine wpAnyH_take (i := 10) (v := ?_) rfl (by kernel_rfl) (by kernel_rfl) (by kernel_rfl) (fun _ _ _ h => h) (Or.inl ⟨by rfl, ?_⟩) (by assumption) ?_
      rotate_left
      · intro w hSw; (try dsimp only at hSw); go_simp <;> (try with_reducible rfl)
      simp only [Act.put, List.getElem_toArray, List.getElem_cons_zero, List.getElem_cons_succ, List.setIfInBounds_toArray, List.set_cons_zero, List.set_cons_succ]
      refine wpAnyH_take (i := 11) (v := ?_) rfl (by kernel_rfl) (by kernel_rfl) (by kernel_rfl) (fun _ _ _ h => h) (Or.inl ⟨by rfl, ?_⟩) (by assumption) ?_
      rotate_left
      · intro w hSw; (try dsimp only at hSw); go_simp <;> (try with_reducible rfl)
      simp only [Act.put, List.getElem_toArray, List.getElem_cons_zero, List.getElem_cons_succ, List.setIfInBounds_toArray, List.set_cons_zero, List.set_cons_succ]
      refine wpAnyH_ready (rs := [12]) (by kernel_rfl) (by simp) (AllReadyH.cons rfl (fun K hK => ?_) AllReadyH.nil)
      go_simp
      try rw [if_pos (by rfl)]
      ((go_at_call 19; ((with_reducible refine (cM.out _ E2.acc).mono ?_); rintro e w' ⟨rfl, hb3⟩)))
      try go_wp2_with fail
      refine hK.out _ _ (E2.next hb3).h0.cell (fun hHeld2 => ?_)
      clear hK K hHeld; have hHeld := hHeld2; clear hHeld2
      try simp only [Act.put, List.getElem_toArray, List.getElem_cons_zero, List.getElem_cons_succ, List.setIfInBounds_toArray, List.set_cons_zero, List.set_cons_succ]
      have E3 := E2.next hb3
      refine wpAnyH_take (i := 13) (v := ?_) rfl (by kernel_rfl) (by kernel_rfl) (by kernel_rfl) (fun _ _ _ h => h) (Or.inl ⟨by rfl, ?_⟩) (by assumption) ?_
      rotate_left
      · intro w hSw; (try dsimp only at hSw); go_simp <;> (try with_reducible rfl)
      simp only [Act.put, List.getElem_toArray, List.getElem_cons_zero, List.getElem_cons_succ, List.setIfInBounds_toArray, List.set_cons_zero, List.set_cons_succ]
      refine wpAnyH_take (i := 14) (v := ?_) rfl (by kernel_rfl) (by kernel_rfl) (by kernel_rfl) (fun _ _ _ h => h) (Or.inl ⟨by rfl, ?_⟩) (by assumption) ?_
      rotate_left
      · intro w hSw; (try dsimp only at hSw); go_simp <;> (try with_reducible rfl)
      simp only [Act.put, List.getElem_toArray, List.getElem_cons_zero, List.getElem_cons_succ, List.setIfInBounds_toArray, List.set_cons_zero, List.set_cons_succ]
      refine wpAnyH_done (by kernel_rfl) ?_ _
      exact ToS.mk E3
  intro W1 E2
  go_wp2
  go_ret
  exact ⟨rfl, E2.acc⟩
end Go.Proofs.YtbcdeanmjhcgeaaDoor.Pg
