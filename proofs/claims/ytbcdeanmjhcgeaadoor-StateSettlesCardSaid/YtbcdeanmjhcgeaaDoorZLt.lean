/- StateSettles, walked: a program, a state, numbers that came in. The condition: what word.Apply and scarabref02.Apply give is A. -/
import Derived.Test.YtbcdeanmjhcgeaaDoorZk
namespace Go.Proofs.YtbcdeanmjhcgeaaDoor.Pg
set_option linter.unusedVariables false
set_option linter.unusedSimpArgs false
open Go.ChangeShapes Go.WideShapes Go.RowKit
set_option linter.unusedVariables false
set_option linter.unusedSimpArgs false
theorem stl_any {A : Int → Int → Int → Int × Int} {P : Pg} (AI : AluOk A) (AW : AluWhy A) (hx : ∀ f ∈ P.funcs, ∀ x ∈ f.code, x.ok) {s : St} (hs : s.ok) (g f : Int) : (stl A P s g f).1.ok := by
  by_cases c : valid P s = true ∧ 0 ≤ g ∧ g < s.count ∧ 0 ≤ f ∧ f ≤ 4096
  · obtain ⟨c0, c1, c2, c3, c4⟩ := c
    obtain ⟨k, rfl⟩ : ∃ k : Nat, g = k := ⟨g.toNat, by omega⟩
    obtain ⟨n, rfl⟩ : ∃ n : Nat, f = n := ⟨f.toNat, by omega⟩
    exact (stl_ok AI AW hx hs c0 k n c2 (by omega)).1
  · unfold stl
    split
    · split
      · split
        · exact St.none_ok
        · split
          · exact St.none_ok
          · exact absurd ⟨by assumption, by omega, by omega, by omega, by omega⟩ c
      · exact St.none_ok
    · exact St.none_ok
set_option maxHeartbeats 8000000 in
set_option maxRecDepth 100000 in
theorem settles_walk {A : Int → Int → Int → Int × Int} (AI : AluOk A) (AW : AluWhy A) (P : Pg) (s : St) (g f : Int) (w : World) (I : P.In w) (hs : s.ok) (hA : AppW A w) (hB : AppR A w) :
    Calls Tryd.prog 6 #[.agg (caseCs P s g f).toArray] w fun e w' => e = .returned (.bool true) ∧ Below w.heap.size w w' := by
  obtain ⟨k1, k2, kg, kf, k5⟩ := case_cells P hs g f
  have a0 := k1 0 _ rfl; have a1 := k1 1 _ rfl; have a2 := k1 2 _ rfl; have a3 := k1 3 _ rfl
  have cM := Lib.hid (fun W (hb : Below w.heap.size w W) => small_walk AI AW W (hA.below hb))
  have cS := Lib.hid (fun W (hb : Below w.heap.size w W) => settleS_walk AI AW P s g f W (I.below hb) hs (hA.below hb))
  have cR := Lib.hid (fun W (hb : Below w.heap.size w W) => settleR_walk AI AW P s g f W (I.below hb) hs (fun V hV => hB V (hb.trans (hV.mono hb.size))))
  have h121 := St.cs_len hs
  have o1 := stl_any AI AW I.insOk hs g f
  have q3 := Lib.hid (fun W => eq_st o1 W)
  have n1 := Lib.hid (show (stl A P s g f).1.cs.toArray.size = 121 by simpa using St.cs_len o1)
  have p1 := Lib.hid (St.one_cell (s := (stl A P s g f).1))
  have hno := Lib.hid (show Tryd.zeroCells32.size = 121 by rw [zc]; simpa using St.cs_len St.none_ok)
  unfold Pg.v St.v at *
  have kr := Lib.hid (fun (W : World) (b : Nat) (h : ∀ o, W.cell? ⟨b, o, none⟩ = (caseCs P s g f).toArray[o]?) => (fun j v hv => (h (4 + j)).trans (k2 j v hv) : W.rangeAt b 4 s.cs))
  generalize (caseCs P s g f).toArray = arr at *
  clear k1 k2
  replace k5 := Lib.hid k5
  generalize (stl A P s g f).1.cs.toArray = t1 at *
  generalize (stl A P s g f).2 = e5 at *
  clear o1
  go_enter Tryd.func6, Tryd.ntmps6
  have E0 := (Env.nil (w := w)).push w.heap.size rfl arr 52
  have y0 := E0.h0.cell
  go_wp2_with (first
    | (refine wpList_store_mid rfl 32 _ _ rfl w'.heap.size 0 _ rfl rfl ((Blk.new' _ _ _ _ rfl).there _ _ (by rw [hno.out, n1.out]; omega)) (by rw [size32, n1.out]) p1.out ?_
       have hlt4 := E3.h0.lt
       have E4 := Env.setRow (by have := E3.acc.size; omega) (fun p hp => by simp only [List.mem_cons, List.not_mem_nil, or_false] at hp; rcases hp with rfl | rfl <;> (simp only; omega)) t1.toList _ 0 _ (E3.push w'.heap.size rfl Tryd.zeroCells32 32) (by rw [hno.out]; simp [n1.out])
       rw [putRow_all _ _ (by rw [hno.out]; simp [n1.out])] at E4
       simp only [Array.toArray_toList] at E4
       generalize hb4 : w'.heap.size = b4 at E4 hlt4 ⊢
       generalize World.setCells _ _ _ _ = W4 at E4 ⊢
       skip)
    | ((go_at_call 23; ((with_reducible refine (cR.out _ E2.acc).mono ?_); rintro e w' ⟨rfl, hb1⟩)); have E3 := E2.next hb1)
    | (refine list_mid_st rfl _ rfl w.heap.size 4 rfl s.cs h121 (kr.out _ _ y2) ?_)
    | (refine wpList_store_mid rfl 32 _ _ rfl w'.heap.size 0 _ rfl rfl ((Blk.new' _ _ _ _ rfl).there _ _ (by rw [hno.out, n1.out]; omega)) (by rw [size32, n1.out]) p1.out ?_
       have hlt2 := E1.h0.lt
       have E2 := Env.setRow (by have := E1.acc.size; omega) (fun p hp => by simp only [List.mem_cons, List.not_mem_nil, or_false] at hp; rcases hp with rfl <;> (simp only; omega)) t1.toList _ 0 _ (E1.push w'.heap.size rfl Tryd.zeroCells32 32) (by rw [hno.out]; simp [n1.out])
       rw [putRow_all _ _ (by rw [hno.out]; simp [n1.out])] at E2
       simp only [Array.toArray_toList] at E2
       generalize hb2 : w'.heap.size = b2 at E2 hlt2 ⊢
       generalize World.setCells _ _ _ _ = W2 at E2 ⊢
       have y2 := E2.tl.h0.cell)
    | ((go_at_call 22; ((with_reducible refine (cS.out _ E0.acc).mono ?_); rintro e w' ⟨rfl, hb0⟩)); have E1 := E0.next hb0)
    | (refine list_mid_st rfl _ rfl w.heap.size 4 rfl s.cs h121 (kr.out _ _ y0) ?_))
  have q3 := q3.out
  have q4 : ∀ W, (Op.equalIn 10000 32 (.agg t1) (.agg t1)).run Tryd.prog W = .ok true W := q3
  refine load_state _ rfl b2 rfl t1 n1.out E4.tl.h0 ?_
  go_wp2
  refine load_state _ rfl b4 rfl t1 n1.out E4.h0 ?_
  go_wp2_with (first | (go_at_call 19; ((with_reducible refine (cM.out _ E4.acc).mono ?_); rintro e w' ⟨rfl, hb2⟩)))
  go_ret
  exact ⟨rfl, (E4.next hb2).acc⟩
end Go.Proofs.YtbcdeanmjhcgeaaDoor.Pg
