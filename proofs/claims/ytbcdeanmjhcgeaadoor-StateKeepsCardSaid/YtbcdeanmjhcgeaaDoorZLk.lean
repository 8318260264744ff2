/- StateKeeps, walked: a program, a state, numbers that came in. The condition: what word.Apply gives is A. -/
import Derived.Test.YtbcdeanmjhcgeaaDoorZk
namespace Go.Proofs.YtbcdeanmjhcgeaaDoor.Pg
set_option linter.unusedVariables false
set_option linter.unusedSimpArgs false
open Go.ChangeShapes Go.WideShapes Go.RowKit
set_option linter.unusedVariables false
set_option linter.unusedSimpArgs false
theorem gr_one (q : Gr) : q.cs.toArray.all (·.oneCell') = true := by
  refine all_oneCell_toArray fun v hv => ?_
  simp only [Gr.cs, List.mem_append, List.mem_map, List.mem_cons, List.not_mem_nil, or_false] at hv
  rcases hv with (rfl | rfl | rfl | rfl) | ⟨_, _, rfl⟩ <;> rfl
theorem stl_any_ok {A : Int → Int → Int → Int × Int} {P : Pg} (AI : AluOk A) (AW : AluWhy A) (hx : ∀ f ∈ P.funcs, ∀ x ∈ f.code, x.ok) {s : St} (hs : s.ok) (g f : Int) : (stl A P s g f).1.ok := by
  by_cases c : valid P s = true ∧ 0 ≤ g ∧ g < s.count ∧ 0 ≤ f ∧ f ≤ 4096
  · obtain ⟨c0, c1, c2, c3, c4⟩ := c
    obtain ⟨k, rfl⟩ : ∃ k : Nat, g = k := ⟨g.toNat, by omega⟩
    obtain ⟨n, rfl⟩ : ∃ n : Nat, f = n := ⟨f.toNat, by omega⟩
    exact (stl_ok AI AW hx hs c0 k n c2 (by omega)).1
  · unfold stl
    split
    · split
      · split
        · exact St.none_ok
        · split
          · exact St.none_ok
          · exact absurd ⟨by assumption, by omega, by omega, by omega, by omega⟩ c
      · exact St.none_ok
    · exact St.none_ok
theorem stl_bad {A : Int → Int → Int → Int × Int} {P : Pg} {s : St} {g f : Int} (h : ¬ (valid P s = true ∧ 0 ≤ g ∧ g < s.count ∧ 0 ≤ f ∧ f ≤ 4096)) : (stl A P s g f).2 ≠ 0 := by
  unfold stl
  split
  · split
    · split
      · simp
      · split
        · simp
        · exact absurd ⟨by assumption, by omega, by omega, by omega, by omega⟩ h
    · simp
  · simp
theorem strt_ok {A : Int → Int → Int → Int × Int} {P : Pg} (AI : AluOk A) (AW : AluWhy A) {w : World} (I : P.In w) (hR : right P = true) : (strt A P 9).1.ok ∧ valid P (strt A P 9).1 = true ∧ (strt A P 9).2 = 0 := by
  have R := Rt.of hR
  have hz := neat_zero R
  have hf := settle_fits (A := A) R AI AW I.insOk 9 _ hz
  have hs := Stood.settle R AI AW I.insOk 9 _ hz.1
  have e : strt A P 9 = ((St.first P).setGo 0 (settle A P 9 Gr.zero.live), 0) := by unfold strt; rw [if_pos hR]; rfl
  rw [e]
  exact ⟨St.setGo_ok (St.first_ok R.nv I.inits) 0 hs.ok, valid_first hR _ hf.1 hf.2, rfl⟩
theorem strt_bad {A : Int → Int → Int → Int × Int} {P : Pg} (hR : right P = false) : strt A P 9 = (St.none, 3) := by unfold strt; rw [hR]; rfl
set_option maxHeartbeats 8000000 in
set_option maxRecDepth 100000 in
theorem keeps_k1 {A : Int → Int → Int → Int × Int} (AI : AluOk A) (AW : AluWhy A) (P : Pg) (s : St) (g f : Int) (w : World) (I : P.In w) (hs : s.ok) (hA : AppW A w) (h : right P = false) :
    Calls Tryd.prog 7 #[.agg (caseCs P s g f).toArray] w fun e w' => e = .returned (.bool true) ∧ Below w.heap.size w w' := by
  obtain ⟨k1, k2, kg, kf, k5⟩ := case_cells P hs g f
  have a0 := k1 0 _ rfl; have a1 := k1 1 _ rfl; have a2 := k1 2 _ rfl; have a3 := k1 3 _ rfl
  have kc := k2 120 (.int .i64 s.count) (by simpa using St.get_count hs)
  simp only [Nat.reduceAdd] at kc
  have cU := Lib.hid (fun W (hb : Below w.heap.size w W) => rvalid_walk P s W (I.below hb) hs)
  have h121 := St.cs_len hs
  have hx := I.insOk
  have cR := Lib.hid (fun W (hb : Below w.heap.size w W) => rright_walk P W (I.below hb))
  have cS := Lib.hid (fun W (hb : Below w.heap.size w W) => startS_walk AI AW P 9 W (I.below hb) (hA.below hb))
  have cT := Lib.hid (fun W (hb : Below w.heap.size w W) => settleS_walk AI AW P s g f W (I.below hb) hs (hA.below hb))
  have o1 := stl_any_ok AI AW hx hs g f
  have hR := h
  have hvf : valid P s = false := by cases hq : valid P s with | false => rfl | true => (have := valid_right hq; rw [hR] at this; cases this)
  rw [hvf] at cU
  have hbad : ¬ (valid P s = true ∧ 0 ≤ g ∧ g < s.count ∧ 0 ≤ f ∧ f ≤ 4096) := by rw [hvf]; simp
  clear hvf
  rw [hR] at cR
  have o0 := St.none_ok
  rw [strt_bad hR] at cS
  have n0 := Lib.hid (show St.none.cs.toArray.size = 121 by simpa using St.cs_len o0)
  have p0 := Lib.hid (St.one_cell (s := St.none))
  have n1 := Lib.hid (show (stl A P s g f).1.cs.toArray.size = 121 by simpa using St.cs_len o1)
  have p1 := Lib.hid (St.one_cell (s := (stl A P s g f).1))
  have hno := Lib.hid (show Tryd.zeroCells32.size = 121 by rw [zc]; simpa using St.cs_len St.none_ok)
  have r5 := stl_bad (A := A) hbad
  have r6 : ((stl A P s g f).2 == 0) = false := by simpa using r5
  have r7 : ((stl A P s g f).2 != 0) = true := by simpa using r5
  clear r5 hbad
  unfold Pg.v St.v at *
  have kr := Lib.hid (fun (W : World) (b : Nat) (h : ∀ o, W.cell? ⟨b, o, none⟩ = (caseCs P s g f).toArray[o]?) => (fun j v hv => (h (4 + j)).trans (k2 j v hv) : W.rangeAt b 4 s.cs))
  generalize (caseCs P s g f).toArray = arr at *
  clear k1 k2
  replace k5 := Lib.hid k5
  generalize St.none.cs.toArray = s0 at *
  generalize (stl A P s g f).1.cs.toArray = t1 at *
  generalize (stl A P s g f).2 = e5 at *
  clear o0 o1 hx h
  clear hR
  go_enter Tryd.func7, Tryd.ntmps7
  have E0 := (Env.nil (w := w)).push w.heap.size rfl arr 52
  have y0 := E0.h0.cell
  go_wp2_with (first
    | ((go_at_call 21; ((with_reducible refine (cU.out _ E6.acc).mono ?_); rintro e w' ⟨rfl, hb4⟩)); have E7 := E6.next hb4; have y7 := E7.tl.tl.h0.cell)
    | (refine list_mid_st rfl _ rfl w.heap.size 4 rfl s.cs h121 (kr.out _ _ y6) ?_)
    | (refine wpList_store_mid rfl 32 _ _ rfl w'.heap.size 0 _ rfl rfl ((Blk.new' _ _ _ _ rfl).there _ _ (by rw [hno.out, n1.out]; omega)) (by rw [size32, n1.out]) p1.out ?_
       have hlt6 := E5.h0.lt
       have E6 := Env.setRow (by have := E5.acc.size; omega) (fun p hp => by simp only [List.mem_cons, List.not_mem_nil, or_false] at hp; rcases hp with rfl | rfl <;> (simp only; omega)) t1.toList _ 0 _ (E5.push w'.heap.size rfl Tryd.zeroCells32 32) (by rw [hno.out]; simp [n1.out])
       rw [putRow_all _ _ (by rw [hno.out]; simp [n1.out])] at E6
       simp only [Array.toArray_toList] at E6
       generalize hb6 : w'.heap.size = b6 at E6 hlt6 ⊢
       generalize World.setCells _ _ _ _ = W6 at E6 ⊢
       have y6 := E6.tl.tl.h0.cell)
    | ((go_at_call 22; ((with_reducible refine (cT.out _ E3.acc).mono ?_); rintro e w' ⟨rfl, hb3⟩)); have E5 := E3.next hb3)
    | (refine list_mid_st rfl _ rfl w.heap.size 4 rfl s.cs h121 (kr.out _ _ y3) ?_)
    | (have E4 := E3; have y4 := y3; fail)
    | ((go_at_call 24; ((with_reducible refine (cR.out _ E2.acc).mono ?_); rintro e w' ⟨rfl, hb1⟩)); have E3 := E2.next hb1; have y3 := E3.tl.h0.cell)
    | (refine wpList_store_mid rfl 32 _ _ rfl w'.heap.size 0 _ rfl rfl ((Blk.new' _ _ _ _ rfl).there _ _ (by rw [hno.out, n0.out]; omega)) (by rw [size32, n0.out]) p0.out ?_
       have hlt2 := E1.h0.lt
       have E2 := Env.setRow (by have := E1.acc.size; omega) (fun p hp => by simp only [List.mem_cons, List.not_mem_nil, or_false] at hp; rcases hp with rfl <;> (simp only; omega)) s0.toList _ 0 _ (E1.push w'.heap.size rfl Tryd.zeroCells32 32) (by rw [hno.out]; simp [n0.out])
       rw [putRow_all _ _ (by rw [hno.out]; simp [n0.out])] at E2
       simp only [Array.toArray_toList] at E2
       generalize hb2 : w'.heap.size = b2 at E2 hlt2 ⊢
       generalize World.setCells _ _ _ _ = W2 at E2 ⊢
       have y2 := E2.tl.h0.cell)
    | ((go_at_call 16; ((with_reducible refine (cS.out _ E0.acc).mono ?_); rintro e w' ⟨rfl, hb0⟩)); have E1 := E0.next hb0))
  go_ret
  exact ⟨rfl, E7.acc⟩
set_option maxHeartbeats 8000000 in
set_option maxRecDepth 100000 in
theorem keeps_k2 {A : Int → Int → Int → Int × Int} (AI : AluOk A) (AW : AluWhy A) (P : Pg) (s : St) (g f : Int) (w : World) (I : P.In w) (hs : s.ok) (hA : AppW A w) (h : right P = true ∧ valid P s = false) :
    Calls Tryd.prog 7 #[.agg (caseCs P s g f).toArray] w fun e w' => e = .returned (.bool true) ∧ Below w.heap.size w w' := by
  obtain ⟨k1, k2, kg, kf, k5⟩ := case_cells P hs g f
  have a0 := k1 0 _ rfl; have a1 := k1 1 _ rfl; have a2 := k1 2 _ rfl; have a3 := k1 3 _ rfl
  have kc := k2 120 (.int .i64 s.count) (by simpa using St.get_count hs)
  simp only [Nat.reduceAdd] at kc
  have cU := Lib.hid (fun W (hb : Below w.heap.size w W) => rvalid_walk P s W (I.below hb) hs)
  have h121 := St.cs_len hs
  have hx := I.insOk
  have cR := Lib.hid (fun W (hb : Below w.heap.size w W) => rright_walk P W (I.below hb))
  have cS := Lib.hid (fun W (hb : Below w.heap.size w W) => startS_walk AI AW P 9 W (I.below hb) (hA.below hb))
  have cT := Lib.hid (fun W (hb : Below w.heap.size w W) => settleS_walk AI AW P s g f W (I.below hb) hs (hA.below hb))
  have o1 := stl_any_ok AI AW hx hs g f
  have hR := h.1
  rw [h.2] at cU
  have hbad : ¬ (valid P s = true ∧ 0 ≤ g ∧ g < s.count ∧ 0 ≤ f ∧ f ≤ 4096) := by rw [h.2]; simp
  rw [hR] at cR
  obtain ⟨o0, v0, e0⟩ := strt_ok AI AW I hR
  have cV := Lib.hid (fun W (hb : Below w.heap.size w W) => valid_walk P _ W (I.below hb) o0)
  rw [v0] at cV
  rw [e0] at cS
  have n0 := Lib.hid (show (strt A P 9).1.cs.toArray.size = 121 by simpa using St.cs_len o0)
  have p0 := Lib.hid (St.one_cell (s := (strt A P 9).1))
  have n1 := Lib.hid (show (stl A P s g f).1.cs.toArray.size = 121 by simpa using St.cs_len o1)
  have p1 := Lib.hid (St.one_cell (s := (stl A P s g f).1))
  have hno := Lib.hid (show Tryd.zeroCells32.size = 121 by rw [zc]; simpa using St.cs_len St.none_ok)
  have r5 := stl_bad (A := A) hbad
  have r6 : ((stl A P s g f).2 == 0) = false := by simpa using r5
  have r7 : ((stl A P s g f).2 != 0) = true := by simpa using r5
  clear r5 hbad
  unfold Pg.v St.v at *
  have kr := Lib.hid (fun (W : World) (b : Nat) (h : ∀ o, W.cell? ⟨b, o, none⟩ = (caseCs P s g f).toArray[o]?) => (fun j v hv => (h (4 + j)).trans (k2 j v hv) : W.rangeAt b 4 s.cs))
  generalize (caseCs P s g f).toArray = arr at *
  clear k1 k2
  replace k5 := Lib.hid k5
  generalize (strt A P 9).1.cs.toArray = s0 at *
  generalize (stl A P s g f).1.cs.toArray = t1 at *
  generalize (stl A P s g f).2 = e5 at *
  clear o0 o1 hx h v0 e0
  clear hR
  go_enter Tryd.func7, Tryd.ntmps7
  have E0 := (Env.nil (w := w)).push w.heap.size rfl arr 52
  have y0 := E0.h0.cell
  go_wp2_with (first
    | ((go_at_call 24; ((with_reducible refine (cR.out _ E2.acc).mono ?_); rintro e w' ⟨rfl, hb1⟩)); have E3 := E2.next hb1; have y3 := E3.tl.h0.cell)
    | (refine wpList_store_mid rfl 32 _ _ rfl w'.heap.size 0 _ rfl rfl ((Blk.new' _ _ _ _ rfl).there _ _ (by rw [hno.out, n0.out]; omega)) (by rw [size32, n0.out]) p0.out ?_
       have hlt2 := E1.h0.lt
       have E2 := Env.setRow (by have := E1.acc.size; omega) (fun p hp => by simp only [List.mem_cons, List.not_mem_nil, or_false] at hp; rcases hp with rfl <;> (simp only; omega)) s0.toList _ 0 _ (E1.push w'.heap.size rfl Tryd.zeroCells32 32) (by rw [hno.out]; simp [n0.out])
       rw [putRow_all _ _ (by rw [hno.out]; simp [n0.out])] at E2
       simp only [Array.toArray_toList] at E2
       generalize hb2 : w'.heap.size = b2 at E2 hlt2 ⊢
       generalize World.setCells _ _ _ _ = W2 at E2 ⊢
       have y2 := E2.tl.h0.cell)
    | ((go_at_call 16; ((with_reducible refine (cS.out _ E0.acc).mono ?_); rintro e w' ⟨rfl, hb0⟩)); have E1 := E0.next hb0))
  refine load_state _ rfl b2 rfl s0 n0.out E3.h0 ?_
  go_wp2_with (first
    | ((go_at_call 21; ((with_reducible refine (cU.out _ E6.acc).mono ?_); rintro e w' ⟨rfl, hb4⟩)); have E7 := E6.next hb4; have y7 := E7.tl.tl.h0.cell)
    | (refine list_mid_st rfl _ rfl w.heap.size 4 rfl s.cs h121 (kr.out _ _ y6) ?_)
    | (refine wpList_store_mid rfl 32 _ _ rfl w'.heap.size 0 _ rfl rfl ((Blk.new' _ _ _ _ rfl).there _ _ (by rw [hno.out, n1.out]; omega)) (by rw [size32, n1.out]) p1.out ?_
       have hlt6 := E5.h0.lt
       have E6 := Env.setRow (by have := E5.acc.size; omega) (fun p hp => by simp only [List.mem_cons, List.not_mem_nil, or_false] at hp; rcases hp with rfl | rfl <;> (simp only; omega)) t1.toList _ 0 _ (E5.push w'.heap.size rfl Tryd.zeroCells32 32) (by rw [hno.out]; simp [n1.out])
       rw [putRow_all _ _ (by rw [hno.out]; simp [n1.out])] at E6
       simp only [Array.toArray_toList] at E6
       generalize hb6 : w'.heap.size = b6 at E6 hlt6 ⊢
       generalize World.setCells _ _ _ _ = W6 at E6 ⊢
       have y6 := E6.tl.tl.h0.cell)
    | ((go_at_call 22; ((with_reducible refine (cT.out _ E4.acc).mono ?_); rintro e w' ⟨rfl, hb3⟩)); have E5 := E4.next hb3)
    | (refine list_mid_st rfl _ rfl w.heap.size 4 rfl s.cs h121 (kr.out _ _ y4) ?_)
    | ((go_at_call 20; ((with_reducible refine (cV.out _ E3.acc).mono ?_); rintro e w' ⟨rfl, hb2⟩)); have E4 := E3.next hb2; have y4 := E4.tl.h0.cell))
  go_ret
  exact ⟨rfl, E7.acc⟩
set_option maxHeartbeats 8000000 in
set_option maxRecDepth 100000 in
theorem keeps_k3 {A : Int → Int → Int → Int × Int} (AI : AluOk A) (AW : AluWhy A) (P : Pg) (s : St) (g f : Int) (w : World) (I : P.In w) (hs : s.ok) (hA : AppW A w) (h : valid P s = true ∧ g < 0) :
    Calls Tryd.prog 7 #[.agg (caseCs P s g f).toArray] w fun e w' => e = .returned (.bool true) ∧ Below w.heap.size w w' := by
  obtain ⟨k1, k2, kg, kf, k5⟩ := case_cells P hs g f
  have a0 := k1 0 _ rfl; have a1 := k1 1 _ rfl; have a2 := k1 2 _ rfl; have a3 := k1 3 _ rfl
  have kc := k2 120 (.int .i64 s.count) (by simpa using St.get_count hs)
  simp only [Nat.reduceAdd] at kc
  have cU := Lib.hid (fun W (hb : Below w.heap.size w W) => rvalid_walk P s W (I.below hb) hs)
  have h121 := St.cs_len hs
  have hx := I.insOk
  have cR := Lib.hid (fun W (hb : Below w.heap.size w W) => rright_walk P W (I.below hb))
  have cS := Lib.hid (fun W (hb : Below w.heap.size w W) => startS_walk AI AW P 9 W (I.below hb) (hA.below hb))
  have cT := Lib.hid (fun W (hb : Below w.heap.size w W) => settleS_walk AI AW P s g f W (I.below hb) hs (hA.below hb))
  have o1 := stl_any_ok AI AW hx hs g f
  have hR := valid_right h.1
  rw [h.1] at cU
  have hbad : ¬ (valid P s = true ∧ 0 ≤ g ∧ g < s.count ∧ 0 ≤ f ∧ f ≤ 4096) := by omega
  have d1 : decide (g < 0) = true := by simp; omega
  rw [hR] at cR
  obtain ⟨o0, v0, e0⟩ := strt_ok AI AW I hR
  have cV := Lib.hid (fun W (hb : Below w.heap.size w W) => valid_walk P _ W (I.below hb) o0)
  rw [v0] at cV
  rw [e0] at cS
  have n0 := Lib.hid (show (strt A P 9).1.cs.toArray.size = 121 by simpa using St.cs_len o0)
  have p0 := Lib.hid (St.one_cell (s := (strt A P 9).1))
  have n1 := Lib.hid (show (stl A P s g f).1.cs.toArray.size = 121 by simpa using St.cs_len o1)
  have p1 := Lib.hid (St.one_cell (s := (stl A P s g f).1))
  have hno := Lib.hid (show Tryd.zeroCells32.size = 121 by rw [zc]; simpa using St.cs_len St.none_ok)
  have r5 := stl_bad (A := A) hbad
  have r6 : ((stl A P s g f).2 == 0) = false := by simpa using r5
  have r7 : ((stl A P s g f).2 != 0) = true := by simpa using r5
  clear r5 hbad
  unfold Pg.v St.v at *
  have kr := Lib.hid (fun (W : World) (b : Nat) (h : ∀ o, W.cell? ⟨b, o, none⟩ = (caseCs P s g f).toArray[o]?) => (fun j v hv => (h (4 + j)).trans (k2 j v hv) : W.rangeAt b 4 s.cs))
  generalize (caseCs P s g f).toArray = arr at *
  clear k1 k2
  replace k5 := Lib.hid k5
  generalize (strt A P 9).1.cs.toArray = s0 at *
  generalize (stl A P s g f).1.cs.toArray = t1 at *
  generalize (stl A P s g f).2 = e5 at *
  clear o0 o1 hx h v0 e0
  clear hR
  go_enter Tryd.func7, Tryd.ntmps7
  have E0 := (Env.nil (w := w)).push w.heap.size rfl arr 52
  have y0 := E0.h0.cell
  go_wp2_with (first
    | ((go_at_call 24; ((with_reducible refine (cR.out _ E2.acc).mono ?_); rintro e w' ⟨rfl, hb1⟩)); have E3 := E2.next hb1; have y3 := E3.tl.h0.cell)
    | (refine wpList_store_mid rfl 32 _ _ rfl w'.heap.size 0 _ rfl rfl ((Blk.new' _ _ _ _ rfl).there _ _ (by rw [hno.out, n0.out]; omega)) (by rw [size32, n0.out]) p0.out ?_
       have hlt2 := E1.h0.lt
       have E2 := Env.setRow (by have := E1.acc.size; omega) (fun p hp => by simp only [List.mem_cons, List.not_mem_nil, or_false] at hp; rcases hp with rfl <;> (simp only; omega)) s0.toList _ 0 _ (E1.push w'.heap.size rfl Tryd.zeroCells32 32) (by rw [hno.out]; simp [n0.out])
       rw [putRow_all _ _ (by rw [hno.out]; simp [n0.out])] at E2
       simp only [Array.toArray_toList] at E2
       generalize hb2 : w'.heap.size = b2 at E2 hlt2 ⊢
       generalize World.setCells _ _ _ _ = W2 at E2 ⊢
       have y2 := E2.tl.h0.cell)
    | ((go_at_call 16; ((with_reducible refine (cS.out _ E0.acc).mono ?_); rintro e w' ⟨rfl, hb0⟩)); have E1 := E0.next hb0))
  refine load_state _ rfl b2 rfl s0 n0.out E3.h0 ?_
  go_wp2_with (first
    | ((go_at_call 21; ((with_reducible refine (cU.out _ E6.acc).mono ?_); rintro e w' ⟨rfl, hb4⟩)); have E7 := E6.next hb4; have y7 := E7.tl.tl.h0.cell)
    | (refine list_mid_st rfl _ rfl w.heap.size 4 rfl s.cs h121 (kr.out _ _ y6) ?_)
    | (refine wpList_store_mid rfl 32 _ _ rfl w'.heap.size 0 _ rfl rfl ((Blk.new' _ _ _ _ rfl).there _ _ (by rw [hno.out, n1.out]; omega)) (by rw [size32, n1.out]) p1.out ?_
       have hlt6 := E5.h0.lt
       have E6 := Env.setRow (by have := E5.acc.size; omega) (fun p hp => by simp only [List.mem_cons, List.not_mem_nil, or_false] at hp; rcases hp with rfl | rfl <;> (simp only; omega)) t1.toList _ 0 _ (E5.push w'.heap.size rfl Tryd.zeroCells32 32) (by rw [hno.out]; simp [n1.out])
       rw [putRow_all _ _ (by rw [hno.out]; simp [n1.out])] at E6
       simp only [Array.toArray_toList] at E6
       generalize hb6 : w'.heap.size = b6 at E6 hlt6 ⊢
       generalize World.setCells _ _ _ _ = W6 at E6 ⊢
       have y6 := E6.tl.tl.h0.cell)
    | ((go_at_call 22; ((with_reducible refine (cT.out _ E4.acc).mono ?_); rintro e w' ⟨rfl, hb3⟩)); have E5 := E4.next hb3)
    | (refine list_mid_st rfl _ rfl w.heap.size 4 rfl s.cs h121 (kr.out _ _ y4) ?_)
    | ((go_at_call 20; ((with_reducible refine (cV.out _ E3.acc).mono ?_); rintro e w' ⟨rfl, hb2⟩)); have E4 := E3.next hb2; have y4 := E4.tl.h0.cell))
  go_ret
  exact ⟨rfl, E7.acc⟩
set_option maxHeartbeats 8000000 in
set_option maxRecDepth 100000 in
theorem keeps_k4 {A : Int → Int → Int → Int × Int} (AI : AluOk A) (AW : AluWhy A) (P : Pg) (s : St) (g f : Int) (w : World) (I : P.In w) (hs : s.ok) (hA : AppW A w) (h : valid P s = true ∧ ¬ g < 0 ∧ s.count ≤ g) :
    Calls Tryd.prog 7 #[.agg (caseCs P s g f).toArray] w fun e w' => e = .returned (.bool true) ∧ Below w.heap.size w w' := by
  obtain ⟨k1, k2, kg, kf, k5⟩ := case_cells P hs g f
  have a0 := k1 0 _ rfl; have a1 := k1 1 _ rfl; have a2 := k1 2 _ rfl; have a3 := k1 3 _ rfl
  have kc := k2 120 (.int .i64 s.count) (by simpa using St.get_count hs)
  simp only [Nat.reduceAdd] at kc
  have cU := Lib.hid (fun W (hb : Below w.heap.size w W) => rvalid_walk P s W (I.below hb) hs)
  have h121 := St.cs_len hs
  have hx := I.insOk
  have cR := Lib.hid (fun W (hb : Below w.heap.size w W) => rright_walk P W (I.below hb))
  have cS := Lib.hid (fun W (hb : Below w.heap.size w W) => startS_walk AI AW P 9 W (I.below hb) (hA.below hb))
  have cT := Lib.hid (fun W (hb : Below w.heap.size w W) => settleS_walk AI AW P s g f W (I.below hb) hs (hA.below hb))
  have o1 := stl_any_ok AI AW hx hs g f
  have hR := valid_right h.1
  rw [h.1] at cU
  have hbad : ¬ (valid P s = true ∧ 0 ≤ g ∧ g < s.count ∧ 0 ≤ f ∧ f ≤ 4096) := by omega
  have d1 : decide (g < 0) = false := by simp; omega
  have d2 : decide (s.count ≤ g) = true := by simp; omega
  rw [hR] at cR
  obtain ⟨o0, v0, e0⟩ := strt_ok AI AW I hR
  have cV := Lib.hid (fun W (hb : Below w.heap.size w W) => valid_walk P _ W (I.below hb) o0)
  rw [v0] at cV
  rw [e0] at cS
  have n0 := Lib.hid (show (strt A P 9).1.cs.toArray.size = 121 by simpa using St.cs_len o0)
  have p0 := Lib.hid (St.one_cell (s := (strt A P 9).1))
  have n1 := Lib.hid (show (stl A P s g f).1.cs.toArray.size = 121 by simpa using St.cs_len o1)
  have p1 := Lib.hid (St.one_cell (s := (stl A P s g f).1))
  have hno := Lib.hid (show Tryd.zeroCells32.size = 121 by rw [zc]; simpa using St.cs_len St.none_ok)
  have r5 := stl_bad (A := A) hbad
  have r6 : ((stl A P s g f).2 == 0) = false := by simpa using r5
  have r7 : ((stl A P s g f).2 != 0) = true := by simpa using r5
  clear r5 hbad
  unfold Pg.v St.v at *
  have kr := Lib.hid (fun (W : World) (b : Nat) (h : ∀ o, W.cell? ⟨b, o, none⟩ = (caseCs P s g f).toArray[o]?) => (fun j v hv => (h (4 + j)).trans (k2 j v hv) : W.rangeAt b 4 s.cs))
  generalize (caseCs P s g f).toArray = arr at *
  clear k1 k2
  replace k5 := Lib.hid k5
  generalize (strt A P 9).1.cs.toArray = s0 at *
  generalize (stl A P s g f).1.cs.toArray = t1 at *
  generalize (stl A P s g f).2 = e5 at *
  clear o0 o1 hx h v0 e0
  clear hR
  go_enter Tryd.func7, Tryd.ntmps7
  have E0 := (Env.nil (w := w)).push w.heap.size rfl arr 52
  have y0 := E0.h0.cell
  go_wp2_with (first
    | ((go_at_call 24; ((with_reducible refine (cR.out _ E2.acc).mono ?_); rintro e w' ⟨rfl, hb1⟩)); have E3 := E2.next hb1; have y3 := E3.tl.h0.cell)
    | (refine wpList_store_mid rfl 32 _ _ rfl w'.heap.size 0 _ rfl rfl ((Blk.new' _ _ _ _ rfl).there _ _ (by rw [hno.out, n0.out]; omega)) (by rw [size32, n0.out]) p0.out ?_
       have hlt2 := E1.h0.lt
       have E2 := Env.setRow (by have := E1.acc.size; omega) (fun p hp => by simp only [List.mem_cons, List.not_mem_nil, or_false] at hp; rcases hp with rfl <;> (simp only; omega)) s0.toList _ 0 _ (E1.push w'.heap.size rfl Tryd.zeroCells32 32) (by rw [hno.out]; simp [n0.out])
       rw [putRow_all _ _ (by rw [hno.out]; simp [n0.out])] at E2
       simp only [Array.toArray_toList] at E2
       generalize hb2 : w'.heap.size = b2 at E2 hlt2 ⊢
       generalize World.setCells _ _ _ _ = W2 at E2 ⊢
       have y2 := E2.tl.h0.cell)
    | ((go_at_call 16; ((with_reducible refine (cS.out _ E0.acc).mono ?_); rintro e w' ⟨rfl, hb0⟩)); have E1 := E0.next hb0))
  refine load_state _ rfl b2 rfl s0 n0.out E3.h0 ?_
  go_wp2_with (first
    | ((go_at_call 21; ((with_reducible refine (cU.out _ E6.acc).mono ?_); rintro e w' ⟨rfl, hb4⟩)); have E7 := E6.next hb4; have y7 := E7.tl.tl.h0.cell)
    | (refine list_mid_st rfl _ rfl w.heap.size 4 rfl s.cs h121 (kr.out _ _ y6) ?_)
    | (refine wpList_store_mid rfl 32 _ _ rfl w'.heap.size 0 _ rfl rfl ((Blk.new' _ _ _ _ rfl).there _ _ (by rw [hno.out, n1.out]; omega)) (by rw [size32, n1.out]) p1.out ?_
       have hlt6 := E5.h0.lt
       have E6 := Env.setRow (by have := E5.acc.size; omega) (fun p hp => by simp only [List.mem_cons, List.not_mem_nil, or_false] at hp; rcases hp with rfl | rfl <;> (simp only; omega)) t1.toList _ 0 _ (E5.push w'.heap.size rfl Tryd.zeroCells32 32) (by rw [hno.out]; simp [n1.out])
       rw [putRow_all _ _ (by rw [hno.out]; simp [n1.out])] at E6
       simp only [Array.toArray_toList] at E6
       generalize hb6 : w'.heap.size = b6 at E6 hlt6 ⊢
       generalize World.setCells _ _ _ _ = W6 at E6 ⊢
       have y6 := E6.tl.tl.h0.cell)
    | ((go_at_call 22; ((with_reducible refine (cT.out _ E4.acc).mono ?_); rintro e w' ⟨rfl, hb3⟩)); have E5 := E4.next hb3)
    | (refine list_mid_st rfl _ rfl w.heap.size 4 rfl s.cs h121 (kr.out _ _ y4) ?_)
    | ((go_at_call 20; ((with_reducible refine (cV.out _ E3.acc).mono ?_); rintro e w' ⟨rfl, hb2⟩)); have E4 := E3.next hb2; have y4 := E4.tl.h0.cell))
  go_ret
  exact ⟨rfl, E7.acc⟩
set_option maxHeartbeats 8000000 in
set_option maxRecDepth 100000 in
theorem keeps_k5 {A : Int → Int → Int → Int × Int} (AI : AluOk A) (AW : AluWhy A) (P : Pg) (s : St) (g f : Int) (w : World) (I : P.In w) (hs : s.ok) (hA : AppW A w) (h : valid P s = true ∧ ¬ g < 0 ∧ ¬ s.count ≤ g ∧ f < 0) :
    Calls Tryd.prog 7 #[.agg (caseCs P s g f).toArray] w fun e w' => e = .returned (.bool true) ∧ Below w.heap.size w w' := by
  obtain ⟨k1, k2, kg, kf, k5⟩ := case_cells P hs g f
  have a0 := k1 0 _ rfl; have a1 := k1 1 _ rfl; have a2 := k1 2 _ rfl; have a3 := k1 3 _ rfl
  have kc := k2 120 (.int .i64 s.count) (by simpa using St.get_count hs)
  simp only [Nat.reduceAdd] at kc
  have cU := Lib.hid (fun W (hb : Below w.heap.size w W) => rvalid_walk P s W (I.below hb) hs)
  have h121 := St.cs_len hs
  have hx := I.insOk
  have cR := Lib.hid (fun W (hb : Below w.heap.size w W) => rright_walk P W (I.below hb))
  have cS := Lib.hid (fun W (hb : Below w.heap.size w W) => startS_walk AI AW P 9 W (I.below hb) (hA.below hb))
  have cT := Lib.hid (fun W (hb : Below w.heap.size w W) => settleS_walk AI AW P s g f W (I.below hb) hs (hA.below hb))
  have o1 := stl_any_ok AI AW hx hs g f
  have hR := valid_right h.1
  rw [h.1] at cU
  have hbad : ¬ (valid P s = true ∧ 0 ≤ g ∧ g < s.count ∧ 0 ≤ f ∧ f ≤ 4096) := by omega
  have d1 : decide (g < 0) = false := by simp; omega
  have d2 : decide (s.count ≤ g) = false := by simp; omega
  have d3 : decide (f < 0) = true := by simp; omega
  rw [hR] at cR
  obtain ⟨o0, v0, e0⟩ := strt_ok AI AW I hR
  have cV := Lib.hid (fun W (hb : Below w.heap.size w W) => valid_walk P _ W (I.below hb) o0)
  rw [v0] at cV
  rw [e0] at cS
  have n0 := Lib.hid (show (strt A P 9).1.cs.toArray.size = 121 by simpa using St.cs_len o0)
  have p0 := Lib.hid (St.one_cell (s := (strt A P 9).1))
  have n1 := Lib.hid (show (stl A P s g f).1.cs.toArray.size = 121 by simpa using St.cs_len o1)
  have p1 := Lib.hid (St.one_cell (s := (stl A P s g f).1))
  have hno := Lib.hid (show Tryd.zeroCells32.size = 121 by rw [zc]; simpa using St.cs_len St.none_ok)
  have r5 := stl_bad (A := A) hbad
  have r6 : ((stl A P s g f).2 == 0) = false := by simpa using r5
  have r7 : ((stl A P s g f).2 != 0) = true := by simpa using r5
  clear r5 hbad
  unfold Pg.v St.v at *
  have kr := Lib.hid (fun (W : World) (b : Nat) (h : ∀ o, W.cell? ⟨b, o, none⟩ = (caseCs P s g f).toArray[o]?) => (fun j v hv => (h (4 + j)).trans (k2 j v hv) : W.rangeAt b 4 s.cs))
  generalize (caseCs P s g f).toArray = arr at *
  clear k1 k2
  replace k5 := Lib.hid k5
  generalize (strt A P 9).1.cs.toArray = s0 at *
  generalize (stl A P s g f).1.cs.toArray = t1 at *
  generalize (stl A P s g f).2 = e5 at *
  clear o0 o1 hx h v0 e0
  clear hR
  go_enter Tryd.func7, Tryd.ntmps7
  have E0 := (Env.nil (w := w)).push w.heap.size rfl arr 52
  have y0 := E0.h0.cell
  go_wp2_with (first
    | ((go_at_call 24; ((with_reducible refine (cR.out _ E2.acc).mono ?_); rintro e w' ⟨rfl, hb1⟩)); have E3 := E2.next hb1; have y3 := E3.tl.h0.cell)
    | (refine wpList_store_mid rfl 32 _ _ rfl w'.heap.size 0 _ rfl rfl ((Blk.new' _ _ _ _ rfl).there _ _ (by rw [hno.out, n0.out]; omega)) (by rw [size32, n0.out]) p0.out ?_
       have hlt2 := E1.h0.lt
       have E2 := Env.setRow (by have := E1.acc.size; omega) (fun p hp => by simp only [List.mem_cons, List.not_mem_nil, or_false] at hp; rcases hp with rfl <;> (simp only; omega)) s0.toList _ 0 _ (E1.push w'.heap.size rfl Tryd.zeroCells32 32) (by rw [hno.out]; simp [n0.out])
       rw [putRow_all _ _ (by rw [hno.out]; simp [n0.out])] at E2
       simp only [Array.toArray_toList] at E2
       generalize hb2 : w'.heap.size = b2 at E2 hlt2 ⊢
       generalize World.setCells _ _ _ _ = W2 at E2 ⊢
       have y2 := E2.tl.h0.cell)
    | ((go_at_call 16; ((with_reducible refine (cS.out _ E0.acc).mono ?_); rintro e w' ⟨rfl, hb0⟩)); have E1 := E0.next hb0))
  refine load_state _ rfl b2 rfl s0 n0.out E3.h0 ?_
  go_wp2_with (first
    | ((go_at_call 21; ((with_reducible refine (cU.out _ E6.acc).mono ?_); rintro e w' ⟨rfl, hb4⟩)); have E7 := E6.next hb4; have y7 := E7.tl.tl.h0.cell)
    | (refine list_mid_st rfl _ rfl w.heap.size 4 rfl s.cs h121 (kr.out _ _ y6) ?_)
    | (refine wpList_store_mid rfl 32 _ _ rfl w'.heap.size 0 _ rfl rfl ((Blk.new' _ _ _ _ rfl).there _ _ (by rw [hno.out, n1.out]; omega)) (by rw [size32, n1.out]) p1.out ?_
       have hlt6 := E5.h0.lt
       have E6 := Env.setRow (by have := E5.acc.size; omega) (fun p hp => by simp only [List.mem_cons, List.not_mem_nil, or_false] at hp; rcases hp with rfl | rfl <;> (simp only; omega)) t1.toList _ 0 _ (E5.push w'.heap.size rfl Tryd.zeroCells32 32) (by rw [hno.out]; simp [n1.out])
       rw [putRow_all _ _ (by rw [hno.out]; simp [n1.out])] at E6
       simp only [Array.toArray_toList] at E6
       generalize hb6 : w'.heap.size = b6 at E6 hlt6 ⊢
       generalize World.setCells _ _ _ _ = W6 at E6 ⊢
       have y6 := E6.tl.tl.h0.cell)
    | ((go_at_call 22; ((with_reducible refine (cT.out _ E4.acc).mono ?_); rintro e w' ⟨rfl, hb3⟩)); have E5 := E4.next hb3)
    | (refine list_mid_st rfl _ rfl w.heap.size 4 rfl s.cs h121 (kr.out _ _ y4) ?_)
    | ((go_at_call 20; ((with_reducible refine (cV.out _ E3.acc).mono ?_); rintro e w' ⟨rfl, hb2⟩)); have E4 := E3.next hb2; have y4 := E4.tl.h0.cell))
  go_ret
  exact ⟨rfl, E7.acc⟩
set_option maxHeartbeats 8000000 in
set_option maxRecDepth 100000 in
theorem keeps_k6 {A : Int → Int → Int → Int × Int} (AI : AluOk A) (AW : AluWhy A) (P : Pg) (s : St) (g f : Int) (w : World) (I : P.In w) (hs : s.ok) (hA : AppW A w) (h : valid P s = true ∧ ¬ g < 0 ∧ ¬ s.count ≤ g ∧ ¬ f < 0 ∧ 4096 < f) :
    Calls Tryd.prog 7 #[.agg (caseCs P s g f).toArray] w fun e w' => e = .returned (.bool true) ∧ Below w.heap.size w w' := by
  obtain ⟨k1, k2, kg, kf, k5⟩ := case_cells P hs g f
  have a0 := k1 0 _ rfl; have a1 := k1 1 _ rfl; have a2 := k1 2 _ rfl; have a3 := k1 3 _ rfl
  have kc := k2 120 (.int .i64 s.count) (by simpa using St.get_count hs)
  simp only [Nat.reduceAdd] at kc
  have cU := Lib.hid (fun W (hb : Below w.heap.size w W) => rvalid_walk P s W (I.below hb) hs)
  have h121 := St.cs_len hs
  have hx := I.insOk
  have cR := Lib.hid (fun W (hb : Below w.heap.size w W) => rright_walk P W (I.below hb))
  have cS := Lib.hid (fun W (hb : Below w.heap.size w W) => startS_walk AI AW P 9 W (I.below hb) (hA.below hb))
  have cT := Lib.hid (fun W (hb : Below w.heap.size w W) => settleS_walk AI AW P s g f W (I.below hb) hs (hA.below hb))
  have o1 := stl_any_ok AI AW hx hs g f
  have hR := valid_right h.1
  rw [h.1] at cU
  have hbad : ¬ (valid P s = true ∧ 0 ≤ g ∧ g < s.count ∧ 0 ≤ f ∧ f ≤ 4096) := by omega
  have d1 : decide (g < 0) = false := by simp; omega
  have d2 : decide (s.count ≤ g) = false := by simp; omega
  have d3 : decide (f < 0) = false := by simp; omega
  have d4 : decide (4096 < f) = true := by simp; omega
  rw [hR] at cR
  obtain ⟨o0, v0, e0⟩ := strt_ok AI AW I hR
  have cV := Lib.hid (fun W (hb : Below w.heap.size w W) => valid_walk P _ W (I.below hb) o0)
  rw [v0] at cV
  rw [e0] at cS
  have n0 := Lib.hid (show (strt A P 9).1.cs.toArray.size = 121 by simpa using St.cs_len o0)
  have p0 := Lib.hid (St.one_cell (s := (strt A P 9).1))
  have n1 := Lib.hid (show (stl A P s g f).1.cs.toArray.size = 121 by simpa using St.cs_len o1)
  have p1 := Lib.hid (St.one_cell (s := (stl A P s g f).1))
  have hno := Lib.hid (show Tryd.zeroCells32.size = 121 by rw [zc]; simpa using St.cs_len St.none_ok)
  have r5 := stl_bad (A := A) hbad
  have r6 : ((stl A P s g f).2 == 0) = false := by simpa using r5
  have r7 : ((stl A P s g f).2 != 0) = true := by simpa using r5
  clear r5 hbad
  unfold Pg.v St.v at *
  have kr := Lib.hid (fun (W : World) (b : Nat) (h : ∀ o, W.cell? ⟨b, o, none⟩ = (caseCs P s g f).toArray[o]?) => (fun j v hv => (h (4 + j)).trans (k2 j v hv) : W.rangeAt b 4 s.cs))
  generalize (caseCs P s g f).toArray = arr at *
  clear k1 k2
  replace k5 := Lib.hid k5
  generalize (strt A P 9).1.cs.toArray = s0 at *
  generalize (stl A P s g f).1.cs.toArray = t1 at *
  generalize (stl A P s g f).2 = e5 at *
  clear o0 o1 hx h v0 e0
  clear hR
  go_enter Tryd.func7, Tryd.ntmps7
  have E0 := (Env.nil (w := w)).push w.heap.size rfl arr 52
  have y0 := E0.h0.cell
  go_wp2_with (first
    | ((go_at_call 24; ((with_reducible refine (cR.out _ E2.acc).mono ?_); rintro e w' ⟨rfl, hb1⟩)); have E3 := E2.next hb1; have y3 := E3.tl.h0.cell)
    | (refine wpList_store_mid rfl 32 _ _ rfl w'.heap.size 0 _ rfl rfl ((Blk.new' _ _ _ _ rfl).there _ _ (by rw [hno.out, n0.out]; omega)) (by rw [size32, n0.out]) p0.out ?_
       have hlt2 := E1.h0.lt
       have E2 := Env.setRow (by have := E1.acc.size; omega) (fun p hp => by simp only [List.mem_cons, List.not_mem_nil, or_false] at hp; rcases hp with rfl <;> (simp only; omega)) s0.toList _ 0 _ (E1.push w'.heap.size rfl Tryd.zeroCells32 32) (by rw [hno.out]; simp [n0.out])
       rw [putRow_all _ _ (by rw [hno.out]; simp [n0.out])] at E2
       simp only [Array.toArray_toList] at E2
       generalize hb2 : w'.heap.size = b2 at E2 hlt2 ⊢
       generalize World.setCells _ _ _ _ = W2 at E2 ⊢
       have y2 := E2.tl.h0.cell)
    | ((go_at_call 16; ((with_reducible refine (cS.out _ E0.acc).mono ?_); rintro e w' ⟨rfl, hb0⟩)); have E1 := E0.next hb0))
  refine load_state _ rfl b2 rfl s0 n0.out E3.h0 ?_
  go_wp2_with (first
    | ((go_at_call 21; ((with_reducible refine (cU.out _ E6.acc).mono ?_); rintro e w' ⟨rfl, hb4⟩)); have E7 := E6.next hb4; have y7 := E7.tl.tl.h0.cell)
    | (refine list_mid_st rfl _ rfl w.heap.size 4 rfl s.cs h121 (kr.out _ _ y6) ?_)
    | (refine wpList_store_mid rfl 32 _ _ rfl w'.heap.size 0 _ rfl rfl ((Blk.new' _ _ _ _ rfl).there _ _ (by rw [hno.out, n1.out]; omega)) (by rw [size32, n1.out]) p1.out ?_
       have hlt6 := E5.h0.lt
       have E6 := Env.setRow (by have := E5.acc.size; omega) (fun p hp => by simp only [List.mem_cons, List.not_mem_nil, or_false] at hp; rcases hp with rfl | rfl <;> (simp only; omega)) t1.toList _ 0 _ (E5.push w'.heap.size rfl Tryd.zeroCells32 32) (by rw [hno.out]; simp [n1.out])
       rw [putRow_all _ _ (by rw [hno.out]; simp [n1.out])] at E6
       simp only [Array.toArray_toList] at E6
       generalize hb6 : w'.heap.size = b6 at E6 hlt6 ⊢
       generalize World.setCells _ _ _ _ = W6 at E6 ⊢
       have y6 := E6.tl.tl.h0.cell)
    | ((go_at_call 22; ((with_reducible refine (cT.out _ E4.acc).mono ?_); rintro e w' ⟨rfl, hb3⟩)); have E5 := E4.next hb3)
    | (refine list_mid_st rfl _ rfl w.heap.size 4 rfl s.cs h121 (kr.out _ _ y4) ?_)
    | ((go_at_call 20; ((with_reducible refine (cV.out _ E3.acc).mono ?_); rintro e w' ⟨rfl, hb2⟩)); have E4 := E3.next hb2; have y4 := E4.tl.h0.cell))
  go_ret
  exact ⟨rfl, E7.acc⟩
set_option maxHeartbeats 8000000 in
set_option maxRecDepth 100000 in
theorem keeps_k7 {A : Int → Int → Int → Int × Int} (AI : AluOk A) (AW : AluWhy A) (P : Pg) (s : St) (g f : Nat) (w : World) (I : P.In w) (hs : s.ok) (hA : AppW A w) (h : valid P s = true ∧ (g : Int) < s.count ∧ f ≤ 4096) :
    Calls Tryd.prog 7 #[.agg (caseCs P s g f).toArray] w fun e w' => e = .returned (.bool true) ∧ Below w.heap.size w w' := by
  obtain ⟨k1, k2, kg, kf, k5⟩ := case_cells P hs g f
  have a0 := k1 0 _ rfl; have a1 := k1 1 _ rfl; have a2 := k1 2 _ rfl; have a3 := k1 3 _ rfl
  have kc := k2 120 (.int .i64 s.count) (by simpa using St.get_count hs)
  simp only [Nat.reduceAdd] at kc
  have cU := Lib.hid (fun W (hb : Below w.heap.size w W) => rvalid_walk P s W (I.below hb) hs)
  have h121 := St.cs_len hs
  have hx := I.insOk
  have cR := Lib.hid (fun W (hb : Below w.heap.size w W) => rright_walk P W (I.below hb))
  have cS := Lib.hid (fun W (hb : Below w.heap.size w W) => startS_walk AI AW P 9 W (I.below hb) (hA.below hb))
  have cT := Lib.hid (fun W (hb : Below w.heap.size w W) => settleS_walk AI AW P s g f W (I.below hb) hs (hA.below hb))
  have o1 := stl_any_ok AI AW hx hs g f
  have hR := valid_right h.1
  rw [h.1] at cU
  have hcnt := valid_count h.1
  have g6 : g < 6 := by omega
  have d1 : decide ((g : Int) < 0) = false := by simp
  have d5 : decide (6 ≤ (g : Int)) = false := by simp; omega
  have hst := stl_eq (A := A) hs h.1 g f h.2.1 h.2.2
  have vT : valid P (stl A P s g f).1 = true := by rw [hst]; exact valid_again AI AW hx hs h.1 g f h.2.1
  have cW := Lib.hid (fun W (hb : Below w.heap.size w W) => valid_walk P _ W (I.below hb) o1)
  rw [vT] at cW
  rw [show (stl A P s g f).2 = 0 by rw [hst]] at cT
  have hqk := go_ok hs g g6
  have hput : putRow (stl A P s g f).1.cs.toArray (48 + g * 12) (s.gos.getD g default).cs = s.cs.toArray := by rw [hst, ← St.cs_setGo (St.setGo_ok hs g (again_ok AI AW hx hs h.1 g f h.2.1)) g g6 hqk, setGo_twice, setGo_self hs g g6]
  replace hput := Lib.hid hput
  have hql := Lib.hid (Gr.cs_len hqk)
  have hq1 := Lib.hid (gr_one (s.gos.getD g default))
  have q3 := Lib.hid (fun W => eq_st hs W)
  have kq := Lib.hid (fun (W : World) (b : Nat) (hW : ∀ o, W.cell? ⟨b, o, none⟩ = (caseCs P s g f).toArray[o]?) => (fun i v hv => by rw [hW, show 52 + g * 12 + i = 4 + (48 + g * 12 + i) by omega]; exact k2 _ v (by simpa using St.get_go hs g g6 i v hv) : W.rangeAt b (52 + g * 12) (s.gos.getD g default).cs))
  generalize (s.gos.getD g default).cs = ql at *
  clear hqk hst vT
  rw [hR] at cR
  obtain ⟨o0, v0, e0⟩ := strt_ok AI AW I hR
  have cV := Lib.hid (fun W (hb : Below w.heap.size w W) => valid_walk P _ W (I.below hb) o0)
  rw [v0] at cV
  rw [e0] at cS
  have n0 := Lib.hid (show (strt A P 9).1.cs.toArray.size = 121 by simpa using St.cs_len o0)
  have p0 := Lib.hid (St.one_cell (s := (strt A P 9).1))
  have n1 := Lib.hid (show (stl A P s g f).1.cs.toArray.size = 121 by simpa using St.cs_len o1)
  have p1 := Lib.hid (St.one_cell (s := (stl A P s g f).1))
  have hno := Lib.hid (show Tryd.zeroCells32.size = 121 by rw [zc]; simpa using St.cs_len St.none_ok)
  unfold Pg.v St.v at *
  have kr := Lib.hid (fun (W : World) (b : Nat) (h : ∀ o, W.cell? ⟨b, o, none⟩ = (caseCs P s g f).toArray[o]?) => (fun j v hv => (h (4 + j)).trans (k2 j v hv) : W.rangeAt b 4 s.cs))
  generalize (caseCs P s g f).toArray = arr at *
  clear k1 k2
  replace k5 := Lib.hid k5
  generalize (strt A P 9).1.cs.toArray = s0 at *
  generalize (stl A P s g f).1.cs.toArray = t1 at *
  clear o0 o1 hx h v0 e0
  clear hR
  go_enter Tryd.func7, Tryd.ntmps7
  have E0 := (Env.nil (w := w)).push w.heap.size rfl arr 52
  have y0 := E0.h0.cell
  go_wp2_with (first
    | ((go_at_call 24; ((with_reducible refine (cR.out _ E2.acc).mono ?_); rintro e w' ⟨rfl, hb1⟩)); have E3 := E2.next hb1; have y3 := E3.tl.h0.cell)
    | (refine wpList_store_mid rfl 32 _ _ rfl w'.heap.size 0 _ rfl rfl ((Blk.new' _ _ _ _ rfl).there _ _ (by rw [hno.out, n0.out]; omega)) (by rw [size32, n0.out]) p0.out ?_
       have hlt2 := E1.h0.lt
       have E2 := Env.setRow (by have := E1.acc.size; omega) (fun p hp => by simp only [List.mem_cons, List.not_mem_nil, or_false] at hp; rcases hp with rfl <;> (simp only; omega)) s0.toList _ 0 _ (E1.push w'.heap.size rfl Tryd.zeroCells32 32) (by rw [hno.out]; simp [n0.out])
       rw [putRow_all _ _ (by rw [hno.out]; simp [n0.out])] at E2
       simp only [Array.toArray_toList] at E2
       generalize hb2 : w'.heap.size = b2 at E2 hlt2 ⊢
       generalize World.setCells _ _ _ _ = W2 at E2 ⊢
       have y2 := E2.tl.h0.cell)
    | ((go_at_call 16; ((with_reducible refine (cS.out _ E0.acc).mono ?_); rintro e w' ⟨rfl, hb0⟩)); have E1 := E0.next hb0))
  refine load_state _ rfl b2 rfl s0 n0.out E3.h0 ?_
  go_wp2_with (first
    | (refine wpList_store_mid rfl 32 _ _ rfl W6.heap.size 0 _ rfl rfl ((Blk.new' _ _ _ _ rfl).there _ _ (by rw [hno.out, n1.out]; omega)) (by rw [size32, n1.out]) p1.out ?_
       have hlt8 := E6.h0.lt
       have E8 := Env.setRow (by have := E6.acc.size; omega) (fun p hp => by simp only [List.mem_cons, List.not_mem_nil, or_false] at hp; rcases hp with rfl | rfl | rfl <;> (simp only; omega)) t1.toList _ 0 _ (E6.push W6.heap.size rfl Tryd.zeroCells32 32) (by rw [hno.out]; simp [n1.out])
       rw [putRow_all _ _ (by rw [hno.out]; simp [n1.out])] at E8
       simp only [Array.toArray_toList] at E8
       generalize hb8 : W6.heap.size = b8 at E8 hlt8 ⊢
       generalize World.setCells _ _ _ _ = W8 at E8 ⊢
       have y8 := E8.tl.tl.tl.h0.cell)
    | (refine list_load_st rfl _ rfl (b := b6) rfl E6.h0 n1.out ?_)
    | (refine wpList_store_mid rfl 32 _ _ rfl w'.heap.size 0 _ rfl rfl ((Blk.new' _ _ _ _ rfl).there _ _ (by rw [hno.out, n1.out]; omega)) (by rw [size32, n1.out]) p1.out ?_
       have hlt6 := E5.h0.lt
       have E6 := Env.setRow (by have := E5.acc.size; omega) (fun p hp => by simp only [List.mem_cons, List.not_mem_nil, or_false] at hp; rcases hp with rfl | rfl <;> (simp only; omega)) t1.toList _ 0 _ (E5.push w'.heap.size rfl Tryd.zeroCells32 32) (by rw [hno.out]; simp [n1.out])
       rw [putRow_all _ _ (by rw [hno.out]; simp [n1.out])] at E6
       simp only [Array.toArray_toList] at E6
       generalize hb6 : w'.heap.size = b6 at E6 hlt6 ⊢
       generalize World.setCells _ _ _ _ = W6 at E6 ⊢
       have y6 := E6.tl.tl.h0.cell)
    | ((go_at_call 22; ((with_reducible refine (cT.out _ E4.acc).mono ?_); rintro e w' ⟨rfl, hb3⟩)); have E5 := E4.next hb3)
    | (refine list_mid_st rfl _ rfl w.heap.size 4 rfl s.cs h121 (kr.out _ _ y4) ?_)
    | ((go_at_call 20; ((with_reducible refine (cV.out _ E3.acc).mono ?_); rintro e w' ⟨rfl, hb2⟩)); have E4 := E3.next hb2; have y4 := E4.tl.h0.cell))
  clear cS cR cV cT cU y0 y2 y3 y4 y6 E0 E1 E2 E3 E4 E5 E6
  apply wp_toS (Env w [(b8, s.cs.toArray), (b6, t1), (b2, s0), (w.heap.size, arr)])
  · have k6 : (g : Int) < 6 := by omega
    refine wp_region_held_drew (S := (fun W => ∀ o, W.cell? ⟨w.heap.size, o, none⟩ = arr[o]?)) (by kernel_rfl) (by first | exact E8.drew.tl.tl.tl.h0.cell | exact y8) (fun hHeld => ?_)
    refine wpAnyH_take (i := 0) (v := ?_) rfl (by kernel_rfl) (by kernel_rfl) (by kernel_rfl) (fun _ _ _ h => h) (Or.inl ⟨by rfl, ?_⟩) (by assumption) ?_
    rotate_left
    · intro w hSw; (try dsimp only at hSw); go_simp <;> (try with_reducible rfl)
    simp only [Act.put, List.getElem_toArray, List.getElem_cons_zero, List.getElem_cons_succ, List.setIfInBounds_toArray, List.set_cons_zero, List.set_cons_succ]
    refine wpAnyH_take (i := 1) (v := ?_) rfl (by kernel_rfl) (by kernel_rfl) (by kernel_rfl) (fun _ _ _ h => h) (Or.inl ⟨by rfl, ?_⟩) (by assumption) ?_
    rotate_left
    · intro w hSw; (try dsimp only at hSw); go_simp <;> (try with_reducible rfl)
    simp only [Act.put, List.getElem_toArray, List.getElem_cons_zero, List.getElem_cons_succ, List.setIfInBounds_toArray, List.set_cons_zero, List.set_cons_succ]
    refine wpAnyH_take (i := 2) (v := ?_) rfl (by kernel_rfl) (by kernel_rfl) (by kernel_rfl) (fun _ _ _ h => h) (Or.inl ⟨by rfl, ?_⟩) (by assumption) ?_
    rotate_left
    · intro w hSw; (try dsimp only at hSw); go_simp <;> (try with_reducible rfl)
    simp only [Act.put, List.getElem_toArray, List.getElem_cons_zero, List.getElem_cons_succ, List.setIfInBounds_toArray, List.set_cons_zero, List.set_cons_succ]
    refine wpAnyH_take (i := 3) (v := ?_) rfl (by kernel_rfl) (by kernel_rfl) (by kernel_rfl) (fun _ _ _ h => h) (Or.inl ⟨by rfl, ?_⟩) (by assumption) ?_
    rotate_left
    · intro w hSw; (try dsimp only at hSw); go_simp <;> (try with_reducible rfl)
    simp only [Act.put, List.getElem_toArray, List.getElem_cons_zero, List.getElem_cons_succ, List.setIfInBounds_toArray, List.set_cons_zero, List.set_cons_succ]
    refine wpAnyH_take (i := 4) (v := ?_) rfl (by kernel_rfl) (by kernel_rfl) (by kernel_rfl) (fun _ _ _ h => h) (Or.inl ⟨by rfl, ?_⟩) (by assumption) ?_
    rotate_left
    · intro w hSw; (try dsimp only at hSw); go_simp <;> (try with_reducible rfl)
    simp only [Act.put, List.getElem_toArray, List.getElem_cons_zero, List.getElem_cons_succ, List.setIfInBounds_toArray, List.set_cons_zero, List.set_cons_succ]
    refine wpAnyH_take (i := 5) (v := ?_) rfl (by kernel_rfl) (by kernel_rfl) (by kernel_rfl) (fun _ _ _ h => h) (Or.inl ⟨by rfl, ?_⟩) (by assumption) ?_
    rotate_left
    · intro w hSw; (try dsimp only at hSw); go_simp <;> (try with_reducible rfl)
    simp only [Act.put, List.getElem_toArray, List.getElem_cons_zero, List.getElem_cons_succ, List.setIfInBounds_toArray, List.set_cons_zero, List.set_cons_succ]
    refine wpAnyH_take (i := 6) (v := ?_) rfl (by kernel_rfl) (by kernel_rfl) (by kernel_rfl) (fun _ _ _ h => h) (Or.inl ⟨by rfl, ?_⟩) (by assumption) ?_
    rotate_left
    · intro w hSw; (try dsimp only at hSw); go_simp <;> (try with_reducible rfl)
    simp only [Act.put, List.getElem_toArray, List.getElem_cons_zero, List.getElem_cons_succ, List.setIfInBounds_toArray, List.set_cons_zero, List.set_cons_succ]
    refine wpAnyH_take (i := 7) (v := .agg ql.toArray) rfl (by kernel_rfl) (by kernel_rfl) (by kernel_rfl) (fun _ _ _ h => h) (yieldsIf_load_mid (by rfl) 29 _ rfl w.heap.size (52 + g * 12) rfl ql _ (fun W h => kq.out W _ h) Tryd.underlying29 rfl (by rw [size12, hql.out])) (by assumption) ?_
    simp only [Act.put, List.getElem_toArray, List.getElem_cons_zero, List.getElem_cons_succ, List.setIfInBounds_toArray, List.set_cons_zero, List.set_cons_succ]
    refine wpAnyH_take (i := 8) (v := ?_) rfl (by kernel_rfl) (by kernel_rfl) (by kernel_rfl) (fun _ _ _ h => h) (Or.inl ⟨by rfl, ?_⟩) (by assumption) ?_
    rotate_left
    · intro w hSw; (try dsimp only at hSw); go_simp <;> (try with_reducible rfl)
    simp only [Act.put, List.getElem_toArray, List.getElem_cons_zero, List.getElem_cons_succ, List.setIfInBounds_toArray, List.set_cons_zero, List.set_cons_succ]
    refine wpAnyH_take (i := 9) (v := ?_) rfl (by kernel_rfl) (by kernel_rfl) (by kernel_rfl) (fun _ _ _ h => h) (Or.inl ⟨by rfl, ?_⟩) (by assumption) ?_
    rotate_left
    · intro w hSw; (try dsimp only at hSw); go_simp <;> (try with_reducible rfl)
    simp only [Act.put, List.getElem_toArray, List.getElem_cons_zero, List.getElem_cons_succ, List.setIfInBounds_toArray, List.set_cons_zero, List.set_cons_succ]
    refine wpAnyH_ready (rs := [10]) (by kernel_rfl) (by simp) (AllReadyH.cons rfl (fun K hK => ?_) AllReadyH.nil)
    rw [if_pos (by rfl)]
    have E9 := Env.setRow (by omega) (fun p hp => by simp only [List.mem_cons, List.not_mem_nil, or_false] at hp; rcases hp with rfl | rfl | rfl <;> (simp only; omega)) ql _ (48 + g * 12) _ E8.drew (by rw [n1.out, hql.out]; omega)
    rw [hput.out] at E9
    refine wp_store_mid 29 _ _ rfl b8 (48 + g * 12) ql.toArray (by rfl) (by rfl) (E8.drew.h0.there _ _ (by rw [n1.out]; simp [hql.out]; omega)) (by rw [size12]; simp [hql.out]) hq1.out ?_
    refine hK.out _ _ E9.tl.tl.tl.h0.cell (fun hHeld2 => ?_)
    clear hK K
    try simp only [Act.put, List.getElem_toArray, List.getElem_cons_zero, List.getElem_cons_succ, List.setIfInBounds_toArray, List.set_cons_zero, List.set_cons_succ]
    refine wpAnyH_done (by kernel_rfl) ?_ _
    exact ToS.mk E9
  intro W9 E9
  have y9 := E9.tl.tl.tl.h0.cell
  have q3 := q3.out
  have q4 : ∀ W, (Op.equalIn 10000 32 (.agg s.cs.toArray) (.agg s.cs.toArray)).run Tryd.prog W = .ok true W := q3
  go_wp2
  refine load_state _ rfl b8 rfl s.cs.toArray (by simpa using h121) E9.h0 ?_
  go_wp2
  refine load_mid_st _ rfl w.heap.size 4 rfl s.cs h121 (kr.out _ _ y9) ?_
  go_wp2
  refine load_state _ rfl b6 rfl t1 n1.out E9.tl.h0 ?_
  go_wp2_with (first | ((go_at_call 20; ((with_reducible refine (cW.out _ E9.acc).mono ?_); rintro e w' ⟨rfl, hb9⟩))))
  go_ret
  exact ⟨rfl, (E9.next hb9).acc⟩
theorem keeps_walk {A : Int → Int → Int → Int × Int} (AI : AluOk A) (AW : AluWhy A) (P : Pg) (s : St) (g f : Int) (w : World) (I : P.In w) (hs : s.ok) (hA : AppW A w) :
    Calls Tryd.prog 7 #[.agg (caseCs P s g f).toArray] w fun e w' => e = .returned (.bool true) ∧ Below w.heap.size w w' := by
  by_cases c0 : valid P s = true
  · by_cases c1 : g < 0
    · exact keeps_k3 AI AW P s g f w I hs hA ⟨c0, c1⟩
    by_cases c2 : s.count ≤ g
    · exact keeps_k4 AI AW P s g f w I hs hA ⟨c0, c1, c2⟩
    by_cases c3 : f < 0
    · exact keeps_k5 AI AW P s g f w I hs hA ⟨c0, c1, c2, c3⟩
    by_cases c4 : 4096 < f
    · exact keeps_k6 AI AW P s g f w I hs hA ⟨c0, c1, c2, c3, c4⟩
    obtain ⟨g, rfl⟩ : ∃ k : Nat, g = k := ⟨g.toNat, by omega⟩
    obtain ⟨f, rfl⟩ : ∃ k : Nat, f = k := ⟨f.toNat, by omega⟩
    exact keeps_k7 AI AW P s g f w I hs hA ⟨c0, by omega, by omega⟩
  · by_cases cR : right P = true
    · exact keeps_k2 AI AW P s g f w I hs hA ⟨cR, by simpa using c0⟩
    · exact keeps_k1 AI AW P s g f w I hs hA (by simpa using cR)
end Go.Proofs.YtbcdeanmjhcgeaaDoor.Pg
