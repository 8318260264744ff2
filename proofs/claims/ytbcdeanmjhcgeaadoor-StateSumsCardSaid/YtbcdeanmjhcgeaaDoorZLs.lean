/- StateSums, walked: a program, a state, numbers that came in. The condition: what word.Apply gives is A. -/
import Derived.Test.YtbcdeanmjhcgeaaDoorZk
namespace Go.Proofs.YtbcdeanmjhcgeaaDoor.Pg
set_option linter.unusedVariables false
set_option linter.unusedSimpArgs false
open Go.ChangeShapes Go.WideShapes Go.RowKit
set_option linter.unusedVariables false
set_option linter.unusedSimpArgs false

set_option maxHeartbeats 8000000 in
set_option maxRecDepth 100000 in
theorem sums_z1 {A : Int → Int → Int → Int × Int} (AI : AluOk A) (AW : AluWhy A) (P : Pg) (s : St) (g f m : Int) (w : World) (I : P.In w) (hs : s.ok) (hm : I64 m) (hA : AppW A w) (h : f < 0) :
    Calls Tryd.prog 8 #[.agg (caseCs P s g f).toArray, .int .i64 m] w fun e w' => e = .returned (.bool true) ∧ Below w.heap.size w w' := by
  obtain ⟨k1, k2, kg, kf, k5⟩ := case_cells P hs g f
  have a0 := k1 0 _ rfl; have a1 := k1 1 _ rfl; have a2 := k1 2 _ rfl; have a3 := k1 3 _ rfl
  have kc := k2 120 (.int .i64 s.count) (by simpa using St.get_count hs)
  simp only [Nat.reduceAdd] at kc
  have cM := Lib.hid (fun W (hb : Below w.heap.size w W) => small_walk AI AW W (hA.below hb))
  have cU := Lib.hid (fun W (hb : Below w.heap.size w W) => rvalid_walk P s W (I.below hb) hs)
  have h121 := St.cs_len hs
  have d1 : decide (f < 0) = true := by simpa using h
  clear h
  unfold Pg.v St.v at *
  have kr := Lib.hid (fun (W : World) (b : Nat) (h : ∀ o, W.cell? ⟨b, o, none⟩ = (caseCs P s g f).toArray[o]?) => (fun j v hv => (h (4 + j)).trans (k2 j v hv) : W.rangeAt b 4 s.cs))
  generalize (caseCs P s g f).toArray = arr at *
  clear k1 k2
  replace k5 := Lib.hid k5
  go_enter Tryd.func8, Tryd.ntmps8
  have E0 := (Env.nil (w := w)).push w.heap.size rfl arr 52
  have y0 := E0.h0.cell
  go_wp2_with (first | (go_at_call 19; ((with_reducible refine (cM.out _ E0.acc).mono ?_); rintro e w' ⟨rfl, hb1⟩)))
  go_ret
  exact ⟨rfl, (E0.next hb1).acc⟩
set_option maxHeartbeats 8000000 in
set_option maxRecDepth 100000 in
theorem sums_z2 {A : Int → Int → Int → Int × Int} (AI : AluOk A) (AW : AluWhy A) (P : Pg) (s : St) (g f m : Int) (w : World) (I : P.In w) (hs : s.ok) (hm : I64 m) (hA : AppW A w) (h : ¬ f < 0 ∧ m < 0) :
    Calls Tryd.prog 8 #[.agg (caseCs P s g f).toArray, .int .i64 m] w fun e w' => e = .returned (.bool true) ∧ Below w.heap.size w w' := by
  obtain ⟨k1, k2, kg, kf, k5⟩ := case_cells P hs g f
  have a0 := k1 0 _ rfl; have a1 := k1 1 _ rfl; have a2 := k1 2 _ rfl; have a3 := k1 3 _ rfl
  have kc := k2 120 (.int .i64 s.count) (by simpa using St.get_count hs)
  simp only [Nat.reduceAdd] at kc
  have cM := Lib.hid (fun W (hb : Below w.heap.size w W) => small_walk AI AW W (hA.below hb))
  have cU := Lib.hid (fun W (hb : Below w.heap.size w W) => rvalid_walk P s W (I.below hb) hs)
  have h121 := St.cs_len hs
  have d1 : decide (f < 0) = false := by simpa using h.1
  have d2 : decide (m < 0) = true := by simpa using h.2
  clear h
  unfold Pg.v St.v at *
  have kr := Lib.hid (fun (W : World) (b : Nat) (h : ∀ o, W.cell? ⟨b, o, none⟩ = (caseCs P s g f).toArray[o]?) => (fun j v hv => (h (4 + j)).trans (k2 j v hv) : W.rangeAt b 4 s.cs))
  generalize (caseCs P s g f).toArray = arr at *
  clear k1 k2
  replace k5 := Lib.hid k5
  go_enter Tryd.func8, Tryd.ntmps8
  have E0 := (Env.nil (w := w)).push w.heap.size rfl arr 52
  have y0 := E0.h0.cell
  go_wp2_with (first | (go_at_call 19; ((with_reducible refine (cM.out _ E0.acc).mono ?_); rintro e w' ⟨rfl, hb1⟩)))
  go_ret
  exact ⟨rfl, (E0.next hb1).acc⟩
set_option maxHeartbeats 8000000 in
set_option maxRecDepth 100000 in
theorem sums_z3 {A : Int → Int → Int → Int × Int} (AI : AluOk A) (AW : AluWhy A) (P : Pg) (s : St) (g f m : Int) (w : World) (I : P.In w) (hs : s.ok) (hm : I64 m) (hA : AppW A w) (h : ¬ f < 0 ∧ ¬ m < 0 ∧ 4096 < f) :
    Calls Tryd.prog 8 #[.agg (caseCs P s g f).toArray, .int .i64 m] w fun e w' => e = .returned (.bool true) ∧ Below w.heap.size w w' := by
  obtain ⟨k1, k2, kg, kf, k5⟩ := case_cells P hs g f
  have a0 := k1 0 _ rfl; have a1 := k1 1 _ rfl; have a2 := k1 2 _ rfl; have a3 := k1 3 _ rfl
  have kc := k2 120 (.int .i64 s.count) (by simpa using St.get_count hs)
  simp only [Nat.reduceAdd] at kc
  have cM := Lib.hid (fun W (hb : Below w.heap.size w W) => small_walk AI AW W (hA.below hb))
  have cU := Lib.hid (fun W (hb : Below w.heap.size w W) => rvalid_walk P s W (I.below hb) hs)
  have h121 := St.cs_len hs
  have d1 : decide (f < 0) = false := by simpa using h.1
  have d2 : decide (m < 0) = false := by simpa using h.2.1
  have d3 : decide (4096 < f) = true := by simpa using h.2.2
  clear h
  unfold Pg.v St.v at *
  have kr := Lib.hid (fun (W : World) (b : Nat) (h : ∀ o, W.cell? ⟨b, o, none⟩ = (caseCs P s g f).toArray[o]?) => (fun j v hv => (h (4 + j)).trans (k2 j v hv) : W.rangeAt b 4 s.cs))
  generalize (caseCs P s g f).toArray = arr at *
  clear k1 k2
  replace k5 := Lib.hid k5
  go_enter Tryd.func8, Tryd.ntmps8
  have E0 := (Env.nil (w := w)).push w.heap.size rfl arr 52
  have y0 := E0.h0.cell
  go_wp2_with (first | (go_at_call 19; ((with_reducible refine (cM.out _ E0.acc).mono ?_); rintro e w' ⟨rfl, hb1⟩)))
  go_ret
  exact ⟨rfl, (E0.next hb1).acc⟩
set_option maxHeartbeats 8000000 in
set_option maxRecDepth 100000 in
theorem sums_z4 {A : Int → Int → Int → Int × Int} (AI : AluOk A) (AW : AluWhy A) (P : Pg) (s : St) (g f m : Int) (w : World) (I : P.In w) (hs : s.ok) (hm : I64 m) (hA : AppW A w) (h : ¬ f < 0 ∧ ¬ m < 0 ∧ ¬ 4096 < f ∧ 4096 - f < m) :
    Calls Tryd.prog 8 #[.agg (caseCs P s g f).toArray, .int .i64 m] w fun e w' => e = .returned (.bool true) ∧ Below w.heap.size w w' := by
  obtain ⟨k1, k2, kg, kf, k5⟩ := case_cells P hs g f
  have a0 := k1 0 _ rfl; have a1 := k1 1 _ rfl; have a2 := k1 2 _ rfl; have a3 := k1 3 _ rfl
  have kc := k2 120 (.int .i64 s.count) (by simpa using St.get_count hs)
  simp only [Nat.reduceAdd] at kc
  have cM := Lib.hid (fun W (hb : Below w.heap.size w W) => small_walk AI AW W (hA.below hb))
  have cU := Lib.hid (fun W (hb : Below w.heap.size w W) => rvalid_walk P s W (I.below hb) hs)
  have h121 := St.cs_len hs
  have d1 : decide (f < 0) = false := by simpa using h.1
  have d2 : decide (m < 0) = false := by simpa using h.2.1
  have d3 : decide (4096 < f) = false := by simpa using h.2.2.1
  have d4 : decide (4096 - f < m) = true := by simpa using h.2.2.2
  have b1 : 0 ≤ f := by omega
  have b2 : f ≤ 4096 := by omega
  clear h
  unfold Pg.v St.v at *
  have kr := Lib.hid (fun (W : World) (b : Nat) (h : ∀ o, W.cell? ⟨b, o, none⟩ = (caseCs P s g f).toArray[o]?) => (fun j v hv => (h (4 + j)).trans (k2 j v hv) : W.rangeAt b 4 s.cs))
  generalize (caseCs P s g f).toArray = arr at *
  clear k1 k2
  replace k5 := Lib.hid k5
  go_enter Tryd.func8, Tryd.ntmps8
  have E0 := (Env.nil (w := w)).push w.heap.size rfl arr 52
  have y0 := E0.h0.cell
  go_wp2_with (first | (go_at_call 19; ((with_reducible refine (cM.out _ E0.acc).mono ?_); rintro e w' ⟨rfl, hb1⟩)))
  go_ret
  exact ⟨rfl, (E0.next hb1).acc⟩
set_option maxHeartbeats 8000000 in
set_option maxRecDepth 100000 in
theorem sums_z5 {A : Int → Int → Int → Int × Int} (AI : AluOk A) (AW : AluWhy A) (P : Pg) (s : St) (g f m : Int) (w : World) (I : P.In w) (hs : s.ok) (hm : I64 m) (hA : AppW A w) (h1 : 0 ≤ f) (h2 : 0 ≤ m) (h3 : f + m ≤ 4096) (hv : valid P s = false) :
    Calls Tryd.prog 8 #[.agg (caseCs P s g f).toArray, .int .i64 m] w fun e w' => e = .returned (.bool true) ∧ Below w.heap.size w w' := by
  obtain ⟨k1, k2, kg, kf, k5⟩ := case_cells P hs g f
  have a0 := k1 0 _ rfl; have a1 := k1 1 _ rfl; have a2 := k1 2 _ rfl; have a3 := k1 3 _ rfl
  have kc := k2 120 (.int .i64 s.count) (by simpa using St.get_count hs)
  simp only [Nat.reduceAdd] at kc
  have cM := Lib.hid (fun W (hb : Below w.heap.size w W) => small_walk AI AW W (hA.below hb))
  have cU := Lib.hid (fun W (hb : Below w.heap.size w W) => rvalid_walk P s W (I.below hb) hs)
  have h121 := St.cs_len hs
  have d1 : decide (f < 0) = false := by simp; omega
  have d2 : decide (m < 0) = false := by simp; omega
  have d3 : decide (4096 < f) = false := by simp; omega
  have d4 : decide (4096 - f < m) = false := by simp; omega
  rw [hv] at cU
  clear hv
  unfold Pg.v St.v at *
  have kr := Lib.hid (fun (W : World) (b : Nat) (h : ∀ o, W.cell? ⟨b, o, none⟩ = (caseCs P s g f).toArray[o]?) => (fun j v hv => (h (4 + j)).trans (k2 j v hv) : W.rangeAt b 4 s.cs))
  generalize (caseCs P s g f).toArray = arr at *
  clear k1 k2
  replace k5 := Lib.hid k5
  go_enter Tryd.func8, Tryd.ntmps8
  have E0 := (Env.nil (w := w)).push w.heap.size rfl arr 52
  have y0 := E0.h0.cell
  go_wp2_with (first | ((go_at_call 21; ((with_reducible refine (cU.out _ E0.acc).mono ?_); rintro e w' ⟨rfl, hb0⟩)); have E1 := E0.next hb0; have y1 := E1.h0.cell) | (refine list_mid_st rfl _ rfl w.heap.size 4 rfl s.cs h121 (kr.out _ _ y0) ?_))
  refine load_mid_st _ rfl w.heap.size 4 rfl s.cs h121 (kr.out _ _ y0) ?_
  go_wp2_with (first | (go_at_call 19; ((with_reducible refine (cM.out _ E1.acc).mono ?_); rintro e w' ⟨rfl, hb1⟩)) | ((go_at_call 21; ((with_reducible refine (cU.out _ E0.acc).mono ?_); rintro e w' ⟨rfl, hb0⟩)); have E1 := E0.next hb0; have y1 := E1.h0.cell))
  go_ret
  exact ⟨rfl, (E1.next hb1).acc⟩
set_option maxHeartbeats 8000000 in
set_option maxRecDepth 100000 in
theorem sums_z6 {A : Int → Int → Int → Int × Int} (AI : AluOk A) (AW : AluWhy A) (P : Pg) (s : St) (g f m : Int) (w : World) (I : P.In w) (hs : s.ok) (hm : I64 m) (hA : AppW A w) (h1 : 0 ≤ f) (h2 : 0 ≤ m) (h3 : f + m ≤ 4096) (hv : valid P s = true ∧ g < 0) :
    Calls Tryd.prog 8 #[.agg (caseCs P s g f).toArray, .int .i64 m] w fun e w' => e = .returned (.bool true) ∧ Below w.heap.size w w' := by
  obtain ⟨k1, k2, kg, kf, k5⟩ := case_cells P hs g f
  have a0 := k1 0 _ rfl; have a1 := k1 1 _ rfl; have a2 := k1 2 _ rfl; have a3 := k1 3 _ rfl
  have kc := k2 120 (.int .i64 s.count) (by simpa using St.get_count hs)
  simp only [Nat.reduceAdd] at kc
  have cM := Lib.hid (fun W (hb : Below w.heap.size w W) => small_walk AI AW W (hA.below hb))
  have cU := Lib.hid (fun W (hb : Below w.heap.size w W) => rvalid_walk P s W (I.below hb) hs)
  have h121 := St.cs_len hs
  have d1 : decide (f < 0) = false := by simp; omega
  have d2 : decide (m < 0) = false := by simp; omega
  have d3 : decide (4096 < f) = false := by simp; omega
  have d4 : decide (4096 - f < m) = false := by simp; omega
  rw [hv.1] at cU
  have d5 : decide (g < 0) = true := by simpa using hv.2
  clear hv
  unfold Pg.v St.v at *
  have kr := Lib.hid (fun (W : World) (b : Nat) (h : ∀ o, W.cell? ⟨b, o, none⟩ = (caseCs P s g f).toArray[o]?) => (fun j v hv => (h (4 + j)).trans (k2 j v hv) : W.rangeAt b 4 s.cs))
  generalize (caseCs P s g f).toArray = arr at *
  clear k1 k2
  replace k5 := Lib.hid k5
  go_enter Tryd.func8, Tryd.ntmps8
  have E0 := (Env.nil (w := w)).push w.heap.size rfl arr 52
  have y0 := E0.h0.cell
  go_wp2_with (first | ((go_at_call 21; ((with_reducible refine (cU.out _ E0.acc).mono ?_); rintro e w' ⟨rfl, hb0⟩)); have E1 := E0.next hb0; have y1 := E1.h0.cell) | (refine list_mid_st rfl _ rfl w.heap.size 4 rfl s.cs h121 (kr.out _ _ y0) ?_))
  refine load_mid_st _ rfl w.heap.size 4 rfl s.cs h121 (kr.out _ _ y0) ?_
  go_wp2_with (first | (go_at_call 19; ((with_reducible refine (cM.out _ E1.acc).mono ?_); rintro e w' ⟨rfl, hb1⟩)) | ((go_at_call 21; ((with_reducible refine (cU.out _ E0.acc).mono ?_); rintro e w' ⟨rfl, hb0⟩)); have E1 := E0.next hb0; have y1 := E1.h0.cell))
  go_ret
  exact ⟨rfl, (E1.next hb1).acc⟩
set_option maxHeartbeats 8000000 in
set_option maxRecDepth 100000 in
theorem sums_z7 {A : Int → Int → Int → Int × Int} (AI : AluOk A) (AW : AluWhy A) (P : Pg) (s : St) (g f m : Int) (w : World) (I : P.In w) (hs : s.ok) (hm : I64 m) (hA : AppW A w) (h1 : 0 ≤ f) (h2 : 0 ≤ m) (h3 : f + m ≤ 4096) (hv : valid P s = true ∧ 0 ≤ g ∧ s.count ≤ g) :
    Calls Tryd.prog 8 #[.agg (caseCs P s g f).toArray, .int .i64 m] w fun e w' => e = .returned (.bool true) ∧ Below w.heap.size w w' := by
  obtain ⟨k1, k2, kg, kf, k5⟩ := case_cells P hs g f
  have a0 := k1 0 _ rfl; have a1 := k1 1 _ rfl; have a2 := k1 2 _ rfl; have a3 := k1 3 _ rfl
  have kc := k2 120 (.int .i64 s.count) (by simpa using St.get_count hs)
  simp only [Nat.reduceAdd] at kc
  have cM := Lib.hid (fun W (hb : Below w.heap.size w W) => small_walk AI AW W (hA.below hb))
  have cU := Lib.hid (fun W (hb : Below w.heap.size w W) => rvalid_walk P s W (I.below hb) hs)
  have h121 := St.cs_len hs
  have d1 : decide (f < 0) = false := by simp; omega
  have d2 : decide (m < 0) = false := by simp; omega
  have d3 : decide (4096 < f) = false := by simp; omega
  have d4 : decide (4096 - f < m) = false := by simp; omega
  rw [hv.1] at cU
  have d5 : decide (g < 0) = false := by simp; omega
  have d6 : decide (s.count ≤ g) = true := by simpa using hv.2.2
  clear hv
  unfold Pg.v St.v at *
  have kr := Lib.hid (fun (W : World) (b : Nat) (h : ∀ o, W.cell? ⟨b, o, none⟩ = (caseCs P s g f).toArray[o]?) => (fun j v hv => (h (4 + j)).trans (k2 j v hv) : W.rangeAt b 4 s.cs))
  generalize (caseCs P s g f).toArray = arr at *
  clear k1 k2
  replace k5 := Lib.hid k5
  go_enter Tryd.func8, Tryd.ntmps8
  have E0 := (Env.nil (w := w)).push w.heap.size rfl arr 52
  have y0 := E0.h0.cell
  go_wp2_with (first | ((go_at_call 21; ((with_reducible refine (cU.out _ E0.acc).mono ?_); rintro e w' ⟨rfl, hb0⟩)); have E1 := E0.next hb0; have y1 := E1.h0.cell) | (refine list_mid_st rfl _ rfl w.heap.size 4 rfl s.cs h121 (kr.out _ _ y0) ?_))
  refine load_mid_st _ rfl w.heap.size 4 rfl s.cs h121 (kr.out _ _ y0) ?_
  go_wp2_with (first | (go_at_call 19; ((with_reducible refine (cM.out _ E1.acc).mono ?_); rintro e w' ⟨rfl, hb1⟩)) | ((go_at_call 21; ((with_reducible refine (cU.out _ E0.acc).mono ?_); rintro e w' ⟨rfl, hb0⟩)); have E1 := E0.next hb0; have y1 := E1.h0.cell))
  go_ret
  exact ⟨rfl, (E1.next hb1).acc⟩
set_option maxHeartbeats 8000000 in
set_option maxRecDepth 100000 in
theorem sums_z8 {A : Int → Int → Int → Int × Int} (AI : AluOk A) (AW : AluWhy A) (P : Pg) (s : St) (g f m : Nat) (w : World) (I : P.In w) (hs : s.ok) (hA : AppW A w) (h3 : f + m ≤ 4096) (hv : valid P s = true) (hg : (g : Int) < s.count) :
    Calls Tryd.prog 8 #[.agg (caseCs P s g f).toArray, .int .i64 m] w fun e w' => e = .returned (.bool true) ∧ Below w.heap.size w w' := by
  obtain ⟨k1, k2, kg, kf, k5⟩ := case_cells P hs (g : Int) (f : Int)
  have a0 := k1 0 _ rfl; have a1 := k1 1 _ rfl; have a2 := k1 2 _ rfl; have a3 := k1 3 _ rfl
  have kc := k2 120 (.int .i64 s.count) (by simpa using St.get_count hs)
  simp only [Nat.reduceAdd] at kc
  have cM := Lib.hid (fun W (hb : Below w.heap.size w W) => small_walk AI AW W (hA.below hb))
  have cU := Lib.hid (fun W (hb : Below w.heap.size w W) => rvalid_walk P s W (I.below hb) hs)
  have h121 := St.cs_len hs
  rw [hv] at cU
  have d1 : decide ((f : Int) < 0) = false := by simp
  have d2 : decide ((m : Int) < 0) = false := by simp
  have d3 : decide (4096 < (f : Int)) = false := by simp; omega
  have d4 : decide (4096 - (f : Int) < (m : Int)) = false := by simp; omega
  have d5 : decide ((g : Int) < 0) = false := by simp
  have d6 : decide (s.count ≤ (g : Int)) = false := by simp; omega
  have hx := I.insOk
  obtain ⟨e1, e2, e3⟩ := stl_sums AI AW hx hs hv g f m hg h3
  obtain ⟨o1, v1⟩ := stl_ok AI AW hx hs hv g f hg (by omega)
  obtain ⟨o3, v3⟩ := stl_ok AI AW hx hs hv g (f + m) hg h3
  have c1 := Lib.hid (fun W (hb : Below w.heap.size w W) => settleS_walk AI AW P s g f W (I.below hb) hs (hA.below hb))
  have c2 := Lib.hid (fun W (hb : Below w.heap.size w W) => settleS_walk AI AW P _ g m W (I.below hb) o1 (hA.below hb))
  have c3 := Lib.hid (fun W (hb : Below w.heap.size w W) => settleS_walk AI AW P s g (f + m : Nat) W (I.below hb) hs (hA.below hb))
  have q3 := Lib.hid (fun W => eq_st o3 W)
  rw [e1] at c1
  rw [e2, e3] at c2
  rw [e3] at c3
  rw [show ((f + m : Nat) : Int) = (f : Int) + (m : Int) from Int.natCast_add f m] at c2 c3 o3 v3 q3 e2 e3
  have n1 := Lib.hid (show (stl A P s g f).1.cs.toArray.size = 121 by simpa using St.cs_len o1)
  have n3 := Lib.hid (show (stl A P s g ((f : Int) + (m : Int))).1.cs.toArray.size = 121 by simpa using St.cs_len o3)
  have p1 := Lib.hid (St.one_cell (s := (stl A P s g f).1))
  have p3 := Lib.hid (St.one_cell (s := (stl A P s g ((f : Int) + (m : Int))).1))
  have hno := Lib.hid (show Tryd.zeroCells32.size = 121 by rw [zc]; simpa using St.cs_len St.none_ok)
  unfold Pg.v St.v at *
  have kr := Lib.hid (fun (W : World) (b : Nat) (h : ∀ o, W.cell? ⟨b, o, none⟩ = (caseCs P s (g : Int) (f : Int)).toArray[o]?) => (fun j v hv => (h (4 + j)).trans (k2 j v hv) : W.rangeAt b 4 s.cs))
  generalize (caseCs P s (g : Int) (f : Int)).toArray = arr at *
  clear k1 k2
  replace k5 := Lib.hid k5
  generalize (stl A P s g ((f : Int) + (m : Int))).1.cs.toArray = t3 at *
  generalize (stl A P s g f).1.cs.toArray = t1 at *
  clear e1 e2 e3 o1 o3 v1 v3 hv hx
  go_enter Tryd.func8, Tryd.ntmps8
  have E0 := (Env.nil (w := w)).push w.heap.size rfl arr 52
  have y0 := E0.h0.cell
  go_wp2_with (first | ((go_at_call 21; ((with_reducible refine (cU.out _ E0.acc).mono ?_); rintro e w' ⟨rfl, hb0⟩)); have E1 := E0.next hb0; have y1 := E1.h0.cell))
  refine load_mid_st _ rfl w.heap.size 4 rfl s.cs h121 (kr.out _ _ y0) ?_
  go_wp2_with (first
    | (refine wpList_store_mid rfl 32 _ _ rfl w'.heap.size 0 _ rfl rfl ((Blk.new' _ _ _ _ rfl).there _ _ (by rw [hno.out, n3.out]; omega)) (by rw [size32, n3.out]) p3.out ?_
       have hlt7 := E6.h0.lt
       have E7 := Env.setRow (by have := E6.acc.size; omega) (fun p hp => by simp only [List.mem_cons, List.not_mem_nil, or_false] at hp; rcases hp with rfl | rfl | rfl <;> (simp only; omega)) t3.toList _ 0 _ (E6.push w'.heap.size rfl Tryd.zeroCells32 32) (by rw [hno.out]; simp [n3.out])
       rw [putRow_all _ _ (by rw [hno.out]; simp [n3.out])] at E7
       simp only [Array.toArray_toList] at E7
       generalize hb7 : w'.heap.size = b7 at E7 hlt7 ⊢
       generalize World.setCells _ _ _ _ = W7 at E7 ⊢
       skip)
    | ((go_at_call 22; ((with_reducible refine (c3.out _ E5.acc).mono ?_); rintro e w' ⟨rfl, hb3⟩)); have E6 := E5.next hb3)
    | (refine list_mid_st rfl _ rfl w.heap.size 4 rfl s.cs h121 (kr.out _ _ y5) ?_)
    | (refine wpList_store_mid rfl 32 _ _ rfl w'.heap.size 0 _ rfl rfl ((Blk.new' _ _ _ _ rfl).there _ _ (by rw [hno.out, n3.out]; omega)) (by rw [size32, n3.out]) p3.out ?_
       have hlt5 := E4.h0.lt
       have E5 := Env.setRow (by have := E4.acc.size; omega) (fun p hp => by simp only [List.mem_cons, List.not_mem_nil, or_false] at hp; rcases hp with rfl | rfl <;> (simp only; omega)) t3.toList _ 0 _ (E4.push w'.heap.size rfl Tryd.zeroCells32 32) (by rw [hno.out]; simp [n3.out])
       rw [putRow_all _ _ (by rw [hno.out]; simp [n3.out])] at E5
       simp only [Array.toArray_toList] at E5
       generalize hb5 : w'.heap.size = b5 at E5 hlt5 ⊢
       generalize World.setCells _ _ _ _ = W5 at E5 ⊢
       have y5 := E5.tl.tl.h0.cell)
    | ((go_at_call 22; ((with_reducible refine (c2.out _ E3.acc).mono ?_); rintro e w' ⟨rfl, hb2⟩)); have E4 := E3.next hb2)
    | (refine list_load_st rfl _ rfl (b := b3) rfl E3.h0 n1.out ?_)
    | (refine wpList_store_mid rfl 32 _ _ rfl w'.heap.size 0 _ rfl rfl ((Blk.new' _ _ _ _ rfl).there _ _ (by rw [hno.out, n1.out]; omega)) (by rw [size32, n1.out]) p1.out ?_
       have hlt3 := E2.h0.lt
       have E3 := Env.setRow (by have := E2.acc.size; omega) (fun p hp => by simp only [List.mem_cons, List.not_mem_nil, or_false] at hp; rcases hp with rfl <;> (simp only; omega)) t1.toList _ 0 _ (E2.push w'.heap.size rfl Tryd.zeroCells32 32) (by rw [hno.out]; simp [n1.out])
       rw [putRow_all _ _ (by rw [hno.out]; simp [n1.out])] at E3
       simp only [Array.toArray_toList] at E3
       generalize hb3 : w'.heap.size = b3 at E3 hlt3 ⊢
       generalize World.setCells _ _ _ _ = W3 at E3 ⊢
       have y3 := E3.tl.h0.cell)
    | ((go_at_call 22; ((with_reducible refine (c1.out _ E1.acc).mono ?_); rintro e w' ⟨rfl, hb1⟩)); have E2 := E1.next hb1)
    | (refine list_mid_st rfl _ rfl w.heap.size 4 rfl s.cs h121 (kr.out _ _ y1) ?_)
    | ((go_at_call 21; ((with_reducible refine (cU.out _ E0.acc).mono ?_); rintro e w' ⟨rfl, hb0⟩)); have E1 := E0.next hb0; have y1 := E1.h0.cell))
  clear y0 y1 y3 y5 E0 E1 E2 E3 E4 E5 E6 c1 c2 c3 cU cM kr
  have q3 := q3.out
  have q4 : ∀ W, (Op.equalIn 10000 32 (.agg t3) (.agg t3)).run Tryd.prog W = .ok true W := q3
  refine load_state _ rfl b5 rfl t3 n3.out E7.tl.h0 ?_
  go_wp2
  refine load_state _ rfl b7 rfl t3 n3.out E7.h0 ?_
  go_wp2
  go_ret
  exact ⟨rfl, E7.acc⟩
theorem sums_walk {A : Int → Int → Int → Int × Int} (AI : AluOk A) (AW : AluWhy A) (P : Pg) (s : St) (g f m : Int) (w : World) (I : P.In w) (hs : s.ok) (hm : I64 m) (hA : AppW A w) :
    Calls Tryd.prog 8 #[.agg (caseCs P s g f).toArray, .int .i64 m] w fun e w' => e = .returned (.bool true) ∧ Below w.heap.size w w' := by
  by_cases c1 : f < 0
  · exact sums_z1 AI AW P s g f m w I hs hm hA c1
  by_cases c2 : m < 0
  · exact sums_z2 AI AW P s g f m w I hs hm hA ⟨c1, c2⟩
  by_cases c3 : 4096 < f
  · exact sums_z3 AI AW P s g f m w I hs hm hA ⟨c1, c2, c3⟩
  by_cases c4 : 4096 - f < m
  · exact sums_z4 AI AW P s g f m w I hs hm hA ⟨c1, c2, c3, c4⟩
  by_cases c5 : valid P s = true
  · by_cases c6 : g < 0
    · exact sums_z6 AI AW P s g f m w I hs hm hA (by omega) (by omega) (by omega) ⟨c5, c6⟩
    by_cases c7 : s.count ≤ g
    · exact sums_z7 AI AW P s g f m w I hs hm hA (by omega) (by omega) (by omega) ⟨c5, by omega, c7⟩
    obtain ⟨g, rfl⟩ : ∃ k : Nat, g = k := ⟨g.toNat, by omega⟩
    obtain ⟨f, rfl⟩ : ∃ k : Nat, f = k := ⟨f.toNat, by omega⟩
    obtain ⟨m, rfl⟩ : ∃ k : Nat, m = k := ⟨m.toNat, by omega⟩
    exact sums_z8 AI AW P s g f m w I hs hA (by omega) c5 (by omega)
  · exact sums_z5 AI AW P s g f m w I hs hm hA (by omega) (by omega) (by omega) (by simpa using c5)
end Go.Proofs.YtbcdeanmjhcgeaaDoor.Pg
