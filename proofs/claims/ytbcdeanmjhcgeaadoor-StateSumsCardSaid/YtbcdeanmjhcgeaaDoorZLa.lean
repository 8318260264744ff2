/- StateApart, walked: a program, a state, numbers that came in. The condition: what word.Apply gives is A. -/
import Derived.Test.YtbcdeanmjhcgeaaDoorZk
namespace Go.Proofs.YtbcdeanmjhcgeaaDoor.Pg
set_option linter.unusedVariables false
set_option linter.unusedSimpArgs false
open Go.ChangeShapes Go.WideShapes Go.RowKit
set_option linter.unusedVariables false
set_option linter.unusedSimpArgs false
set_option maxHeartbeats 8000000 in
set_option maxRecDepth 100000 in
theorem apart_z1 {A : Int → Int → Int → Int × Int} (AI : AluOk A) (AW : AluWhy A) (P : Pg) (s : St) (g f m : Int) (w : World) (I : P.In w) (hs : s.ok) (hA : AppW A w) (hv : valid P s = false) :
    Calls Tryd.prog 9 #[.agg (caseCs P s g f).toArray, .int .i64 m] w fun e w' => e = .returned (.bool true) ∧ Below w.heap.size w w' := by
  obtain ⟨k1, k2, kg, kf, k5⟩ := case_cells P hs g f
  have a0 := k1 0 _ rfl; have a1 := k1 1 _ rfl; have a2 := k1 2 _ rfl; have a3 := k1 3 _ rfl
  have kc := k2 120 (.int .i64 s.count) (by simpa using St.get_count hs)
  simp only [Nat.reduceAdd] at kc
  have cM := Lib.hid (fun W (hb : Below w.heap.size w W) => small_walk AI AW W (hA.below hb))
  have cU := Lib.hid (fun W (hb : Below w.heap.size w W) => rvalid_walk P s W (I.below hb) hs)
  have h121 := St.cs_len hs
  rw [hv] at cU
  clear hv
  unfold Pg.v St.v at *
  have kr := Lib.hid (fun (W : World) (b : Nat) (h : ∀ o, W.cell? ⟨b, o, none⟩ = (caseCs P s g f).toArray[o]?) => (fun j v hv => (h (4 + j)).trans (k2 j v hv) : W.rangeAt b 4 s.cs))
  generalize (caseCs P s g f).toArray = arr at *
  clear k1 k2
  replace k5 := Lib.hid k5
  go_enter Tryd.func9, Tryd.ntmps9
  have E0 := (Env.nil (w := w)).push w.heap.size rfl arr 52
  have y0 := E0.h0.cell
  go_wp2_with (first | (go_at_call 19; ((with_reducible refine (cM.out _ E1.acc).mono ?_); rintro e w' ⟨rfl, hb1⟩)) | ((go_at_call 21; ((with_reducible refine (cU.out _ E0.acc).mono ?_); rintro e w' ⟨rfl, hb0⟩)); have E1 := E0.next hb0; have y1 := E1.h0.cell) | (refine list_mid_st rfl _ rfl w.heap.size 4 rfl s.cs h121 (kr.out _ _ y0) ?_))
  go_ret
  exact ⟨rfl, (E1.next hb1).acc⟩
set_option maxHeartbeats 8000000 in
set_option maxRecDepth 100000 in
theorem apart_z2 {A : Int → Int → Int → Int × Int} (AI : AluOk A) (AW : AluWhy A) (P : Pg) (s : St) (g f m : Int) (w : World) (I : P.In w) (hs : s.ok) (hA : AppW A w) (hv : valid P s = true ∧ g < 0) :
    Calls Tryd.prog 9 #[.agg (caseCs P s g f).toArray, .int .i64 m] w fun e w' => e = .returned (.bool true) ∧ Below w.heap.size w w' := by
  obtain ⟨k1, k2, kg, kf, k5⟩ := case_cells P hs g f
  have a0 := k1 0 _ rfl; have a1 := k1 1 _ rfl; have a2 := k1 2 _ rfl; have a3 := k1 3 _ rfl
  have kc := k2 120 (.int .i64 s.count) (by simpa using St.get_count hs)
  simp only [Nat.reduceAdd] at kc
  have cM := Lib.hid (fun W (hb : Below w.heap.size w W) => small_walk AI AW W (hA.below hb))
  have cU := Lib.hid (fun W (hb : Below w.heap.size w W) => rvalid_walk P s W (I.below hb) hs)
  have h121 := St.cs_len hs
  rw [hv.1] at cU
  have d1 : decide (g < 0) = true := by simp; omega
  clear hv
  unfold Pg.v St.v at *
  have kr := Lib.hid (fun (W : World) (b : Nat) (h : ∀ o, W.cell? ⟨b, o, none⟩ = (caseCs P s g f).toArray[o]?) => (fun j v hv => (h (4 + j)).trans (k2 j v hv) : W.rangeAt b 4 s.cs))
  generalize (caseCs P s g f).toArray = arr at *
  clear k1 k2
  replace k5 := Lib.hid k5
  go_enter Tryd.func9, Tryd.ntmps9
  have E0 := (Env.nil (w := w)).push w.heap.size rfl arr 52
  have y0 := E0.h0.cell
  go_wp2_with (first | (go_at_call 19; ((with_reducible refine (cM.out _ E1.acc).mono ?_); rintro e w' ⟨rfl, hb1⟩)) | ((go_at_call 21; ((with_reducible refine (cU.out _ E0.acc).mono ?_); rintro e w' ⟨rfl, hb0⟩)); have E1 := E0.next hb0; have y1 := E1.h0.cell) | (refine list_mid_st rfl _ rfl w.heap.size 4 rfl s.cs h121 (kr.out _ _ y0) ?_))
  go_ret
  exact ⟨rfl, (E1.next hb1).acc⟩
set_option maxHeartbeats 8000000 in
set_option maxRecDepth 100000 in
theorem apart_z3 {A : Int → Int → Int → Int × Int} (AI : AluOk A) (AW : AluWhy A) (P : Pg) (s : St) (g f m : Int) (w : World) (I : P.In w) (hs : s.ok) (hA : AppW A w) (hv : valid P s = true ∧ ¬ g < 0 ∧ s.count ≤ g) :
    Calls Tryd.prog 9 #[.agg (caseCs P s g f).toArray, .int .i64 m] w fun e w' => e = .returned (.bool true) ∧ Below w.heap.size w w' := by
  obtain ⟨k1, k2, kg, kf, k5⟩ := case_cells P hs g f
  have a0 := k1 0 _ rfl; have a1 := k1 1 _ rfl; have a2 := k1 2 _ rfl; have a3 := k1 3 _ rfl
  have kc := k2 120 (.int .i64 s.count) (by simpa using St.get_count hs)
  simp only [Nat.reduceAdd] at kc
  have cM := Lib.hid (fun W (hb : Below w.heap.size w W) => small_walk AI AW W (hA.below hb))
  have cU := Lib.hid (fun W (hb : Below w.heap.size w W) => rvalid_walk P s W (I.below hb) hs)
  have h121 := St.cs_len hs
  rw [hv.1] at cU
  have d1 : decide (g < 0) = false := by simp; omega
  have d2 : decide (s.count ≤ g) = true := by simp; omega
  clear hv
  unfold Pg.v St.v at *
  have kr := Lib.hid (fun (W : World) (b : Nat) (h : ∀ o, W.cell? ⟨b, o, none⟩ = (caseCs P s g f).toArray[o]?) => (fun j v hv => (h (4 + j)).trans (k2 j v hv) : W.rangeAt b 4 s.cs))
  generalize (caseCs P s g f).toArray = arr at *
  clear k1 k2
  replace k5 := Lib.hid k5
  go_enter Tryd.func9, Tryd.ntmps9
  have E0 := (Env.nil (w := w)).push w.heap.size rfl arr 52
  have y0 := E0.h0.cell
  go_wp2_with (first | (go_at_call 19; ((with_reducible refine (cM.out _ E1.acc).mono ?_); rintro e w' ⟨rfl, hb1⟩)) | ((go_at_call 21; ((with_reducible refine (cU.out _ E0.acc).mono ?_); rintro e w' ⟨rfl, hb0⟩)); have E1 := E0.next hb0; have y1 := E1.h0.cell) | (refine list_mid_st rfl _ rfl w.heap.size 4 rfl s.cs h121 (kr.out _ _ y0) ?_))
  go_ret
  exact ⟨rfl, (E1.next hb1).acc⟩
set_option maxHeartbeats 8000000 in
set_option maxRecDepth 100000 in
theorem apart_z4 {A : Int → Int → Int → Int × Int} (AI : AluOk A) (AW : AluWhy A) (P : Pg) (s : St) (g f m : Int) (w : World) (I : P.In w) (hs : s.ok) (hA : AppW A w) (hv : valid P s = true ∧ ¬ g < 0 ∧ ¬ s.count ≤ g ∧ m < 0) :
    Calls Tryd.prog 9 #[.agg (caseCs P s g f).toArray, .int .i64 m] w fun e w' => e = .returned (.bool true) ∧ Below w.heap.size w w' := by
  obtain ⟨k1, k2, kg, kf, k5⟩ := case_cells P hs g f
  have a0 := k1 0 _ rfl; have a1 := k1 1 _ rfl; have a2 := k1 2 _ rfl; have a3 := k1 3 _ rfl
  have kc := k2 120 (.int .i64 s.count) (by simpa using St.get_count hs)
  simp only [Nat.reduceAdd] at kc
  have cM := Lib.hid (fun W (hb : Below w.heap.size w W) => small_walk AI AW W (hA.below hb))
  have cU := Lib.hid (fun W (hb : Below w.heap.size w W) => rvalid_walk P s W (I.below hb) hs)
  have h121 := St.cs_len hs
  rw [hv.1] at cU
  have d1 : decide (g < 0) = false := by simp; omega
  have d2 : decide (s.count ≤ g) = false := by simp; omega
  have d3 : decide (m < 0) = true := by simp; omega
  clear hv
  unfold Pg.v St.v at *
  have kr := Lib.hid (fun (W : World) (b : Nat) (h : ∀ o, W.cell? ⟨b, o, none⟩ = (caseCs P s g f).toArray[o]?) => (fun j v hv => (h (4 + j)).trans (k2 j v hv) : W.rangeAt b 4 s.cs))
  generalize (caseCs P s g f).toArray = arr at *
  clear k1 k2
  replace k5 := Lib.hid k5
  go_enter Tryd.func9, Tryd.ntmps9
  have E0 := (Env.nil (w := w)).push w.heap.size rfl arr 52
  have y0 := E0.h0.cell
  go_wp2_with (first | (go_at_call 19; ((with_reducible refine (cM.out _ E1.acc).mono ?_); rintro e w' ⟨rfl, hb1⟩)) | ((go_at_call 21; ((with_reducible refine (cU.out _ E0.acc).mono ?_); rintro e w' ⟨rfl, hb0⟩)); have E1 := E0.next hb0; have y1 := E1.h0.cell) | (refine list_mid_st rfl _ rfl w.heap.size 4 rfl s.cs h121 (kr.out _ _ y0) ?_))
  go_ret
  exact ⟨rfl, (E1.next hb1).acc⟩
set_option maxHeartbeats 8000000 in
set_option maxRecDepth 100000 in
theorem apart_z5 {A : Int → Int → Int → Int × Int} (AI : AluOk A) (AW : AluWhy A) (P : Pg) (s : St) (g f m : Int) (w : World) (I : P.In w) (hs : s.ok) (hA : AppW A w) (hv : valid P s = true ∧ ¬ g < 0 ∧ ¬ s.count ≤ g ∧ ¬ m < 0 ∧ s.count ≤ m) :
    Calls Tryd.prog 9 #[.agg (caseCs P s g f).toArray, .int .i64 m] w fun e w' => e = .returned (.bool true) ∧ Below w.heap.size w w' := by
  obtain ⟨k1, k2, kg, kf, k5⟩ := case_cells P hs g f
  have a0 := k1 0 _ rfl; have a1 := k1 1 _ rfl; have a2 := k1 2 _ rfl; have a3 := k1 3 _ rfl
  have kc := k2 120 (.int .i64 s.count) (by simpa using St.get_count hs)
  simp only [Nat.reduceAdd] at kc
  have cM := Lib.hid (fun W (hb : Below w.heap.size w W) => small_walk AI AW W (hA.below hb))
  have cU := Lib.hid (fun W (hb : Below w.heap.size w W) => rvalid_walk P s W (I.below hb) hs)
  have h121 := St.cs_len hs
  rw [hv.1] at cU
  have d1 : decide (g < 0) = false := by simp; omega
  have d2 : decide (s.count ≤ g) = false := by simp; omega
  have d3 : decide (m < 0) = false := by simp; omega
  have d4 : decide (s.count ≤ m) = true := by simp; omega
  clear hv
  unfold Pg.v St.v at *
  have kr := Lib.hid (fun (W : World) (b : Nat) (h : ∀ o, W.cell? ⟨b, o, none⟩ = (caseCs P s g f).toArray[o]?) => (fun j v hv => (h (4 + j)).trans (k2 j v hv) : W.rangeAt b 4 s.cs))
  generalize (caseCs P s g f).toArray = arr at *
  clear k1 k2
  replace k5 := Lib.hid k5
  go_enter Tryd.func9, Tryd.ntmps9
  have E0 := (Env.nil (w := w)).push w.heap.size rfl arr 52
  have y0 := E0.h0.cell
  go_wp2_with (first | (go_at_call 19; ((with_reducible refine (cM.out _ E1.acc).mono ?_); rintro e w' ⟨rfl, hb1⟩)) | ((go_at_call 21; ((with_reducible refine (cU.out _ E0.acc).mono ?_); rintro e w' ⟨rfl, hb0⟩)); have E1 := E0.next hb0; have y1 := E1.h0.cell) | (refine list_mid_st rfl _ rfl w.heap.size 4 rfl s.cs h121 (kr.out _ _ y0) ?_))
  go_ret
  exact ⟨rfl, (E1.next hb1).acc⟩
set_option maxHeartbeats 8000000 in
set_option maxRecDepth 100000 in
theorem apart_z6 {A : Int → Int → Int → Int × Int} (AI : AluOk A) (AW : AluWhy A) (P : Pg) (s : St) (g f m : Int) (w : World) (I : P.In w) (hs : s.ok) (hA : AppW A w) (hv : valid P s = true ∧ ¬ g < 0 ∧ ¬ s.count ≤ g ∧ ¬ m < 0 ∧ ¬ s.count ≤ m ∧ f < 0) :
    Calls Tryd.prog 9 #[.agg (caseCs P s g f).toArray, .int .i64 m] w fun e w' => e = .returned (.bool true) ∧ Below w.heap.size w w' := by
  obtain ⟨k1, k2, kg, kf, k5⟩ := case_cells P hs g f
  have a0 := k1 0 _ rfl; have a1 := k1 1 _ rfl; have a2 := k1 2 _ rfl; have a3 := k1 3 _ rfl
  have kc := k2 120 (.int .i64 s.count) (by simpa using St.get_count hs)
  simp only [Nat.reduceAdd] at kc
  have cM := Lib.hid (fun W (hb : Below w.heap.size w W) => small_walk AI AW W (hA.below hb))
  have cU := Lib.hid (fun W (hb : Below w.heap.size w W) => rvalid_walk P s W (I.below hb) hs)
  have h121 := St.cs_len hs
  rw [hv.1] at cU
  have d1 : decide (g < 0) = false := by simp; omega
  have d2 : decide (s.count ≤ g) = false := by simp; omega
  have d3 : decide (m < 0) = false := by simp; omega
  have d4 : decide (s.count ≤ m) = false := by simp; omega
  have d5 : decide (f < 0) = true := by simp; omega
  clear hv
  unfold Pg.v St.v at *
  have kr := Lib.hid (fun (W : World) (b : Nat) (h : ∀ o, W.cell? ⟨b, o, none⟩ = (caseCs P s g f).toArray[o]?) => (fun j v hv => (h (4 + j)).trans (k2 j v hv) : W.rangeAt b 4 s.cs))
  generalize (caseCs P s g f).toArray = arr at *
  clear k1 k2
  replace k5 := Lib.hid k5
  go_enter Tryd.func9, Tryd.ntmps9
  have E0 := (Env.nil (w := w)).push w.heap.size rfl arr 52
  have y0 := E0.h0.cell
  go_wp2_with (first | (go_at_call 19; ((with_reducible refine (cM.out _ E1.acc).mono ?_); rintro e w' ⟨rfl, hb1⟩)) | ((go_at_call 21; ((with_reducible refine (cU.out _ E0.acc).mono ?_); rintro e w' ⟨rfl, hb0⟩)); have E1 := E0.next hb0; have y1 := E1.h0.cell) | (refine list_mid_st rfl _ rfl w.heap.size 4 rfl s.cs h121 (kr.out _ _ y0) ?_))
  go_ret
  exact ⟨rfl, (E1.next hb1).acc⟩
set_option maxHeartbeats 8000000 in
set_option maxRecDepth 100000 in
theorem apart_z7 {A : Int → Int → Int → Int × Int} (AI : AluOk A) (AW : AluWhy A) (P : Pg) (s : St) (g f m : Int) (w : World) (I : P.In w) (hs : s.ok) (hA : AppW A w) (hv : valid P s = true ∧ ¬ g < 0 ∧ ¬ s.count ≤ g ∧ ¬ m < 0 ∧ ¬ s.count ≤ m ∧ ¬ f < 0 ∧ 4096 < f) :
    Calls Tryd.prog 9 #[.agg (caseCs P s g f).toArray, .int .i64 m] w fun e w' => e = .returned (.bool true) ∧ Below w.heap.size w w' := by
  obtain ⟨k1, k2, kg, kf, k5⟩ := case_cells P hs g f
  have a0 := k1 0 _ rfl; have a1 := k1 1 _ rfl; have a2 := k1 2 _ rfl; have a3 := k1 3 _ rfl
  have kc := k2 120 (.int .i64 s.count) (by simpa using St.get_count hs)
  simp only [Nat.reduceAdd] at kc
  have cM := Lib.hid (fun W (hb : Below w.heap.size w W) => small_walk AI AW W (hA.below hb))
  have cU := Lib.hid (fun W (hb : Below w.heap.size w W) => rvalid_walk P s W (I.below hb) hs)
  have h121 := St.cs_len hs
  rw [hv.1] at cU
  have d1 : decide (g < 0) = false := by simp; omega
  have d2 : decide (s.count ≤ g) = false := by simp; omega
  have d3 : decide (m < 0) = false := by simp; omega
  have d4 : decide (s.count ≤ m) = false := by simp; omega
  have d5 : decide (f < 0) = false := by simp; omega
  have d6 : decide (4096 < f) = true := by simp; omega
  clear hv
  unfold Pg.v St.v at *
  have kr := Lib.hid (fun (W : World) (b : Nat) (h : ∀ o, W.cell? ⟨b, o, none⟩ = (caseCs P s g f).toArray[o]?) => (fun j v hv => (h (4 + j)).trans (k2 j v hv) : W.rangeAt b 4 s.cs))
  generalize (caseCs P s g f).toArray = arr at *
  clear k1 k2
  replace k5 := Lib.hid k5
  go_enter Tryd.func9, Tryd.ntmps9
  have E0 := (Env.nil (w := w)).push w.heap.size rfl arr 52
  have y0 := E0.h0.cell
  go_wp2_with (first | (go_at_call 19; ((with_reducible refine (cM.out _ E1.acc).mono ?_); rintro e w' ⟨rfl, hb1⟩)) | ((go_at_call 21; ((with_reducible refine (cU.out _ E0.acc).mono ?_); rintro e w' ⟨rfl, hb0⟩)); have E1 := E0.next hb0; have y1 := E1.h0.cell) | (refine list_mid_st rfl _ rfl w.heap.size 4 rfl s.cs h121 (kr.out _ _ y0) ?_))
  go_ret
  exact ⟨rfl, (E1.next hb1).acc⟩
set_option maxHeartbeats 8000000 in
set_option maxRecDepth 100000 in
theorem apart_z8 {A : Int → Int → Int → Int × Int} (AI : AluOk A) (AW : AluWhy A) (P : Pg) (s : St) (g f m : Int) (w : World) (I : P.In w) (hs : s.ok) (hA : AppW A w) (hv : valid P s = true ∧ ¬ g < 0 ∧ ¬ s.count ≤ g ∧ ¬ m < 0 ∧ ¬ s.count ≤ m ∧ ¬ f < 0 ∧ ¬ 4096 < f ∧ g = m) :
    Calls Tryd.prog 9 #[.agg (caseCs P s g f).toArray, .int .i64 m] w fun e w' => e = .returned (.bool true) ∧ Below w.heap.size w w' := by
  obtain ⟨k1, k2, kg, kf, k5⟩ := case_cells P hs g f
  have a0 := k1 0 _ rfl; have a1 := k1 1 _ rfl; have a2 := k1 2 _ rfl; have a3 := k1 3 _ rfl
  have kc := k2 120 (.int .i64 s.count) (by simpa using St.get_count hs)
  simp only [Nat.reduceAdd] at kc
  have cM := Lib.hid (fun W (hb : Below w.heap.size w W) => small_walk AI AW W (hA.below hb))
  have cU := Lib.hid (fun W (hb : Below w.heap.size w W) => rvalid_walk P s W (I.below hb) hs)
  have h121 := St.cs_len hs
  rw [hv.1] at cU
  have d1 : decide (g < 0) = false := by simp; omega
  have d2 : decide (s.count ≤ g) = false := by simp; omega
  have d3 : decide (m < 0) = false := by simp; omega
  have d4 : decide (s.count ≤ m) = false := by simp; omega
  have d5 : decide (f < 0) = false := by simp; omega
  have d6 : decide (4096 < f) = false := by simp; omega
  have d9 : (g == m) = true := by simp; omega
  clear hv
  unfold Pg.v St.v at *
  have kr := Lib.hid (fun (W : World) (b : Nat) (h : ∀ o, W.cell? ⟨b, o, none⟩ = (caseCs P s g f).toArray[o]?) => (fun j v hv => (h (4 + j)).trans (k2 j v hv) : W.rangeAt b 4 s.cs))
  generalize (caseCs P s g f).toArray = arr at *
  clear k1 k2
  replace k5 := Lib.hid k5
  go_enter Tryd.func9, Tryd.ntmps9
  have E0 := (Env.nil (w := w)).push w.heap.size rfl arr 52
  have y0 := E0.h0.cell
  go_wp2_with (first | (go_at_call 19; ((with_reducible refine (cM.out _ E1.acc).mono ?_); rintro e w' ⟨rfl, hb1⟩)) | ((go_at_call 21; ((with_reducible refine (cU.out _ E0.acc).mono ?_); rintro e w' ⟨rfl, hb0⟩)); have E1 := E0.next hb0; have y1 := E1.h0.cell) | (refine list_mid_st rfl _ rfl w.heap.size 4 rfl s.cs h121 (kr.out _ _ y0) ?_))
  go_ret
  exact ⟨rfl, (E1.next hb1).acc⟩
set_option maxHeartbeats 8000000 in
set_option maxRecDepth 100000 in
theorem apart_z9 {A : Int → Int → Int → Int × Int} (AI : AluOk A) (AW : AluWhy A) (P : Pg) (s : St) (g f m : Nat) (w : World) (I : P.In w) (hs : s.ok) (hA : AppW A w) (h3 : f ≤ 4096) (hv : valid P s = true) (hg : (g : Int) < s.count) (hm : (m : Int) < s.count) (hgm : g ≠ m) :
    Calls Tryd.prog 9 #[.agg (caseCs P s g f).toArray, .int .i64 m] w fun e w' => e = .returned (.bool true) ∧ Below w.heap.size w w' := by
  obtain ⟨k1, k2, kg, kf, k5⟩ := case_cells P hs (g : Int) (f : Int)
  have a0 := k1 0 _ rfl; have a1 := k1 1 _ rfl; have a2 := k1 2 _ rfl; have a3 := k1 3 _ rfl
  have kc := k2 120 (.int .i64 s.count) (by simpa using St.get_count hs)
  simp only [Nat.reduceAdd] at kc
  have cM := Lib.hid (fun W (hb : Below w.heap.size w W) => small_walk AI AW W (hA.below hb))
  have cU := Lib.hid (fun W (hb : Below w.heap.size w W) => rvalid_walk P s W (I.below hb) hs)
  have h121 := St.cs_len hs
  rw [hv] at cU
  have d1 : decide ((g : Int) < 0) = false := by simp
  have d2 : decide (s.count ≤ (g : Int)) = false := by simp; omega
  have d3 : decide ((m : Int) < 0) = false := by simp
  have d4 : decide (s.count ≤ (m : Int)) = false := by simp; omega
  have d5 : decide ((f : Int) < 0) = false := by simp
  have d6 : decide (4096 < (f : Int)) = false := by simp; omega
  have d9 : ((g : Int) == (m : Int)) = false := by simp; omega
  have hx := I.insOk
  obtain ⟨e1, e2⟩ := stl_apart AI AW hx hs hv g m f hg hm hgm h3
  obtain ⟨o1, v1⟩ := stl_ok AI AW hx hs hv g f hg h3
  obtain ⟨o2, v2⟩ := stl_ok AI AW hx hs hv m f hm h3
  have c1 := Lib.hid (fun W (hb : Below w.heap.size w W) => settleS_walk AI AW P s g f W (I.below hb) hs (hA.below hb))
  have c2 := Lib.hid (fun W (hb : Below w.heap.size w W) => settleS_walk AI AW P _ m f W (I.below hb) o1 (hA.below hb))
  have c3 := Lib.hid (fun W (hb : Below w.heap.size w W) => settleS_walk AI AW P s m f W (I.below hb) hs (hA.below hb))
  have c4 := Lib.hid (fun W (hb : Below w.heap.size w W) => settleS_walk AI AW P _ g f W (I.below hb) o2 (hA.below hb))
  have hcg : (g : Int) < (stl A P s m f).1.count ∧ (m : Int) < (stl A P s g f).1.count := by rw [stl_eq hs hv m f hm h3, stl_eq hs hv g f hg h3]; exact ⟨hg, hm⟩
  obtain ⟨o3, _⟩ := stl_ok AI AW hx o1 v1 m f hcg.2 h3
  rw [show (stl A P s g f).2 = 0 by rw [stl_eq hs hv g f hg h3]] at c1
  rw [show (stl A P s m f).2 = 0 by rw [stl_eq hs hv m f hm h3]] at c3
  rw [← e1, e2] at c4
  rw [e2] at c2
  have q3 := fun W => eq_st o3 W
  have n1 := Lib.hid (show (stl A P s g f).1.cs.toArray.size = 121 by simpa using St.cs_len o1)
  have n2 := Lib.hid (show (stl A P s m f).1.cs.toArray.size = 121 by simpa using St.cs_len o2)
  have n3 := Lib.hid (show (stl A P (stl A P s g f).1 m f).1.cs.toArray.size = 121 by simpa using St.cs_len o3)
  have p1 := Lib.hid (St.one_cell (s := (stl A P s g f).1))
  have p2 := Lib.hid (St.one_cell (s := (stl A P s m f).1))
  have p3 := Lib.hid (St.one_cell (s := (stl A P (stl A P s g f).1 m f).1))
  have hno := Lib.hid (show Tryd.zeroCells32.size = 121 by rw [zc]; simpa using St.cs_len St.none_ok)
  unfold Pg.v St.v at *
  have kr := Lib.hid (fun (W : World) (b : Nat) (h : ∀ o, W.cell? ⟨b, o, none⟩ = (caseCs P s (g : Int) (f : Int)).toArray[o]?) => (fun j v hv => (h (4 + j)).trans (k2 j v hv) : W.rangeAt b 4 s.cs))
  generalize (caseCs P s (g : Int) (f : Int)).toArray = arr at *
  clear k1 k2
  replace k5 := Lib.hid k5
  clear e1 e2 v1 v2 hv hx hcg
  generalize (stl A P (stl A P s g f).1 m f).1.cs.toArray = t3 at *
  generalize (stl A P s g f).1.cs.toArray = t1 at *
  generalize (stl A P s m f).1.cs.toArray = t2 at *
  clear o1 o2 o3
  replace q3 := Lib.hid q3
  go_enter Tryd.func9, Tryd.ntmps9
  have E0 := (Env.nil (w := w)).push w.heap.size rfl arr 52
  have y0 := E0.h0.cell
  go_wp2_with (first
    | (refine wpList_store_mid rfl 32 _ _ rfl b7 0 _ rfl rfl (E8.h0.there _ _ (by rw [n2.out, n3.out]; omega)) (by rw [size32, n3.out]) p3.out ?_
       have E9 := Env.setRow (by omega) (fun p hp => by simp only [List.mem_cons, List.not_mem_nil, or_false] at hp; rcases hp with rfl | rfl <;> (simp only; omega)) t3.toList _ 0 _ E8 (by rw [n2.out]; simp [n3.out])
       rw [putRow_all _ _ (by rw [n2.out]; simp [n3.out])] at E9
       simp only [Array.toArray_toList] at E9
       generalize World.setCells _ _ _ _ = W9 at E9 ⊢
       skip)
    | ((go_at_call 22; ((with_reducible refine (c4.out _ E7.acc).mono ?_); rintro e w' ⟨rfl, hb4⟩)); have E8 := E7.next hb4)
    | (refine list_load_st rfl _ rfl (b := b7) rfl E7.h0 n2.out ?_)
    | (refine wpList_store_mid rfl 32 _ _ rfl w'.heap.size 0 _ rfl rfl ((Blk.new' _ _ _ _ rfl).there _ _ (by rw [hno.out, n2.out]; omega)) (by rw [size32, n2.out]) p2.out ?_
       have hlt7 := E6.h0.lt
       have E7 := Env.setRow (by have := E6.acc.size; omega) (fun p hp => by simp only [List.mem_cons, List.not_mem_nil, or_false] at hp; rcases hp with rfl | rfl <;> (simp only; omega)) t2.toList _ 0 _ (E6.push w'.heap.size rfl Tryd.zeroCells32 32) (by rw [hno.out]; simp [n2.out])
       rw [putRow_all _ _ (by rw [hno.out]; simp [n2.out])] at E7
       simp only [Array.toArray_toList] at E7
       generalize hb7 : w'.heap.size = b7 at E7 hlt7 ⊢
       generalize World.setCells _ _ _ _ = W7 at E7 ⊢
       have y7 := E7.tl.tl.h0.cell)
    | ((go_at_call 22; ((with_reducible refine (c3.out _ E5.acc).mono ?_); rintro e w' ⟨rfl, hb3⟩)); have E6 := E5.next hb3)
    | (refine list_mid_st rfl _ rfl w.heap.size 4 rfl s.cs h121 (kr.out _ _ y5) ?_)
    | (refine wpList_store_mid rfl 32 _ _ rfl b3 0 _ rfl rfl (E4.h0.there _ _ (by rw [n1.out, n3.out]; omega)) (by rw [size32, n3.out]) p3.out ?_
       have E5 := Env.setRow (by omega) (fun p hp => by simp only [List.mem_cons, List.not_mem_nil, or_false] at hp; rcases hp with rfl <;> (simp only; omega)) t3.toList _ 0 _ E4 (by rw [n1.out]; simp [n3.out])
       rw [putRow_all _ _ (by rw [n1.out]; simp [n3.out])] at E5
       simp only [Array.toArray_toList] at E5
       generalize World.setCells _ _ _ _ = W5 at E5 ⊢
       have y5 := E5.tl.h0.cell)
    | ((go_at_call 22; ((with_reducible refine (c2.out _ E3.acc).mono ?_); rintro e w' ⟨rfl, hb2⟩)); have E4 := E3.next hb2)
    | (refine list_load_st rfl _ rfl (b := b3) rfl E3.h0 n1.out ?_)
    | (refine wpList_store_mid rfl 32 _ _ rfl w'.heap.size 0 _ rfl rfl ((Blk.new' _ _ _ _ rfl).there _ _ (by rw [hno.out, n1.out]; omega)) (by rw [size32, n1.out]) p1.out ?_
       have hlt3 := E2.h0.lt
       have E3 := Env.setRow (by have := E2.acc.size; omega) (fun p hp => by simp only [List.mem_cons, List.not_mem_nil, or_false] at hp; rcases hp with rfl <;> (simp only; omega)) t1.toList _ 0 _ (E2.push w'.heap.size rfl Tryd.zeroCells32 32) (by rw [hno.out]; simp [n1.out])
       rw [putRow_all _ _ (by rw [hno.out]; simp [n1.out])] at E3
       simp only [Array.toArray_toList] at E3
       generalize hb3 : w'.heap.size = b3 at E3 hlt3 ⊢
       generalize World.setCells _ _ _ _ = W3 at E3 ⊢
       have y3 := E3.tl.h0.cell)
    | ((go_at_call 22; ((with_reducible refine (c1.out _ E1.acc).mono ?_); rintro e w' ⟨rfl, hb1⟩)); have E2 := E1.next hb1)
    | (refine list_mid_st rfl _ rfl w.heap.size 4 rfl s.cs h121 (kr.out _ _ y1) ?_)
    | ((go_at_call 21; ((with_reducible refine (cU.out _ E0.acc).mono ?_); rintro e w' ⟨rfl, hb0⟩)); have E1 := E0.next hb0; have y1 := E1.h0.cell)
    | (refine list_mid_st rfl _ rfl w.heap.size 4 rfl s.cs h121 (kr.out _ _ y0) ?_))
  clear y0 y1 y3 y5 y7 E0 E1 E2 E3 E4 E5 E6 E7 E8 c1 c2 c3 c4 cU cM kr
  have q3 := q3.out
  have q4 : ∀ W, (Op.equalIn 10000 32 (.agg t3) (.agg t3)).run Tryd.prog W = .ok true W := q3
  refine load_state _ rfl b3 rfl t3 n3.out E9.tl.h0 ?_
  go_wp2
  refine load_state _ rfl b7 rfl t3 n3.out E9.h0 ?_
  go_wp2
  go_ret
  exact ⟨rfl, E9.acc⟩
theorem apart_walk {A : Int → Int → Int → Int × Int} (AI : AluOk A) (AW : AluWhy A) (P : Pg) (s : St) (g f m : Int) (w : World) (I : P.In w) (hs : s.ok) (hA : AppW A w) :
    Calls Tryd.prog 9 #[.agg (caseCs P s g f).toArray, .int .i64 m] w fun e w' => e = .returned (.bool true) ∧ Below w.heap.size w w' := by
  by_cases c0 : valid P s = true
  · by_cases c1 : g < 0
    · exact apart_z2 AI AW P s g f m w I hs hA ⟨c0, c1⟩
    by_cases c2 : s.count ≤ g
    · exact apart_z3 AI AW P s g f m w I hs hA ⟨c0, c1, c2⟩
    by_cases c3 : m < 0
    · exact apart_z4 AI AW P s g f m w I hs hA ⟨c0, c1, c2, c3⟩
    by_cases c4 : s.count ≤ m
    · exact apart_z5 AI AW P s g f m w I hs hA ⟨c0, c1, c2, c3, c4⟩
    by_cases c5 : f < 0
    · exact apart_z6 AI AW P s g f m w I hs hA ⟨c0, c1, c2, c3, c4, c5⟩
    by_cases c6 : 4096 < f
    · exact apart_z7 AI AW P s g f m w I hs hA ⟨c0, c1, c2, c3, c4, c5, c6⟩
    by_cases c7 : g = m
    · exact apart_z8 AI AW P s g f m w I hs hA ⟨c0, c1, c2, c3, c4, c5, c6, c7⟩
    obtain ⟨g, rfl⟩ : ∃ k : Nat, g = k := ⟨g.toNat, by omega⟩
    obtain ⟨f, rfl⟩ : ∃ k : Nat, f = k := ⟨f.toNat, by omega⟩
    obtain ⟨m, rfl⟩ : ∃ k : Nat, m = k := ⟨m.toNat, by omega⟩
    exact apart_z9 AI AW P s g f m w I hs hA (by omega) c0 (by omega) (by omega) (by omega)
  · exact apart_z1 AI AW P s g f m w I hs hA (by simpa using c0)
end Go.Proofs.YtbcdeanmjhcgeaaDoor.Pg
