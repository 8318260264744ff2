/- The little program that the statements run, walked. The condition: what word.Apply gives is A. -/
import Derived.Test.YtbcdeanmjhcgeaaDoorZf
import Derived.Test.YtbcdeanmjhcgeaaDoorZSv
namespace Go.Proofs.YtbcdeanmjhcgeaaDoor.Pg
set_option linter.unusedVariables false
set_option linter.unusedSimpArgs false
open Go.ChangeShapes Go.WideShapes Go.RowKit
set_option linter.unusedVariables false
/-- The little program, its lists in three blocks. -/
def smallFn (b : Nat) : Fn := ⟨0, 1, some ⟨b + 1, 0, none⟩, 3, [⟨40, 0, 0, 0, 5⟩, ⟨64, 0, 0, 0, 0⟩, ⟨45, 0, 0, 0, 0⟩], none, 0, []⟩
def smallPg (b : Nat) : Pg := ⟨some ⟨b, 0, none⟩, 1, [⟨false, 7⟩], 0, none, 0, [], some ⟨b + 1 + 1, 0, none⟩, 1, [smallFn b]⟩
def smallSt (g : Gr) : St := ⟨[7, 0, 0, 0, 0, 0, 0, 0], [0, 0, 0, 0], [default, default, default, default], [g, default, default, default, default, default], 1⟩
theorem small_right (b : Nat) : right (smallPg b) = true := by kernel_rfl
theorem small_1 (A : Int → Int → Int → Int × Int) (b : Nat) : strt A (smallPg b) 1 = (smallSt ⟨1, 0, 1, 0, [5, 0, 0, 0, 0, 0, 0, 0]⟩, 0) := by kernel_rfl
theorem small_0 (A : Int → Int → Int → Int × Int) (b : Nat) : strt A (smallPg b) 0 = (smallSt ⟨5, 0, 0, 0, [0, 0, 0, 0, 0, 0, 0, 0]⟩, 0) := by kernel_rfl
theorem small_valid (b : Nat) : valid (smallPg b) (smallSt ⟨1, 0, 1, 0, [5, 0, 0, 0, 0, 0, 0, 0]⟩) = true := by kernel_rfl
theorem i64_lit {n : Int} (h : decide (-9223372036854775808 ≤ n ∧ n ≤ 9223372036854775807) = true) : I64 n := by have h := of_decide_eq_true h; exact h
def A1 : Array Value := #[.bool false, .int .i64 7]
def A2 : Array Value := #[.int .i64 40, .int .i64 0, .int .i64 0, .int .i64 0, .int .i64 5, .int .i64 64, .int .i64 0, .int .i64 0, .int .i64 0, .int .i64 0, .int .i64 45, .int .i64 0, .int .i64 0, .int .i64 0, .int .i64 0]
def A3 (b : Nat) : Array Value := #[.int .i64 0, .int .i64 1, .slice (some ⟨b + 1, 0, none⟩) 3 3, .slice none 0 0]
theorem small_in (b : Nat) {w W : World} (E : Env w [(b + 1 + 1, A3 b), (b + 1, A2), (b, A1)] W) : (smallPg b).In W := by
  have i0 : I64 0 := i64_lit rfl
  have fin : (smallFn b).In W := by
    refine ⟨.inr ⟨b + 1, 0, rfl, E.tl.h0.lt, E.tl.h0.range⟩, .inl rfl, fun s hs => by simp [smallFn] at hs, fun x hx => ?_, i0, i64_lit rfl, by unfold Len; simp [smallFn], by unfold Len; simp [smallFn]⟩
    simp only [smallFn, List.mem_cons, List.not_mem_nil, or_false] at hx
    rcases hx with rfl | rfl | rfl <;> exact ⟨i64_lit rfl, i64_lit rfl, i64_lit rfl, i64_lit rfl, i64_lit rfl⟩
  refine ⟨.inr ⟨b, 0, rfl, E.tl.tl.h0.lt, E.tl.tl.h0.range⟩, .inl rfl, .inr ⟨b + 1 + 1, 0, rfl, E.h0.lt, E.h0.range⟩, fun f hf => ?_, fun x hx => ?_, fun n hn => by simp [smallPg] at hn, i0, by unfold Len; simp [smallPg], by unfold Len; simp [smallPg], by unfold Len; simp [smallPg]⟩
  · simp only [smallPg, List.mem_cons, List.not_mem_nil, or_false] at hf; rw [hf]; exact fin
  · simp only [smallPg, List.mem_cons, List.not_mem_nil, or_false] at hx; rw [hx]; exact i64_lit rfl
theorem small_ok (g : Gr) (h : g.ok) : (smallSt g).ok := by
  have n := St.none_ok
  refine ⟨fun x hx => ?_, n.owner, n.chans, fun x hx => ?_, show I64 1 from i64_lit rfl, rfl, rfl, rfl, rfl⟩
  · simp only [smallSt, List.mem_cons, List.not_mem_nil, or_false] at hx
    rcases hx with rfl | rfl | rfl | rfl | rfl | rfl | rfl | rfl <;> exact i64_lit rfl
  · simp only [smallSt, List.mem_cons, List.not_mem_nil, or_false] at hx
    rcases hx with rfl | rfl | rfl | rfl | rfl | rfl
    · exact h
    all_goals exact n.gos _ (by simp [St.none])
theorem gr_lit {a b c d : Int} {l : List Int} (ha : I64 a) (hb : I64 b) (hc : I64 c) (hd : I64 d) (hl : l.length = 8) (h : l.all (fun n => decide (-9223372036854775808 ≤ n ∧ n ≤ 9223372036854775807)) = true) : Gr.ok ⟨a, b, c, d, l⟩ :=
  ⟨ha, hb, hc, hd, fun x hx => i64_lit (List.all_eq_true.1 h x hx), hl⟩
set_option maxHeartbeats 4000000 in
set_option maxRecDepth 100000 in
theorem small_walk {A : Int → Int → Int → Int × Int} (AI : AluOk A) (AW : AluWhy A) (w : World) (hA : AppW A w) :
    Calls Tryd.prog 19 #[] w fun e w' => e = .returned (.bool true) ∧ Below w.heap.size w w' := by
  have h1 := small_ok _ (gr_lit (a := 1) (b := 0) (c := 1) (d := 0) (l := [5, 0, 0, 0, 0, 0, 0, 0]) (i64_lit rfl) (i64_lit rfl) (i64_lit rfl) (i64_lit rfl) rfl rfl)
  have h0 := small_ok _ (gr_lit (a := 5) (b := 0) (c := 0) (d := 0) (l := [0, 0, 0, 0, 0, 0, 0, 0]) (i64_lit rfl) (i64_lit rfl) (i64_lit rfl) (i64_lit rfl) rfl rfl)
  have cS1 := Lib.hid (fun W (hb : Below w.heap.size w W) (b : Nat) (I : (smallPg b).In W) => (startS_walk AI AW (smallPg b) 1 W I (hA.below hb) : Calls Tryd.prog 16 #[.agg #[.slice (some ⟨b, 0, none⟩) 1 1, .int .i64 0, .slice none 0 0, .slice (some ⟨b + 1 + 1, 0, none⟩) 1 1], .int .i64 1] W fun e w' => e = .returned (.tuple #[(strt A (smallPg b) 1).1.v, .int .i64 (strt A (smallPg b) 1).2]) ∧ Below W.heap.size W w'))
  have cS0 := Lib.hid (fun W (hb : Below w.heap.size w W) (b : Nat) (I : (smallPg b).In W) => (startS_walk AI AW (smallPg b) 0 W I (hA.below hb) : Calls Tryd.prog 16 #[.agg #[.slice (some ⟨b, 0, none⟩) 1 1, .int .i64 0, .slice none 0 0, .slice (some ⟨b + 1 + 1, 0, none⟩) 1 1], .int .i64 0] W fun e w' => e = .returned (.tuple #[(strt A (smallPg b) 0).1.v, .int .i64 (strt A (smallPg b) 0).2]) ∧ Below W.heap.size W w'))
  have cV := Lib.hid (fun W (b : Nat) (I : (smallPg b).In W) => (valid_walk (smallPg b) _ W I h1 : Calls Tryd.prog 20 #[.agg #[.slice (some ⟨b, 0, none⟩) 1 1, .int .i64 0, .slice none 0 0, .slice (some ⟨b + 1 + 1, 0, none⟩) 1 1], _] W fun e w' => e = .returned (.bool (valid (smallPg b) _)) ∧ Below W.heap.size W w'))
  simp only [small_1, small_0, small_valid] at cS1 cS0 cV
  have z1 := Lib.hid (show (smallSt ⟨1, 0, 1, 0, [5, 0, 0, 0, 0, 0, 0, 0]⟩).cs.toArray.size = 121 by simpa using St.cs_len h1)
  have z0 := Lib.hid (show (smallSt ⟨5, 0, 0, 0, [0, 0, 0, 0, 0, 0, 0, 0]⟩).cs.toArray.size = 121 by simpa using St.cs_len h0)
  have o1 := Lib.hid (St.one_cell (s := smallSt ⟨1, 0, 1, 0, [5, 0, 0, 0, 0, 0, 0, 0]⟩))
  have o0 := Lib.hid (St.one_cell (s := smallSt ⟨5, 0, 0, 0, [0, 0, 0, 0, 0, 0, 0, 0]⟩))
  have g0 : (smallSt ⟨1, 0, 1, 0, [5, 0, 0, 0, 0, 0, 0, 0]⟩).cs.toArray[0]? = some (.int .i64 7) := by kernel_rfl
  have g48 : (smallSt ⟨1, 0, 1, 0, [5, 0, 0, 0, 0, 0, 0, 0]⟩).cs.toArray[48]? = some (.int .i64 1) := by kernel_rfl
  have g50 : (smallSt ⟨1, 0, 1, 0, [5, 0, 0, 0, 0, 0, 0, 0]⟩).cs.toArray[50]? = some (.int .i64 1) := by kernel_rfl
  have g52 : (smallSt ⟨1, 0, 1, 0, [5, 0, 0, 0, 0, 0, 0, 0]⟩).cs.toArray[52]? = some (.int .i64 5) := by kernel_rfl
  have k48 : (smallSt ⟨5, 0, 0, 0, [0, 0, 0, 0, 0, 0, 0, 0]⟩).cs.toArray[48]? = some (.int .i64 5) := by kernel_rfl
  unfold St.v at *
  generalize (smallSt ⟨1, 0, 1, 0, [5, 0, 0, 0, 0, 0, 0, 0]⟩).cs.toArray = s1 at *
  generalize (smallSt ⟨5, 0, 0, 0, [0, 0, 0, 0, 0, 0, 0, 0]⟩).cs.toArray = s0 at *
  clear h1 h0
  have hno := Lib.hid (show Tryd.zeroCells32.size = 121 by rw [zc]; simpa using St.cs_len St.none_ok)
  go_enter Tryd.func19, Tryd.ntmps19
  have E0 := ((((Env.nil (w := w)).push w.heap.size rfl #[.bool false, .int .i64 7] 83).push (w.heap.size + 1) (by simp) #[.int .i64 40, .int .i64 0, .int .i64 0, .int .i64 0, .int .i64 5, .int .i64 64, .int .i64 0, .int .i64 0, .int .i64 0, .int .i64 0, .int .i64 45, .int .i64 0, .int .i64 0, .int .i64 0, .int .i64 0] 88).push (w.heap.size + 1 + 1) (by simp) #[.int .i64 0, .int .i64 1, .slice (some ⟨w.heap.size + 1, 0, none⟩) 3 3, .slice none 0 0] 77).push (w.heap.size + 1 + 1 + 1) (by simp) #[.slice (some ⟨w.heap.size, 0, none⟩) 1 1, .int .i64 0, .slice none 0 0, .slice (some ⟨w.heap.size + 1 + 1, 0, none⟩) 1 1] 41
  have I0 := small_in w.heap.size E0.tl
  go_wp2_with (first
    | (refine wpList_store_mid rfl 32 _ _ rfl w'.heap.size 0 _ rfl rfl ((Blk.new' _ _ _ _ rfl).there _ _ (by rw [hno.out, z0.out]; omega)) (by rw [size32, z0.out]) o0.out ?_
       have hlt4 := E3.h0.lt
       have E4 := Env.setRow (by have := E3.acc.size; omega) (fun p hp => by simp only [List.mem_cons, List.not_mem_nil, or_false] at hp; rcases hp with rfl | rfl | rfl | rfl | rfl <;> (simp only; omega)) s0.toList _ 0 _ (E3.push w'.heap.size rfl Tryd.zeroCells32 32) (by rw [hno.out]; simp [z0.out])
       rw [putRow_all _ _ (by rw [hno.out]; simp [z0.out])] at E4
       simp only [Array.toArray_toList] at E4
       generalize hb4 : w'.heap.size = b4 at E4 hlt4 ⊢
       generalize World.setCells _ _ _ _ = W4 at E4 ⊢
       have y6 := E4.h0.cell; have y7 := E4.tl.h0.cell; have y8 := E4.tl.tl.h0.cell; have I4 := small_in w.heap.size E4.tl.tl.tl)
    | (go_at_call 16; refine (cS0.out W2 E2.acc w.heap.size I2).mono ?_; rintro e w' ⟨rfl, hb3⟩; have E3 := E2.next hb3)
    | (refine wpList_store_mid rfl 32 _ _ rfl w'.heap.size 0 _ rfl rfl ((Blk.new' _ _ _ _ rfl).there _ _ (by rw [hno.out, z1.out]; omega)) (by rw [size32, z1.out]) o1.out ?_
       have hlt2 := E1.h0.lt
       have E2 := Env.setRow (by have := E1.acc.size; omega) (fun p hp => by simp only [List.mem_cons, List.not_mem_nil, or_false] at hp; rcases hp with rfl | rfl | rfl | rfl <;> (simp only; omega)) s1.toList _ 0 _ (E1.push w'.heap.size rfl Tryd.zeroCells32 32) (by rw [hno.out]; simp [z1.out])
       rw [putRow_all _ _ (by rw [hno.out]; simp [z1.out])] at E2
       simp only [Array.toArray_toList] at E2
       generalize hb2 : w'.heap.size = b2 at E2 hlt2 ⊢
       generalize World.setCells _ _ _ _ = W2 at E2 ⊢
       have y5 := E2.tl.h0.cell; have I2 := small_in w.heap.size E2.tl.tl)
    | (go_at_call 16; refine (cS1.out _ (by repeat (first | (with_reducible exact Below.refl _ _) | (with_reducible refine Below.drew ?_) | (with_reducible refine below_drewN ?_ _) | (with_reducible refine Below.alloc ?_ (by first | omega | (simp <;> omega)) _))) w.heap.size I0).mono ?_; rintro e w' ⟨rfl, hb1⟩; have E1 := E0.next hb1))
  refine load_state _ rfl b2 rfl s1 z1.out E4.tl.h0 ?_
  go_wp2_with (first | (go_at_call 20; refine (cV.out W4 w.heap.size I4).mono ?_; rintro e w' ⟨rfl, hb5⟩))
  go_ret
  exact ⟨rfl, (E4.next hb5).acc⟩
end Go.Proofs.YtbcdeanmjhcgeaaDoor.Pg
