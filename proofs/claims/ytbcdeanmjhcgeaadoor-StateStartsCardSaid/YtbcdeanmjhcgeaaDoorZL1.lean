/- Local instructions, walked: one of them. -/
import Derived.Test.YtbcdeanmjhcgeaaDoorZa
import Derived.Test.YtbcdeanmjhcgeaaDoorZV2
import Derived.Test.YtbcdeanmjhcgeaaDoorZg
import Derived.BigRegion
import Derived.Deep.RegionHeld3
namespace Go.Proofs.YtbcdeanmjhcgeaaDoor.Pg
set_option linter.unusedVariables false
set_option linter.unusedSimpArgs false
open Go.ChangeShapes Go.WideShapes Go.RowKit
set_option linter.unusedVariables false
theorem size12 : (Tryd.prog.info? 29).map (·.size) = some 12 := by kernel_rfl
theorem go12_lit {b : Nat} {arr lit : Array Value} {W : World} (B : Blk b arr W) (h : arr = lit) (hs : lit.size = 12) : (Instr.loadAt 29 (.pointer (some ⟨b, 0, none⟩))).run Tryd.prog W = .ok (.agg lit) W := by
  subst h
  simpa using run_loadAt_mid W b 0 29 arr.toList _ B.range Tryd.underlying29 rfl (by rw [size12, Array.length_toList, hs])
theorem Gr.lit {g : Gr} (h : g.regs.length = 8) : ∃ v0 v1 v2 v3 v4 v5 v6 v7 v8 v9 v10 v11 : Int, g.cs.toArray = #[.int .i64 v0, .int .i64 v1, .int .i64 v2, .int .i64 v3, .int .i64 v4, .int .i64 v5, .int .i64 v6, .int .i64 v7, .int .i64 v8, .int .i64 v9, .int .i64 v10, .int .i64 v11] := by
  obtain ⟨a, b, c, d, r⟩ := g
  match r, h with
  | [x0, x1, x2, x3, x4, x5, x6, x7], _ => exact ⟨a, b, c, d, x0, x1, x2, x3, x4, x5, x6, x7, rfl⟩
theorem Gr.len_put (g : Gr) (h : g.regs.length = 8) (k v : Int) : (g.put k v).regs.length = 8 := by simpa [Gr.put] using h
theorem set_get {arr : Array Value} {v x : Value} {k : Nat} (h : arr[4 + k]? = some x) : (arr.setIfInBounds 2 v)[4 + k]? = some x := by
  rw [Array.getElem?_setIfInBounds_ne (by omega)]; exact h
theorem set_set {arr : Array Value} {u v : Value} : (arr.setIfInBounds 2 u).setIfInBounds 2 v = arr.setIfInBounds 2 v := by
  apply Array.toList_inj.1; simp
theorem set_same {arr : Array Value} {v : Value} (h : arr[2]? = some v) : arr.setIfInBounds 2 v = arr := by
  obtain ⟨h1, h2⟩ := Array.getElem?_eq_some_iff.1 h
  subst h2
  apply Array.toList_inj.1
  rw [Array.toList_setIfInBounds, ← Array.getElem_toList, List.set_getElem_self]
theorem set_two {arr : Array Value} {v x : Value} (h : arr[2]? = some x) : (arr.setIfInBounds 2 v)[2]? = some v := by
  have h1 := (Array.getElem?_eq_some_iff.1 h).1
  simp [h1]
/-- What the walks need of word.Apply, in later worlds: A is what it gives. -/
def AppW (A : Int → Int → Int → Int × Int) (w : World) : Prop := ∀ W, Below w.heap.size w W → ∀ op a b : Int, 1 ≤ op → op ≤ 36 → I64 a → I64 b → Calls Tryd.prog 69 #[.int .i64 op, .int .i64 a, .int .i64 b] W fun e w' => e = .returned (.tuple #[.int .i64 (A op a b).1, .int .i64 (A op a b).2]) ∧ Below W.heap.size W w'
theorem AppW.below {A : Int → Int → Int → Int × Int} {w w1 : World} (h : AppW A w) (hb : Below w.heap.size w w1) : AppW A w1 := fun W hW => h W (hb.trans (hW.mono hb.size))
theorem Env.cells02 {w W : World} {b0 b1 b2 : Nat} {a0 a1 a2 : Array Value} (E : Env w [(b0, a0), (b1, a1), (b2, a2)] W) :
    (∀ o, W.cell? ⟨b0, o, none⟩ = a0[o]?) ∧ ∀ o, W.cell? ⟨b2, o, none⟩ = a2[o]? := ⟨E.h0.cell, E.tl.tl.h0.cell⟩
theorem ne8 (a : Nat) : (2 : Nat) ≠ 4 + a := by omega
set_option maxHeartbeats 4000000 in
set_option maxRecDepth 100000 in
theorem local_40 (A : Int → Int → Int → Int × Int) (g : Gr) (xa xb xc xn : Int) (w : World) (hg : g.ok) (hp : 0 ≤ g.pc ∧ g.pc < 64) (ha : 0 ≤ xa ∧ xa < 8) :
    Calls Tryd.prog 48 #[g.v, .agg #[.int .i64 40, .int .i64 xa, .int .i64 xb, .int .i64 xc, .int .i64 xn]] w fun e w' => e = .returned (g.put xa xn).v ∧ Below w.heap.size w w' := by
  have hs := Lib.hid (Gr.cs_size hg)
  have c2 : g.cs.toArray[2]? = some (.int .i64 g.pc) := by simp [Gr.cs]
  obtain ⟨a, rfl⟩ : ∃ a : Nat, xa = a := ⟨xa.toNat, by omega⟩
  have ca := set_get (v := .int .i64 (g.pc + 1)) (Gr.cs_r hg a (by omega))
  obtain ⟨v0, v1, v2, v3, v4, v5, v6, v7, v8, v9, v10, v11, hY⟩ := Gr.lit (g := g.put a xn) (Gr.len_put g hg.len _ _)
  have hR := Lib.hid (show (g.put a xn).v = .agg #[.int .i64 v0, .int .i64 v1, .int .i64 v2, .int .i64 v3, .int .i64 v4, .int .i64 v5, .int .i64 v6, .int .i64 v7, .int .i64 v8, .int .i64 v9, .int .i64 v10, .int .i64 v11] by unfold Gr.v; rw [hY])
  have hL := Lib.hid (show (g.cs.toArray.setIfInBounds 2 (.int .i64 (g.pc + 1))).setIfInBounds (4 + a) (.int .i64 xn) = #[.int .i64 v0, .int .i64 v1, .int .i64 v2, .int .i64 v3, .int .i64 v4, .int .i64 v5, .int .i64 v6, .int .i64 v7, .int .i64 v8, .int .i64 v9, .int .i64 v10, .int .i64 v11] by rw [← hY, Gr.cs_put hg])
  rw [hR.out]
  clear hR hY
  unfold Gr.v
  generalize g.cs.toArray = ga at *
  generalize g.pc = pc at *
  generalize g.r a = ra at *
  go_enter Tryd.func48, Tryd.ntmps48
  go_wp2_with (refine list_load rfl _ _ rfl _ rfl _ (go12_lit (by repeat (first | assumption | (with_reducible exact Blk.new' _ _ _ _ (by first | rfl | (simp; done))) | (with_reducible refine Blk.drewN ?_ _) | (with_reducible refine Blk.drew ?_) | (with_reducible refine Blk.alloc ?_ _))) hL.out rfl) ?_)
  refine bodyPost_ret (v := .agg #[.int .i64 v0, .int .i64 v1, .int .i64 v2, .int .i64 v3, .int .i64 v4, .int .i64 v5, .int .i64 v6, .int .i64 v7, .int .i64 v8, .int .i64 v9, .int .i64 v10, .int .i64 v11]) (by simp [results, Tryd.results48, go_sem]) rfl ⟨rfl, ?_⟩
  exact (by repeat (first | (with_reducible assumption) | (with_reducible exact Below.refl _ _) | (with_reducible refine Below.drew ?_) | (with_reducible refine below_drewN ?_ _) | (with_reducible refine Below.setCell ?_ (by first | (simp; done) | (simp <;> omega)) _) | (with_reducible refine Below.alloc ?_ (by first | omega | (simp <;> omega)) _)))
set_option maxHeartbeats 4000000 in
set_option maxRecDepth 100000 in
theorem local_41 (A : Int → Int → Int → Int × Int) (g : Gr) (xa xb xc xn : Int) (w : World) (hg : g.ok) (hp : 0 ≤ g.pc ∧ g.pc < 64) (ha : 0 ≤ xa ∧ xa < 8) (hb : 0 ≤ xb ∧ xb < 8) :
    Calls Tryd.prog 48 #[g.v, .agg #[.int .i64 41, .int .i64 xa, .int .i64 xb, .int .i64 xc, .int .i64 xn]] w fun e w' => e = .returned (g.put xa (g.r xb)).v ∧ Below w.heap.size w w' := by
  have hs := Lib.hid (Gr.cs_size hg)
  have c2 : g.cs.toArray[2]? = some (.int .i64 g.pc) := by simp [Gr.cs]
  obtain ⟨a, rfl⟩ : ∃ a : Nat, xa = a := ⟨xa.toNat, by omega⟩
  obtain ⟨b, rfl⟩ : ∃ b : Nat, xb = b := ⟨xb.toNat, by omega⟩
  have ca := set_get (v := .int .i64 (g.pc + 1)) (Gr.cs_r hg a (by omega))
  have cb := set_get (v := .int .i64 (g.pc + 1)) (Gr.cs_r hg b (by omega))
  obtain ⟨v0, v1, v2, v3, v4, v5, v6, v7, v8, v9, v10, v11, hY⟩ := Gr.lit (g := g.put a (g.r b)) (Gr.len_put g hg.len _ _)
  have hR := Lib.hid (show (g.put a (g.r b)).v = .agg #[.int .i64 v0, .int .i64 v1, .int .i64 v2, .int .i64 v3, .int .i64 v4, .int .i64 v5, .int .i64 v6, .int .i64 v7, .int .i64 v8, .int .i64 v9, .int .i64 v10, .int .i64 v11] by unfold Gr.v; rw [hY])
  have hL := Lib.hid (show (g.cs.toArray.setIfInBounds 2 (.int .i64 (g.pc + 1))).setIfInBounds (4 + a) (.int .i64 (g.r b)) = #[.int .i64 v0, .int .i64 v1, .int .i64 v2, .int .i64 v3, .int .i64 v4, .int .i64 v5, .int .i64 v6, .int .i64 v7, .int .i64 v8, .int .i64 v9, .int .i64 v10, .int .i64 v11] by rw [← hY, Gr.cs_put hg])
  rw [hR.out]
  clear hR hY
  unfold Gr.v
  generalize g.cs.toArray = ga at *
  generalize g.pc = pc at *
  generalize g.r a = ra at *
  generalize g.r b = rb at *
  go_enter Tryd.func48, Tryd.ntmps48
  go_wp2_with (refine list_load rfl _ _ rfl _ rfl _ (go12_lit (by repeat (first | assumption | (with_reducible exact Blk.new' _ _ _ _ (by first | rfl | (simp; done))) | (with_reducible refine Blk.drewN ?_ _) | (with_reducible refine Blk.drew ?_) | (with_reducible refine Blk.alloc ?_ _))) hL.out rfl) ?_)
  go_region
  all_goals go_wp2_with (refine list_load rfl _ _ rfl _ rfl _ (go12_lit (by repeat (first | assumption | (with_reducible exact Blk.new' _ _ _ _ (by first | rfl | (simp; done))) | (with_reducible refine Blk.drewN ?_ _) | (with_reducible refine Blk.drew ?_) | (with_reducible refine Blk.alloc ?_ _))) hL.out rfl) ?_)
  all_goals (refine bodyPost_ret (v := .agg #[.int .i64 v0, .int .i64 v1, .int .i64 v2, .int .i64 v3, .int .i64 v4, .int .i64 v5, .int .i64 v6, .int .i64 v7, .int .i64 v8, .int .i64 v9, .int .i64 v10, .int .i64 v11]) (by simp [results, Tryd.results48, go_sem]) rfl ⟨rfl, (by repeat (first | (with_reducible assumption) | (with_reducible exact Below.refl _ _) | (with_reducible refine Below.drew ?_) | (with_reducible refine below_drewN ?_ _) | (with_reducible refine Below.setCell ?_ (by first | (simp; done) | (simp <;> omega)) _) | (with_reducible refine Below.alloc ?_ (by first | omega | (simp <;> omega)) _)))⟩)
set_option maxHeartbeats 4000000 in
set_option maxRecDepth 100000 in
theorem local_42 (A : Int → Int → Int → Int × Int) (g : Gr) (xa xb xc xn : Int) (w : World) (hg : g.ok) (hp : 0 ≤ g.pc ∧ g.pc < 64) :
    Calls Tryd.prog 48 #[g.v, .agg #[.int .i64 42, .int .i64 xa, .int .i64 xb, .int .i64 xc, .int .i64 xn]] w fun e w' => e = .returned (g.to xa).v ∧ Below w.heap.size w w' := by
  have hs := Lib.hid (Gr.cs_size hg)
  have c2 : g.cs.toArray[2]? = some (.int .i64 g.pc) := by simp [Gr.cs]
  have c2' := set_two (v := .int .i64 (g.pc + 1)) c2
  obtain ⟨v0, v1, v2, v3, v4, v5, v6, v7, v8, v9, v10, v11, hY⟩ := Gr.lit (g := g.to xa) (hg.len)
  have hR := Lib.hid (show (g.to xa).v = .agg #[.int .i64 v0, .int .i64 v1, .int .i64 v2, .int .i64 v3, .int .i64 v4, .int .i64 v5, .int .i64 v6, .int .i64 v7, .int .i64 v8, .int .i64 v9, .int .i64 v10, .int .i64 v11] by unfold Gr.v; rw [hY])
  have hL := Lib.hid (show g.cs.toArray.setIfInBounds 2 (.int .i64 (xa)) = #[.int .i64 v0, .int .i64 v1, .int .i64 v2, .int .i64 v3, .int .i64 v4, .int .i64 v5, .int .i64 v6, .int .i64 v7, .int .i64 v8, .int .i64 v9, .int .i64 v10, .int .i64 v11] by rw [← hY, Gr.cs_to])
  rw [hR.out]
  clear hR hY
  unfold Gr.v
  generalize g.cs.toArray = ga at *
  generalize g.pc = pc at *
  go_enter Tryd.func48, Tryd.ntmps48
  go_wp2_with (refine list_load rfl _ _ rfl _ rfl _ (go12_lit (by repeat (first | assumption | (with_reducible exact Blk.new' _ _ _ _ (by first | rfl | (simp; done))) | (with_reducible refine Blk.drewN ?_ _) | (with_reducible refine Blk.drew ?_) | (with_reducible refine Blk.alloc ?_ _))) hL.out rfl) ?_)
  refine bodyPost_ret (v := .agg #[.int .i64 v0, .int .i64 v1, .int .i64 v2, .int .i64 v3, .int .i64 v4, .int .i64 v5, .int .i64 v6, .int .i64 v7, .int .i64 v8, .int .i64 v9, .int .i64 v10, .int .i64 v11]) (by simp [results, Tryd.results48, go_sem]) rfl ⟨rfl, ?_⟩
  exact (by repeat (first | (with_reducible assumption) | (with_reducible exact Below.refl _ _) | (with_reducible refine Below.drew ?_) | (with_reducible refine below_drewN ?_ _) | (with_reducible refine Below.setCell ?_ (by first | (simp; done) | (simp <;> omega)) _) | (with_reducible refine Below.alloc ?_ (by first | omega | (simp <;> omega)) _)))
set_option maxHeartbeats 4000000 in
set_option maxRecDepth 100000 in
theorem local_43y (A : Int → Int → Int → Int × Int) (g : Gr) (xa xb xc xn : Int) (w : World) (hg : g.ok) (hp : 0 ≤ g.pc ∧ g.pc < 64) (ha : 0 ≤ xa ∧ xa < 8) (hz : g.r xa ≠ 0) :
    Calls Tryd.prog 48 #[g.v, .agg #[.int .i64 43, .int .i64 xa, .int .i64 xb, .int .i64 xc, .int .i64 xn]] w fun e w' => e = .returned (g.to xb).v ∧ Below w.heap.size w w' := by
  have hs := Lib.hid (Gr.cs_size hg)
  have c2 : g.cs.toArray[2]? = some (.int .i64 g.pc) := by simp [Gr.cs]
  obtain ⟨a, rfl⟩ : ∃ a : Nat, xa = a := ⟨xa.toNat, by omega⟩
  have ca := set_get (v := .int .i64 (g.pc + 1)) (Gr.cs_r hg a (by omega))
  have hz' : (g.r a != 0) = true := by simpa using hz
  clear hz
  have c2' := set_two (v := .int .i64 (g.pc + 1)) c2
  obtain ⟨v0, v1, v2, v3, v4, v5, v6, v7, v8, v9, v10, v11, hY⟩ := Gr.lit (g := g.to xb) (hg.len)
  have hR := Lib.hid (show (g.to xb).v = .agg #[.int .i64 v0, .int .i64 v1, .int .i64 v2, .int .i64 v3, .int .i64 v4, .int .i64 v5, .int .i64 v6, .int .i64 v7, .int .i64 v8, .int .i64 v9, .int .i64 v10, .int .i64 v11] by unfold Gr.v; rw [hY])
  have hL := Lib.hid (show g.cs.toArray.setIfInBounds 2 (.int .i64 (xb)) = #[.int .i64 v0, .int .i64 v1, .int .i64 v2, .int .i64 v3, .int .i64 v4, .int .i64 v5, .int .i64 v6, .int .i64 v7, .int .i64 v8, .int .i64 v9, .int .i64 v10, .int .i64 v11] by rw [← hY, Gr.cs_to])
  rw [hR.out]
  clear hR hY
  unfold Gr.v
  generalize g.cs.toArray = ga at *
  generalize g.pc = pc at *
  generalize g.r a = ra at *
  go_enter Tryd.func48, Tryd.ntmps48
  go_wp2_with (refine list_load rfl _ _ rfl _ rfl _ (go12_lit (by repeat (first | assumption | (with_reducible exact Blk.new' _ _ _ _ (by first | rfl | (simp; done))) | (with_reducible refine Blk.drewN ?_ _) | (with_reducible refine Blk.drew ?_) | (with_reducible refine Blk.alloc ?_ _))) hL.out rfl) ?_)
  refine bodyPost_ret (v := .agg #[.int .i64 v0, .int .i64 v1, .int .i64 v2, .int .i64 v3, .int .i64 v4, .int .i64 v5, .int .i64 v6, .int .i64 v7, .int .i64 v8, .int .i64 v9, .int .i64 v10, .int .i64 v11]) (by simp [results, Tryd.results48, go_sem]) rfl ⟨rfl, ?_⟩
  exact (by repeat (first | (with_reducible assumption) | (with_reducible exact Below.refl _ _) | (with_reducible refine Below.drew ?_) | (with_reducible refine below_drewN ?_ _) | (with_reducible refine Below.setCell ?_ (by first | (simp; done) | (simp <;> omega)) _) | (with_reducible refine Below.alloc ?_ (by first | omega | (simp <;> omega)) _)))
set_option maxHeartbeats 4000000 in
set_option maxRecDepth 100000 in
theorem local_43n (A : Int → Int → Int → Int × Int) (g : Gr) (xa xb xc xn : Int) (w : World) (hg : g.ok) (hp : 0 ≤ g.pc ∧ g.pc < 64) (ha : 0 ≤ xa ∧ xa < 8) (hz : g.r xa = 0) :
    Calls Tryd.prog 48 #[g.v, .agg #[.int .i64 43, .int .i64 xa, .int .i64 xb, .int .i64 xc, .int .i64 xn]] w fun e w' => e = .returned (g.to (g.pc + 1)).v ∧ Below w.heap.size w w' := by
  have hs := Lib.hid (Gr.cs_size hg)
  have c2 : g.cs.toArray[2]? = some (.int .i64 g.pc) := by simp [Gr.cs]
  obtain ⟨a, rfl⟩ : ∃ a : Nat, xa = a := ⟨xa.toNat, by omega⟩
  have ca := set_get (v := .int .i64 (g.pc + 1)) (Gr.cs_r hg a (by omega))
  have hz' : (g.r a != 0) = false := by simpa using hz
  replace hz := Lib.hid hz
  obtain ⟨v0, v1, v2, v3, v4, v5, v6, v7, v8, v9, v10, v11, hY⟩ := Gr.lit (g := g.to (g.pc + 1)) (hg.len)
  have hR := Lib.hid (show (g.to (g.pc + 1)).v = .agg #[.int .i64 v0, .int .i64 v1, .int .i64 v2, .int .i64 v3, .int .i64 v4, .int .i64 v5, .int .i64 v6, .int .i64 v7, .int .i64 v8, .int .i64 v9, .int .i64 v10, .int .i64 v11] by unfold Gr.v; rw [hY])
  have hL := Lib.hid (show (g.cs.toArray.setIfInBounds 2 (.int .i64 (g.pc + 1))) = #[.int .i64 v0, .int .i64 v1, .int .i64 v2, .int .i64 v3, .int .i64 v4, .int .i64 v5, .int .i64 v6, .int .i64 v7, .int .i64 v8, .int .i64 v9, .int .i64 v10, .int .i64 v11] by rw [← hY, Gr.cs_to])
  rw [hR.out]
  clear hR hY
  unfold Gr.v
  generalize g.cs.toArray = ga at *
  generalize g.pc = pc at *
  generalize g.r a = ra at *
  go_enter Tryd.func48, Tryd.ntmps48
  go_wp2_with (refine list_load rfl _ _ rfl _ rfl _ (go12_lit (by repeat (first | assumption | (with_reducible exact Blk.new' _ _ _ _ (by first | rfl | (simp; done))) | (with_reducible refine Blk.drewN ?_ _) | (with_reducible refine Blk.drew ?_) | (with_reducible refine Blk.alloc ?_ _))) hL.out rfl) ?_)
  refine bodyPost_ret (v := .agg #[.int .i64 v0, .int .i64 v1, .int .i64 v2, .int .i64 v3, .int .i64 v4, .int .i64 v5, .int .i64 v6, .int .i64 v7, .int .i64 v8, .int .i64 v9, .int .i64 v10, .int .i64 v11]) (by simp [results, Tryd.results48, go_sem]) rfl ⟨rfl, ?_⟩
  exact (by repeat (first | (with_reducible assumption) | (with_reducible exact Below.refl _ _) | (with_reducible refine Below.drew ?_) | (with_reducible refine below_drewN ?_ _) | (with_reducible refine Below.setCell ?_ (by first | (simp; done) | (simp <;> omega)) _) | (with_reducible refine Below.alloc ?_ (by first | omega | (simp <;> omega)) _)))
set_option maxHeartbeats 4000000 in
set_option maxRecDepth 100000 in
theorem local_44n (A : Int → Int → Int → Int × Int) (g : Gr) (xa xb xc xn : Int) (w : World) (hg : g.ok) (hp : 0 ≤ g.pc ∧ g.pc < 64) (ha : 0 ≤ xa ∧ xa < 8) (hz : g.r xa ≠ 0) :
    Calls Tryd.prog 48 #[g.v, .agg #[.int .i64 44, .int .i64 xa, .int .i64 xb, .int .i64 xc, .int .i64 xn]] w fun e w' => e = .returned (g.to (g.pc + 1)).v ∧ Below w.heap.size w w' := by
  have hs := Lib.hid (Gr.cs_size hg)
  have c2 : g.cs.toArray[2]? = some (.int .i64 g.pc) := by simp [Gr.cs]
  obtain ⟨a, rfl⟩ : ∃ a : Nat, xa = a := ⟨xa.toNat, by omega⟩
  have ca := set_get (v := .int .i64 (g.pc + 1)) (Gr.cs_r hg a (by omega))
  have hz' : (g.r a == 0) = false := by simpa using hz
  clear hz
  obtain ⟨v0, v1, v2, v3, v4, v5, v6, v7, v8, v9, v10, v11, hY⟩ := Gr.lit (g := g.to (g.pc + 1)) (hg.len)
  have hR := Lib.hid (show (g.to (g.pc + 1)).v = .agg #[.int .i64 v0, .int .i64 v1, .int .i64 v2, .int .i64 v3, .int .i64 v4, .int .i64 v5, .int .i64 v6, .int .i64 v7, .int .i64 v8, .int .i64 v9, .int .i64 v10, .int .i64 v11] by unfold Gr.v; rw [hY])
  have hL := Lib.hid (show (g.cs.toArray.setIfInBounds 2 (.int .i64 (g.pc + 1))) = #[.int .i64 v0, .int .i64 v1, .int .i64 v2, .int .i64 v3, .int .i64 v4, .int .i64 v5, .int .i64 v6, .int .i64 v7, .int .i64 v8, .int .i64 v9, .int .i64 v10, .int .i64 v11] by rw [← hY, Gr.cs_to])
  rw [hR.out]
  clear hR hY
  unfold Gr.v
  generalize g.cs.toArray = ga at *
  generalize g.pc = pc at *
  generalize g.r a = ra at *
  go_enter Tryd.func48, Tryd.ntmps48
  go_wp2_with (refine list_load rfl _ _ rfl _ rfl _ (go12_lit (by repeat (first | assumption | (with_reducible exact Blk.new' _ _ _ _ (by first | rfl | (simp; done))) | (with_reducible refine Blk.drewN ?_ _) | (with_reducible refine Blk.drew ?_) | (with_reducible refine Blk.alloc ?_ _))) hL.out rfl) ?_)
  refine bodyPost_ret (v := .agg #[.int .i64 v0, .int .i64 v1, .int .i64 v2, .int .i64 v3, .int .i64 v4, .int .i64 v5, .int .i64 v6, .int .i64 v7, .int .i64 v8, .int .i64 v9, .int .i64 v10, .int .i64 v11]) (by simp [results, Tryd.results48, go_sem]) rfl ⟨rfl, ?_⟩
  exact (by repeat (first | (with_reducible assumption) | (with_reducible exact Below.refl _ _) | (with_reducible refine Below.drew ?_) | (with_reducible refine below_drewN ?_ _) | (with_reducible refine Below.setCell ?_ (by first | (simp; done) | (simp <;> omega)) _) | (with_reducible refine Below.alloc ?_ (by first | omega | (simp <;> omega)) _)))
set_option maxHeartbeats 4000000 in
set_option maxRecDepth 100000 in
theorem local_44y (A : Int → Int → Int → Int × Int) (g : Gr) (xa xb xc xn : Int) (w : World) (hg : g.ok) (hp : 0 ≤ g.pc ∧ g.pc < 64) (ha : 0 ≤ xa ∧ xa < 8) (hz : g.r xa = 0) :
    Calls Tryd.prog 48 #[g.v, .agg #[.int .i64 44, .int .i64 xa, .int .i64 xb, .int .i64 xc, .int .i64 xn]] w fun e w' => e = .returned (g.fin 4 1).v ∧ Below w.heap.size w w' := by
  have hs := Lib.hid (Gr.cs_size hg)
  have c2 : g.cs.toArray[2]? = some (.int .i64 g.pc) := by simp [Gr.cs]
  obtain ⟨a, rfl⟩ : ∃ a : Nat, xa = a := ⟨xa.toNat, by omega⟩
  have ca := set_get (v := .int .i64 (g.pc + 1)) (Gr.cs_r hg a (by omega))
  have hz' : (g.r a == 0) = true := by simpa using hz
  replace hz := Lib.hid hz
  have c2' := set_two (v := .int .i64 (g.pc + 1)) c2
  obtain ⟨gs, gf, gpc, gw, regs⟩ := g
  obtain ⟨x0, x1, x2, x3, x4, x5, x6, x7, hx⟩ := eight hg.len
  have hL := Lib.hid (show (Gr.cs ⟨gs, gf, gpc, gw, regs⟩).toArray.setIfInBounds 2 (.int .i64 gpc) = #[.int .i64 gs, .int .i64 gf, .int .i64 gpc, .int .i64 gw, .int .i64 x0, .int .i64 x1, .int .i64 x2, .int .i64 x3, .int .i64 x4, .int .i64 x5, .int .i64 x6, .int .i64 x7] by rw [set_same c2]; simp only at hx; subst hx; rfl)
  have hR := Lib.hid (show (Gr.fin ⟨gs, gf, gpc, gw, regs⟩ 4 1).v = .agg #[.int .i64 4, .int .i64 gf, .int .i64 gpc, .int .i64 1, .int .i64 0, .int .i64 0, .int .i64 0, .int .i64 0, .int .i64 0, .int .i64 0, .int .i64 0, .int .i64 0] from rfl)
  rw [hR.out]
  clear hR hx
  unfold Gr.v
  generalize (Gr.r ⟨gs, gf, gpc, gw, regs⟩ a) = ra at *
  generalize (Gr.cs ⟨gs, gf, gpc, gw, regs⟩).toArray = ga at *
  simp only at *
  go_enter Tryd.func48, Tryd.ntmps48
  go_wp2_with (first | ((go_at_call 68; ((with_reducible refine (done_run _ _ _ _ _ _ _ _ _ _ _ _ _ _ _).mono ?_); rintro e w' ⟨rfl, hb⟩)); have B2 : Blk (w.heap.size + 1 + 1) #[.int .i64 0, .int .i64 0, .int .i64 0, .int .i64 0, .int .i64 0, .int .i64 0, .int .i64 0, .int .i64 0, .int .i64 0, .int .i64 0, .int .i64 0, .int .i64 0] w' := Blk.below (Blk.new' _ _ _ _ (by simp)) hb; have y2 := B2.cell; have z2 := B2.fr; have l2 := B2.lt) | (refine list_load rfl _ _ rfl _ rfl _ (go12_lit (by repeat (first | assumption | (with_reducible exact Blk.new' _ _ _ _ (by first | rfl | (simp; done))) | (with_reducible refine Blk.drewN ?_ _) | (with_reducible refine Blk.drew ?_) | (with_reducible refine Blk.alloc ?_ _))) hL.out rfl) ?_))
  refine bodyPost_ret (v := .agg #[.int .i64 4, .int .i64 gf, .int .i64 gpc, .int .i64 1, .int .i64 0, .int .i64 0, .int .i64 0, .int .i64 0, .int .i64 0, .int .i64 0, .int .i64 0, .int .i64 0]) (by simp [results, Tryd.results48, go_sem, y2]) rfl ⟨rfl, ?_⟩
  have acc := (((((Env.nil (w := w)).skip _).skip _).skip _).next hb).acc
  exact (by repeat (first | (with_reducible assumption) | (with_reducible exact Below.refl _ _) | (with_reducible refine Below.drew ?_) | (with_reducible refine below_drewN ?_ _) | (with_reducible refine Below.setCell ?_ (by first | (simp; done) | (simp <;> omega)) _) | (with_reducible refine Below.alloc ?_ (by first | omega | (simp <;> omega)) _)))
set_option maxHeartbeats 4000000 in
set_option maxRecDepth 100000 in
theorem local_45 (A : Int → Int → Int → Int × Int) (g : Gr) (xa xb xc xn : Int) (w : World) (hg : g.ok) (hp : 0 ≤ g.pc ∧ g.pc < 64) :
    Calls Tryd.prog 48 #[g.v, .agg #[.int .i64 45, .int .i64 xa, .int .i64 xb, .int .i64 xc, .int .i64 xn]] w fun e w' => e = .returned (g.fin 3 0).v ∧ Below w.heap.size w w' := by
  have hs := Lib.hid (Gr.cs_size hg)
  have c2 : g.cs.toArray[2]? = some (.int .i64 g.pc) := by simp [Gr.cs]
  have c2' := set_two (v := .int .i64 (g.pc + 1)) c2
  obtain ⟨gs, gf, gpc, gw, regs⟩ := g
  obtain ⟨x0, x1, x2, x3, x4, x5, x6, x7, hx⟩ := eight hg.len
  have hL := Lib.hid (show (Gr.cs ⟨gs, gf, gpc, gw, regs⟩).toArray.setIfInBounds 2 (.int .i64 gpc) = #[.int .i64 gs, .int .i64 gf, .int .i64 gpc, .int .i64 gw, .int .i64 x0, .int .i64 x1, .int .i64 x2, .int .i64 x3, .int .i64 x4, .int .i64 x5, .int .i64 x6, .int .i64 x7] by rw [set_same c2]; simp only at hx; subst hx; rfl)
  have hR := Lib.hid (show (Gr.fin ⟨gs, gf, gpc, gw, regs⟩ 3 0).v = .agg #[.int .i64 3, .int .i64 gf, .int .i64 gpc, .int .i64 0, .int .i64 0, .int .i64 0, .int .i64 0, .int .i64 0, .int .i64 0, .int .i64 0, .int .i64 0, .int .i64 0] from rfl)
  rw [hR.out]
  clear hR hx
  unfold Gr.v
  generalize (Gr.cs ⟨gs, gf, gpc, gw, regs⟩).toArray = ga at *
  simp only at *
  go_enter Tryd.func48, Tryd.ntmps48
  go_wp2_with (first | ((go_at_call 68; ((with_reducible refine (done_run _ _ _ _ _ _ _ _ _ _ _ _ _ _ _).mono ?_); rintro e w' ⟨rfl, hb⟩)); have B2 : Blk (w.heap.size + 1 + 1) #[.int .i64 0, .int .i64 0, .int .i64 0, .int .i64 0, .int .i64 0, .int .i64 0, .int .i64 0, .int .i64 0, .int .i64 0, .int .i64 0, .int .i64 0, .int .i64 0] w' := Blk.below (Blk.new' _ _ _ _ (by simp)) hb; have y2 := B2.cell; have z2 := B2.fr; have l2 := B2.lt) | (refine list_load rfl _ _ rfl _ rfl _ (go12_lit (by repeat (first | assumption | (with_reducible exact Blk.new' _ _ _ _ (by first | rfl | (simp; done))) | (with_reducible refine Blk.drewN ?_ _) | (with_reducible refine Blk.drew ?_) | (with_reducible refine Blk.alloc ?_ _))) hL.out rfl) ?_))
  refine bodyPost_ret (v := .agg #[.int .i64 3, .int .i64 gf, .int .i64 gpc, .int .i64 0, .int .i64 0, .int .i64 0, .int .i64 0, .int .i64 0, .int .i64 0, .int .i64 0, .int .i64 0, .int .i64 0]) (by simp [results, Tryd.results48, go_sem, y2]) rfl ⟨rfl, ?_⟩
  have acc := (((((Env.nil (w := w)).skip _).skip _).skip _).next hb).acc
  exact (by repeat (first | (with_reducible assumption) | (with_reducible exact Below.refl _ _) | (with_reducible refine Below.drew ?_) | (with_reducible refine below_drewN ?_ _) | (with_reducible refine Below.setCell ?_ (by first | (simp; done) | (simp <;> omega)) _) | (with_reducible refine Below.alloc ?_ (by first | omega | (simp <;> omega)) _)))
set_option maxHeartbeats 4000000 in
set_option maxRecDepth 100000 in
theorem local_n0_20 (A : Int → Int → Int → Int × Int) (g : Gr) (op xa xb xc xn : Int) (w : World) (hg : g.ok) (hp : 0 ≤ g.pc ∧ g.pc < 64) (ha : 0 ≤ xa ∧ xa < 8) (hb : 0 ≤ xb ∧ xb < 8) (ho : 1 ≤ op ∧ op ≤ 15) (hA : AppW A w) (hv : (A op (g.r xb) 0).2 = 20) :
    Calls Tryd.prog 48 #[g.v, .agg #[.int .i64 op, .int .i64 xa, .int .i64 xb, .int .i64 xc, .int .i64 xn]] w fun e w' => e = .returned (g.fin 4 2).v ∧ Below w.heap.size w w' := by
  have hs := Lib.hid (Gr.cs_size hg)
  have c2 : g.cs.toArray[2]? = some (.int .i64 g.pc) := by simp [Gr.cs]
  obtain ⟨a, rfl⟩ : ∃ a : Nat, xa = a := ⟨xa.toNat, by omega⟩
  obtain ⟨b, rfl⟩ : ∃ b : Nat, xb = b := ⟨xb.toNat, by omega⟩
  have hap := Lib.hid (fun W hW => hA W hW op (g.r b) 0 (by omega) (by omega) (Gr.r_ok hg _) ⟨by decide, by decide⟩)
  have cb := set_get (v := .int .i64 (g.pc + 1)) (Gr.cs_r hg b (by omega))
  have ca := Lib.hid (set_get (v := .int .i64 (g.pc + 1)) (Gr.cs_r hg a (by omega)))
  have c2' := set_two (v := .int .i64 (g.pc + 1)) c2
  have q40 : (op == 40) = false := by simp; omega
  have q41 : (op == 41) = false := by simp; omega
  have q42 : (op == 42) = false := by simp; omega
  have q43 : (op == 43) = false := by simp; omega
  have q44 : (op == 44) = false := by simp; omega
  have q45 : (op == 45) = false := by simp; omega
  have q15 : decide (15 < op) = false := by simp; omega
  have e20 : ((A op (g.r b) 0).2 == 20) = true := by simpa using hv
  obtain ⟨gs, gf, gpc, gw, regs⟩ := g
  obtain ⟨x0, x1, x2, x3, x4, x5, x6, x7, hx⟩ := eight hg.len
  have hL := Lib.hid (show ((Gr.cs ⟨gs, gf, gpc, gw, regs⟩).toArray.setIfInBounds 2 (.int .i64 (gpc + 1))).setIfInBounds 2 (.int .i64 gpc) = #[.int .i64 gs, .int .i64 gf, .int .i64 gpc, .int .i64 gw, .int .i64 x0, .int .i64 x1, .int .i64 x2, .int .i64 x3, .int .i64 x4, .int .i64 x5, .int .i64 x6, .int .i64 x7] by rw [set_set, set_same c2]; simp only at hx; subst hx; rfl)
  have hR := Lib.hid (show (Gr.fin ⟨gs, gf, gpc, gw, regs⟩ 4 2).v = .agg #[.int .i64 4, .int .i64 gf, .int .i64 gpc, .int .i64 2, .int .i64 0, .int .i64 0, .int .i64 0, .int .i64 0, .int .i64 0, .int .i64 0, .int .i64 0, .int .i64 0] from rfl)
  clear hA hv
  rw [hR.out]
  clear hR hx
  generalize hD : A op _ _ = D at *
  clear hD
  simp only at *
  unfold Gr.v
  generalize Gr.r ⟨gs, gf, gpc, gw, regs⟩ b = rb at *
  generalize (Gr.cs ⟨gs, gf, gpc, gw, regs⟩).toArray = ga at *
  generalize hga : ga.setIfInBounds 2 (.int .i64 (gpc + 1)) = gb at *
  have hga' := Lib.hid hga
  clear hga
  have hgs := Lib.hid (show gb.size = 12 by rw [← hga'.out, Array.size_setIfInBounds, hs.out])
  go_enter Tryd.func48, Tryd.ntmps48
  go_wp2
  rw [hga'.out]
  have E0 := ((((Env.nil (w := w)).push w.heap.size rfl gb 29).push (w.heap.size + 1) (by simp) #[.int .i64 op, .int .i64 a, .int .i64 b, .int .i64 xc, .int .i64 xn] 88).push (w.heap.size + 1 + 1) (by simp) #[.int .i64 0, .int .i64 0, .int .i64 0, .int .i64 0, .int .i64 0, .int .i64 0, .int .i64 0, .int .i64 0, .int .i64 0, .int .i64 0, .int .i64 0, .int .i64 0] 29).sub (cs := [(w.heap.size, gb), (w.heap.size + 1 + 1, #[.int .i64 0, .int .i64 0, .int .i64 0, .int .i64 0, .int .i64 0, .int .i64 0, .int .i64 0, .int .i64 0, .int .i64 0, .int .i64 0, .int .i64 0, .int .i64 0]), (w.heap.size + 1, #[.int .i64 op, .int .i64 a, .int .i64 b, .int .i64 xc, .int .i64 xn])]) (fun p hp => by simp only [List.mem_cons, List.not_mem_nil, or_false] at hp ⊢; rcases hp with rfl | rfl | rfl <;> simp)
  apply wp_toS (Env w [(w.heap.size, gb), (w.heap.size + 1 + 1, #[.int .i64 0, .int .i64 0, .int .i64 0, .int .i64 0, .int .i64 0, .int .i64 0, .int .i64 0, .int .i64 0, .int .i64 0, .int .i64 0, .int .i64 0, .int .i64 0]), (w.heap.size + 1, #[.int .i64 op, .int .i64 a, .int .i64 b, .int .i64 xc, .int .i64 xn])])
  · go_region_held3 (fun W => (∀ o, W.cell? ⟨w.heap.size, o, none⟩ = gb[o]?) ∧ ∀ o, W.cell? ⟨w.heap.size + 1, o, none⟩ = (#[.int .i64 op, .int .i64 a, .int .i64 b, .int .i64 xc, .int .i64 xn] : Array Value)[o]?) (first | assumption | exact E0.cells02 | exact E0.drew.cells02 | exact (E0.next hb1).cells02 | exact (E0.drew.next hb1).cells02)
      (first | (go_at_call 69; ((with_reducible refine (hap.out _ (by first | exact E0.acc | exact E0.acc.drew)).mono ?_); rintro e w' ⟨rfl, hb1⟩)))
    all_goals exact ToS.mk (E0.next (by first | exact hb1 | exact Below.trans (Below.drew (Below.refl _ _)) hb1))
  intro W1 E1
  clear E0 hap
  have y0 := E1.h0.cell; have y2 := E1.tl.h0.cell; have y1 := E1.tl.tl.h0.cell; have z0 := E1.h0.fr; have z2 := E1.tl.h0.fr; have l0 := E1.h0.lt; have l2 := E1.tl.h0.lt; have l1 := E1.tl.tl.h0.lt
  have E2 := E1.set (Nat.le_refl _) (fun p hp => by simp only [List.mem_cons, List.not_mem_nil, or_false] at hp; rcases hp with rfl | rfl <;> (simp only; omega)) 2 (by rw [hgs.out]; omega) (.int .i64 gpc)
  go_wp2_with (first | ((go_at_call 68; ((with_reducible refine (done_run _ _ _ _ _ _ _ _ _ _ _ _ _ _ _).mono ?_); rintro e w' ⟨rfl, hb⟩)); have E3 := E2.next hb; have y3 := E3.tl.h0.cell; have z3 := E3.tl.h0.fr; have l3 := E3.tl.h0.lt) | (refine list_load rfl _ _ rfl _ rfl _ (go12_lit E2.h0 hL.out rfl) ?_))
  refine bodyPost_ret (v := .agg #[.int .i64 4, .int .i64 gf, .int .i64 gpc, .int .i64 2, .int .i64 0, .int .i64 0, .int .i64 0, .int .i64 0, .int .i64 0, .int .i64 0, .int .i64 0, .int .i64 0]) (by simp [results, Tryd.results48, go_sem, y3]) rfl ⟨rfl, ?_⟩
  have acc := E3.acc
  exact (by repeat (first | (with_reducible assumption) | (with_reducible exact Below.refl _ _) | (with_reducible refine Below.drew ?_) | (with_reducible refine below_drewN ?_ _) | (with_reducible refine Below.setCell ?_ (by first | (simp; done) | (simp <;> omega)) _) | (with_reducible refine Below.alloc ?_ (by first | omega | (simp <;> omega)) _)))
set_option maxHeartbeats 4000000 in
set_option maxRecDepth 100000 in
theorem local_n0_21 (A : Int → Int → Int → Int × Int) (g : Gr) (op xa xb xc xn : Int) (w : World) (hg : g.ok) (hp : 0 ≤ g.pc ∧ g.pc < 64) (ha : 0 ≤ xa ∧ xa < 8) (hb : 0 ≤ xb ∧ xb < 8) (ho : 1 ≤ op ∧ op ≤ 15) (hA : AppW A w) (hv : (A op (g.r xb) 0).2 = 21) :
    Calls Tryd.prog 48 #[g.v, .agg #[.int .i64 op, .int .i64 xa, .int .i64 xb, .int .i64 xc, .int .i64 xn]] w fun e w' => e = .returned (g.fin 4 3).v ∧ Below w.heap.size w w' := by
  have hs := Lib.hid (Gr.cs_size hg)
  have c2 : g.cs.toArray[2]? = some (.int .i64 g.pc) := by simp [Gr.cs]
  obtain ⟨a, rfl⟩ : ∃ a : Nat, xa = a := ⟨xa.toNat, by omega⟩
  obtain ⟨b, rfl⟩ : ∃ b : Nat, xb = b := ⟨xb.toNat, by omega⟩
  have hap := Lib.hid (fun W hW => hA W hW op (g.r b) 0 (by omega) (by omega) (Gr.r_ok hg _) ⟨by decide, by decide⟩)
  have cb := set_get (v := .int .i64 (g.pc + 1)) (Gr.cs_r hg b (by omega))
  have ca := Lib.hid (set_get (v := .int .i64 (g.pc + 1)) (Gr.cs_r hg a (by omega)))
  have c2' := set_two (v := .int .i64 (g.pc + 1)) c2
  have q40 : (op == 40) = false := by simp; omega
  have q41 : (op == 41) = false := by simp; omega
  have q42 : (op == 42) = false := by simp; omega
  have q43 : (op == 43) = false := by simp; omega
  have q44 : (op == 44) = false := by simp; omega
  have q45 : (op == 45) = false := by simp; omega
  have q15 : decide (15 < op) = false := by simp; omega
  have e20 : ((A op (g.r b) 0).2 == 20) = false := by rw [hv]; rfl
  have e21 : ((A op (g.r b) 0).2 == 21) = true := by simpa using hv
  obtain ⟨gs, gf, gpc, gw, regs⟩ := g
  obtain ⟨x0, x1, x2, x3, x4, x5, x6, x7, hx⟩ := eight hg.len
  have hL := Lib.hid (show ((Gr.cs ⟨gs, gf, gpc, gw, regs⟩).toArray.setIfInBounds 2 (.int .i64 (gpc + 1))).setIfInBounds 2 (.int .i64 gpc) = #[.int .i64 gs, .int .i64 gf, .int .i64 gpc, .int .i64 gw, .int .i64 x0, .int .i64 x1, .int .i64 x2, .int .i64 x3, .int .i64 x4, .int .i64 x5, .int .i64 x6, .int .i64 x7] by rw [set_set, set_same c2]; simp only at hx; subst hx; rfl)
  have hR := Lib.hid (show (Gr.fin ⟨gs, gf, gpc, gw, regs⟩ 4 3).v = .agg #[.int .i64 4, .int .i64 gf, .int .i64 gpc, .int .i64 3, .int .i64 0, .int .i64 0, .int .i64 0, .int .i64 0, .int .i64 0, .int .i64 0, .int .i64 0, .int .i64 0] from rfl)
  clear hA hv
  rw [hR.out]
  clear hR hx
  generalize hD : A op _ _ = D at *
  clear hD
  simp only at *
  unfold Gr.v
  generalize Gr.r ⟨gs, gf, gpc, gw, regs⟩ b = rb at *
  generalize (Gr.cs ⟨gs, gf, gpc, gw, regs⟩).toArray = ga at *
  generalize hga : ga.setIfInBounds 2 (.int .i64 (gpc + 1)) = gb at *
  have hga' := Lib.hid hga
  clear hga
  have hgs := Lib.hid (show gb.size = 12 by rw [← hga'.out, Array.size_setIfInBounds, hs.out])
  go_enter Tryd.func48, Tryd.ntmps48
  go_wp2
  rw [hga'.out]
  have E0 := ((((Env.nil (w := w)).push w.heap.size rfl gb 29).push (w.heap.size + 1) (by simp) #[.int .i64 op, .int .i64 a, .int .i64 b, .int .i64 xc, .int .i64 xn] 88).push (w.heap.size + 1 + 1) (by simp) #[.int .i64 0, .int .i64 0, .int .i64 0, .int .i64 0, .int .i64 0, .int .i64 0, .int .i64 0, .int .i64 0, .int .i64 0, .int .i64 0, .int .i64 0, .int .i64 0] 29).sub (cs := [(w.heap.size, gb), (w.heap.size + 1 + 1, #[.int .i64 0, .int .i64 0, .int .i64 0, .int .i64 0, .int .i64 0, .int .i64 0, .int .i64 0, .int .i64 0, .int .i64 0, .int .i64 0, .int .i64 0, .int .i64 0]), (w.heap.size + 1, #[.int .i64 op, .int .i64 a, .int .i64 b, .int .i64 xc, .int .i64 xn])]) (fun p hp => by simp only [List.mem_cons, List.not_mem_nil, or_false] at hp ⊢; rcases hp with rfl | rfl | rfl <;> simp)
  apply wp_toS (Env w [(w.heap.size, gb), (w.heap.size + 1 + 1, #[.int .i64 0, .int .i64 0, .int .i64 0, .int .i64 0, .int .i64 0, .int .i64 0, .int .i64 0, .int .i64 0, .int .i64 0, .int .i64 0, .int .i64 0, .int .i64 0]), (w.heap.size + 1, #[.int .i64 op, .int .i64 a, .int .i64 b, .int .i64 xc, .int .i64 xn])])
  · go_region_held3 (fun W => (∀ o, W.cell? ⟨w.heap.size, o, none⟩ = gb[o]?) ∧ ∀ o, W.cell? ⟨w.heap.size + 1, o, none⟩ = (#[.int .i64 op, .int .i64 a, .int .i64 b, .int .i64 xc, .int .i64 xn] : Array Value)[o]?) (first | assumption | exact E0.cells02 | exact E0.drew.cells02 | exact (E0.next hb1).cells02 | exact (E0.drew.next hb1).cells02)
      (first | (go_at_call 69; ((with_reducible refine (hap.out _ (by first | exact E0.acc | exact E0.acc.drew)).mono ?_); rintro e w' ⟨rfl, hb1⟩)))
    all_goals exact ToS.mk (E0.next (by first | exact hb1 | exact Below.trans (Below.drew (Below.refl _ _)) hb1))
  intro W1 E1
  clear E0 hap
  have y0 := E1.h0.cell; have y2 := E1.tl.h0.cell; have y1 := E1.tl.tl.h0.cell; have z0 := E1.h0.fr; have z2 := E1.tl.h0.fr; have l0 := E1.h0.lt; have l2 := E1.tl.h0.lt; have l1 := E1.tl.tl.h0.lt
  have E2 := E1.set (Nat.le_refl _) (fun p hp => by simp only [List.mem_cons, List.not_mem_nil, or_false] at hp; rcases hp with rfl | rfl <;> (simp only; omega)) 2 (by rw [hgs.out]; omega) (.int .i64 gpc)
  go_wp2_with (first | ((go_at_call 68; ((with_reducible refine (done_run _ _ _ _ _ _ _ _ _ _ _ _ _ _ _).mono ?_); rintro e w' ⟨rfl, hb⟩)); have E3 := E2.next hb; have y3 := E3.tl.h0.cell; have z3 := E3.tl.h0.fr; have l3 := E3.tl.h0.lt) | (refine list_load rfl _ _ rfl _ rfl _ (go12_lit E2.h0 hL.out rfl) ?_))
  refine bodyPost_ret (v := .agg #[.int .i64 4, .int .i64 gf, .int .i64 gpc, .int .i64 3, .int .i64 0, .int .i64 0, .int .i64 0, .int .i64 0, .int .i64 0, .int .i64 0, .int .i64 0, .int .i64 0]) (by simp [results, Tryd.results48, go_sem, y3]) rfl ⟨rfl, ?_⟩
  have acc := E3.acc
  exact (by repeat (first | (with_reducible assumption) | (with_reducible exact Below.refl _ _) | (with_reducible refine Below.drew ?_) | (with_reducible refine below_drewN ?_ _) | (with_reducible refine Below.setCell ?_ (by first | (simp; done) | (simp <;> omega)) _) | (with_reducible refine Below.alloc ?_ (by first | omega | (simp <;> omega)) _)))
set_option maxHeartbeats 4000000 in
set_option maxRecDepth 100000 in
theorem local_n0_0 (A : Int → Int → Int → Int × Int) (g : Gr) (op xa xb xc xn : Int) (w : World) (hg : g.ok) (hp : 0 ≤ g.pc ∧ g.pc < 64) (ha : 0 ≤ xa ∧ xa < 8) (hb : 0 ≤ xb ∧ xb < 8) (ho : 1 ≤ op ∧ op ≤ 15) (hA : AppW A w) (hv : (A op (g.r xb) 0).2 ≠ 20 ∧ (A op (g.r xb) 0).2 ≠ 21) :
    Calls Tryd.prog 48 #[g.v, .agg #[.int .i64 op, .int .i64 xa, .int .i64 xb, .int .i64 xc, .int .i64 xn]] w fun e w' => e = .returned (g.put xa (A op (g.r xb) 0).1).v ∧ Below w.heap.size w w' := by
  have hs := Lib.hid (Gr.cs_size hg)
  have c2 : g.cs.toArray[2]? = some (.int .i64 g.pc) := by simp [Gr.cs]
  obtain ⟨a, rfl⟩ : ∃ a : Nat, xa = a := ⟨xa.toNat, by omega⟩
  obtain ⟨b, rfl⟩ : ∃ b : Nat, xb = b := ⟨xb.toNat, by omega⟩
  have hap := Lib.hid (fun W hW => hA W hW op (g.r b) 0 (by omega) (by omega) (Gr.r_ok hg _) ⟨by decide, by decide⟩)
  have cb := set_get (v := .int .i64 (g.pc + 1)) (Gr.cs_r hg b (by omega))
  have ca := Lib.hid (set_get (v := .int .i64 (g.pc + 1)) (Gr.cs_r hg a (by omega)))
  have c2' := set_two (v := .int .i64 (g.pc + 1)) c2
  have q40 : (op == 40) = false := by simp; omega
  have q41 : (op == 41) = false := by simp; omega
  have q42 : (op == 42) = false := by simp; omega
  have q43 : (op == 43) = false := by simp; omega
  have q44 : (op == 44) = false := by simp; omega
  have q45 : (op == 45) = false := by simp; omega
  have q15 : decide (15 < op) = false := by simp; omega
  have e20 : ((A op (g.r b) 0).2 == 20) = false := by simpa using hv.1
  have e21 : ((A op (g.r b) 0).2 == 21) = false := by simpa using hv.2
  clear hA hv
  generalize hD : A op _ _ = D at *
  clear hD
  obtain ⟨v0, v1, v2, v3, v4, v5, v6, v7, v8, v9, v10, v11, hY⟩ := Gr.lit (g := g.put a D.1) (Gr.len_put g hg.len _ _)
  have hR := Lib.hid (show (g.put a D.1).v = .agg #[.int .i64 v0, .int .i64 v1, .int .i64 v2, .int .i64 v3, .int .i64 v4, .int .i64 v5, .int .i64 v6, .int .i64 v7, .int .i64 v8, .int .i64 v9, .int .i64 v10, .int .i64 v11] by unfold Gr.v; rw [hY])
  have hL := Lib.hid (show (g.cs.toArray.setIfInBounds 2 (.int .i64 (g.pc + 1))).setIfInBounds (4 + a) (.int .i64 D.1) = #[.int .i64 v0, .int .i64 v1, .int .i64 v2, .int .i64 v3, .int .i64 v4, .int .i64 v5, .int .i64 v6, .int .i64 v7, .int .i64 v8, .int .i64 v9, .int .i64 v10, .int .i64 v11] by rw [← hY, Gr.cs_put hg])
  rw [hR.out]
  clear hR hY
  unfold Gr.v
  generalize g.cs.toArray = ga at *
  generalize g.pc = pc at *
  generalize g.r a = ra at *
  generalize g.r b = rb at *
  generalize hga : ga.setIfInBounds 2 (.int .i64 (pc + 1)) = gb at *
  have hga' := Lib.hid hga
  clear hga
  have hgs := Lib.hid (show gb.size = 12 by rw [← hga'.out, Array.size_setIfInBounds, hs.out])
  go_enter Tryd.func48, Tryd.ntmps48
  go_wp2
  rw [hga'.out]
  have E0 := ((((Env.nil (w := w)).push w.heap.size rfl gb 29).push (w.heap.size + 1) (by simp) #[.int .i64 op, .int .i64 a, .int .i64 b, .int .i64 xc, .int .i64 xn] 88).push (w.heap.size + 1 + 1) (by simp) #[.int .i64 0, .int .i64 0, .int .i64 0, .int .i64 0, .int .i64 0, .int .i64 0, .int .i64 0, .int .i64 0, .int .i64 0, .int .i64 0, .int .i64 0, .int .i64 0] 29).sub (cs := [(w.heap.size, gb), (w.heap.size + 1 + 1, #[.int .i64 0, .int .i64 0, .int .i64 0, .int .i64 0, .int .i64 0, .int .i64 0, .int .i64 0, .int .i64 0, .int .i64 0, .int .i64 0, .int .i64 0, .int .i64 0]), (w.heap.size + 1, #[.int .i64 op, .int .i64 a, .int .i64 b, .int .i64 xc, .int .i64 xn])]) (fun p hp => by simp only [List.mem_cons, List.not_mem_nil, or_false] at hp ⊢; rcases hp with rfl | rfl | rfl <;> simp)
  apply wp_toS (Env w [(w.heap.size, gb), (w.heap.size + 1 + 1, #[.int .i64 0, .int .i64 0, .int .i64 0, .int .i64 0, .int .i64 0, .int .i64 0, .int .i64 0, .int .i64 0, .int .i64 0, .int .i64 0, .int .i64 0, .int .i64 0]), (w.heap.size + 1, #[.int .i64 op, .int .i64 a, .int .i64 b, .int .i64 xc, .int .i64 xn])])
  · go_region_held3 (fun W => (∀ o, W.cell? ⟨w.heap.size, o, none⟩ = gb[o]?) ∧ ∀ o, W.cell? ⟨w.heap.size + 1, o, none⟩ = (#[.int .i64 op, .int .i64 a, .int .i64 b, .int .i64 xc, .int .i64 xn] : Array Value)[o]?) (first | assumption | exact E0.cells02 | exact E0.drew.cells02 | exact (E0.next hb1).cells02 | exact (E0.drew.next hb1).cells02)
      (first | (go_at_call 69; ((with_reducible refine (hap.out _ (by first | exact E0.acc | exact E0.acc.drew)).mono ?_); rintro e w' ⟨rfl, hb1⟩)))
    all_goals exact ToS.mk (E0.next (by first | exact hb1 | exact Below.trans (Below.drew (Below.refl _ _)) hb1))
  intro W1 E1
  clear E0 hap
  have y0 := E1.h0.cell; have y2 := E1.tl.h0.cell; have y1 := E1.tl.tl.h0.cell; have z0 := E1.h0.fr; have z2 := E1.tl.h0.fr; have l0 := E1.h0.lt; have l2 := E1.tl.h0.lt; have l1 := E1.tl.tl.h0.lt
  have ca' := ca.out
  have E2 := E1.set (Nat.le_refl _) (fun p hp => by simp only [List.mem_cons, List.not_mem_nil, or_false] at hp; rcases hp with rfl | rfl <;> (simp only; omega)) (4 + a) (by rw [hgs.out]; omega) (.int .i64 D.1)
  have y3 := E2.tl.h0.cell; have z3 := E2.tl.h0.fr; have l3 := E2.tl.h0.lt
  go_wp2_with (refine list_load rfl _ _ rfl _ rfl _ (go12_lit E2.h0 hL.out rfl) ?_)
  refine bodyPost_ret (v := .agg #[.int .i64 v0, .int .i64 v1, .int .i64 v2, .int .i64 v3, .int .i64 v4, .int .i64 v5, .int .i64 v6, .int .i64 v7, .int .i64 v8, .int .i64 v9, .int .i64 v10, .int .i64 v11]) (by simp [results, Tryd.results48, go_sem, y3]) rfl ⟨rfl, ?_⟩
  have acc := E2.acc
  exact (by repeat (first | (with_reducible assumption) | (with_reducible exact Below.refl _ _) | (with_reducible refine Below.drew ?_) | (with_reducible refine below_drewN ?_ _) | (with_reducible refine Below.setCell ?_ (by first | (simp; done) | (simp <;> omega)) _) | (with_reducible refine Below.alloc ?_ (by first | omega | (simp <;> omega)) _)))
set_option maxHeartbeats 4000000 in
set_option maxRecDepth 100000 in
theorem local_n1_20 (A : Int → Int → Int → Int × Int) (g : Gr) (op xa xb xc xn : Int) (w : World) (hg : g.ok) (hp : 0 ≤ g.pc ∧ g.pc < 64) (ha : 0 ≤ xa ∧ xa < 8) (hb : 0 ≤ xb ∧ xb < 8) (hc : 0 ≤ xc ∧ xc < 8) (ho : 15 < op ∧ op ≤ 36) (hA : AppW A w) (hv : (A op (g.r xb) (g.r xc)).2 = 20) :
    Calls Tryd.prog 48 #[g.v, .agg #[.int .i64 op, .int .i64 xa, .int .i64 xb, .int .i64 xc, .int .i64 xn]] w fun e w' => e = .returned (g.fin 4 2).v ∧ Below w.heap.size w w' := by
  have hs := Lib.hid (Gr.cs_size hg)
  have c2 : g.cs.toArray[2]? = some (.int .i64 g.pc) := by simp [Gr.cs]
  obtain ⟨a, rfl⟩ : ∃ a : Nat, xa = a := ⟨xa.toNat, by omega⟩
  obtain ⟨b, rfl⟩ : ∃ b : Nat, xb = b := ⟨xb.toNat, by omega⟩
  obtain ⟨c, rfl⟩ : ∃ c : Nat, xc = c := ⟨xc.toNat, by omega⟩
  have hap := Lib.hid (fun W hW => hA W hW op (g.r b) (g.r c) (by omega) (by omega) (Gr.r_ok hg _) (Gr.r_ok hg _))
  have cb := set_get (v := .int .i64 (g.pc + 1)) (Gr.cs_r hg b (by omega))
  have cc := set_get (v := .int .i64 (g.pc + 1)) (Gr.cs_r hg c (by omega))
  have ca := Lib.hid (set_get (v := .int .i64 (g.pc + 1)) (Gr.cs_r hg a (by omega)))
  have c2' := set_two (v := .int .i64 (g.pc + 1)) c2
  have q40 : (op == 40) = false := by simp; omega
  have q41 : (op == 41) = false := by simp; omega
  have q42 : (op == 42) = false := by simp; omega
  have q43 : (op == 43) = false := by simp; omega
  have q44 : (op == 44) = false := by simp; omega
  have q45 : (op == 45) = false := by simp; omega
  have q15 : decide (15 < op) = true := by simp; omega
  have e20 : ((A op (g.r b) (g.r c)).2 == 20) = true := by simpa using hv
  obtain ⟨gs, gf, gpc, gw, regs⟩ := g
  obtain ⟨x0, x1, x2, x3, x4, x5, x6, x7, hx⟩ := eight hg.len
  have hL := Lib.hid (show ((Gr.cs ⟨gs, gf, gpc, gw, regs⟩).toArray.setIfInBounds 2 (.int .i64 (gpc + 1))).setIfInBounds 2 (.int .i64 gpc) = #[.int .i64 gs, .int .i64 gf, .int .i64 gpc, .int .i64 gw, .int .i64 x0, .int .i64 x1, .int .i64 x2, .int .i64 x3, .int .i64 x4, .int .i64 x5, .int .i64 x6, .int .i64 x7] by rw [set_set, set_same c2]; simp only at hx; subst hx; rfl)
  have hR := Lib.hid (show (Gr.fin ⟨gs, gf, gpc, gw, regs⟩ 4 2).v = .agg #[.int .i64 4, .int .i64 gf, .int .i64 gpc, .int .i64 2, .int .i64 0, .int .i64 0, .int .i64 0, .int .i64 0, .int .i64 0, .int .i64 0, .int .i64 0, .int .i64 0] from rfl)
  clear hA hv
  rw [hR.out]
  clear hR hx
  generalize hD : A op _ _ = D at *
  clear hD
  simp only at *
  unfold Gr.v
  generalize Gr.r ⟨gs, gf, gpc, gw, regs⟩ b = rb at *
  generalize Gr.r ⟨gs, gf, gpc, gw, regs⟩ c = rc at *
  generalize (Gr.cs ⟨gs, gf, gpc, gw, regs⟩).toArray = ga at *
  generalize hga : ga.setIfInBounds 2 (.int .i64 (gpc + 1)) = gb at *
  have hga' := Lib.hid hga
  clear hga
  have hgs := Lib.hid (show gb.size = 12 by rw [← hga'.out, Array.size_setIfInBounds, hs.out])
  have cc2 := cc
  rw [← hga'.out] at cc2
  go_enter Tryd.func48, Tryd.ntmps48
  go_wp2
  rw [hga'.out]
  have E0 := ((((Env.nil (w := w)).push w.heap.size rfl gb 29).push (w.heap.size + 1) (by simp) #[.int .i64 op, .int .i64 a, .int .i64 b, .int .i64 c, .int .i64 xn] 88).push (w.heap.size + 1 + 1) (by simp) #[.int .i64 0, .int .i64 0, .int .i64 0, .int .i64 0, .int .i64 0, .int .i64 0, .int .i64 0, .int .i64 0, .int .i64 0, .int .i64 0, .int .i64 0, .int .i64 0] 29).sub (cs := [(w.heap.size, gb), (w.heap.size + 1 + 1, #[.int .i64 0, .int .i64 0, .int .i64 0, .int .i64 0, .int .i64 0, .int .i64 0, .int .i64 0, .int .i64 0, .int .i64 0, .int .i64 0, .int .i64 0, .int .i64 0]), (w.heap.size + 1, #[.int .i64 op, .int .i64 a, .int .i64 b, .int .i64 c, .int .i64 xn])]) (fun p hp => by simp only [List.mem_cons, List.not_mem_nil, or_false] at hp ⊢; rcases hp with rfl | rfl | rfl <;> simp)
  apply wp_toS (Env w [(w.heap.size, gb), (w.heap.size + 1 + 1, #[.int .i64 0, .int .i64 0, .int .i64 0, .int .i64 0, .int .i64 0, .int .i64 0, .int .i64 0, .int .i64 0, .int .i64 0, .int .i64 0, .int .i64 0, .int .i64 0]), (w.heap.size + 1, #[.int .i64 op, .int .i64 a, .int .i64 b, .int .i64 c, .int .i64 xn])])
  · go_region_held3 (fun W => (∀ o, W.cell? ⟨w.heap.size, o, none⟩ = gb[o]?) ∧ ∀ o, W.cell? ⟨w.heap.size + 1, o, none⟩ = (#[.int .i64 op, .int .i64 a, .int .i64 b, .int .i64 c, .int .i64 xn] : Array Value)[o]?) (first | assumption | exact E0.cells02 | exact E0.drew.cells02 | exact (E0.next hb1).cells02 | exact (E0.drew.next hb1).cells02)
      (first | (go_at_call 69; ((with_reducible refine (hap.out _ (by first | exact E0.acc | exact E0.acc.drew)).mono ?_); rintro e w' ⟨rfl, hb1⟩)))
    all_goals exact ToS.mk (E0.next (by first | exact hb1 | exact Below.trans (Below.drew (Below.refl _ _)) hb1))
  intro W1 E1
  clear E0 hap
  have y0 := E1.h0.cell; have y2 := E1.tl.h0.cell; have y1 := E1.tl.tl.h0.cell; have z0 := E1.h0.fr; have z2 := E1.tl.h0.fr; have l0 := E1.h0.lt; have l2 := E1.tl.h0.lt; have l1 := E1.tl.tl.h0.lt
  have E2 := E1.set (Nat.le_refl _) (fun p hp => by simp only [List.mem_cons, List.not_mem_nil, or_false] at hp; rcases hp with rfl | rfl <;> (simp only; omega)) 2 (by rw [hgs.out]; omega) (.int .i64 gpc)
  go_wp2_with (first | ((go_at_call 68; ((with_reducible refine (done_run _ _ _ _ _ _ _ _ _ _ _ _ _ _ _).mono ?_); rintro e w' ⟨rfl, hb⟩)); have E3 := E2.next hb; have y3 := E3.tl.h0.cell; have z3 := E3.tl.h0.fr; have l3 := E3.tl.h0.lt) | (refine list_load rfl _ _ rfl _ rfl _ (go12_lit E2.h0 hL.out rfl) ?_))
  refine bodyPost_ret (v := .agg #[.int .i64 4, .int .i64 gf, .int .i64 gpc, .int .i64 2, .int .i64 0, .int .i64 0, .int .i64 0, .int .i64 0, .int .i64 0, .int .i64 0, .int .i64 0, .int .i64 0]) (by simp [results, Tryd.results48, go_sem, y3]) rfl ⟨rfl, ?_⟩
  have acc := E3.acc
  exact (by repeat (first | (with_reducible assumption) | (with_reducible exact Below.refl _ _) | (with_reducible refine Below.drew ?_) | (with_reducible refine below_drewN ?_ _) | (with_reducible refine Below.setCell ?_ (by first | (simp; done) | (simp <;> omega)) _) | (with_reducible refine Below.alloc ?_ (by first | omega | (simp <;> omega)) _)))
set_option maxHeartbeats 4000000 in
set_option maxRecDepth 100000 in
theorem local_n1_21 (A : Int → Int → Int → Int × Int) (g : Gr) (op xa xb xc xn : Int) (w : World) (hg : g.ok) (hp : 0 ≤ g.pc ∧ g.pc < 64) (ha : 0 ≤ xa ∧ xa < 8) (hb : 0 ≤ xb ∧ xb < 8) (hc : 0 ≤ xc ∧ xc < 8) (ho : 15 < op ∧ op ≤ 36) (hA : AppW A w) (hv : (A op (g.r xb) (g.r xc)).2 = 21) :
    Calls Tryd.prog 48 #[g.v, .agg #[.int .i64 op, .int .i64 xa, .int .i64 xb, .int .i64 xc, .int .i64 xn]] w fun e w' => e = .returned (g.fin 4 3).v ∧ Below w.heap.size w w' := by
  have hs := Lib.hid (Gr.cs_size hg)
  have c2 : g.cs.toArray[2]? = some (.int .i64 g.pc) := by simp [Gr.cs]
  obtain ⟨a, rfl⟩ : ∃ a : Nat, xa = a := ⟨xa.toNat, by omega⟩
  obtain ⟨b, rfl⟩ : ∃ b : Nat, xb = b := ⟨xb.toNat, by omega⟩
  obtain ⟨c, rfl⟩ : ∃ c : Nat, xc = c := ⟨xc.toNat, by omega⟩
  have hap := Lib.hid (fun W hW => hA W hW op (g.r b) (g.r c) (by omega) (by omega) (Gr.r_ok hg _) (Gr.r_ok hg _))
  have cb := set_get (v := .int .i64 (g.pc + 1)) (Gr.cs_r hg b (by omega))
  have cc := set_get (v := .int .i64 (g.pc + 1)) (Gr.cs_r hg c (by omega))
  have ca := Lib.hid (set_get (v := .int .i64 (g.pc + 1)) (Gr.cs_r hg a (by omega)))
  have c2' := set_two (v := .int .i64 (g.pc + 1)) c2
  have q40 : (op == 40) = false := by simp; omega
  have q41 : (op == 41) = false := by simp; omega
  have q42 : (op == 42) = false := by simp; omega
  have q43 : (op == 43) = false := by simp; omega
  have q44 : (op == 44) = false := by simp; omega
  have q45 : (op == 45) = false := by simp; omega
  have q15 : decide (15 < op) = true := by simp; omega
  have e20 : ((A op (g.r b) (g.r c)).2 == 20) = false := by rw [hv]; rfl
  have e21 : ((A op (g.r b) (g.r c)).2 == 21) = true := by simpa using hv
  obtain ⟨gs, gf, gpc, gw, regs⟩ := g
  obtain ⟨x0, x1, x2, x3, x4, x5, x6, x7, hx⟩ := eight hg.len
  have hL := Lib.hid (show ((Gr.cs ⟨gs, gf, gpc, gw, regs⟩).toArray.setIfInBounds 2 (.int .i64 (gpc + 1))).setIfInBounds 2 (.int .i64 gpc) = #[.int .i64 gs, .int .i64 gf, .int .i64 gpc, .int .i64 gw, .int .i64 x0, .int .i64 x1, .int .i64 x2, .int .i64 x3, .int .i64 x4, .int .i64 x5, .int .i64 x6, .int .i64 x7] by rw [set_set, set_same c2]; simp only at hx; subst hx; rfl)
  have hR := Lib.hid (show (Gr.fin ⟨gs, gf, gpc, gw, regs⟩ 4 3).v = .agg #[.int .i64 4, .int .i64 gf, .int .i64 gpc, .int .i64 3, .int .i64 0, .int .i64 0, .int .i64 0, .int .i64 0, .int .i64 0, .int .i64 0, .int .i64 0, .int .i64 0] from rfl)
  clear hA hv
  rw [hR.out]
  clear hR hx
  generalize hD : A op _ _ = D at *
  clear hD
  simp only at *
  unfold Gr.v
  generalize Gr.r ⟨gs, gf, gpc, gw, regs⟩ b = rb at *
  generalize Gr.r ⟨gs, gf, gpc, gw, regs⟩ c = rc at *
  generalize (Gr.cs ⟨gs, gf, gpc, gw, regs⟩).toArray = ga at *
  generalize hga : ga.setIfInBounds 2 (.int .i64 (gpc + 1)) = gb at *
  have hga' := Lib.hid hga
  clear hga
  have hgs := Lib.hid (show gb.size = 12 by rw [← hga'.out, Array.size_setIfInBounds, hs.out])
  have cc2 := cc
  rw [← hga'.out] at cc2
  go_enter Tryd.func48, Tryd.ntmps48
  go_wp2
  rw [hga'.out]
  have E0 := ((((Env.nil (w := w)).push w.heap.size rfl gb 29).push (w.heap.size + 1) (by simp) #[.int .i64 op, .int .i64 a, .int .i64 b, .int .i64 c, .int .i64 xn] 88).push (w.heap.size + 1 + 1) (by simp) #[.int .i64 0, .int .i64 0, .int .i64 0, .int .i64 0, .int .i64 0, .int .i64 0, .int .i64 0, .int .i64 0, .int .i64 0, .int .i64 0, .int .i64 0, .int .i64 0] 29).sub (cs := [(w.heap.size, gb), (w.heap.size + 1 + 1, #[.int .i64 0, .int .i64 0, .int .i64 0, .int .i64 0, .int .i64 0, .int .i64 0, .int .i64 0, .int .i64 0, .int .i64 0, .int .i64 0, .int .i64 0, .int .i64 0]), (w.heap.size + 1, #[.int .i64 op, .int .i64 a, .int .i64 b, .int .i64 c, .int .i64 xn])]) (fun p hp => by simp only [List.mem_cons, List.not_mem_nil, or_false] at hp ⊢; rcases hp with rfl | rfl | rfl <;> simp)
  apply wp_toS (Env w [(w.heap.size, gb), (w.heap.size + 1 + 1, #[.int .i64 0, .int .i64 0, .int .i64 0, .int .i64 0, .int .i64 0, .int .i64 0, .int .i64 0, .int .i64 0, .int .i64 0, .int .i64 0, .int .i64 0, .int .i64 0]), (w.heap.size + 1, #[.int .i64 op, .int .i64 a, .int .i64 b, .int .i64 c, .int .i64 xn])])
  · go_region_held3 (fun W => (∀ o, W.cell? ⟨w.heap.size, o, none⟩ = gb[o]?) ∧ ∀ o, W.cell? ⟨w.heap.size + 1, o, none⟩ = (#[.int .i64 op, .int .i64 a, .int .i64 b, .int .i64 c, .int .i64 xn] : Array Value)[o]?) (first | assumption | exact E0.cells02 | exact E0.drew.cells02 | exact (E0.next hb1).cells02 | exact (E0.drew.next hb1).cells02)
      (first | (go_at_call 69; ((with_reducible refine (hap.out _ (by first | exact E0.acc | exact E0.acc.drew)).mono ?_); rintro e w' ⟨rfl, hb1⟩)))
    all_goals exact ToS.mk (E0.next (by first | exact hb1 | exact Below.trans (Below.drew (Below.refl _ _)) hb1))
  intro W1 E1
  clear E0 hap
  have y0 := E1.h0.cell; have y2 := E1.tl.h0.cell; have y1 := E1.tl.tl.h0.cell; have z0 := E1.h0.fr; have z2 := E1.tl.h0.fr; have l0 := E1.h0.lt; have l2 := E1.tl.h0.lt; have l1 := E1.tl.tl.h0.lt
  have E2 := E1.set (Nat.le_refl _) (fun p hp => by simp only [List.mem_cons, List.not_mem_nil, or_false] at hp; rcases hp with rfl | rfl <;> (simp only; omega)) 2 (by rw [hgs.out]; omega) (.int .i64 gpc)
  go_wp2_with (first | ((go_at_call 68; ((with_reducible refine (done_run _ _ _ _ _ _ _ _ _ _ _ _ _ _ _).mono ?_); rintro e w' ⟨rfl, hb⟩)); have E3 := E2.next hb; have y3 := E3.tl.h0.cell; have z3 := E3.tl.h0.fr; have l3 := E3.tl.h0.lt) | (refine list_load rfl _ _ rfl _ rfl _ (go12_lit E2.h0 hL.out rfl) ?_))
  refine bodyPost_ret (v := .agg #[.int .i64 4, .int .i64 gf, .int .i64 gpc, .int .i64 3, .int .i64 0, .int .i64 0, .int .i64 0, .int .i64 0, .int .i64 0, .int .i64 0, .int .i64 0, .int .i64 0]) (by simp [results, Tryd.results48, go_sem, y3]) rfl ⟨rfl, ?_⟩
  have acc := E3.acc
  exact (by repeat (first | (with_reducible assumption) | (with_reducible exact Below.refl _ _) | (with_reducible refine Below.drew ?_) | (with_reducible refine below_drewN ?_ _) | (with_reducible refine Below.setCell ?_ (by first | (simp; done) | (simp <;> omega)) _) | (with_reducible refine Below.alloc ?_ (by first | omega | (simp <;> omega)) _)))
set_option maxHeartbeats 4000000 in
set_option maxRecDepth 100000 in
theorem local_n1_0 (A : Int → Int → Int → Int × Int) (g : Gr) (op xa xb xc xn : Int) (w : World) (hg : g.ok) (hp : 0 ≤ g.pc ∧ g.pc < 64) (ha : 0 ≤ xa ∧ xa < 8) (hb : 0 ≤ xb ∧ xb < 8) (hc : 0 ≤ xc ∧ xc < 8) (ho : 15 < op ∧ op ≤ 36) (hA : AppW A w) (hv : (A op (g.r xb) (g.r xc)).2 ≠ 20 ∧ (A op (g.r xb) (g.r xc)).2 ≠ 21) :
    Calls Tryd.prog 48 #[g.v, .agg #[.int .i64 op, .int .i64 xa, .int .i64 xb, .int .i64 xc, .int .i64 xn]] w fun e w' => e = .returned (g.put xa (A op (g.r xb) (g.r xc)).1).v ∧ Below w.heap.size w w' := by
  have hs := Lib.hid (Gr.cs_size hg)
  have c2 : g.cs.toArray[2]? = some (.int .i64 g.pc) := by simp [Gr.cs]
  obtain ⟨a, rfl⟩ : ∃ a : Nat, xa = a := ⟨xa.toNat, by omega⟩
  obtain ⟨b, rfl⟩ : ∃ b : Nat, xb = b := ⟨xb.toNat, by omega⟩
  obtain ⟨c, rfl⟩ : ∃ c : Nat, xc = c := ⟨xc.toNat, by omega⟩
  have hap := Lib.hid (fun W hW => hA W hW op (g.r b) (g.r c) (by omega) (by omega) (Gr.r_ok hg _) (Gr.r_ok hg _))
  have cb := set_get (v := .int .i64 (g.pc + 1)) (Gr.cs_r hg b (by omega))
  have cc := set_get (v := .int .i64 (g.pc + 1)) (Gr.cs_r hg c (by omega))
  have ca := Lib.hid (set_get (v := .int .i64 (g.pc + 1)) (Gr.cs_r hg a (by omega)))
  have c2' := set_two (v := .int .i64 (g.pc + 1)) c2
  have q40 : (op == 40) = false := by simp; omega
  have q41 : (op == 41) = false := by simp; omega
  have q42 : (op == 42) = false := by simp; omega
  have q43 : (op == 43) = false := by simp; omega
  have q44 : (op == 44) = false := by simp; omega
  have q45 : (op == 45) = false := by simp; omega
  have q15 : decide (15 < op) = true := by simp; omega
  have e20 : ((A op (g.r b) (g.r c)).2 == 20) = false := by simpa using hv.1
  have e21 : ((A op (g.r b) (g.r c)).2 == 21) = false := by simpa using hv.2
  clear hA hv
  generalize hD : A op _ _ = D at *
  clear hD
  obtain ⟨v0, v1, v2, v3, v4, v5, v6, v7, v8, v9, v10, v11, hY⟩ := Gr.lit (g := g.put a D.1) (Gr.len_put g hg.len _ _)
  have hR := Lib.hid (show (g.put a D.1).v = .agg #[.int .i64 v0, .int .i64 v1, .int .i64 v2, .int .i64 v3, .int .i64 v4, .int .i64 v5, .int .i64 v6, .int .i64 v7, .int .i64 v8, .int .i64 v9, .int .i64 v10, .int .i64 v11] by unfold Gr.v; rw [hY])
  have hL := Lib.hid (show (g.cs.toArray.setIfInBounds 2 (.int .i64 (g.pc + 1))).setIfInBounds (4 + a) (.int .i64 D.1) = #[.int .i64 v0, .int .i64 v1, .int .i64 v2, .int .i64 v3, .int .i64 v4, .int .i64 v5, .int .i64 v6, .int .i64 v7, .int .i64 v8, .int .i64 v9, .int .i64 v10, .int .i64 v11] by rw [← hY, Gr.cs_put hg])
  rw [hR.out]
  clear hR hY
  unfold Gr.v
  generalize g.cs.toArray = ga at *
  generalize g.pc = pc at *
  generalize g.r a = ra at *
  generalize g.r b = rb at *
  generalize g.r c = rc at *
  generalize hga : ga.setIfInBounds 2 (.int .i64 (pc + 1)) = gb at *
  have hga' := Lib.hid hga
  clear hga
  have hgs := Lib.hid (show gb.size = 12 by rw [← hga'.out, Array.size_setIfInBounds, hs.out])
  have cc2 := cc
  rw [← hga'.out] at cc2
  go_enter Tryd.func48, Tryd.ntmps48
  go_wp2
  rw [hga'.out]
  have E0 := ((((Env.nil (w := w)).push w.heap.size rfl gb 29).push (w.heap.size + 1) (by simp) #[.int .i64 op, .int .i64 a, .int .i64 b, .int .i64 c, .int .i64 xn] 88).push (w.heap.size + 1 + 1) (by simp) #[.int .i64 0, .int .i64 0, .int .i64 0, .int .i64 0, .int .i64 0, .int .i64 0, .int .i64 0, .int .i64 0, .int .i64 0, .int .i64 0, .int .i64 0, .int .i64 0] 29).sub (cs := [(w.heap.size, gb), (w.heap.size + 1 + 1, #[.int .i64 0, .int .i64 0, .int .i64 0, .int .i64 0, .int .i64 0, .int .i64 0, .int .i64 0, .int .i64 0, .int .i64 0, .int .i64 0, .int .i64 0, .int .i64 0]), (w.heap.size + 1, #[.int .i64 op, .int .i64 a, .int .i64 b, .int .i64 c, .int .i64 xn])]) (fun p hp => by simp only [List.mem_cons, List.not_mem_nil, or_false] at hp ⊢; rcases hp with rfl | rfl | rfl <;> simp)
  apply wp_toS (Env w [(w.heap.size, gb), (w.heap.size + 1 + 1, #[.int .i64 0, .int .i64 0, .int .i64 0, .int .i64 0, .int .i64 0, .int .i64 0, .int .i64 0, .int .i64 0, .int .i64 0, .int .i64 0, .int .i64 0, .int .i64 0]), (w.heap.size + 1, #[.int .i64 op, .int .i64 a, .int .i64 b, .int .i64 c, .int .i64 xn])])
  · go_region_held3 (fun W => (∀ o, W.cell? ⟨w.heap.size, o, none⟩ = gb[o]?) ∧ ∀ o, W.cell? ⟨w.heap.size + 1, o, none⟩ = (#[.int .i64 op, .int .i64 a, .int .i64 b, .int .i64 c, .int .i64 xn] : Array Value)[o]?) (first | assumption | exact E0.cells02 | exact E0.drew.cells02 | exact (E0.next hb1).cells02 | exact (E0.drew.next hb1).cells02)
      (first | (go_at_call 69; ((with_reducible refine (hap.out _ (by first | exact E0.acc | exact E0.acc.drew)).mono ?_); rintro e w' ⟨rfl, hb1⟩)))
    all_goals exact ToS.mk (E0.next (by first | exact hb1 | exact Below.trans (Below.drew (Below.refl _ _)) hb1))
  intro W1 E1
  clear E0 hap
  have y0 := E1.h0.cell; have y2 := E1.tl.h0.cell; have y1 := E1.tl.tl.h0.cell; have z0 := E1.h0.fr; have z2 := E1.tl.h0.fr; have l0 := E1.h0.lt; have l2 := E1.tl.h0.lt; have l1 := E1.tl.tl.h0.lt
  have ca' := ca.out
  have E2 := E1.set (Nat.le_refl _) (fun p hp => by simp only [List.mem_cons, List.not_mem_nil, or_false] at hp; rcases hp with rfl | rfl <;> (simp only; omega)) (4 + a) (by rw [hgs.out]; omega) (.int .i64 D.1)
  have y3 := E2.tl.h0.cell; have z3 := E2.tl.h0.fr; have l3 := E2.tl.h0.lt
  go_wp2_with (refine list_load rfl _ _ rfl _ rfl _ (go12_lit E2.h0 hL.out rfl) ?_)
  refine bodyPost_ret (v := .agg #[.int .i64 v0, .int .i64 v1, .int .i64 v2, .int .i64 v3, .int .i64 v4, .int .i64 v5, .int .i64 v6, .int .i64 v7, .int .i64 v8, .int .i64 v9, .int .i64 v10, .int .i64 v11]) (by simp [results, Tryd.results48, go_sem, y3]) rfl ⟨rfl, ?_⟩
  have acc := E2.acc
  exact (by repeat (first | (with_reducible assumption) | (with_reducible exact Below.refl _ _) | (with_reducible refine Below.drew ?_) | (with_reducible refine below_drewN ?_ _) | (with_reducible refine Below.setCell ?_ (by first | (simp; done) | (simp <;> omega)) _) | (with_reducible refine Below.alloc ?_ (by first | omega | (simp <;> omega)) _)))
end Go.Proofs.YtbcdeanmjhcgeaaDoor.Pg
