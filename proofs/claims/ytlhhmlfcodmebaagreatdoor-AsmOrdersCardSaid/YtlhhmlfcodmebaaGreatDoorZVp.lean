/- Parse, walked. No condition but the table and the variables as listed. -/
import Derived.Test.YtlhhmlfcodmebaaGreatDoorZq
import Derived.WalkMore
import Derived.RegionIn
namespace Go.Proofs.YtlhhmlfcodmebaaGreatDoor.Pg
set_option linter.unusedVariables false
set_option linter.unusedSimpArgs false
open Go.RowKit Go.WideShapes Go.ChangeShapes
open Go.Proofs.YtlhhmlfcodmebaaGreatDoor.Wd (Txts wrd)
open Go.Proofs.YtlhhmlfcodmebaaGreatDoor.Ln
attribute [local go_sem] Oper.semAt_some
set_option linter.unusedVariables false
set_option linter.unusedSimpArgs false
set_option maxHeartbeats 8000000 in
set_option maxRecDepth 100000 in
theorem lines_walk (s : ByteArray) (w : World) : Calls Tryz.prog 23 #[.string s] w fun e w' => e = .returned (.func (.func 50) #[] #[.pointer (some ⟨w.heap.size, 0, none⟩)]) ∧ w' = w.alloc (.cells #[.string s] 9) := by
  go_enter Tryz.func23, Tryz.ntmps23
  go_wp2
  go_ret
  exact ⟨rfl, rfl⟩
theorem cut_size (r : ByteArray) : (cutLine r).1.size ≤ r.size := by
  unfold cutLine
  split
  · simp only [ByteArray.size_extract]
    omega
  · exact Nat.le_refl _
/-- The results written. -/
def putRes (W : World) (m : Nat) (v0 v1 v2 v3 e n : Value) : World := (((((W.setCell ⟨m, 0, none⟩ v0).setCell ⟨m, 1, none⟩ v1).setCell ⟨m, 2, none⟩ v2).setCell ⟨m, 3, none⟩ v3).setCell ⟨m + 1, 0, none⟩ e).setCell ⟨m + 2, 0, none⟩ n
theorem stored {w W : World} {m : Nat} {a0 a1 a2 a3 a b : Value} (hm : w.heap.size = m) (z0 : Blk m #[a0, a1, a2, a3] W) (z1 : Blk (m + 1) #[a] W) (z2 : Blk (m + 2) #[b] W) (hB : Below w.heap.size w W) (v0 v1 v2 v3 e n : Value) :
    Blk m #[v0, v1, v2, v3] (putRes W m v0 v1 v2 v3 e n) ∧ Blk (m + 1) #[e] (putRes W m v0 v1 v2 v3 e n) ∧ Blk (m + 2) #[n] (putRes W m v0 v1 v2 v3 e n) ∧ Below w.heap.size w (putRes W m v0 v1 v2 v3 e n) ∧
      (putRes W m v0 v1 v2 v3 e n).heap[m + 7]? = W.heap[m + 7]? ∧ (putRes W m v0 v1 v2 v3 e n).heap[m + 8]? = W.heap[m + 8]? := by
  unfold putRes
  refine ⟨?_, ?_, ?_, ?_, ?_, ?_⟩
  · exact ((((((z0.set 0 (by simp) v0).set 1 (by simp) v1).set 2 (by simp) v2).set 3 (by simp) v3).setOther _ _ _ (by omega)).setOther _ _ _ (by omega))
  · exact ((((((z1.setOther _ _ _ (by omega)).setOther _ _ _ (by omega)).setOther _ _ _ (by omega)).setOther _ _ _ (by omega)).set 0 (by simp) e).setOther _ _ _ (by omega))
  · exact ((((((z2.setOther _ _ _ (by omega)).setOther _ _ _ (by omega)).setOther _ _ _ (by omega)).setOther _ _ _ (by omega)).setOther _ _ _ (by omega)).set 0 (by simp) n)
  · refine (((((hB.setCell ?_ _).setCell ?_ _).setCell ?_ _).setCell ?_ _).setCell ?_ _).setCell ?_ _
    all_goals simp only; omega
  · rw [Below.heap_setCell _ _ _ _ (by simp only; omega), Below.heap_setCell _ _ _ _ (by simp only; omega), Below.heap_setCell _ _ _ _ (by simp only; omega), Below.heap_setCell _ _ _ _ (by simp only; omega), Below.heap_setCell _ _ _ _ (by simp only; omega), Below.heap_setCell _ _ _ _ (by simp only; omega)]
  · rw [Below.heap_setCell _ _ _ _ (by simp only; omega), Below.heap_setCell _ _ _ _ (by simp only; omega), Below.heap_setCell _ _ _ _ (by simp only; omega), Below.heap_setCell _ _ _ _ (by simp only; omega), Below.heap_setCell _ _ _ _ (by simp only; omega), Below.heap_setCell _ _ _ _ (by simp only; omega)]
theorem Rd.put {w W : World} {m N : Nat} {p : Pg} {a : Int} (hm : w.heap.size = m) (R : Rd w (m + 9) (m + 3) N p a W) (v0 v1 v2 v3 e n : Value) : Rd w (m + 9) (m + 3) N p a (putRes W m v0 v1 v2 v3 e n) := by
  unfold putRes
  refine (((((R.grown (grown_cell _ _ _ _) ?_ ?_ ?_).grown (grown_cell _ _ _ _) ?_ ?_ ?_).grown (grown_cell _ _ _ _) ?_ ?_ ?_).grown (grown_cell _ _ _ _) ?_ ?_ ?_).grown (grown_cell _ _ _ _) ?_ ?_ ?_).grown (grown_cell _ _ _ _) ?_ ?_ ?_
  all_goals omega
theorem two_below {m : Nat} {V w' : World} (h : m + 9 ≤ V.heap.size) (b o : Nat) (v : Value) (hB : Below (V.setCell ⟨b, o, none⟩ v).heap.size (V.setCell ⟨b, o, none⟩ v) w') (h7 : b ≠ m + 7) (h8 : b ≠ m + 8) : w'.heap[m + 7]? = V.heap[m + 7]? ∧ w'.heap[m + 8]? = V.heap[m + 8]? := by
  have hs : (V.setCell ⟨b, o, none⟩ v).heap.size = V.heap.size := by simp [World.setCell]
  exact ⟨(hB.block (m + 7) (by omega)).trans (Below.heap_setCell _ _ _ _ (fun e => h7 e.symm)), (hB.block (m + 8) (by omega)).trans (Below.heap_setCell _ _ _ _ (fun e => h8 e.symm))⟩
theorem reads_cons (l : List UInt8) (ls : List (List UInt8)) (p : Pg) (last n : Nat) : reads (l :: ls) p last n = if bad last (wrd l []) ≠ 0 then ((p, last), bad last (wrd l []), n + 1) else reads ls (good p last (wrd l [])).1 (good p last (wrd l [])).2 (n + 1) := rfl
theorem prs_of {s : ByteArray} (hs : s.size ≤ 65536) {p : Pg} {last : Nat} (h : reads (lns s.data.toList []) Pg.no 0 0 = ((p.bare, last), 0, 0)) : prs s.data.toList = if last = 0 then (Pg.no, 53, 0) else if chk p ≠ 0 then (Pg.no, chk p, 0) else (p.bare, 0, 0) := by
  unfold prs
  rw [if_neg (by rw [Array.length_toList]; exact Nat.not_lt.2 hs), h, if_neg (by simp)]
  simp only [chk_bare]
theorem prs_stop {s : ByteArray} (hs : s.size ≤ 65536) {e : Int} {n : Nat} (he : e ≠ 0) (h : (reads (lns s.data.toList []) Pg.no 0 0).2 = (e, n)) : prs s.data.toList = (Pg.no, e, (n : Int)) := by
  unfold prs
  rw [if_neg (by rw [Array.length_toList]; exact Nat.not_lt.2 hs), h, if_pos (by simpa using he)]
theorem no_in (W : World) : Pg.no.In W := ⟨.inl rfl, .inl rfl, .inl rfl, fun f h => (by cases h), fun f h => (by cases h), fun f h => (by cases h), by unfold I64; decide, Nat.zero_le _, Nat.zero_le _, Nat.zero_le _⟩
theorem at_zero (last : Nat) (h : last ≤ 10) : atOf last = 0 → last = 0 := by
  unfold atOf
  repeat' split
  all_goals intro h
  all_goals first | omega | cases h
def noCs : Array Value := #[.slice none 0 0, .int .i64 0, .slice none 0 0, .slice none 0 0]
/-- Between two lines: m blocks were there ahead of the call. -/
structure Mid (w : World) (m : Nat) (rem : ByteArray) (N cnt : Nat) (p : Pg) (last : Nat) (W : World) : Prop where
  rd : Rd w (m + 9) (m + 3) N p (atOf last) W
  inv : Inv p last
  ptr : Blk (m + 4) #[.pointer (some ⟨m + 3, 0, none⟩)] W
  cnt' : Blk (m + 5) #[.int .i64 (cnt : Int)] W
  box : Blk (m + 6) #[.string rem] W
  r0 : Blk m noCs W
  r1 : Blk (m + 1) #[.int .i64 0] W
  r2 : Blk (m + 2) #[.int .i64 0] W
theorem Mid.grown {w : World} {m : Nat} {rem : ByteArray} {N cnt : Nat} {p : Pg} {last : Nat} {W V : World} {k : Nat} (h : Mid w m rem N cnt p last W) (hm : w.heap.size = m) (g : W.grownBy V (some k)) (hk : k = m + 7 ∨ k = m + 8) : Mid w m rem N cnt p last V :=
  ⟨h.rd.grown g (by omega) (by omega) (by omega), h.inv, h.ptr.grownBy g (by simp; omega), h.cnt'.grownBy g (by simp; omega), h.box.grownBy g (by simp; omega), h.r0.grownBy g (by simp; omega), h.r1.grownBy g (by simp; omega), h.r2.grownBy g (by simp; omega)⟩
theorem Mid.setBox {w : World} {m : Nat} {rem : ByteArray} {N cnt : Nat} {p : Pg} {last : Nat} {W : World} (h : Mid w m rem N cnt p last W) (hm : w.heap.size = m) (x : ByteArray) : Mid w m x N cnt p last (W.setCell ⟨m + 6, 0, none⟩ (.string x)) := by
  have g := grown_cell W (m + 6) 0 (.string x)
  exact ⟨h.rd.grown g (by omega) (by omega) (by omega), h.inv, h.ptr.grownBy g (by simp), h.cnt'.grownBy g (by simp), h.box.set 0 (by simp) _, h.r0.grownBy g (by simp), h.r1.grownBy g (by simp), h.r2.grownBy g (by simp)⟩
theorem Mid.setCnt {w : World} {m : Nat} {rem : ByteArray} {N cnt : Nat} {p : Pg} {last : Nat} {W : World} (h : Mid w m rem N cnt p last W) (hm : w.heap.size = m) (c : Nat) : Mid w m rem N c p last (W.setCell ⟨m + 5, 0, none⟩ (.int .i64 (c : Int))) := by
  have g := grown_cell W (m + 5) 0 (.int .i64 (c : Int))
  exact ⟨h.rd.grown g (by omega) (by omega) (by omega), h.inv, h.ptr.grownBy g (by simp), h.cnt'.set 0 (by simp) _, h.box.grownBy g (by simp), h.r0.grownBy g (by simp), h.r1.grownBy g (by simp), h.r2.grownBy g (by simp)⟩
theorem Mid.below {w : World} {m : Nat} {rem : ByteArray} {N cnt : Nat} {p : Pg} {last : Nat} {W V : World} (h : Mid w m rem N cnt p last W) (b : Below W.heap.size W V) : Mid w m rem N cnt p last V :=
  ⟨h.rd.below b, h.inv, h.ptr.below b, h.cnt'.below b, h.box.below b, h.r0.below b, h.r1.below b, h.r2.below b⟩
theorem Mid.frm {w : World} {m : Nat} {rem : ByteArray} {N N' cnt : Nat} {p p' : Pg} {last last' : Nat} {W V : World} (h : Mid w m rem N cnt p last W) (f : Frm (m + 9) (m + 3) W V) (R : Rd w (m + 9) (m + 3) N' p' (atOf last') V) (I : Inv p' last') : Mid w m rem N' cnt p' last' V :=
  ⟨R, I, h.ptr.frm f (by omega) (by omega), h.cnt'.frm f (by omega) (by omega), h.box.frm f (by omega) (by omega), h.r0.frm f (by omega) (by omega), h.r1.frm f (by omega) (by omega), h.r2.frm f (by omega) (by omega)⟩
set_option maxHeartbeats 8000000 in
set_option maxRecDepth 100000 in
theorem leave_parse {m : Nat} {tmps : Array Value} {v0 v1 v2 v3 e n : Value} {W : World} {R : Ending → World → Prop} (t2 : tmps[2]? = some (.pointer (some ⟨m, 0, none⟩))) (t3 : tmps[3]? = some (.pointer (some ⟨m + 1, 0, none⟩))) (t4 : tmps[4]? = some (.pointer (some ⟨m + 2, 0, none⟩)))
    (z0 : Blk m #[v0, v1, v2, v3] W) (z1 : Blk (m + 1) #[e] W) (z2 : Blk (m + 2) #[n] W) (hK : W.heap[m + 7]? = some (.deferred (some [])))
    (hR : R (.returned (.tuple #[.agg #[v0, v1, v2, v3], e, n])) (W.putObj (m + 7) (.deferred none))) :
    bodyPostM Fence.wide 3 Tryz.prog Tryz.f10 R .ret { tmps := tmps, defers := [{ target := .collected (m + 7), args := #[] }] } W := by
  have y0 := (z0.putObj (.deferred none) (show m ≠ m + 7 by omega)).cell
  have y1 := (z1.putObj (.deferred none) (show m + 1 ≠ m + 7 by omega)).cell
  have y2 := (z2.putObj (.deferred none) (show m + 2 ≠ m + 7 by omega)).cell
  refine ⟨by simp, .inl ⟨_, _, rfl, run_takeDeferred hK, _, ?_, hR⟩⟩
  generalize W.putObj (m + 7) (.deferred none) = W2 at *
  simp [results, Tryz.results10, go_sem, y0, y1, y2, t2, t3, t4]
set_option maxHeartbeats 8000000 in
set_option maxRecDepth 100000 in
theorem leave_parse0 {m : Nat} {tmps : Array Value} {v0 v1 v2 v3 e n : Value} {W : World} {R : Ending → World → Prop} (t2 : tmps[2]? = some (.pointer (some ⟨m, 0, none⟩))) (t3 : tmps[3]? = some (.pointer (some ⟨m + 1, 0, none⟩))) (t4 : tmps[4]? = some (.pointer (some ⟨m + 1 + 1, 0, none⟩)))
    (z0 : Blk m #[v0, v1, v2, v3] W) (z1 : Blk (m + 1) #[e] W) (z2 : Blk (m + 1 + 1) #[n] W)
    (hR : R (.returned (.tuple #[.agg #[v0, v1, v2, v3], e, n])) W) :
    bodyPostM Fence.wide 3 Tryz.prog Tryz.f10 R .ret { tmps := tmps, defers := [] } W := by
  have y0 := z0.cell
  have y1 := z1.cell
  have y2 := z2.cell
  refine ⟨_, ?_, hR⟩
  simp [results, Tryz.results10, go_sem, y0, y1, y2, t2, t3, t4]
set_option maxHeartbeats 4000000 in
set_option maxRecDepth 100000 in
theorem parse_long (s : ByteArray) (w : World) (hs : 65536 < s.size) :
    Calls Tryz.prog 10 #[.string s] w fun e w' => ∃ p' : Pg, e = .returned (.tuple #[p'.v, .int .i64 (prs s.data.toList).2.1, .int .i64 (prs s.data.toList).2.2]) ∧ p'.bare = (prs s.data.toList).1 ∧ p'.In w' ∧ Below w.heap.size w w' := by
  have hpr : prs s.data.toList = (Pg.no, 2, 0) := by
    unfold prs
    rw [if_pos (by rw [Array.length_toList]; exact hs)]
  rw [hpr]
  refine (callsIn_wide (n := 3)).1 ?_
  refine callsIn_of_wp_marks Tryz.func10 rfl trivial ?_ rfl
  simp only [Tryz.ntmps10, List.size_toArray, List.length_cons, List.length_nil, Nat.reduceAdd, Nat.reduceSub, Array.replicate_succ, Array.replicate_zero, List.push_toArray, List.append_toArray, List.nil_append, List.cons_append]
  have hsi : (65536 : Int) < (s.size : Int) := by omega
  refine wpIn_wide.2 ?_
  go_wp2
  go_step3
  go_wp2
  refine leave_parse0 rfl rfl rfl ?_ ?_ ?_ ⟨Pg.no, rfl, rfl, no_in _, (by repeat (first | (with_reducible exact Below.refl _ _) | (with_reducible refine Below.drew ?_) | (with_reducible refine below_drewN ?_ _) | (with_reducible refine Below.alloc ?_ (by first | omega | (simp <;> omega)) _)))⟩
  · exact ((Blk.new' _ _ _ _ (by simp)).alloc _).alloc _
  · exact (Blk.new' _ _ _ _ (by simp)).alloc _
  · exact Blk.new' _ _ _ _ (by simp)
def Keeps (w : World) (s rem : ByteArray) (W : World) : Prop :=
  ∃ N p last, Mid w w.heap.size rem N N p last W ∧ rem.size + N ≤ s.size ∧ reads (lns s.data.toList []) Pg.no 0 0 = reads (lns rem.data.toList []) p.bare last N
def Stops (w : World) (s : ByteArray) (W : World) : Prop :=
  ∃ (e : Int) (n : Nat), Blk w.heap.size noCs W ∧ Blk (w.heap.size + 1) #[.int .i64 e] W ∧ Blk (w.heap.size + 2) #[.int .i64 (n : Int)] W ∧ e ≠ 0 ∧ (reads (lns s.data.toList []) Pg.no 0 0).2 = (e, n) ∧ Below w.heap.size w W
/-- The words of a line without its end. -/
theorem line_words {w0 : World} {n0 r N : Nat} {p : Pg} {a : Int} (x : ByteArray) (W : World) (R : Rd w0 n0 r N p a W) (hx : x.size ≤ 65536) :
    Calls Tryz.prog 17 #[.string x] W fun e w' => ((wrd x.data.toList [] = [] ∧ ∃ a cap, e = .returned (.slice a 0 cap)) ∨ (∃ x0 ws g cap, wrd x.data.toList [] = (x0 :: ws).map (·.data.toList) ∧ e = .returned (.slice (some ⟨g, 0, none⟩) (ws.length + 1) cap) ∧ Ws n0 r g (x0 :: ws) w' ∧ x0.data.toList ≠ [] ∧ (∀ row ∈ p.rows, row.blk ≠ some g) ∧ (∀ x ∈ ws, x.size ≤ 281474976710656) ∧ ws.length + 1 ≤ cap ∧ ws.length ≤ 1000000)) ∧ Below W.heap.size W w' := by
  refine (Wd.words_walk x W R.lie (by omega)).mono ?_
  rintro e w' ⟨⟨v, xs, rfl, hT, hm⟩, hB⟩
  refine ⟨?_, hB⟩
  obtain ⟨a, cap, rfl, hc, hne⟩ := hT.parts
  cases xs with
  | nil => exact .inl ⟨hm.symm, a, cap, rfl⟩
  | cons x0 ws =>
    obtain ⟨g, rfl, hg, hlt, hcell⟩ := hne (by simp)
    have hcount := Wd.wrd_count x.data.toList []
    rw [← hm, List.length_map, List.length_cons, Array.length_toList] at hcount
    have hcount' : ws.length + 1 ≤ x.size + 1 := hcount
    have hgr : g ≠ r := by have := R.hi; have := R.lo; omega
    refine .inr ⟨x0, ws, g, cap, hm.symm, rfl, ⟨hgr, hlt, fun k y hk => hcell k y hk⟩, ?_, ?_, ?_, by simpa using hc, by omega⟩
    · exact wrd_filled x.data.toList [] _ (by rw [← hm]; simp)
    · intro row hr e
      have := R.blk_ge hr e
      omega
    · intro y hy
      have := wrd_sizes x.data.toList [] y.data.toList (by rw [← hm]; exact List.mem_map.2 ⟨y, List.mem_cons_of_mem _ hy, rfl⟩)
      rw [Array.length_toList, Array.length_toList, List.length_nil] at this
      have h2 : y.size ≤ x.size + 0 := this
      omega

set_option maxHeartbeats 4000000 in
set_option maxRecDepth 100000 in
theorem parse_walk (s : ByteArray) (w : World) (hL : Wd.Lies w) (hs : s.size ≤ 65536) :
    Calls Tryz.prog 10 #[.string s] w fun e w' => ∃ p' : Pg, e = .returned (.tuple #[p'.v, .int .i64 (prs s.data.toList).2.1, .int .i64 (prs s.data.toList).2.2]) ∧ p'.bare = (prs s.data.toList).1 ∧ p'.In w' ∧ Below w.heap.size w w' := by
  refine (callsIn_wide (n := 3)).1 ?_
  refine callsIn_of_wp_marks Tryz.func10 rfl trivial ?_ rfl
  simp only [Tryz.ntmps10, List.size_toArray, List.length_cons, List.length_nil, Nat.reduceAdd, Nat.reduceSub, Array.replicate_succ, Array.replicate_zero, List.push_toArray, List.append_toArray, List.nil_append, List.cons_append]
  have hsi : ¬ (65536 : Int) < (s.size : Int) := by omega
  have cO := Lib.hid (fun W => lines_walk s W)
  refine wpIn_wide.2 ?_
  go_wp2
  go_step3
  go_wp2
  go_step3
  go_wp2_with ((go_at_call 23; ((with_reducible refine (cO.out _).mono ?_); rintro e w' ⟨rfl, hW⟩; have hW' := hW.symm; subst hW')))
  simp only [Nat.add_assoc, Nat.reduceAdd]
  refine wpIn_wide.1 (wpIn_lines' 3 (by decide) (w.heap.size + 6) (w.heap.size + 7) 7 (by simp only [World.size_alloc]) (by omega) rfl (Keeps w s) (Stops w s) s ?hcell ?h0 ?hput ?hputx ?hassign ?hbody ?hdone ?hstop)
  case hcell =>
    rintro r W ⟨N, p, last, hM, hsz, _⟩
    exact ⟨hM.box.cell 0, hM.box.fr, by omega⟩
  case h0 =>
    intro X
    refine ⟨0, Pg.no, 0, ⟨Rd.start hL (by repeat (first | (with_reducible exact Below.refl _ _) | (with_reducible refine Below.alloc ?_ (by first | exact Nat.le_refl _ | (simp only [World.size_alloc]; omega)) _))) ?_ (by omega) (by simp [World.size_alloc]) (by omega), Inv.no, ?_, ?_, ?_, ?_, ?_, ?_⟩, by omega, rfl⟩
    · exact ((((((Blk.new' _ _ _ _ (by simp)).alloc _).alloc _).alloc _).alloc _).alloc _)
    · exact (((((Blk.new' _ _ _ _ (by simp)).alloc _).alloc _).alloc _).alloc _)
    · exact ((((Blk.new' _ _ _ _ (by simp)).alloc _).alloc _).alloc _)
    · exact (((Blk.new' _ _ _ _ (by simp)).alloc _).alloc _)
    · exact (((((((((Blk.new' _ _ _ _ (by simp)).alloc _).alloc _).alloc _).alloc _).alloc _).alloc _).alloc _).alloc _)
    · exact ((((((((Blk.new' _ _ _ _ (by simp)).alloc _).alloc _).alloc _).alloc _).alloc _).alloc _).alloc _)
    · exact (((((((Blk.new' _ _ _ _ (by simp)).alloc _).alloc _).alloc _).alloc _).alloc _).alloc _)
  case hput =>
    rintro r W X ⟨N, p, last, hM, h⟩
    exact ⟨N, p, last, hM.grown rfl (putObj_grown _ _ _) (.inr rfl), h⟩
  case hputx =>
    rintro W X ⟨e, n, h0, h1, h2, h3, h4, h5⟩
    exact ⟨e, n, h0.putObj _ (by omega), h1.putObj _ (by omega), h2.putObj _ (by omega), h3, h4, below_grown h5 (putObj_grown _ _ _) (by omega)⟩
  case hassign =>
    intro l x W K hK
    simp only [List.setIfInBounds_toArray, List.set_cons_succ, List.set_cons_zero] at hK ⊢
    gi_wp2
    exact hK
  case hbody =>
    intro l r W W1 hI hpos hW1 X hK
    simp only [List.setIfInBounds_toArray, List.set_cons_succ, List.set_cons_zero]
    obtain ⟨N, p, last, hM, hsz, hout⟩ := hI
    have hcut := cut_lt r hpos
    have hcs := cut_size r
    rw [lns_cut r hpos] at hout
    have hM1 : Mid w w.heap.size (cutLine r).2 N N p last (W1.putObj (w.heap.size + 7 + 1) (.loop X)) := by
      have h1 := hM.setBox rfl (cutLine r).2
      refine Mid.grown ?_ rfl (putObj_grown _ _ _) (.inr rfl)
      rcases hW1 with rfl | rfl
      · exact h1
      · exact h1.below (Below.drew (Below.refl _ _))
    generalize W1.putObj (w.heap.size + 7 + 1) (.loop X) = V at *
    generalize (cutLine r).1 = x at *
    generalize (cutLine r).2 = rest at *
    have hxs : x.size ≤ 65536 := by omega
    have hN : (N : Int) ≤ 65536 := by omega
    have hN' : N ≤ 1000000 := by omega
    have hrz : rest.size + (N + 1) ≤ s.size := by omega
    clear hM hW1 hcut hcs hpos hsz
    rw [reads_cons] at hout
    have cT := Lib.hid (fun W => trim_walk x hxs W)
    have hMs := hM1.setCnt rfl (N + 1)
    rw [show ((N + 1 : Nat) : Int) = (N : Int) + 1 from rfl] at hMs
    have cW := Lib.hid (fun t W R ht => line_words (w0 := w) (n0 := w.heap.size + 9) (r := w.heap.size + 3) (N := N) (p := p) (a := atOf last) t W R ht)
    have hcnt := hM1.cnt'.cell
    have hcntf := hM1.cnt'.fr
    generalize trim x.data.toList = tl at *
    by_cases hnil : wrd tl [] = []
    · rw [hnil, show bad last [] = 0 from rfl, if_neg (by decide)] at hout
      replace hout := Lib.hid hout
      replace cW : Hid (∀ t W, Rd w (w.heap.size + 9) (w.heap.size + 3) N p (atOf last) W → t.size ≤ 65536 → t.data.toList = tl → Calls Tryz.prog 17 #[.string t] W fun e w' => (∃ a cap, e = .returned (.slice a 0 cap)) ∧ Below W.heap.size W w') := Lib.hid (fun t W R ht htl => (cW.out t W R ht).mono (by
        rintro e w' ⟨⟨_, h⟩ | ⟨x0, ws, g, cap, h, _⟩, hB⟩
        · exact ⟨h, hB⟩
        · rw [htl, hnil] at h; cases h))
      gi_wp2_with (first
        | (refine ⟨trivial, ?_⟩; gi_at_call 24; refine (CallsIn.inRound l (callsIn_wide.2 (cT.out _))).mono ?_; rintro e w' ⟨⟨t, rfl, ht, hts⟩, hW⟩; have hW' := hW.symm; subst hW')
        | (refine ⟨trivial, ?_⟩; gi_at_call 17; refine (CallsIn.inRound l (callsIn_wide.2 (cW.out _ _ hMs.rd (by omega) ht))).mono ?_; rintro e w' ⟨⟨a, cap, rfl⟩, hB⟩; have hMw := hMs.below hB))
      obtain ⟨k1, k2⟩ := two_below hM1.rd.hi (w.heap.size + 5) 0 (.int .i64 ((N : Int) + 1)) hB (by omega) (by omega)
      exact ⟨k1, k2, N + 1, p, last, ⟨hMw.rd.more (by omega), hMw.inv, hMw.ptr, hMw.cnt', hMw.box, hMw.r0, hMw.r1, hMw.r2⟩, hrz, hout.out⟩
    · replace cW : Hid (∀ t W, Rd w (w.heap.size + 9) (w.heap.size + 3) N p (atOf last) W → t.size ≤ 65536 → t.data.toList = tl → Calls Tryz.prog 17 #[.string t] W fun e w' => (∃ x0 ws g cap, wrd tl [] = (x0 :: ws).map (·.data.toList) ∧ e = .returned (.slice (some ⟨g, 0, none⟩) (ws.length + 1) cap) ∧ Ws (w.heap.size + 9) (w.heap.size + 3) g (x0 :: ws) w' ∧ x0.data.toList ≠ [] ∧ (∀ row ∈ p.rows, row.blk ≠ some g) ∧ (∀ x ∈ ws, x.size ≤ 281474976710656) ∧ ws.length + 1 ≤ cap ∧ ws.length ≤ 1000000) ∧ Below W.heap.size W w') := Lib.hid (fun t W R ht htl => (cW.out t W R ht).mono (by
        rintro e w' ⟨⟨h, _⟩ | h, hB⟩
        · rw [htl] at h; exact absurd h hnil
        · rw [htl] at h; exact ⟨h, hB⟩))
      have cL := Lib.hid (fun g cap W x0 ws h1 R h2 h3 h4 h5 h6 => line_walk w (w.heap.size + 9) (w.heap.size + 3) N g cap p last W x0 ws h1 R hM1.inv h2 h3 h4 h5 h6 hN')
      by_cases hE : bad last (wrd tl []) = 0
      · rw [if_neg (by simpa using hE)] at hout
        have hI := (hM1.inv.to_bare).good (wrd tl []) hE
        replace hE := Lib.hid hE
        replace hout := Lib.hid hout
        gi_wp2_with (first
          | (refine ⟨trivial, ?_⟩; gi_at_call 24; refine (CallsIn.inRound l (callsIn_wide.2 (cT.out _))).mono ?_; rintro e w' ⟨⟨t, rfl, ht, hts⟩, hW⟩; have hW' := hW.symm; subst hW')
          | (refine ⟨trivial, ?_⟩; gi_at_call 17; refine (CallsIn.inRound l (callsIn_wide.2 (cW.out _ _ hMs.rd (by omega) ht))).mono ?_; rintro e w' ⟨⟨x0, ws, g, cap, hwl, rfl, hWs, h0, hgr, hsz, hcap, hln⟩, hB⟩; replace hwl := Lib.hid hwl; have hMw := hMs.below hB; have hpt := hMw.ptr.cell; have hne : (((ws.length : Int) + 1) == 0) = false := by { simp; omega })
          | (refine ⟨trivial, ?_⟩; gi_at_call 25; refine (CallsIn.inRound l (callsIn_wide.2 (cL.out g cap _ x0 ws h0 hMw.rd hWs hgr hsz hcap hln))).mono ?_; rintro e w' D; rw [← hwl.out, hE.out] at D; obtain ⟨rfl, hF, hD⟩ := D; replace hD := Lib.hid (hD rfl)))
        obtain ⟨p', hp', hR'⟩ := hD.out
        rw [← hp'] at hI
        obtain ⟨k1, k2⟩ := two_below hM1.rd.hi (w.heap.size + 5) 0 (.int .i64 ((N : Int) + 1)) hB (by omega) (by omega)
        have hM2 := hMw.frm hF hR' hI.of_bare
        exact ⟨(hF.block _ (by omega) (by omega)).trans k1, (hF.block _ (by omega) (by omega)).trans k2, N + 1, p', _, hM2, hrz, by rw [hp']; exact hout.out⟩
      · rw [if_pos hE] at hout
        have hEn : (bad last (wrd tl []) == 0) = false := by simpa using hE
        gi_wp2_with (first
          | (refine ⟨trivial, ?_⟩; gi_at_call 24; refine (CallsIn.inRound l (callsIn_wide.2 (cT.out _))).mono ?_; rintro e w' ⟨⟨t, rfl, ht, hts⟩, hW⟩; have hW' := hW.symm; subst hW')
          | (refine ⟨trivial, ?_⟩; gi_at_call 17; refine (CallsIn.inRound l (callsIn_wide.2 (cW.out _ _ hMs.rd (by omega) ht))).mono ?_; rintro e w' ⟨⟨x0, ws, g, cap, hwl, rfl, hWs, h0, hgr, hsz, hcap, hln⟩, hB⟩; replace hwl := Lib.hid hwl; have hMw := hMs.below hB; have hpt := hMw.ptr.cell; have hne : (((ws.length : Int) + 1) == 0) = false := by { simp; omega })
          | (refine ⟨trivial, ?_⟩; gi_at_call 25; refine (CallsIn.inRound l (callsIn_wide.2 (cL.out g cap _ x0 ws h0 hMw.rd hWs hgr hsz hcap hln))).mono ?_; rintro e w' D; rw [← hwl.out] at D; obtain ⟨rfl, hF, _⟩ := D; have hct := (hMw.cnt'.frm hF (by omega) (by omega)); have hct1 := hct.cell; have hct2 := hct.fr; have hz0 := hMw.r0.frm hF (by omega) (by omega); have hz1 := hMw.r1.frm hF (by omega) (by omega); have hz2 := hMw.r2.frm hF (by omega) (by omega); have hz0c := hz0.cell; have hz0f := hz0.fr; have hz1c := hz1.cell; have hz1f := hz1.fr; have hz2c := hz2.cell; have hz2f := hz2.fr; unfold noCs at hz0c))

        rename_i K0 hK0
        obtain ⟨z0, z1, z2, zB, z7, z8⟩ := stored rfl hz0 hz1 hz2 (hF.acc hMw.rd.acc (by omega) (by omega)) (.slice none 0 0) (.int .i64 0) (.slice none 0 0) (.slice none 0 0) (.int .i64 (bad last (wrd tl []))) (.int .i64 ((N : Int) + 1))
        have fin : ∀ A : Act, linePost (Keeps w s) (Stops w s) rest V (w.heap.size + 7) Exit.ret A (putRes w' w.heap.size (.slice none 0 0) (.int .i64 0) (.slice none 0 0) (.slice none 0 0) (.int .i64 (bad last (wrd tl []))) (.int .i64 ((N : Int) + 1))).drew := fun A => by
          obtain ⟨k1, k2⟩ := two_below hM1.rd.hi (w.heap.size + 5) 0 (.int .i64 ((N : Int) + 1)) hB (by omega) (by omega)
          have y7 := z7.trans ((hF.block (w.heap.size + 7) (by omega) (by omega)).trans k1)
          have y8 := z8.trans ((hF.block (w.heap.size + 8) (by omega) (by omega)).trans k2)
          have hS : Stops w s (putRes w' w.heap.size (.slice none 0 0) (.int .i64 0) (.slice none 0 0) (.slice none 0 0) (.int .i64 (bad last (wrd tl []))) (.int .i64 ((N : Int) + 1))).drew := by
            refine ⟨bad last (wrd tl []), N + 1, z0.drew, z1.drew, z2.drew, hE, ?_, zB.drew⟩
            rw [hout]
          generalize putRes w' w.heap.size (.slice none 0 0) (.int .i64 0) (.slice none 0 0) (.slice none 0 0) (.int .i64 (bad last (wrd tl []))) (.int .i64 ((N : Int) + 1)) = W9 at *
          exact ⟨y7, y8, hS⟩
        clear hMw hF hz0 hz1 hz2 z0 z1 z2 zB z7 z8 hM1 hMs hE hout hB
        have finK : ∀ A, K0 A (putRes w' w.heap.size (.slice none 0 0) (.int .i64 0) (.slice none 0 0) (.slice none 0 0) (.int .i64 (bad last (wrd tl []))) (.int .i64 ((N : Int) + 1))).drew := fun A => by
          refine hK0 A _ ?_
          replace fin := Lib.hid fin
          generalize putRes w' w.heap.size (.slice none 0 0) (.int .i64 0) (.slice none 0 0) (.slice none 0 0) (.int .i64 (bad last (wrd tl []))) (.int .i64 ((N : Int) + 1)) = W9 at *
          gi_wp2
          exact fin.out _
        unfold putRes at finK
        clear fin hK0
        replace finK := Lib.hid finK
        gi_region
        all_goals exact finK.out _
  case hdone =>
    rename_i K0 hK0
    intro W hI hK
    refine hK0 _ _ ?_
    clear hK0
    obtain ⟨N, p, last, hM, hsz, hout⟩ := hI
    rw [show reads (lns (⟨#[]⟩ : ByteArray).data.toList []) p.bare last N = ((p.bare, last), 0, 0) from rfl] at hout
    have hpr := prs_of hs hout
    have hp1 := hM.ptr.cell
    have hr1 := hM.rd.cell
    have hz0 := hM.r0.cell
    have hz0f := hM.r0.fr
    have hz1 := hM.r1.cell
    have hz1f := hM.r1.fr
    have hz2 := hM.r2.cell
    have hz2f := hM.r2.fr
    unfold noCs at hz0
    by_cases hl : last = 0
    · subst hl
      rw [if_pos rfl] at hpr
      simp only [show atOf 0 = 0 from rfl] at hr1
      go_wp2
      obtain ⟨z0, z1, z2, zB, z7, z8⟩ := stored rfl hM.r0 hM.r1 hM.r2 hM.rd.acc (.slice none 0 0) (.int .i64 0) (.slice none 0 0) (.slice none 0 0) (.int .i64 53) (.int .i64 0)
      refine leave_parse rfl rfl rfl z0 z1 z2 (z7.trans hK) ⟨Pg.no, ?_, ?_, no_in _, below_grown zB (putObj_grown _ _ _) (by omega)⟩
      · rw [hpr]; rfl
      · rw [hpr]; rfl
    · rw [if_neg hl] at hpr
      have hN : N ≤ 1000000 := by omega
      have hat : (atOf last == 0) = false := by
        have := at_zero last hM.inv.top
        simpa using fun e => hl (this e)
      have hin := hM.rd.in hN
      have cC := Lib.hid (check_walk p W hin)
      unfold Pg.v at cC
      by_cases hc : chk p = 0
      · rw [if_neg (by simpa using hc)] at hpr
        rw [hc] at cC
        clear hc hl
        go_wp2_with ((go_at_call 26; ((with_reducible refine (cC.out).mono ?_); rintro e w' ⟨⟨v, rfl, a9, b9, rfl⟩, hb9⟩; have hp1 := fun O => ((hM.ptr.below hb9).alloc O).cell; have hr1 := fun O => ((hM.rd.blk.below hb9).alloc O).cell; have hz0 := fun O => ((hM.r0.below hb9).alloc O).cell; have hz0f := fun O => ((hM.r0.below hb9).alloc O).fr; have hz1 := fun O => ((hM.r1.below hb9).alloc O).cell; have hz1f := fun O => ((hM.r1.below hb9).alloc O).fr; have hz2 := fun O => ((hM.r2.below hb9).alloc O).cell; have hz2f := fun O => ((hM.r2.below hb9).alloc O).fr; unfold noCs at hz0)))
        obtain ⟨w9, hw9⟩ : ∃ w9, w9 = w' := ⟨_, rfl⟩; subst hw9
        have hB9 : Below W.heap.size W (w9.alloc (.cells #[.int .i64 a9, .int .i64 b9] 69)) := Below.alloc hb9 (by have := hb9.size; omega) _
        have k7 : (w9.alloc (.cells #[.int .i64 a9, .int .i64 b9] 69)).heap[w.heap.size + 7]? = some (.deferred (some [])) := by rw [hB9.block _ (by have := hM.rd.hi; omega)]; exact hK
        have hM9 := hM.below hB9
        generalize w9.alloc (.cells #[.int .i64 a9, .int .i64 b9] 69) = W9 at *
        obtain ⟨z0, z1, z2, zB, z7, z8⟩ := stored rfl hM9.r0 hM9.r1 hM9.r2 hM9.rd.acc (.slice p.va p.vars.length p.vcap) (.int .i64 p.locks) (.slice p.ha p.chans.length p.hcap) (.slice p.fa p.funcs.length p.fcap) (.int .i64 0) (.int .i64 0)
        have R9 := (hM9.rd.put rfl (.slice p.va p.vars.length p.vcap) (.int .i64 p.locks) (.slice p.ha p.chans.length p.hcap) (.slice p.fa p.funcs.length p.fcap) (.int .i64 0) (.int .i64 0)).grown (putObj_grown _ (w.heap.size + 7) (.deferred none)) (by omega) (by omega) (by omega)
        refine leave_parse rfl rfl rfl z0 z1 z2 (z7.trans k7) ⟨p, ?_, ?_, R9.in hN, R9.acc⟩
        · rw [hpr]; rfl
        · rw [hpr]
      · rw [if_pos hc] at hpr
        have hcn : (chk p == 0) = false := by simpa using hc
        clear hc hl
        go_wp2_with ((go_at_call 26; ((with_reducible refine (cC.out).mono ?_); rintro e w' ⟨⟨v, rfl, a9, b9, rfl⟩, hb9⟩; have hp1 := fun O => ((hM.ptr.below hb9).alloc O).cell; have hr1 := fun O => ((hM.rd.blk.below hb9).alloc O).cell; have hz0 := fun O => ((hM.r0.below hb9).alloc O).cell; have hz0f := fun O => ((hM.r0.below hb9).alloc O).fr; have hz1 := fun O => ((hM.r1.below hb9).alloc O).cell; have hz1f := fun O => ((hM.r1.below hb9).alloc O).fr; have hz2 := fun O => ((hM.r2.below hb9).alloc O).cell; have hz2f := fun O => ((hM.r2.below hb9).alloc O).fr; unfold noCs at hz0)))
        obtain ⟨w9, hw9⟩ : ∃ w9, w9 = w' := ⟨_, rfl⟩; subst hw9
        have hB9 : Below W.heap.size W (w9.alloc (.cells #[.int .i64 a9, .int .i64 b9] 69)) := Below.alloc hb9 (by have := hb9.size; omega) _
        have k7 : (w9.alloc (.cells #[.int .i64 a9, .int .i64 b9] 69)).heap[w.heap.size + 7]? = some (.deferred (some [])) := by rw [hB9.block _ (by have := hM.rd.hi; omega)]; exact hK
        have hM9 := hM.below hB9
        generalize w9.alloc (.cells #[.int .i64 a9, .int .i64 b9] 69) = W9 at *
        obtain ⟨z0, z1, z2, zB, z7, z8⟩ := stored rfl hM9.r0 hM9.r1 hM9.r2 hM9.rd.acc (.slice none 0 0) (.int .i64 0) (.slice none 0 0) (.slice none 0 0) (.int .i64 (chk p)) (.int .i64 0)
        refine leave_parse rfl rfl rfl z0 z1 z2 (z7.trans k7) ⟨Pg.no, ?_, ?_, no_in _, below_grown zB (putObj_grown _ _ _) (by omega)⟩
        · rw [hpr]; rfl
        · rw [hpr]; rfl
  case hstop =>
    rintro W ⟨e, n, z0, z1, z2, he, hout, hB⟩ hK
    have hpr := prs_stop hs he hout
    refine wpIn_wide.2 ?_
    go_wp2
    refine leave_parse rfl rfl rfl z0 z1 z2 hK ⟨Pg.no, ?_, ?_, no_in _, below_grown hB (putObj_grown _ _ _) (by omega)⟩
    · rw [hpr]; rfl
    · rw [hpr]; rfl
theorem parse_any (s : ByteArray) (w : World) (hL : Wd.Lies w) :
    Calls Tryz.prog 10 #[.string s] w fun e w' => ∃ p' : Pg, e = .returned (.tuple #[p'.v, .int .i64 (prs s.data.toList).2.1, .int .i64 (prs s.data.toList).2.2]) ∧ p'.bare = (prs s.data.toList).1 ∧ p'.In w' ∧ Below w.heap.size w w' := by
  by_cases h : s.size ≤ 65536
  · exact parse_walk s w hL h
  · exact parse_long s w (by omega)
end Go.Proofs.YtlhhmlfcodmebaaGreatDoor.Pg
