/- Several texts of one proof, one behind the other. A line's words, walked: what is common. No condition. | What each kind of line does, in one form. The condition: the reader in memory. -/
import Derived.Test.YtlhhmlfcodmebaaGreatDoorZh
import Derived.Test.YtlhhmlfcodmebaaGreatDoorZVh
import Derived.Test.YtlhhmlfcodmebaaGreatDoorZVk
import Derived.Laws.EntriesVeiled
import Derived.Deep.DeepCutAuto
namespace Go.Proofs.YtlhhmlfcodmebaaGreatDoor.Pg
set_option linter.unusedVariables false
set_option linter.unusedSimpArgs false
open Go.RowKit Go.WideShapes Go.ChangeShapes
/-- Where the reader stands behind a kind of line. -/
def atOf (last : Nat) : Int := if last = 0 then 0 else if last ≤ 3 then 1 else if last = 4 then 2 else if last = 5 then 3 else if last ≤ 9 then 4 else 5
theorem mayIs_1 (last : Nat) : may 1 last = decide (last = 0) := by simp [may]
theorem may_1 (last : Nat) : decide (atOf last = 0) = may 1 last := by
  rw [mayIs_1, decide_eq_decide]
  unfold atOf
  repeat' split
  all_goals omega
theorem mayIs_2 (last : Nat) : may 2 last = decide (1 ≤ last ∧ last ≤ 3) := by simp [may]
theorem may_2 (last : Nat) : decide (0 < atOf last ∧ atOf last ≤ 1) = may 2 last := by
  rw [mayIs_2, decide_eq_decide]
  unfold atOf
  repeat' split
  all_goals omega
theorem mayIs_3 (last : Nat) : may 3 last = decide (1 ≤ last ∧ last ≤ 3) := by simp [may]
theorem may_3 (last : Nat) : decide (0 < atOf last ∧ atOf last ≤ 1) = may 3 last := by
  rw [mayIs_3, decide_eq_decide]
  unfold atOf
  repeat' split
  all_goals omega
theorem mayIs_4 (last : Nat) : may 4 last = decide (1 ≤ last ∧ last ≤ 4) := by simp [may]
theorem may_4 (last : Nat) : decide (0 < atOf last ∧ atOf last ≤ 2) = may 4 last := by
  rw [mayIs_4, decide_eq_decide]
  unfold atOf
  repeat' split
  all_goals omega
theorem mayIs_5 (last : Nat) : may 5 last = decide (1 ≤ last ∧ last ≤ 5) := by simp [may]
theorem may_5 (last : Nat) : decide (0 < atOf last ∧ atOf last ≤ 3) = may 5 last := by
  rw [mayIs_5, decide_eq_decide]
  unfold atOf
  repeat' split
  all_goals omega
theorem mayIs_6 (last : Nat) : may 6 last = decide (1 ≤ last) := by simp [may]
theorem may_6 (last : Nat) : decide (0 < atOf last) = may 6 last := by
  rw [mayIs_6, decide_eq_decide]
  unfold atOf
  repeat' split
  all_goals omega
theorem mayIs_7 (last : Nat) : may 7 last = decide (6 ≤ last ∧ last ≤ 9) := by simp [may]
theorem may_7 (last : Nat) : decide (atOf last = 4) = may 7 last := by
  rw [mayIs_7, decide_eq_decide]
  unfold atOf
  repeat' split
  all_goals omega
theorem mayIs_8 (last : Nat) : may 8 last = decide (7 ≤ last ∧ last ≤ 9) := by simp [may]
theorem mayIs_9 (last : Nat) : may 9 last = decide (7 ≤ last ∧ last ≤ 9) := by simp [may]
theorem mayIs_10 (last : Nat) : may 10 last = decide (6 ≤ last) := by simp [may]
/-- What holds of a program half read. -/
structure Inv (p : Pg) (last : Nat) : Prop where
  funcs : 6 ≤ last → ∃ fs f, p.funcs = fs ++ [f] ∧ (last = 6 → f.sels = []) ∧ (7 ≤ last ∧ last ≤ 9 → ∃ ss s, f.sels = ss ++ [s])
  top : last ≤ 10
end Go.Proofs.YtlhhmlfcodmebaaGreatDoor.Pg
namespace Go.Proofs.YtlhhmlfcodmebaaGreatDoor.Pg
set_option linter.unusedVariables false
set_option linter.unusedSimpArgs false
open Go.RowKit Go.WideShapes Go.ChangeShapes
open Go.Proofs.YtlhhmlfcodmebaaGreatDoor.Wd (bt)
set_option linter.unusedVariables false
theorem vals1 (c : UInt8) (l : List UInt8) : (vals [c] [l]).2 = (val c l).2 ∧ ((vals [c] [l]).2 = 0 → (vals [c] [l]).1 = [(val c l).1]) := by
  unfold vals
  split
  · next h => exact ⟨h.symm, fun _ => rfl⟩
  · next h => exact ⟨rfl, fun q => absurd q h⟩
theorem vals2 (c d : UInt8) (l m : List UInt8) : (vals [c, d] [l, m]).2 = (if (val c l).2 ≠ 0 then (val c l).2 else (val d m).2) ∧ ((vals [c, d] [l, m]).2 = 0 → (vals [c, d] [l, m]).1 = [(val c l).1, (val d m).1]) := by
  have h1 := vals1 d m
  rw [vals]
  by_cases h : (val c l).2 = 0
  · rw [if_pos h, if_neg (by simpa using h)]
    exact ⟨h1.1, fun q => by rw [h1.2 q]⟩
  · rw [if_neg h, if_pos h]
    exact ⟨rfl, fun q => absurd q h⟩
theorem vals3 (c d f : UInt8) (l m n : List UInt8) : (vals [c, d, f] [l, m, n]).2 = cs3 (val c l).2 (val d m).2 (val f n).2 ∧ ((vals [c, d, f] [l, m, n]).2 = 0 → (vals [c, d, f] [l, m, n]).1 = [(val c l).1, (val d m).1, (val f n).1]) := by
  have h1 := vals2 d f m n
  rw [vals]
  unfold cs3
  by_cases h : (val c l).2 = 0
  · rw [if_pos h, if_neg (by simpa using h)]
    exact ⟨h1.1, fun q => by rw [h1.2 q]⟩
  · rw [if_neg h, if_pos h]
    exact ⟨rfl, fun q => absurd q h⟩
variable {w0 : World} {n0 r N g cap : Nat} {p : Pg} {last : Nat} {W : World} {ws : List ByteArray}
theorem Does.below {err : Int} {q : Pg} {a : Int} {W' : World} (hn : n0 ≤ W.heap.size) (hb : Below W.heap.size W W') {e : Ending} {w' : World} (h : Does w0 n0 r N W' err q a e w') : Does w0 n0 r N W err q a e w' := ⟨h.out, (Frm.below hn hb).trans h.frm, h.ok⟩
theorem at_of (h : may 2 last = true) : atOf last = 1 := by
  rw [mayIs_2, decide_eq_true_eq] at h
  unfold atOf
  rw [if_neg (by omega), if_pos (by omega)]
theorem at_four (h : may 7 last = true) : atOf last = 4 := by
  rw [← may_7, decide_eq_true_eq] at h
  exact h
theorem at_case (h : may 8 last = true) : atOf last = 4 := by
  rw [mayIs_8, decide_eq_true_eq] at h
  unfold atOf
  rw [if_neg (by omega), if_neg (by omega), if_neg (by omega), if_neg (by omega), if_pos (by omega)]
theorem one_of (h : ws.length = 1) : ∃ x, ws = [x] := by
  match ws, h with
  | [x], _ => exact ⟨x, rfl⟩
theorem two_of (h : ws.length = 2) : ∃ x y, ws = [x, y] := by
  match ws, h with
  | [x, y], _ => exact ⟨x, y, rfl⟩
theorem three_of (h : ws.length = 3) : ∃ x y z, ws = [x, y, z] := by
  match ws, h with
  | [x, y, z], _ => exact ⟨x, y, z, rfl⟩
/-- What each asks. -/
structure Asks (w0 : World) (n0 r N g cap : Nat) (p : Pg) (last : Nat) (ws : List ByteArray) (x0 : ByteArray) (W : World) : Prop where
  rd : Rd w0 n0 r N p (atOf last) W
  ws' : Ws n0 r g (x0 :: ws) W
  ap : ∀ row ∈ p.rows, row.blk ≠ some g
  sz : ∀ x ∈ ws, x.size ≤ 281474976710656
  cap' : ws.length + 1 ≤ cap
  lim : N ≤ 1000000
  inv : Inv p last
theorem Asks.below {x0 : ByteArray} {W' : World} (h : Asks w0 n0 r N g cap p last ws x0 W) (hb : Below W.heap.size W W') : Asks w0 n0 r N g cap p last ws x0 W' := ⟨h.rd.below hb, h.ws'.below hb, h.ap, h.sz, h.cap', h.lim, h.inv⟩
def ask (w0 : World) (n0 r N g cap : Nat) (p : Pg) (ws : List ByteArray) (K : Nat) (fn : Nat) (W : World) : Prop :=
  Calls Tryz.prog fn #[.pointer (some ⟨r, 0, none⟩), .slice (some ⟨g, 0, none⟩) (ws.length + 1) cap] W (Does w0 n0 r N W (vals (lets K 0) (ws.map (·.data.toList))).2 (taken p.bare K 0 (vals (lets K 0) (ws.map (·.data.toList))).1) (atOf K))
theorem does_scarab (A : Asks w0 n0 r N g cap p last ws (bt [115, 99, 97, 114, 97, 98]) W) (hm : may 1 last = true) (hl : ws.length = 0) : ask w0 n0 r N g cap p ws 1 80 W :=
  (scarab_walk w0 n0 r N _ p (atOf last) W A.rd).mono fun e w' ⟨h1, h2, p', h3, h4⟩ => by
    obtain rfl := List.eq_nil_of_length_eq_zero hl
    exact ⟨h1, h2, fun _ => ⟨p', h3, h4⟩⟩
theorem does_mutex (A : Asks w0 n0 r N g cap p last ws (bt [109, 117, 116, 101, 120]) W) (hm : may 4 last = true) (hl : ws.length = 0) : ask w0 n0 r N g cap p ws 4 82 W :=
  (lock_walk w0 n0 r N _ p (atOf last) W A.rd A.lim).mono fun e w' ⟨h1, h2, p', h3, h4⟩ => by
    obtain rfl := List.eq_nil_of_length_eq_zero hl
    exact ⟨h1, h2, fun _ => ⟨p', h3, h4⟩⟩
theorem does_var (A : Asks w0 n0 r N g cap p last ws (bt [118, 97, 114]) W) (hm : may 2 last = true) (hl : ws.length = 1) : ask w0 n0 r N g cap p ws 2 81 W := by
  obtain ⟨x, rfl⟩ := one_of hl
  obtain ⟨v1, v2⟩ := vals1 110 x.data.toList
  refine (variable_walk w0 n0 r N g cap p (atOf last) W _ x A.rd A.ws' A.ap (A.sz x (by simp)) A.cap' A.lim).mono fun e w' ⟨h1, h2, p', h3, h4⟩ => ⟨by rw [h1]; exact congrArg (fun z => Ending.returned (.int .i64 z)) v1.symm, h2, fun q => ⟨p', ?_, ?_⟩⟩
  · rw [h3, show ((bt [118, 97, 114]).toList == [97, 116, 111, 109, 105, 99]) = false from by rw [ByteArray.toList_eq]; rfl]
    show _ = taken p.bare 2 0 (vals [110] [x.data.toList]).1
    rw [v2 q]
    rfl
  · rw [at_of hm] at h4
    exact h4
theorem does_atomic (A : Asks w0 n0 r N g cap p last ws (bt [97, 116, 111, 109, 105, 99]) W) (hm : may 3 last = true) (hl : ws.length = 1) : ask w0 n0 r N g cap p ws 3 81 W := by
  obtain ⟨x, rfl⟩ := one_of hl
  obtain ⟨v1, v2⟩ := vals1 110 x.data.toList
  refine (variable_walk w0 n0 r N g cap p (atOf last) W _ x A.rd A.ws' A.ap (A.sz x (by simp)) A.cap' A.lim).mono fun e w' ⟨h1, h2, p', h3, h4⟩ => ⟨by rw [h1]; exact congrArg (fun z => Ending.returned (.int .i64 z)) v1.symm, h2, fun q => ⟨p', ?_, ?_⟩⟩
  · rw [h3, show ((bt [97, 116, 111, 109, 105, 99]).toList == [97, 116, 111, 109, 105, 99]) = true from by rw [ByteArray.toList_eq]; rfl]
    show _ = taken p.bare 3 0 (vals [110] [x.data.toList]).1
    rw [v2 q]
    rfl
  · rw [at_of hm] at h4
    exact h4
theorem does_chan (A : Asks w0 n0 r N g cap p last ws (bt [99, 104, 97, 110]) W) (hm : may 5 last = true) (hl : ws.length = 1) : ask w0 n0 r N g cap p ws 5 83 W := by
  obtain ⟨x, rfl⟩ := one_of hl
  obtain ⟨v1, v2⟩ := vals1 78 x.data.toList
  refine (channel_walk w0 n0 r N g cap p (atOf last) W _ x A.rd A.ws' (A.sz x (by simp)) A.cap' A.lim).mono fun e w' ⟨h1, h2, p', h3, h4⟩ => ⟨by rw [h1]; exact congrArg (fun z => Ending.returned (.int .i64 z)) v1.symm, h2, fun q => ⟨p', ?_, h4⟩⟩
  rw [h3]
  show _ = taken p.bare 5 0 (vals [78] [x.data.toList]).1
  rw [v2 q]
  rfl
theorem does_func (A : Asks w0 n0 r N g cap p last ws (bt [102, 117, 110, 99]) W) (hm : may 6 last = true) (hl : ws.length = 2) : ask w0 n0 r N g cap p ws 6 85 W := by
  obtain ⟨x, y, rfl⟩ := two_of hl
  obtain ⟨v1, v2⟩ := vals2 78 78 x.data.toList y.data.toList
  refine (function_walk w0 n0 r N g cap p (atOf last) W _ x y A.rd A.ws' (A.sz x (by simp)) (A.sz y (by simp)) A.cap' A.lim).mono fun e w' ⟨h1, h2, h3⟩ => ⟨by rw [h1]; exact congrArg (fun z => Ending.returned (.int .i64 z)) v1.symm, h2, fun q => ?_⟩
  have q' : (vals [78, 78] [x.data.toList, y.data.toList]).2 = 0 := q
  have hx : (sml x.data.toList).2 = 0 := by
    rw [v1] at q'
    by_cases z : (val 78 x.data.toList).2 = 0
    · exact z
    · rw [if_pos z] at q'; exact absurd q' z
  obtain ⟨p', h4, h5⟩ := h3 hx
  refine ⟨p', ?_, h5⟩
  rw [h4]
  show _ = taken p.bare 6 0 (vals [78, 78] [x.data.toList, y.data.toList]).1
  rw [v2 q']
  rfl
theorem does_choose (A : Asks w0 n0 r N g cap p last ws (bt [99, 104, 111, 111, 115, 101]) W) (hm : may 7 last = true) (hl : ws.length = 1) : ask w0 n0 r N g cap p ws 7 87 W := by
  obtain ⟨x, rfl⟩ := one_of hl
  obtain ⟨v1, v2⟩ := vals1 84 x.data.toList
  have hm' := hm
  rw [mayIs_7, decide_eq_true_eq] at hm'
  obtain ⟨fs, f, hp, _⟩ := A.inv.funcs hm'.1
  refine (choose_walk w0 n0 r N g cap p (atOf last) W _ x A.rd fs f hp A.ws' (A.sz x (by simp)) A.cap' A.lim).mono fun e w' ⟨h1, h2, p', h3, h4⟩ => ⟨by rw [h1]; exact congrArg (fun z => Ending.returned (.int .i64 z)) v1.symm, h2, fun q => ⟨p', ?_, ?_⟩⟩
  · rw [h3]
    show _ = taken p.bare 7 0 (vals [84] [x.data.toList]).1
    rw [v2 q]
    rfl
  · rw [at_four hm] at h4
    exact h4
theorem does_onsend (A : Asks w0 n0 r N g cap p last ws (bt [111, 110, 115, 101, 110, 100]) W) (hm : may 8 last = true) (hl : ws.length = 3) : ask w0 n0 r N g cap p ws 8 89 W := by
  obtain ⟨x, y, z, rfl⟩ := three_of hl
  obtain ⟨v1, v2⟩ := vals3 99 114 116 x.data.toList y.data.toList z.data.toList
  have hm' := hm
  rw [mayIs_8, decide_eq_true_eq] at hm'
  obtain ⟨fs, f, hp, _, h9⟩ := A.inv.funcs (by omega)
  obtain ⟨ss, s, hs⟩ := h9 hm'
  refine (onCase_walk w0 n0 r N g cap p (atOf last) W _ x y z A.rd fs f hp ss s hs A.ws' (A.sz x (by simp)) (A.sz y (by simp)) (A.sz z (by simp)) A.cap' A.lim true (by rw [ByteArray.toList_eq]; rfl)).mono fun e w' ⟨h1, h2, h3⟩ => ⟨by rw [h1]; exact congrArg (fun z => Ending.returned (.int .i64 z)) v1.symm, h2, fun q => ?_⟩
  obtain ⟨p', h4, h5⟩ := h3 (v1.symm.trans q)
  refine ⟨p', ?_, ?_⟩
  · rw [h4]
    show _ = taken p.bare 8 0 (vals [99, 114, 116] [x.data.toList, y.data.toList, z.data.toList]).1
    rw [v2 q]
    rfl
  · rw [at_case hm] at h5
    exact h5
theorem does_onrecv (A : Asks w0 n0 r N g cap p last ws (bt [111, 110, 114, 101, 99, 118]) W) (hm : may 9 last = true) (hl : ws.length = 3) : ask w0 n0 r N g cap p ws 9 89 W := by
  obtain ⟨x, y, z, rfl⟩ := three_of hl
  obtain ⟨v1, v2⟩ := vals3 99 111 116 x.data.toList y.data.toList z.data.toList
  have hm' := hm
  rw [mayIs_9, decide_eq_true_eq] at hm'
  obtain ⟨fs, f, hp, _, h9⟩ := A.inv.funcs (by omega)
  obtain ⟨ss, s, hs⟩ := h9 hm'
  refine (onCase_walk w0 n0 r N g cap p (atOf last) W _ x y z A.rd fs f hp ss s hs A.ws' (A.sz x (by simp)) (A.sz y (by simp)) (A.sz z (by simp)) A.cap' A.lim false (by rw [ByteArray.toList_eq]; rfl)).mono fun e w' ⟨h1, h2, h3⟩ => ⟨by rw [h1]; exact congrArg (fun z => Ending.returned (.int .i64 z)) v1.symm, h2, fun q => ?_⟩
  obtain ⟨p', h4, h5⟩ := h3 (v1.symm.trans q)
  refine ⟨p', ?_, ?_⟩
  · rw [h4]
    show _ = taken p.bare 9 0 (vals [99, 111, 116] [x.data.toList, y.data.toList, z.data.toList]).1
    rw [v2 q]
    rfl
  · rw [at_case (last := last) (by rw [mayIs_8]; rw [mayIs_9] at hm; exact hm)] at h5
    exact h5
theorem inSel_may {w0 : World} {n0 r N : Nat} (p : Pg) (last : Nat) (hI : Inv p last) (K : Nat) (W : World) (R : Rd w0 n0 r N p (atOf last) W) (hN : N ≤ 1000000) (hK : K = 8 ∨ K = 9) :
    Calls Tryz.prog 88 #[.pointer (some ⟨r, 0, none⟩)] W fun e w' => e = .returned (.bool (may K last)) ∧ Below W.heap.size W w' := by
  have hmK : may K last = decide (7 ≤ last ∧ last ≤ 9) := by rcases hK with rfl | rfl; exact mayIs_8 last; exact mayIs_9 last
  rw [hmK]
  by_cases h4 : atOf last = 4
  · have hl : 6 ≤ last ∧ last ≤ 9 := by
      have := may_7 last
      rw [mayIs_7, decide_eq_decide] at this
      exact this.1 h4
    obtain ⟨fs, f, hp, h6, h9⟩ := hI.funcs hl.1
    rw [h4] at R
    refine (inSel_walk w0 n0 r N p W R fs f hp hN).mono fun e w' ⟨h1, h2⟩ => ⟨?_, h2⟩
    rw [h1]
    by_cases hz : last = 6
    · rw [h6 hz, decide_eq_false (by simp), decide_eq_false (by omega)]
    · obtain ⟨ss, s, hs⟩ := h9 (by omega)
      rw [hs, decide_eq_true (by simp), decide_eq_true (by omega)]
  · have hl : ¬ (7 ≤ last ∧ last ≤ 9) := fun q => h4 (at_case (by rw [mayIs_8]; exact decide_eq_true q))
    rw [decide_eq_false hl]
    exact inSel_no w0 n0 r N p (atOf last) W R h4
end Go.Proofs.YtlhhmlfcodmebaaGreatDoor.Pg
