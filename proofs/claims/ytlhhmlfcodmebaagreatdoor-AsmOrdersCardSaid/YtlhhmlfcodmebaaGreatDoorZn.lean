/- Several texts of one proof, one behind the other. The library's iterator over a text's lines, walked: whatever a round keeps. No condition. | A line's end taken off, walked. The conditions: none. | A range over a text's lines, in the walk: what the loop keeps may speak of the iterator's own cell. No condition. -/
import Derived.Test.YtlhhmlfcodmebaaGreatDoorZShelfW
import Derived.Test.YtlhhmlfcodmebaaGreatDoorZa
import Derived.Test.YtlhhmlfcodmebaaGreatDoorZh
import Derived.RangeFuncNested
import Derived.RangeFuncBound
import Derived.RangeFuncCalls
import Derived.RangeFuncLeaves
import Derived.Shelf.Abstract
import Derived.Shelf.RegionOpen
import Derived.WalkKit
import Derived.OwnWalkIn
import Derived.TacticsInMore
import Derived.LoopNIn
import Derived.LoopIn
import Derived.Lib.Hide
namespace Go.Proofs.YtlhhmlfcodmebaaGreatDoor.Ln
set_option linter.unusedVariables false
set_option linter.unusedSimpArgs false
open Go.RowKit Go.Shelf
open Go.Proofs.YtlhhmlfcodmebaaGreatDoor.Pg (Blk)
attribute [local go_sem] Oper.semAt_some
set_option linter.unusedVariables false
set_option linter.unusedSimpArgs false
/-- A line, its end with it, and what is left. -/
def cutLine (r : ByteArray) : ByteArray × ByteArray :=
  if 0 ≤ Lib.indexByte r.data.toList 10 then (r.extract 0 ((Lib.indexByte r.data.toList 10).toNat + 1), r.extract ((Lib.indexByte r.data.toList 10).toNat + 1) r.size) else (r, ⟨#[]⟩)
noncomputable def boxLen (b : Nat) (W : World) : Nat := match W.cell? ⟨b, 0, none⟩ with
  | some (.string s) => s.size
  | _ => 0
theorem boxLen_eq {b : Nat} {W : World} {s : ByteArray} (h : W.cell? ⟨b, 0, none⟩ = some (.string s)) : boxLen b W = s.size := by
  unfold boxLen; rw [h]
theorem index_lt : ∀ (l : List UInt8) (k : Nat), Lib.indexByte l 10 = (k : Int) → k < l.length
  | [], k, h => by unfold Lib.indexByte at h; omega
  | c :: l, k, h => by
    unfold Lib.indexByte at h
    have hg := Lib.indexByte_ge l 10
    rw [List.length_cons]
    split at h
    · omega
    · split at h
      · omega
      · next h2 =>
        have hne : Lib.indexByte l 10 ≠ -1 := fun e => h2 (by rw [e]; rfl)
        have := index_lt l (k - 1) (by omega)
        omega
set_option maxHeartbeats 4000000 in
set_option maxRecDepth 100000 in
theorem lines_in (n : Nat) (hn : 1 ≤ n) (l Bn : Nat) (J : ByteArray → World → Prop) (Jx : World → Prop)
    (hcell : ∀ r W, J r W → W.cell? ⟨Bn, 0, none⟩ = some (.string r) ∧ (∀ o, W.frozen? ⟨Bn, o, none⟩ = false) ∧ r.size ≤ 65536)
    (hY : ∀ r W, J r W → 0 < r.size → ∀ W1, (W1 = W.setCell ⟨Bn, 0, none⟩ (.string (cutLine r).2) ∨ W1 = (W.setCell ⟨Bn, 0, none⟩ (.string (cutLine r).2)).drew) →
      YieldAt Fence.wide (n - 1) Tryz.prog l #[.string (cutLine r).1] W1 fun e W' => (e = .returned (.bool true) ∧ J (cutLine r).2 W' ∧ (cutLine r).2.size < r.size) ∨ (e = .returned (.bool false) ∧ Jx W'))
    (r0 : ByteArray) (W : World) (h0 : J r0 W) :
    CallsIn Fence.wide n Tryz.prog 50 #[.func (.yield l) #[] #[], .pointer (some ⟨Bn, 0, none⟩)] W fun e W' => (∃ v, e = .returned v) ∧ (J ⟨#[]⟩ W' ∨ Jx W') := by
  refine callsIn_of_wp Tryz.func50 rfl trivial ?_ rfl
  simp only [Tryz.ntmps50, List.size_toArray, List.length_cons, List.length_nil, Nat.reduceAdd, Nat.reduceSub, Array.replicate_succ, Array.replicate_zero, List.push_toArray, List.append_toArray, List.nil_append, List.cons_append]
  gi_wp2
  gi_loopw [3] (fun q wr => ∃ r, J r wr) (fun q wr => boxLen Bn wr)
  case atStart => exact ⟨r0, h0⟩
  case round =>
    obtain ⟨r, hJ⟩ := hrel
    obtain ⟨hc, hf, hs⟩ := hcell r wr hJ
    by_cases hpos : 0 < r.size
    · have hpi : (0 : Int) < (r.size : Int) := by omega
      have hI := fun w => Tryz.strings_IndexByte r 10 w
      rw [show (10 : Int).toNat.toUInt8 = 10 from rfl] at hI
      have hY1 := hY r wr hJ hpos _ (.inl rfl)
      have hY2 := hY r wr hJ hpos _ (.inr rfl)
      have hge := Lib.indexByte_ge r.data.toList 10
      unfold cutLine at hY1 hY2
      by_cases hi : 0 ≤ Lib.indexByte r.data.toList 10
      · obtain ⟨k, hk⟩ : ∃ k : Nat, Lib.indexByte r.data.toList 10 = (k : Int) := ⟨(Lib.indexByte r.data.toList 10).toNat, by omega⟩
        have hlt : k < r.size := by
          have := index_lt r.data.toList k hk
          rwa [Array.length_toList] at this
        rw [hk] at hI hY1 hY2
        simp only [Int.toNat_natCast] at hY1 hY2
        rw [if_pos (by omega)] at hY1 hY2
        obtain ⟨fn1, tm1, as1, bd1, hy1, hR1⟩ := hY1
        obtain ⟨fn2, tm2, as2, bd2, hy2, hR2⟩ := hY2
        replace hI := Lib.hid hI
        replace hR1 := Lib.hid hR1
        replace hR2 := Lib.hid hR2
        have hkt : ((k : Int) + 1).toNat = k + 1 := by omega
        have hkl : (k : Int) + 1 ≤ (r.size : Int) := by omega
        clear hge hi hk
        dsimp only at hy1 hy2
        gi_wp2_with (refine ⟨trivial, ?_⟩; gi_at_call 51; refine (callsIn_wide.2 (hI.out _)).mono ?_; rintro e w' ⟨rfl, hW⟩; have hW' := hW.symm; subst hW')
        refine wpIn_wide.2 ?_
        go_region
        all_goals gi_wp2
        refine hR2.out.mono ?_
        rintro e W' (⟨rfl, hJ', hsz⟩ | ⟨rfl, hx⟩)
        · gi_wp2
          go_roundw
          case rel => exact ⟨_, hJ'⟩
          case measure => rw [boxLen_eq (hcell _ _ hJ').1, boxLen_eq hc]; exact hsz
        · gi_wp2
          refine bodyPost_ret (results_none rfl _ _ _) rfl ?_
          exact ⟨⟨_, rfl⟩, .inr hx⟩
      · rw [if_neg hi] at hY1
        obtain ⟨fn1, tm1, as1, bd1, hy1, hR1⟩ := hY1
        have hm1 : Lib.indexByte r.data.toList 10 = -1 := by omega
        rw [hm1] at hI
        replace hI := Lib.hid hI
        replace hR1 := Lib.hid hR1
        clear hge hi hm1 hY2
        dsimp only at hy1
        gi_wp2_with (refine ⟨trivial, ?_⟩; gi_at_call 51; refine (callsIn_wide.2 (hI.out _)).mono ?_; rintro e w' ⟨rfl, hW⟩; have hW' := hW.symm; subst hW')
        refine hR1.out.mono ?_
        rintro e W' (⟨rfl, hJ', hsz⟩ | ⟨rfl, hx⟩)
        · gi_wp2
          go_roundw
          case rel => exact ⟨_, hJ'⟩
          case measure => rw [boxLen_eq (hcell _ _ hJ').1, boxLen_eq hc]; exact hsz
        · gi_wp2
          refine bodyPost_ret (results_none rfl _ _ _) rfl ?_
          exact ⟨⟨_, rfl⟩, .inr hx⟩
    · obtain rfl : r = ⟨#[]⟩ := by
        cases r with
        | mk d =>
          have : d.size = 0 := by simpa [ByteArray.size] using hpos
          rw [Array.eq_empty_of_size_eq_zero this]
      gi_wp2
      go_end0
      exact ⟨⟨_, rfl⟩, .inl hJ⟩
end Go.Proofs.YtlhhmlfcodmebaaGreatDoor.Ln
namespace Go.Proofs.YtlhhmlfcodmebaaGreatDoor.Ln
set_option linter.unusedVariables false
set_option linter.unusedSimpArgs false
open Go.RowKit Go.WideShapes Go.ChangeShapes
open Go.Proofs.YtlhhmlfcodmebaaGreatDoor.Pg (lns)
set_option linter.unusedVariables false
set_option linter.unusedSimpArgs false
theorem ext_last (s : ByteArray) (k : Nat) (h : s.size = k + 1) : (s.extract k s.size).data.toList = s.data.toList.drop k := by
  rw [ByteArray.data_extract, Array.toList_extract, List.extract_eq_take_drop, List.take_of_length_le]
  rw [List.length_drop, Array.length_toList]
  exact Nat.le_refl _
theorem drop_last {l : List UInt8} (k : Nat) (h : l.length = k + 1) : ∃ x, l.drop k = [x] ∧ l.getLast? = some x ∧ l.take k = l.dropLast := by
  rcases List.eq_nil_or_concat l with rfl | ⟨m, x, rfl⟩
  · cases h
  · have hm : m.length = k := by simpa using h
    subst hm
    refine ⟨x, ?_, ?_, ?_⟩ <;> simp
theorem ext_front (s : ByteArray) (k : Nat) (h : s.size = k + 1) : (s.extract 0 k).data.toList = s.data.toList.take k := by
  rw [ByteArray.data_extract, Array.toList_extract, List.extract_eq_take_drop, List.drop_zero]
  rfl
set_option maxHeartbeats 8000000 in
set_option maxRecDepth 100000 in
theorem hasSuffix_walk (s : ByteArray) (hs : s.size ≤ 65536) (w : World) : Calls Tryz.prog 76 #[.string s, .string ⟨#[10]⟩] w fun e w' => e = .returned (.bool (decide (s.data.toList.getLast? = some 10))) ∧ w' = w := by
  by_cases h0 : s.size = 0
  · have e : decide (s.data.toList.getLast? = some 10) = false := by rw [Go.Proofs.YtlhhmlfcodmebaaGreatDoor.Wd.head_nil s h0]; rfl
    rw [e]
    clear e
    have g : ¬ (1 : Int) ≤ (s.size : Int) := by omega
    go_enter Tryz.func76, Tryz.ntmps76
    go_wp2
    go_ret
    exact ⟨rfl, rfl⟩
  · obtain ⟨k, hk⟩ : ∃ k, s.size = k + 1 := ⟨s.size - 1, by omega⟩
    have hq : ((s.extract k s.size).toList == [10]) = decide (s.data.toList.getLast? = some 10) := by
      obtain ⟨x, h1, h2, _⟩ := drop_last (l := s.data.toList) k (by rw [Array.length_toList]; exact hk)
      rw [ByteArray.toList_eq, ext_last s k hk, h1, h2]
      simp [Bool.beq_eq_decide_eq]
    generalize decide (s.data.toList.getLast? = some 10) = b at *
    have g : (1 : Int) ≤ (s.size : Int) := by omega
    have g1 : (s.size : Int) - 1 = (k : Int) := by omega
    have g2 : k ≤ s.size := by omega
    have g3 : (k : Int) ≤ 65536 := by omega
    clear hk h0
    go_enter Tryz.func76, Tryz.ntmps76
    go_wp2
    go_ret
    exact ⟨rfl, rfl⟩
/-- A line without its end. -/
def trim (l : List UInt8) : List UInt8 := if l.getLast? = some 10 then l.dropLast else l
set_option maxHeartbeats 8000000 in
set_option maxRecDepth 100000 in
theorem trim0_walk (s : ByteArray) (hs : s.size ≤ 65536) (w : World) : Calls Tryz.prog 52 #[.string s, .string ⟨#[10]⟩] w fun e w' => (∃ t, e = .returned (.string t) ∧ t.data.toList = trim s.data.toList ∧ t.size ≤ s.size) ∧ w' = w := by
  have cH := Lib.hid (hasSuffix_walk s hs w)
  unfold trim
  by_cases hd : s.data.toList.getLast? = some 10
  · rw [decide_eq_true hd] at cH
    rw [if_pos hd]
    obtain ⟨k, hk⟩ : ∃ k, s.size = k + 1 := by
      refine ⟨s.size - 1, ?_⟩
      have : s.size ≠ 0 := fun q => by rw [Go.Proofs.YtlhhmlfcodmebaaGreatDoor.Wd.head_nil s q] at hd; cases hd
      omega
    have ht : (s.extract 0 k).data.toList = s.data.toList.dropLast := by
      obtain ⟨x, _, _, h3⟩ := drop_last (l := s.data.toList) k (by rw [Array.length_toList]; exact hk)
      rw [ext_front s k hk, h3]
    replace ht := Lib.hid ht
    have g1 : (s.size : Int) - 1 = (k : Int) := by omega
    have g2 : k ≤ s.size := by omega
    have g3 : (k : Int) ≤ 65536 := by omega
    clear hk hd
    go_enter Tryz.func52, Tryz.ntmps52
    go_wp2_with ((go_at_call 76; ((with_reducible refine (cH.out).mono ?_); rintro e w' ⟨rfl, rfl⟩)))
    go_ret
    exact ⟨⟨_, rfl, ht.out, by simp only [ByteArray.size_extract]; omega⟩, rfl⟩
  · rw [decide_eq_false hd] at cH
    rw [if_neg hd]
    clear hd
    go_enter Tryz.func52, Tryz.ntmps52
    go_wp2_with ((go_at_call 76; ((with_reducible refine (cH.out).mono ?_); rintro e w' ⟨rfl, rfl⟩)))
    go_ret
    exact ⟨⟨_, rfl, rfl, Nat.le_refl _⟩, rfl⟩
set_option maxHeartbeats 8000000 in
set_option maxRecDepth 100000 in
theorem trim_walk (s : ByteArray) (hs : s.size ≤ 65536) (w : World) : Calls Tryz.prog 24 #[.string s, .string ⟨#[10]⟩] w fun e w' => (∃ t, e = .returned (.string t) ∧ t.data.toList = trim s.data.toList ∧ t.size ≤ s.size) ∧ w' = w := by
  have cH := Lib.hid (trim0_walk s hs w)
  go_enter Tryz.func24, Tryz.ntmps24
  go_wp2_with ((go_at_call 52; ((with_reducible refine (cH.out).mono ?_); rintro e w' ⟨⟨t, rfl, ht⟩, rfl⟩)))
  go_ret
  exact ⟨⟨t, rfl, ht⟩, rfl⟩
/-! ## Lines, plainly -/
theorem lns_index : ∀ (l cur : List UInt8), lns l cur = if 0 ≤ Lib.indexByte l 10 then (cur ++ l.take (Lib.indexByte l 10).toNat) :: lns (l.drop ((Lib.indexByte l 10).toNat + 1)) [] else if cur ++ l = [] then [] else [cur ++ l]
  | [], cur => by simp [lns, Lib.indexByte]
  | c :: l, cur => by
    have hg := Lib.indexByte_ge l 10
    have ih := lns_index l (cur ++ [c])
    unfold Lib.indexByte
    rw [lns]
    by_cases h : c = 10
    · subst h
      simp
    · rw [if_neg h, ih]
      have h' : ¬ (c == 10) = true := by simpa using h
      by_cases hi : Lib.indexByte l 10 = -1
      · rw [hi]
        simp [h]
      · obtain ⟨k, hk⟩ : ∃ k : Nat, Lib.indexByte l 10 = (k : Int) := ⟨(Lib.indexByte l 10).toNat, by omega⟩
        rw [hk]
        have e1 : ((k : Int) + 1).toNat = k + 1 := by omega
        have f1 : (if (c == 10) = true then (0 : Int) else if ((k : Int) == -1) = true then -1 else (k : Int) + 1) = ((k + 1 : Nat) : Int) := by
          rw [if_neg h', if_neg (by simp)]; rfl
        rw [f1, if_pos (by omega), if_pos (by omega), Int.toNat_natCast, Int.toNat_natCast]
        simp
theorem index_at : ∀ (l : List UInt8) (k : Nat), Lib.indexByte l 10 = (k : Int) → l[k]? = some 10
  | [], k, h => by unfold Lib.indexByte at h; omega
  | c :: l, k, h => by
    unfold Lib.indexByte at h
    have hg := Lib.indexByte_ge l 10
    by_cases hc : (c == 10) = true
    · rw [if_pos hc] at h
      obtain rfl : k = 0 := by omega
      rw [eq_of_beq hc]
      rfl
    · rw [if_neg hc] at h
      by_cases h2 : (Lib.indexByte l 10 == -1) = true
      · rw [if_pos h2] at h; omega
      · rw [if_neg h2] at h
        have hne : Lib.indexByte l 10 ≠ -1 := fun e => h2 (by rw [e]; rfl)
        obtain ⟨j, rfl⟩ : ∃ j, k = j + 1 := ⟨k - 1, by omega⟩
        exact index_at l j (by omega)
theorem index_mem : ∀ (l : List UInt8), 10 ∈ l → 0 ≤ Lib.indexByte l 10
  | [], h => by cases h
  | c :: l, h => by
    unfold Lib.indexByte
    have hg := Lib.indexByte_ge l 10
    by_cases hc : (c == 10) = true
    · rw [if_pos hc]; decide
    · rw [if_neg hc]
      have : 10 ∈ l := by
        rcases List.mem_cons.1 h with e | e
        · exact absurd (by rw [← e]; rfl) hc
        · exact e
      have ih := index_mem l this
      rw [if_neg (by simp; omega)]
      omega
theorem lns_cut (r : ByteArray) (h : 0 < r.size) : lns r.data.toList [] = trim (cutLine r).1.data.toList :: lns (cutLine r).2.data.toList [] := by
  have hl : r.data.toList.length = r.size := Array.length_toList ..
  rw [lns_index]
  unfold cutLine
  have hg := Lib.indexByte_ge r.data.toList 10
  by_cases hi : 0 ≤ Lib.indexByte r.data.toList 10
  · obtain ⟨k, hk⟩ : ∃ k : Nat, Lib.indexByte r.data.toList 10 = (k : Int) := ⟨(Lib.indexByte r.data.toList 10).toNat, by omega⟩
    have hlt := index_lt r.data.toList k hk
    rw [if_pos hi, if_pos hi, hk, Int.toNat_natCast, List.nil_append]
    have e1 : (r.extract 0 (k + 1)).data.toList = r.data.toList.take (k + 1) := by
      rw [ByteArray.data_extract, Array.toList_extract, List.extract_eq_take_drop, List.drop_zero]; rfl
    have e2 : (r.extract (k + 1) r.size).data.toList = r.data.toList.drop (k + 1) := by
      rw [ByteArray.data_extract, Array.toList_extract, List.extract_eq_take_drop, List.take_of_length_le]
      rw [List.length_drop, hl]; exact Nat.le_refl _
    show _ = trim (r.extract 0 (k + 1)).data.toList :: lns (r.extract (k + 1) r.size).data.toList []
    rw [e1, e2]
    have e3 : r.data.toList.take (k + 1) = r.data.toList.take k ++ [10] := by
      rw [List.take_add_one, List.getElem?_eq_getElem hlt]
      have := index_at r.data.toList k hk
      rw [List.getElem?_eq_getElem hlt] at this
      rw [this]
      rfl
    rw [e3]
    unfold trim
    simp
  · rw [if_neg hi, if_neg hi]
    have hn : r.data.toList ≠ [] := fun q => by rw [q] at hl; simp at hl; omega
    rw [List.nil_append, if_neg hn]
    have : r.data.toList.getLast? ≠ some 10 := fun q => hi (index_mem _ (List.mem_of_getLast? q))
    show _ = trim r.data.toList :: lns (⟨#[]⟩ : ByteArray).data.toList []
    unfold trim
    rw [if_neg this]
    rfl
/-- No word is longer than its line. -/
theorem wrd_sizes : ∀ (l w : List UInt8), ∀ x ∈ Wd.wrd l w, x.length ≤ l.length + w.length
  | [], w, x, h => by
    unfold Wd.wrd at h
    split at h
    · cases h
    · obtain rfl : x = w := by simpa using h
      simp
  | c :: l, w, x, h => by
    unfold Wd.wrd at h
    rw [List.length_cons]
    split at h
    · split at h
      · cases h
      · obtain rfl : x = w := by simpa using h
        omega
    · split at h
      · split at h
        · have := wrd_sizes l [] x h
          simp at this; omega
        · rcases List.mem_cons.1 h with rfl | h
          · omega
          · have := wrd_sizes l [] x h
            simp at this; omega
      · have := wrd_sizes l (w ++ [c]) x h
        simp at this; omega
theorem wrd_filled : ∀ (l w : List UInt8), ∀ x ∈ Wd.wrd l w, x ≠ []
  | [], w, x, h => by
    unfold Wd.wrd at h
    split at h
    · cases h
    · next hw =>
      obtain rfl : x = w := by simpa using h
      exact hw
  | c :: l, w, x, h => by
    unfold Wd.wrd at h
    split at h
    · split at h
      · cases h
      · next hw =>
        obtain rfl : x = w := by simpa using h
        exact hw
    · split at h
      · split at h
        · exact wrd_filled l [] x h
        · next hw =>
          rcases List.mem_cons.1 h with rfl | h
          · exact hw
          · exact wrd_filled l [] x h
      · exact wrd_filled l (w ++ [c]) x h
end Go.Proofs.YtlhhmlfcodmebaaGreatDoor.Ln
namespace Go.Proofs.YtlhhmlfcodmebaaGreatDoor.Ln
set_option linter.unusedVariables false
set_option linter.unusedSimpArgs false
open Go.RowKit
set_option linter.unusedVariables false
theorem cut_lt (r : ByteArray) (h : 0 < r.size) : (cutLine r).2.size < r.size := by
  unfold cutLine
  split
  · simp only [ByteArray.size_extract]
    omega
  · exact h
/-- How a round may end. -/
def linePost (I : ByteArray → World → Prop) (Ix : World → Prop) (r : ByteArray) (Wb : World) (D : Nat) : Exit → Act → World → Prop
  | .normal, _, W => W.heap[D]? = Wb.heap[D]? ∧ W.heap[D + 1]? = Wb.heap[D + 1]? ∧ I r W
  | .ret, _, W => W.heap[D]? = Wb.heap[D]? ∧ W.heap[D + 1]? = Wb.heap[D + 1]? ∧ Ix W
  | _, _, _ => False
theorem wpIn_lines {g : Operand} {q : Tmp} {assign body : Code} {Q : Exit → Act → World → Prop} {a : Act} {w : World} (n : Nat) (hn : 2 ≤ n) (Bn : Nat) (hBn : Bn < w.heap.size)
    (hg : a.eval g = .func (.func 50) #[] #[.pointer (some ⟨Bn, 0, none⟩)])
    (I : ByteArray → World → Prop) (Ix : World → Prop) (s : ByteArray)
    (hcell : ∀ r W, I r W → W.cell? ⟨Bn, 0, none⟩ = some (.string r) ∧ (∀ o, W.frozen? ⟨Bn, o, none⟩ = false) ∧ r.size ≤ 65536)
    (h0 : ∀ X, I s ((w.alloc (.deferred (some []))).alloc (.loop X)))
    (hput : ∀ r W X, I r W → I r (W.putObj (w.heap.size + 1) (.loop X))) (hputx : ∀ W X, Ix W → Ix (W.putObj (w.heap.size + 1) (.loop X)))
    (a₁ : ByteArray → Act)
    (hassign : ∀ (l : Nat) (x : ByteArray) (W : World) (K : Act → World → Prop), K (a₁ x) W → assign.wpIn (Fence.wide.inRound l) (n - 1 - 1) Tryz.prog (Exit.then K (fun _ _ _ => False)) { tmps := a.tmps.setIfInBounds q (.string x), defers := [] } W)
    (hbody : ∀ (l : Nat) (r : ByteArray) (W W1 : World), I r W → 0 < r.size → (W1 = W.setCell ⟨Bn, 0, none⟩ (.string (cutLine r).2) ∨ W1 = (W.setCell ⟨Bn, 0, none⟩ (.string (cutLine r).2)).drew) →
      ∀ X, (W1.putObj (w.heap.size + 1) (.loop X)).heap[w.heap.size]? = some (.deferred (some [])) → body.wpIn (Fence.wide.inRound l) (n - 1 - 1) Tryz.prog (linePost I Ix (cutLine r).2 (W1.putObj (w.heap.size + 1) (.loop X)) w.heap.size) (a₁ (cutLine r).1) (W1.putObj (w.heap.size + 1) (.loop X)))
    (hdone : ∀ W, I ⟨#[]⟩ W → W.heap[w.heap.size]? = some (.deferred (some [])) → Q .normal { a with defers := { target := .collected w.heap.size, args := #[] } :: a.defers } W)
    (hstop : ∀ W, Ix W → W.heap[w.heap.size]? = some (.deferred (some [])) → Code.ret.wpIn Fence.wide n Tryz.prog Q { a with defers := { target := .collected w.heap.size, args := #[] } :: a.defers } W) :
    (Code.rangeFunc g #[q] assign body).wpIn Fence.wide n Tryz.prog Q a w := by
  refine wpIn_rangeFunc ?_
  intro fn hfn
  have hassign' : ∀ (l : Nat) (x : ByteArray) (W : World) (K : Act → World → Prop) (tm : Array Value), tm = a.tmps.setIfInBounds q (.string x) → K (a₁ x) W →
      assign.wpIn (Fence.wide.inRound l) (n - 1 - 1) Tryz.prog (Exit.then K (fun _ _ _ => False)) { tmps := tm, defers := [] } W := by
    rintro l x W K tm rfl hk; exact hassign l x W K hk
  obtain ⟨rec, hrec⟩ : ∃ rec : LoopState → Option Code → Loop, rec = fun st pe => { state := st, pending := pe, fn, tmps := a.tmps, params := #[q], assign, body, defers := w.heap.size } := ⟨_, rfl⟩
  have hL1 : ((w.alloc (.deferred (some []))).alloc (.loop (rec .ready none))).heap[w.heap.size + 1]? = some (.loop (rec .ready none)) := by
    have := World.alloc_heap_new (w.alloc (.deferred (some []))) (.loop (rec .ready none)); rwa [World.size_alloc] at this
  have hK1 : ((w.alloc (.deferred (some []))).alloc (.loop (rec .ready none))).heap[w.heap.size]? = some (.deferred (some [])) :=
    (Below.heap_alloc _ _ _ (by simp)).trans (World.alloc_heap_new w _)
  have hI1 := h0 (rec .ready none)
  generalize hW1 : (w.alloc (.deferred (some []))).alloc (.loop (rec .ready none)) = W1 at *
  refine ⟨w.heap.size + 1, [{ target := .collected w.heap.size, args := #[] }], W1, { target := .fn (.func 50) #[.pointer (some ⟨Bn, 0, none⟩)], args := #[.func (.yield (w.heap.size + 1)) #[] #[]] }, W1, 50,
    #[.func (.yield (w.heap.size + 1)) #[] #[]] ++ #[.pointer (some ⟨Bn, 0, none⟩)], W1, ?_, ?_, fun _ _ => trivial, ?_, (fun h => by cases h), ?_⟩
  · rw [← hW1, hrec]; exact run_enterLoop_outer _ _ _ _ _
  · simp only [resolve, hg]
    simp [go_sem]
  · simp [invoke, go_sem]
  · refine (lines_in (n - 1) (by omega) (w.heap.size + 1) Bn
      (fun r W => I r W ∧ W.heap[w.heap.size + 1]? = some (.loop (rec .ready none)) ∧ W.heap[w.heap.size]? = some (.deferred (some [])))
      (fun W => Ix W ∧ W.heap[w.heap.size + 1]? = some (.loop (rec .done (some .ret))) ∧ W.heap[w.heap.size]? = some (.deferred (some [])))
      (fun r W h => hcell r W h.1) ?_ s W1 ⟨hI1, hL1, hK1⟩).mono ?_
    · rintro r W ⟨hi, hl, hk⟩ hpos V hV
      have hVl : V.heap[w.heap.size + 1]? = some (.loop (rec .ready none)) ∧ V.heap[w.heap.size]? = some (.deferred (some [])) := by
        have e1 := Below.heap_setCell W ⟨Bn, 0, none⟩ (.string (cutLine r).2) (w.heap.size + 1) (by simp only; omega)
        have e2 := Below.heap_setCell W ⟨Bn, 0, none⟩ (.string (cutLine r).2) w.heap.size (by simp only; omega)
        rcases hV with rfl | rfl
        · exact ⟨e1.trans hl, e2.trans hk⟩
        · exact ⟨e1.trans hl, e2.trans hk⟩
      have hlt : w.heap.size + 1 < V.heap.size := (Array.getElem?_eq_some_iff.1 hVl.1).1
      have hy := run_yield (P := Tryz.prog) (args := #[.string (cutLine r).1]) hVl.1 (by rw [hrec]; rfl)
      rw [hrec] at hy
      have hk2 : (V.putObj (w.heap.size + 1) (.loop { rec .ready none with state := .busy })).heap[w.heap.size]? = some (.deferred (some [])) := (World.putObj_heap_other (by omega)).trans hVl.2
      have hl2 : (V.putObj (w.heap.size + 1) (.loop { rec .ready none with state := .busy })).heap[w.heap.size + 1]? = some (.loop { rec .ready none with state := .busy }) := World.putObj_heap_same hlt
      refine ⟨fn, _, assign, body, hy, roundIn_of_wpIn hfn ?_⟩
      refine hassign' _ (cutLine r).1 _ _ _ (by simp) ?_
      refine ⟨_, run_beginRound hVl.1 (by rw [hrec]), ?_⟩
      refine wpIn_mono (hbody _ r W V hi hpos hV _ hk2) ?_
      have fin : ∀ (jump : Option Code) (W3 : World), W3.heap[w.heap.size]? = some (.deferred (some [])) → W3.heap[w.heap.size + 1]? = some (.loop { rec .ready none with state := .busy }) →
          (Instr.endRound (w.heap.size + 1) jump).run Tryz.prog W3 = .ok (.bool jump.isNone) (W3.putObj (w.heap.size + 1) (.loop (rec (if jump.isNone then .ready else .done) jump))) ∧
          (W3.putObj (w.heap.size + 1) (.loop (rec (if jump.isNone then .ready else .done) jump))).heap[w.heap.size + 1]? = some (.loop (rec (if jump.isNone then .ready else .done) jump)) ∧
          (W3.putObj (w.heap.size + 1) (.loop (rec (if jump.isNone then .ready else .done) jump))).heap[w.heap.size]? = some (.deferred (some [])) := fun jump W3 h1 h2 => by
        have := run_endRound (P := Tryz.prog) jump h2
        rw [hrec] at this ⊢
        exact ⟨this, World.putObj_heap_same (Array.getElem?_eq_some_iff.1 h2).1, (World.putObj_heap_other (by omega)).trans h1⟩
      rintro e a3 W3 hp
      cases e with
      | normal =>
        obtain ⟨k1, k2, hi3⟩ := hp
        obtain ⟨hr, hl4, hk4⟩ := fin none W3 (k1.trans hk2) (k2.trans hl2)
        exact ⟨_, _, hr, .inl ⟨rfl, ⟨hput _ _ _ hi3, hl4, hk4⟩, cut_lt r hpos⟩⟩
      | ret =>
        obtain ⟨k1, k2, hi3⟩ := hp
        obtain ⟨hr, hl4, hk4⟩ := fin (some .ret) W3 (k1.trans hk2) (k2.trans hl2)
        exact ⟨_, _, hr, .inr ⟨rfl, hputx _ _ hi3, hl4, hk4⟩⟩
      | exit id => exact hp.elim
      | goto t => exact hp.elim
      | panic ch => exact hp.elim
      | outgrown => exact hp.elim
    · rintro e W2 ⟨⟨v, rfl⟩, (⟨hi, hl, hk⟩ | ⟨hi, hl, hk⟩)⟩
      · exact ⟨none, _, by have := run_endLoop (P := Tryz.prog) hl (by rw [hrec]; simp); rw [hrec] at this; exact this, hdone _ (hput _ _ _ hi) ((World.putObj_heap_other (by omega)).trans hk)⟩
      · exact ⟨some .ret, _, by have := run_endLoop (P := Tryz.prog) hl (by rw [hrec]; simp); rw [hrec] at this; exact this, hstop _ (hputx _ _ hi) ((World.putObj_heap_other (by omega)).trans hk)⟩
theorem wpIn_lines' {g : Operand} {q : Tmp} {assign body : Code} {Q : Exit → Act → World → Prop} {a : Act} {w : World} (n : Nat) (hn : 2 ≤ n) (Bn D : Nat) (v : Tmp) (hD : w.heap.size = D) (hBn : Bn < D)
    (hg : a.eval g = .func (.func 50) #[] #[.pointer (some ⟨Bn, 0, none⟩)])
    (I : ByteArray → World → Prop) (Ix : World → Prop) (s : ByteArray)
    (hcell : ∀ r W, I r W → W.cell? ⟨Bn, 0, none⟩ = some (.string r) ∧ (∀ o, W.frozen? ⟨Bn, o, none⟩ = false) ∧ r.size ≤ 65536)
    (h0 : ∀ X, I s ((w.alloc (.deferred (some []))).alloc (.loop X)))
    (hput : ∀ r W X, I r W → I r (W.putObj (D + 1) (.loop X))) (hputx : ∀ W X, Ix W → Ix (W.putObj (D + 1) (.loop X)))
    (hassign : ∀ (l : Nat) (x : ByteArray) (W : World) (K : Act → World → Prop), K { tmps := (a.tmps.setIfInBounds q (.string x)).setIfInBounds v (.string x), defers := [] } W → assign.wpIn (Fence.wide.inRound l) (n - 1 - 1) Tryz.prog (Exit.then K (fun _ _ _ => False)) { tmps := a.tmps.setIfInBounds q (.string x), defers := [] } W)
    (hbody : ∀ (l : Nat) (r : ByteArray) (W W1 : World), I r W → 0 < r.size → (W1 = W.setCell ⟨Bn, 0, none⟩ (.string (cutLine r).2) ∨ W1 = (W.setCell ⟨Bn, 0, none⟩ (.string (cutLine r).2)).drew) →
      ∀ X, (W1.putObj (D + 1) (.loop X)).heap[D]? = some (.deferred (some [])) → body.wpIn (Fence.wide.inRound l) (n - 1 - 1) Tryz.prog (linePost I Ix (cutLine r).2 (W1.putObj (D + 1) (.loop X)) D) { tmps := (a.tmps.setIfInBounds q (.string (cutLine r).1)).setIfInBounds v (.string (cutLine r).1), defers := [] } (W1.putObj (D + 1) (.loop X)))
    (hdone : ∀ W, I ⟨#[]⟩ W → W.heap[D]? = some (.deferred (some [])) → Q .normal { a with defers := { target := .collected D, args := #[] } :: a.defers } W)
    (hstop : ∀ W, Ix W → W.heap[D]? = some (.deferred (some [])) → Code.ret.wpIn Fence.wide n Tryz.prog Q { a with defers := { target := .collected D, args := #[] } :: a.defers } W) :
    (Code.rangeFunc g #[q] assign body).wpIn Fence.wide n Tryz.prog Q a w := by
  subst hD
  exact wpIn_lines n hn Bn hBn hg I Ix s hcell h0 hput hputx _ hassign hbody hdone hstop
end Go.Proofs.YtlhhmlfcodmebaaGreatDoor.Ln
