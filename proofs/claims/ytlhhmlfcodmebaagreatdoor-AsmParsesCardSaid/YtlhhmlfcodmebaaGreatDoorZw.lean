/- Several texts of one proof, one behind the other. The reference's names of operations, and the kind of a line by its first word, walked. No condition but that the word is not empty. | The kind of a line by its first word, walked (the reference). The condition: the word is not empty. -/
import Derived.Test.YtlhhmlfcodmebaaGreatDoorZh
import Derived.Test.YtlhhmlfcodmebaaGreatDoorZPc
import Derived.Test.YtlhhmlfcodmebaaGreatDoorZVn
namespace Go.Proofs.YtlhhmlfcodmebaaGreatDoor.Wd
set_option linter.unusedVariables false
set_option linter.unusedSimpArgs false
open Go.RowKit Go.WideShapes Go.ChangeShapes
open Go.Proofs.YtlhhmlfcodmebaaGreatDoor.Pg (Env Blk names idx opAt opName fixed)
set_option linter.unusedVariables false
set_option linter.unusedSimpArgs false
def row3 : Array Value := (((names.drop 1).take 36).map fun l => Value.string (bt l)).toArray
def row4 : Array Value := ((names.drop 40).map fun l => Value.string (bt l)).toArray
def row5 : Array Value := (fixed.map fun l => Value.string (bt l)).toArray
theorem row4_lit : row4 = #[.string ⟨#[99, 111, 110, 115, 116]⟩, .string ⟨#[109, 111, 118, 101]⟩, .string ⟨#[106, 117, 109, 112]⟩, .string ⟨#[105, 102]⟩, .string ⟨#[97, 115, 115, 101, 114, 116]⟩, .string ⟨#[101, 110, 100]⟩, .string ⟨#[]⟩, .string ⟨#[]⟩, .string ⟨#[]⟩, .string ⟨#[]⟩, .string ⟨#[108, 111, 97, 100]⟩, .string ⟨#[115, 116, 111, 114, 101]⟩, .string ⟨#[98, 117, 109, 112]⟩, .string ⟨#[99, 97, 115]⟩, .string ⟨#[97, 119, 97, 105, 116]⟩, .string ⟨#[108, 111, 99, 107]⟩, .string ⟨#[117, 110, 108, 111, 99, 107]⟩, .string ⟨#[116, 114, 121]⟩, .string ⟨#[115, 101, 110, 100]⟩, .string ⟨#[114, 101, 99, 118]⟩, .string ⟨#[99, 108, 111, 115, 101]⟩, .string ⟨#[115, 101, 108, 101, 99, 116]⟩, .string ⟨#[115, 112, 97, 119, 110]⟩, .string ⟨#[106, 111, 105, 110]⟩, .string ⟨#[121, 105, 101, 108, 100]⟩, .string ⟨#[110, 111, 116, 101]⟩] := rfl
theorem row5_lit : row5 = #[.string ⟨#[115, 99, 97, 114, 97, 98]⟩, .string ⟨#[118, 97, 114]⟩, .string ⟨#[97, 116, 111, 109, 105, 99]⟩, .string ⟨#[109, 117, 116, 101, 120]⟩, .string ⟨#[99, 104, 97, 110]⟩, .string ⟨#[102, 117, 110, 99]⟩, .string ⟨#[99, 104, 111, 111, 115, 101]⟩, .string ⟨#[111, 110, 115, 101, 110, 100]⟩, .string ⟨#[111, 110, 114, 101, 99, 118]⟩] := rfl
theorem row3_at (k : Nat) (hk : k < 36) : row3[k]? = some (.string (bt (opName (k + 1)))) := by
  have : ∀ k, k < 36 → ((names.drop 1).take 36).getD k [] = opName (k + 1) := by decide
  rw [← this k hk]
  unfold row3
  have hl : ((names.drop 1).take 36).length = 36 := by decide
  rw [List.getElem?_toArray, List.getElem?_map, List.getD_eq_getElem?_getD, List.getElem?_eq_getElem (by omega)]
  rfl
theorem row4_at (k : Nat) (hk : k < 26) : row4[k]? = some (.string (bt (opName (k + 40)))) := by
  have : ∀ k, k < 26 → (names.drop 40).getD k [] = opName (k + 40) := by decide
  rw [← this k hk]
  unfold row4
  have hl : (names.drop 40).length = 26 := by decide
  rw [List.getElem?_toArray, List.getElem?_map, List.getD_eq_getElem?_getD, List.getElem?_eq_getElem (by omega)]
  rfl
theorem row5_at (k : Nat) (hk : k < 9) : row5[k]? = some (.string (bt (fixed.getD k []))) := by
  unfold row5
  have hl : fixed.length = 9 := by decide
  rw [List.getElem?_toArray, List.getElem?_map, List.getD_eq_getElem?_getD, List.getElem?_eq_getElem (by omega)]
  rfl
set_option maxHeartbeats 8000000 in
set_option maxRecDepth 100000 in
theorem rnames_walk (w : World) : Calls Tryz.prog 70 #[] w fun e w' => e = .returned (.slice (some ⟨w.heap.size, 0, none⟩) 36 36) ∧ w' = w.alloc (.cells row3 9) := by
  go_enter Tryz.func70, Tryz.ntmps70
  go_wp2
  go_ret
  exact ⟨rfl, rfl⟩
theorem rarity_walk (op : Nat) (w : World) (h : op ≤ 65) : Calls Tryz.prog 69 #[.int .i64 (op : Int)] w fun e w' => e = .returned (.int .i64 (if op < 1 then 0 else if op ≤ 15 then 1 else if op ≤ 36 then 2 else 0)) ∧ w' = w := by
  rcases (show op < 1 ∨ (1 ≤ op ∧ op ≤ 15) ∨ (15 < op ∧ op ≤ 36) ∨ 36 < op by omega) with h1 | ⟨h1, h2⟩ | ⟨h1, h2⟩ | h1
  · rw [if_pos h1]
    have g : (op : Int) < 1 := by omega
    go_enter Tryz.func69, Tryz.ntmps69
    go_wp2
    all_goals go_ret
    all_goals exact ⟨rfl, rfl⟩
  · rw [if_neg (by omega), if_pos h2]
    have g : (1 : Int) ≤ op := by omega
    have g2 : (op : Int) ≤ 15 := by omega
    have g3 : (op : Int) ≤ 36 := by omega
    go_enter Tryz.func69, Tryz.ntmps69
    go_wp2
    all_goals go_ret
    all_goals exact ⟨rfl, rfl⟩
  · rw [if_neg (by omega), if_neg (by omega), if_pos h2]
    have g : (1 : Int) ≤ op := by omega
    have g1 : (15 : Int) < op := by omega
    have g2 : (op : Int) ≤ 36 := by omega
    go_enter Tryz.func69, Tryz.ntmps69
    go_wp2
    all_goals go_ret
    all_goals exact ⟨rfl, rfl⟩
  · rw [if_neg (by omega), if_neg (by omega), if_neg (by omega)]
    have g : (1 : Int) ≤ op := by omega
    have g1 : (15 : Int) < op := by omega
    have g2 : (36 : Int) < (op : Int) := by omega
    go_enter Tryz.func69, Tryz.ntmps69
    go_wp2
    all_goals go_ret
    all_goals exact ⟨rfl, rfl⟩
set_option maxHeartbeats 8000000 in
set_option maxRecDepth 100000 in
theorem rname2_walk (op : Nat) (w : World) (h1 : 1 ≤ op) (h2 : op ≤ 36) : Calls Tryz.prog 40 #[.int .i64 (op : Int)] w fun e w' => e = .returned (.string (bt (opName op))) ∧ Below w.heap.size w w' := by
  have cN := Lib.hid (fun W => rnames_walk W)
  have cR := Lib.hid (fun W => rarity_walk op W (by omega))
  rw [if_neg (by omega)] at cR
  have hc := row3_at (op - 1) (by omega)
  rw [show op - 1 + 1 = op by omega] at hc
  have E0 : Env w [(w.heap.size, row3)] (w.alloc (.cells row3 9)) := Env.nil.push _ rfl _ _
  have hc2 := (E0.h0.cell (op - 1)).trans hc
  have g1 : (1 : Int) ≤ op := by omega
  have g36 : (op : Int) ≤ 36 := by omega
  clear hc
  generalize bt (opName op) = x at *
  by_cases h15 : op ≤ 15
  · rw [if_pos h15] at cR
    go_enter Tryz.func40, Tryz.ntmps40
    go_wp2_with (first | (go_at_call 70; ((with_reducible refine (cN.out _).mono ?_); rintro e w' ⟨rfl, rfl⟩)) | (go_at_call 69; ((with_reducible refine (cR.out _).mono ?_); rintro e w' ⟨rfl, rfl⟩)))
    go_ret
    exact ⟨rfl, E0.acc⟩
  · rw [if_neg h15, if_pos h2] at cR
    go_enter Tryz.func40, Tryz.ntmps40
    go_wp2_with (first | (go_at_call 70; ((with_reducible refine (cN.out _).mono ?_); rintro e w' ⟨rfl, rfl⟩)) | (go_at_call 69; ((with_reducible refine (cR.out _).mono ?_); rintro e w' ⟨rfl, rfl⟩)))
    go_ret
    exact ⟨rfl, E0.acc⟩
set_option maxHeartbeats 8000000 in
set_option maxRecDepth 100000 in
theorem rname_walk (op : Nat) (w : World) (h1 : 1 ≤ op) (h2 : op ≤ 65) : Calls Tryz.prog 19 #[.int .i64 (op : Int)] w fun e w' => e = .returned (.string (bt (opName op))) ∧ Below w.heap.size w w' := by
  have g1 : (1 : Int) ≤ op := by omega
  have g65 : (op : Int) ≤ 65 := by omega
  by_cases h36 : op ≤ 36
  · have cN := Lib.hid (fun W => rname2_walk op W h1 h36)
    have g36 : (op : Int) ≤ 36 := by omega
    generalize bt (opName op) = x at *
    go_enter Tryz.func19, Tryz.ntmps19
    go_wp2_with (first | (go_at_call 40; ((with_reducible refine (cN.out _).mono ?_); rintro e w' ⟨rfl, b1⟩)))
    go_ret
    exact ⟨rfl, b1⟩
  · have g36 : (36 : Int) < (op : Int) := by omega
    have E0 : Env w [(w.heap.size, row4)] (w.alloc (.cells row4 9)) := Env.nil.push _ rfl _ _
    by_cases h40 : 40 ≤ op
    · have g40 : (40 : Int) ≤ op := by omega
      have hc := row4_at (op - 40) (by omega)
      rw [show op - 40 + 40 = op by omega] at hc
      have hc2 := (E0.h0.cell (op - 40)).trans hc
      rw [row4_lit] at hc2 E0
      clear hc
      generalize bt (opName op) = x at *
      go_enter Tryz.func19, Tryz.ntmps19
      go_wp2
      all_goals go_ret
      all_goals exact ⟨rfl, E0.acc⟩
    · have hnil : opName op = [] := by
        have : ∀ k, k < 40 → 36 < k → opName k = [] := by decide
        exact this op (by omega) (by omega)
      rw [hnil]
      rw [row4_lit] at E0
      have g40 : (op : Int) < 40 := by omega
      go_enter Tryz.func19, Tryz.ntmps19
      go_wp2
      all_goals go_ret
      all_goals exact ⟨rfl, E0.acc⟩
end Go.Proofs.YtlhhmlfcodmebaaGreatDoor.Wd
namespace Go.Proofs.YtlhhmlfcodmebaaGreatDoor.Wd
set_option linter.unusedVariables false
set_option linter.unusedSimpArgs false
open Go.RowKit Go.WideShapes Go.ChangeShapes
open Go.Proofs.YtlhhmlfcodmebaaGreatDoor.Pg (Env Blk names idx opName fixed kind opOf)
set_option linter.unusedVariables false
set_option linter.unusedSimpArgs false
theorem idx_step (s : List UInt8) (l : List (List UInt8)) (k j : Nat) (hk : k < l.length) : idx s (l.drop k) j = if l.getD k [] = s then j else idx s (l.drop (k + 1)) (j + 1) := by
  rw [List.drop_eq_getElem_cons hk, idx, List.getD_eq_getElem?_getD, List.getElem?_eq_getElem hk]
  rfl
theorem kind_first {l : List UInt8} {k : Nat} (h : idx l fixed 1 = k) (hk : k ≠ 0) : kind l = k ∧ opOf l = 0 := by
  unfold kind opOf
  rw [h, if_pos hk, if_pos hk]
  exact ⟨rfl, rfl⟩
theorem kind_op {l : List UInt8} {k : Nat} (h : idx l fixed 1 = 0) (ho : Pg.opAt l = k) (hk : k ≠ 0) : kind l = 10 ∧ opOf l = k := by
  unfold kind opOf
  simp [h, ho, hk]
theorem kind_none {l : List UInt8} (h : idx l fixed 1 = 0) (ho : Pg.opAt l = 0) : kind l = 0 ∧ opOf l = 0 := by
  unfold kind opOf
  simp [h, ho]
theorem str_eq (x : List UInt8) (s : ByteArray) : ((bt x).toList == s.toList) = decide (x = s.data.toList) := by
  rw [ByteArray.toList_eq, ByteArray.toList_eq]
  show (x == s.data.toList) = _
  by_cases h : x = s.data.toList
  · rw [decide_eq_true h, h, beq_self_eq_true]
  · rw [decide_eq_false h, beq_eq_false_iff_ne]; exact h
set_option maxHeartbeats 8000000 in
set_option maxRecDepth 100000 in
theorem rkind_walk (s : ByteArray) (w : World) (hs : s.data.toList ≠ []) : Calls Tryz.prog 28 #[.string s] w fun e w' => e = .returned (.tuple #[.int .i64 (kind s.data.toList : Nat), .int .i64 (opOf s.data.toList : Nat)]) ∧ Below w.heap.size w w' := by
  obtain ⟨kk, hkk⟩ : ∃ r, Hid (r = kind s.data.toList) := ⟨_, Lib.hid rfl⟩
  obtain ⟨oo, hoo⟩ : ∃ r, Hid (r = opOf s.data.toList) := ⟨_, Lib.hid rfl⟩
  rw [← hkk.out, ← hoo.out]
  have hl : fixed.length = 9 := by decide
  have hl6 : names.length = 66 := by decide
  have cN := Lib.hid (fun op h1 h2 W => rname_walk op W h1 h2)
  have hemp : s.toList.isEmpty = false := by
    rw [ByteArray.toList_eq]
    cases h : s.data.toList with
    | nil => exact absurd h hs
    | cons a b => rfl
  have hopa : Pg.opAt s.data.toList = idx s.data.toList (names.drop 1) 1 := by unfold Pg.opAt; rw [if_neg hs]
  have E0 : Env w [(w.heap.size, row5)] (w.alloc (.cells row5 9)) := Env.nil.push _ rfl _ _
  have hr5 := fun k hk => (E0.h0.cell k).trans (row5_at k hk)
  rw [row5_lit] at E0 hr5
  replace hr5 := Lib.hid hr5
  go_enter Tryz.func28, Tryz.ntmps28
  go_wp2_with (fail)
  generalize hW : w.alloc (.cells #[.string ⟨#[115, 99, 97, 114, 97, 98]⟩, .string ⟨#[118, 97, 114]⟩, .string ⟨#[97, 116, 111, 109, 105, 99]⟩, .string ⟨#[109, 117, 116, 101, 120]⟩, .string ⟨#[99, 104, 97, 110]⟩, .string ⟨#[102, 117, 110, 99]⟩, .string ⟨#[99, 104, 111, 111, 115, 101]⟩, .string ⟨#[111, 110, 115, 101, 110, 100]⟩, .string ⟨#[111, 110, 114, 101, 99, 118]⟩] 9) = W0 at *
  clear hW
  go_loopw [5] (fun i wr => ∃ k : Nat, k ≤ 9 ∧ i = .int .i64 k ∧ wr = W0 ∧ Hid (idx s.data.toList fixed 1 = idx s.data.toList (fixed.drop k) (k + 1))) (fun i _ => 9 - (intOf i).toNat)
  case atStart => exact ⟨0, by omega, rfl, rfl, Lib.hid rfl⟩
  case round =>
    obtain ⟨k, hk, rfl, rfl, hq⟩ := hrel
    by_cases hk9 : k < 9
    · have hc := hr5.out k hk9
      have hd := idx_step s.data.toList fixed k (k + 1) (by omega)
      rw [← hq.out] at hd
      have hse := str_eq (fixed.getD k []) s
      by_cases he : fixed.getD k [] = s.data.toList
      · rw [if_pos he] at hd
        rw [decide_eq_true he] at hse
        obtain ⟨hk1, hk2⟩ := kind_first hd (by omega)
        have hk1' := Lib.hid (hkk.out.trans hk1)
        have hk2' := Lib.hid (hoo.out.trans hk2)
        clear hd he hq hk1 hk2
        generalize bt (fixed.getD k []) = x at *
        go_wp2_with (fail)
        go_ret2
        exact ⟨by rw [hk1'.out, hk2'.out]; rfl, E0.acc⟩
      · rw [if_neg he] at hd
        rw [decide_eq_false he] at hse
        replace hd := Lib.hid hd
        clear hq he
        generalize bt (fixed.getD k []) = x at *
        go_wp2_with (fail)
        first
          | (refine ⟨⟨k + 1, by omega, rfl, trivial, hd⟩, (by first | (simp [intOf]; done) | (simp [intOf]; omega) | omega)⟩)
          | (refine ⟨⟨k + 1, by omega, by go_num, trivial, hd⟩, (by first | (simp [intOf]; done) | (simp [intOf]; omega) | omega)⟩)
          | (refine ⟨⟨k + 1, by omega, by go_num, rfl, hd⟩, (by first | (simp [intOf]; done) | (simp [intOf]; omega) | omega)⟩)
          | (refine ⟨?_, (by first | (simp [intOf]; done) | (simp [intOf]; omega) | omega)⟩; (repeat apply Exists.intro); exact ⟨⟨k + 1, by omega, by go_num, rfl, hd⟩, rfl⟩)
    · obtain rfl : k = 9 := by omega
      have h0 : idx s.data.toList fixed 1 = 0 := by
        rw [hq.out, List.drop_eq_nil_of_le (by omega)]
        rfl
      replace h0 := Lib.hid h0
      have acc := E0.acc
      clear hq hr5 E0
      go_wp2_with (fail)
      go_loopw [6] (fun i wq => ∃ k : Nat, 1 ≤ k ∧ k ≤ 66 ∧ i = .int .i64 k ∧ Below w.heap.size w wq ∧ Hid (Pg.opAt s.data.toList = idx s.data.toList (names.drop k) k)) (fun i _ => 66 - (intOf i).toNat)
      case atStart => exact ⟨1, by omega, by omega, rfl, acc, Lib.hid hopa⟩
      case round =>
        obtain ⟨k, hk1, hk, rfl, hB, hq⟩ := hrel
        by_cases hk6 : k < 66
        · have hg : (k : Int) ≤ 65 := by omega
          have cK := Lib.hid (fun W => cN.out k hk1 (by omega) W)
          have hd := idx_step s.data.toList names k k (by omega)
          rw [← hq.out] at hd
          have hse := str_eq (opName k) s
          by_cases he : names.getD k [] = s.data.toList
          · rw [if_pos he] at hd
            rw [show decide (opName k = s.data.toList) = true from decide_eq_true he] at hse
            obtain ⟨hk3, hk2⟩ := kind_op h0.out hd (by omega)
            have hk1' := Lib.hid (hkk.out.trans hk3)
            have hk2' := Lib.hid (hoo.out.trans hk2)
            clear hd he hq hk3 hk2
            generalize bt (opName k) = x at *
            go_wp2_with ((go_at_call 19; ((with_reducible refine (cK.out _).mono ?_); rintro e w' ⟨rfl, b1⟩)))
            repeat (go_quiet (fail); go_wp2)
            go_ret2
            exact ⟨by rw [hk1'.out, hk2'.out]; rfl, hB.trans (b1.mono hB.size)⟩
          · rw [if_neg he] at hd
            rw [show decide (opName k = s.data.toList) = false from decide_eq_false he] at hse
            replace hd := Lib.hid hd
            clear hq he
            generalize bt (opName k) = x at *
            go_wp2_with ((go_at_call 19; ((with_reducible refine (cK.out _).mono ?_); rintro e w' ⟨rfl, b1⟩)))
            have hB1 := hB.trans (b1.mono hB.size)
            first
              | (refine ⟨⟨k + 1, by omega, by omega, by go_num, hB1, hd⟩, (by first | (simp [intOf]; done) | (simp [intOf]; omega) | omega)⟩)
              | (refine ⟨?_, (by first | (simp [intOf]; done) | (simp [intOf]; omega) | omega)⟩; (repeat apply Exists.intro); exact ⟨⟨k + 1, by omega, by omega, by go_num, hB1, hd⟩, rfl⟩)
        · obtain rfl : k = 66 := by omega
          have hz : Pg.opAt s.data.toList = 0 := by
            rw [hq.out, List.drop_eq_nil_of_le (by omega)]
            rfl
          obtain ⟨hk3, hk2⟩ := kind_none h0.out hz
          have hk1' := Lib.hid (hkk.out.trans hk3)
          have hk2' := Lib.hid (hoo.out.trans hk2)
          clear hz hq hk3 hk2
          go_wp2_with (fail)
          go_ret2
          exact ⟨by rw [hk1'.out, hk2'.out]; rfl, hB⟩
end Go.Proofs.YtlhhmlfcodmebaaGreatDoor.Wd
