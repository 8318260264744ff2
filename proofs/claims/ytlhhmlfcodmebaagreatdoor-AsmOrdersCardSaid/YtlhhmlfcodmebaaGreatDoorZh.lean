/- Several texts of one proof, one behind the other. The reader's words, walked: numbers, numbers behind letters. The conditions: the table and the variables as listed. | The operation of a name, walked. No condition. -/
import Derived.Test.YtlhhmlfcodmebaaGreatDoorZf
import Derived.Test.YtlhhmlfcodmebaaGreatDoorZa
namespace Go.Proofs.YtlhhmlfcodmebaaGreatDoor.Wd
set_option linter.unusedVariables false
set_option linter.unusedSimpArgs false
open Go.RowKit Go.WideShapes Go.ChangeShapes
open Go.Proofs.YtlhhmlfcodmebaaGreatDoor.Pg (nmb sml ltr val headOf)
set_option linter.unusedVariables false
set_option linter.unusedSimpArgs false
theorem head_nil (s : ByteArray) (h : s.size = 0) : s.data.toList = [] := by
  have : s.data.toList.length = 0 := by rw [Array.length_toList]; exact h
  exact List.eq_nil_of_length_eq_zero this
theorem head_cons (s : ByteArray) (h : 0 < s.size) : s.data.toList = s[0] :: s.data.toList.drop 1 := by
  have := drop_at s 0 h
  rwa [List.drop_zero] at this
set_option maxHeartbeats 8000000 in
set_option maxRecDepth 100000 in
theorem hasPrefix_walk (s : ByteArray) (h : UInt8) (w : World) : Calls Tryz.prog 140 #[.string s, .string ⟨#[h]⟩] w fun e w' => e = .returned (.bool (decide (s.data.toList.head? = some h))) ∧ w' = w := by
  by_cases h0 : s.size = 0
  · have e : decide (s.data.toList.head? = some h) = false := by rw [head_nil s h0]; rfl
    rw [e]
    clear e
    have g : ¬ (1 : Int) ≤ (s.size : Int) := by omega
    go_enter Tryz.func140, Tryz.ntmps140
    go_wp2
    go_ret
    exact ⟨rfl, rfl⟩
  · have hc := head_cons s (by omega)
    have hx := ext_one s 0 (by omega)
    have hq : ((s.extract 0 1).toList == [h]) = decide (s.data.toList.head? = some h) := by
      rw [hc, ByteArray.toList_eq, hx]
      simp [Bool.beq_eq_decide_eq]
    generalize decide (s.data.toList.head? = some h) = b at *
    clear hc hx
    have g : (1 : Int) ≤ (s.size : Int) := by omega
    have g1 : 1 ≤ s.size := by omega
    go_enter Tryz.func140, Tryz.ntmps140
    go_wp2
    go_ret
    exact ⟨rfl, rfl⟩
theorem ext_tail (s : ByteArray) (h : 0 < s.size) : (s.extract 1 s.size).data.toList = s.data.toList.tail := by
  rw [ByteArray.data_extract, Array.toList_extract, List.extract_eq_take_drop, List.take_of_length_le, List.drop_one]
  rw [List.length_drop, Array.length_toList]
  exact Nat.le_refl _
set_option maxHeartbeats 8000000 in
set_option maxRecDepth 100000 in
theorem cutPrefix0_walk (s : ByteArray) (h : UInt8) (w : World) : Calls Tryz.prog 137 #[.string s, .string ⟨#[h]⟩] w fun e w' => (∃ t b, e = .returned (.tuple #[.string t, .bool b]) ∧ b = decide (s.data.toList.head? = some h) ∧ (b = true → t.data.toList = s.data.toList.tail ∧ t.size ≤ s.size)) ∧ w' = w := by
  have cH := Lib.hid (hasPrefix_walk s h w)
  have ht := ext_tail s
  by_cases hd : s.data.toList.head? = some h
  · have h0 : 1 ≤ s.size := by
      rcases Nat.eq_zero_or_pos s.size with q | q
      · rw [head_nil s q] at hd; cases hd
      · exact q
    replace ht := Lib.hid (ht (by omega))
    rw [decide_eq_true hd] at cH ⊢
    go_enter Tryz.func137, Tryz.ntmps137
    go_wp2_with ((go_at_call 140; ((with_reducible refine (cH.out).mono ?_); rintro e w' ⟨rfl, rfl⟩)))
    go_ret2
    exact ⟨⟨_, _, rfl, rfl, fun _ => ⟨ht.out, by simp⟩⟩, rfl⟩
  · clear ht
    rw [decide_eq_false hd] at cH ⊢
    go_enter Tryz.func137, Tryz.ntmps137
    go_wp2_with ((go_at_call 140; ((with_reducible refine (cH.out).mono ?_); rintro e w' ⟨rfl, rfl⟩)))
    go_ret2
    exact ⟨⟨_, _, rfl, rfl, fun q => by cases q⟩, rfl⟩
set_option maxHeartbeats 8000000 in
set_option maxRecDepth 100000 in
theorem cutPrefix_walk (s : ByteArray) (h : UInt8) (w : World) : Calls Tryz.prog 132 #[.string s, .string ⟨#[h]⟩] w fun e w' => (∃ t b, e = .returned (.tuple #[.string t, .bool b]) ∧ b = decide (s.data.toList.head? = some h) ∧ (b = true → t.data.toList = s.data.toList.tail ∧ t.size ≤ s.size)) ∧ w' = w := by
  have cH := Lib.hid (cutPrefix0_walk s h w)
  go_enter Tryz.func132, Tryz.ntmps132
  go_wp2_with ((go_at_call 137; ((with_reducible refine (cH.out).mono ?_); rintro e w' ⟨⟨t, b, rfl, rfl, ht⟩, rfl⟩)))
  go_ret2
  exact ⟨⟨t, _, rfl, rfl, ht⟩, rfl⟩
set_option maxHeartbeats 8000000 in
set_option maxRecDepth 100000 in
theorem nmb_walk (s : ByteArray) (w : World) (h : Lies w) (hs : s.size ≤ 281474976710656) : Calls Tryz.prog 113 #[.string s] w fun e w' => e = .returned (.tuple #[.int .i64 (nmb s.data.toList).1, .int .i64 (nmb s.data.toList).2]) ∧ Below w.heap.size w w' := by
  have cN := Lib.hid (number_walk s w h hs)
  unfold nmb
  generalize num s.data.toList = x at *
  obtain ⟨n, ok⟩ := x
  go_enter Tryz.func113, Tryz.ntmps113
  cases ok
  · go_wp2_with ((go_at_call 131; ((with_reducible refine (cN.out).mono ?_); rintro e w' ⟨rfl, b1⟩)))
    go_ret2
    exact ⟨rfl, b1⟩
  · go_wp2_with ((go_at_call 131; ((with_reducible refine (cN.out).mono ?_); rintro e w' ⟨rfl, b1⟩)))
    go_ret2
    exact ⟨rfl, b1⟩
set_option maxHeartbeats 8000000 in
set_option maxRecDepth 100000 in
theorem sml_walk (s : ByteArray) (w : World) (h : Lies w) (hs : s.size ≤ 281474976710656) : Calls Tryz.prog 114 #[.string s] w fun e w' => e = .returned (.tuple #[.int .i64 (sml s.data.toList).1, .int .i64 (sml s.data.toList).2]) ∧ Below w.heap.size w w' := by
  have cN := Lib.hid (nmb_walk s w h hs)
  unfold nmb at cN
  unfold sml
  generalize num s.data.toList = x at *
  obtain ⟨n, ok⟩ := x
  cases ok
  · rw [if_neg (by simp)]
    simp only [Bool.false_eq_true, if_false] at cN
    go_enter Tryz.func114, Tryz.ntmps114
    go_wp2_with ((go_at_call 113; ((with_reducible refine (cN.out).mono ?_); rintro e w' ⟨rfl, b1⟩)))
    go_ret2
    exact ⟨rfl, b1⟩
  · simp only [if_true] at cN
    by_cases h1 : n < 0
    · rw [if_neg (by simp only [true_and]; omega)]
      go_enter Tryz.func114, Tryz.ntmps114
      go_wp2_with ((go_at_call 113; ((with_reducible refine (cN.out).mono ?_); rintro e w' ⟨rfl, b1⟩)))
      all_goals go_ret2
      all_goals exact ⟨rfl, b1⟩
    · by_cases h2 : 999999999 < n
      · rw [if_neg (by simp only [true_and]; omega)]
        go_enter Tryz.func114, Tryz.ntmps114
        go_wp2_with ((go_at_call 113; ((with_reducible refine (cN.out).mono ?_); rintro e w' ⟨rfl, b1⟩)))
        all_goals go_ret2
        all_goals exact ⟨rfl, b1⟩
      · rw [if_pos (by simp only [true_and]; omega)]
        go_enter Tryz.func114, Tryz.ntmps114
        go_wp2_with ((go_at_call 113; ((with_reducible refine (cN.out).mono ?_); rintro e w' ⟨rfl, b1⟩)))
        all_goals go_ret2
        all_goals exact ⟨rfl, b1⟩
set_option maxHeartbeats 8000000 in
set_option maxRecDepth 100000 in
theorem ltr_walk (s : ByteArray) (h : UInt8) (none : Bool) (w : World) (hL : Lies w) (hs : s.size ≤ 281474976710656) : Calls Tryz.prog 115 #[.string s, .string ⟨#[h]⟩, .bool none] w fun e w' => e = .returned (.tuple #[.int .i64 (ltr s.data.toList h none).1, .int .i64 (ltr s.data.toList h none).2]) ∧ Below w.heap.size w w' := by
  have cP := Lib.hid (fun W => cutPrefix_walk s h W)
  have cS := Lib.hid (fun t W (hW : Lies W) (ht : t.size ≤ 281474976710656) => sml_walk t W hW ht)
  have hh := Lib.hid hL
  clear hL
  unfold ltr
  by_cases hu : none = true ∧ s.data.toList = [95]
  · obtain ⟨rfl, h95⟩ := hu
    rw [if_pos ⟨rfl, h95⟩]
    have hq : (s.toList == [95]) = true := by rw [ByteArray.toList_eq, h95]; rfl
    clear h95
    go_enter Tryz.func115, Tryz.ntmps115
    go_wp2
    go_ret2
    exact ⟨rfl, Below.refl _ _⟩
  · rw [if_neg hu]
    have hq : none = false ∨ (s.toList == [95]) = false := by
      cases none
      · exact .inl rfl
      · refine .inr (beq_eq_false_iff_ne.2 fun e => hu ⟨rfl, ?_⟩)
        rwa [ByteArray.toList_eq] at e
    clear hu
    by_cases hd : s.data.toList.head? = some h
    · rw [if_pos hd]
      have cQ : ∀ W, Calls Tryz.prog 132 #[.string s, .string ⟨#[h]⟩] W fun e w' => (∃ t, e = .returned (.tuple #[.string t, .bool true]) ∧ t.data.toList = s.data.toList.tail ∧ t.size ≤ 281474976710656) ∧ w' = W := fun W => (cP.out W).mono (by
        rintro e w' ⟨⟨t, b, rfl, hb, ht⟩, rfl⟩
        rw [decide_eq_true hd] at hb
        subst hb
        exact ⟨⟨t, rfl, (ht rfl).1, Nat.le_trans (ht rfl).2 hs⟩, rfl⟩)
      replace cQ := Lib.hid cQ
      clear hd cP
      rcases hq with rfl | hq
      · go_enter Tryz.func115, Tryz.ntmps115
        go_wp2_with (first | (go_at_call 132; ((with_reducible refine (cQ.out _).mono ?_); rintro e w' ⟨⟨t, rfl, ht1, ht2⟩, rfl⟩)) | (go_at_call 114; ((with_reducible refine (cS.out _ _ hh.out ht2).mono ?_); rintro e w' ⟨rfl, b1⟩)))
        go_ret2
        exact ⟨rfl, b1⟩
      · cases none
        · go_enter Tryz.func115, Tryz.ntmps115
          go_wp2_with (first | (go_at_call 132; ((with_reducible refine (cQ.out _).mono ?_); rintro e w' ⟨⟨t, rfl, ht1, ht2⟩, rfl⟩)) | (go_at_call 114; ((with_reducible refine (cS.out _ _ hh.out ht2).mono ?_); rintro e w' ⟨rfl, b1⟩)))
          go_ret2
          exact ⟨rfl, b1⟩
        · go_enter Tryz.func115, Tryz.ntmps115
          go_wp2_with (first | (go_at_call 132; ((with_reducible refine (cQ.out _).mono ?_); rintro e w' ⟨⟨t, rfl, ht1, ht2⟩, rfl⟩)) | (go_at_call 114; ((with_reducible refine (cS.out _ _ hh.out ht2).mono ?_); rintro e w' ⟨rfl, b1⟩)))
          go_ret2
          exact ⟨rfl, b1⟩
    · rw [if_neg hd]
      rw [decide_eq_false hd] at cP
      clear hd
      rcases hq with rfl | hq
      · go_enter Tryz.func115, Tryz.ntmps115
        go_wp2_with (first | (go_at_call 132; ((with_reducible refine (cP.out _).mono ?_); rintro e w' ⟨⟨t, b, rfl, rfl, ht⟩, rfl⟩)))
        go_ret2
        exact ⟨rfl, Below.refl _ _⟩
      · cases none
        · go_enter Tryz.func115, Tryz.ntmps115
          go_wp2_with (first | (go_at_call 132; ((with_reducible refine (cP.out _).mono ?_); rintro e w' ⟨⟨t, b, rfl, rfl, ht⟩, rfl⟩)))
          go_ret2
          exact ⟨rfl, Below.refl _ _⟩
        · go_enter Tryz.func115, Tryz.ntmps115
          go_wp2_with (first | (go_at_call 132; ((with_reducible refine (cP.out _).mono ?_); rintro e w' ⟨⟨t, b, rfl, rfl, ht⟩, rfl⟩)))
          go_ret2
          exact ⟨rfl, Below.refl _ _⟩
end Go.Proofs.YtlhhmlfcodmebaaGreatDoor.Wd
namespace Go.Proofs.YtlhhmlfcodmebaaGreatDoor.Wd
set_option linter.unusedVariables false
set_option linter.unusedSimpArgs false
open Go.RowKit Go.WideShapes Go.ChangeShapes
open Go.Proofs.YtlhhmlfcodmebaaGreatDoor.Pg (Env Blk names idx opAt)
set_option linter.unusedVariables false
set_option linter.unusedSimpArgs false
def bt (l : List UInt8) : ByteArray := ⟨l.toArray⟩
/-- The names of the operations of numbers, in memory. -/
def row1 : Array Value := ((names.take 37).map fun l => Value.string (bt l)).toArray
set_option maxHeartbeats 8000000 in
set_option maxRecDepth 100000 in
theorem names1_walk (w : World) : Calls Tryz.prog 116 #[] w fun e w' => e = .returned (.slice (some ⟨w.heap.size, 0, none⟩) 37 37) ∧ w' = w.alloc (.cells row1 9) := by
  go_enter Tryz.func116, Tryz.ntmps116
  go_wp2
  go_ret
  exact ⟨rfl, rfl⟩
theorem row1_at (k : Nat) (hk : k < 37) : row1[k]? = some (.string (bt ((names.take 37).getD k []))) := by
  unfold row1
  have hl : (names.take 37).length = 37 := by decide
  rw [List.getElem?_toArray, List.getElem?_map, List.getD_eq_getElem?_getD, List.getElem?_eq_getElem (by omega)]
  rfl
theorem idx_drop (s : List UInt8) (l : List (List UInt8)) (k : Nat) (hk : k < l.length) : idx s (l.drop k) k = if l.getD k [] = s then k else idx s (l.drop (k + 1)) (k + 1) := by
  rw [List.drop_eq_getElem_cons hk, idx, List.getD_eq_getElem?_getD, List.getElem?_eq_getElem hk]
  rfl
set_option maxHeartbeats 8000000 in
set_option maxRecDepth 100000 in
theorem named_walk (s : ByteArray) (w : World) (hs : s.data.toList ≠ []) : Calls Tryz.prog 90 #[.string s] w fun e w' => e = .returned (.tuple #[.int .i64 (idx s.data.toList ((names.take 37).drop 1) 1 : Nat), .bool (decide (idx s.data.toList ((names.take 37).drop 1) 1 ≠ 0))]) ∧ Below w.heap.size w w' := by
  obtain ⟨r, hr⟩ : ∃ r, Hid (r = idx s.data.toList ((names.take 37).drop 1) 1) := ⟨_, Lib.hid rfl⟩
  rw [← hr.out]
  have hl : (names.take 37).length = 37 := by decide
  have cN := Lib.hid (fun W => names1_walk W)
  have E0 : Env w [(w.heap.size, row1)] (w.alloc (.cells row1 9)) := Env.nil.push _ rfl _ _
  go_enter Tryz.func90, Tryz.ntmps90
  go_wp2_with ((go_at_call 116; ((with_reducible refine (cN.out _).mono ?_); rintro e w' ⟨rfl, rfl⟩)))
  generalize w.alloc (.cells row1 9) = W0 at *
  go_loopw [8] (fun i wr => ∃ k : Nat, k ≤ 37 ∧ i = .int .i64 k ∧ wr = W0 ∧ Hid (0 < k → r = idx s.data.toList ((names.take 37).drop k) k)) (fun i _ => 37 - (intOf i).toNat)
  case atStart => exact ⟨0, by omega, rfl, rfl, Lib.hid fun q => absurd q (by omega)⟩
  case round =>
    obtain ⟨k, hk, rfl, rfl, hq⟩ := hrel
    by_cases hk37 : k < 37
    · have hc := (E0.h0.cell k).trans (row1_at k hk37)
      have hd := idx_drop s.data.toList (names.take 37) k (by omega)
      by_cases h0 : k = 0
      · subst h0
        have he : (names.take 37).getD 0 [] = [] := by decide
        rw [he] at hc
        have hne : ((bt []).toList == s.toList) = false := by
          rw [beq_eq_false_iff_ne, ByteArray.toList_eq, ByteArray.toList_eq]
          exact fun e => hs e.symm
        have hr1 : Hid (0 < 1 → r = idx s.data.toList ((names.take 37).drop 1) 1) := Lib.hid fun _ => hr.out
        clear hd he hq
        generalize bt [] = x at *
        go_wp2
        all_goals first
          | (refine ⟨⟨1, by omega, by go_num, rfl, hr1⟩, (by first | (simp [intOf]; done) | (simp [intOf]; omega) | omega)⟩)
          | (refine ⟨⟨1, by omega, rfl, trivial, hr1⟩, (by first | (simp [intOf]; done) | (simp [intOf]; omega) | omega)⟩)
          | (refine ⟨?_, (by first | (simp [intOf]; done) | (simp [intOf]; omega) | omega)⟩; (repeat apply Exists.intro); exact ⟨⟨1, by omega, by go_num, rfl, hr1⟩, rfl⟩)
      · rw [← hq.out (by omega)] at hd
        by_cases he : (names.take 37).getD k [] = s.data.toList
        · rw [if_pos he] at hd
          have hne : ((bt ((names.take 37).getD k [])).toList == s.toList) = true := by
            rw [he, beq_iff_eq, ByteArray.toList_eq, ByteArray.toList_eq]
            rfl
          have hdec : Hid (decide (r ≠ 0) = true) := Lib.hid (decide_eq_true (by rw [hd]; exact h0))
          replace hd := Lib.hid hd
          clear he hq
          generalize bt ((names.take 37).getD k []) = x at *
          have hk0 : (0 : Int) < (k : Int) := by omega
          go_wp2
          all_goals go_ret2
          all_goals refine ⟨?_, E0.acc⟩
          all_goals rw [hdec.out, hd.out]
          all_goals rfl
        · rw [if_neg he] at hd
          have hne : ((bt ((names.take 37).getD k [])).toList == s.toList) = false := by
            rw [beq_eq_false_iff_ne, ByteArray.toList_eq, ByteArray.toList_eq]
            exact fun e => he e
          have hr1 : Hid (0 < k + 1 → r = idx s.data.toList ((names.take 37).drop (k + 1)) (k + 1)) := Lib.hid fun _ => hd
          clear he hq hd
          generalize bt ((names.take 37).getD k []) = x at *
          go_wp2
          all_goals first
            | (refine ⟨⟨k + 1, by omega, by go_num, rfl, hr1⟩, (by first | (simp [intOf]; done) | (simp [intOf]; omega) | omega)⟩)
            | (refine ⟨⟨k + 1, by omega, rfl, trivial, hr1⟩, (by first | (simp [intOf]; done) | (simp [intOf]; omega) | omega)⟩)
            | (refine ⟨?_, (by first | (simp [intOf]; done) | (simp [intOf]; omega) | omega)⟩; (repeat apply Exists.intro); exact ⟨⟨k + 1, by omega, by go_num, rfl, hr1⟩, rfl⟩)
    · obtain rfl : k = 37 := by omega
      have hr0 : r = 0 := by
        rw [hq.out (by omega), List.drop_eq_nil_of_le (by omega)]
        rfl
      replace hr0 := Lib.hid hr0
      clear hq
      go_wp2
      go_ret2
      rw [hr0.out]
      exact ⟨rfl, E0.acc⟩
/-- The other operations' names, in memory. -/
def ops2 : List Nat := [40, 41, 42, 43, 44, 45, 50, 51, 52, 53, 54, 55, 56, 57, 58, 59, 60, 61, 62, 63, 64, 65]
def pair2 (o : Nat) : List Value := [.int .i64 (Int.ofNat o), .string (bt (Pg.opName o))]
def row2 : Array Value := (ops2.flatMap pair2).toArray
def fp (s : List UInt8) : List Nat → Nat
  | [] => 0
  | o :: l => if Pg.opName o = s then o else fp s l
set_option maxHeartbeats 8000000 in
set_option maxRecDepth 100000 in
theorem names2_walk (w : World) : Calls Tryz.prog 91 #[] w fun e w' => e = .returned (.slice (some ⟨w.heap.size, 0, none⟩) 22 22) ∧ w' = w.alloc (.cells row2 147) := by
  go_enter Tryz.func91, Tryz.ntmps91
  go_wp2
  go_ret
  exact ⟨rfl, rfl⟩
theorem row2_at (k : Nat) (hk : k < 22) : row2[k * 2]? = some (.int .i64 ((ops2.getD k 0 : Nat) : Int)) ∧ row2[k * 2 + 1]? = some (.string (bt (Pg.opName (ops2.getD k 0)))) := by
  have hl : ops2.length = 22 := rfl
  have hg : ops2[k]? = some (ops2.getD k 0) := by rw [List.getD_eq_getElem?_getD, List.getElem?_eq_getElem (by omega)]; rfl
  have h0 := Pg.flat_get pair2 2 (fun _ => rfl) ops2 k _ hg 0 _ rfl
  have h1 := Pg.flat_get pair2 2 (fun _ => rfl) ops2 k _ hg 1 _ rfl
  unfold row2
  rw [List.getElem?_toArray, List.getElem?_toArray]
  exact ⟨h0, h1⟩
theorem fp_drop (s : List UInt8) (l : List Nat) (k : Nat) (hk : k < l.length) : fp s (l.drop k) = if Pg.opName (l.getD k 0) = s then l.getD k 0 else fp s (l.drop (k + 1)) := by
  rw [List.drop_eq_getElem_cons hk, fp, List.getD_eq_getElem?_getD, List.getElem?_eq_getElem hk]
  rfl
theorem idx_zero (s : List UInt8) : ∀ (a : List (List UInt8)) (k : Nat), 1 ≤ k → ∀ b, idx s (a ++ b) k = if idx s a k ≠ 0 then idx s a k else idx s b (k + a.length)
  | [], k, _, b => by simp [idx]
  | x :: a, k, hk, b => by
    rw [List.cons_append, idx, idx]
    by_cases h : x = s
    · rw [if_pos h, if_pos h, if_pos (by omega)]
    · rw [if_neg h, if_neg h, idx_zero s a (k + 1) (by omega) b, List.length_cons, show k + 1 + a.length = k + (a.length + 1) by omega]
set_option maxRecDepth 100000 in
theorem idx_fp (s : List UInt8) (hs : s ≠ []) : idx s (names.drop 37) 37 = fp s ops2 := by
  have h : ¬ ([] : List UInt8) = s := fun e => hs e.symm
  show idx s [[], [], [], Pg.opName 40, Pg.opName 41, Pg.opName 42, Pg.opName 43, Pg.opName 44, Pg.opName 45, [], [], [], [], Pg.opName 50, Pg.opName 51, Pg.opName 52, Pg.opName 53, Pg.opName 54, Pg.opName 55, Pg.opName 56, Pg.opName 57, Pg.opName 58, Pg.opName 59, Pg.opName 60, Pg.opName 61, Pg.opName 62, Pg.opName 63, Pg.opName 64, Pg.opName 65] 37 = _
  unfold ops2
  simp only [idx, fp, if_neg h]
theorem opAt_eq (s : List UInt8) (hs : s ≠ []) : opAt s = if idx s ((names.take 37).drop 1) 1 ≠ 0 then idx s ((names.take 37).drop 1) 1 else fp s ops2 := by
  unfold opAt
  have e : names.drop 1 = (names.take 37).drop 1 ++ names.drop 37 := by decide
  rw [if_neg hs, e, idx_zero _ _ _ (by omega), show 1 + ((names.take 37).drop 1).length = 37 by decide, idx_fp s hs]
theorem fp_pos (s : List UInt8) : ∀ k, k < 22 → 0 < ops2.getD k 0 := by decide
set_option maxHeartbeats 8000000 in
set_option maxRecDepth 100000 in
theorem opOf_walk (s : ByteArray) (w : World) (hs : s.data.toList ≠ []) : Calls Tryz.prog 54 #[.string s] w fun e w' => e = .returned (.tuple #[.int .i64 (opAt s.data.toList : Nat), .bool (decide (opAt s.data.toList ≠ 0))]) ∧ Below w.heap.size w w' := by
  rw [opAt_eq _ hs]
  have cA := Lib.hid (fun W => named_walk s W hs)
  have cN := Lib.hid (fun W => names2_walk W)
  generalize idx s.data.toList ((names.take 37).drop 1) 1 = a at *
  by_cases ha : a ≠ 0
  · rw [if_pos ha]
    rw [decide_eq_true ha] at cA ⊢
    clear ha cN
    go_enter Tryz.func54, Tryz.ntmps54
    go_wp2_with ((go_at_call 90; ((with_reducible refine (cA.out _).mono ?_); rintro e w' ⟨rfl, b1⟩)))
    go_ret2
    exact ⟨rfl, b1⟩
  · rw [if_neg ha]
    rw [decide_eq_false ha] at cA
    clear ha
    obtain ⟨r, hr⟩ : ∃ r, Hid (r = fp s.data.toList ops2) := ⟨_, Lib.hid rfl⟩
    rw [← hr.out]
    go_enter Tryz.func54, Tryz.ntmps54
    go_wp2_with (go_at_call 90; ((with_reducible refine (cA.out _).mono ?_); rintro e w1 ⟨rfl, b1⟩))
    have E0 : Env w [(w1.heap.size, row2)] (w1.alloc (.cells row2 147)) := (Env.nil.next b1).push _ rfl _ _
    go_wp2_with ((go_at_call 91; ((with_reducible refine (cN.out _).mono ?_); rintro e w' ⟨rfl, rfl⟩)))
    generalize hB : w1.heap.size = B at *
    generalize w1.alloc (.cells row2 147) = W0 at *
    go_loopw [17] (fun i wr => ∃ k : Nat, k ≤ 22 ∧ i = .int .i64 k ∧ Env w [(B, row2)] wr ∧ Hid (r = fp s.data.toList (ops2.drop k))) (fun i _ => 22 - (intOf i).toNat)
    case atStart => exact ⟨0, by omega, rfl, E0, Lib.hid hr.out⟩
    case round =>
      obtain ⟨k, hk, rfl, E, hq⟩ := hrel
      by_cases hk22 : k < 22
      · have hr2 := row2_at k hk22
        have c0 := (E.h0.cell (k * 2)).trans hr2.1
        have c1 := (E.h0.cell (k * 2 + 1)).trans hr2.2
        have hlt := E.h0.lt
        have hd := fp_drop s.data.toList ops2 k (by show k < 22; omega)
        have hpos := fp_pos s.data.toList k hk22
        rw [← hq.out] at hd
        clear hr2
        by_cases he : Pg.opName (ops2.getD k 0) = s.data.toList
        · rw [if_pos he] at hd
          have hne : ((bt (Pg.opName (ops2.getD k 0))).toList == s.toList) = true := by
            rw [he, beq_iff_eq, ByteArray.toList_eq, ByteArray.toList_eq]
            rfl
          replace hd := Lib.hid hd
          clear he hq
          generalize bt (Pg.opName (ops2.getD k 0)) = x at *
          generalize ops2.getD k 0 = o at *
          have hdec : Hid (decide (r ≠ 0) = true) := Lib.hid (decide_eq_true (by rw [hd.out]; omega))
          go_wp2
          go_ret2
          rw [hdec.out, hd.out]
          exact ⟨rfl, (E.skip _).acc⟩
        · rw [if_neg he] at hd
          have hne : ((bt (Pg.opName (ops2.getD k 0))).toList == s.toList) = false := by
            rw [beq_eq_false_iff_ne, ByteArray.toList_eq, ByteArray.toList_eq]
            exact fun e => he e
          replace hd := Lib.hid hd
          clear he hq
          generalize bt (Pg.opName (ops2.getD k 0)) = x at *
          generalize ops2.getD k 0 = o at *
          go_wp2
          first
            | (refine ⟨⟨k + 1, by omega, by go_num, E.skip _, hd⟩, (by first | (simp [intOf]; done) | (simp [intOf]; omega) | omega)⟩)
            | (refine ⟨?_, (by first | (simp [intOf]; done) | (simp [intOf]; omega) | omega)⟩; (repeat apply Exists.intro); exact ⟨⟨k + 1, by omega, by go_num, E.skip _, hd⟩, rfl⟩)
      · obtain rfl : k = 22 := by omega
        have hr0 : r = 0 := by
          rw [hq.out]
          rfl
        replace hr0 := Lib.hid hr0
        clear hq
        go_wp2
        go_ret2
        rw [hr0.out]
        exact ⟨rfl, E.acc⟩
end Go.Proofs.YtlhhmlfcodmebaaGreatDoor.Wd
