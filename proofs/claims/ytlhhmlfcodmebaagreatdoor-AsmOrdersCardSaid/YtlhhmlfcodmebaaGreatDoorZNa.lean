/- An operation's name, walked. No condition. -/
import Derived.Test.YtlhhmlfcodmebaaGreatDoorZh
namespace Go.Proofs.YtlhhmlfcodmebaaGreatDoor.Wd
set_option linter.unusedVariables false
set_option linter.unusedSimpArgs false
open Go.RowKit Go.WideShapes Go.ChangeShapes
open Go.Proofs.YtlhhmlfcodmebaaGreatDoor.Pg (Env Blk names idx opAt opName)
set_option linter.unusedVariables false
set_option linter.unusedSimpArgs false
theorem take_name (op : Nat) (h : op ≤ 36) : (names.take 37).getD op [] = opName op := by
  unfold opName
  simp only [List.getD_eq_getElem?_getD]
  rw [List.getElem?_take_of_lt (by omega)]
theorem name_some : ∀ op, 1 ≤ op → op ≤ 36 → opName op ≠ [] := by
  intro op h1 h2
  have : ∀ k, k < 37 → 1 ≤ k → opName k ≠ [] := by decide
  exact this op (by omega) h1
theorem arity_walk (op : Nat) (w : World) (h : op ≤ 65) : Calls Tryz.prog 121 #[.int .i64 (op : Int)] w fun e w' => e = .returned (.int .i64 (if op < 1 then 0 else if op ≤ 15 then 1 else if op ≤ 36 then 2 else 0)) ∧ w' = w := by
  rcases (show op < 1 ∨ (1 ≤ op ∧ op ≤ 15) ∨ (15 < op ∧ op ≤ 36) ∨ 36 < op by omega) with h1 | ⟨h1, h2⟩ | ⟨h1, h2⟩ | h1
  · rw [if_pos h1]
    have g : (op : Int) < 1 := by omega
    have g2 : ¬ ((15 : Int) < op) := by omega
    go_enter Tryz.func121, Tryz.ntmps121
    go_wp2
    all_goals go_ret
    all_goals exact ⟨rfl, rfl⟩
  · rw [if_neg (by omega), if_pos h2]
    have g : (1 : Int) ≤ op := by omega
    have g2 : (op : Int) ≤ 15 := by omega
    go_enter Tryz.func121, Tryz.ntmps121
    go_wp2
    all_goals go_ret
    all_goals exact ⟨rfl, rfl⟩
  · rw [if_neg (by omega), if_neg (by omega), if_pos h2]
    have g : (1 : Int) ≤ op := by omega
    have g1 : (15 : Int) < op := by omega
    have g2 : (op : Int) ≤ 36 := by omega
    go_enter Tryz.func121, Tryz.ntmps121
    go_wp2
    all_goals go_ret
    all_goals exact ⟨rfl, rfl⟩
  · rw [if_neg (by omega), if_neg (by omega), if_neg (by omega)]
    have g : (1 : Int) ≤ op := by omega
    have g1 : (15 : Int) < op := by omega
    have g2 : (36 : Int) < (op : Int) := by omega
    go_enter Tryz.func121, Tryz.ntmps121
    go_wp2
    all_goals go_ret
    all_goals exact ⟨rfl, rfl⟩
set_option maxHeartbeats 8000000 in
set_option maxRecDepth 100000 in
theorem wname_walk (op : Nat) (w : World) (h1 : 1 ≤ op) (h2 : op ≤ 65) : Calls Tryz.prog 104 #[.int .i64 (op : Int)] w fun e w' => e = .returned (.string (if op ≤ 36 then bt (opName op) else ⟨#[]⟩)) ∧ Below w.heap.size w w' := by
  have cN := Lib.hid (fun W => names1_walk W)
  have g1 : (1 : Int) ≤ (op : Int) := by omega
  have cR := Lib.hid (fun W => arity_walk op W h2)
  rw [if_neg (by omega)] at cR
  by_cases h36 : op ≤ 36
  · rw [if_pos h36]
    have hc := row1_at op (by omega)
    rw [take_name op h36] at hc
    have E0 : Env w [(w.heap.size, row1)] (w.alloc (.cells row1 9)) := Env.nil.push _ rfl _ _
    have hc2 := (E0.h0.cell op).trans hc
    have hlt : op < 37 := by omega
    generalize bt (opName op) = x at *
    have g36 : (op : Int) ≤ 36 := by omega
    by_cases h15 : op ≤ 15
    · rw [if_pos h15] at cR
      go_enter Tryz.func104, Tryz.ntmps104
      go_wp2_with (first | (go_at_call 116; ((with_reducible refine (cN.out _).mono ?_); rintro e w' ⟨rfl, rfl⟩)) | (go_at_call 121; ((with_reducible refine (cR.out _).mono ?_); rintro e w' ⟨rfl, rfl⟩)))
      go_ret
      exact ⟨rfl, E0.acc⟩
    · rw [if_neg h15, if_pos h36] at cR
      go_enter Tryz.func104, Tryz.ntmps104
      go_wp2_with (first | (go_at_call 116; ((with_reducible refine (cN.out _).mono ?_); rintro e w' ⟨rfl, rfl⟩)) | (go_at_call 121; ((with_reducible refine (cR.out _).mono ?_); rintro e w' ⟨rfl, rfl⟩)))
      go_ret
      exact ⟨rfl, E0.acc⟩
  · rw [if_neg h36]
    rw [if_neg (by omega), if_neg h36] at cR
    go_enter Tryz.func104, Tryz.ntmps104
    go_wp2_with ((go_at_call 121; ((with_reducible refine (cR.out _).mono ?_); rintro e w' ⟨rfl, rfl⟩)))
    go_ret
    exact ⟨rfl, Below.refl _ _⟩
/-- Operations that there are. -/
def isOp (op : Nat) : Prop := (1 ≤ op ∧ op ≤ 36) ∨ op ∈ ops2
set_option maxHeartbeats 8000000 in
set_option maxRecDepth 100000 in
theorem nameOf_walk (op : Nat) (w : World) (h : isOp op) : Calls Tryz.prog 64 #[.int .i64 (op : Int)] w fun e w' => e = .returned (.string (bt (opName op))) ∧ Below w.heap.size w w' := by
  have cN := Lib.hid (fun W => names2_walk W)
  by_cases h36 : op ≤ 36
  · have h1 : 1 ≤ op := by
      rcases h with h | h
      · exact h.1
      · have : ∀ k ∈ ops2, 40 ≤ k := by decide
        exact Nat.le_trans (by omega) (this op h)
    have cA := Lib.hid (fun W => wname_walk op W h1 (by omega))
    rw [if_pos h36] at cA
    have hne : (bt (opName op)).toList.isEmpty = false := by
      rw [ByteArray.toList_eq]
      have := name_some op h1 h36
      cases hq : opName op with
      | nil => exact absurd hq this
      | cons c l => rfl
    generalize bt (opName op) = x at *
    go_enter Tryz.func64, Tryz.ntmps64
    go_wp2_with ((go_at_call 104; ((with_reducible refine (cA.out _).mono ?_); rintro e w' ⟨rfl, b1⟩)))
    go_ret
    exact ⟨rfl, b1⟩
  · have hm : op ∈ ops2 := by
      rcases h with h | h
      · omega
      · exact h
    have h65 : op ≤ 65 := by
      have : ∀ k ∈ ops2, k ≤ 65 := by decide
      exact this op hm
    have cA := Lib.hid (fun W => wname_walk op W (by omega) h65)
    rw [if_neg h36] at cA
    clear h36 h
    go_enter Tryz.func64, Tryz.ntmps64
    go_wp2_with (go_at_call 104; ((with_reducible refine (cA.out _).mono ?_); rintro e w1 ⟨rfl, b1⟩))
    have E0 : Env w [(w1.heap.size, row2)] (w1.alloc (.cells row2 147)) := (Env.nil.next b1).push _ rfl _ _
    go_wp2_with ((go_at_call 91; ((with_reducible refine (cN.out _).mono ?_); rintro e w' ⟨rfl, rfl⟩)))
    generalize hB : w1.heap.size = B at *
    generalize w1.alloc (.cells row2 147) = W0 at *
    go_loopw [13] (fun i wr => ∃ k : Nat, k ≤ 22 ∧ i = .int .i64 k ∧ Env w [(B, row2)] wr ∧ Hid (op ∈ ops2.drop k)) (fun i _ => 22 - (intOf i).toNat)
    case atStart => exact ⟨0, by omega, rfl, E0, Lib.hid hm⟩
    case round =>
      obtain ⟨k, hk, rfl, E, hq⟩ := hrel
      by_cases hk22 : k < 22
      · have hr2 := row2_at k hk22
        have c0 := (E.h0.cell (k * 2)).trans hr2.1
        have c1 := (E.h0.cell (k * 2 + 1)).trans hr2.2
        have hlt := E.h0.lt
        have hd : op = ops2.getD k 0 ∨ op ∈ ops2.drop (k + 1) := by
          have := hq.out
          rw [List.drop_eq_getElem_cons (show k < ops2.length from hk22)] at this
          rcases List.mem_cons.1 this with e | e
          · left
            rw [e, List.getD_eq_getElem?_getD, List.getElem?_eq_getElem (show k < ops2.length from hk22)]
            rfl
          · exact .inr e
        clear hr2 hq
        by_cases he : ops2.getD k 0 = op
        · rw [he] at c0 c1
          clear hd he
          obtain ⟨x, hx⟩ : ∃ x, Hid (x = bt (opName op)) := ⟨_, Lib.hid rfl⟩
          rw [← hx.out] at c1
          have hne : ((op : Int) == (op : Int)) = true := by simp
          go_wp2
          go_ret
          rw [← hx.out]
          exact ⟨rfl, (E.skip _).acc⟩
        · replace hd := Lib.hid (hd.resolve_left (fun e => he e.symm))
          have hne : (((ops2.getD k 0 : Nat) : Int) == (op : Int)) = false := by
            rw [beq_eq_false_iff_ne]
            exact fun e => he (by omega)
          clear he
          generalize bt (opName (ops2.getD k 0)) = x at *
          generalize ops2.getD k 0 = o at *
          go_wp2
          first
            | (refine ⟨⟨k + 1, by omega, by go_num, E.skip _, hd⟩, (by first | (simp [intOf]; done) | (simp [intOf]; omega) | omega)⟩)
            | (refine ⟨?_, (by first | (simp [intOf]; done) | (simp [intOf]; omega) | omega)⟩; (repeat apply Exists.intro); exact ⟨⟨k + 1, by omega, by go_num, E.skip _, hd⟩, rfl⟩)
      · obtain rfl : k = 22 := by omega
        have := hq.out
        exact absurd this (by rw [List.drop_eq_nil_of_le (Nat.le_refl 22)]; exact List.not_mem_nil)
end Go.Proofs.YtlhhmlfcodmebaaGreatDoor.Wd
