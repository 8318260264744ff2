/- The reference's names of operations, and the kind of a line by its first word, walked. No condition but that the word is not empty. -/
import Derived.Test.YtlhhmlfcodmebaaGreatDoorZh
import Derived.Test.YtlhhmlfcodmebaaGreatDoorZPc
import Derived.Test.YtlhhmlfcodmebaaGreatDoorZVn
namespace Go.Proofs.YtlhhmlfcodmebaaGreatDoor.Wd
set_option linter.unusedVariables false
set_option linter.unusedSimpArgs false
open Go.RowKit Go.WideShapes Go.ChangeShapes
open Go.Proofs.YtlhhmlfcodmebaaGreatDoor.Pg (Env Blk names idx opAt opName fixed)
set_option linter.unusedVariables false
set_option linter.unusedSimpArgs false
def row3 : Array Value := (((names.drop 1).take 36).map fun l => Value.string (bt l)).toArray
def row4 : Array Value := ((names.drop 40).map fun l => Value.string (bt l)).toArray
def row5 : Array Value := (fixed.map fun l => Value.string (bt l)).toArray
theorem row4_lit : row4 = #[.string ⟨#[99, 111, 110, 115, 116]⟩, .string ⟨#[109, 111, 118, 101]⟩, .string ⟨#[106, 117, 109, 112]⟩, .string ⟨#[105, 102]⟩, .string ⟨#[97, 115, 115, 101, 114, 116]⟩, .string ⟨#[101, 110, 100]⟩, .string ⟨#[]⟩, .string ⟨#[]⟩, .string ⟨#[]⟩, .string ⟨#[]⟩, .string ⟨#[108, 111, 97, 100]⟩, .string ⟨#[115, 116, 111, 114, 101]⟩, .string ⟨#[98, 117, 109, 112]⟩, .string ⟨#[99, 97, 115]⟩, .string ⟨#[97, 119, 97, 105, 116]⟩, .string ⟨#[108, 111, 99, 107]⟩, .string ⟨#[117, 110, 108, 111, 99, 107]⟩, .string ⟨#[116, 114, 121]⟩, .string ⟨#[115, 101, 110, 100]⟩, .string ⟨#[114, 101, 99, 118]⟩, .string ⟨#[99, 108, 111, 115, 101]⟩, .string ⟨#[115, 101, 108, 101, 99, 116]⟩, .string ⟨#[115, 112, 97, 119, 110]⟩, .string ⟨#[106, 111, 105, 110]⟩, .string ⟨#[121, 105, 101, 108, 100]⟩, .string ⟨#[110, 111, 116, 101]⟩] := rfl
theorem row5_lit : row5 = #[.string ⟨#[115, 99, 97, 114, 97, 98]⟩, .string ⟨#[118, 97, 114]⟩, .string ⟨#[97, 116, 111, 109, 105, 99]⟩, .string ⟨#[109, 117, 116, 101, 120]⟩, .string ⟨#[99, 104, 97, 110]⟩, .string ⟨#[102, 117, 110, 99]⟩, .string ⟨#[99, 104, 111, 111, 115, 101]⟩, .string ⟨#[111, 110, 115, 101, 110, 100]⟩, .string ⟨#[111, 110, 114, 101, 99, 118]⟩] := rfl
theorem row3_at (k : Nat) (hk : k < 36) : row3[k]? = some (.string (bt (opName (k + 1)))) := by
  have : ∀ k, k < 36 → ((names.drop 1).take 36).getD k [] = opName (k + 1) := by decide
  rw [← this k hk]
  unfold row3
  have hl : ((names.drop 1).take 36).length = 36 := by decide
  rw [List.getElem?_toArray, List.getElem?_map, List.getD_eq_getElem?_getD, List.getElem?_eq_getElem (by omega)]
  rfl
theorem row4_at (k : Nat) (hk : k < 26) : row4[k]? = some (.string (bt (opName (k + 40)))) := by
  have : ∀ k, k < 26 → (names.drop 40).getD k [] = opName (k + 40) := by decide
  rw [← this k hk]
  unfold row4
  have hl : (names.drop 40).length = 26 := by decide
  rw [List.getElem?_toArray, List.getElem?_map, List.getD_eq_getElem?_getD, List.getElem?_eq_getElem (by omega)]
  rfl
theorem row5_at (k : Nat) (hk : k < 9) : row5[k]? = some (.string (bt (fixed.getD k []))) := by
  unfold row5
  have hl : fixed.length = 9 := by decide
  rw [List.getElem?_toArray, List.getElem?_map, List.getD_eq_getElem?_getD, List.getElem?_eq_getElem (by omega)]
  rfl
set_option maxHeartbeats 8000000 in
set_option maxRecDepth 100000 in
theorem rnames_walk (w : World) : Calls Tryz.prog 70 #[] w fun e w' => e = .returned (.slice (some ⟨w.heap.size, 0, none⟩) 36 36) ∧ w' = w.alloc (.cells row3 9) := by
  go_enter Tryz.func70, Tryz.ntmps70
  go_wp2
  go_ret
  exact ⟨rfl, rfl⟩
theorem rarity_walk (op : Nat) (w : World) (h : op ≤ 65) : Calls Tryz.prog 69 #[.int .i64 (op : Int)] w fun e w' => e = .returned (.int .i64 (if op < 1 then 0 else if op ≤ 15 then 1 else if op ≤ 36 then 2 else 0)) ∧ w' = w := by
  rcases (show op < 1 ∨ (1 ≤ op ∧ op ≤ 15) ∨ (15 < op ∧ op ≤ 36) ∨ 36 < op by omega) with h1 | ⟨h1, h2⟩ | ⟨h1, h2⟩ | h1
  · rw [if_pos h1]
    have g : (op : Int) < 1 := by omega
    go_enter Tryz.func69, Tryz.ntmps69
    go_wp2
    all_goals go_ret
    all_goals exact ⟨rfl, rfl⟩
  · rw [if_neg (by omega), if_pos h2]
    have g : (1 : Int) ≤ op := by omega
    have g2 : (op : Int) ≤ 15 := by omega
    have g3 : (op : Int) ≤ 36 := by omega
    go_enter Tryz.func69, Tryz.ntmps69
    go_wp2
    all_goals go_ret
    all_goals exact ⟨rfl, rfl⟩
  · rw [if_neg (by omega), if_neg (by omega), if_pos h2]
    have g : (1 : Int) ≤ op := by omega
    have g1 : (15 : Int) < op := by omega
    have g2 : (op : Int) ≤ 36 := by omega
    go_enter Tryz.func69, Tryz.ntmps69
    go_wp2
    all_goals go_ret
    all_goals exact ⟨rfl, rfl⟩
  · rw [if_neg (by omega), if_neg (by omega), if_neg (by omega)]
    have g : (1 : Int) ≤ op := by omega
    have g1 : (15 : Int) < op := by omega
    have g2 : (36 : Int) < (op : Int) := by omega
    go_enter Tryz.func69, Tryz.ntmps69
    go_wp2
    all_goals go_ret
    all_goals exact ⟨rfl, rfl⟩
set_option maxHeartbeats 8000000 in
set_option maxRecDepth 100000 in
theorem rname2_walk (op : Nat) (w : World) (h1 : 1 ≤ op) (h2 : op ≤ 36) : Calls Tryz.prog 40 #[.int .i64 (op : Int)] w fun e w' => e = .returned (.string (bt (opName op))) ∧ Below w.heap.size w w' := by
  have cN := Lib.hid (fun W => rnames_walk W)
  have cR := Lib.hid (fun W => rarity_walk op W (by omega))
  rw [if_neg (by omega)] at cR
  have hc := row3_at (op - 1) (by omega)
  rw [show op - 1 + 1 = op by omega] at hc
  have E0 : Env w [(w.heap.size, row3)] (w.alloc (.cells row3 9)) := Env.nil.push _ rfl _ _
  have hc2 := (E0.h0.cell (op - 1)).trans hc
  have g1 : (1 : Int) ≤ op := by omega
  have g36 : (op : Int) ≤ 36 := by omega
  clear hc
  generalize bt (opName op) = x at *
  by_cases h15 : op ≤ 15
  · rw [if_pos h15] at cR
    go_enter Tryz.func40, Tryz.ntmps40
    go_wp2_with (first | (go_at_call 70; ((with_reducible refine (cN.out _).mono ?_); rintro e w' ⟨rfl, rfl⟩)) | (go_at_call 69; ((with_reducible refine (cR.out _).mono ?_); rintro e w' ⟨rfl, rfl⟩)))
    go_ret
    exact ⟨rfl, E0.acc⟩
  · rw [if_neg h15, if_pos h2] at cR
    go_enter Tryz.func40, Tryz.ntmps40
    go_wp2_with (first | (go_at_call 70; ((with_reducible refine (cN.out _).mono ?_); rintro e w' ⟨rfl, rfl⟩)) | (go_at_call 69; ((with_reducible refine (cR.out _).mono ?_); rintro e w' ⟨rfl, rfl⟩)))
    go_ret
    exact ⟨rfl, E0.acc⟩
set_option maxHeartbeats 8000000 in
set_option maxRecDepth 100000 in
theorem rname_walk (op : Nat) (w : World) (h1 : 1 ≤ op) (h2 : op ≤ 65) : Calls Tryz.prog 19 #[.int .i64 (op : Int)] w fun e w' => e = .returned (.string (bt (opName op))) ∧ Below w.heap.size w w' := by
  have g1 : (1 : Int) ≤ op := by omega
  have g65 : (op : Int) ≤ 65 := by omega
  by_cases h36 : op ≤ 36
  · have cN := Lib.hid (fun W => rname2_walk op W h1 h36)
    have g36 : (op : Int) ≤ 36 := by omega
    generalize bt (opName op) = x at *
    go_enter Tryz.func19, Tryz.ntmps19
    go_wp2_with (first | (go_at_call 40; ((with_reducible refine (cN.out _).mono ?_); rintro e w' ⟨rfl, b1⟩)))
    go_ret
    exact ⟨rfl, b1⟩
  · have g36 : (36 : Int) < (op : Int) := by omega
    have E0 : Env w [(w.heap.size, row4)] (w.alloc (.cells row4 9)) := Env.nil.push _ rfl _ _
    by_cases h40 : 40 ≤ op
    · have g40 : (40 : Int) ≤ op := by omega
      have hc := row4_at (op - 40) (by omega)
      rw [show op - 40 + 40 = op by omega] at hc
      have hc2 := (E0.h0.cell (op - 40)).trans hc
      rw [row4_lit] at hc2 E0
      clear hc
      generalize bt (opName op) = x at *
      go_enter Tryz.func19, Tryz.ntmps19
      go_wp2
      all_goals go_ret
      all_goals exact ⟨rfl, E0.acc⟩
    · have hnil : opName op = [] := by
        have : ∀ k, k < 40 → 36 < k → opName k = [] := by decide
        exact this op (by omega) (by omega)
      rw [hnil]
      rw [row4_lit] at E0
      have g40 : (op : Int) < 40 := by omega
      go_enter Tryz.func19, Tryz.ntmps19
      go_wp2
      all_goals go_ret
      all_goals exact ⟨rfl, E0.acc⟩
end Go.Proofs.YtlhhmlfcodmebaaGreatDoor.Wd
