/- StateTexts, walked: two states that came in. The condition: what FormatInt and Itoa give. -/
import Derived.Test.YtbcdeanmjhcgeaaDoorZa
import Derived.Test.YtbcdeanmjhcgeaaDoorZTl0
import Derived.Test.YtbcdeanmjhcgeaaDoorZTw
import Derived.Test.YtbcdeanmjhcgeaaDoorZTr
import Derived.Test.YtbcdeanmjhcgeaaDoorZLw
import Derived.Deep.RegionHeld3
namespace Go.Proofs.YtbcdeanmjhcgeaaDoor.Tx
set_option linter.unusedVariables false
set_option linter.unusedSimpArgs false
open Go.RowKit Go.WideShapes Go.ChangeShapes
open Go.Lib (itoa)
open Go.Proofs.YtbcdeanmjhcgeaaDoor.Pg
set_option linter.unusedVariables false
set_option linter.unusedSimpArgs false
theorem bs_list (l : List UInt8) : (bs l).toList = l := by rw [ByteArray.toList_eq]; simp [bs]
theorem exec_load {P : Program} {op : Oper} {a : Act} {w : World} (ty : TypeId) (x : Operand) (ho : op.op = .load ty x) (p : Value) (hx : a.eval x = p) (v : Value) (hr : (Instr.loadAt ty p).run P w = .ok v w) : (execOp a.eval op).run P w = .ok (.value v) w := by
  unfold execOp
  simp only [ho, hx, Sem.run_bind, Sem.run_pure, Result.andThen_ok, hr]
theorem load_all {b : Nat} {arr : Array Value} {W : World} (y : ∀ o, W.cell? ⟨b, o, none⟩ = arr[o]?) (hs : arr.size = 121) : (Instr.loadAt 32 (.pointer (some ⟨b, 0, none⟩))).run Tryd.prog W = .ok (.agg arr) W := by
  simpa using run_loadAt_mid W b 0 32 arr.toList _ (fun j v hv => by rw [Nat.zero_add, y j]; simpa using hv) Tryd.underlying32 rfl (by rw [size32, Array.length_toList, hs])
set_option maxHeartbeats 8000000 in
set_option maxRecDepth 100000 in
theorem texts_walk0 (s t : St) (hs : s.ok) (ht : t.ok) (w : World) (hT : Told w) (r : Bool) (hr : ∀ W, (Op.equalIn 10000 32 (.agg s.cs.toArray) (.agg t.cs.toArray)).run Tryd.prog W = .ok r W) (hz : ((bs (txt (nums s))).toList == (bs (txt (nums t))).toList) = r) :
    Calls Tryd.prog 3 #[s.v, t.v] w fun e w' => e = .returned (.bool true) ∧ Below w.heap.size w w' := by
  have cL := Lib.hid (fun W => live_walk s hs W)
  have cR := Lib.hid (fun W => rlive_walk s hs W)
  have cI := Lib.hid (fun a b c d W h1 h2 => sameints_walk (lives s 6) (by have := lives_len s 6; omega) a b c d W h1 h2)
  have cT := Lib.hid (fun W (hb : Below w.heap.size w W) => text_walk s hs W (hT.below hb).fi)
  have cV := Lib.hid (fun W (hb : Below w.heap.size w W) => text_walk t ht W (hT.below hb).fi)
  have cU := Lib.hid (fun W (hb : Below w.heap.size w W) => rtext_walk s hs W (hT.below hb))
  have ha : s.cs.toArray.size = 121 := by simpa using St.cs_len hs
  have hb : t.cs.toArray.size = 121 := by simpa using St.cs_len ht
  have hLA := Lib.hid (fun b W y => load_all (b := b) (W := W) y ha)
  have hLB := Lib.hid (fun b W y => load_all (b := b) (W := W) y hb)
  unfold St.v at *
  generalize s.cs.toArray = ga at *
  generalize t.cs.toArray = gb at *
  change @Hid (∀ W, Below w.heap.size w W → Calls Tryd.prog 13 #[.agg ga] W fun e w' => e = .returned (.string (bs (txt (nums s)))) ∧ Below W.heap.size W w') at cT
  change @Hid (∀ W, Below w.heap.size w W → Calls Tryd.prog 13 #[.agg gb] W fun e w' => e = .returned (.string (bs (txt (nums t)))) ∧ Below W.heap.size W w') at cV
  generalize bs (txt (nums s)) = z at *
  generalize bs (txt (nums t)) = z' at *
  generalize (lives s 6).length = m at *
  generalize (lives s 6).map (Value.int .i64) = lv at *
  replace ha := Lib.hid ha
  replace hb := Lib.hid hb
  clear hT
  go_enter Tryd.func3, Tryd.ntmps3
  have E0 := ((Env.nil (w := w)).push w.heap.size rfl ga 32).push (w.heap.size + 1) (by simp) gb 32
  go_wp2
  refine wp_region_held_drew (S := (fun W => (∀ o, W.cell? ⟨w.heap.size, o, none⟩ = ga[o]?) ∧ ∀ o, W.cell? ⟨w.heap.size + 1, o, none⟩ = gb[o]?)) (by kernel_rfl) ⟨E0.tl.h0.cell, E0.h0.cell⟩ (fun hHeld => ?_)
  have E1 := E0.drew
  clear E0
  refine wpAnyH_take (i := 0) (v := .agg ga) rfl (by kernel_rfl) (by kernel_rfl) (by kernel_rfl) (fun _ _ _ h => h) (Or.inl ⟨by rfl, fun W hW => exec_load 32 (.tmp 2) rfl (.pointer (some ⟨w.heap.size, 0, none⟩)) rfl _ (hLA.out _ _ hW.1)⟩) (by assumption) ?_
  simp only [Act.put, List.getElem_toArray, List.getElem_cons_zero, List.getElem_cons_succ, List.setIfInBounds_toArray, List.set_cons_zero, List.set_cons_succ]
  refine wpAnyH_take (i := 2) (v := .agg ga) rfl (by kernel_rfl) (by kernel_rfl) (by kernel_rfl) (fun _ _ _ h => h) (Or.inl ⟨by rfl, fun W hW => exec_load 32 (.tmp 2) rfl (.pointer (some ⟨w.heap.size, 0, none⟩)) rfl _ (hLA.out _ _ hW.1)⟩) (by assumption) ?_
  simp only [Act.put, List.getElem_toArray, List.getElem_cons_zero, List.getElem_cons_succ, List.setIfInBounds_toArray, List.set_cons_zero, List.set_cons_succ]
  refine wpAnyH_ready (rs := [1]) (by kernel_rfl) (by simp) (AllReadyH.cons rfl (fun K hK => ?_) AllReadyH.nil)
  go_simp
  ((go_at_call 11; ((with_reducible refine (cL.out _).mono ?_); rintro e w' ⟨a1, c1, rfl, l1, hb1⟩)))
  try go_wp2_with fail
  have E2 := E1.next hb1
  refine hK.out _ _ ⟨E2.tl.h0.cell, E2.h0.cell⟩ (fun hHeld1 => ?_)
  clear hK K
  try simp only [Act.put, List.getElem_toArray, List.getElem_cons_zero, List.getElem_cons_succ, List.setIfInBounds_toArray, List.set_cons_zero, List.set_cons_succ]
  refine wpAnyH_ready (rs := [3]) (by kernel_rfl) (by simp) (AllReadyH.cons rfl (fun K hK => ?_) AllReadyH.nil)
  go_simp
  ((go_at_call 12; ((with_reducible refine (cR.out _).mono ?_); rintro e w' ⟨a2, c2, rfl, l2, hb2⟩)))
  try go_wp2_with fail
  have E3 := E2.next hb2
  refine hK.out _ _ ⟨E3.tl.h0.cell, E3.h0.cell⟩ (fun hHeld2 => ?_)
  clear hK K
  try simp only [Act.put, List.getElem_toArray, List.getElem_cons_zero, List.getElem_cons_succ, List.setIfInBounds_toArray, List.set_cons_zero, List.set_cons_succ]
  have l1 := l1.below hb2
  refine wpAnyH_ready (rs := [4]) (by kernel_rfl) (by simp) (AllReadyH.cons rfl (fun K hK => ?_) AllReadyH.nil)
  go_simp
  ((go_at_call 10; ((with_reducible refine (cI.out _ _ _ _ _ l1 l2).mono ?_); rintro e w' ⟨rfl, hb3⟩)))
  try go_wp2_with fail
  have E4 := E3.next hb3
  refine hK.out _ _ ⟨E4.tl.h0.cell, E4.h0.cell⟩ (fun hHeld3 => ?_)
  clear hK K
  try simp only [Act.put, List.getElem_toArray, List.getElem_cons_zero, List.getElem_cons_succ, List.setIfInBounds_toArray, List.set_cons_zero, List.set_cons_succ]
  refine wpAnyH_take (i := 5) (v := ?_) rfl (by kernel_rfl) (by kernel_rfl) (by kernel_rfl) (fun _ _ _ h => h) (Or.inl ⟨by rfl, ?_⟩) (by assumption) ?_
  rotate_left
  · intro w hSw; (try dsimp only at hSw); go_simp <;> (try with_reducible rfl)
  simp only [Act.put, List.getElem_toArray, List.getElem_cons_zero, List.getElem_cons_succ, List.setIfInBounds_toArray, List.set_cons_zero, List.set_cons_succ]
  refine wpAnyH_take (i := 6) (v := .agg ga) rfl (by kernel_rfl) (by kernel_rfl) (by kernel_rfl) (fun _ _ _ h => h) (Or.inl ⟨by rfl, fun W hW => exec_load 32 (.tmp 2) rfl (.pointer (some ⟨w.heap.size, 0, none⟩)) rfl _ (hLA.out _ _ hW.1)⟩) (by assumption) ?_
  simp only [Act.put, List.getElem_toArray, List.getElem_cons_zero, List.getElem_cons_succ, List.setIfInBounds_toArray, List.set_cons_zero, List.set_cons_succ]
  refine wpAnyH_take (i := 8) (v := .agg ga) rfl (by kernel_rfl) (by kernel_rfl) (by kernel_rfl) (fun _ _ _ h => h) (Or.inl ⟨by rfl, fun W hW => exec_load 32 (.tmp 2) rfl (.pointer (some ⟨w.heap.size, 0, none⟩)) rfl _ (hLA.out _ _ hW.1)⟩) (by assumption) ?_
  simp only [Act.put, List.getElem_toArray, List.getElem_cons_zero, List.getElem_cons_succ, List.setIfInBounds_toArray, List.set_cons_zero, List.set_cons_succ]
  refine wpAnyH_ready (rs := [7]) (by kernel_rfl) (by simp) (AllReadyH.cons rfl (fun K hK => ?_) AllReadyH.nil)
  go_simp
  ((go_at_call 13; ((with_reducible refine (cT.out _ E4.acc).mono ?_); rintro e w' ⟨rfl, hb4⟩)))
  try go_wp2_with fail
  have E5 := E4.next hb4
  refine hK.out _ _ ⟨E5.tl.h0.cell, E5.h0.cell⟩ (fun hHeld4 => ?_)
  clear hK K
  try simp only [Act.put, List.getElem_toArray, List.getElem_cons_zero, List.getElem_cons_succ, List.setIfInBounds_toArray, List.set_cons_zero, List.set_cons_succ]
  refine wpAnyH_ready (rs := [9]) (by kernel_rfl) (by simp) (AllReadyH.cons rfl (fun K hK => ?_) AllReadyH.nil)
  go_simp
  ((go_at_call 14; ((with_reducible refine (cU.out _ E5.acc).mono ?_); rintro e w' ⟨rfl, hb5⟩)))
  try go_wp2_with fail
  have E6 := E5.next hb5
  refine hK.out _ _ ⟨E6.tl.h0.cell, E6.h0.cell⟩ (fun hHeld5 => ?_)
  clear hK K
  try simp only [Act.put, List.getElem_toArray, List.getElem_cons_zero, List.getElem_cons_succ, List.setIfInBounds_toArray, List.set_cons_zero, List.set_cons_succ]
  refine wpAnyH_take (i := 10) (v := ?_) rfl (by kernel_rfl) (by kernel_rfl) (by kernel_rfl) (fun _ _ _ h => h) (Or.inl ⟨by rfl, ?_⟩) (by assumption) ?_
  rotate_left
  · intro w hSw; (try dsimp only at hSw); go_simp <;> (try with_reducible rfl)
  simp only [Act.put, List.getElem_toArray, List.getElem_cons_zero, List.getElem_cons_succ, List.setIfInBounds_toArray, List.set_cons_zero, List.set_cons_succ]
  refine wpAnyH_take (i := 11) (v := ?_) rfl (by kernel_rfl) (by kernel_rfl) (by kernel_rfl) (fun _ _ _ h => h) (Or.inl ⟨by rfl, ?_⟩) (by assumption) ?_
  rotate_left
  · intro w hSw; (try dsimp only at hSw); go_simp <;> (try with_reducible rfl)
  simp only [Act.put, List.getElem_toArray, List.getElem_cons_zero, List.getElem_cons_succ, List.setIfInBounds_toArray, List.set_cons_zero, List.set_cons_succ]
  refine wpAnyH_take (i := 12) (v := ?_) rfl (by kernel_rfl) (by kernel_rfl) (by kernel_rfl) (fun _ _ _ h => h) (Or.inl ⟨by rfl, ?_⟩) (by assumption) ?_
  rotate_left
  · intro w hSw; (try dsimp only at hSw); go_simp <;> (try with_reducible rfl)
  simp only [Act.put, List.getElem_toArray, List.getElem_cons_zero, List.getElem_cons_succ, List.setIfInBounds_toArray, List.set_cons_zero, List.set_cons_succ]
  refine wpAnyH_take (i := 13) (v := .agg ga) rfl (by kernel_rfl) (by kernel_rfl) (by kernel_rfl) (fun _ _ _ h => h) (Or.inl ⟨by rfl, fun W hW => exec_load 32 (.tmp 2) rfl (.pointer (some ⟨w.heap.size, 0, none⟩)) rfl _ (hLA.out _ _ hW.1)⟩) (by assumption) ?_
  simp only [Act.put, List.getElem_toArray, List.getElem_cons_zero, List.getElem_cons_succ, List.setIfInBounds_toArray, List.set_cons_zero, List.set_cons_succ]
  refine wpAnyH_take (i := 15) (v := .agg gb) rfl (by kernel_rfl) (by kernel_rfl) (by kernel_rfl) (fun _ _ _ h => h) (Or.inl ⟨by rfl, fun W hW => exec_load 32 (.tmp 3) rfl (.pointer (some ⟨w.heap.size + 1, 0, none⟩)) rfl _ (hLB.out _ _ hW.2)⟩) (by assumption) ?_
  simp only [Act.put, List.getElem_toArray, List.getElem_cons_zero, List.getElem_cons_succ, List.setIfInBounds_toArray, List.set_cons_zero, List.set_cons_succ]
  refine wpAnyH_take (i := 18) (v := .agg ga) rfl (by kernel_rfl) (by kernel_rfl) (by kernel_rfl) (fun _ _ _ h => h) (Or.inl ⟨by rfl, fun W hW => exec_load 32 (.tmp 2) rfl (.pointer (some ⟨w.heap.size, 0, none⟩)) rfl _ (hLA.out _ _ hW.1)⟩) (by assumption) ?_
  simp only [Act.put, List.getElem_toArray, List.getElem_cons_zero, List.getElem_cons_succ, List.setIfInBounds_toArray, List.set_cons_zero, List.set_cons_succ]
  refine wpAnyH_take (i := 19) (v := .agg gb) rfl (by kernel_rfl) (by kernel_rfl) (by kernel_rfl) (fun _ _ _ h => h) (Or.inl ⟨by rfl, fun W hW => exec_load 32 (.tmp 3) rfl (.pointer (some ⟨w.heap.size + 1, 0, none⟩)) rfl _ (hLB.out _ _ hW.2)⟩) (by assumption) ?_
  simp only [Act.put, List.getElem_toArray, List.getElem_cons_zero, List.getElem_cons_succ, List.setIfInBounds_toArray, List.set_cons_zero, List.set_cons_succ]
  refine wpAnyH_take (i := 20) (v := ?_) rfl (by kernel_rfl) (by kernel_rfl) (by kernel_rfl) (fun _ _ _ h => h) (Or.inl ⟨by rfl, ?_⟩) (by assumption) ?_
  rotate_left
  · intro w hSw; (try dsimp only at hSw); go_simp <;> (try with_reducible rfl)
  simp only [Act.put, List.getElem_toArray, List.getElem_cons_zero, List.getElem_cons_succ, List.setIfInBounds_toArray, List.set_cons_zero, List.set_cons_succ]
  refine wpAnyH_ready (rs := [14]) (by kernel_rfl) (by simp) (AllReadyH.cons rfl (fun K hK => ?_) AllReadyH.nil)
  go_simp
  ((go_at_call 13; ((with_reducible refine (cT.out _ E6.acc).mono ?_); rintro e w' ⟨rfl, hb6⟩)))
  try go_wp2_with fail
  have E7 := E6.next hb6
  refine hK.out _ _ ⟨E7.tl.h0.cell, E7.h0.cell⟩ (fun hHeld6 => ?_)
  clear hK K
  try simp only [Act.put, List.getElem_toArray, List.getElem_cons_zero, List.getElem_cons_succ, List.setIfInBounds_toArray, List.set_cons_zero, List.set_cons_succ]
  refine wpAnyH_ready (rs := [16]) (by kernel_rfl) (by simp) (AllReadyH.cons rfl (fun K hK => ?_) AllReadyH.nil)
  go_simp
  ((go_at_call 13; ((with_reducible refine (cV.out _ E7.acc).mono ?_); rintro e w' ⟨rfl, hb7⟩)))
  try go_wp2_with fail
  have E8 := E7.next hb7
  refine hK.out _ _ ⟨E8.tl.h0.cell, E8.h0.cell⟩ (fun hHeld7 => ?_)
  clear hK K
  try simp only [Act.put, List.getElem_toArray, List.getElem_cons_zero, List.getElem_cons_succ, List.setIfInBounds_toArray, List.set_cons_zero, List.set_cons_succ]
  refine wpAnyH_take (i := 17) (v := ?_) rfl (by kernel_rfl) (by kernel_rfl) (by kernel_rfl) (fun _ _ _ h => h) (Or.inl ⟨by rfl, ?_⟩) (by assumption) ?_
  rotate_left
  · intro w hSw; (try dsimp only at hSw); go_simp <;> (try with_reducible rfl)
  simp only [Act.put, List.getElem_toArray, List.getElem_cons_zero, List.getElem_cons_succ, List.setIfInBounds_toArray, List.set_cons_zero, List.set_cons_succ]
  refine wpAnyH_take (i := 21) (v := ?_) rfl (by kernel_rfl) (by kernel_rfl) (by kernel_rfl) (fun _ _ _ h => h) (Or.inl ⟨by rfl, ?_⟩) (by assumption) ?_
  rotate_left
  · intro w hSw; (try dsimp only at hSw); go_simp <;> (try with_reducible rfl)
  simp only [Act.put, List.getElem_toArray, List.getElem_cons_zero, List.getElem_cons_succ, List.setIfInBounds_toArray, List.set_cons_zero, List.set_cons_succ]
  refine wpAnyH_take (i := 22) (v := ?_) rfl (by kernel_rfl) (by kernel_rfl) (by kernel_rfl) (fun _ _ _ h => h) (Or.inl ⟨by rfl, ?_⟩) (by assumption) ?_
  rotate_left
  · intro w hSw; (try dsimp only at hSw); go_simp <;> (try with_reducible rfl)
  simp only [Act.put, List.getElem_toArray, List.getElem_cons_zero, List.getElem_cons_succ, List.setIfInBounds_toArray, List.set_cons_zero, List.set_cons_succ]
  refine wpAnyH_take (i := 23) (v := ?_) rfl (by kernel_rfl) (by kernel_rfl) (by kernel_rfl) (fun _ _ _ h => h) (Or.inl ⟨by rfl, ?_⟩) (by assumption) ?_
  rotate_left
  · intro w hSw; (try dsimp only at hSw); go_simp <;> (try with_reducible rfl)
  simp only [Act.put, List.getElem_toArray, List.getElem_cons_zero, List.getElem_cons_succ, List.setIfInBounds_toArray, List.set_cons_zero, List.set_cons_succ]
  refine wpAnyH_done (by kernel_rfl) ?_ _
  go_wp2
  go_ret
  exact ⟨by simp [hz], E8.acc⟩
theorem texts_walk (s t : St) (hs : s.ok) (ht : t.ok) (w : World) (hT : Told w) : Calls Tryd.prog 3 #[s.v, t.v] w fun e w' => e = .returned (.bool true) ∧ Below w.heap.size w w' := by
  by_cases h : s = t
  · refine texts_walk0 s t hs ht w hT true (fun W => ?_) (by rw [h]; simp)
    obtain ⟨r, h1, h2⟩ := eq_two hs ht W
    rw [h1, h2.2 h]
  · refine texts_walk0 s t hs ht w hT false (fun W => ?_) ?_
    · obtain ⟨r, h1, h2⟩ := eq_two hs ht W
      rw [h1]
      cases r with
      | false => rfl
      | true => exact absurd (h2.1 rfl) h
    · rw [bs_list, bs_list, beq_eq_false_iff_ne]
      exact fun e => h ((text_iff hs ht).1 e)
end Go.Proofs.YtbcdeanmjhcgeaaDoor.Tx
