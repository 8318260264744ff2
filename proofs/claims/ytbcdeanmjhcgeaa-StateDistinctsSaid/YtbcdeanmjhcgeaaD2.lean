/- The reference's Distinct: the same numbers. The states lie in a row; each is read as a key. -/
import Derived.Test.YtbcdeanmjhcgeaaD1
import Derived.Deep.RegionHeld3
import Derived.Laws.StructEq
namespace Go.Proofs.Ytbcdeanmjhcgeaa.Di
open Go.RowKit Go.Maps
set_option linter.unusedSimpArgs false
theorem exec_eq {o : Oper} {ρ : Operand → Value} {x y : Operand} {T : TypeId} {c1 c2 : Array Value} (ho : o.op = .binOp .eql 36 x y T) (hx : ρ x = .agg c1) (hy : ρ y = .agg c2) {r : Bool}
    (h : ∀ w, (Op.equal 36 (.agg c1) (.agg c2)).run Try.prog w = .ok r w) (w : World) : (execOp ρ o).run Try.prog w = .ok (.value (.bool r)) w := by
  unfold execOp
  simp [ho, hx, hy, eqGuard, run_program, Try.eqGuardType36, binOp, h]
set_option maxHeartbeats 4000000 in
set_option maxRecDepth 100000 in
/-- The reference's walk. -/
theorem rdistinct_any (b off len cap : Nat) (C : Nat → Array Value) (K : Nat → Lit) (w : World) (hreach : len * 8 ≤ 140737488351232) (R : Row b off len C K w) :
    Calls Try.prog 5 #[.slice (some ⟨b, off, none⟩) len cap] w fun e w' => ∃ v, e = .returned (.tuple #[.int .i64 (dist (like K) len : Nat), v]) ∧ w'.ownsRow w.heap.size 3 1 v (fsts (like K) len).length ((fsts (like K) len).map (Value.int .i64)) ∧ Below w.heap.size w w' := by
  obtain ⟨i0, hi, hz0, hz1, hz2⟩ := info_parts info3
  go_enter Try.func5, Try.ntmps5
  go_wp2
  go_loopw [4, 5, 11] (fun v n i wr => ∃ k : Nat, k ≤ len ∧ i = .int .i64 k ∧ n = .int .i64 (dist (like K) k : Nat) ∧ wr.ownsRow w.heap.size 3 1 v (fsts (like K) k).length ((fsts (like K) k).map (Value.int .i64)) ∧ Below w.heap.size w wr)
    (fun _ _ i _ => len - (intOf i).toNat)
  case atStart => exact ⟨0, Nat.zero_le _, rfl, rfl, World.ownsRow_nil _ _ _ _, Below.refl _ _⟩
  case round =>
    obtain ⟨k, hk, rfl, rfl, hrow, hnx⟩ := hrel
    have hfl := fsts_len (e := like K) k
    have hdl := dist_le (e := like K) k
    obtain ⟨wo, rfl⟩ : ∃ wo : World, wo = wr := ⟨_, rfl⟩
    go_wp2
    · have hkl : k < len := by assumption
      have hrk := fun W (hb : Below wo.heap.size wo W) => range_below hb (range_below hnx (R.at_ k hkl) R.lt) (Nat.lt_of_lt_of_le R.lt hnx.size)
      have hsk := Lib.hid (R.size k hkl)
      have hkk := Lib.hid (R.key k hkl)
      go_loopw [7, 8] (fun at_ i wr => ∃ q : Nat, q ≤ k ∧ i = .int .i64 q ∧ at_ = .int .i64 k ∧ lk (like K) k q = none ∧ Below wo.heap.size wo wr) (fun _ i _ => k - (intOf i).toNat)
      case atStart => exact ⟨0, Nat.zero_le _, rfl, rfl, rfl, Below.refl _ _⟩
      case round =>
        obtain ⟨q, hq, rfl, rfl, hn, hin⟩ := hrel
        have hrow1 := hrow.kept (grown_of_below hin) (Classical.em _)
        have hsz1 := hin.size; have hsz0 := hnx.size
        go_wp2_with (first
          | (at_builtin; refine wpList_append_own _ rfl _ _ 23 rfl w.heap.size 3 i0 (.int .i64 0) 1 8 Try.underlying23 hi hz0 hz1 hz2 rfl (by decide) _ _ _ rfl (hrow1.alloc _) ⟨wr.heap.size, 0, none⟩ 1 1 [.int .i64 k] rfl rfl (cell_one_new _ _ _) (ints_oneCell .i64 [_]) (by unfold maxLen; omega) (by omega) (by simp; omega) ?_; intro v' w3 hown' hgrow3 hnil3)
          | go_in)
        · have hqk : q < k := by assumption
          have hql : q < len := by omega
          have hRq : wr.rangeAt b (off + q * 121) (C q).toList := range_below hin (range_below hnx (R.at_ q hql) R.lt) (Nat.lt_of_lt_of_le R.lt hnx.size)
          have hRk := hrk wr hin
          have hsq := Lib.hid (R.size q hql)
          have hEq : ∀ W, (Op.equal 36 (.agg (C q)) (.agg (C k))).run Try.prog W = .ok (like K q k) W := fun W => eqS (R.key q hql) hkk.out W
          generalize C q = cq at *
          generalize C k = ck at *
          refine wp_region_held_drew (S := (fun W => W.rangeAt b (off + q * 121) cq.toList ∧ W.rangeAt b (off + k * 121) ck.toList)) (by kernel_rfl) ⟨by simpa using hRq, by simpa using hRk⟩ (fun hHeld => ?_)
          refine wpAnyH_take (i := 0) (v := ?_) rfl (by kernel_rfl) (by kernel_rfl) (by kernel_rfl) (fun _ _ _ h => h) (Or.inl ⟨by rfl, ?_⟩) (by assumption) ?_
          rotate_left
          · intro w hSw; (try dsimp only at hSw); go_simp <;> (try with_reducible rfl)
          simp only [Act.put, List.getElem_toArray, List.getElem_cons_zero, List.getElem_cons_succ, List.setIfInBounds_toArray, List.set_cons_zero, List.set_cons_succ]
          refine wpAnyH_take (i := 1) (v := ?_) rfl (by kernel_rfl) (by kernel_rfl) (by kernel_rfl) (fun _ _ _ h => h) (Or.inl ⟨by rfl, ?_⟩) (by assumption) ?_
          rotate_left
          · intro w hSw; (try dsimp only at hSw); go_simp <;> (try with_reducible rfl)
          simp only [Act.put, List.getElem_toArray, List.getElem_cons_zero, List.getElem_cons_succ, List.setIfInBounds_toArray, List.set_cons_zero, List.set_cons_succ]
          refine wpAnyH_take (i := 2) (v := ?_) rfl (by kernel_rfl) (by kernel_rfl) (by kernel_rfl) (fun _ _ _ h => h) (Or.inl ⟨by rfl, ?_⟩) (by assumption) ?_
          rotate_left
          · intro w hSw; (try dsimp only at hSw); go_simp <;> (try with_reducible rfl)
          simp only [Act.put, List.getElem_toArray, List.getElem_cons_zero, List.getElem_cons_succ, List.setIfInBounds_toArray, List.set_cons_zero, List.set_cons_succ]
          refine wpAnyH_take (i := 3) (v := .agg cq.toList.toArray) rfl (by kernel_rfl) (by kernel_rfl) (by kernel_rfl) (fun _ _ _ h => h) (yieldsIf_load_mid (by rfl) 36 _ rfl b (off + q * 121) rfl cq.toList _ (fun w h => h.1) Try.underlying36 rfl (by rw [size32, Array.length_toList, hsq.out])) (by assumption) ?_
          simp only [Act.put, List.getElem_toArray, List.getElem_cons_zero, List.getElem_cons_succ, List.setIfInBounds_toArray, List.set_cons_zero, List.set_cons_succ]
          refine wpAnyH_take (i := 4) (v := ?_) rfl (by kernel_rfl) (by kernel_rfl) (by kernel_rfl) (fun _ _ _ h => h) (Or.inl ⟨by rfl, ?_⟩) (by assumption) ?_
          rotate_left
          · intro w hSw; (try dsimp only at hSw); go_simp <;> (try with_reducible rfl)
          simp only [Act.put, List.getElem_toArray, List.getElem_cons_zero, List.getElem_cons_succ, List.setIfInBounds_toArray, List.set_cons_zero, List.set_cons_succ]
          refine wpAnyH_take (i := 5) (v := ?_) rfl (by kernel_rfl) (by kernel_rfl) (by kernel_rfl) (fun _ _ _ h => h) (Or.inl ⟨by rfl, ?_⟩) (by assumption) ?_
          rotate_left
          · intro w hSw; (try dsimp only at hSw); go_simp <;> (try with_reducible rfl)
          simp only [Act.put, List.getElem_toArray, List.getElem_cons_zero, List.getElem_cons_succ, List.setIfInBounds_toArray, List.set_cons_zero, List.set_cons_succ]
          refine wpAnyH_take (i := 6) (v := ?_) rfl (by kernel_rfl) (by kernel_rfl) (by kernel_rfl) (fun _ _ _ h => h) (Or.inl ⟨by rfl, ?_⟩) (by assumption) ?_
          rotate_left
          · intro w hSw; (try dsimp only at hSw); go_simp <;> (try with_reducible rfl)
          simp only [Act.put, List.getElem_toArray, List.getElem_cons_zero, List.getElem_cons_succ, List.setIfInBounds_toArray, List.set_cons_zero, List.set_cons_succ]
          refine wpAnyH_take (i := 7) (v := .agg ck.toList.toArray) rfl (by kernel_rfl) (by kernel_rfl) (by kernel_rfl) (fun _ _ _ h => h) (yieldsIf_load_mid (by rfl) 36 _ rfl b (off + k * 121) rfl ck.toList _ (fun w h => h.2) Try.underlying36 rfl (by rw [size32, Array.length_toList, hsk.out])) (by assumption) ?_
          simp only [Act.put, List.getElem_toArray, List.getElem_cons_zero, List.getElem_cons_succ, List.setIfInBounds_toArray, List.set_cons_zero, List.set_cons_succ]
          refine wpAnyH_take (i := 8) (v := .bool (like K q k)) rfl (by kernel_rfl) (by kernel_rfl) (by kernel_rfl) (fun _ _ _ h => h) (Or.inl ⟨by rfl, fun w _ => exec_eq (x := .tmp 23) (y := .tmp 27) (c1 := cq) (c2 := ck) rfl rfl rfl hEq w⟩) (by assumption) ?_
          simp only [Act.put, List.getElem_toArray, List.getElem_cons_zero, List.getElem_cons_succ, List.setIfInBounds_toArray, List.set_cons_zero, List.set_cons_succ]
          refine wpAnyH_done (by kernel_rfl) ?_ _
          go_wp2_with (first
            | (at_builtin; refine wpList_append_own _ rfl _ _ 23 rfl w.heap.size 3 i0 (.int .i64 0) 1 8 Try.underlying23 hi hz0 hz1 hz2 rfl (by decide) _ _ _ rfl (hrow1.alloc _) ⟨wr.heap.size, 0, none⟩ 1 1 [.int .i64 q] rfl rfl (cell_one_new _ _ _) (ints_oneCell .i64 [_]) (by unfold maxLen; omega) (by omega) (by simp; omega) ?_; intro v' w3 hown' hgrow3 hnil3)
            | go_in)
          · have hb2 := hnx.trans (hin.mono hnx.size)
            have hg : World.grownBy _ w3 u4.ownBlock := hgrow3
            have hlk : lk (like K) k (q + 1) = some q := lk_hit hn (by assumption)
            have s3 := hg.size
            simp at s3
            go_roundw
            case rel =>
              refine ⟨k + 1, by omega, by go_num, ?_, ?_, ((hb2.drew.alloc (by simp; omega) _).grown hg (by simp; omega) (fun j hj => (hrow1.lt j hj).1))⟩
              · rw [dist, lk_keep_le hlk (by omega)]; rfl
              · rw [fsts_succ, fs_of (by omega) hlk]
                simpa using hown'
            case measure => simp [intOf]; omega
          · go_roundw
            case rel => exact ⟨q + 1, by omega, by go_num, rfl, lk_miss hn (by assumption), hin.drew⟩
            case measure => simp [intOf]; omega
        · have hb2 := hnx.trans (hin.mono hnx.size)
          have hg : World.grownBy _ w3 u4.ownBlock := hgrow3
          have hkl : k < len := by assumption
          have hlk : lk (like K) k k = none := by rw [← show q = k by omega]; first | exact hn | (rw [show q = k by omega]; rw [show q = k by omega] at hn; exact hn)
          have hkk : like K k k = true := by unfold like; exact WideAt.sameKey_self (R.isKey k)
          have s3 := hg.size
          simp at s3
          go_roundw
          case rel =>
            refine ⟨k + 1, by omega, by go_num, by simp [dist, hlk], ?_, ((hb2.alloc (by omega) _).grown hg (by simp; omega) (fun j hj => (hrow1.lt j hj).1))⟩
            rw [fsts_succ, fs_self hkk hlk]
            simpa using hown'
          case measure => simp [intOf]; omega
    · have : k = len := by omega
      subst this
      refine bodyPost_ret (v := .tuple #[.int .i64 (dist (like K) k : Nat), _]) (by simp [results, Try.results5]) rfl ⟨_, rfl, hrow, hnx⟩
end Go.Proofs.Ytbcdeanmjhcgeaa.Di
