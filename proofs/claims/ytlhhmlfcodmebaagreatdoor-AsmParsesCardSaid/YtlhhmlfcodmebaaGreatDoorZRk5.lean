/- A line taken by the reference, walked: an instruction. The condition: the program's lists in memory. -/
import Derived.Test.YtlhhmlfcodmebaaGreatDoorZu
import Derived.Test.YtlhhmlfcodmebaaGreatDoorZVh
import Derived.Deep.RegionHeld3
namespace Go.Proofs.YtlhhmlfcodmebaaGreatDoor.Pg
set_option linter.unusedVariables false
set_option linter.unusedSimpArgs false
open Go.RowKit Go.WideShapes Go.ChangeShapes
open Go.Proofs.YtlhhmlfcodmebaaGreatDoor.Wd (drop_at)
set_option linter.unusedVariables false
set_option linter.unusedSimpArgs false
def yarr (pre : List Int) : Array Value := #[.int .i64 (pre.getD 0 0), .int .i64 (pre.getD 1 0), .int .i64 (pre.getD 2 0), .int .i64 (pre.getD 3 0)]
/-- Half way through an instruction's letters. -/
structure Hy (W : World) (D : Nat) (L : List UInt8) (xs : List Int) (k m : Nat) (pre : List Int) (wr : World) : Prop where
  le : k ≤ 4
  len : pre.length = k
  sum : m + nd (L.drop k) = xs.length
  acc : Below W.heap.size W wr
  blk : Blk D (yarr pre) wr
  out : spread L xs = pre ++ spread (L.drop k) (xs.drop m)
  i64 : ∀ x ∈ pre, I64 x
theorem yarr_zero (pre : List Int) : yarr (pre ++ [0]) = yarr pre := by
  have e : ∀ j, (pre ++ [0]).getD j 0 = pre.getD j 0 := fun j => by
    simp only [List.getD_eq_getElem?_getD]
    rcases Nat.lt_or_ge j pre.length with q | q
    · rw [List.getElem?_append_left q]
    · rw [List.getElem?_append_right q, List.getElem?_eq_none (l := pre) q]
      rcases Nat.eq_zero_or_pos (j - pre.length) with z | z
      · rw [z]; rfl
      · rw [List.getElem?_eq_none (by simp; omega)]
  unfold yarr
  simp only [e]
theorem yarr_set (k : Nat) (pre : List Int) (n : Int) (hl : pre.length = k) (hk : k < 4) : (yarr pre).setIfInBounds k (.int .i64 n) = yarr (pre ++ [n]) := by
  match pre, hl with
  | [], hl => subst hl; rfl
  | [_], hl => subst hl; rfl
  | [_, _], hl => subst hl; rfl
  | [_, _, _], hl => subst hl; rfl
  | _ :: _ :: _ :: _ :: _, hl => simp at hl; omega
theorem yarr_at (k : Nat) (pre : List Int) (hl : pre.length = k) (hk : k < 4) : (yarr pre)[k]? = some (.int .i64 0) := by
  match pre, hl with
  | [], hl => subst hl; rfl
  | [_], hl => subst hl; rfl
  | [_, _], hl => subst hl; rfl
  | [_, _, _], hl => subst hl; rfl
  | _ :: _ :: _ :: _ :: _, hl => simp at hl; omega
theorem Hy.dash {W wr : World} {D k m : Nat} {L : List UInt8} {xs pre : List Int} (h : Hy W D L xs k m pre wr) (hd : L.drop k = 45 :: L.drop (k + 1)) (hk : k < 4) : Hy W D L xs (k + 1) m (pre ++ [0]) wr := by
  have hs := h.sum
  rw [hd, nd_dash] at hs
  refine ⟨by omega, by rw [List.length_append, h.len]; rfl, hs, h.acc, by rw [yarr_zero]; exact h.blk, ?_, fun x hx => ?_⟩
  · rw [h.out, hd, spread, if_pos rfl, List.append_assoc]
    rfl
  · rcases List.mem_append.1 hx with q | q
    · exact h.i64 x q
    · simp at q; subst q; exact ⟨by decide, by decide⟩
theorem Hy.word {W wr W4 : World} {D k m : Nat} {L : List UInt8} {xs pre : List Int} {c : UInt8} (h : Hy W D L xs k m pre wr) (hd : L.drop k = c :: L.drop (k + 1)) (hc : c ≠ 45) (hk : k < 4) (hD : W.heap.size ≤ D) (hx : ∀ x ∈ xs, I64 x) (hb : Below wr.heap.size wr W4) :
    ∃ hm : m < xs.length, Hy W D L xs (k + 1) (m + 1) (pre ++ [xs[m]]) (W4.setCell ⟨D, k, none⟩ (.int .i64 xs[m])) := by
  have hs := h.sum
  rw [hd, nd_word c _ hc] at hs
  have hm : m < xs.length := by omega
  refine ⟨hm, by omega, by rw [List.length_append, h.len]; rfl, by omega, (h.acc.trans (hb.mono h.acc.size)).setCell hD _, ?_, ?_, fun x hx' => ?_⟩
  · have hB := (h.blk.below hb).set k (by unfold yarr; simp; omega) (.int .i64 xs[m])
    rwa [yarr_set k pre _ h.len hk] at hB
  · rw [h.out, hd, spread, if_neg hc, List.append_assoc, List.drop_eq_getElem_cons hm]
    rfl
  · rcases List.mem_append.1 hx' with q | q
    · exact h.i64 x q
    · simp at q; subst q; exact hx _ (List.getElem_mem _)
set_option maxHeartbeats 8000000 in
set_option maxRecDepth 100000 in
theorem rtaken_code (n0 N cap : Nat) (p : Pg) (op : Nat) (a : Option Addr) (xs : List Int) (W : World) (R : Rws n0 p.rows W) (F : p.Few N) (hn : n0 ≤ W.heap.size) (X : Xs a xs W) (hc : xs.length ≤ cap) (hN : N ≤ 1000000) (fs : List Fn) (f : Fn) (hp : p.funcs = fs ++ [f])
    (hop : (form op).size = 4) (hop1 : op ≤ 65) (hxl : xs.length = (lets 10 op).length) :
    Calls Tryz.prog 32 #[p.v, .int .i64 10, .int .i64 (op : Int), .slice a xs.length cap] W (Tkn n0 N W (taken p.bare 10 op xs)) := by
  have H := Hs.new R F hn zro
  have b0 : Below n0 W ((W.alloc (.cells p.cs.toArray 26)).alloc (.cells zro.cs.toArray 26)) := ((Below.refl _ _).alloc hn _).alloc (by simp; omega) _
  have hlf := F.lenF
  have hls := (F.funcs f (by rw [hp]; simp)).lenC
  have cF := Lib.hid (fun W => rform_walk (op : Int) W)
  unfold Pg.v
  unfold Pg.cs at H b0
  have hfl : p.funcs.length = fs.length + 1 := by rw [hp]; simp
  obtain ⟨b, L⟩ := rows_lastf H.rows (by simp [Pg.rows]) fs f hp
  rw [hfl] at hlf
  have hfa := L.fa
  rw [hfl] at H b0 L
  rw [hfl]
  rw [hfa] at H b0 L
  rw [hfa]
  simp only [zro, List.length_nil] at H b0 L
  have hlet := form_alets op
  have hl10 : lets 10 op = (form op).data.toList.filter (fun c => decide (c ≠ 45)) := rfl
  have hins : insOf op xs = ⟨op, (spread (form op).data.toList xs).getD 0 0, (spread (form op).data.toList xs).getD 1 0, (spread (form op).data.toList xs).getD 2 0, (spread (form op).data.toList xs).getD 3 0⟩ := rfl
  have hL4 : (form op).data.toList.length = 4 := by rw [Array.length_toList]; exact hop
  have hcn := count_nd (form op).data.toList
  rw [hl10] at hxl
  generalize form op = s at *
  have hsum : 0 + nd (s.data.toList.drop 0) = xs.length := by rw [List.drop_zero, hxl]; unfold nd; omega
  have hx4 : xs.length ≤ 4 := by rw [hxl]; exact Nat.le_trans (List.length_filter_le _ _) (by omega)
  clear hxl hcn hl10
  obtain ⟨q, hq⟩ : ∃ q, Hid (q = taken p.bare 10 op xs) := ⟨_, Lib.hid rfl⟩
  rw [← hq.out]
  replace hins := Lib.hid hins
  replace hlet := Lib.hid hlet
  have hx64 := X.i64
  go_enter Tryz.func32, Tryz.ntmps32
  go_wp2_with (go_at_call 18; ((with_reducible refine (cF.out _).mono ?_); rintro e w' ⟨rfl, hW⟩; have hW' := hW.symm; subst hW'))
  have hxa : ∀ O O', Below W.heap.size W ((W.alloc O).alloc O') := fun O O' => ((Below.refl _ _).alloc (Nat.le_refl _) O).alloc (by simp) O'
  replace hxa := hxa (.cells [.slice p.va p.vars.length p.vcap, .int .i64 p.locks, .slice p.ha p.chans.length p.hcap, .slice (some ⟨b, 0, none⟩) (fs.length + 1) p.fcap].toArray 26) (.cells [.slice none 0 0, .int .i64 0, .slice none 0 0, .slice none 0 0].toArray 26)
  have hW1 : ((W.alloc (.cells [.slice p.va p.vars.length p.vcap, .int .i64 p.locks, .slice p.ha p.chans.length p.hcap, .slice (some ⟨b, 0, none⟩) (fs.length + 1) p.fcap].toArray 26)).alloc (.cells [.slice none 0 0, .int .i64 0, .slice none 0 0, .slice none 0 0].toArray 26)).heap.size = W.heap.size + 1 + 1 := by simp
  generalize (W.alloc (.cells [.slice p.va p.vars.length p.vcap, .int .i64 p.locks, .slice p.ha p.chans.length p.hcap, .slice (some ⟨b, 0, none⟩) (fs.length + 1) p.fcap].toArray 26)).alloc (.cells [.slice none 0 0, .int .i64 0, .slice none 0 0, .slice none 0 0].toArray 26) = W1 at *
  have hwr : W.heap.size < W1.heap.size := by omega
  rw [← hW1]
  have H0 : Hy W1 W1.heap.size s.data.toList xs 0 0 [] (W1.alloc (.cells #[.int .i64 0, .int .i64 0, .int .i64 0, .int .i64 0] 130)) :=
    ⟨by omega, rfl, hsum, (Below.refl _ _).alloc (Nat.le_refl _) _, Blk.new _ _ _, by rw [List.drop_zero, List.drop_zero]; rfl, fun _ h => by cases h⟩
  generalize W1.alloc (.cells #[.int .i64 0, .int .i64 0, .int .i64 0, .int .i64 0] 130) = W2 at *
  have hD : W1.heap.size ≤ W1.heap.size := Nat.le_refl _
  generalize hDe : W1.heap.size = D at *
  generalize hre : W.heap.size = r at *
  clear hW1
  replace hDe := Lib.hid hDe
  replace hre := Lib.hid hre
  go_loopw [13, 14] (fun at' i wr => ∃ (k m : Nat) (pre : List Int), at' = .int .i64 m ∧ i = .int .i64 k ∧ Hy W1 D s.data.toList xs k m pre wr) (fun _ i _ => 4 - (intOf i).toNat)
  case atStart => exact ⟨0, 0, [], rfl, rfl, H0⟩
  case round =>
    obtain ⟨k, m, pre, rfl, rfl, Y⟩ := hrel
    have hk4 := Y.le
    by_cases hk : k < 4
    · have hd := drop_at s k (by omega)
      have hx := UInt8.toNat_lt s[k]
      by_cases h45 : s[k] = 45
      · have t45 : ((s[k].toNat : Int) != 45) = false := by rw [h45]; rfl
        rw [h45] at hd
        have Y1 := Y.dash hd hk
        clear hd h45
        go_wp2_with (fail)
        exact ⟨⟨k + 1, m, pre ++ [0], rfl, by go_num, Y1⟩, (by first | (simp [intOf]; done) | (simp [intOf]; omega) | omega)⟩
      · have t45 : ((s[k].toNat : Int) != 45) = true := by
          rw [bne_iff_ne]
          exact fun e => h45 (UInt8.toNat_inj.1 (by show s[k].toNat = 45; omega))
        obtain ⟨hm, Y1⟩ := Y.word (W4 := wr) hd h45 hk (Nat.le_of_eq hDe.out) hx64 (Below.refl _ _)
        have hne : xs ≠ [] := fun e => by rw [e] at hm; simp at hm
        obtain ⟨xb, rfl, hxl, hxc⟩ := X.at' hne
        have hcm := hxc m xs[m] (List.getElem?_eq_getElem hm)
        have hrr := hre.out
        have hDD := hDe.out
        rw [← hxa.cell (by show xb < r; omega), ← Y.acc.cell (by show xb < W1.heap.size; omega)] at hcm
        clear hrr hDD
        have dX := (Y.blk.cell k).trans (yarr_at k pre Y.len hk)
        have zX := Y.blk.fr
        have hm0 : (m : Int) < (xs.length : Int) := by omega
        have hmc : m + 1 ≤ 4 := by omega
        generalize xs[m] = n at *
        clear hxc X hd h45 hne Y
        go_wp2_with (fail)
        exact ⟨⟨k + 1, m + 1, pre ++ [n], by go_num, by go_num, Y1⟩, (by first | (simp [intOf]; done) | (simp [intOf]; omega) | omega)⟩
    · obtain rfl : k = 4 := by omega
      have hsp := Y.out
      rw [List.drop_eq_nil_of_le (show s.data.toList.length ≤ 4 by omega), spread, List.append_nil] at hsp
      have hxi := hins.out
      rw [hsp] at hxi
      have hok : (Ins.mk op (pre.getD 0 0) (pre.getD 1 0) (pre.getD 2 0) (pre.getD 3 0)).ok := by
        have hg : ∀ j, I64 (pre.getD j 0) := fun j => by
          rw [List.getD_eq_getElem?_getD]
          rcases Nat.lt_or_ge j pre.length with z | z
          · rw [List.getElem?_eq_getElem z]; exact Y.i64 _ (List.getElem_mem _)
          · rw [List.getElem?_eq_none z]; exact ⟨by decide, by decide⟩
        exact ⟨⟨by show -9223372036854775808 ≤ (op : Int); omega, by show (op : Int) ≤ 9223372036854775807; omega⟩, hg 0, hg 1, hg 2, hg 3⟩
      have B8 := Y.blk
      have acc := Y.acc
      unfold yarr at B8
      generalize pre.getD 0 0 = q0 at *
      generalize pre.getD 1 0 = q1 at *
      generalize pre.getD 2 0 = q2 at *
      generalize pre.getD 3 0 = q3 at *
      have H8 := H.below acc
      have hDD := hDe.out
      have b8 := b0.trans (acc.mono H.hi)
      have nb : b ≠ D := by have := L.lt; omega
      have nr : f.codeRow.blk ≠ some D := fun e => by
        have := (H.rows.blk_ge (row := f.codeRow) (List.mem_cons_of_mem _ (List.mem_append_left _ (last_mem p fs f hp (by simp [Fn.rows])))) e).2
        omega
      have L2 := (acc.cell (p := ⟨b, fs.length * 4 + 2, none⟩) (by simpa using L.lt)).trans L.c2
      have Llt : b < wr.heap.size := Nat.lt_of_lt_of_le L.lt acc.size
      have Lfr : ∀ o, wr.frozen? ⟨b, o, none⟩ = false := fun o => (acc.frozen (p := ⟨b, o, none⟩) (by simpa using L.lt)).trans (L.fr o)
      have z0 := B8.cell 0
      have z1 := B8.cell 1
      have z2 := B8.cell 2
      have z3 := B8.cell 3
      have zD := B8.lt
      replace z0 : wr.cell? ⟨D, 0, none⟩ = some (.int .i64 q0) := z0
      replace z1 : wr.cell? ⟨D, 1, none⟩ = some (.int .i64 q1) := z1
      replace z2 : wr.cell? ⟨D, 2, none⟩ = some (.int .i64 q2) := z2
      replace z3 : wr.cell? ⟨D, 3, none⟩ = some (.int .i64 q3) := z3
      replace hxi := Lib.hid hxi
      clear H acc hsp Y B8 H0 hDD hins hlet hsum
      have cA : ∀ O, (wr.alloc O).cell? ⟨b, fs.length * 4 + 2, none⟩ = some (.slice f.ca f.code.length f.ccap) := fun O => (((Below.refl wr.heap.size wr).alloc (Nat.le_refl _) O).cell (by simpa using Llt)).trans L2
      have H1 := H8.below (Below.drew (Below.refl _ _))
      have hne : f.codeRow.blk ≠ some b := H8.rows.ne _ (slf_last p fs f hp) (by simp [Row.blk, Pg.funcRow, hfa, Value.ownBlock])
      have dr : Below wr.heap.size wr wr.drew := Below.drew (Below.refl _ _)
      have KS := Lib.hid (fun W' (hb : Below wr.heap.size wr W') => (⟨(hb.cell (p := ⟨D, 0, none⟩) zD).trans z0, (hb.cell (p := ⟨D, 1, none⟩) zD).trans z1, (hb.cell (p := ⟨D, 2, none⟩) zD).trans z2, (hb.cell (p := ⟨D, 3, none⟩) zD).trans z3⟩ : W'.cell? ⟨D, 0, none⟩ = some (.int .i64 q0) ∧ W'.cell? ⟨D, 1, none⟩ = some (.int .i64 q1) ∧ W'.cell? ⟨D, 2, none⟩ = some (.int .i64 q2) ∧ W'.cell? ⟨D, 3, none⟩ = some (.int .i64 q3)))
      have KT := Lib.hid (fun (W' : World) (h : W'.cell? ⟨D, 0, none⟩ = some (.int .i64 q0) ∧ W'.cell? ⟨D, 1, none⟩ = some (.int .i64 q1) ∧ W'.cell? ⟨D, 2, none⟩ = some (.int .i64 q2) ∧ W'.cell? ⟨D, 3, none⟩ = some (.int .i64 q3)) (o : Nat) (v : Value) => (⟨(World.cell?_setCell_other _ _ _ _ (by simp only [ne_eq, Addr.mk.injEq]; exact fun e => nb e.1)).trans h.1, (World.cell?_setCell_other _ _ _ _ (by simp only [ne_eq, Addr.mk.injEq]; exact fun e => nb e.1)).trans h.2.1, (World.cell?_setCell_other _ _ _ _ (by simp only [ne_eq, Addr.mk.injEq]; exact fun e => nb e.1)).trans h.2.2.1, (World.cell?_setCell_other _ _ _ _ (by simp only [ne_eq, Addr.mk.injEq]; exact fun e => nb e.1)).trans h.2.2.2⟩ : (W'.setCell ⟨b, o, none⟩ v).cell? ⟨D, 0, none⟩ = some (.int .i64 q0) ∧ (W'.setCell ⟨b, o, none⟩ v).cell? ⟨D, 1, none⟩ = some (.int .i64 q1) ∧ (W'.setCell ⟨b, o, none⟩ v).cell? ⟨D, 2, none⟩ = some (.int .i64 q2) ∧ (W'.setCell ⟨b, o, none⟩ v).cell? ⟨D, 3, none⟩ = some (.int .i64 q3)))
      go_wp2_with (fail)
      refine wp_region_held_drew (S := (fun W' => W'.cell? ⟨D, 0, none⟩ = some (.int .i64 q0) ∧ W'.cell? ⟨D, 1, none⟩ = some (.int .i64 q1) ∧ W'.cell? ⟨D, 2, none⟩ = some (.int .i64 q2) ∧ W'.cell? ⟨D, 3, none⟩ = some (.int .i64 q3))) (by kernel_rfl) (KS.out _ dr) (fun hHeld => ?_)
      refine wpAnyH_take (i := 0) (v := ?_) rfl (by kernel_rfl) (by kernel_rfl) (by kernel_rfl) (fun _ _ _ h => h) (Or.inl ⟨by rfl, ?_⟩) (by assumption) ?_
      rotate_left
      · intro w hSw; (try dsimp only at hSw); go_simp <;> (try with_reducible rfl)
      simp only [Act.put, List.getElem_toArray, List.getElem_cons_zero, List.getElem_cons_succ, List.setIfInBounds_toArray, List.set_cons_zero, List.set_cons_succ]
      refine wpAnyH_take (i := 1) (v := ?_) rfl (by kernel_rfl) (by kernel_rfl) (by kernel_rfl) (fun _ _ _ h => h) (Or.inl ⟨by rfl, ?_⟩) (by assumption) ?_
      rotate_left
      · intro w hSw; (try dsimp only at hSw); go_simp <;> (try with_reducible rfl)
      simp only [Act.put, List.getElem_toArray, List.getElem_cons_zero, List.getElem_cons_succ, List.setIfInBounds_toArray, List.set_cons_zero, List.set_cons_succ]
      refine wpAnyH_take (i := 2) (v := ?_) rfl (by kernel_rfl) (by kernel_rfl) (by kernel_rfl) (fun _ _ _ h => h) (Or.inl ⟨by rfl, ?_⟩) (by assumption) ?_
      rotate_left
      · intro w hSw; (try dsimp only at hSw); go_simp <;> (try with_reducible rfl)
      simp only [Act.put, List.getElem_toArray, List.getElem_cons_zero, List.getElem_cons_succ, List.setIfInBounds_toArray, List.set_cons_zero, List.set_cons_succ]
      refine wpAnyH_take (i := 3) (v := ?_) rfl (by kernel_rfl) (by kernel_rfl) (by kernel_rfl) (fun _ _ _ h => h) (Or.inl ⟨by rfl, ?_⟩) (by assumption) ?_
      rotate_left
      · intro w hSw; (try dsimp only at hSw); go_simp <;> (try with_reducible rfl)
      simp only [Act.put, List.getElem_toArray, List.getElem_cons_zero, List.getElem_cons_succ, List.setIfInBounds_toArray, List.set_cons_zero, List.set_cons_succ]
      refine wpAnyH_take (i := 5) (v := ?_) rfl (by kernel_rfl) (by kernel_rfl) (by kernel_rfl) (fun _ _ _ h => h) (Or.inl ⟨by rfl, ?_⟩) (by assumption) ?_
      rotate_left
      · intro w hSw; (try dsimp only at hSw); go_simp <;> (try with_reducible rfl)
      simp only [Act.put, List.getElem_toArray, List.getElem_cons_zero, List.getElem_cons_succ, List.setIfInBounds_toArray, List.set_cons_zero, List.set_cons_succ]
      refine wpAnyH_take (i := 6) (v := ?_) rfl (by kernel_rfl) (by kernel_rfl) (by kernel_rfl) (fun _ _ _ h => h) (Or.inl ⟨by rfl, ?_⟩) (by assumption) ?_
      rotate_left
      · intro w hSw; (try dsimp only at hSw); go_simp <;> (try with_reducible rfl)
      simp only [Act.put, List.getElem_toArray, List.getElem_cons_zero, List.getElem_cons_succ, List.setIfInBounds_toArray, List.set_cons_zero, List.set_cons_succ]
      refine wpAnyH_take (i := 7) (v := ?_) rfl (by kernel_rfl) (by kernel_rfl) (by kernel_rfl) (fun _ _ _ h => h) (Or.inl ⟨by rfl, ?_⟩) (by assumption) ?_
      rotate_left
      · intro w hSw; (try dsimp only at hSw); obtain ⟨hw1, hw2, hw3, hw4⟩ := hSw; go_simp <;> (try with_reducible rfl)
      simp only [Act.put, List.getElem_toArray, List.getElem_cons_zero, List.getElem_cons_succ, List.setIfInBounds_toArray, List.set_cons_zero, List.set_cons_succ]
      refine wpAnyH_take (i := 8) (v := ?_) rfl (by kernel_rfl) (by kernel_rfl) (by kernel_rfl) (fun _ _ _ h => h) (Or.inl ⟨by rfl, ?_⟩) (by assumption) ?_
      rotate_left
      · intro w hSw; (try dsimp only at hSw); go_simp <;> (try with_reducible rfl)
      simp only [Act.put, List.getElem_toArray, List.getElem_cons_zero, List.getElem_cons_succ, List.setIfInBounds_toArray, List.set_cons_zero, List.set_cons_succ]
      refine wpAnyH_take (i := 9) (v := ?_) rfl (by kernel_rfl) (by kernel_rfl) (by kernel_rfl) (fun _ _ _ h => h) (Or.inl ⟨by rfl, ?_⟩) (by assumption) ?_
      rotate_left
      · intro w hSw; (try dsimp only at hSw); obtain ⟨hw1, hw2, hw3, hw4⟩ := hSw; go_simp <;> (try with_reducible rfl)
      simp only [Act.put, List.getElem_toArray, List.getElem_cons_zero, List.getElem_cons_succ, List.setIfInBounds_toArray, List.set_cons_zero, List.set_cons_succ]
      refine wpAnyH_take (i := 10) (v := ?_) rfl (by kernel_rfl) (by kernel_rfl) (by kernel_rfl) (fun _ _ _ h => h) (Or.inl ⟨by rfl, ?_⟩) (by assumption) ?_
      rotate_left
      · intro w hSw; (try dsimp only at hSw); go_simp <;> (try with_reducible rfl)
      simp only [Act.put, List.getElem_toArray, List.getElem_cons_zero, List.getElem_cons_succ, List.setIfInBounds_toArray, List.set_cons_zero, List.set_cons_succ]
      refine wpAnyH_take (i := 11) (v := ?_) rfl (by kernel_rfl) (by kernel_rfl) (by kernel_rfl) (fun _ _ _ h => h) (Or.inl ⟨by rfl, ?_⟩) (by assumption) ?_
      rotate_left
      · intro w hSw; (try dsimp only at hSw); obtain ⟨hw1, hw2, hw3, hw4⟩ := hSw; go_simp <;> (try with_reducible rfl)
      simp only [Act.put, List.getElem_toArray, List.getElem_cons_zero, List.getElem_cons_succ, List.setIfInBounds_toArray, List.set_cons_zero, List.set_cons_succ]
      refine wpAnyH_take (i := 12) (v := ?_) rfl (by kernel_rfl) (by kernel_rfl) (by kernel_rfl) (fun _ _ _ h => h) (Or.inl ⟨by rfl, ?_⟩) (by assumption) ?_
      rotate_left
      · intro w hSw; (try dsimp only at hSw); go_simp <;> (try with_reducible rfl)
      simp only [Act.put, List.getElem_toArray, List.getElem_cons_zero, List.getElem_cons_succ, List.setIfInBounds_toArray, List.set_cons_zero, List.set_cons_succ]
      refine wpAnyH_take (i := 13) (v := ?_) rfl (by kernel_rfl) (by kernel_rfl) (by kernel_rfl) (fun _ _ _ h => h) (Or.inl ⟨by rfl, ?_⟩) (by assumption) ?_
      rotate_left
      · intro w hSw; (try dsimp only at hSw); obtain ⟨hw1, hw2, hw3, hw4⟩ := hSw; go_simp <;> (try with_reducible rfl)
      simp only [Act.put, List.getElem_toArray, List.getElem_cons_zero, List.getElem_cons_succ, List.setIfInBounds_toArray, List.set_cons_zero, List.set_cons_succ]
      refine wpAnyH_take (i := 14) (v := ?_) rfl (by kernel_rfl) (by kernel_rfl) (by kernel_rfl) (fun _ _ _ h => h) (Or.inl ⟨by rfl, ?_⟩) (by assumption) ?_
      rotate_left
      · intro w hSw; (try dsimp only at hSw); go_simp <;> (try with_reducible rfl)
      simp only [Act.put, List.getElem_toArray, List.getElem_cons_zero, List.getElem_cons_succ, List.setIfInBounds_toArray, List.set_cons_zero, List.set_cons_succ]
      refine wpAnyH_ready (rs := [4, 15]) (by kernel_rfl) (by simp) (AllReadyH.cons rfl (fun K hK => ?_) (AllReadyH.cons rfl (fun K hK => ?_) AllReadyH.nil))
      · go_simp
        refine hK.out _ _ (KS.out _ dr) (fun hHeld2 => ?_)
        clear hK K hHeld
        have hHeld := hHeld2
        clear hHeld2
        try simp only [Act.put, List.getElem_toArray, List.getElem_cons_zero, List.getElem_cons_succ, List.setIfInBounds_toArray, List.set_cons_zero, List.set_cons_succ]
        refine wpAnyH_ready (rs := [15]) (by kernel_rfl) (by simp) (AllReadyH.cons rfl (fun K hK => ?_) AllReadyH.nil)
        go_simp
        refine hK.out _ _ (KS.out _ (dr.alloc (Nat.le_refl _) _)) (fun hHeld2 => ?_)
        clear hK K hHeld
        have hHeld := hHeld2
        clear hHeld2
        try simp only [Act.put, List.getElem_toArray, List.getElem_cons_zero, List.getElem_cons_succ, List.setIfInBounds_toArray, List.set_cons_zero, List.set_cons_succ]
        refine wpAnyH_ready (rs := [16]) (by kernel_rfl) (by simp) (AllReadyH.cons rfl (fun K hK => ?_) AllReadyH.nil)
        rw [if_pos (by rfl)]
        refine wp_app (H1.rows.perm ((slf_last p fs f hp).trans (List.Perm.swap _ _ _))) H1.hi _ _ _ (by rfl) [.int .i64 op, .int .i64 q0, .int .i64 q1, .int .i64 q2, .int .i64 q3] 51 (by rfl) (.agg #[.int .i64 0, .int .i64 0, .int .i64 0, .int .i64 0, .int .i64 0]) 40 Tryz.underlying42 info_ins rfl (Nat.succ_pos _) (by rfl) (by rfl) rfl (by simp [Value.oneCell']) (by show (f.code.length + 1) * 40 ≤ _; omega) (by show f.code.length + 1 ≤ _; omega) ?_; intro g2 cap2 W3 k1 k2 k3 k4 k5; have d4 : W3.cell? ⟨b, fs.length * 4 + 2, none⟩ = some (.slice f.ca f.code.length f.ccap) := ((k2.cell_far ⟨b, fs.length * 4 + 2, none⟩ Llt (fun e => hne e.symm)).trans L2); have z4 : ∀ o, W3.frozen? ⟨b, o, none⟩ = false := (fun o => (k2.frozen_far ⟨b, o, none⟩ Llt (fun e => hne e.symm)).trans (Lfr o)); have x3 : W3.cell? ⟨D, 0, none⟩ = some (.int .i64 q0) ∧ W3.cell? ⟨D, 1, none⟩ = some (.int .i64 q1) ∧ W3.cell? ⟨D, 2, none⟩ = some (.int .i64 q2) ∧ W3.cell? ⟨D, 3, none⟩ = some (.int .i64 q3) := ⟨((k2.cell_far ⟨D, 0, none⟩ zD (fun e => nr e.symm)).trans z0), ((k2.cell_far ⟨D, 1, none⟩ zD (fun e => nr e.symm)).trans z1), ((k2.cell_far ⟨D, 2, none⟩ zD (fun e => nr e.symm)).trans z2), ((k2.cell_far ⟨D, 3, none⟩ zD (fun e => nr e.symm)).trans z3)⟩
        refine hK.out _ _ (x3) (fun hHeld2 => ?_)
        clear hK K hHeld
        have hHeld := hHeld2
        clear hHeld2
        try simp only [Act.put, List.getElem_toArray, List.getElem_cons_zero, List.getElem_cons_succ, List.setIfInBounds_toArray, List.set_cons_zero, List.set_cons_succ]
        refine wpAnyH_take (i := 17) (v := ?_) rfl (by kernel_rfl) (by kernel_rfl) (by kernel_rfl) (fun _ _ _ h => h) (Or.inl ⟨by rfl, ?_⟩) (by assumption) ?_
        rotate_left
        · intro w hSw; (try dsimp only at hSw); go_simp <;> (try with_reducible rfl)
        simp only [Act.put, List.getElem_toArray, List.getElem_cons_zero, List.getElem_cons_succ, List.setIfInBounds_toArray, List.set_cons_zero, List.set_cons_succ]
        refine wpAnyH_take (i := 18) (v := ?_) rfl (by kernel_rfl) (by kernel_rfl) (by kernel_rfl) (fun _ _ _ h => h) (Or.inl ⟨by rfl, ?_⟩) (by assumption) ?_
        rotate_left
        · intro w hSw; (try dsimp only at hSw); go_simp <;> (try with_reducible rfl)
        simp only [Act.put, List.getElem_toArray, List.getElem_cons_zero, List.getElem_cons_succ, List.setIfInBounds_toArray, List.set_cons_zero, List.set_cons_succ]
        refine wpAnyH_ready (rs := [19]) (by kernel_rfl) (by simp) (AllReadyH.cons rfl (fun K hK => ?_) AllReadyH.nil)
        go_simp
        refine hK.out _ _ (KT.out _ x3 _ _) (fun hHeld2 => ?_)
        clear hK K hHeld
        have hHeld := hHeld2
        clear hHeld2
        try simp only [Act.put, List.getElem_toArray, List.getElem_cons_zero, List.getElem_cons_succ, List.setIfInBounds_toArray, List.set_cons_zero, List.set_cons_succ]
        refine wpAnyH_done (by kernel_rfl) ?_ _
        obtain ⟨H5, b5⟩ := H1.code fs f hp hok hfa k1 k2
        clear k1 k2 k3 k4 k5 d4 z4 x3
        change Exit.inBlock _ _ Exit.normal _ (W3.setCell { block := b, off := fs.length * 4 + 2 } (Value.slice (some { block := g2, off := 0 }) (f.code.length + 1) cap2))
        generalize W3.setCell ⟨b, fs.length * 4 + 2, none⟩ (.slice (some ⟨g2, 0, none⟩) (f.code.length + 1) cap2) = W5 at *
        obtain ⟨e0, e1, e2, e3, ez⟩ := H5.cells
        obtain ⟨y0, y1, y2, y3, yz⟩ := H5.zero
        go_wp2
        refine leave_taken rfl H5 ?_ (b8.trans ((Below.drew (Below.refl _ _)).trans b5)) ?_ ?_ ?_ ?_
        all_goals first | rfl | (simp; done) | (simp [hfa]; done) | (rw [hq.out, taken_code p fs f hp, hxi.out]; simp [Pg.bare, Fn.bare]; done)
      · go_simp
        refine hK.out _ _ (KS.out _ (dr.alloc (Nat.le_refl _) _)) (fun hHeld2 => ?_)
        clear hK K hHeld
        have hHeld := hHeld2
        clear hHeld2
        try simp only [Act.put, List.getElem_toArray, List.getElem_cons_zero, List.getElem_cons_succ, List.setIfInBounds_toArray, List.set_cons_zero, List.set_cons_succ]
        refine wpAnyH_ready (rs := [4]) (by kernel_rfl) (by simp) (AllReadyH.cons rfl (fun K hK => ?_) AllReadyH.nil)
        go_simp
        refine hK.out _ _ (KS.out _ (dr.alloc (Nat.le_refl _) _)) (fun hHeld2 => ?_)
        clear hK K hHeld
        have hHeld := hHeld2
        clear hHeld2
        try simp only [Act.put, List.getElem_toArray, List.getElem_cons_zero, List.getElem_cons_succ, List.setIfInBounds_toArray, List.set_cons_zero, List.set_cons_succ]
        refine wpAnyH_ready (rs := [16]) (by kernel_rfl) (by simp) (AllReadyH.cons rfl (fun K hK => ?_) AllReadyH.nil)
        rw [if_pos (by rfl)]
        refine wp_app (H1.rows.perm ((slf_last p fs f hp).trans (List.Perm.swap _ _ _))) H1.hi _ _ _ (by rfl) [.int .i64 op, .int .i64 q0, .int .i64 q1, .int .i64 q2, .int .i64 q3] 51 (by rfl) (.agg #[.int .i64 0, .int .i64 0, .int .i64 0, .int .i64 0, .int .i64 0]) 40 Tryz.underlying42 info_ins rfl (Nat.succ_pos _) (by rfl) (by rfl) rfl (by simp [Value.oneCell']) (by show (f.code.length + 1) * 40 ≤ _; omega) (by show f.code.length + 1 ≤ _; omega) ?_; intro g2 cap2 W3 k1 k2 k3 k4 k5; have d4 : W3.cell? ⟨b, fs.length * 4 + 2, none⟩ = some (.slice f.ca f.code.length f.ccap) := ((k2.cell_far ⟨b, fs.length * 4 + 2, none⟩ Llt (fun e => hne e.symm)).trans L2); have z4 : ∀ o, W3.frozen? ⟨b, o, none⟩ = false := (fun o => (k2.frozen_far ⟨b, o, none⟩ Llt (fun e => hne e.symm)).trans (Lfr o)); have x3 : W3.cell? ⟨D, 0, none⟩ = some (.int .i64 q0) ∧ W3.cell? ⟨D, 1, none⟩ = some (.int .i64 q1) ∧ W3.cell? ⟨D, 2, none⟩ = some (.int .i64 q2) ∧ W3.cell? ⟨D, 3, none⟩ = some (.int .i64 q3) := ⟨((k2.cell_far ⟨D, 0, none⟩ zD (fun e => nr e.symm)).trans z0), ((k2.cell_far ⟨D, 1, none⟩ zD (fun e => nr e.symm)).trans z1), ((k2.cell_far ⟨D, 2, none⟩ zD (fun e => nr e.symm)).trans z2), ((k2.cell_far ⟨D, 3, none⟩ zD (fun e => nr e.symm)).trans z3)⟩
        refine hK.out _ _ (x3) (fun hHeld2 => ?_)
        clear hK K hHeld
        have hHeld := hHeld2
        clear hHeld2
        try simp only [Act.put, List.getElem_toArray, List.getElem_cons_zero, List.getElem_cons_succ, List.setIfInBounds_toArray, List.set_cons_zero, List.set_cons_succ]
        refine wpAnyH_take (i := 17) (v := ?_) rfl (by kernel_rfl) (by kernel_rfl) (by kernel_rfl) (fun _ _ _ h => h) (Or.inl ⟨by rfl, ?_⟩) (by assumption) ?_
        rotate_left
        · intro w hSw; (try dsimp only at hSw); go_simp <;> (try with_reducible rfl)
        simp only [Act.put, List.getElem_toArray, List.getElem_cons_zero, List.getElem_cons_succ, List.setIfInBounds_toArray, List.set_cons_zero, List.set_cons_succ]
        refine wpAnyH_take (i := 18) (v := ?_) rfl (by kernel_rfl) (by kernel_rfl) (by kernel_rfl) (fun _ _ _ h => h) (Or.inl ⟨by rfl, ?_⟩) (by assumption) ?_
        rotate_left
        · intro w hSw; (try dsimp only at hSw); go_simp <;> (try with_reducible rfl)
        simp only [Act.put, List.getElem_toArray, List.getElem_cons_zero, List.getElem_cons_succ, List.setIfInBounds_toArray, List.set_cons_zero, List.set_cons_succ]
        refine wpAnyH_ready (rs := [19]) (by kernel_rfl) (by simp) (AllReadyH.cons rfl (fun K hK => ?_) AllReadyH.nil)
        go_simp
        refine hK.out _ _ (KT.out _ x3 _ _) (fun hHeld2 => ?_)
        clear hK K hHeld
        have hHeld := hHeld2
        clear hHeld2
        try simp only [Act.put, List.getElem_toArray, List.getElem_cons_zero, List.getElem_cons_succ, List.setIfInBounds_toArray, List.set_cons_zero, List.set_cons_succ]
        refine wpAnyH_done (by kernel_rfl) ?_ _
        obtain ⟨H5, b5⟩ := H1.code fs f hp hok hfa k1 k2
        clear k1 k2 k3 k4 k5 d4 z4 x3
        change Exit.inBlock _ _ Exit.normal _ (W3.setCell { block := b, off := fs.length * 4 + 2 } (Value.slice (some { block := g2, off := 0 }) (f.code.length + 1) cap2))
        generalize W3.setCell ⟨b, fs.length * 4 + 2, none⟩ (.slice (some ⟨g2, 0, none⟩) (f.code.length + 1) cap2) = W5 at *
        obtain ⟨e0, e1, e2, e3, ez⟩ := H5.cells
        obtain ⟨y0, y1, y2, y3, yz⟩ := H5.zero
        go_wp2
        refine leave_taken rfl H5 ?_ (b8.trans ((Below.drew (Below.refl _ _)).trans b5)) ?_ ?_ ?_ ?_
        all_goals first | rfl | (simp; done) | (simp [hfa]; done) | (rw [hq.out, taken_code p fs f hp, hxi.out]; simp [Pg.bare, Fn.bare]; done)
end Go.Proofs.YtlhhmlfcodmebaaGreatDoor.Pg
