/- A line taken by the reference, walked: a case. The condition: the program's lists in memory. -/
import Derived.Test.YtlhhmlfcodmebaaGreatDoorZu
import Derived.Deep.RegionHeld3
namespace Go.Proofs.YtlhhmlfcodmebaaGreatDoor.Pg
set_option linter.unusedVariables false
set_option linter.unusedSimpArgs false
open Go.RowKit Go.WideShapes Go.ChangeShapes
set_option linter.unusedVariables false
set_option linter.unusedSimpArgs false
set_option maxHeartbeats 8000000 in
set_option maxRecDepth 100000 in
theorem rtaken_send (n0 N cap : Nat) (p : Pg) (op : Int) (a : Option Addr) (x y z : Int) (W : World) (R : Rws n0 p.rows W) (F : p.Few N) (hn : n0 ≤ W.heap.size) (X : Xs a [x, y, z] W) (hc : 3 ≤ cap) (hN : N ≤ 1000000) (fs : List Fn) (f : Fn) (hp : p.funcs = fs ++ [f]) (ss : List Sel) (s : Sel) (hs : f.sels = ss ++ [s]) (hoff : ∀ b, a = some ⟨b, 0, none⟩ → Off b p.rows) :
    Calls Tryz.prog 32 #[p.v, .int .i64 8, .int .i64 op, .slice a 3 cap] W (Tkn n0 N W (taken p.bare 8 0 [x, y, z])) := by
  obtain ⟨xb, rfl, hxl, hxc⟩ := X.at' (List.cons_ne_nil _ _)
  have hX := hoff xb rfl
  have hx0 := hxc 0 x rfl
  have hx1 := hxc 1 y rfl
  have hx2 := hxc 2 z rfl
  have hx := X.i64 x (by simp)
  have hy := X.i64 y (by simp)
  have hz := X.i64 z (by simp)
  have H := Hs.new R F hn zro
  have b0 : Below n0 W ((W.alloc (.cells p.cs.toArray 26)).alloc (.cells zro.cs.toArray 26)) := ((Below.refl _ _).alloc hn _).alloc (by simp; omega) _
  have hlf := F.lenF
  have hls := (F.funcs f (by rw [hp]; simp)).lenS
  have hlc := ((F.funcs f (by rw [hp]; simp)).sels s (by rw [hs]; simp)).2.2
  unfold Pg.v
  unfold Pg.cs at H b0
  have hfl : p.funcs.length = fs.length + 1 := by rw [hp]; simp
  have hsl : f.sels.length = ss.length + 1 := by rw [hs]; simp
  have xc0 : ∀ O O', ((W.alloc O).alloc O').cell? ⟨xb, 0, none⟩ = some (.int .i64 x) := fun O O' => ((((Below.refl W.heap.size W).alloc (Nat.le_refl _) O).alloc (by simp) O').cell (by simpa using hxl)).trans hx0
  have xc1 : ∀ O O', ((W.alloc O).alloc O').cell? ⟨xb, 1, none⟩ = some (.int .i64 y) := fun O O' => ((((Below.refl W.heap.size W).alloc (Nat.le_refl _) O).alloc (by simp) O').cell (by simpa using hxl)).trans hx1
  have xc2 : ∀ O O', ((W.alloc O).alloc O').cell? ⟨xb, 2, none⟩ = some (.int .i64 z) := fun O O' => ((((Below.refl W.heap.size W).alloc (Nat.le_refl _) O).alloc (by simp) O').cell (by simpa using hxl)).trans hx2
  obtain ⟨b, L⟩ := rows_lastf H.rows (by simp [Pg.rows]) fs f hp
  obtain ⟨sb, S⟩ := rows_lasts (f := f) H.rows (List.mem_cons_of_mem _ (List.mem_append_left _ (last_mem p fs f hp (by simp [Fn.rows])))) ss s hs
  rw [hfl] at hlf
  rw [hsl] at hls
  have hfa := L.fa
  have hsa := S.sa
  have c3 := L.c3
  rw [hsa, hsl] at c3
  rw [hfl] at H b0 L S c3
  rw [hfl]
  rw [hfa] at H b0 L S c3
  rw [hfa]
  simp only [zro, List.length_nil] at H b0 L S c3
  go_enter Tryz.func32, Tryz.ntmps32
  go_wp2_with (fail)
  replace xc0 := xc0 (.cells [.slice p.va p.vars.length p.vcap, .int .i64 p.locks, .slice p.ha p.chans.length p.hcap, .slice (some ⟨b, 0, none⟩) (fs.length + 1) p.fcap].toArray 26) (.cells [.slice none 0 0, .int .i64 0, .slice none 0 0, .slice none 0 0].toArray 26)
  replace xc1 := xc1 (.cells [.slice p.va p.vars.length p.vcap, .int .i64 p.locks, .slice p.ha p.chans.length p.hcap, .slice (some ⟨b, 0, none⟩) (fs.length + 1) p.fcap].toArray 26) (.cells [.slice none 0 0, .int .i64 0, .slice none 0 0, .slice none 0 0].toArray 26)
  replace xc2 := xc2 (.cells [.slice p.va p.vars.length p.vcap, .int .i64 p.locks, .slice p.ha p.chans.length p.hcap, .slice (some ⟨b, 0, none⟩) (fs.length + 1) p.fcap].toArray 26) (.cells [.slice none 0 0, .int .i64 0, .slice none 0 0, .slice none 0 0].toArray 26)
  generalize (W.alloc (.cells [.slice p.va p.vars.length p.vcap, .int .i64 p.locks, .slice p.ha p.chans.length p.hcap, .slice (some ⟨b, 0, none⟩) (fs.length + 1) p.fcap].toArray 26)).alloc (.cells [.slice none 0 0, .int .i64 0, .slice none 0 0, .slice none 0 0].toArray 26) = W1 at *
  generalize W.heap.size = r at *
  have hss : (0 : Int) ≤ (ss.length : Int) ∧ (ss.length : Int) + 1 ≤ 1000000 := by omega
  go_quiet (fail)
  have q8 : Below W1.heap.size W1 (W1.drewN nq) := below_drewN (Below.refl _ _) nq
  have H8 := H.below q8
  have b8 := b0.trans (q8.mono H.hi)
  have S8 : Lsq (W1.drewN nq) f ss s sb := ⟨S.sa, Nat.lt_of_lt_of_le S.lt q8.size, (q8.cell (by simpa using S.lt)).trans S.c0, fun o => (q8.frozen (by simpa using S.lt)).trans (S.fr o)⟩
  have hr : r < W1.heap.size := (H.rows.blk_ge (row := slf r p) (List.mem_cons_self ..) rfl).2
  replace xc0 := (q8.cell (p := ⟨xb, 0, none⟩) (by show xb < W1.heap.size; omega)).trans xc0
  replace xc1 := (q8.cell (p := ⟨xb, 1, none⟩) (by show xb < W1.heap.size; omega)).trans xc1
  replace xc2 := (q8.cell (p := ⟨xb, 2, none⟩) (by show xb < W1.heap.size; omega)).trans xc2
  clear H b0 S L c3 hr q8
  generalize W1.drewN nq = W2 at *
  have c0 := S8.c0
  have cA : ∀ O, (W2.alloc O).cell? ⟨sb, ss.length * 2, none⟩ = some (.slice s.a s.cases.length s.cap) := fun O => (((Below.refl W2.heap.size W2).alloc (Nat.le_refl _) O).cell (by simpa using S8.lt)).trans c0
  have H1 := H8.below (Below.drew (Below.refl _ _))
  have hne : s.row.blk ≠ some sb := H8.rows.ne _ ((slf_case p fs f hp ss s hs).trans (List.Perm.swap _ _ _)) (by simp [Row.blk, Fn.selRow, hsa, Value.ownBlock])
  go_wp2_with (fail)
  have xs1 : s.row.blk ≠ some xb := hX _ (last_mem p fs f hp (by simp [Fn.rows, hs]))
  have xs2 : sb ≠ xb := fun e => hX f.selRow (last_mem p fs f hp (by simp [Fn.rows])) (by rw [← e]; simp [Row.blk, Fn.selRow, hsa, Value.ownBlock])
  have dr : Below W2.heap.size W2 W2.drew := Below.drew (Below.refl _ _)
  have hxW : xb < W2.heap.size := by have hr : r < W2.heap.size := (H8.rows.blk_ge (row := slf r p) (List.mem_cons_self ..) rfl).2; omega
  have KS := Lib.hid (fun W' (hb : Below W2.heap.size W2 W') => (⟨(hb.cell (p := ⟨xb, 0, none⟩) hxW).trans xc0, (hb.cell (p := ⟨xb, 1, none⟩) hxW).trans xc1, (hb.cell (p := ⟨xb, 2, none⟩) hxW).trans xc2⟩ : W'.cell? ⟨xb, 0, none⟩ = some (.int .i64 x) ∧ W'.cell? ⟨xb, 1, none⟩ = some (.int .i64 y) ∧ W'.cell? ⟨xb, 2, none⟩ = some (.int .i64 z)))
  have KT := Lib.hid (fun (W' : World) (h : W'.cell? ⟨xb, 0, none⟩ = some (.int .i64 x) ∧ W'.cell? ⟨xb, 1, none⟩ = some (.int .i64 y) ∧ W'.cell? ⟨xb, 2, none⟩ = some (.int .i64 z)) (o : Nat) (v : Value) => (⟨(World.cell?_setCell_other _ _ _ _ (by simp only [ne_eq, Addr.mk.injEq]; exact fun e => xs2 e.1)).trans h.1, (World.cell?_setCell_other _ _ _ _ (by simp only [ne_eq, Addr.mk.injEq]; exact fun e => xs2 e.1)).trans h.2.1, (World.cell?_setCell_other _ _ _ _ (by simp only [ne_eq, Addr.mk.injEq]; exact fun e => xs2 e.1)).trans h.2.2⟩ : (W'.setCell ⟨sb, o, none⟩ v).cell? ⟨xb, 0, none⟩ = some (.int .i64 x) ∧ (W'.setCell ⟨sb, o, none⟩ v).cell? ⟨xb, 1, none⟩ = some (.int .i64 y) ∧ (W'.setCell ⟨sb, o, none⟩ v).cell? ⟨xb, 2, none⟩ = some (.int .i64 z)))
  refine wp_region_held_drew (S := (fun W' => W'.cell? ⟨xb, 0, none⟩ = some (.int .i64 x) ∧ W'.cell? ⟨xb, 1, none⟩ = some (.int .i64 y) ∧ W'.cell? ⟨xb, 2, none⟩ = some (.int .i64 z))) (by kernel_rfl) (KS.out _ dr) (fun hHeld => ?_)
  refine wpAnyH_take (i := 0) (v := ?_) rfl (by kernel_rfl) (by kernel_rfl) (by kernel_rfl) (fun _ _ _ h => h) (Or.inl ⟨by rfl, ?_⟩) (by assumption) ?_
  rotate_left
  · intro w hSw; (try dsimp only at hSw); go_simp <;> (try with_reducible rfl)
  simp only [Act.put, List.getElem_toArray, List.getElem_cons_zero, List.getElem_cons_succ, List.setIfInBounds_toArray, List.set_cons_zero, List.set_cons_succ]
  refine wpAnyH_take (i := 1) (v := ?_) rfl (by kernel_rfl) (by kernel_rfl) (by kernel_rfl) (fun _ _ _ h => h) (Or.inl ⟨by rfl, ?_⟩) (by assumption) ?_
  rotate_left
  · intro w hSw; (try dsimp only at hSw); go_simp <;> (try with_reducible rfl)
  simp only [Act.put, List.getElem_toArray, List.getElem_cons_zero, List.getElem_cons_succ, List.setIfInBounds_toArray, List.set_cons_zero, List.set_cons_succ]
  refine wpAnyH_take (i := 2) (v := ?_) rfl (by kernel_rfl) (by kernel_rfl) (by kernel_rfl) (fun _ _ _ h => h) (Or.inl ⟨by rfl, ?_⟩) (by assumption) ?_
  rotate_left
  · intro w hSw; (try dsimp only at hSw); go_simp <;> (try with_reducible rfl)
  simp only [Act.put, List.getElem_toArray, List.getElem_cons_zero, List.getElem_cons_succ, List.setIfInBounds_toArray, List.set_cons_zero, List.set_cons_succ]
  refine wpAnyH_take (i := 3) (v := ?_) rfl (by kernel_rfl) (by kernel_rfl) (by kernel_rfl) (fun _ _ _ h => h) (Or.inl ⟨by rfl, ?_⟩) (by assumption) ?_
  rotate_left
  · intro w hSw; (try dsimp only at hSw); go_simp <;> (try with_reducible rfl)
  simp only [Act.put, List.getElem_toArray, List.getElem_cons_zero, List.getElem_cons_succ, List.setIfInBounds_toArray, List.set_cons_zero, List.set_cons_succ]
  refine wpAnyH_take (i := 5) (v := ?_) rfl (by kernel_rfl) (by kernel_rfl) (by kernel_rfl) (fun _ _ _ h => h) (Or.inl ⟨by rfl, ?_⟩) (by assumption) ?_
  rotate_left
  · intro w hSw; (try dsimp only at hSw); go_simp <;> (try with_reducible rfl)
  simp only [Act.put, List.getElem_toArray, List.getElem_cons_zero, List.getElem_cons_succ, List.setIfInBounds_toArray, List.set_cons_zero, List.set_cons_succ]
  refine wpAnyH_take (i := 6) (v := ?_) rfl (by kernel_rfl) (by kernel_rfl) (by kernel_rfl) (fun _ _ _ h => h) (Or.inl ⟨by rfl, ?_⟩) (by assumption) ?_
  rotate_left
  · intro w hSw; (try dsimp only at hSw); go_simp <;> (try with_reducible rfl)
  simp only [Act.put, List.getElem_toArray, List.getElem_cons_zero, List.getElem_cons_succ, List.setIfInBounds_toArray, List.set_cons_zero, List.set_cons_succ]
  refine wpAnyH_take (i := 7) (v := ?_) rfl (by kernel_rfl) (by kernel_rfl) (by kernel_rfl) (fun _ _ _ h => h) (Or.inl ⟨by rfl, ?_⟩) (by assumption) ?_
  rotate_left
  · intro w hSw; (try dsimp only at hSw); go_simp <;> (try with_reducible rfl)
  simp only [Act.put, List.getElem_toArray, List.getElem_cons_zero, List.getElem_cons_succ, List.setIfInBounds_toArray, List.set_cons_zero, List.set_cons_succ]
  refine wpAnyH_take (i := 8) (v := ?_) rfl (by kernel_rfl) (by kernel_rfl) (by kernel_rfl) (fun _ _ _ h => h) (Or.inl ⟨by rfl, ?_⟩) (by assumption) ?_
  rotate_left
  · intro w hSw; (try dsimp only at hSw); go_simp <;> (try with_reducible rfl)
  simp only [Act.put, List.getElem_toArray, List.getElem_cons_zero, List.getElem_cons_succ, List.setIfInBounds_toArray, List.set_cons_zero, List.set_cons_succ]
  refine wpAnyH_take (i := 9) (v := ?_) rfl (by kernel_rfl) (by kernel_rfl) (by kernel_rfl) (fun _ _ _ h => h) (Or.inl ⟨by rfl, ?_⟩) (by assumption) ?_
  rotate_left
  · intro w hSw; (try dsimp only at hSw); obtain ⟨hw1, hw2, hw3⟩ := hSw; go_simp <;> (try with_reducible rfl)
  simp only [Act.put, List.getElem_toArray, List.getElem_cons_zero, List.getElem_cons_succ, List.setIfInBounds_toArray, List.set_cons_zero, List.set_cons_succ]
  refine wpAnyH_take (i := 10) (v := ?_) rfl (by kernel_rfl) (by kernel_rfl) (by kernel_rfl) (fun _ _ _ h => h) (Or.inl ⟨by rfl, ?_⟩) (by assumption) ?_
  rotate_left
  · intro w hSw; (try dsimp only at hSw); go_simp <;> (try with_reducible rfl)
  simp only [Act.put, List.getElem_toArray, List.getElem_cons_zero, List.getElem_cons_succ, List.setIfInBounds_toArray, List.set_cons_zero, List.set_cons_succ]
  refine wpAnyH_take (i := 11) (v := ?_) rfl (by kernel_rfl) (by kernel_rfl) (by kernel_rfl) (fun _ _ _ h => h) (Or.inl ⟨by rfl, ?_⟩) (by assumption) ?_
  rotate_left
  · intro w hSw; (try dsimp only at hSw); go_simp <;> (try with_reducible rfl)
  simp only [Act.put, List.getElem_toArray, List.getElem_cons_zero, List.getElem_cons_succ, List.setIfInBounds_toArray, List.set_cons_zero, List.set_cons_succ]
  refine wpAnyH_take (i := 12) (v := ?_) rfl (by kernel_rfl) (by kernel_rfl) (by kernel_rfl) (fun _ _ _ h => h) (Or.inl ⟨by rfl, ?_⟩) (by assumption) ?_
  rotate_left
  · intro w hSw; (try dsimp only at hSw); obtain ⟨hw1, hw2, hw3⟩ := hSw; go_simp <;> (try with_reducible rfl)
  simp only [Act.put, List.getElem_toArray, List.getElem_cons_zero, List.getElem_cons_succ, List.setIfInBounds_toArray, List.set_cons_zero, List.set_cons_succ]
  refine wpAnyH_take (i := 13) (v := ?_) rfl (by kernel_rfl) (by kernel_rfl) (by kernel_rfl) (fun _ _ _ h => h) (Or.inl ⟨by rfl, ?_⟩) (by assumption) ?_
  rotate_left
  · intro w hSw; (try dsimp only at hSw); go_simp <;> (try with_reducible rfl)
  simp only [Act.put, List.getElem_toArray, List.getElem_cons_zero, List.getElem_cons_succ, List.setIfInBounds_toArray, List.set_cons_zero, List.set_cons_succ]
  refine wpAnyH_take (i := 14) (v := ?_) rfl (by kernel_rfl) (by kernel_rfl) (by kernel_rfl) (fun _ _ _ h => h) (Or.inl ⟨by rfl, ?_⟩) (by assumption) ?_
  rotate_left
  · intro w hSw; (try dsimp only at hSw); go_simp <;> (try with_reducible rfl)
  simp only [Act.put, List.getElem_toArray, List.getElem_cons_zero, List.getElem_cons_succ, List.setIfInBounds_toArray, List.set_cons_zero, List.set_cons_succ]
  refine wpAnyH_take (i := 15) (v := ?_) rfl (by kernel_rfl) (by kernel_rfl) (by kernel_rfl) (fun _ _ _ h => h) (Or.inl ⟨by rfl, ?_⟩) (by assumption) ?_
  rotate_left
  · intro w hSw; (try dsimp only at hSw); obtain ⟨hw1, hw2, hw3⟩ := hSw; go_simp <;> (try with_reducible rfl)
  simp only [Act.put, List.getElem_toArray, List.getElem_cons_zero, List.getElem_cons_succ, List.setIfInBounds_toArray, List.set_cons_zero, List.set_cons_succ]
  refine wpAnyH_take (i := 16) (v := ?_) rfl (by kernel_rfl) (by kernel_rfl) (by kernel_rfl) (fun _ _ _ h => h) (Or.inl ⟨by rfl, ?_⟩) (by assumption) ?_
  rotate_left
  · intro w hSw; (try dsimp only at hSw); go_simp <;> (try with_reducible rfl)
  simp only [Act.put, List.getElem_toArray, List.getElem_cons_zero, List.getElem_cons_succ, List.setIfInBounds_toArray, List.set_cons_zero, List.set_cons_succ]
  refine wpAnyH_ready (rs := [4, 17]) (by kernel_rfl) (by simp) (AllReadyH.cons rfl (fun K hK => ?_) (AllReadyH.cons rfl (fun K hK => ?_) AllReadyH.nil))
  · go_simp
    refine hK.out _ _ (KS.out _ dr) (fun hHeld2 => ?_)
    clear hK K hHeld
    have hHeld := hHeld2
    clear hHeld2
    try simp only [Act.put, List.getElem_toArray, List.getElem_cons_zero, List.getElem_cons_succ, List.setIfInBounds_toArray, List.set_cons_zero, List.set_cons_succ]
    refine wpAnyH_ready (rs := [17]) (by kernel_rfl) (by simp) (AllReadyH.cons rfl (fun K hK => ?_) AllReadyH.nil)
    go_simp
    refine hK.out _ _ (KS.out _ (dr.alloc (Nat.le_refl _) _)) (fun hHeld2 => ?_)
    clear hK K hHeld
    have hHeld := hHeld2
    clear hHeld2
    try simp only [Act.put, List.getElem_toArray, List.getElem_cons_zero, List.getElem_cons_succ, List.setIfInBounds_toArray, List.set_cons_zero, List.set_cons_succ]
    refine wpAnyH_ready (rs := [18]) (by kernel_rfl) (by simp) (AllReadyH.cons rfl (fun K hK => ?_) AllReadyH.nil)
    rw [if_pos (by rfl)]
    refine wp_app (H1.rows.perm (slf_case p fs f hp ss s hs)) H1.hi _ _ _ (by rfl) [.bool true, .int .i64 x, .int .i64 y, .int .i64 z] 105 (by rfl) (.agg #[.bool false, .int .i64 0, .int .i64 0, .int .i64 0]) 32 Tryz.underlying91 info_case rfl (Nat.succ_pos _) (by rfl) (by rfl) rfl (by simp [Value.oneCell']) (by show (s.cases.length + 1) * 32 ≤ _; omega) (by show s.cases.length + 1 ≤ _; omega) ?_; intro g2 cap2 W3 k1 k2 k3 k4 k5; have d4 : W3.cell? ⟨sb, ss.length * 2, none⟩ = some (.slice s.a s.cases.length s.cap) := ((k2.cell_far ⟨sb, ss.length * 2, none⟩ S8.lt (fun e => hne e.symm)).trans c0); have z4 : ∀ o, W3.frozen? ⟨sb, o, none⟩ = false := (fun o => (k2.frozen_far ⟨sb, o, none⟩ S8.lt (fun e => hne e.symm)).trans (S8.fr o)); have x3 : W3.cell? ⟨xb, 0, none⟩ = some (.int .i64 x) ∧ W3.cell? ⟨xb, 1, none⟩ = some (.int .i64 y) ∧ W3.cell? ⟨xb, 2, none⟩ = some (.int .i64 z) := ⟨((k2.cell_far ⟨xb, 0, none⟩ hxW (fun e => xs1 e.symm)).trans xc0), ((k2.cell_far ⟨xb, 1, none⟩ hxW (fun e => xs1 e.symm)).trans xc1), ((k2.cell_far ⟨xb, 2, none⟩ hxW (fun e => xs1 e.symm)).trans xc2)⟩
    refine hK.out _ _ (x3) (fun hHeld2 => ?_)
    clear hK K hHeld
    have hHeld := hHeld2
    clear hHeld2
    try simp only [Act.put, List.getElem_toArray, List.getElem_cons_zero, List.getElem_cons_succ, List.setIfInBounds_toArray, List.set_cons_zero, List.set_cons_succ]
    refine wpAnyH_take (i := 19) (v := ?_) rfl (by kernel_rfl) (by kernel_rfl) (by kernel_rfl) (fun _ _ _ h => h) (Or.inl ⟨by rfl, ?_⟩) (by assumption) ?_
    rotate_left
    · intro w hSw; (try dsimp only at hSw); go_simp <;> (try with_reducible rfl)
    simp only [Act.put, List.getElem_toArray, List.getElem_cons_zero, List.getElem_cons_succ, List.setIfInBounds_toArray, List.set_cons_zero, List.set_cons_succ]
    refine wpAnyH_take (i := 20) (v := ?_) rfl (by kernel_rfl) (by kernel_rfl) (by kernel_rfl) (fun _ _ _ h => h) (Or.inl ⟨by rfl, ?_⟩) (by assumption) ?_
    rotate_left
    · intro w hSw; (try dsimp only at hSw); go_simp <;> (try with_reducible rfl)
    simp only [Act.put, List.getElem_toArray, List.getElem_cons_zero, List.getElem_cons_succ, List.setIfInBounds_toArray, List.set_cons_zero, List.set_cons_succ]
    refine wpAnyH_ready (rs := [21]) (by kernel_rfl) (by simp) (AllReadyH.cons rfl (fun K hK => ?_) AllReadyH.nil)
    go_simp
    refine hK.out _ _ (KT.out _ x3 _ _) (fun hHeld2 => ?_)
    clear hK K hHeld
    have hHeld := hHeld2
    clear hHeld2
    try simp only [Act.put, List.getElem_toArray, List.getElem_cons_zero, List.getElem_cons_succ, List.setIfInBounds_toArray, List.set_cons_zero, List.set_cons_succ]
    refine wpAnyH_done (by kernel_rfl) ?_ _
    obtain ⟨H5, b5⟩ := H1.case fs f hp ss s hs (x := ⟨true, x, y, z⟩) ⟨hx, hy, hz⟩ hsa k1 k2
    clear k1 k2 k3 k4 k5 d4 z4
    change Exit.inBlock _ _ Exit.normal _ (W3.setCell { block := sb, off := ss.length * 2 + 0 } (Value.slice (some { block := g2, off := 0 }) (s.cases.length + 1) cap2))
    generalize W3.setCell ⟨sb, ss.length * 2 + 0, none⟩ (.slice (some ⟨g2, 0, none⟩) (s.cases.length + 1) cap2) = W5 at *
    obtain ⟨e0, e1, e2, e3, ez⟩ := H5.cells
    obtain ⟨z0, z1, z2, z3, zz⟩ := H5.zero
    go_wp2
    refine leave_taken rfl H5 ?_ (b8.trans ((Below.drew (Below.refl _ _)).trans b5)) ?_ ?_ ?_ ?_
    all_goals first | rfl | (simp; done) | (simp [hfa]; done) | (simp [Pg.bare, taken, hp, hs, onLast_snoc, Fn.bare, Sel.bare]; done)
  · go_simp
    refine hK.out _ _ (KS.out _ (dr.alloc (Nat.le_refl _) _)) (fun hHeld2 => ?_)
    clear hK K hHeld
    have hHeld := hHeld2
    clear hHeld2
    try simp only [Act.put, List.getElem_toArray, List.getElem_cons_zero, List.getElem_cons_succ, List.setIfInBounds_toArray, List.set_cons_zero, List.set_cons_succ]
    refine wpAnyH_ready (rs := [4]) (by kernel_rfl) (by simp) (AllReadyH.cons rfl (fun K hK => ?_) AllReadyH.nil)
    go_simp
    refine hK.out _ _ (KS.out _ (dr.alloc (Nat.le_refl _) _)) (fun hHeld2 => ?_)
    clear hK K hHeld
    have hHeld := hHeld2
    clear hHeld2
    try simp only [Act.put, List.getElem_toArray, List.getElem_cons_zero, List.getElem_cons_succ, List.setIfInBounds_toArray, List.set_cons_zero, List.set_cons_succ]
    refine wpAnyH_ready (rs := [18]) (by kernel_rfl) (by simp) (AllReadyH.cons rfl (fun K hK => ?_) AllReadyH.nil)
    rw [if_pos (by rfl)]
    refine wp_app (H1.rows.perm (slf_case p fs f hp ss s hs)) H1.hi _ _ _ (by rfl) [.bool true, .int .i64 x, .int .i64 y, .int .i64 z] 105 (by rfl) (.agg #[.bool false, .int .i64 0, .int .i64 0, .int .i64 0]) 32 Tryz.underlying91 info_case rfl (Nat.succ_pos _) (by rfl) (by rfl) rfl (by simp [Value.oneCell']) (by show (s.cases.length + 1) * 32 ≤ _; omega) (by show s.cases.length + 1 ≤ _; omega) ?_; intro g2 cap2 W3 k1 k2 k3 k4 k5; have d4 : W3.cell? ⟨sb, ss.length * 2, none⟩ = some (.slice s.a s.cases.length s.cap) := ((k2.cell_far ⟨sb, ss.length * 2, none⟩ S8.lt (fun e => hne e.symm)).trans c0); have z4 : ∀ o, W3.frozen? ⟨sb, o, none⟩ = false := (fun o => (k2.frozen_far ⟨sb, o, none⟩ S8.lt (fun e => hne e.symm)).trans (S8.fr o)); have x3 : W3.cell? ⟨xb, 0, none⟩ = some (.int .i64 x) ∧ W3.cell? ⟨xb, 1, none⟩ = some (.int .i64 y) ∧ W3.cell? ⟨xb, 2, none⟩ = some (.int .i64 z) := ⟨((k2.cell_far ⟨xb, 0, none⟩ hxW (fun e => xs1 e.symm)).trans xc0), ((k2.cell_far ⟨xb, 1, none⟩ hxW (fun e => xs1 e.symm)).trans xc1), ((k2.cell_far ⟨xb, 2, none⟩ hxW (fun e => xs1 e.symm)).trans xc2)⟩
    refine hK.out _ _ (x3) (fun hHeld2 => ?_)
    clear hK K hHeld
    have hHeld := hHeld2
    clear hHeld2
    try simp only [Act.put, List.getElem_toArray, List.getElem_cons_zero, List.getElem_cons_succ, List.setIfInBounds_toArray, List.set_cons_zero, List.set_cons_succ]
    refine wpAnyH_take (i := 19) (v := ?_) rfl (by kernel_rfl) (by kernel_rfl) (by kernel_rfl) (fun _ _ _ h => h) (Or.inl ⟨by rfl, ?_⟩) (by assumption) ?_
    rotate_left
    · intro w hSw; (try dsimp only at hSw); go_simp <;> (try with_reducible rfl)
    simp only [Act.put, List.getElem_toArray, List.getElem_cons_zero, List.getElem_cons_succ, List.setIfInBounds_toArray, List.set_cons_zero, List.set_cons_succ]
    refine wpAnyH_take (i := 20) (v := ?_) rfl (by kernel_rfl) (by kernel_rfl) (by kernel_rfl) (fun _ _ _ h => h) (Or.inl ⟨by rfl, ?_⟩) (by assumption) ?_
    rotate_left
    · intro w hSw; (try dsimp only at hSw); go_simp <;> (try with_reducible rfl)
    simp only [Act.put, List.getElem_toArray, List.getElem_cons_zero, List.getElem_cons_succ, List.setIfInBounds_toArray, List.set_cons_zero, List.set_cons_succ]
    refine wpAnyH_ready (rs := [21]) (by kernel_rfl) (by simp) (AllReadyH.cons rfl (fun K hK => ?_) AllReadyH.nil)
    go_simp
    refine hK.out _ _ (KT.out _ x3 _ _) (fun hHeld2 => ?_)
    clear hK K hHeld
    have hHeld := hHeld2
    clear hHeld2
    try simp only [Act.put, List.getElem_toArray, List.getElem_cons_zero, List.getElem_cons_succ, List.setIfInBounds_toArray, List.set_cons_zero, List.set_cons_succ]
    refine wpAnyH_done (by kernel_rfl) ?_ _
    obtain ⟨H5, b5⟩ := H1.case fs f hp ss s hs (x := ⟨true, x, y, z⟩) ⟨hx, hy, hz⟩ hsa k1 k2
    clear k1 k2 k3 k4 k5 d4 z4
    change Exit.inBlock _ _ Exit.normal _ (W3.setCell { block := sb, off := ss.length * 2 + 0 } (Value.slice (some { block := g2, off := 0 }) (s.cases.length + 1) cap2))
    generalize W3.setCell ⟨sb, ss.length * 2 + 0, none⟩ (.slice (some ⟨g2, 0, none⟩) (s.cases.length + 1) cap2) = W5 at *
    obtain ⟨e0, e1, e2, e3, ez⟩ := H5.cells
    obtain ⟨z0, z1, z2, z3, zz⟩ := H5.zero
    go_wp2
    refine leave_taken rfl H5 ?_ (b8.trans ((Below.drew (Below.refl _ _)).trans b5)) ?_ ?_ ?_ ?_
    all_goals first | rfl | (simp; done) | (simp [hfa]; done) | (simp [Pg.bare, taken, hp, hs, onLast_snoc, Fn.bare, Sel.bare]; done)
set_option maxHeartbeats 8000000 in
set_option maxRecDepth 100000 in
theorem rtaken_recv (n0 N cap : Nat) (p : Pg) (op : Int) (a : Option Addr) (x y z : Int) (W : World) (R : Rws n0 p.rows W) (F : p.Few N) (hn : n0 ≤ W.heap.size) (X : Xs a [x, y, z] W) (hc : 3 ≤ cap) (hN : N ≤ 1000000) (fs : List Fn) (f : Fn) (hp : p.funcs = fs ++ [f]) (ss : List Sel) (s : Sel) (hs : f.sels = ss ++ [s]) (hoff : ∀ b, a = some ⟨b, 0, none⟩ → Off b p.rows) :
    Calls Tryz.prog 32 #[p.v, .int .i64 9, .int .i64 op, .slice a 3 cap] W (Tkn n0 N W (taken p.bare 9 0 [x, y, z])) := by
  obtain ⟨xb, rfl, hxl, hxc⟩ := X.at' (List.cons_ne_nil _ _)
  have hX := hoff xb rfl
  have hx0 := hxc 0 x rfl
  have hx1 := hxc 1 y rfl
  have hx2 := hxc 2 z rfl
  have hx := X.i64 x (by simp)
  have hy := X.i64 y (by simp)
  have hz := X.i64 z (by simp)
  have H := Hs.new R F hn zro
  have b0 : Below n0 W ((W.alloc (.cells p.cs.toArray 26)).alloc (.cells zro.cs.toArray 26)) := ((Below.refl _ _).alloc hn _).alloc (by simp; omega) _
  have hlf := F.lenF
  have hls := (F.funcs f (by rw [hp]; simp)).lenS
  have hlc := ((F.funcs f (by rw [hp]; simp)).sels s (by rw [hs]; simp)).2.2
  unfold Pg.v
  unfold Pg.cs at H b0
  have hfl : p.funcs.length = fs.length + 1 := by rw [hp]; simp
  have hsl : f.sels.length = ss.length + 1 := by rw [hs]; simp
  have xc0 : ∀ O O', ((W.alloc O).alloc O').cell? ⟨xb, 0, none⟩ = some (.int .i64 x) := fun O O' => ((((Below.refl W.heap.size W).alloc (Nat.le_refl _) O).alloc (by simp) O').cell (by simpa using hxl)).trans hx0
  have xc1 : ∀ O O', ((W.alloc O).alloc O').cell? ⟨xb, 1, none⟩ = some (.int .i64 y) := fun O O' => ((((Below.refl W.heap.size W).alloc (Nat.le_refl _) O).alloc (by simp) O').cell (by simpa using hxl)).trans hx1
  have xc2 : ∀ O O', ((W.alloc O).alloc O').cell? ⟨xb, 2, none⟩ = some (.int .i64 z) := fun O O' => ((((Below.refl W.heap.size W).alloc (Nat.le_refl _) O).alloc (by simp) O').cell (by simpa using hxl)).trans hx2
  obtain ⟨b, L⟩ := rows_lastf H.rows (by simp [Pg.rows]) fs f hp
  obtain ⟨sb, S⟩ := rows_lasts (f := f) H.rows (List.mem_cons_of_mem _ (List.mem_append_left _ (last_mem p fs f hp (by simp [Fn.rows])))) ss s hs
  rw [hfl] at hlf
  rw [hsl] at hls
  have hfa := L.fa
  have hsa := S.sa
  have c3 := L.c3
  rw [hsa, hsl] at c3
  rw [hfl] at H b0 L S c3
  rw [hfl]
  rw [hfa] at H b0 L S c3
  rw [hfa]
  simp only [zro, List.length_nil] at H b0 L S c3
  go_enter Tryz.func32, Tryz.ntmps32
  go_wp2_with (fail)
  replace xc0 := xc0 (.cells [.slice p.va p.vars.length p.vcap, .int .i64 p.locks, .slice p.ha p.chans.length p.hcap, .slice (some ⟨b, 0, none⟩) (fs.length + 1) p.fcap].toArray 26) (.cells [.slice none 0 0, .int .i64 0, .slice none 0 0, .slice none 0 0].toArray 26)
  replace xc1 := xc1 (.cells [.slice p.va p.vars.length p.vcap, .int .i64 p.locks, .slice p.ha p.chans.length p.hcap, .slice (some ⟨b, 0, none⟩) (fs.length + 1) p.fcap].toArray 26) (.cells [.slice none 0 0, .int .i64 0, .slice none 0 0, .slice none 0 0].toArray 26)
  replace xc2 := xc2 (.cells [.slice p.va p.vars.length p.vcap, .int .i64 p.locks, .slice p.ha p.chans.length p.hcap, .slice (some ⟨b, 0, none⟩) (fs.length + 1) p.fcap].toArray 26) (.cells [.slice none 0 0, .int .i64 0, .slice none 0 0, .slice none 0 0].toArray 26)
  generalize (W.alloc (.cells [.slice p.va p.vars.length p.vcap, .int .i64 p.locks, .slice p.ha p.chans.length p.hcap, .slice (some ⟨b, 0, none⟩) (fs.length + 1) p.fcap].toArray 26)).alloc (.cells [.slice none 0 0, .int .i64 0, .slice none 0 0, .slice none 0 0].toArray 26) = W1 at *
  generalize W.heap.size = r at *
  have hss : (0 : Int) ≤ (ss.length : Int) ∧ (ss.length : Int) + 1 ≤ 1000000 := by omega
  go_quiet (fail)
  have q8 : Below W1.heap.size W1 (W1.drewN nq) := below_drewN (Below.refl _ _) nq
  have H8 := H.below q8
  have b8 := b0.trans (q8.mono H.hi)
  have S8 : Lsq (W1.drewN nq) f ss s sb := ⟨S.sa, Nat.lt_of_lt_of_le S.lt q8.size, (q8.cell (by simpa using S.lt)).trans S.c0, fun o => (q8.frozen (by simpa using S.lt)).trans (S.fr o)⟩
  have hr : r < W1.heap.size := (H.rows.blk_ge (row := slf r p) (List.mem_cons_self ..) rfl).2
  replace xc0 := (q8.cell (p := ⟨xb, 0, none⟩) (by show xb < W1.heap.size; omega)).trans xc0
  replace xc1 := (q8.cell (p := ⟨xb, 1, none⟩) (by show xb < W1.heap.size; omega)).trans xc1
  replace xc2 := (q8.cell (p := ⟨xb, 2, none⟩) (by show xb < W1.heap.size; omega)).trans xc2
  clear H b0 S L c3 hr q8
  generalize W1.drewN nq = W2 at *
  have c0 := S8.c0
  have cA : ∀ O, (W2.alloc O).cell? ⟨sb, ss.length * 2, none⟩ = some (.slice s.a s.cases.length s.cap) := fun O => (((Below.refl W2.heap.size W2).alloc (Nat.le_refl _) O).cell (by simpa using S8.lt)).trans c0
  have H1 := H8.below (Below.drew (Below.refl _ _))
  have hne : s.row.blk ≠ some sb := H8.rows.ne _ ((slf_case p fs f hp ss s hs).trans (List.Perm.swap _ _ _)) (by simp [Row.blk, Fn.selRow, hsa, Value.ownBlock])
  go_wp2_with (fail)
  have xs1 : s.row.blk ≠ some xb := hX _ (last_mem p fs f hp (by simp [Fn.rows, hs]))
  have xs2 : sb ≠ xb := fun e => hX f.selRow (last_mem p fs f hp (by simp [Fn.rows])) (by rw [← e]; simp [Row.blk, Fn.selRow, hsa, Value.ownBlock])
  have dr : Below W2.heap.size W2 W2.drew := Below.drew (Below.refl _ _)
  have hxW : xb < W2.heap.size := by have hr : r < W2.heap.size := (H8.rows.blk_ge (row := slf r p) (List.mem_cons_self ..) rfl).2; omega
  have KS := Lib.hid (fun W' (hb : Below W2.heap.size W2 W') => (⟨(hb.cell (p := ⟨xb, 0, none⟩) hxW).trans xc0, (hb.cell (p := ⟨xb, 1, none⟩) hxW).trans xc1, (hb.cell (p := ⟨xb, 2, none⟩) hxW).trans xc2⟩ : W'.cell? ⟨xb, 0, none⟩ = some (.int .i64 x) ∧ W'.cell? ⟨xb, 1, none⟩ = some (.int .i64 y) ∧ W'.cell? ⟨xb, 2, none⟩ = some (.int .i64 z)))
  have KT := Lib.hid (fun (W' : World) (h : W'.cell? ⟨xb, 0, none⟩ = some (.int .i64 x) ∧ W'.cell? ⟨xb, 1, none⟩ = some (.int .i64 y) ∧ W'.cell? ⟨xb, 2, none⟩ = some (.int .i64 z)) (o : Nat) (v : Value) => (⟨(World.cell?_setCell_other _ _ _ _ (by simp only [ne_eq, Addr.mk.injEq]; exact fun e => xs2 e.1)).trans h.1, (World.cell?_setCell_other _ _ _ _ (by simp only [ne_eq, Addr.mk.injEq]; exact fun e => xs2 e.1)).trans h.2.1, (World.cell?_setCell_other _ _ _ _ (by simp only [ne_eq, Addr.mk.injEq]; exact fun e => xs2 e.1)).trans h.2.2⟩ : (W'.setCell ⟨sb, o, none⟩ v).cell? ⟨xb, 0, none⟩ = some (.int .i64 x) ∧ (W'.setCell ⟨sb, o, none⟩ v).cell? ⟨xb, 1, none⟩ = some (.int .i64 y) ∧ (W'.setCell ⟨sb, o, none⟩ v).cell? ⟨xb, 2, none⟩ = some (.int .i64 z)))
  refine wp_region_held_drew (S := (fun W' => W'.cell? ⟨xb, 0, none⟩ = some (.int .i64 x) ∧ W'.cell? ⟨xb, 1, none⟩ = some (.int .i64 y) ∧ W'.cell? ⟨xb, 2, none⟩ = some (.int .i64 z))) (by kernel_rfl) (KS.out _ dr) (fun hHeld => ?_)
  refine wpAnyH_take (i := 0) (v := ?_) rfl (by kernel_rfl) (by kernel_rfl) (by kernel_rfl) (fun _ _ _ h => h) (Or.inl ⟨by rfl, ?_⟩) (by assumption) ?_
  rotate_left
  · intro w hSw; (try dsimp only at hSw); go_simp <;> (try with_reducible rfl)
  simp only [Act.put, List.getElem_toArray, List.getElem_cons_zero, List.getElem_cons_succ, List.setIfInBounds_toArray, List.set_cons_zero, List.set_cons_succ]
  refine wpAnyH_take (i := 1) (v := ?_) rfl (by kernel_rfl) (by kernel_rfl) (by kernel_rfl) (fun _ _ _ h => h) (Or.inl ⟨by rfl, ?_⟩) (by assumption) ?_
  rotate_left
  · intro w hSw; (try dsimp only at hSw); go_simp <;> (try with_reducible rfl)
  simp only [Act.put, List.getElem_toArray, List.getElem_cons_zero, List.getElem_cons_succ, List.setIfInBounds_toArray, List.set_cons_zero, List.set_cons_succ]
  refine wpAnyH_take (i := 2) (v := ?_) rfl (by kernel_rfl) (by kernel_rfl) (by kernel_rfl) (fun _ _ _ h => h) (Or.inl ⟨by rfl, ?_⟩) (by assumption) ?_
  rotate_left
  · intro w hSw; (try dsimp only at hSw); go_simp <;> (try with_reducible rfl)
  simp only [Act.put, List.getElem_toArray, List.getElem_cons_zero, List.getElem_cons_succ, List.setIfInBounds_toArray, List.set_cons_zero, List.set_cons_succ]
  refine wpAnyH_take (i := 3) (v := ?_) rfl (by kernel_rfl) (by kernel_rfl) (by kernel_rfl) (fun _ _ _ h => h) (Or.inl ⟨by rfl, ?_⟩) (by assumption) ?_
  rotate_left
  · intro w hSw; (try dsimp only at hSw); go_simp <;> (try with_reducible rfl)
  simp only [Act.put, List.getElem_toArray, List.getElem_cons_zero, List.getElem_cons_succ, List.setIfInBounds_toArray, List.set_cons_zero, List.set_cons_succ]
  refine wpAnyH_take (i := 5) (v := ?_) rfl (by kernel_rfl) (by kernel_rfl) (by kernel_rfl) (fun _ _ _ h => h) (Or.inl ⟨by rfl, ?_⟩) (by assumption) ?_
  rotate_left
  · intro w hSw; (try dsimp only at hSw); go_simp <;> (try with_reducible rfl)
  simp only [Act.put, List.getElem_toArray, List.getElem_cons_zero, List.getElem_cons_succ, List.setIfInBounds_toArray, List.set_cons_zero, List.set_cons_succ]
  refine wpAnyH_take (i := 6) (v := ?_) rfl (by kernel_rfl) (by kernel_rfl) (by kernel_rfl) (fun _ _ _ h => h) (Or.inl ⟨by rfl, ?_⟩) (by assumption) ?_
  rotate_left
  · intro w hSw; (try dsimp only at hSw); go_simp <;> (try with_reducible rfl)
  simp only [Act.put, List.getElem_toArray, List.getElem_cons_zero, List.getElem_cons_succ, List.setIfInBounds_toArray, List.set_cons_zero, List.set_cons_succ]
  refine wpAnyH_take (i := 7) (v := ?_) rfl (by kernel_rfl) (by kernel_rfl) (by kernel_rfl) (fun _ _ _ h => h) (Or.inl ⟨by rfl, ?_⟩) (by assumption) ?_
  rotate_left
  · intro w hSw; (try dsimp only at hSw); go_simp <;> (try with_reducible rfl)
  simp only [Act.put, List.getElem_toArray, List.getElem_cons_zero, List.getElem_cons_succ, List.setIfInBounds_toArray, List.set_cons_zero, List.set_cons_succ]
  refine wpAnyH_take (i := 8) (v := ?_) rfl (by kernel_rfl) (by kernel_rfl) (by kernel_rfl) (fun _ _ _ h => h) (Or.inl ⟨by rfl, ?_⟩) (by assumption) ?_
  rotate_left
  · intro w hSw; (try dsimp only at hSw); go_simp <;> (try with_reducible rfl)
  simp only [Act.put, List.getElem_toArray, List.getElem_cons_zero, List.getElem_cons_succ, List.setIfInBounds_toArray, List.set_cons_zero, List.set_cons_succ]
  refine wpAnyH_take (i := 9) (v := ?_) rfl (by kernel_rfl) (by kernel_rfl) (by kernel_rfl) (fun _ _ _ h => h) (Or.inl ⟨by rfl, ?_⟩) (by assumption) ?_
  rotate_left
  · intro w hSw; (try dsimp only at hSw); obtain ⟨hw1, hw2, hw3⟩ := hSw; go_simp <;> (try with_reducible rfl)
  simp only [Act.put, List.getElem_toArray, List.getElem_cons_zero, List.getElem_cons_succ, List.setIfInBounds_toArray, List.set_cons_zero, List.set_cons_succ]
  refine wpAnyH_take (i := 10) (v := ?_) rfl (by kernel_rfl) (by kernel_rfl) (by kernel_rfl) (fun _ _ _ h => h) (Or.inl ⟨by rfl, ?_⟩) (by assumption) ?_
  rotate_left
  · intro w hSw; (try dsimp only at hSw); go_simp <;> (try with_reducible rfl)
  simp only [Act.put, List.getElem_toArray, List.getElem_cons_zero, List.getElem_cons_succ, List.setIfInBounds_toArray, List.set_cons_zero, List.set_cons_succ]
  refine wpAnyH_take (i := 11) (v := ?_) rfl (by kernel_rfl) (by kernel_rfl) (by kernel_rfl) (fun _ _ _ h => h) (Or.inl ⟨by rfl, ?_⟩) (by assumption) ?_
  rotate_left
  · intro w hSw; (try dsimp only at hSw); go_simp <;> (try with_reducible rfl)
  simp only [Act.put, List.getElem_toArray, List.getElem_cons_zero, List.getElem_cons_succ, List.setIfInBounds_toArray, List.set_cons_zero, List.set_cons_succ]
  refine wpAnyH_take (i := 12) (v := ?_) rfl (by kernel_rfl) (by kernel_rfl) (by kernel_rfl) (fun _ _ _ h => h) (Or.inl ⟨by rfl, ?_⟩) (by assumption) ?_
  rotate_left
  · intro w hSw; (try dsimp only at hSw); obtain ⟨hw1, hw2, hw3⟩ := hSw; go_simp <;> (try with_reducible rfl)
  simp only [Act.put, List.getElem_toArray, List.getElem_cons_zero, List.getElem_cons_succ, List.setIfInBounds_toArray, List.set_cons_zero, List.set_cons_succ]
  refine wpAnyH_take (i := 13) (v := ?_) rfl (by kernel_rfl) (by kernel_rfl) (by kernel_rfl) (fun _ _ _ h => h) (Or.inl ⟨by rfl, ?_⟩) (by assumption) ?_
  rotate_left
  · intro w hSw; (try dsimp only at hSw); go_simp <;> (try with_reducible rfl)
  simp only [Act.put, List.getElem_toArray, List.getElem_cons_zero, List.getElem_cons_succ, List.setIfInBounds_toArray, List.set_cons_zero, List.set_cons_succ]
  refine wpAnyH_take (i := 14) (v := ?_) rfl (by kernel_rfl) (by kernel_rfl) (by kernel_rfl) (fun _ _ _ h => h) (Or.inl ⟨by rfl, ?_⟩) (by assumption) ?_
  rotate_left
  · intro w hSw; (try dsimp only at hSw); go_simp <;> (try with_reducible rfl)
  simp only [Act.put, List.getElem_toArray, List.getElem_cons_zero, List.getElem_cons_succ, List.setIfInBounds_toArray, List.set_cons_zero, List.set_cons_succ]
  refine wpAnyH_take (i := 15) (v := ?_) rfl (by kernel_rfl) (by kernel_rfl) (by kernel_rfl) (fun _ _ _ h => h) (Or.inl ⟨by rfl, ?_⟩) (by assumption) ?_
  rotate_left
  · intro w hSw; (try dsimp only at hSw); obtain ⟨hw1, hw2, hw3⟩ := hSw; go_simp <;> (try with_reducible rfl)
  simp only [Act.put, List.getElem_toArray, List.getElem_cons_zero, List.getElem_cons_succ, List.setIfInBounds_toArray, List.set_cons_zero, List.set_cons_succ]
  refine wpAnyH_take (i := 16) (v := ?_) rfl (by kernel_rfl) (by kernel_rfl) (by kernel_rfl) (fun _ _ _ h => h) (Or.inl ⟨by rfl, ?_⟩) (by assumption) ?_
  rotate_left
  · intro w hSw; (try dsimp only at hSw); go_simp <;> (try with_reducible rfl)
  simp only [Act.put, List.getElem_toArray, List.getElem_cons_zero, List.getElem_cons_succ, List.setIfInBounds_toArray, List.set_cons_zero, List.set_cons_succ]
  refine wpAnyH_ready (rs := [4, 17]) (by kernel_rfl) (by simp) (AllReadyH.cons rfl (fun K hK => ?_) (AllReadyH.cons rfl (fun K hK => ?_) AllReadyH.nil))
  · go_simp
    refine hK.out _ _ (KS.out _ dr) (fun hHeld2 => ?_)
    clear hK K hHeld
    have hHeld := hHeld2
    clear hHeld2
    try simp only [Act.put, List.getElem_toArray, List.getElem_cons_zero, List.getElem_cons_succ, List.setIfInBounds_toArray, List.set_cons_zero, List.set_cons_succ]
    refine wpAnyH_ready (rs := [17]) (by kernel_rfl) (by simp) (AllReadyH.cons rfl (fun K hK => ?_) AllReadyH.nil)
    go_simp
    refine hK.out _ _ (KS.out _ (dr.alloc (Nat.le_refl _) _)) (fun hHeld2 => ?_)
    clear hK K hHeld
    have hHeld := hHeld2
    clear hHeld2
    try simp only [Act.put, List.getElem_toArray, List.getElem_cons_zero, List.getElem_cons_succ, List.setIfInBounds_toArray, List.set_cons_zero, List.set_cons_succ]
    refine wpAnyH_ready (rs := [18]) (by kernel_rfl) (by simp) (AllReadyH.cons rfl (fun K hK => ?_) AllReadyH.nil)
    rw [if_pos (by rfl)]
    refine wp_app (H1.rows.perm (slf_case p fs f hp ss s hs)) H1.hi _ _ _ (by rfl) [.bool false, .int .i64 x, .int .i64 y, .int .i64 z] 105 (by rfl) (.agg #[.bool false, .int .i64 0, .int .i64 0, .int .i64 0]) 32 Tryz.underlying91 info_case rfl (Nat.succ_pos _) (by rfl) (by rfl) rfl (by simp [Value.oneCell']) (by show (s.cases.length + 1) * 32 ≤ _; omega) (by show s.cases.length + 1 ≤ _; omega) ?_; intro g2 cap2 W3 k1 k2 k3 k4 k5; have d4 : W3.cell? ⟨sb, ss.length * 2, none⟩ = some (.slice s.a s.cases.length s.cap) := ((k2.cell_far ⟨sb, ss.length * 2, none⟩ S8.lt (fun e => hne e.symm)).trans c0); have z4 : ∀ o, W3.frozen? ⟨sb, o, none⟩ = false := (fun o => (k2.frozen_far ⟨sb, o, none⟩ S8.lt (fun e => hne e.symm)).trans (S8.fr o)); have x3 : W3.cell? ⟨xb, 0, none⟩ = some (.int .i64 x) ∧ W3.cell? ⟨xb, 1, none⟩ = some (.int .i64 y) ∧ W3.cell? ⟨xb, 2, none⟩ = some (.int .i64 z) := ⟨((k2.cell_far ⟨xb, 0, none⟩ hxW (fun e => xs1 e.symm)).trans xc0), ((k2.cell_far ⟨xb, 1, none⟩ hxW (fun e => xs1 e.symm)).trans xc1), ((k2.cell_far ⟨xb, 2, none⟩ hxW (fun e => xs1 e.symm)).trans xc2)⟩
    refine hK.out _ _ (x3) (fun hHeld2 => ?_)
    clear hK K hHeld
    have hHeld := hHeld2
    clear hHeld2
    try simp only [Act.put, List.getElem_toArray, List.getElem_cons_zero, List.getElem_cons_succ, List.setIfInBounds_toArray, List.set_cons_zero, List.set_cons_succ]
    refine wpAnyH_take (i := 19) (v := ?_) rfl (by kernel_rfl) (by kernel_rfl) (by kernel_rfl) (fun _ _ _ h => h) (Or.inl ⟨by rfl, ?_⟩) (by assumption) ?_
    rotate_left
    · intro w hSw; (try dsimp only at hSw); go_simp <;> (try with_reducible rfl)
    simp only [Act.put, List.getElem_toArray, List.getElem_cons_zero, List.getElem_cons_succ, List.setIfInBounds_toArray, List.set_cons_zero, List.set_cons_succ]
    refine wpAnyH_take (i := 20) (v := ?_) rfl (by kernel_rfl) (by kernel_rfl) (by kernel_rfl) (fun _ _ _ h => h) (Or.inl ⟨by rfl, ?_⟩) (by assumption) ?_
    rotate_left
    · intro w hSw; (try dsimp only at hSw); go_simp <;> (try with_reducible rfl)
    simp only [Act.put, List.getElem_toArray, List.getElem_cons_zero, List.getElem_cons_succ, List.setIfInBounds_toArray, List.set_cons_zero, List.set_cons_succ]
    refine wpAnyH_ready (rs := [21]) (by kernel_rfl) (by simp) (AllReadyH.cons rfl (fun K hK => ?_) AllReadyH.nil)
    go_simp
    refine hK.out _ _ (KT.out _ x3 _ _) (fun hHeld2 => ?_)
    clear hK K hHeld
    have hHeld := hHeld2
    clear hHeld2
    try simp only [Act.put, List.getElem_toArray, List.getElem_cons_zero, List.getElem_cons_succ, List.setIfInBounds_toArray, List.set_cons_zero, List.set_cons_succ]
    refine wpAnyH_done (by kernel_rfl) ?_ _
    obtain ⟨H5, b5⟩ := H1.case fs f hp ss s hs (x := ⟨false, x, y, z⟩) ⟨hx, hy, hz⟩ hsa k1 k2
    clear k1 k2 k3 k4 k5 d4 z4
    change Exit.inBlock _ _ Exit.normal _ (W3.setCell { block := sb, off := ss.length * 2 + 0 } (Value.slice (some { block := g2, off := 0 }) (s.cases.length + 1) cap2))
    generalize W3.setCell ⟨sb, ss.length * 2 + 0, none⟩ (.slice (some ⟨g2, 0, none⟩) (s.cases.length + 1) cap2) = W5 at *
    obtain ⟨e0, e1, e2, e3, ez⟩ := H5.cells
    obtain ⟨z0, z1, z2, z3, zz⟩ := H5.zero
    go_wp2
    refine leave_taken rfl H5 ?_ (b8.trans ((Below.drew (Below.refl _ _)).trans b5)) ?_ ?_ ?_ ?_
    all_goals first | rfl | (simp; done) | (simp [hfa]; done) | (simp [Pg.bare, taken, hp, hs, onLast_snoc, Fn.bare, Sel.bare]; done)
  · go_simp
    refine hK.out _ _ (KS.out _ (dr.alloc (Nat.le_refl _) _)) (fun hHeld2 => ?_)
    clear hK K hHeld
    have hHeld := hHeld2
    clear hHeld2
    try simp only [Act.put, List.getElem_toArray, List.getElem_cons_zero, List.getElem_cons_succ, List.setIfInBounds_toArray, List.set_cons_zero, List.set_cons_succ]
    refine wpAnyH_ready (rs := [4]) (by kernel_rfl) (by simp) (AllReadyH.cons rfl (fun K hK => ?_) AllReadyH.nil)
    go_simp
    refine hK.out _ _ (KS.out _ (dr.alloc (Nat.le_refl _) _)) (fun hHeld2 => ?_)
    clear hK K hHeld
    have hHeld := hHeld2
    clear hHeld2
    try simp only [Act.put, List.getElem_toArray, List.getElem_cons_zero, List.getElem_cons_succ, List.setIfInBounds_toArray, List.set_cons_zero, List.set_cons_succ]
    refine wpAnyH_ready (rs := [18]) (by kernel_rfl) (by simp) (AllReadyH.cons rfl (fun K hK => ?_) AllReadyH.nil)
    rw [if_pos (by rfl)]
    refine wp_app (H1.rows.perm (slf_case p fs f hp ss s hs)) H1.hi _ _ _ (by rfl) [.bool false, .int .i64 x, .int .i64 y, .int .i64 z] 105 (by rfl) (.agg #[.bool false, .int .i64 0, .int .i64 0, .int .i64 0]) 32 Tryz.underlying91 info_case rfl (Nat.succ_pos _) (by rfl) (by rfl) rfl (by simp [Value.oneCell']) (by show (s.cases.length + 1) * 32 ≤ _; omega) (by show s.cases.length + 1 ≤ _; omega) ?_; intro g2 cap2 W3 k1 k2 k3 k4 k5; have d4 : W3.cell? ⟨sb, ss.length * 2, none⟩ = some (.slice s.a s.cases.length s.cap) := ((k2.cell_far ⟨sb, ss.length * 2, none⟩ S8.lt (fun e => hne e.symm)).trans c0); have z4 : ∀ o, W3.frozen? ⟨sb, o, none⟩ = false := (fun o => (k2.frozen_far ⟨sb, o, none⟩ S8.lt (fun e => hne e.symm)).trans (S8.fr o)); have x3 : W3.cell? ⟨xb, 0, none⟩ = some (.int .i64 x) ∧ W3.cell? ⟨xb, 1, none⟩ = some (.int .i64 y) ∧ W3.cell? ⟨xb, 2, none⟩ = some (.int .i64 z) := ⟨((k2.cell_far ⟨xb, 0, none⟩ hxW (fun e => xs1 e.symm)).trans xc0), ((k2.cell_far ⟨xb, 1, none⟩ hxW (fun e => xs1 e.symm)).trans xc1), ((k2.cell_far ⟨xb, 2, none⟩ hxW (fun e => xs1 e.symm)).trans xc2)⟩
    refine hK.out _ _ (x3) (fun hHeld2 => ?_)
    clear hK K hHeld
    have hHeld := hHeld2
    clear hHeld2
    try simp only [Act.put, List.getElem_toArray, List.getElem_cons_zero, List.getElem_cons_succ, List.setIfInBounds_toArray, List.set_cons_zero, List.set_cons_succ]
    refine wpAnyH_take (i := 19) (v := ?_) rfl (by kernel_rfl) (by kernel_rfl) (by kernel_rfl) (fun _ _ _ h => h) (Or.inl ⟨by rfl, ?_⟩) (by assumption) ?_
    rotate_left
    · intro w hSw; (try dsimp only at hSw); go_simp <;> (try with_reducible rfl)
    simp only [Act.put, List.getElem_toArray, List.getElem_cons_zero, List.getElem_cons_succ, List.setIfInBounds_toArray, List.set_cons_zero, List.set_cons_succ]
    refine wpAnyH_take (i := 20) (v := ?_) rfl (by kernel_rfl) (by kernel_rfl) (by kernel_rfl) (fun _ _ _ h => h) (Or.inl ⟨by rfl, ?_⟩) (by assumption) ?_
    rotate_left
    · intro w hSw; (try dsimp only at hSw); go_simp <;> (try with_reducible rfl)
    simp only [Act.put, List.getElem_toArray, List.getElem_cons_zero, List.getElem_cons_succ, List.setIfInBounds_toArray, List.set_cons_zero, List.set_cons_succ]
    refine wpAnyH_ready (rs := [21]) (by kernel_rfl) (by simp) (AllReadyH.cons rfl (fun K hK => ?_) AllReadyH.nil)
    go_simp
    refine hK.out _ _ (KT.out _ x3 _ _) (fun hHeld2 => ?_)
    clear hK K hHeld
    have hHeld := hHeld2
    clear hHeld2
    try simp only [Act.put, List.getElem_toArray, List.getElem_cons_zero, List.getElem_cons_succ, List.setIfInBounds_toArray, List.set_cons_zero, List.set_cons_succ]
    refine wpAnyH_done (by kernel_rfl) ?_ _
    obtain ⟨H5, b5⟩ := H1.case fs f hp ss s hs (x := ⟨false, x, y, z⟩) ⟨hx, hy, hz⟩ hsa k1 k2
    clear k1 k2 k3 k4 k5 d4 z4
    change Exit.inBlock _ _ Exit.normal _ (W3.setCell { block := sb, off := ss.length * 2 + 0 } (Value.slice (some { block := g2, off := 0 }) (s.cases.length + 1) cap2))
    generalize W3.setCell ⟨sb, ss.length * 2 + 0, none⟩ (.slice (some ⟨g2, 0, none⟩) (s.cases.length + 1) cap2) = W5 at *
    obtain ⟨e0, e1, e2, e3, ez⟩ := H5.cells
    obtain ⟨z0, z1, z2, z3, zz⟩ := H5.zero
    go_wp2
    refine leave_taken rfl H5 ?_ (b8.trans ((Below.drew (Below.refl _ _)).trans b5)) ?_ ?_ ?_ ?_
    all_goals first | rfl | (simp; done) | (simp [hfa]; done) | (simp [Pg.bare, taken, hp, hs, onLast_snoc, Fn.bare, Sel.bare]; done)
end Go.Proofs.YtlhhmlfcodmebaaGreatDoor.Pg
