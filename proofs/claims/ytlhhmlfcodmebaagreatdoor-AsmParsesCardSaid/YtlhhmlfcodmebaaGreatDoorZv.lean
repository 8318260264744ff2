/- Several texts of one proof, one behind the other. A line taken by the reference, walked: locks, the first line. The condition: the program's lists in memory. | A line taken by the reference, walked: choose. The condition: the program's lists in memory. -/
import Derived.Test.YtlhhmlfcodmebaaGreatDoorZu
namespace Go.Proofs.YtlhhmlfcodmebaaGreatDoor.Pg
set_option linter.unusedVariables false
set_option linter.unusedSimpArgs false
open Go.RowKit Go.WideShapes Go.ChangeShapes
set_option linter.unusedVariables false
set_option linter.unusedSimpArgs false
set_option maxHeartbeats 8000000 in
set_option maxRecDepth 100000 in
theorem rtaken_lock (n0 N cap : Nat) (p : Pg) (op : Int) (a : Option Addr) (W : World) (R : Rws n0 p.rows W) (F : p.Few N) (hn : n0 ≤ W.heap.size) (hN : N ≤ 1000000) :
    Calls Tryz.prog 32 #[p.v, .int .i64 4, .int .i64 op, .slice a 0 cap] W (Tkn n0 N W (taken p.bare 4 0 [])) := by
  have bb : ∀ O O', Below W.heap.size W ((W.alloc O).alloc O') := fun O O' => ((Below.refl _ _).alloc (Nat.le_refl _) _).alloc (by simp) _
  have b0 : ∀ O O', Below n0 W ((W.alloc O).alloc O') := fun O O' => (bb O O').mono hn
  have hlk := F.locks
  unfold Pg.v
  go_enter Tryz.func32, Tryz.ntmps32
  go_wp2
  refine bodyPost_ret (v := .agg #[.slice p.va p.vars.length p.vcap, .int .i64 (p.locks + 1), .slice p.ha p.chans.length p.hcap, .slice p.fa p.funcs.length p.fcap]) ?_ rfl ⟨{ p with locks := (p.locks + 1) }, rfl, rfl, R.below (bb _ _), few_lock F, b0 _ _⟩
  simp [results, Tryz.results32, go_sem]
set_option maxHeartbeats 8000000 in
set_option maxRecDepth 100000 in
theorem rtaken_scarab (n0 N cap : Nat) (p : Pg) (op : Int) (a : Option Addr) (W : World) (R : Rws n0 p.rows W) (F : p.Few N) (hn : n0 ≤ W.heap.size) (hN : N ≤ 1000000) :
    Calls Tryz.prog 32 #[p.v, .int .i64 1, .int .i64 op, .slice a 0 cap] W (Tkn n0 N W (taken p.bare 1 0 [])) := by
  have bb : ∀ O O', Below W.heap.size W ((W.alloc O).alloc O') := fun O O' => ((Below.refl _ _).alloc (Nat.le_refl _) _).alloc (by simp) _
  have b0 : ∀ O O', Below n0 W ((W.alloc O).alloc O') := fun O O' => (bb O O').mono hn
  have hlk := F.locks
  unfold Pg.v
  go_enter Tryz.func32, Tryz.ntmps32
  go_wp2
  refine bodyPost_ret (v := .agg #[.slice p.va p.vars.length p.vcap, .int .i64 p.locks, .slice p.ha p.chans.length p.hcap, .slice p.fa p.funcs.length p.fcap]) ?_ rfl ⟨{ p with locks := p.locks }, rfl, rfl, R.below (bb _ _), F.mono (Nat.le_succ N), b0 _ _⟩
  simp [results, Tryz.results32, go_sem]
end Go.Proofs.YtlhhmlfcodmebaaGreatDoor.Pg
namespace Go.Proofs.YtlhhmlfcodmebaaGreatDoor.Pg
set_option linter.unusedVariables false
set_option linter.unusedSimpArgs false
open Go.RowKit Go.WideShapes Go.ChangeShapes
set_option linter.unusedVariables false
set_option linter.unusedSimpArgs false
set_option maxHeartbeats 8000000 in
set_option maxRecDepth 100000 in
theorem rtaken_choose (n0 N cap : Nat) (p : Pg) (op : Int) (a : Option Addr) (x : Int) (W : World) (R : Rws n0 p.rows W) (F : p.Few N) (hn : n0 ≤ W.heap.size) (X : Xs a [x] W) (hc : 1 ≤ cap) (hN : N ≤ 1000000) (fs : List Fn) (f : Fn) (hp : p.funcs = fs ++ [f]) :
    Calls Tryz.prog 32 #[p.v, .int .i64 7, .int .i64 op, .slice a 1 cap] W (Tkn n0 N W (taken p.bare 7 0 [x])) := by
  obtain ⟨xb, rfl, hxl, hxc⟩ := X.at' (List.cons_ne_nil _ _)
  have hx0 := hxc 0 x rfl
  have hx := X.i64 x (by simp)
  have H := Hs.new R F hn zro
  have b0 : Below n0 W ((W.alloc (.cells p.cs.toArray 26)).alloc (.cells zro.cs.toArray 26)) := ((Below.refl _ _).alloc hn _).alloc (by simp; omega) _
  have hlf := F.lenF
  have hls := (F.funcs f (by rw [hp]; simp)).lenS
  unfold Pg.v
  unfold Pg.cs at H b0
  have hfl : p.funcs.length = fs.length + 1 := by rw [hp]; simp
  have xc0 : ∀ O O', ((W.alloc O).alloc O').cell? ⟨xb, 0, none⟩ = some (.int .i64 x) := fun O O' => ((((Below.refl W.heap.size W).alloc (Nat.le_refl _) O).alloc (by simp) O').cell (by simpa using hxl)).trans hx0
  obtain ⟨b, L⟩ := rows_lastf H.rows (by simp [Pg.rows]) fs f hp
  rw [hfl] at hlf
  have hfa := L.fa
  rw [hfl] at H b0 L
  rw [hfl]
  rw [hfa] at H b0 L
  rw [hfa]
  go_enter Tryz.func32, Tryz.ntmps32
  go_wp2_with (fail)
  replace xc0 := xc0 (.cells [.slice p.va p.vars.length p.vcap, .int .i64 p.locks, .slice p.ha p.chans.length p.hcap, .slice (some ⟨b, 0, none⟩) (fs.length + 1) p.fcap].toArray 26) (.cells [.slice none 0 0, .int .i64 0, .slice none 0 0, .slice none 0 0].toArray 26)
  simp only [zro, List.length_nil] at H b0 L
  generalize (W.alloc (.cells [.slice p.va p.vars.length p.vcap, .int .i64 p.locks, .slice p.ha p.chans.length p.hcap, .slice (some ⟨b, 0, none⟩) (fs.length + 1) p.fcap].toArray 26)).alloc (.cells [.slice none 0 0, .int .i64 0, .slice none 0 0, .slice none 0 0].toArray 26) = W1 at *
  generalize W.heap.size = r at *
  have c3 := L.c3
  have cA : ∀ O, (W1.alloc O).cell? ⟨b, fs.length * 4 + 3, none⟩ = some (.slice f.sa f.sels.length f.scap) := fun O => (((Below.refl W1.heap.size W1).alloc (Nat.le_refl _) O).cell (by simpa using L.lt)).trans c3
  have H1 := H.below (Below.drew (Below.refl _ _))
  have hne : f.selRow.blk ≠ some b := H.rows.ne _ ((slf_last p fs f hp).trans (List.Perm.cons _ (List.Perm.swap _ _ _))) (by simp [Row.blk, Pg.funcRow, hfa, Value.ownBlock])
  go_region_law ((refine step_app (H1.rows.perm ((slf_last p fs f hp).trans ((List.Perm.cons _ (List.Perm.swap _ _ _)).trans (List.Perm.swap _ _ _)))) H1.hi rfl _ _ _ (by rfl) [.slice none 0 0, .int .i64 x] 93 (by rfl) (.agg #[.slice none 0 0, .int .i64 0]) 32 Tryz.underlying43 info_sel rfl (Nat.succ_pos _) (by rfl) (by rfl) rfl (by simp [Value.oneCell']) (by show (f.sels.length + 1) * 32 ≤ _; omega) (by show f.sels.length + 1 ≤ _; omega) ?_; intro g2 cap2 W3 k1 k2 k3 k4 k5; have d4 : W3.cell? ⟨b, fs.length * 4 + 3, none⟩ = some (.slice f.sa f.sels.length f.scap) := ((k2.cell_far ⟨b, fs.length * 4 + 3, none⟩ L.lt (fun e => hne e.symm)).trans c3); have z4 : ∀ o, W3.frozen? ⟨b, o, none⟩ = false := (fun o => (k2.frozen_far ⟨b, o, none⟩ L.lt (fun e => hne e.symm)).trans (L.fr o))))
  all_goals obtain ⟨H5, b5⟩ := H1.sel fs f hp hx hfa k1 k2
  all_goals clear k1 k2 k3 k4 k5 d4 z4
  all_goals change Exit.inBlock _ _ Exit.normal _ (W3.setCell { block := b, off := fs.length * 4 + 3 } (Value.slice (some { block := g2, off := 0 }) (f.sels.length + 1) cap2))
  all_goals generalize W3.setCell ⟨b, fs.length * 4 + 3, none⟩ (.slice (some ⟨g2, 0, none⟩) (f.sels.length + 1) cap2) = W5 at *
  all_goals obtain ⟨e0, e1, e2, e3, ez⟩ := H5.cells
  all_goals obtain ⟨z0, z1, z2, z3, zz⟩ := H5.zero
  all_goals go_wp2
  all_goals refine leave_taken rfl H5 ?_ (b0.trans ((Below.drew (Below.refl _ _)).trans b5)) ?_ ?_ ?_ ?_
  all_goals first | rfl | (simp; done) | (simp [Pg.bare, taken, hp, onLast_snoc, Fn.bare, Sel.bare]; done) | (simp [hfa]; done)
end Go.Proofs.YtlhhmlfcodmebaaGreatDoor.Pg
