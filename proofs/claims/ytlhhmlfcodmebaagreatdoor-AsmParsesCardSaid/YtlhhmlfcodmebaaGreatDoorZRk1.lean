/- A line taken by the reference, walked: vars, channels, functions. The condition: the program's lists in memory. -/
import Derived.Test.YtlhhmlfcodmebaaGreatDoorZu
namespace Go.Proofs.YtlhhmlfcodmebaaGreatDoor.Pg
set_option linter.unusedVariables false
set_option linter.unusedSimpArgs false
open Go.RowKit Go.WideShapes Go.ChangeShapes
set_option linter.unusedVariables false
set_option linter.unusedSimpArgs false
set_option maxHeartbeats 8000000 in
set_option maxRecDepth 100000 in
theorem rtaken_var (n0 N cap : Nat) (p : Pg) (op : Int) (a : Option Addr) (x : Int) (W : World) (R : Rws n0 p.rows W) (F : p.Few N) (hn : n0 ≤ W.heap.size) (X : Xs a [x] W) (hc : 1 ≤ cap) (hN : N ≤ 1000000) :
    Calls Tryz.prog 32 #[p.v, .int .i64 2, .int .i64 op, .slice a 1 cap] W (Tkn n0 N W (taken p.bare 2 0 [x])) := by
  obtain ⟨xb, rfl, hxl, hxc⟩ := X.at' (List.cons_ne_nil _ _)
  have hx0 := hxc 0 x rfl
  have hx := X.i64 x (by simp)
  have H := Hs.new R F hn zro
  have b0 : Below n0 W ((W.alloc (.cells p.cs.toArray 26)).alloc (.cells zro.cs.toArray 26)) := ((Below.refl _ _).alloc hn _).alloc (by simp; omega) _
  have hlen := F.lenV
  unfold Pg.v
  unfold Pg.cs at H b0
  have xc0 : ∀ O O', ((W.alloc O).alloc O').cell? ⟨xb, 0, none⟩ = some (.int .i64 x) := fun O O' => ((((Below.refl W.heap.size W).alloc (Nat.le_refl _) O).alloc (by simp) O').cell (by simpa using hxl)).trans hx0
  go_enter Tryz.func32, Tryz.ntmps32
  go_wp2_with (fail)
  replace xc0 := xc0 (.cells [.slice p.va p.vars.length p.vcap, .int .i64 p.locks, .slice p.ha p.chans.length p.hcap, .slice p.fa p.funcs.length p.fcap].toArray 26) (.cells [.slice none 0 0, .int .i64 0, .slice none 0 0, .slice none 0 0].toArray 26)
  simp only [zro, List.length_nil] at H b0
  generalize (W.alloc (.cells [.slice p.va p.vars.length p.vcap, .int .i64 p.locks, .slice p.ha p.chans.length p.hcap, .slice p.fa p.funcs.length p.fcap].toArray 26)).alloc (.cells [.slice none 0 0, .int .i64 0, .slice none 0 0, .slice none 0 0].toArray 26) = W1 at *
  generalize W.heap.size = r at *
  have c0 : W1.cell? ⟨r, 0, none⟩ = some (.slice p.va p.vars.length p.vcap) := slf_cell (r := r) (p := p) H.rows (List.mem_cons_self ..) 0 (by decide)
  have zr := slf_fr (r := r) (p := p) H.rows (List.mem_cons_self ..)
  have cA : ∀ O, (W1.alloc O).cell? ⟨r, 0, none⟩ = some (.slice p.va p.vars.length p.vcap) := fun O => (((Below.refl W1.heap.size W1).alloc (Nat.le_refl _) O).cell (by have := (H.rows.blk_ge (row := slf r p) (List.mem_cons_self ..) rfl).2; simpa using this)).trans c0
  have H1 := H.below (Below.drew (Below.refl _ _))
  go_region_law ((refine step_app (H1.rows.perm (List.Perm.swap _ _ _)) H1.hi rfl _ _ _ (by rfl) [.bool false, .int .i64 x] 83 (by rfl) (.agg #[.bool false, .int .i64 0]) 16 Tryz.underlying22 info_var rfl (Nat.succ_pos _) (by rfl) (by rfl) rfl (by simp [Fn.cs, Fn.new, Value.oneCell']) (by show (p.vars.length + 1) * 16 ≤ _; omega) (by show p.vars.length + 1 ≤ _; omega) ?_; intro g2 cap2 W3 k1 k2 k3 k4 k5; have d0 : W3.cell? ⟨r, 0, none⟩ = some (.slice p.va p.vars.length p.vcap) := slf_cell (r := r) (p := p) k1 (List.mem_cons_of_mem _ (List.mem_cons_self ..)) 0 (by decide); have d1 : W3.cell? ⟨r, 1, none⟩ = some (.int .i64 p.locks) := slf_cell (r := r) (p := p) k1 (List.mem_cons_of_mem _ (List.mem_cons_self ..)) 1 (by decide); have d2 : W3.cell? ⟨r, 2, none⟩ = some (.slice p.ha p.chans.length p.hcap) := slf_cell (r := r) (p := p) k1 (List.mem_cons_of_mem _ (List.mem_cons_self ..)) 2 (by decide); have d3 : W3.cell? ⟨r, 3, none⟩ = some (.slice p.fa p.funcs.length p.fcap) := slf_cell (r := r) (p := p) k1 (List.mem_cons_of_mem _ (List.mem_cons_self ..)) 3 (by decide); have fz3 := slf_fr (r := r) (p := p) k1 (List.mem_cons_of_mem _ (List.mem_cons_self ..))))
  all_goals obtain ⟨H5, b5⟩ := H1.var (x := ⟨false, x⟩) hx k1 k2
  all_goals clear k1 k2 k3 k4 k5 d0 d1 d2 d3 fz3 cA zr
  all_goals change Exit.inBlock 0 (Exit.then _ _) Exit.normal _ (W3.setCell { block := r, off := 0 } (Value.slice (some { block := g2, off := 0 }) (p.vars.length + 1) cap2))
  all_goals generalize W3.setCell ⟨r, 0, none⟩ (.slice (some ⟨g2, 0, none⟩) (p.vars.length + 1) cap2) = W5 at *
  all_goals obtain ⟨e0, e1, e2, e3, ez⟩ := H5.cells
  all_goals obtain ⟨z0, z1, z2, z3, zz⟩ := H5.zero
  all_goals go_wp2
  all_goals refine leave_taken rfl H5 ?_ (b0.trans ((Below.drew (Below.refl _ _)).trans b5)) ?_ ?_ ?_ ?_
  all_goals first | rfl | (simp; done) | (simp [Pg.bare, taken])
set_option maxHeartbeats 8000000 in
set_option maxRecDepth 100000 in
theorem rtaken_atomic (n0 N cap : Nat) (p : Pg) (op : Int) (a : Option Addr) (x : Int) (W : World) (R : Rws n0 p.rows W) (F : p.Few N) (hn : n0 ≤ W.heap.size) (X : Xs a [x] W) (hc : 1 ≤ cap) (hN : N ≤ 1000000) :
    Calls Tryz.prog 32 #[p.v, .int .i64 3, .int .i64 op, .slice a 1 cap] W (Tkn n0 N W (taken p.bare 3 0 [x])) := by
  obtain ⟨xb, rfl, hxl, hxc⟩ := X.at' (List.cons_ne_nil _ _)
  have hx0 := hxc 0 x rfl
  have hx := X.i64 x (by simp)
  have H := Hs.new R F hn zro
  have b0 : Below n0 W ((W.alloc (.cells p.cs.toArray 26)).alloc (.cells zro.cs.toArray 26)) := ((Below.refl _ _).alloc hn _).alloc (by simp; omega) _
  have hlen := F.lenV
  unfold Pg.v
  unfold Pg.cs at H b0
  have xc0 : ∀ O O', ((W.alloc O).alloc O').cell? ⟨xb, 0, none⟩ = some (.int .i64 x) := fun O O' => ((((Below.refl W.heap.size W).alloc (Nat.le_refl _) O).alloc (by simp) O').cell (by simpa using hxl)).trans hx0
  go_enter Tryz.func32, Tryz.ntmps32
  go_wp2_with (fail)
  replace xc0 := xc0 (.cells [.slice p.va p.vars.length p.vcap, .int .i64 p.locks, .slice p.ha p.chans.length p.hcap, .slice p.fa p.funcs.length p.fcap].toArray 26) (.cells [.slice none 0 0, .int .i64 0, .slice none 0 0, .slice none 0 0].toArray 26)
  simp only [zro, List.length_nil] at H b0
  generalize (W.alloc (.cells [.slice p.va p.vars.length p.vcap, .int .i64 p.locks, .slice p.ha p.chans.length p.hcap, .slice p.fa p.funcs.length p.fcap].toArray 26)).alloc (.cells [.slice none 0 0, .int .i64 0, .slice none 0 0, .slice none 0 0].toArray 26) = W1 at *
  generalize W.heap.size = r at *
  have c0 : W1.cell? ⟨r, 0, none⟩ = some (.slice p.va p.vars.length p.vcap) := slf_cell (r := r) (p := p) H.rows (List.mem_cons_self ..) 0 (by decide)
  have zr := slf_fr (r := r) (p := p) H.rows (List.mem_cons_self ..)
  have cA : ∀ O, (W1.alloc O).cell? ⟨r, 0, none⟩ = some (.slice p.va p.vars.length p.vcap) := fun O => (((Below.refl W1.heap.size W1).alloc (Nat.le_refl _) O).cell (by have := (H.rows.blk_ge (row := slf r p) (List.mem_cons_self ..) rfl).2; simpa using this)).trans c0
  have H1 := H.below (Below.drew (Below.refl _ _))
  go_region_law ((refine step_app (H1.rows.perm (List.Perm.swap _ _ _)) H1.hi rfl _ _ _ (by rfl) [.bool true, .int .i64 x] 83 (by rfl) (.agg #[.bool false, .int .i64 0]) 16 Tryz.underlying22 info_var rfl (Nat.succ_pos _) (by rfl) (by rfl) rfl (by simp [Fn.cs, Fn.new, Value.oneCell']) (by show (p.vars.length + 1) * 16 ≤ _; omega) (by show p.vars.length + 1 ≤ _; omega) ?_; intro g2 cap2 W3 k1 k2 k3 k4 k5; have d0 : W3.cell? ⟨r, 0, none⟩ = some (.slice p.va p.vars.length p.vcap) := slf_cell (r := r) (p := p) k1 (List.mem_cons_of_mem _ (List.mem_cons_self ..)) 0 (by decide); have d1 : W3.cell? ⟨r, 1, none⟩ = some (.int .i64 p.locks) := slf_cell (r := r) (p := p) k1 (List.mem_cons_of_mem _ (List.mem_cons_self ..)) 1 (by decide); have d2 : W3.cell? ⟨r, 2, none⟩ = some (.slice p.ha p.chans.length p.hcap) := slf_cell (r := r) (p := p) k1 (List.mem_cons_of_mem _ (List.mem_cons_self ..)) 2 (by decide); have d3 : W3.cell? ⟨r, 3, none⟩ = some (.slice p.fa p.funcs.length p.fcap) := slf_cell (r := r) (p := p) k1 (List.mem_cons_of_mem _ (List.mem_cons_self ..)) 3 (by decide); have fz3 := slf_fr (r := r) (p := p) k1 (List.mem_cons_of_mem _ (List.mem_cons_self ..))))
  all_goals obtain ⟨H5, b5⟩ := H1.var (x := ⟨true, x⟩) hx k1 k2
  all_goals clear k1 k2 k3 k4 k5 d0 d1 d2 d3 fz3 cA zr
  all_goals change Exit.inBlock 0 (Exit.then _ _) Exit.normal _ (W3.setCell { block := r, off := 0 } (Value.slice (some { block := g2, off := 0 }) (p.vars.length + 1) cap2))
  all_goals generalize W3.setCell ⟨r, 0, none⟩ (.slice (some ⟨g2, 0, none⟩) (p.vars.length + 1) cap2) = W5 at *
  all_goals obtain ⟨e0, e1, e2, e3, ez⟩ := H5.cells
  all_goals obtain ⟨z0, z1, z2, z3, zz⟩ := H5.zero
  all_goals go_wp2
  all_goals refine leave_taken rfl H5 ?_ (b0.trans ((Below.drew (Below.refl _ _)).trans b5)) ?_ ?_ ?_ ?_
  all_goals first | rfl | (simp; done) | (simp [Pg.bare, taken])
set_option maxHeartbeats 8000000 in
set_option maxRecDepth 100000 in
theorem rtaken_chan (n0 N cap : Nat) (p : Pg) (op : Int) (a : Option Addr) (x : Int) (W : World) (R : Rws n0 p.rows W) (F : p.Few N) (hn : n0 ≤ W.heap.size) (X : Xs a [x] W) (hc : 1 ≤ cap) (hN : N ≤ 1000000) :
    Calls Tryz.prog 32 #[p.v, .int .i64 5, .int .i64 op, .slice a 1 cap] W (Tkn n0 N W (taken p.bare 5 0 [x])) := by
  obtain ⟨xb, rfl, hxl, hxc⟩ := X.at' (List.cons_ne_nil _ _)
  have hx0 := hxc 0 x rfl
  have hx := X.i64 x (by simp)
  have H := Hs.new R F hn zro
  have b0 : Below n0 W ((W.alloc (.cells p.cs.toArray 26)).alloc (.cells zro.cs.toArray 26)) := ((Below.refl _ _).alloc hn _).alloc (by simp; omega) _
  have hlen := F.lenH
  unfold Pg.v
  unfold Pg.cs at H b0
  have xc0 : ∀ O O', ((W.alloc O).alloc O').cell? ⟨xb, 0, none⟩ = some (.int .i64 x) := fun O O' => ((((Below.refl W.heap.size W).alloc (Nat.le_refl _) O).alloc (by simp) O').cell (by simpa using hxl)).trans hx0
  go_enter Tryz.func32, Tryz.ntmps32
  go_wp2_with (fail)
  replace xc0 := xc0 (.cells [.slice p.va p.vars.length p.vcap, .int .i64 p.locks, .slice p.ha p.chans.length p.hcap, .slice p.fa p.funcs.length p.fcap].toArray 26) (.cells [.slice none 0 0, .int .i64 0, .slice none 0 0, .slice none 0 0].toArray 26)
  simp only [zro, List.length_nil] at H b0
  generalize (W.alloc (.cells [.slice p.va p.vars.length p.vcap, .int .i64 p.locks, .slice p.ha p.chans.length p.hcap, .slice p.fa p.funcs.length p.fcap].toArray 26)).alloc (.cells [.slice none 0 0, .int .i64 0, .slice none 0 0, .slice none 0 0].toArray 26) = W1 at *
  generalize W.heap.size = r at *
  have c2 : W1.cell? ⟨r, 2, none⟩ = some (.slice p.ha p.chans.length p.hcap) := slf_cell (r := r) (p := p) H.rows (List.mem_cons_self ..) 2 (by decide)
  have zr := slf_fr (r := r) (p := p) H.rows (List.mem_cons_self ..)
  have cA : ∀ O, (W1.alloc O).cell? ⟨r, 2, none⟩ = some (.slice p.ha p.chans.length p.hcap) := fun O => (((Below.refl W1.heap.size W1).alloc (Nat.le_refl _) O).cell (by have := (H.rows.blk_ge (row := slf r p) (List.mem_cons_self ..) rfl).2; simpa using this)).trans c2
  have H1 := H.below (Below.drew (Below.refl _ _))
  go_region_law ((refine step_app (H1.rows.perm ((List.Perm.cons _ ((rows_chan p).append_right _)).trans (List.Perm.swap _ _ _))) H1.hi rfl _ _ _ (by rfl) [.int .i64 x] 3 (by rfl) (.int .i64 0) 8 Tryz.underlying23 info_int rfl (Nat.succ_pos _) (by rfl) (by rfl) rfl (by simp [Fn.cs, Fn.new, Value.oneCell']) (by show (p.chans.length + 1) * 8 ≤ _; omega) (by show p.chans.length + 1 ≤ _; omega) ?_; intro g2 cap2 W3 k1 k2 k3 k4 k5; have d0 : W3.cell? ⟨r, 0, none⟩ = some (.slice p.va p.vars.length p.vcap) := slf_cell (r := r) (p := p) k1 (List.mem_cons_of_mem _ (List.mem_cons_self ..)) 0 (by decide); have d1 : W3.cell? ⟨r, 1, none⟩ = some (.int .i64 p.locks) := slf_cell (r := r) (p := p) k1 (List.mem_cons_of_mem _ (List.mem_cons_self ..)) 1 (by decide); have d2 : W3.cell? ⟨r, 2, none⟩ = some (.slice p.ha p.chans.length p.hcap) := slf_cell (r := r) (p := p) k1 (List.mem_cons_of_mem _ (List.mem_cons_self ..)) 2 (by decide); have d3 : W3.cell? ⟨r, 3, none⟩ = some (.slice p.fa p.funcs.length p.fcap) := slf_cell (r := r) (p := p) k1 (List.mem_cons_of_mem _ (List.mem_cons_self ..)) 3 (by decide); have fz3 := slf_fr (r := r) (p := p) k1 (List.mem_cons_of_mem _ (List.mem_cons_self ..))))
  all_goals obtain ⟨H5, b5⟩ := H1.chan hx k1 k2
  all_goals clear k1 k2 k3 k4 k5 d0 d1 d2 d3 fz3 cA zr
  all_goals change Exit.inBlock 0 (Exit.then _ _) Exit.normal _ (W3.setCell { block := r, off := 2 } (Value.slice (some { block := g2, off := 0 }) (p.chans.length + 1) cap2))
  all_goals generalize W3.setCell ⟨r, 2, none⟩ (.slice (some ⟨g2, 0, none⟩) (p.chans.length + 1) cap2) = W5 at *
  all_goals obtain ⟨e0, e1, e2, e3, ez⟩ := H5.cells
  all_goals obtain ⟨z0, z1, z2, z3, zz⟩ := H5.zero
  all_goals go_wp2
  all_goals refine leave_taken rfl H5 ?_ (b0.trans ((Below.drew (Below.refl _ _)).trans b5)) ?_ ?_ ?_ ?_
  all_goals first | rfl | (simp; done) | (simp [Pg.bare, taken])
set_option maxHeartbeats 8000000 in
set_option maxRecDepth 100000 in
theorem rtaken_func (n0 N cap : Nat) (p : Pg) (op : Int) (a : Option Addr) (x y : Int) (W : World) (R : Rws n0 p.rows W) (F : p.Few N) (hn : n0 ≤ W.heap.size) (X : Xs a [x, y] W) (hc : 2 ≤ cap) (hN : N ≤ 1000000) :
    Calls Tryz.prog 32 #[p.v, .int .i64 6, .int .i64 op, .slice a 2 cap] W (Tkn n0 N W (taken p.bare 6 0 [x, y])) := by
  obtain ⟨xb, rfl, hxl, hxc⟩ := X.at' (List.cons_ne_nil _ _)
  have hx0 := hxc 0 x rfl
  have hx := X.i64 x (by simp)
  have hx1 := hxc 1 y rfl
  have hy := X.i64 y (by simp)
  have H := Hs.new R F hn zro
  have b0 : Below n0 W ((W.alloc (.cells p.cs.toArray 26)).alloc (.cells zro.cs.toArray 26)) := ((Below.refl _ _).alloc hn _).alloc (by simp; omega) _
  have hlen := F.lenF
  unfold Pg.v
  unfold Pg.cs at H b0
  have xc0 : ∀ O O', ((W.alloc O).alloc O').cell? ⟨xb, 0, none⟩ = some (.int .i64 x) := fun O O' => ((((Below.refl W.heap.size W).alloc (Nat.le_refl _) O).alloc (by simp) O').cell (by simpa using hxl)).trans hx0
  have xc1 : ∀ O O', ((W.alloc O).alloc O').cell? ⟨xb, 1, none⟩ = some (.int .i64 y) := fun O O' => ((((Below.refl W.heap.size W).alloc (Nat.le_refl _) O).alloc (by simp) O').cell (by simpa using hxl)).trans hx1
  go_enter Tryz.func32, Tryz.ntmps32
  go_wp2_with (fail)
  replace xc0 := xc0 (.cells [.slice p.va p.vars.length p.vcap, .int .i64 p.locks, .slice p.ha p.chans.length p.hcap, .slice p.fa p.funcs.length p.fcap].toArray 26) (.cells [.slice none 0 0, .int .i64 0, .slice none 0 0, .slice none 0 0].toArray 26)
  replace xc1 := xc1 (.cells [.slice p.va p.vars.length p.vcap, .int .i64 p.locks, .slice p.ha p.chans.length p.hcap, .slice p.fa p.funcs.length p.fcap].toArray 26) (.cells [.slice none 0 0, .int .i64 0, .slice none 0 0, .slice none 0 0].toArray 26)
  simp only [zro, List.length_nil] at H b0
  generalize (W.alloc (.cells [.slice p.va p.vars.length p.vcap, .int .i64 p.locks, .slice p.ha p.chans.length p.hcap, .slice p.fa p.funcs.length p.fcap].toArray 26)).alloc (.cells [.slice none 0 0, .int .i64 0, .slice none 0 0, .slice none 0 0].toArray 26) = W1 at *
  generalize W.heap.size = r at *
  have c3 : W1.cell? ⟨r, 3, none⟩ = some (.slice p.fa p.funcs.length p.fcap) := slf_cell (r := r) (p := p) H.rows (List.mem_cons_self ..) 3 (by decide)
  have zr := slf_fr (r := r) (p := p) H.rows (List.mem_cons_self ..)
  have cA : ∀ O, (W1.alloc O).cell? ⟨r, 3, none⟩ = some (.slice p.fa p.funcs.length p.fcap) := fun O => (((Below.refl W1.heap.size W1).alloc (Nat.le_refl _) O).cell (by have := (H.rows.blk_ge (row := slf r p) (List.mem_cons_self ..) rfl).2; simpa using this)).trans c3
  have H1 := H.below (Below.drew (Below.refl _ _))
  go_region_law ((refine step_app (H1.rows.perm ((List.Perm.cons _ ((rows_func p).append_right _)).trans (List.Perm.swap _ _ _))) H1.hi rfl _ _ _ (by rfl) [.int .i64 x, .int .i64 y, .slice none 0 0, .slice none 0 0] 45 (by rfl) (.agg #[.int .i64 0, .int .i64 0, .slice none 0 0, .slice none 0 0]) 64 Tryz.underlying24 info_fn rfl (Nat.succ_pos _) (by rfl) (by rfl) rfl (by simp [Fn.cs, Fn.new, Value.oneCell']) (by show (p.funcs.length + 1) * 64 ≤ _; omega) (by show p.funcs.length + 1 ≤ _; omega) ?_; intro g2 cap2 W3 k1 k2 k3 k4 k5; have d0 : W3.cell? ⟨r, 0, none⟩ = some (.slice p.va p.vars.length p.vcap) := slf_cell (r := r) (p := p) k1 (List.mem_cons_of_mem _ (List.mem_cons_self ..)) 0 (by decide); have d1 : W3.cell? ⟨r, 1, none⟩ = some (.int .i64 p.locks) := slf_cell (r := r) (p := p) k1 (List.mem_cons_of_mem _ (List.mem_cons_self ..)) 1 (by decide); have d2 : W3.cell? ⟨r, 2, none⟩ = some (.slice p.ha p.chans.length p.hcap) := slf_cell (r := r) (p := p) k1 (List.mem_cons_of_mem _ (List.mem_cons_self ..)) 2 (by decide); have d3 : W3.cell? ⟨r, 3, none⟩ = some (.slice p.fa p.funcs.length p.fcap) := slf_cell (r := r) (p := p) k1 (List.mem_cons_of_mem _ (List.mem_cons_self ..)) 3 (by decide); have fz3 := slf_fr (r := r) (p := p) k1 (List.mem_cons_of_mem _ (List.mem_cons_self ..))))
  all_goals obtain ⟨H5, b5⟩ := H1.func hx hy k1 k2
  all_goals clear k1 k2 k3 k4 k5 d0 d1 d2 d3 fz3 cA zr
  all_goals change Exit.inBlock 0 (Exit.then _ _) Exit.normal _ (W3.setCell { block := r, off := 3 } (Value.slice (some { block := g2, off := 0 }) (p.funcs.length + 1) cap2))
  all_goals generalize W3.setCell ⟨r, 3, none⟩ (.slice (some ⟨g2, 0, none⟩) (p.funcs.length + 1) cap2) = W5 at *
  all_goals obtain ⟨e0, e1, e2, e3, ez⟩ := H5.cells
  all_goals obtain ⟨z0, z1, z2, z3, zz⟩ := H5.zero
  all_goals go_wp2
  all_goals refine leave_taken rfl H5 ?_ (b0.trans ((Below.drew (Below.refl _ _)).trans b5)) ?_ ?_ ?_ ?_
  all_goals first | rfl | (simp; done) | (simp [Pg.bare, taken, Fn.new, Fn.bare])
end Go.Proofs.YtlhhmlfcodmebaaGreatDoor.Pg
