/- AsmParses, walked. No condition but the table and the variables as listed. -/
import Derived.Test.YtlhhmlfcodmebaaGreatDoorZRp
import Derived.Test.YtlhhmlfcodmebaaGreatDoorZr
import Derived.Test.YtlhhmlfcodmebaaGreatDoorZt
namespace Go.Proofs.YtlhhmlfcodmebaaGreatDoor.Pg
set_option linter.unusedVariables false
set_option linter.unusedSimpArgs false
open Go.RowKit Go.WideShapes Go.ChangeShapes
set_option linter.unusedVariables false
set_option linter.unusedSimpArgs false
theorem rparse_any (s : ByteArray) (w : World) (hL : Wd.Lies w) : Calls Tryz.prog 11 #[.string s] w (RStop w s) := by
  by_cases h : s.size ≤ 65536
  · exact rparse_walk s w hL h
  · exact rparse_long s w (by omega)
set_option maxHeartbeats 8000000 in
set_option maxRecDepth 100000 in
theorem parses_law (s : ByteArray) (w : World) (hL : Wd.Lies w) : Calls Tryz.prog 3 #[.string s] w fun e w' => e = .returned (.bool true) ∧ Below w.heap.size w w' := by
  have c1 := Lib.hid (parse_any s w hL)
  have c2 := Lib.hid (fun W h => rparse_any s W h)
  have c3 := Lib.hid (fun W h => small_true W h)
  replace hL := Lib.hid hL
  obtain ⟨eN, heN⟩ : ∃ n, Hid (n = (prs s.data.toList).2.1) := ⟨_, Lib.hid rfl⟩
  obtain ⟨aN, haN⟩ : ∃ n, Hid (n = (prs s.data.toList).2.2) := ⟨_, Lib.hid rfl⟩
  go_enter Tryz.func3, Tryz.ntmps3
  go_wp2_with (fail)
  refine (c1.out).mono ?_
  rintro r1 w1 ⟨p, hr1, hp, hI1, hB1⟩
  rw [← heN.out, ← haN.out] at hr1
  unfold Pg.v at hr1
  subst hr1
  have hA1 := Below.alloc (Below.refl w1.heap.size w1) (Nat.le_refl _) (.cells #[.slice p.va p.vars.length p.vcap, .int .i64 p.locks, .slice p.ha p.chans.length p.hcap, .slice p.fa p.funcs.length p.fcap] 26)
  have hK1 := Blk.new w1 #[.slice p.va p.vars.length p.vcap, .int .i64 p.locks, .slice p.ha p.chans.length p.hcap, .slice p.fa p.funcs.length p.fcap] 26
  have hB1' := hB1.trans (hA1.mono hB1.size)
  have hI1' := hI1.below hA1
  have hL1 := hL.out.below hB1'
  go_wp2_with (fail)
  generalize w1.alloc (.cells #[.slice p.va p.vars.length p.vcap, .int .i64 p.locks, .slice p.ha p.chans.length p.hcap, .slice p.fa p.funcs.length p.fcap] 26) = W1 at *
  refine (c2.out _ hL1).mono ?_
  rintro r2 w2 ⟨q, hr2, hq, hI2, hB2⟩
  rw [← heN.out, ← haN.out] at hr2
  unfold Pg.v at hr2
  subst hr2
  have hb : p.bare = q.bare := by rw [hp, hq]
  have hA2 := Below.alloc (Below.refl w2.heap.size w2) (Nat.le_refl _) (.cells #[.slice q.va q.vars.length q.vcap, .int .i64 q.locks, .slice q.ha q.chans.length q.hcap, .slice q.fa q.funcs.length q.fcap] 26)
  have hK2 := Blk.new w2 #[.slice q.va q.vars.length q.vcap, .int .i64 q.locks, .slice q.ha q.chans.length q.hcap, .slice q.fa q.funcs.length q.fcap] 26
  have hK1' := (hK1.below hB2).below hA2
  have hB2' := hB1'.trans ((hB2.trans (hA2.mono hB2.size)).mono hB1'.size)
  have hI1'' := (hI1'.below hB2).below hA2
  have hI2' := hI2.below hA2
  clear c1 c2 hA1 hA2 hB1 hB2 hI1 hI1' hI2 hK1 hL1 hB1'
  generalize hk1 : w1.heap.size = b1 at *
  clear hk1
  have z1 := hK1'.cell
  have z10 := z1 0; have z11 := z1 1; have z12 := z1 2; have z13 := z1 3
  clear z1
  have cS := same_walk p q _ hb hI1'' hI2'
  unfold Pg.v at cS
  replace cS := Lib.hid cS
  have hLs := hL.out.below hB2'
  go_wp2_with (first
    | (go_at_call 12; ((with_reducible refine (cS.out).mono ?_); rintro r3 w3 ⟨rfl, hB3⟩))
    | (go_at_call 13; ((with_reducible refine (c3.out _ (hLs.below hB3)).mono ?_); rintro r4 w4 ⟨rfl, hB4⟩)))
  all_goals go_ret
  all_goals exact ⟨rfl, hB2'.trans ((hB3.trans (hB4.mono hB3.size)).mono hB2'.size)⟩
end Go.Proofs.YtlhhmlfcodmebaaGreatDoor.Pg
