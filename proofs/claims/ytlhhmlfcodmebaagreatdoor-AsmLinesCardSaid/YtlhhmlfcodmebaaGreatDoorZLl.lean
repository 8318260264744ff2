/- AsmLines, walked. No condition but the table and the variables as listed. -/
import Derived.Test.YtlhhmlfcodmebaaGreatDoorZLn0
import Derived.Test.YtlhhmlfcodmebaaGreatDoorZr
namespace Go.Proofs.YtlhhmlfcodmebaaGreatDoor.Pg
set_option linter.unusedVariables false
set_option linter.unusedSimpArgs false
open Go.RowKit Go.WideShapes Go.ChangeShapes
open Go.Proofs.YtlhhmlfcodmebaaGreatDoor.Wd (bt)
set_option linter.unusedVariables false
set_option linter.unusedSimpArgs false
theorem lineT_err (P : Pg) (f pc : Int) : (lineT P f pc).2 = 0 ∨ (lineT P f pc).2 = 1 ∨ (lineT P f pc).2 = 3 := by
  unfold lineT
  split
  · exact .inr (.inr rfl)
  · split
    · exact .inl rfl
    · exact .inr (.inl rfl)
set_option maxHeartbeats 8000000 in
set_option maxRecDepth 100000 in
theorem lines_law (P : Pg) (f pc : Int) (w : World) (hL : Wd.Lies w) (I : P.In w) (hf : I64 f) (hp : I64 pc) : Calls Tryz.prog 4 #[P.v, .int .i64 f, .int .i64 pc] w fun e w' => e = .returned (.bool true) ∧ Below w.heap.size w w' := by
  have E0 := (Env.nil (w := w)).push w.heap.size rfl #[.slice P.va P.vars.length P.vcap, .int .i64 P.locks, .slice P.ha P.chans.length P.hcap, .slice P.fa P.funcs.length P.fcap] 26
  have c1 := Lib.hid (fun W (hb : Below w.heap.size w W) => aline_walk P f pc W (hL.below hb) (I.below hb) hf hp)
  have c2 := Lib.hid (fun W (hb : Below w.heap.size w W) => rline_walk P f pc W (hL.below hb) (I.below hb) hf hp)
  have c3 := Lib.hid (fun W h => small_true W h)
  have hr := lineT_err P f pc
  generalize (lineT P f pc).1 = S at *
  generalize (lineT P f pc).2 = n at *
  replace hL := Lib.hid hL
  unfold Pg.v at *
  go_enter Tryz.func4, Tryz.ntmps4
  rcases hr with rfl | rfl | rfl
  all_goals go_wp2_with (first
    | (go_at_call 14; ((with_reducible refine (c1.out _ E0.acc).mono ?_); rintro r1 w1 ⟨rfl, hB1⟩; have E1 := E0.next hB1; have y1 := E1.h0.cell; have y10 := y1 0; have y11 := y1 1; have y12 := y1 2; have y13 := y1 3; clear y1))
    | (go_at_call 15; ((with_reducible refine (c2.out _ E1.acc).mono ?_); rintro r2 w2 ⟨rfl, hB2⟩; have E2 := E1.next hB2))
    | (go_at_call 13; ((with_reducible refine (c3.out _ (hL.out.below E2.acc)).mono ?_); rintro r4 w4 ⟨rfl, hB4⟩; have E3 := E2.next hB4)))
  all_goals go_ret
  all_goals exact ⟨rfl, E3.acc⟩
end Go.Proofs.YtlhhmlfcodmebaaGreatDoor.Pg
