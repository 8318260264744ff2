/- StateStarts, walked: a program and fuel that came in. The conditions: what Start gives, both sides, is a state and a number; small answers yes. -/
import Derived.Test.YtbcdeanmjhcgeaaDoorZLz
import Derived.Test.YtbcdeanmjhcgeaaDoorZk
import Derived.Test.YtbcdeanmjhcgeaaDoorZCw
import Derived.Test.YtbcdeanmjhcgeaaDoorZSx
namespace Go.Proofs.YtbcdeanmjhcgeaaDoor.Pg
set_option linter.unusedVariables false
set_option linter.unusedSimpArgs false
open Go.ChangeShapes Go.WideShapes Go.RowKit
set_option linter.unusedVariables false
set_option linter.unusedSimpArgs false
set_option maxHeartbeats 8000000 in
set_option maxRecDepth 100000 in
theorem starts_walk0 (P : Pg) (f : Int) (w : World) (I : P.In w) (Z : P.Sized) (s : St) (e : Int) (hs : s.ok)
    (cS : ∀ (Q : Pg) (W : World), Q.bare = P.bare → Below w.heap.size w W → Q.In W → Calls Tryd.prog 16 #[Q.v, .int .i64 f] W fun e' w' => e' = .returned (.tuple #[s.v, .int .i64 e]) ∧ Below W.heap.size W w')
    (cR : ∀ W, Below w.heap.size w W → Calls Tryd.prog 17 #[P.v, .int .i64 f] W fun e' w' => e' = .returned (.tuple #[s.v, .int .i64 e]) ∧ Below W.heap.size W w')
    (cM : ∀ W, Below w.heap.size w W → Calls Tryd.prog 19 #[] W fun e' w' => e' = .returned (.bool true) ∧ Below W.heap.size W w') :
    Calls Tryd.prog 4 #[P.v, .int .i64 f] w fun e w' => e = .returned (.bool true) ∧ Below w.heap.size w w' := by
  have cC := Lib.hid (fun W (hb : Below w.heap.size w W) => prog_walk P W (I.below hb) Z)
  have cB := Lib.hid (fun (Q : Pg) (hq : Q.bare = P.bare) W (hb : Below w.heap.size w W) (hQ : Q.In W) => same_walk Q P W hq hQ (I.below hb))
  replace cS := Lib.hid cS
  replace cR := Lib.hid cR
  replace cM := Lib.hid cM
  have q3 := Lib.hid (fun W => eq_st hs W)
  have n1 := Lib.hid (show s.cs.toArray.size = 121 by simpa using St.cs_len hs)
  have p1 := Lib.hid (St.one_cell (s := s))
  have hno := Lib.hid (show Tryd.zeroCells32.size = 121 by rw [zc]; simpa using St.cs_len St.none_ok)
  unfold Pg.v St.v at *
  generalize s.cs.toArray = t1 at *
  go_enter Tryd.func4, Tryd.ntmps4
  have E0 := (Env.nil (w := w)).push w.heap.size rfl #[.slice P.va P.vars.length P.vcap, .int .i64 P.locks, .slice P.ha P.chans.length P.hcap, .slice P.fa P.funcs.length P.fcap] 41
  go_wp2_with (first
    | (refine wpList_store_mid rfl 32 _ _ rfl w'.heap.size 0 _ rfl rfl ((Blk.new' _ _ _ _ rfl).there _ _ (by rw [hno.out, n1.out]; omega)) (by rw [size32, n1.out]) p1.out ?_
       have hlE5 := E4.h0.lt
       have hmE5 := E4.tl.h0.lt
       have E5 := Env.setRow (by have := E4.acc.size; omega) (fun p hp => by have := (E4.blk p hp).lt; omega) t1.toList _ 0 _ (E4.push w'.heap.size rfl Tryd.zeroCells32 32) (by rw [hno.out]; simp [n1.out])
       have F5 := Env.setRow (by have := F4.acc.size; omega) (fun p hp => by cases hp) t1.toList _ 0 _ (F4.push w'.heap.size rfl Tryd.zeroCells32 32) (by rw [hno.out]; simp [n1.out])
       replace F5 := F5.tl
       rw [putRow_all _ _ (by rw [hno.out]; simp [n1.out])] at E5
       simp only [Array.toArray_toList] at E5
       generalize hbE5 : w'.heap.size = b5 at E5 F5 hlE5 hmE5 ⊢
       generalize World.setCells _ _ _ _ = W5 at E5 F5 ⊢
       skip)
    | ((go_at_call 17; ((with_reducible refine (cR.out _ E3.acc).mono ?_); rintro e w' ⟨rfl, hb3⟩)); have E4 := E3.next hb3; have F4 := F3.next hb3)
    | (refine wpList_store_mid rfl 32 _ _ rfl w'.heap.size 0 _ rfl rfl ((Blk.new' _ _ _ _ rfl).there _ _ (by rw [hno.out, n1.out]; omega)) (by rw [size32, n1.out]) p1.out ?_
       have hlE3 := E2.h0.lt
       have hmE3 := E2.tl.h0.lt
       have E3 := Env.setRow (by have := E2.acc.size; omega) (fun p hp => by have := (E2.blk p hp).lt; omega) t1.toList _ 0 _ (E2.push w'.heap.size rfl Tryd.zeroCells32 32) (by rw [hno.out]; simp [n1.out])
       have F3 := Env.setRow (by have := F2.acc.size; omega) (fun p hp => by cases hp) t1.toList _ 0 _ (F2.push w'.heap.size rfl Tryd.zeroCells32 32) (by rw [hno.out]; simp [n1.out])
       replace F3 := F3.tl
       rw [putRow_all _ _ (by rw [hno.out]; simp [n1.out])] at E3
       simp only [Array.toArray_toList] at E3
       generalize hbE3 : w'.heap.size = b3 at E3 F3 hlE3 hmE3 ⊢
       generalize World.setCells _ _ _ _ = W3 at E3 F3 ⊢
       have y3 := E3.tl.tl.h0.cell)
    | ((go_at_call 16; ((with_reducible refine (cS.out Q _ hq E1.acc (hQ.below (by repeat (first | (with_reducible exact Below.refl _ _) | (with_reducible refine Below.drew ?_) | (with_reducible refine below_drewN ?_ _) | (with_reducible refine Below.alloc ?_ (by first | omega | (simp <;> omega)) _))))).mono ?_); rintro e w' ⟨rfl, hb2⟩)); have E2 := E1.next hb2; have F2 := F1.next hb2)
    | ((go_at_call 15; ((with_reducible refine (cC.out _ E0.acc).mono ?_); rintro e w' ⟨Q, rfl, hq, hQ, hb1⟩)); obtain ⟨w1, rfl⟩ : ∃ w1 : World, w1 = w' := ⟨_, rfl⟩; have E1 := (E0.next hb1).push w1.heap.size rfl #[.slice Q.va Q.vars.length Q.vcap, .int .i64 Q.locks, .slice Q.ha Q.chans.length Q.hcap, .slice Q.fa Q.funcs.length Q.fcap] 41; have F1 := (Env.nil (w := w1)).skip (.cells #[.slice Q.va Q.vars.length Q.vcap, .int .i64 Q.locks, .slice Q.ha Q.chans.length Q.hcap, .slice Q.fa Q.funcs.length Q.fcap] 41)))
  have q3 := q3.out
  have q4 : ∀ W, (Op.equalIn 10000 32 (.agg t1) (.agg t1)).run Tryd.prog W = .ok true W := q3
  refine load_state _ rfl b3 rfl t1 n1.out E5.tl.h0 ?_
  go_wp2
  refine load_state _ rfl b5 rfl t1 n1.out E5.h0 ?_
  have y5 := E5.tl.tl.h0.cell
  have y6 := E5.tl.tl.tl.h0.cell
  go_wp2_with (first
    | ((go_at_call 19; ((with_reducible refine (cM.out _ E6.acc).mono ?_); rintro e w' ⟨rfl, hb5⟩)))
    | ((go_at_call 18; ((with_reducible refine (cB.out Q hq _ E5.acc (hQ.below F5.acc)).mono ?_); rintro e w' ⟨rfl, hb4⟩)); have E6 := E5.next hb4))
  go_ret
  exact ⟨rfl, (E6.next hb5).acc⟩
end Go.Proofs.YtbcdeanmjhcgeaaDoor.Pg
