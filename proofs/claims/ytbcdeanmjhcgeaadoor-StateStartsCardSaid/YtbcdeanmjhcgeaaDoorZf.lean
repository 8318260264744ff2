/- Several texts of one proof, one behind the other. Start, walked: where it errs. Both sides. | Start, walked: a program that runs. The conditions: the program lies in memory and is right, the fuel is 4096 at most, and what word.Apply gives is A. | The reference's Start, walked: a program that runs. The conditions: the program lies in memory and is right, the fuel is 4096 at most, and what scarabref02.Apply gives is A. | Start, walked, both sides. The conditions: the program lies in memory; what word.Apply and scarabref02.Apply give is A. -/
import Derived.Test.YtbcdeanmjhcgeaaDoorZLz
import Derived.Test.YtbcdeanmjhcgeaaDoorZe
namespace Go.Proofs.YtbcdeanmjhcgeaaDoor.Pg
set_option linter.unusedVariables false
set_option linter.unusedSimpArgs false
open Go.ChangeShapes Go.WideShapes Go.RowKit
set_option linter.unusedVariables false
set_option maxHeartbeats 4000000 in
set_option maxRecDepth 100000 in
theorem startS_e3 (P : Pg) (f : Int) (w : World) (I : P.In w) (hR : right P = false) :
    Calls Tryd.prog 16 #[P.v, .int .i64 f] w fun e w' => e = .returned (.tuple #[St.none.v, .int .i64 3]) ∧ Below w.heap.size w w' := by
  have cR := Lib.hid (fun W (hb : Below w.heap.size w W) => right_walk P W (I.below hb))
  rw [hR] at cR
  have hz := St.none_ok
  unfold St.v Pg.v at *
  go_enter Tryd.func16, Tryd.ntmps16
  have E0 := ((Env.nil (w := w)).skip (.cells #[.slice P.va P.vars.length P.vcap, .int .i64 P.locks, .slice P.ha P.chans.length P.hcap, .slice P.fa P.funcs.length P.fcap] 41)).push (w.heap.size + 1) (by simp) Tryd.zeroCells32 32
  have hno := Lib.hid (show Tryd.zeroCells32.size = 121 by rw [zc]; simpa using St.cs_len hz)
  have hone := Lib.hid (show Tryd.zeroCells32.all (·.oneCell') = true by rw [zc]; exact St.one_cell)
  go_wp2_with (first | ((go_at_call 33; ((with_reducible refine (cR.out _ (by repeat (first | (with_reducible exact Below.refl _ _) | (with_reducible refine Below.drew ?_) | (with_reducible refine below_drewN ?_ _) | (with_reducible refine Below.alloc ?_ (by first | omega | (simp <;> omega)) _)))).mono ?_); rintro e w' ⟨rfl, hb1⟩)); have E1 := E0.next hb1) | (refine wpList_store_mid rfl 32 _ _ rfl (w.heap.size + 1) 0 _ rfl rfl (E1.h0.there _ _ (by rw [hno.out]; omega)) (by rw [size32, hno.out]) hone.out ?_))
  have E5 := Env.setRow (by omega) (by simp) Tryd.zeroCells32.toList _ 0 _ E1 (by simp)
  rw [putRow_all _ _ (by simp)] at E5
  have hl := load_st hz (E5.h0.cast (by simp [zc]))
  unfold St.v at hl
  refine bodyPost_ret (v := .tuple #[.agg St.none.cs.toArray, .int .i64 3]) (by simp [results, Tryd.results16, asAddr, hl]) rfl ⟨rfl, E5.acc⟩
set_option maxHeartbeats 4000000 in
set_option maxRecDepth 100000 in
theorem startS_e1a (P : Pg) (f : Int) (w : World) (I : P.In w) (hR : right P = true) (h : f < 0) :
    Calls Tryd.prog 16 #[P.v, .int .i64 f] w fun e w' => e = .returned (.tuple #[St.none.v, .int .i64 1]) ∧ Below w.heap.size w w' := by
  have cR := Lib.hid (fun W (hb : Below w.heap.size w W) => right_walk P W (I.below hb))
  rw [hR] at cR
  have cF := Lib.hid (fun W => fuelled_walk f W)
  rw [show decide (0 ≤ f ∧ f ≤ 4096) = false by simp; omega] at cF
  have d1 : decide (f < 0) = true := by simpa using h
  have hz := St.none_ok
  unfold St.v Pg.v at *
  go_enter Tryd.func16, Tryd.ntmps16
  have E0 := ((Env.nil (w := w)).skip (.cells #[.slice P.va P.vars.length P.vcap, .int .i64 P.locks, .slice P.ha P.chans.length P.hcap, .slice P.fa P.funcs.length P.fcap] 41)).push (w.heap.size + 1) (by simp) Tryd.zeroCells32 32
  have hno := Lib.hid (show Tryd.zeroCells32.size = 121 by rw [zc]; simpa using St.cs_len hz)
  have hone := Lib.hid (show Tryd.zeroCells32.all (·.oneCell') = true by rw [zc]; exact St.one_cell)
  go_wp2_with (first | ((go_at_call 33; ((with_reducible refine (cR.out _ (by repeat (first | (with_reducible exact Below.refl _ _) | (with_reducible refine Below.drew ?_) | (with_reducible refine below_drewN ?_ _) | (with_reducible refine Below.alloc ?_ (by first | omega | (simp <;> omega)) _)))).mono ?_); rintro e w' ⟨rfl, hb1⟩)); have E1 := E0.next hb1) | (go_at_call 34; ((with_reducible refine (cF.out _).mono ?_); rintro e w' ⟨rfl, rfl⟩)) | (refine wpList_store_mid rfl 32 _ _ rfl (w.heap.size + 1) 0 _ rfl rfl (E1.h0.there _ _ (by rw [hno.out]; omega)) (by rw [size32, hno.out]) hone.out ?_))
  have E5 := Env.setRow (by omega) (by simp) Tryd.zeroCells32.toList _ 0 _ E1 (by simp)
  rw [putRow_all _ _ (by simp)] at E5
  have hl := load_st hz (E5.h0.cast (by simp [zc]))
  unfold St.v at hl
  refine bodyPost_ret (v := .tuple #[.agg St.none.cs.toArray, .int .i64 1]) (by simp [results, Tryd.results16, asAddr, hl]) rfl ⟨rfl, E5.acc⟩
set_option maxHeartbeats 4000000 in
set_option maxRecDepth 100000 in
theorem startS_e1b (P : Pg) (f : Int) (w : World) (I : P.In w) (hR : right P = true) (h : 4096 < f) :
    Calls Tryd.prog 16 #[P.v, .int .i64 f] w fun e w' => e = .returned (.tuple #[St.none.v, .int .i64 1]) ∧ Below w.heap.size w w' := by
  have cR := Lib.hid (fun W (hb : Below w.heap.size w W) => right_walk P W (I.below hb))
  rw [hR] at cR
  have cF := Lib.hid (fun W => fuelled_walk f W)
  rw [show decide (0 ≤ f ∧ f ≤ 4096) = false by simp; omega] at cF
  have d1 : decide (f < 0) = false := by simp; omega
  have d2 : decide (4096 < f) = true := by simpa using h
  have hz := St.none_ok
  unfold St.v Pg.v at *
  go_enter Tryd.func16, Tryd.ntmps16
  have E0 := ((Env.nil (w := w)).skip (.cells #[.slice P.va P.vars.length P.vcap, .int .i64 P.locks, .slice P.ha P.chans.length P.hcap, .slice P.fa P.funcs.length P.fcap] 41)).push (w.heap.size + 1) (by simp) Tryd.zeroCells32 32
  have hno := Lib.hid (show Tryd.zeroCells32.size = 121 by rw [zc]; simpa using St.cs_len hz)
  have hone := Lib.hid (show Tryd.zeroCells32.all (·.oneCell') = true by rw [zc]; exact St.one_cell)
  go_wp2_with (first | ((go_at_call 33; ((with_reducible refine (cR.out _ (by repeat (first | (with_reducible exact Below.refl _ _) | (with_reducible refine Below.drew ?_) | (with_reducible refine below_drewN ?_ _) | (with_reducible refine Below.alloc ?_ (by first | omega | (simp <;> omega)) _)))).mono ?_); rintro e w' ⟨rfl, hb1⟩)); have E1 := E0.next hb1) | (go_at_call 34; ((with_reducible refine (cF.out _).mono ?_); rintro e w' ⟨rfl, rfl⟩)) | (refine wpList_store_mid rfl 32 _ _ rfl (w.heap.size + 1) 0 _ rfl rfl (E1.h0.there _ _ (by rw [hno.out]; omega)) (by rw [size32, hno.out]) hone.out ?_))
  have E5 := Env.setRow (by omega) (by simp) Tryd.zeroCells32.toList _ 0 _ E1 (by simp)
  rw [putRow_all _ _ (by simp)] at E5
  have hl := load_st hz (E5.h0.cast (by simp [zc]))
  unfold St.v at hl
  refine bodyPost_ret (v := .tuple #[.agg St.none.cs.toArray, .int .i64 1]) (by simp [results, Tryd.results16, asAddr, hl]) rfl ⟨rfl, E5.acc⟩
set_option maxHeartbeats 4000000 in
set_option maxRecDepth 100000 in
theorem startR_e3 (P : Pg) (f : Int) (w : World) (I : P.In w) (hR : right P = false) :
    Calls Tryd.prog 17 #[P.v, .int .i64 f] w fun e w' => e = .returned (.tuple #[St.none.v, .int .i64 3]) ∧ Below w.heap.size w w' := by
  have cR := Lib.hid (fun W (hb : Below w.heap.size w W) => rright_walk P W (I.below hb))
  rw [hR] at cR
  have hz := St.none_ok
  unfold St.v Pg.v at *
  go_enter Tryd.func17, Tryd.ntmps17
  have E0 := ((Env.nil (w := w)).skip (.cells #[.slice P.va P.vars.length P.vcap, .int .i64 P.locks, .slice P.ha P.chans.length P.hcap, .slice P.fa P.funcs.length P.fcap] 41)).push (w.heap.size + 1) (by simp) Tryd.zeroCells32 32
  have hno := Lib.hid (show Tryd.zeroCells32.size = 121 by rw [zc]; simpa using St.cs_len hz)
  have hone := Lib.hid (show Tryd.zeroCells32.all (·.oneCell') = true by rw [zc]; exact St.one_cell)
  go_wp2_with (first | ((go_at_call 24; ((with_reducible refine (cR.out _ (by repeat (first | (with_reducible exact Below.refl _ _) | (with_reducible refine Below.drew ?_) | (with_reducible refine below_drewN ?_ _) | (with_reducible refine Below.alloc ?_ (by first | omega | (simp <;> omega)) _)))).mono ?_); rintro e w' ⟨rfl, hb1⟩)); have E1 := E0.next hb1) | (refine wpList_store_mid rfl 32 _ _ rfl (w.heap.size + 1) 0 _ rfl rfl (E1.h0.there _ _ (by rw [hno.out]; omega)) (by rw [size32, hno.out]) hone.out ?_))
  have E5 := Env.setRow (by omega) (by simp) Tryd.zeroCells32.toList _ 0 _ E1 (by simp)
  rw [putRow_all _ _ (by simp)] at E5
  have hl := load_st hz (E5.h0.cast (by simp [zc]))
  unfold St.v at hl
  refine bodyPost_ret (v := .tuple #[.agg St.none.cs.toArray, .int .i64 3]) (by simp [results, Tryd.results17, asAddr, hl]) rfl ⟨rfl, E5.acc⟩
set_option maxHeartbeats 4000000 in
set_option maxRecDepth 100000 in
theorem startR_e1a (P : Pg) (f : Int) (w : World) (I : P.In w) (hR : right P = true) (h : f < 0) :
    Calls Tryd.prog 17 #[P.v, .int .i64 f] w fun e w' => e = .returned (.tuple #[St.none.v, .int .i64 1]) ∧ Below w.heap.size w w' := by
  have cR := Lib.hid (fun W (hb : Below w.heap.size w W) => rright_walk P W (I.below hb))
  rw [hR] at cR
  have d1 : decide (f < 0) = true := by simpa using h
  have hz := St.none_ok
  unfold St.v Pg.v at *
  go_enter Tryd.func17, Tryd.ntmps17
  have E0 := ((Env.nil (w := w)).skip (.cells #[.slice P.va P.vars.length P.vcap, .int .i64 P.locks, .slice P.ha P.chans.length P.hcap, .slice P.fa P.funcs.length P.fcap] 41)).push (w.heap.size + 1) (by simp) Tryd.zeroCells32 32
  have hno := Lib.hid (show Tryd.zeroCells32.size = 121 by rw [zc]; simpa using St.cs_len hz)
  have hone := Lib.hid (show Tryd.zeroCells32.all (·.oneCell') = true by rw [zc]; exact St.one_cell)
  go_wp2_with (first | ((go_at_call 24; ((with_reducible refine (cR.out _ (by repeat (first | (with_reducible exact Below.refl _ _) | (with_reducible refine Below.drew ?_) | (with_reducible refine below_drewN ?_ _) | (with_reducible refine Below.alloc ?_ (by first | omega | (simp <;> omega)) _)))).mono ?_); rintro e w' ⟨rfl, hb1⟩)); have E1 := E0.next hb1) | (refine wpList_store_mid rfl 32 _ _ rfl (w.heap.size + 1) 0 _ rfl rfl (E1.h0.there _ _ (by rw [hno.out]; omega)) (by rw [size32, hno.out]) hone.out ?_))
  have E5 := Env.setRow (by omega) (by simp) Tryd.zeroCells32.toList _ 0 _ E1 (by simp)
  rw [putRow_all _ _ (by simp)] at E5
  have hl := load_st hz (E5.h0.cast (by simp [zc]))
  unfold St.v at hl
  refine bodyPost_ret (v := .tuple #[.agg St.none.cs.toArray, .int .i64 1]) (by simp [results, Tryd.results17, asAddr, hl]) rfl ⟨rfl, E5.acc⟩
set_option maxHeartbeats 4000000 in
set_option maxRecDepth 100000 in
theorem startR_e1b (P : Pg) (f : Int) (w : World) (I : P.In w) (hR : right P = true) (h : 4096 < f) :
    Calls Tryd.prog 17 #[P.v, .int .i64 f] w fun e w' => e = .returned (.tuple #[St.none.v, .int .i64 1]) ∧ Below w.heap.size w w' := by
  have cR := Lib.hid (fun W (hb : Below w.heap.size w W) => rright_walk P W (I.below hb))
  rw [hR] at cR
  have d1 : decide (f < 0) = false := by simp; omega
  have d2 : decide (4096 < f) = true := by simpa using h
  have hz := St.none_ok
  unfold St.v Pg.v at *
  go_enter Tryd.func17, Tryd.ntmps17
  have E0 := ((Env.nil (w := w)).skip (.cells #[.slice P.va P.vars.length P.vcap, .int .i64 P.locks, .slice P.ha P.chans.length P.hcap, .slice P.fa P.funcs.length P.fcap] 41)).push (w.heap.size + 1) (by simp) Tryd.zeroCells32 32
  have hno := Lib.hid (show Tryd.zeroCells32.size = 121 by rw [zc]; simpa using St.cs_len hz)
  have hone := Lib.hid (show Tryd.zeroCells32.all (·.oneCell') = true by rw [zc]; exact St.one_cell)
  go_wp2_with (first | ((go_at_call 24; ((with_reducible refine (cR.out _ (by repeat (first | (with_reducible exact Below.refl _ _) | (with_reducible refine Below.drew ?_) | (with_reducible refine below_drewN ?_ _) | (with_reducible refine Below.alloc ?_ (by first | omega | (simp <;> omega)) _)))).mono ?_); rintro e w' ⟨rfl, hb1⟩)); have E1 := E0.next hb1) | (refine wpList_store_mid rfl 32 _ _ rfl (w.heap.size + 1) 0 _ rfl rfl (E1.h0.there _ _ (by rw [hno.out]; omega)) (by rw [size32, hno.out]) hone.out ?_))
  have E5 := Env.setRow (by omega) (by simp) Tryd.zeroCells32.toList _ 0 _ E1 (by simp)
  rw [putRow_all _ _ (by simp)] at E5
  have hl := load_st hz (E5.h0.cast (by simp [zc]))
  unfold St.v at hl
  refine bodyPost_ret (v := .tuple #[.agg St.none.cs.toArray, .int .i64 1]) (by simp [results, Tryd.results17, asAddr, hl]) rfl ⟨rfl, E5.acc⟩
end Go.Proofs.YtbcdeanmjhcgeaaDoor.Pg
namespace Go.Proofs.YtbcdeanmjhcgeaaDoor.Pg
set_option linter.unusedVariables false
set_option linter.unusedSimpArgs false
open Go.ChangeShapes Go.WideShapes Go.RowKit
set_option linter.unusedVariables false
def St.one : St := { St.none with count := 1 }
theorem St.one_cs : Tryd.zeroCells32.setIfInBounds 120 (.int .i64 1) = St.one.cs.toArray := by kernel_rfl
theorem St.first_cs (P : Pg) (h : P.vars.length ≤ 8) : (St.first P).cs.toArray = putRow St.one.cs.toArray 0 (P.inits.map (Value.int .i64)) := by
  have hl : P.inits.length = P.vars.length := by simp [Pg.inits]
  have e1 : St.one.cs = List.replicate 8 (Value.int .i64 0) ++ (St.one.owner.map (Value.int .i64) ++ (St.one.chans.flatMap Ch.cs ++ (St.one.gos.flatMap Gr.cs ++ [.int .i64 St.one.count]))) := rfl
  apply Array.toList_inj.1
  rw [putRow_list _ _ _ (by rw [e1]; simp [hl]; omega), e1]
  unfold St.first St.cs
  simp only [List.take_zero, List.nil_append, List.length_map, Nat.zero_add, hl, List.map_append, List.map_replicate, List.append_assoc]
  rw [List.drop_append, List.drop_replicate]
  simp only [List.length_replicate, show P.vars.length - 8 = 0 by omega, List.drop_zero]
  rfl
theorem St.first_ok {P : Pg} (h : P.vars.length ≤ 8) (hi : ∀ x ∈ P.vars, I64 x.init) : (St.first P).ok := by
  have n := St.none_ok
  refine ⟨fun x hx => ?_, n.owner, n.chans, n.gos, show I64 1 from ⟨by decide, by decide⟩, by simp [St.first, Pg.inits]; omega, rfl, rfl, rfl⟩
  simp only [St.first, Pg.inits, List.mem_append, List.mem_map, List.mem_replicate] at hx
  rcases hx with ⟨y, hy, rfl⟩ | ⟨_, rfl⟩
  · exact hi y hy
  · exact ⟨by decide, by decide⟩
theorem inits_at {P : Pg} {j : Nat} {x : Vr} (h : P.vars[j]? = some x) : (P.inits.take (j + 1)).map (Value.int .i64) = (P.inits.take j).map (Value.int .i64) ++ [.int .i64 x.init] := by
  have hj := (List.getElem?_eq_some_iff.1 h).1
  have hj' : j < P.inits.length := by simpa [Pg.inits] using hj
  rw [List.take_succ_eq_append_getElem hj', List.map_append]
  congr 1
  simp only [List.map_cons, List.map_nil, Pg.inits, List.getElem_map]
  rw [(List.getElem?_eq_some_iff.1 h).2]
theorem Pg.In.var2 {w : World} {p : Pg} (h : p.In w) : ∃ b o, (0 < p.vars.length → p.va = some ⟨b, o, none⟩ ∧ b < w.heap.size) ∧ ∀ k x, p.vars[k]? = some x → w.rangeAt b (o + k * 2) x.cs := by
  by_cases hl : 0 < p.vars.length
  · obtain ⟨b, o, e, hlt, hg⟩ := h.var hl
    exact ⟨b, o, fun _ => ⟨e, hlt⟩, hg⟩
  · exact ⟨0, 0, fun h => absurd h hl, fun k x hk => by have := (List.getElem?_eq_some_iff.1 hk).1; omega⟩

set_option maxHeartbeats 4000000 in
set_option maxRecDepth 100000 in
theorem startS_run (P : Pg) (n : Nat) (w : World) (I : P.In w) (hR : right P = true) (hn : n ≤ 4096) {A : Int → Int → Int → Int × Int} (AI : AluOk A) (AW : AluWhy A) (hA : AppW A w) :
    Calls Tryd.prog 16 #[P.v, .int .i64 n] w fun e w' => e = .returned (.tuple #[((St.first P).setGo 0 (settle A P n Gr.zero.live)).v, .int .i64 0]) ∧ Below w.heap.size w w' := by
  have cR := Lib.hid (fun W (hb : Below w.heap.size w W) => right_walk P W (I.below hb))
  rw [hR] at cR
  have cF := Lib.hid (fun W => fuelled_walk n W)
  rw [show decide (0 ≤ (n : Int) ∧ (n : Int) ≤ 4096) = true by simp; omega] at cF
  have R := Rt.of hR
  have hsd := (neat_zero R).1
  have hrs := Stood.settle R AI AW I.insOk n _ hsd
  have cS := Lib.hid (fun W (hb : Below w.heap.size w W) => settled_walk AI AW P R _ n W (I.below hb) hsd hn (hA.below hb))
  have hfo := St.first_ok R.nv I.inits
  have hso := St.setGo_ok hfo 0 hrs.ok
  obtain ⟨v0, v1, v2, v3, v4, v5, v6, v7, v8, v9, v10, v11, hY⟩ := Gr.lit hrs.ok.len
  have hput := St.cs_setGo hfo 0 (by omega) hrs.ok
  rw [St.first_cs P R.nv, show (settle A P n Gr.zero.live).cs = [.int .i64 v0, .int .i64 v1, .int .i64 v2, .int .i64 v3, .int .i64 v4, .int .i64 v5, .int .i64 v6, .int .i64 v7, .int .i64 v8, .int .i64 v9, .int .i64 v10, .int .i64 v11] by simpa using congrArg Array.toList hY] at hput
  replace hput := Lib.hid hput.symm
  rw [show (settle A P n Gr.zero.live).v = .agg #[.int .i64 v0, .int .i64 v1, .int .i64 v2, .int .i64 v3, .int .i64 v4, .int .i64 v5, .int .i64 v6, .int .i64 v7, .int .i64 v8, .int .i64 v9, .int .i64 v10, .int .i64 v11] by unfold Gr.v; rw [hY], show Gr.zero.live.v = .agg #[.int .i64 1, .int .i64 0, .int .i64 0, .int .i64 0, .int .i64 0, .int .i64 0, .int .i64 0, .int .i64 0, .int .i64 0, .int .i64 0, .int .i64 0, .int .i64 0] from rfl] at cS
  have hones := Lib.hid (St.one_cell (s := (St.first P).setGo 0 (settle A P n Gr.zero.live))); have hsl := Lib.hid (fun b W (B : Blk b ((St.first P).setGo 0 (settle A P n Gr.zero.live)).cs.toArray W) => load_st hso B); have hsr := Lib.hid (show ((St.first P).setGo 0 (settle A P n Gr.zero.live)).cs.toArray.size = 121 by simpa using St.cs_len hso)
  clear hY hrs hsd hso hfo
  have h121 := Lib.hid (show St.one.cs.toArray.size = 121 by kernel_rfl)
  have hone := Lib.hid (St.one_cell (s := St.one))
  have hno := Lib.hid (show Tryd.zeroCells32.size = 121 by rw [zc]; simpa using St.cs_len St.none_ok)
  obtain ⟨vb, vo, hva, hvg⟩ := I.var2
  have nv := R.nv
  have h8 : P.inits.length = P.vars.length := by simp [Pg.inits]
  unfold St.v Pg.v at *
  generalize ((St.first P).setGo 0 (settle A P n Gr.zero.live)).cs.toArray = sr at *
  go_enter Tryd.func16, Tryd.ntmps16
  have E0 := ((Env.nil (w := w)).push w.heap.size rfl #[.slice P.va P.vars.length P.vcap, .int .i64 P.locks, .slice P.ha P.chans.length P.hcap, .slice P.fa P.funcs.length P.fcap] 41).push (w.heap.size + 1) (by simp) Tryd.zeroCells32 32
  go_wp2_with (first
    | (go_at_call 34; ((with_reducible refine (cF.out _).mono ?_); rintro e w' ⟨rfl, rfl⟩))
    | ((go_at_call 33; ((with_reducible refine (cR.out _ (by repeat (first | (with_reducible exact Below.refl _ _) | (with_reducible refine Below.drew ?_) | (with_reducible refine below_drewN ?_ _) | (with_reducible refine Below.alloc ?_ (by first | omega | (simp <;> omega)) _)))).mono ?_); rintro e w' ⟨rfl, hb1⟩)); have E1 := E0.next hb1)
    | (refine wpList_store_mid rfl 32 _ _ rfl w'.heap.size 0 _ rfl rfl ((Blk.new' _ _ _ _ rfl).there _ _ (by simp [hno.out])) (by rw [size32]; simp [hno.out]) (by rw [St.one_cs]; exact hone.out) ?_
       have hlt := E1.h0.lt
       have E2 := Env.setRow (by omega) (fun p hp => by simp only [List.mem_cons, List.not_mem_nil, or_false] at hp; rcases hp with rfl | rfl <;> (simp only; omega)) (Tryd.zeroCells32.setIfInBounds 120 (.int .i64 1)).toList _ 0 _ (E1.push w'.heap.size rfl Tryd.zeroCells32 32) (by simp [hno.out])
       rw [putRow_all _ _ (by simp)] at E2
       simp only [Array.toArray_toList] at E2
       rw [St.one_cs] at E2
       rw [St.one_cs]
       generalize hb0 : w'.heap.size = b0 at E2 hlt ⊢
       generalize World.setCells _ _ _ _ = W2 at E2 ⊢
       have y2 := E2.tl.tl.h0.cell))
  clear y2
  go_loopw [21] (fun i wr => ∃ j : Nat, j ≤ P.vars.length ∧ i = .int .i64 j ∧ Env w [(b0, putRow St.one.cs.toArray 0 ((P.inits.take j).map (Value.int .i64))), (w.heap.size + 1, Tryd.zeroCells32), (w.heap.size, #[.slice P.va P.vars.length P.vcap, .int .i64 P.locks, .slice P.ha P.chans.length P.hcap, .slice P.fa P.funcs.length P.fcap])] wr) (fun i _ => P.vars.length - (intOf i).toNat)
  case atStart => exact ⟨0, Nat.zero_le _, rfl, E2⟩
  case round =>
    obtain ⟨j, hj, rfl, E⟩ := hrel
    have hsz : (putRow St.one.cs.toArray 0 ((P.inits.take j).map (Value.int .i64))).size = 121 := by rw [putRow_size, h121.out]
    have hvx : j < P.vars.length → ∃ x, P.vars[j]? = some x := fun h => ⟨_, List.getElem?_eq_getElem h⟩
    have hstep : ∀ x, P.vars[j]? = some x → (putRow St.one.cs.toArray 0 ((P.inits.take j).map (Value.int .i64))).setIfInBounds j (.int .i64 x.init) = putRow St.one.cs.toArray 0 ((P.inits.take (j + 1)).map (Value.int .i64)) := fun x hx => by
      have hjl := (List.getElem?_eq_some_iff.1 hx).1
      rw [inits_at hx, putRow_snoc]; simp [h8, Nat.min_eq_left (Nat.le_of_lt hjl)]
    by_cases hjl : j < P.vars.length
    · obtain ⟨x, hx⟩ := hvx hjl
      have hst := hstep x hx
      obtain ⟨hva1, hva2⟩ := hva (by omega)
      have hr := hvg j x hx
      have f0 : wr.cell? ⟨vb, vo + j * 2, none⟩ = some (.bool x.atomic) := (E.acc.cell (by exact hva2)).trans (hr 0 _ rfl)
      have f1 : wr.cell? ⟨vb, vo + j * 2 + 1, none⟩ = some (.int .i64 x.init) := (E.acc.cell (by exact hva2)).trans (hr 1 _ rfl)
      rw [hva1] at E ⊢
      clear hstep hvx hvg hva
      generalize putRow St.one.cs.toArray 0 ((P.inits.take j).map (Value.int .i64)) = arr at *
      obtain ⟨v0, hv0⟩ : ∃ v, arr[j]? = some v := ⟨_, Array.getElem?_eq_getElem (by omega)⟩
      have hsz := Lib.hid hsz
      have y0 := E.h0.cell; have z0 := E.h0.fr; have l0 := E.h0.lt
      have dj : (j : Int) < 8 := by omega
      go_wp2
      go_roundw
      case rel => exact ⟨j + 1, by omega, by go_num, by rw [← hst]; exact (E.set (by omega) (fun p hp => by simp only [List.mem_cons, List.not_mem_nil, or_false] at hp; rcases hp with rfl | rfl <;> (simp only; omega)) j (by have := hsz.out; omega) _).skip _⟩
      case measure => simp [intOf]; omega
    · have hjn : j = P.vars.length := by omega
      subst hjn
      rw [List.take_of_length_le (by omega)] at E hsz
      clear hvx hstep hva hvg
      generalize putRow St.one.cs.toArray 0 (P.inits.map (Value.int .i64)) = arr at *
      have hsz := Lib.hid hsz
      have y0 := E.h0.cell; have y1 := E.tl.h0.cell; have y2 := E.tl.tl.h0.cell
      go_wp2_with (first
        | (refine wpList_store_mid rfl 32 _ _ rfl (w.heap.size + 1) 0 _ rfl rfl (E7.tl.h0.there _ _ (by rw [hno.out, hsr.out]; omega)) (by rw [size32, hsr.out]) hones.out ?_)
        | (refine list_load_st rfl _ rfl (b := b0) rfl E7.h0 hsr.out ?_)
        | (refine wpList_store_mid rfl 29 _ _ rfl b0 48 _ rfl rfl (E6.h0.there _ _ (by rw [hsz.out]; simp)) (by rw [size12]; rfl) (one12 _ _ _ _ _ _ _ _ _ _ _ _) ?_; have E7 := Env.setRow (by omega) (fun p hp => by simp only [List.mem_cons, List.not_mem_nil, or_false] at hp; rcases hp with rfl | rfl <;> (simp only; omega)) [.int .i64 v0, .int .i64 v1, .int .i64 v2, .int .i64 v3, .int .i64 v4, .int .i64 v5, .int .i64 v6, .int .i64 v7, .int .i64 v8, .int .i64 v9, .int .i64 v10, .int .i64 v11] _ 48 _ E6 (by rw [hsz.out]; simp); rw [show 48 = 48 + 0 * 12 from rfl] at E7; rw [hput.out] at E7)
        | ((go_at_call 35; ((with_reducible refine (cS.out _ E.acc).mono ?_); rintro e w' ⟨rfl, hb3⟩)); have E6 := E.next hb3))
      have E8 := Env.setRow (by omega) (fun p hp => by simp only [List.mem_cons, List.not_mem_nil, or_false] at hp; rcases hp with rfl | rfl <;> (simp only; omega)) sr.toList _ 0 _ (E7.sub (cs := [(w.heap.size + 1, Tryd.zeroCells32), (b0, sr), (w.heap.size, #[.slice P.va P.vars.length P.vcap, .int .i64 P.locks, .slice P.ha P.chans.length P.hcap, .slice P.fa P.funcs.length P.fcap])]) (fun p hp => by simp only [List.mem_cons, List.not_mem_nil, or_false] at hp ⊢; rcases hp with rfl | rfl | rfl <;> simp)) (by rw [hno.out]; simp [hsr.out])
      rw [putRow_all _ _ (by rw [hno.out]; simp [hsr.out])] at E8
      have hl := hsl.out _ _ (E8.h0.cast (by simp))
      refine bodyPost_ret (v := .tuple #[.agg sr, .int .i64 0]) (by simp [results, Tryd.results16, asAddr, hl]) rfl ⟨rfl, E8.acc⟩
end Go.Proofs.YtbcdeanmjhcgeaaDoor.Pg
namespace Go.Proofs.YtbcdeanmjhcgeaaDoor.Pg
set_option linter.unusedVariables false
set_option linter.unusedSimpArgs false
open Go.ChangeShapes Go.WideShapes Go.RowKit
set_option linter.unusedVariables false
set_option maxHeartbeats 4000000 in
set_option maxRecDepth 100000 in
theorem startR_run (P : Pg) (n : Nat) (w : World) (I : P.In w) (hR : right P = true) (hn : n ≤ 4096) {A : Int → Int → Int → Int × Int} (AI : AluOk A) (AW : AluWhy A) (hA : AppR A w) :
    Calls Tryd.prog 17 #[P.v, .int .i64 n] w fun e w' => e = .returned (.tuple #[((St.first P).setGo 0 (settle A P n Gr.zero.live)).v, .int .i64 0]) ∧ Below w.heap.size w w' := by
  have cR := Lib.hid (fun W (hb : Below w.heap.size w W) => rright_walk P W (I.below hb))
  rw [hR] at cR
  have d3 : decide ((n : Int) < 0) = false := by simp
  have d4 : decide (4096 < (n : Int)) = false := by simp; omega
  have R := Rt.of hR
  have hsd := (neat_zero R).1
  have hsz0 : Stood P Gr.zero := ⟨⟨⟨by decide, by decide⟩, hsd.ok.fn, hsd.ok.pc, hsd.ok.why, hsd.ok.regs, rfl⟩, hsd.f0, hsd.f1, hsd.p0, hsd.p1⟩
  have hrs := Stood.settle R AI AW I.insOk n _ hsd
  have cS := Lib.hid (fun W (hb : Below w.heap.size w W) => rsettled_walk AI AW P R Gr.zero n W (I.below hb) hsz0 hn (hA.below hb))
  have hfo := St.first_ok R.nv I.inits
  have hso := St.setGo_ok hfo 0 hrs.ok
  obtain ⟨v0, v1, v2, v3, v4, v5, v6, v7, v8, v9, v10, v11, hY⟩ := Gr.lit hrs.ok.len
  have hput := St.cs_setGo hfo 0 (by omega) hrs.ok
  rw [St.first_cs P R.nv, show (settle A P n Gr.zero.live).cs = [.int .i64 v0, .int .i64 v1, .int .i64 v2, .int .i64 v3, .int .i64 v4, .int .i64 v5, .int .i64 v6, .int .i64 v7, .int .i64 v8, .int .i64 v9, .int .i64 v10, .int .i64 v11] by simpa using congrArg Array.toList hY] at hput
  replace hput := Lib.hid hput.symm
  rw [show (settle A P n Gr.zero.live).v = .agg #[.int .i64 v0, .int .i64 v1, .int .i64 v2, .int .i64 v3, .int .i64 v4, .int .i64 v5, .int .i64 v6, .int .i64 v7, .int .i64 v8, .int .i64 v9, .int .i64 v10, .int .i64 v11] by unfold Gr.v; rw [hY], show Gr.zero.v = .agg #[.int .i64 0, .int .i64 0, .int .i64 0, .int .i64 0, .int .i64 0, .int .i64 0, .int .i64 0, .int .i64 0, .int .i64 0, .int .i64 0, .int .i64 0, .int .i64 0] from rfl] at cS
  have hones := Lib.hid (St.one_cell (s := (St.first P).setGo 0 (settle A P n Gr.zero.live))); have hsl := Lib.hid (fun b W (B : Blk b ((St.first P).setGo 0 (settle A P n Gr.zero.live)).cs.toArray W) => load_st hso B); have hsr := Lib.hid (show ((St.first P).setGo 0 (settle A P n Gr.zero.live)).cs.toArray.size = 121 by simpa using St.cs_len hso)
  clear hY hrs hsd hso hfo hsz0
  have h121 := Lib.hid (show St.one.cs.toArray.size = 121 by kernel_rfl)
  have hone := Lib.hid (St.one_cell (s := St.one))
  have hno := Lib.hid (show Tryd.zeroCells32.size = 121 by rw [zc]; simpa using St.cs_len St.none_ok)
  obtain ⟨vb, vo, hva, hvg⟩ := I.var2
  have nv := R.nv
  have h8 : P.inits.length = P.vars.length := by simp [Pg.inits]
  unfold St.v Pg.v at *
  generalize ((St.first P).setGo 0 (settle A P n Gr.zero.live)).cs.toArray = sr at *
  go_enter Tryd.func17, Tryd.ntmps17
  have E0 := ((Env.nil (w := w)).push w.heap.size rfl #[.slice P.va P.vars.length P.vcap, .int .i64 P.locks, .slice P.ha P.chans.length P.hcap, .slice P.fa P.funcs.length P.fcap] 41).push (w.heap.size + 1) (by simp) Tryd.zeroCells32 32
  go_wp2_with (first
    | ((go_at_call 24; ((with_reducible refine (cR.out _ (by repeat (first | (with_reducible exact Below.refl _ _) | (with_reducible refine Below.drew ?_) | (with_reducible refine below_drewN ?_ _) | (with_reducible refine Below.alloc ?_ (by first | omega | (simp <;> omega)) _)))).mono ?_); rintro e w' ⟨rfl, hb1⟩)); have E1 := E0.next hb1)
    | (refine wpList_store_mid rfl 32 _ _ rfl w'.heap.size 0 _ rfl rfl ((Blk.new' _ _ _ _ rfl).there _ _ (by simp [hno.out])) (by rw [size32]; simp [hno.out]) (by rw [St.one_cs]; exact hone.out) ?_
       have hlt := E1.h0.lt
       have E2 := Env.setRow (by omega) (fun p hp => by simp only [List.mem_cons, List.not_mem_nil, or_false] at hp; rcases hp with rfl | rfl <;> (simp only; omega)) (Tryd.zeroCells32.setIfInBounds 120 (.int .i64 1)).toList _ 0 _ (E1.push w'.heap.size rfl Tryd.zeroCells32 32) (by simp [hno.out])
       rw [putRow_all _ _ (by simp)] at E2
       simp only [Array.toArray_toList] at E2
       rw [St.one_cs] at E2
       rw [St.one_cs]
       generalize hb0 : w'.heap.size = b0 at E2 hlt ⊢
       generalize World.setCells _ _ _ _ = W2 at E2 ⊢
       have y2 := E2.tl.tl.h0.cell))
  clear y2
  go_loopw [24] (fun i wr => ∃ j : Nat, j ≤ P.vars.length ∧ i = .int .i64 j ∧ Env w [(b0, putRow St.one.cs.toArray 0 ((P.inits.take j).map (Value.int .i64))), (w.heap.size + 1, Tryd.zeroCells32), (w.heap.size, #[.slice P.va P.vars.length P.vcap, .int .i64 P.locks, .slice P.ha P.chans.length P.hcap, .slice P.fa P.funcs.length P.fcap])] wr) (fun i _ => P.vars.length - (intOf i).toNat)
  case atStart => exact ⟨0, Nat.zero_le _, rfl, E2⟩
  case round =>
    obtain ⟨j, hj, rfl, E⟩ := hrel
    have hsz : (putRow St.one.cs.toArray 0 ((P.inits.take j).map (Value.int .i64))).size = 121 := by rw [putRow_size, h121.out]
    have hvx : j < P.vars.length → ∃ x, P.vars[j]? = some x := fun h => ⟨_, List.getElem?_eq_getElem h⟩
    have hstep : ∀ x, P.vars[j]? = some x → (putRow St.one.cs.toArray 0 ((P.inits.take j).map (Value.int .i64))).setIfInBounds j (.int .i64 x.init) = putRow St.one.cs.toArray 0 ((P.inits.take (j + 1)).map (Value.int .i64)) := fun x hx => by
      have hjl := (List.getElem?_eq_some_iff.1 hx).1
      rw [inits_at hx, putRow_snoc]; simp [h8, Nat.min_eq_left (Nat.le_of_lt hjl)]
    by_cases hjl : j < P.vars.length
    · obtain ⟨x, hx⟩ := hvx hjl
      have hst := hstep x hx
      obtain ⟨hva1, hva2⟩ := hva (by omega)
      have hr := hvg j x hx
      have f0 : wr.cell? ⟨vb, vo + j * 2, none⟩ = some (.bool x.atomic) := (E.acc.cell (by exact hva2)).trans (hr 0 _ rfl)
      have f1 : wr.cell? ⟨vb, vo + j * 2 + 1, none⟩ = some (.int .i64 x.init) := (E.acc.cell (by exact hva2)).trans (hr 1 _ rfl)
      rw [hva1] at E ⊢
      clear hstep hvx hvg hva
      generalize putRow St.one.cs.toArray 0 ((P.inits.take j).map (Value.int .i64)) = arr at *
      obtain ⟨v0, hv0⟩ : ∃ v, arr[j]? = some v := ⟨_, Array.getElem?_eq_getElem (by omega)⟩
      have hsz := Lib.hid hsz
      have y0 := E.h0.cell; have z0 := E.h0.fr; have l0 := E.h0.lt
      have dj : (j : Int) < 8 := by omega
      go_wp2
      go_roundw
      case rel => exact ⟨j + 1, by omega, by go_num, by rw [← hst]; exact (E.set (by omega) (fun p hp => by simp only [List.mem_cons, List.not_mem_nil, or_false] at hp; rcases hp with rfl | rfl <;> (simp only; omega)) j (by have := hsz.out; omega) _).skip _⟩
      case measure => simp [intOf]; omega
    · have hjn : j = P.vars.length := by omega
      subst hjn
      rw [List.take_of_length_le (by omega)] at E hsz
      clear hvx hstep hva hvg
      generalize putRow St.one.cs.toArray 0 (P.inits.map (Value.int .i64)) = arr at *
      have hsz := Lib.hid hsz
      have y0 := E.h0.cell; have y1 := E.tl.h0.cell; have y2 := E.tl.tl.h0.cell
      go_wp2_with (first
        | (refine wpList_store_mid rfl 32 _ _ rfl (w.heap.size + 1) 0 _ rfl rfl (E7.tl.h0.there _ _ (by rw [hno.out, hsr.out]; omega)) (by rw [size32, hsr.out]) hones.out ?_)
        | (refine list_load_st rfl _ rfl (b := b0) rfl E7.h0 hsr.out ?_)
        | (refine wpList_store_mid rfl 29 _ _ rfl b0 48 _ rfl rfl (E6.h0.there _ _ (by rw [hsz.out]; simp)) (by rw [size12]; rfl) (one12 _ _ _ _ _ _ _ _ _ _ _ _) ?_; have E7 := Env.setRow (by omega) (fun p hp => by simp only [List.mem_cons, List.not_mem_nil, or_false] at hp; rcases hp with rfl | rfl <;> (simp only; omega)) [.int .i64 v0, .int .i64 v1, .int .i64 v2, .int .i64 v3, .int .i64 v4, .int .i64 v5, .int .i64 v6, .int .i64 v7, .int .i64 v8, .int .i64 v9, .int .i64 v10, .int .i64 v11] _ 48 _ E6 (by rw [hsz.out]; simp); rw [show 48 = 48 + 0 * 12 from rfl] at E7; rw [hput.out] at E7)
        | ((go_at_call 36; ((with_reducible refine (cS.out _ E.acc).mono ?_); rintro e w' ⟨rfl, hb3⟩)); have E6 := E.next hb3))
      have E8 := Env.setRow (by omega) (fun p hp => by simp only [List.mem_cons, List.not_mem_nil, or_false] at hp; rcases hp with rfl | rfl <;> (simp only; omega)) sr.toList _ 0 _ (E7.sub (cs := [(w.heap.size + 1, Tryd.zeroCells32), (b0, sr), (w.heap.size, #[.slice P.va P.vars.length P.vcap, .int .i64 P.locks, .slice P.ha P.chans.length P.hcap, .slice P.fa P.funcs.length P.fcap])]) (fun p hp => by simp only [List.mem_cons, List.not_mem_nil, or_false] at hp ⊢; rcases hp with rfl | rfl | rfl <;> simp)) (by rw [hno.out]; simp [hsr.out])
      rw [putRow_all _ _ (by rw [hno.out]; simp [hsr.out])] at E8
      have hl := hsl.out _ _ (E8.h0.cast (by simp))
      refine bodyPost_ret (v := .tuple #[.agg sr, .int .i64 0]) (by simp [results, Tryd.results17, asAddr, hl]) rfl ⟨rfl, E8.acc⟩
end Go.Proofs.YtbcdeanmjhcgeaaDoor.Pg
namespace Go.Proofs.YtbcdeanmjhcgeaaDoor.Pg
set_option linter.unusedVariables false
set_option linter.unusedSimpArgs false
open Go.RowKit
theorem startS_walk {A : Int → Int → Int → Int × Int} (AI : AluOk A) (AW : AluWhy A) (P : Pg) (f : Int) (w : World) (I : P.In w) (hA : AppW A w) :
    Calls Tryd.prog 16 #[P.v, .int .i64 f] w fun e w' => e = .returned (.tuple #[(strt A P f).1.v, .int .i64 (strt A P f).2]) ∧ Below w.heap.size w w' := by
  unfold strt
  by_cases hR : right P = true
  · rw [if_pos hR]
    by_cases h3 : f < 0
    · rw [if_pos (.inl h3)]; exact startS_e1a P f w I hR h3
    by_cases h4 : 4096 < f
    · rw [if_pos (.inr h4)]; exact startS_e1b P f w I hR h4
    rw [if_neg (by omega)]
    obtain ⟨n, rfl⟩ : ∃ n : Nat, f = n := ⟨f.toNat, by omega⟩
    rw [Int.toNat_natCast]
    exact startS_run P n w I hR (by omega) AI AW hA
  · rw [if_neg hR]; exact startS_e3 P f w I (by simpa using hR)
theorem startR_walk {A : Int → Int → Int → Int × Int} (AI : AluOk A) (AW : AluWhy A) (P : Pg) (f : Int) (w : World) (I : P.In w) (hA : AppR A w) :
    Calls Tryd.prog 17 #[P.v, .int .i64 f] w fun e w' => e = .returned (.tuple #[(strt A P f).1.v, .int .i64 (strt A P f).2]) ∧ Below w.heap.size w w' := by
  unfold strt
  by_cases hR : right P = true
  · rw [if_pos hR]
    by_cases h3 : f < 0
    · rw [if_pos (.inl h3)]; exact startR_e1a P f w I hR h3
    by_cases h4 : 4096 < f
    · rw [if_pos (.inr h4)]; exact startR_e1b P f w I hR h4
    rw [if_neg (by omega)]
    obtain ⟨n, rfl⟩ : ∃ n : Nat, f = n := ⟨f.toNat, by omega⟩
    rw [Int.toNat_natCast]
    exact startR_run P n w I hR (by omega) AI AW hA
  · rw [if_neg hR]; exact startR_e3 P f w I (by simpa using hR)
end Go.Proofs.YtbcdeanmjhcgeaaDoor.Pg
