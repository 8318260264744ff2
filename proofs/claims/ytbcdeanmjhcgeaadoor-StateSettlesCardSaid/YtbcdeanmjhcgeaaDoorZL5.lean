/- Settle, walked: both sides. -/
import Derived.Test.YtbcdeanmjhcgeaaDoorZL4
import Derived.Test.YtbcdeanmjhcgeaaDoorZV9
namespace Go.Proofs.YtbcdeanmjhcgeaaDoor.Pg
set_option linter.unusedVariables false
set_option linter.unusedSimpArgs false
open Go.ChangeShapes Go.WideShapes Go.RowKit
set_option linter.unusedVariables false
theorem zc : Tryd.zeroCells32 = St.none.cs.toArray := by kernel_rfl
theorem fuelled_walk (f : Int) (w : World) : Calls Tryd.prog 34 #[.int .i64 f] w fun e w' => e = .returned (.bool (decide (0 ≤ f ∧ f ≤ 4096))) ∧ w' = w := by
  by_cases h0 : 0 ≤ f
  · by_cases h1 : f ≤ 4096
    · go_enter Tryd.func34, Tryd.ntmps34
      go_wp2
      go_ret
      exact ⟨by simp; omega, rfl⟩
    · go_enter Tryd.func34, Tryd.ntmps34
      go_wp2
      go_ret
      exact ⟨by simp; omega, rfl⟩
  · go_enter Tryd.func34, Tryd.ntmps34
    go_wp2
    go_ret
    exact ⟨by simp; omega, rfl⟩
/-- A state, a goroutine of it put in. -/
def St.setGo (s : St) (k : Nat) (g : Gr) : St := ⟨s.vars, s.owner, s.chans, s.gos.set k g, s.count⟩
theorem flat_set {α : Type} (f : α → List Value) (c : Nat) : ∀ (l : List α) (_ : ∀ x ∈ l, (f x).length = c) (k : Nat) (x : α), k < l.length → (l.set k x).flatMap f = (l.flatMap f).take (k * c) ++ f x ++ (l.flatMap f).drop (k * c + c)
  | [], _, k, x, h => by simp at h
  | y :: l, hf, 0, x, h => by
    have hy := hf y (List.mem_cons_self ..)
    simp [← hy]
  | y :: l, hf, k + 1, x, h => by
    have hy := hf y (List.mem_cons_self ..)
    have ih := flat_set f c l (fun x hx => hf x (List.mem_cons_of_mem _ hx)) k x (by simpa using h)
    rw [List.set_cons_succ, List.flatMap_cons, ih, List.flatMap_cons]
    rw [show (k + 1) * c = (f y).length + k * c by rw [Nat.succ_mul, hy]; omega, List.take_length_add_append, show (f y).length + k * c + c = (f y).length + (k * c + c) by omega, List.drop_length_add_append]
    simp
theorem St.setGo_ok {s : St} (h : s.ok) (k : Nat) {g : Gr} (hg : g.ok) : (s.setGo k g).ok :=
  ⟨h.vars, h.owner, h.chans, fun x hx => (List.mem_or_eq_of_mem_set hx).elim (h.gos x) (fun e => e ▸ hg), h.count, h.lv, h.lo, h.lc, by simpa [St.setGo] using h.lg⟩
theorem St.cs_setGo {s : St} (h : s.ok) (k : Nat) (hk : k < 6) {g : Gr} (hg : g.ok) : (s.setGo k g).cs.toArray = putRow s.cs.toArray (48 + k * 12) g.cs := by
  have hl := h.lv; have ho := h.lo; have hlc := St.len_chans h; have hlg := St.len_gos h; have hcg := Gr.cs_len hg
  have h121 := St.cs_len h
  apply Array.toList_inj.1
  rw [putRow_list _ _ _ (by simp; omega)]
  have hA : (s.vars.map (Value.int .i64) ++ (s.owner.map (Value.int .i64) ++ s.chans.flatMap Ch.cs)).length = 48 := by simp only [List.length_append, List.length_map]; omega
  have e : ∀ G : List Value, s.vars.map (Value.int .i64) ++ (s.owner.map (Value.int .i64) ++ (s.chans.flatMap Ch.cs ++ (G ++ [.int .i64 s.count]))) = (s.vars.map (Value.int .i64) ++ (s.owner.map (Value.int .i64) ++ s.chans.flatMap Ch.cs)) ++ (G ++ [.int .i64 s.count]) := fun G => by simp
  have e1 : s.cs = (s.vars.map (Value.int .i64) ++ (s.owner.map (Value.int .i64) ++ s.chans.flatMap Ch.cs)) ++ (s.gos.flatMap Gr.cs ++ [.int .i64 s.count]) := e _
  have e2 : (s.setGo k g).cs = (s.vars.map (Value.int .i64) ++ (s.owner.map (Value.int .i64) ++ s.chans.flatMap Ch.cs)) ++ ((s.gos.set k g).flatMap Gr.cs ++ [.int .i64 s.count]) := e _
  rw [e2, flat_set Gr.cs 12 _ (fun x hx => Gr.cs_len (h.gos x hx)) k g (by rw [h.lg]; exact hk)]
  show _ = s.cs.take _ ++ g.cs ++ s.cs.drop _
  rw [e1]
  generalize s.vars.map (Value.int .i64) ++ (s.owner.map (Value.int .i64) ++ s.chans.flatMap Ch.cs) = A at *
  generalize s.gos.flatMap Gr.cs = G at *
  rw [hcg, ← hA, List.take_length_add_append, Nat.add_assoc, List.drop_length_add_append, List.take_append_of_le_length (by omega), List.drop_append_of_le_length (by omega)]
  simp
theorem go_ok {s : St} (hs : s.ok) (k : Nat) (hk : k < 6) : (s.gos.getD k default).ok := by
  rw [show s.gos.getD k default = s.gos[k]'(by rw [hs.lg]; exact hk) by simp [show k < s.gos.length by rw [hs.lg]; exact hk]]
  exact hs.gos _ (List.getElem_mem _)
theorem load_whole {b : Nat} {arr : Array Value} {W : World} (B : Blk b arr W) (hs : arr.size = 121) : (Instr.loadAt 32 (.pointer (some ⟨b, 0, none⟩))).run Tryd.prog W = .ok (.agg arr) W := by
  simpa using run_loadAt_mid W b 0 32 arr.toList _ B.range Tryd.underlying32 rfl (by rw [size32, Array.length_toList, hs])
set_option maxHeartbeats 8000000 in
set_option maxRecDepth 100000 in
theorem settleS_e3 (P : Pg) (s : St) (g f : Int) (w : World) (I : P.In w) (hs : s.ok) (hR : right P = false) :
    Calls Tryd.prog 22 #[P.v, s.v, .int .i64 g, .int .i64 f] w fun e w' => e = .returned (.tuple #[St.none.v, .int .i64 3]) ∧ Below w.heap.size w w' := by
  have cR := Lib.hid (fun W (hb : Below w.heap.size w W) => right_walk P W (I.below hb))
  rw [hR] at cR
  have hz := St.none_ok
  have h121 := Lib.hid (show s.cs.toArray.size = 121 by simpa using St.cs_len hs)
  unfold St.v Pg.v at *
  generalize s.cs.toArray = st at *
  go_enter Tryd.func22, Tryd.ntmps22
  have E0 := ((((Env.nil (w := w)).push w.heap.size rfl #[.slice P.va P.vars.length P.vcap, .int .i64 P.locks, .slice P.ha P.chans.length P.hcap, .slice P.fa P.funcs.length P.fcap] 41).push (w.heap.size + 1) (by simp) st 32).push (w.heap.size + 1 + 1) (by simp) Tryd.zeroCells32 32).sub (cs := [(w.heap.size + 1 + 1, Tryd.zeroCells32), (w.heap.size + 1, st), (w.heap.size, #[.slice P.va P.vars.length P.vcap, .int .i64 P.locks, .slice P.ha P.chans.length P.hcap, .slice P.fa P.funcs.length P.fcap])]) (fun p hp => by simp only [List.mem_cons, List.not_mem_nil, or_false] at hp ⊢; rcases hp with rfl | rfl | rfl <;> simp)
  have hno := Lib.hid (show Tryd.zeroCells32.size = 121 by rw [zc]; simpa using St.cs_len St.none_ok)
  have hone := Lib.hid (show Tryd.zeroCells32.all (·.oneCell') = true by rw [zc]; exact St.one_cell)
  go_wp2_with (first | ((go_at_call 33; ((with_reducible refine (cR.out _ (by repeat (first | (with_reducible exact Below.refl _ _) | (with_reducible refine Below.drew ?_) | (with_reducible refine below_drewN ?_ _) | (with_reducible refine Below.alloc ?_ (by first | omega | (simp <;> omega)) _)))).mono ?_); rintro e w' ⟨rfl, hb1⟩)); have E1 := E0.next hb1; have y0 := E1.h0.cell; have y1 := E1.tl.h0.cell; have y2 := E1.tl.tl.h0.cell; have B1 := E1.tl.h0; have acc1 := E1.acc) | (refine wpList_store_mid rfl _ _ _ rfl _ _ _ rfl rfl (E1.h0.there _ _ (by rw [hno.out]; omega)) (by rw [size32, hno.out]) hone.out ?_))
  have E5 := Env.setRow (by omega) (fun p hp => by simp only [List.mem_cons, List.not_mem_nil, or_false] at hp; rcases hp with rfl | rfl <;> (simp only; omega)) Tryd.zeroCells32.toList _ 0 _ E1 (by simp)
  rw [putRow_all _ _ (by simp)] at E5
  have hl := load_st hz (E5.h0.cast (by simp [zc]))
  unfold St.v at hl
  refine bodyPost_ret (v := .tuple #[.agg St.none.cs.toArray, .int .i64 3]) (by simp [results, Tryd.results22, asAddr, hl]) rfl ⟨rfl, E5.acc⟩
set_option maxHeartbeats 8000000 in
set_option maxRecDepth 100000 in
theorem settleS_e4 (P : Pg) (s : St) (g f : Int) (w : World) (I : P.In w) (hs : s.ok) (hR : right P = true) (hV : valid P s = false) :
    Calls Tryd.prog 22 #[P.v, s.v, .int .i64 g, .int .i64 f] w fun e w' => e = .returned (.tuple #[St.none.v, .int .i64 4]) ∧ Below w.heap.size w w' := by
  have cR := Lib.hid (fun W (hb : Below w.heap.size w W) => right_walk P W (I.below hb))
  rw [hR] at cR
  have cV := Lib.hid (fun W (hb : Below w.heap.size w W) => valid_walk P s W (I.below hb) hs)
  rw [hV] at cV
  have hz := St.none_ok
  have h121 := Lib.hid (show s.cs.toArray.size = 121 by simpa using St.cs_len hs)
  unfold St.v Pg.v at *
  generalize s.cs.toArray = st at *
  go_enter Tryd.func22, Tryd.ntmps22
  have E0 := ((((Env.nil (w := w)).push w.heap.size rfl #[.slice P.va P.vars.length P.vcap, .int .i64 P.locks, .slice P.ha P.chans.length P.hcap, .slice P.fa P.funcs.length P.fcap] 41).push (w.heap.size + 1) (by simp) st 32).push (w.heap.size + 1 + 1) (by simp) Tryd.zeroCells32 32).sub (cs := [(w.heap.size + 1 + 1, Tryd.zeroCells32), (w.heap.size + 1, st), (w.heap.size, #[.slice P.va P.vars.length P.vcap, .int .i64 P.locks, .slice P.ha P.chans.length P.hcap, .slice P.fa P.funcs.length P.fcap])]) (fun p hp => by simp only [List.mem_cons, List.not_mem_nil, or_false] at hp ⊢; rcases hp with rfl | rfl | rfl <;> simp)
  have hno := Lib.hid (show Tryd.zeroCells32.size = 121 by rw [zc]; simpa using St.cs_len St.none_ok)
  have hone := Lib.hid (show Tryd.zeroCells32.all (·.oneCell') = true by rw [zc]; exact St.one_cell)
  go_wp2_with (first | ((go_at_call 33; ((with_reducible refine (cR.out _ (by repeat (first | (with_reducible exact Below.refl _ _) | (with_reducible refine Below.drew ?_) | (with_reducible refine below_drewN ?_ _) | (with_reducible refine Below.alloc ?_ (by first | omega | (simp <;> omega)) _)))).mono ?_); rintro e w' ⟨rfl, hb1⟩)); have E1 := E0.next hb1; have y0 := E1.h0.cell; have y1 := E1.tl.h0.cell; have y2 := E1.tl.tl.h0.cell; have B1 := E1.tl.h0; have acc1 := E1.acc) | ((go_at_call 20; ((with_reducible refine (cV.out _ (by with_reducible assumption)).mono ?_); rintro e w' ⟨rfl, hb2⟩)); have E2 := E1.next hb2; have y3 := E2.h0.cell; have y4 := E2.tl.h0.cell; have y5 := E2.tl.tl.h0.cell; have B2 := E2.tl.h0; have acc2 := E2.acc) | (refine list_load rfl _ _ rfl _ rfl _ (load_whole B1 h121.out) ?_) | (refine wpList_store_mid rfl _ _ _ rfl _ _ _ rfl rfl (E2.h0.there _ _ (by rw [hno.out]; omega)) (by rw [size32, hno.out]) hone.out ?_))
  have E5 := Env.setRow (by omega) (fun p hp => by simp only [List.mem_cons, List.not_mem_nil, or_false] at hp; rcases hp with rfl | rfl <;> (simp only; omega)) Tryd.zeroCells32.toList _ 0 _ E2 (by simp)
  rw [putRow_all _ _ (by simp)] at E5
  have hl := load_st hz (E5.h0.cast (by simp [zc]))
  unfold St.v at hl
  refine bodyPost_ret (v := .tuple #[.agg St.none.cs.toArray, .int .i64 4]) (by simp [results, Tryd.results22, asAddr, hl]) rfl ⟨rfl, E5.acc⟩
set_option maxHeartbeats 8000000 in
set_option maxRecDepth 100000 in
theorem settleS_e1a (P : Pg) (s : St) (g f : Int) (w : World) (I : P.In w) (hs : s.ok) (hR : right P = true) (hV : valid P s = true) (h : g < 0) :
    Calls Tryd.prog 22 #[P.v, s.v, .int .i64 g, .int .i64 f] w fun e w' => e = .returned (.tuple #[St.none.v, .int .i64 1]) ∧ Below w.heap.size w w' := by
  have cR := Lib.hid (fun W (hb : Below w.heap.size w W) => right_walk P W (I.below hb))
  rw [hR] at cR
  have cV := Lib.hid (fun W (hb : Below w.heap.size w W) => valid_walk P s W (I.below hb) hs)
  rw [hV] at cV
  have hz := St.none_ok
  have h121 := Lib.hid (show s.cs.toArray.size = 121 by simpa using St.cs_len hs)
  have d1 : decide (g < 0) = true := by simpa using h
  unfold St.v Pg.v at *
  generalize s.cs.toArray = st at *
  go_enter Tryd.func22, Tryd.ntmps22
  have E0 := ((((Env.nil (w := w)).push w.heap.size rfl #[.slice P.va P.vars.length P.vcap, .int .i64 P.locks, .slice P.ha P.chans.length P.hcap, .slice P.fa P.funcs.length P.fcap] 41).push (w.heap.size + 1) (by simp) st 32).push (w.heap.size + 1 + 1) (by simp) Tryd.zeroCells32 32).sub (cs := [(w.heap.size + 1 + 1, Tryd.zeroCells32), (w.heap.size + 1, st), (w.heap.size, #[.slice P.va P.vars.length P.vcap, .int .i64 P.locks, .slice P.ha P.chans.length P.hcap, .slice P.fa P.funcs.length P.fcap])]) (fun p hp => by simp only [List.mem_cons, List.not_mem_nil, or_false] at hp ⊢; rcases hp with rfl | rfl | rfl <;> simp)
  have hno := Lib.hid (show Tryd.zeroCells32.size = 121 by rw [zc]; simpa using St.cs_len St.none_ok)
  have hone := Lib.hid (show Tryd.zeroCells32.all (·.oneCell') = true by rw [zc]; exact St.one_cell)
  go_wp2_with (first | ((go_at_call 33; ((with_reducible refine (cR.out _ (by repeat (first | (with_reducible exact Below.refl _ _) | (with_reducible refine Below.drew ?_) | (with_reducible refine below_drewN ?_ _) | (with_reducible refine Below.alloc ?_ (by first | omega | (simp <;> omega)) _)))).mono ?_); rintro e w' ⟨rfl, hb1⟩)); have E1 := E0.next hb1; have y0 := E1.h0.cell; have y1 := E1.tl.h0.cell; have y2 := E1.tl.tl.h0.cell; have B1 := E1.tl.h0; have acc1 := E1.acc) | ((go_at_call 20; ((with_reducible refine (cV.out _ (by with_reducible assumption)).mono ?_); rintro e w' ⟨rfl, hb2⟩)); have E2 := E1.next hb2; have y3 := E2.h0.cell; have y4 := E2.tl.h0.cell; have y5 := E2.tl.tl.h0.cell; have B2 := E2.tl.h0; have acc2 := E2.acc) | (refine list_load rfl _ _ rfl _ rfl _ (load_whole B1 h121.out) ?_) | (refine wpList_store_mid rfl _ _ _ rfl _ _ _ rfl rfl (E2.h0.there _ _ (by rw [hno.out]; omega)) (by rw [size32, hno.out]) hone.out ?_))
  have E5 := Env.setRow (by omega) (fun p hp => by simp only [List.mem_cons, List.not_mem_nil, or_false] at hp; rcases hp with rfl | rfl <;> (simp only; omega)) Tryd.zeroCells32.toList _ 0 _ E2 (by simp)
  rw [putRow_all _ _ (by simp)] at E5
  have hl := load_st hz (E5.h0.cast (by simp [zc]))
  unfold St.v at hl
  refine bodyPost_ret (v := .tuple #[.agg St.none.cs.toArray, .int .i64 1]) (by simp [results, Tryd.results22, asAddr, hl]) rfl ⟨rfl, E5.acc⟩
set_option maxHeartbeats 8000000 in
set_option maxRecDepth 100000 in
theorem settleS_e1b (P : Pg) (s : St) (g f : Int) (w : World) (I : P.In w) (hs : s.ok) (hR : right P = true) (hV : valid P s = true) (h : 0 ≤ g ∧ 6 ≤ g) :
    Calls Tryd.prog 22 #[P.v, s.v, .int .i64 g, .int .i64 f] w fun e w' => e = .returned (.tuple #[St.none.v, .int .i64 1]) ∧ Below w.heap.size w w' := by
  have cR := Lib.hid (fun W (hb : Below w.heap.size w W) => right_walk P W (I.below hb))
  rw [hR] at cR
  have cV := Lib.hid (fun W (hb : Below w.heap.size w W) => valid_walk P s W (I.below hb) hs)
  rw [hV] at cV
  have hz := St.none_ok
  have h121 := Lib.hid (show s.cs.toArray.size = 121 by simpa using St.cs_len hs)
  have d1 : decide (g < 0) = false := by simp; omega
  have d2 : decide (6 ≤ g) = true := by simp; omega
  unfold St.v Pg.v at *
  generalize s.cs.toArray = st at *
  go_enter Tryd.func22, Tryd.ntmps22
  have E0 := ((((Env.nil (w := w)).push w.heap.size rfl #[.slice P.va P.vars.length P.vcap, .int .i64 P.locks, .slice P.ha P.chans.length P.hcap, .slice P.fa P.funcs.length P.fcap] 41).push (w.heap.size + 1) (by simp) st 32).push (w.heap.size + 1 + 1) (by simp) Tryd.zeroCells32 32).sub (cs := [(w.heap.size + 1 + 1, Tryd.zeroCells32), (w.heap.size + 1, st), (w.heap.size, #[.slice P.va P.vars.length P.vcap, .int .i64 P.locks, .slice P.ha P.chans.length P.hcap, .slice P.fa P.funcs.length P.fcap])]) (fun p hp => by simp only [List.mem_cons, List.not_mem_nil, or_false] at hp ⊢; rcases hp with rfl | rfl | rfl <;> simp)
  have hno := Lib.hid (show Tryd.zeroCells32.size = 121 by rw [zc]; simpa using St.cs_len St.none_ok)
  have hone := Lib.hid (show Tryd.zeroCells32.all (·.oneCell') = true by rw [zc]; exact St.one_cell)
  go_wp2_with (first | ((go_at_call 33; ((with_reducible refine (cR.out _ (by repeat (first | (with_reducible exact Below.refl _ _) | (with_reducible refine Below.drew ?_) | (with_reducible refine below_drewN ?_ _) | (with_reducible refine Below.alloc ?_ (by first | omega | (simp <;> omega)) _)))).mono ?_); rintro e w' ⟨rfl, hb1⟩)); have E1 := E0.next hb1; have y0 := E1.h0.cell; have y1 := E1.tl.h0.cell; have y2 := E1.tl.tl.h0.cell; have B1 := E1.tl.h0; have acc1 := E1.acc) | ((go_at_call 20; ((with_reducible refine (cV.out _ (by with_reducible assumption)).mono ?_); rintro e w' ⟨rfl, hb2⟩)); have E2 := E1.next hb2; have y3 := E2.h0.cell; have y4 := E2.tl.h0.cell; have y5 := E2.tl.tl.h0.cell; have B2 := E2.tl.h0; have acc2 := E2.acc) | (refine list_load rfl _ _ rfl _ rfl _ (load_whole B1 h121.out) ?_) | (refine wpList_store_mid rfl _ _ _ rfl _ _ _ rfl rfl (E2.h0.there _ _ (by rw [hno.out]; omega)) (by rw [size32, hno.out]) hone.out ?_))
  have E5 := Env.setRow (by omega) (fun p hp => by simp only [List.mem_cons, List.not_mem_nil, or_false] at hp; rcases hp with rfl | rfl <;> (simp only; omega)) Tryd.zeroCells32.toList _ 0 _ E2 (by simp)
  rw [putRow_all _ _ (by simp)] at E5
  have hl := load_st hz (E5.h0.cast (by simp [zc]))
  unfold St.v at hl
  refine bodyPost_ret (v := .tuple #[.agg St.none.cs.toArray, .int .i64 1]) (by simp [results, Tryd.results22, asAddr, hl]) rfl ⟨rfl, E5.acc⟩
set_option maxHeartbeats 8000000 in
set_option maxRecDepth 100000 in
theorem settleS_e1c (P : Pg) (s : St) (g f : Int) (w : World) (I : P.In w) (hs : s.ok) (hR : right P = true) (hV : valid P s = true) (h : 0 ≤ g ∧ g < 6) (hf : f < 0) :
    Calls Tryd.prog 22 #[P.v, s.v, .int .i64 g, .int .i64 f] w fun e w' => e = .returned (.tuple #[St.none.v, .int .i64 1]) ∧ Below w.heap.size w w' := by
  have cR := Lib.hid (fun W (hb : Below w.heap.size w W) => right_walk P W (I.below hb))
  rw [hR] at cR
  have cV := Lib.hid (fun W (hb : Below w.heap.size w W) => valid_walk P s W (I.below hb) hs)
  rw [hV] at cV
  have hz := St.none_ok
  have h121 := Lib.hid (show s.cs.toArray.size = 121 by simpa using St.cs_len hs)
  have d1 : decide (g < 0) = false := by simp; omega
  have d2 : decide (6 ≤ g) = false := by simp; omega
  have d3 : decide (f < 0) = true := by simp; omega
  have cF := Lib.hid (fun W => fuelled_walk f W)
  rw [show decide (0 ≤ f ∧ f ≤ 4096) = false by simp; omega] at cF
  unfold St.v Pg.v at *
  generalize s.cs.toArray = st at *
  go_enter Tryd.func22, Tryd.ntmps22
  have E0 := ((((Env.nil (w := w)).push w.heap.size rfl #[.slice P.va P.vars.length P.vcap, .int .i64 P.locks, .slice P.ha P.chans.length P.hcap, .slice P.fa P.funcs.length P.fcap] 41).push (w.heap.size + 1) (by simp) st 32).push (w.heap.size + 1 + 1) (by simp) Tryd.zeroCells32 32).sub (cs := [(w.heap.size + 1 + 1, Tryd.zeroCells32), (w.heap.size + 1, st), (w.heap.size, #[.slice P.va P.vars.length P.vcap, .int .i64 P.locks, .slice P.ha P.chans.length P.hcap, .slice P.fa P.funcs.length P.fcap])]) (fun p hp => by simp only [List.mem_cons, List.not_mem_nil, or_false] at hp ⊢; rcases hp with rfl | rfl | rfl <;> simp)
  have hno := Lib.hid (show Tryd.zeroCells32.size = 121 by rw [zc]; simpa using St.cs_len St.none_ok)
  have hone := Lib.hid (show Tryd.zeroCells32.all (·.oneCell') = true by rw [zc]; exact St.one_cell)
  go_wp2_with (first | ((go_at_call 33; ((with_reducible refine (cR.out _ (by repeat (first | (with_reducible exact Below.refl _ _) | (with_reducible refine Below.drew ?_) | (with_reducible refine below_drewN ?_ _) | (with_reducible refine Below.alloc ?_ (by first | omega | (simp <;> omega)) _)))).mono ?_); rintro e w' ⟨rfl, hb1⟩)); have E1 := E0.next hb1; have y0 := E1.h0.cell; have y1 := E1.tl.h0.cell; have y2 := E1.tl.tl.h0.cell; have B1 := E1.tl.h0; have acc1 := E1.acc) | ((go_at_call 20; ((with_reducible refine (cV.out _ (by with_reducible assumption)).mono ?_); rintro e w' ⟨rfl, hb2⟩)); have E2 := E1.next hb2; have y3 := E2.h0.cell; have y4 := E2.tl.h0.cell; have y5 := E2.tl.tl.h0.cell; have B2 := E2.tl.h0; have acc2 := E2.acc) | (refine list_load rfl _ _ rfl _ rfl _ (load_whole B1 h121.out) ?_) | (go_at_call 34; ((with_reducible refine (cF.out _).mono ?_); rintro e w' ⟨rfl, rfl⟩)) | (refine wpList_store_mid rfl _ _ _ rfl _ _ _ rfl rfl (E2.h0.there _ _ (by rw [hno.out]; omega)) (by rw [size32, hno.out]) hone.out ?_))
  have E5 := Env.setRow (by omega) (fun p hp => by simp only [List.mem_cons, List.not_mem_nil, or_false] at hp; rcases hp with rfl | rfl <;> (simp only; omega)) Tryd.zeroCells32.toList _ 0 _ E2 (by simp)
  rw [putRow_all _ _ (by simp)] at E5
  have hl := load_st hz (E5.h0.cast (by simp [zc]))
  unfold St.v at hl
  refine bodyPost_ret (v := .tuple #[.agg St.none.cs.toArray, .int .i64 1]) (by simp [results, Tryd.results22, asAddr, hl]) rfl ⟨rfl, E5.acc⟩
set_option maxHeartbeats 8000000 in
set_option maxRecDepth 100000 in
theorem settleS_e1d (P : Pg) (s : St) (g f : Int) (w : World) (I : P.In w) (hs : s.ok) (hR : right P = true) (hV : valid P s = true) (h : 0 ≤ g ∧ g < 6) (hf : 4096 < f) :
    Calls Tryd.prog 22 #[P.v, s.v, .int .i64 g, .int .i64 f] w fun e w' => e = .returned (.tuple #[St.none.v, .int .i64 1]) ∧ Below w.heap.size w w' := by
  have cR := Lib.hid (fun W (hb : Below w.heap.size w W) => right_walk P W (I.below hb))
  rw [hR] at cR
  have cV := Lib.hid (fun W (hb : Below w.heap.size w W) => valid_walk P s W (I.below hb) hs)
  rw [hV] at cV
  have hz := St.none_ok
  have h121 := Lib.hid (show s.cs.toArray.size = 121 by simpa using St.cs_len hs)
  have d1 : decide (g < 0) = false := by simp; omega
  have d2 : decide (6 ≤ g) = false := by simp; omega
  have d3 : decide (f < 0) = false := by simp; omega
  have d4 : decide (4096 < f) = true := by simp; omega
  have cF := Lib.hid (fun W => fuelled_walk f W)
  rw [show decide (0 ≤ f ∧ f ≤ 4096) = false by simp; omega] at cF
  unfold St.v Pg.v at *
  generalize s.cs.toArray = st at *
  go_enter Tryd.func22, Tryd.ntmps22
  have E0 := ((((Env.nil (w := w)).push w.heap.size rfl #[.slice P.va P.vars.length P.vcap, .int .i64 P.locks, .slice P.ha P.chans.length P.hcap, .slice P.fa P.funcs.length P.fcap] 41).push (w.heap.size + 1) (by simp) st 32).push (w.heap.size + 1 + 1) (by simp) Tryd.zeroCells32 32).sub (cs := [(w.heap.size + 1 + 1, Tryd.zeroCells32), (w.heap.size + 1, st), (w.heap.size, #[.slice P.va P.vars.length P.vcap, .int .i64 P.locks, .slice P.ha P.chans.length P.hcap, .slice P.fa P.funcs.length P.fcap])]) (fun p hp => by simp only [List.mem_cons, List.not_mem_nil, or_false] at hp ⊢; rcases hp with rfl | rfl | rfl <;> simp)
  have hno := Lib.hid (show Tryd.zeroCells32.size = 121 by rw [zc]; simpa using St.cs_len St.none_ok)
  have hone := Lib.hid (show Tryd.zeroCells32.all (·.oneCell') = true by rw [zc]; exact St.one_cell)
  go_wp2_with (first | ((go_at_call 33; ((with_reducible refine (cR.out _ (by repeat (first | (with_reducible exact Below.refl _ _) | (with_reducible refine Below.drew ?_) | (with_reducible refine below_drewN ?_ _) | (with_reducible refine Below.alloc ?_ (by first | omega | (simp <;> omega)) _)))).mono ?_); rintro e w' ⟨rfl, hb1⟩)); have E1 := E0.next hb1; have y0 := E1.h0.cell; have y1 := E1.tl.h0.cell; have y2 := E1.tl.tl.h0.cell; have B1 := E1.tl.h0; have acc1 := E1.acc) | ((go_at_call 20; ((with_reducible refine (cV.out _ (by with_reducible assumption)).mono ?_); rintro e w' ⟨rfl, hb2⟩)); have E2 := E1.next hb2; have y3 := E2.h0.cell; have y4 := E2.tl.h0.cell; have y5 := E2.tl.tl.h0.cell; have B2 := E2.tl.h0; have acc2 := E2.acc) | (refine list_load rfl _ _ rfl _ rfl _ (load_whole B1 h121.out) ?_) | (go_at_call 34; ((with_reducible refine (cF.out _).mono ?_); rintro e w' ⟨rfl, rfl⟩)) | (refine wpList_store_mid rfl _ _ _ rfl _ _ _ rfl rfl (E2.h0.there _ _ (by rw [hno.out]; omega)) (by rw [size32, hno.out]) hone.out ?_))
  have E5 := Env.setRow (by omega) (fun p hp => by simp only [List.mem_cons, List.not_mem_nil, or_false] at hp; rcases hp with rfl | rfl <;> (simp only; omega)) Tryd.zeroCells32.toList _ 0 _ E2 (by simp)
  rw [putRow_all _ _ (by simp)] at E5
  have hl := load_st hz (E5.h0.cast (by simp [zc]))
  unfold St.v at hl
  refine bodyPost_ret (v := .tuple #[.agg St.none.cs.toArray, .int .i64 1]) (by simp [results, Tryd.results22, asAddr, hl]) rfl ⟨rfl, E5.acc⟩
set_option maxHeartbeats 8000000 in
set_option maxRecDepth 100000 in
theorem settleS_e9 (P : Pg) (s : St) (g f : Int) (w : World) (I : P.In w) (hs : s.ok) (hR : right P = true) (hV : valid P s = true) (h : 0 ≤ g ∧ g < 6) (hf : 0 ≤ f ∧ f ≤ 4096) (hc : s.count ≤ g) :
    Calls Tryd.prog 22 #[P.v, s.v, .int .i64 g, .int .i64 f] w fun e w' => e = .returned (.tuple #[St.none.v, .int .i64 9]) ∧ Below w.heap.size w w' := by
  have cR := Lib.hid (fun W (hb : Below w.heap.size w W) => right_walk P W (I.below hb))
  rw [hR] at cR
  have cV := Lib.hid (fun W (hb : Below w.heap.size w W) => valid_walk P s W (I.below hb) hs)
  rw [hV] at cV
  have hz := St.none_ok
  have h121 := Lib.hid (show s.cs.toArray.size = 121 by simpa using St.cs_len hs)
  have d1 : decide (g < 0) = false := by simp; omega
  have d2 : decide (6 ≤ g) = false := by simp; omega
  have d3 : decide (f < 0) = false := by simp; omega
  have d4 : decide (4096 < f) = false := by simp; omega
  have cF := Lib.hid (fun W => fuelled_walk f W)
  rw [show decide (0 ≤ f ∧ f ≤ 4096) = true by simp; omega] at cF
  have hcnt := St.get_count hs
  have d5 : decide (s.count ≤ g) = true := by simpa using hc
  unfold St.v Pg.v at *
  generalize s.cs.toArray = st at *
  go_enter Tryd.func22, Tryd.ntmps22
  have E0 := ((((Env.nil (w := w)).push w.heap.size rfl #[.slice P.va P.vars.length P.vcap, .int .i64 P.locks, .slice P.ha P.chans.length P.hcap, .slice P.fa P.funcs.length P.fcap] 41).push (w.heap.size + 1) (by simp) st 32).push (w.heap.size + 1 + 1) (by simp) Tryd.zeroCells32 32).sub (cs := [(w.heap.size + 1 + 1, Tryd.zeroCells32), (w.heap.size + 1, st), (w.heap.size, #[.slice P.va P.vars.length P.vcap, .int .i64 P.locks, .slice P.ha P.chans.length P.hcap, .slice P.fa P.funcs.length P.fcap])]) (fun p hp => by simp only [List.mem_cons, List.not_mem_nil, or_false] at hp ⊢; rcases hp with rfl | rfl | rfl <;> simp)
  have hno := Lib.hid (show Tryd.zeroCells32.size = 121 by rw [zc]; simpa using St.cs_len St.none_ok)
  have hone := Lib.hid (show Tryd.zeroCells32.all (·.oneCell') = true by rw [zc]; exact St.one_cell)
  go_wp2_with (first | ((go_at_call 33; ((with_reducible refine (cR.out _ (by repeat (first | (with_reducible exact Below.refl _ _) | (with_reducible refine Below.drew ?_) | (with_reducible refine below_drewN ?_ _) | (with_reducible refine Below.alloc ?_ (by first | omega | (simp <;> omega)) _)))).mono ?_); rintro e w' ⟨rfl, hb1⟩)); have E1 := E0.next hb1; have y0 := E1.h0.cell; have y1 := E1.tl.h0.cell; have y2 := E1.tl.tl.h0.cell; have B1 := E1.tl.h0; have acc1 := E1.acc) | ((go_at_call 20; ((with_reducible refine (cV.out _ (by with_reducible assumption)).mono ?_); rintro e w' ⟨rfl, hb2⟩)); have E2 := E1.next hb2; have y3 := E2.h0.cell; have y4 := E2.tl.h0.cell; have y5 := E2.tl.tl.h0.cell; have B2 := E2.tl.h0; have acc2 := E2.acc) | (refine list_load rfl _ _ rfl _ rfl _ (load_whole B1 h121.out) ?_) | (go_at_call 34; ((with_reducible refine (cF.out _).mono ?_); rintro e w' ⟨rfl, rfl⟩)) | (refine wpList_store_mid rfl _ _ _ rfl _ _ _ rfl rfl (E2.h0.there _ _ (by rw [hno.out]; omega)) (by rw [size32, hno.out]) hone.out ?_))
  have E5 := Env.setRow (by omega) (fun p hp => by simp only [List.mem_cons, List.not_mem_nil, or_false] at hp; rcases hp with rfl | rfl <;> (simp only; omega)) Tryd.zeroCells32.toList _ 0 _ E2 (by simp)
  rw [putRow_all _ _ (by simp)] at E5
  have hl := load_st hz (E5.h0.cast (by simp [zc]))
  unfold St.v at hl
  refine bodyPost_ret (v := .tuple #[.agg St.none.cs.toArray, .int .i64 9]) (by simp [results, Tryd.results22, asAddr, hl]) rfl ⟨rfl, E5.acc⟩
set_option maxHeartbeats 8000000 in
set_option maxRecDepth 100000 in
theorem settleR_e3 (P : Pg) (s : St) (g f : Int) (w : World) (I : P.In w) (hs : s.ok) (hR : right P = false) :
    Calls Tryd.prog 23 #[P.v, s.v, .int .i64 g, .int .i64 f] w fun e w' => e = .returned (.tuple #[St.none.v, .int .i64 3]) ∧ Below w.heap.size w w' := by
  have cR := Lib.hid (fun W (hb : Below w.heap.size w W) => rright_walk P W (I.below hb))
  rw [hR] at cR
  have hz := St.none_ok
  have h121 := Lib.hid (show s.cs.toArray.size = 121 by simpa using St.cs_len hs)
  unfold St.v Pg.v at *
  generalize s.cs.toArray = st at *
  go_enter Tryd.func23, Tryd.ntmps23
  have E0 := ((((Env.nil (w := w)).push w.heap.size rfl #[.slice P.va P.vars.length P.vcap, .int .i64 P.locks, .slice P.ha P.chans.length P.hcap, .slice P.fa P.funcs.length P.fcap] 41).push (w.heap.size + 1) (by simp) st 32).push (w.heap.size + 1 + 1) (by simp) Tryd.zeroCells32 32).sub (cs := [(w.heap.size + 1 + 1, Tryd.zeroCells32), (w.heap.size + 1, st), (w.heap.size, #[.slice P.va P.vars.length P.vcap, .int .i64 P.locks, .slice P.ha P.chans.length P.hcap, .slice P.fa P.funcs.length P.fcap])]) (fun p hp => by simp only [List.mem_cons, List.not_mem_nil, or_false] at hp ⊢; rcases hp with rfl | rfl | rfl <;> simp)
  have hno := Lib.hid (show Tryd.zeroCells32.size = 121 by rw [zc]; simpa using St.cs_len St.none_ok)
  have hone := Lib.hid (show Tryd.zeroCells32.all (·.oneCell') = true by rw [zc]; exact St.one_cell)
  go_wp2_with (first | ((go_at_call 24; ((with_reducible refine (cR.out _ (by repeat (first | (with_reducible exact Below.refl _ _) | (with_reducible refine Below.drew ?_) | (with_reducible refine below_drewN ?_ _) | (with_reducible refine Below.alloc ?_ (by first | omega | (simp <;> omega)) _)))).mono ?_); rintro e w' ⟨rfl, hb1⟩)); have E1 := E0.next hb1; have y0 := E1.h0.cell; have y1 := E1.tl.h0.cell; have y2 := E1.tl.tl.h0.cell; have B1 := E1.tl.h0; have acc1 := E1.acc) | (refine wpList_store_mid rfl _ _ _ rfl _ _ _ rfl rfl (E1.h0.there _ _ (by rw [hno.out]; omega)) (by rw [size32, hno.out]) hone.out ?_))
  have E5 := Env.setRow (by omega) (fun p hp => by simp only [List.mem_cons, List.not_mem_nil, or_false] at hp; rcases hp with rfl | rfl <;> (simp only; omega)) Tryd.zeroCells32.toList _ 0 _ E1 (by simp)
  rw [putRow_all _ _ (by simp)] at E5
  have hl := load_st hz (E5.h0.cast (by simp [zc]))
  unfold St.v at hl
  refine bodyPost_ret (v := .tuple #[.agg St.none.cs.toArray, .int .i64 3]) (by simp [results, Tryd.results23, asAddr, hl]) rfl ⟨rfl, E5.acc⟩
set_option maxHeartbeats 8000000 in
set_option maxRecDepth 100000 in
theorem settleR_e4 (P : Pg) (s : St) (g f : Int) (w : World) (I : P.In w) (hs : s.ok) (hR : right P = true) (hV : valid P s = false) :
    Calls Tryd.prog 23 #[P.v, s.v, .int .i64 g, .int .i64 f] w fun e w' => e = .returned (.tuple #[St.none.v, .int .i64 4]) ∧ Below w.heap.size w w' := by
  have cR := Lib.hid (fun W (hb : Below w.heap.size w W) => rright_walk P W (I.below hb))
  rw [hR] at cR
  have cV := Lib.hid (fun W (hb : Below w.heap.size w W) => rvalid_walk P s W (I.below hb) hs)
  rw [hV] at cV
  have hz := St.none_ok
  have h121 := Lib.hid (show s.cs.toArray.size = 121 by simpa using St.cs_len hs)
  unfold St.v Pg.v at *
  generalize s.cs.toArray = st at *
  go_enter Tryd.func23, Tryd.ntmps23
  have E0 := ((((Env.nil (w := w)).push w.heap.size rfl #[.slice P.va P.vars.length P.vcap, .int .i64 P.locks, .slice P.ha P.chans.length P.hcap, .slice P.fa P.funcs.length P.fcap] 41).push (w.heap.size + 1) (by simp) st 32).push (w.heap.size + 1 + 1) (by simp) Tryd.zeroCells32 32).sub (cs := [(w.heap.size + 1 + 1, Tryd.zeroCells32), (w.heap.size + 1, st), (w.heap.size, #[.slice P.va P.vars.length P.vcap, .int .i64 P.locks, .slice P.ha P.chans.length P.hcap, .slice P.fa P.funcs.length P.fcap])]) (fun p hp => by simp only [List.mem_cons, List.not_mem_nil, or_false] at hp ⊢; rcases hp with rfl | rfl | rfl <;> simp)
  have hno := Lib.hid (show Tryd.zeroCells32.size = 121 by rw [zc]; simpa using St.cs_len St.none_ok)
  have hone := Lib.hid (show Tryd.zeroCells32.all (·.oneCell') = true by rw [zc]; exact St.one_cell)
  go_wp2_with (first | ((go_at_call 24; ((with_reducible refine (cR.out _ (by repeat (first | (with_reducible exact Below.refl _ _) | (with_reducible refine Below.drew ?_) | (with_reducible refine below_drewN ?_ _) | (with_reducible refine Below.alloc ?_ (by first | omega | (simp <;> omega)) _)))).mono ?_); rintro e w' ⟨rfl, hb1⟩)); have E1 := E0.next hb1; have y0 := E1.h0.cell; have y1 := E1.tl.h0.cell; have y2 := E1.tl.tl.h0.cell; have B1 := E1.tl.h0; have acc1 := E1.acc) | ((go_at_call 21; ((with_reducible refine (cV.out _ (by with_reducible assumption)).mono ?_); rintro e w' ⟨rfl, hb2⟩)); have E2 := E1.next hb2; have y3 := E2.h0.cell; have y4 := E2.tl.h0.cell; have y5 := E2.tl.tl.h0.cell; have B2 := E2.tl.h0; have acc2 := E2.acc) | (refine list_load rfl _ _ rfl _ rfl _ (load_whole B1 h121.out) ?_) | (refine wpList_store_mid rfl _ _ _ rfl _ _ _ rfl rfl (E2.h0.there _ _ (by rw [hno.out]; omega)) (by rw [size32, hno.out]) hone.out ?_))
  have E5 := Env.setRow (by omega) (fun p hp => by simp only [List.mem_cons, List.not_mem_nil, or_false] at hp; rcases hp with rfl | rfl <;> (simp only; omega)) Tryd.zeroCells32.toList _ 0 _ E2 (by simp)
  rw [putRow_all _ _ (by simp)] at E5
  have hl := load_st hz (E5.h0.cast (by simp [zc]))
  unfold St.v at hl
  refine bodyPost_ret (v := .tuple #[.agg St.none.cs.toArray, .int .i64 4]) (by simp [results, Tryd.results23, asAddr, hl]) rfl ⟨rfl, E5.acc⟩
set_option maxHeartbeats 8000000 in
set_option maxRecDepth 100000 in
theorem settleR_e1a (P : Pg) (s : St) (g f : Int) (w : World) (I : P.In w) (hs : s.ok) (hR : right P = true) (hV : valid P s = true) (h : g < 0) :
    Calls Tryd.prog 23 #[P.v, s.v, .int .i64 g, .int .i64 f] w fun e w' => e = .returned (.tuple #[St.none.v, .int .i64 1]) ∧ Below w.heap.size w w' := by
  have cR := Lib.hid (fun W (hb : Below w.heap.size w W) => rright_walk P W (I.below hb))
  rw [hR] at cR
  have cV := Lib.hid (fun W (hb : Below w.heap.size w W) => rvalid_walk P s W (I.below hb) hs)
  rw [hV] at cV
  have hz := St.none_ok
  have h121 := Lib.hid (show s.cs.toArray.size = 121 by simpa using St.cs_len hs)
  have d1 : decide (g < 0) = true := by simpa using h
  unfold St.v Pg.v at *
  generalize s.cs.toArray = st at *
  go_enter Tryd.func23, Tryd.ntmps23
  have E0 := ((((Env.nil (w := w)).push w.heap.size rfl #[.slice P.va P.vars.length P.vcap, .int .i64 P.locks, .slice P.ha P.chans.length P.hcap, .slice P.fa P.funcs.length P.fcap] 41).push (w.heap.size + 1) (by simp) st 32).push (w.heap.size + 1 + 1) (by simp) Tryd.zeroCells32 32).sub (cs := [(w.heap.size + 1 + 1, Tryd.zeroCells32), (w.heap.size + 1, st), (w.heap.size, #[.slice P.va P.vars.length P.vcap, .int .i64 P.locks, .slice P.ha P.chans.length P.hcap, .slice P.fa P.funcs.length P.fcap])]) (fun p hp => by simp only [List.mem_cons, List.not_mem_nil, or_false] at hp ⊢; rcases hp with rfl | rfl | rfl <;> simp)
  have hno := Lib.hid (show Tryd.zeroCells32.size = 121 by rw [zc]; simpa using St.cs_len St.none_ok)
  have hone := Lib.hid (show Tryd.zeroCells32.all (·.oneCell') = true by rw [zc]; exact St.one_cell)
  go_wp2_with (first | ((go_at_call 24; ((with_reducible refine (cR.out _ (by repeat (first | (with_reducible exact Below.refl _ _) | (with_reducible refine Below.drew ?_) | (with_reducible refine below_drewN ?_ _) | (with_reducible refine Below.alloc ?_ (by first | omega | (simp <;> omega)) _)))).mono ?_); rintro e w' ⟨rfl, hb1⟩)); have E1 := E0.next hb1; have y0 := E1.h0.cell; have y1 := E1.tl.h0.cell; have y2 := E1.tl.tl.h0.cell; have B1 := E1.tl.h0; have acc1 := E1.acc) | ((go_at_call 21; ((with_reducible refine (cV.out _ (by with_reducible assumption)).mono ?_); rintro e w' ⟨rfl, hb2⟩)); have E2 := E1.next hb2; have y3 := E2.h0.cell; have y4 := E2.tl.h0.cell; have y5 := E2.tl.tl.h0.cell; have B2 := E2.tl.h0; have acc2 := E2.acc) | (refine list_load rfl _ _ rfl _ rfl _ (load_whole B1 h121.out) ?_) | (refine wpList_store_mid rfl _ _ _ rfl _ _ _ rfl rfl (E2.h0.there _ _ (by rw [hno.out]; omega)) (by rw [size32, hno.out]) hone.out ?_))
  have E5 := Env.setRow (by omega) (fun p hp => by simp only [List.mem_cons, List.not_mem_nil, or_false] at hp; rcases hp with rfl | rfl <;> (simp only; omega)) Tryd.zeroCells32.toList _ 0 _ E2 (by simp)
  rw [putRow_all _ _ (by simp)] at E5
  have hl := load_st hz (E5.h0.cast (by simp [zc]))
  unfold St.v at hl
  refine bodyPost_ret (v := .tuple #[.agg St.none.cs.toArray, .int .i64 1]) (by simp [results, Tryd.results23, asAddr, hl]) rfl ⟨rfl, E5.acc⟩
set_option maxHeartbeats 8000000 in
set_option maxRecDepth 100000 in
theorem settleR_e1b (P : Pg) (s : St) (g f : Int) (w : World) (I : P.In w) (hs : s.ok) (hR : right P = true) (hV : valid P s = true) (h : 0 ≤ g ∧ 6 ≤ g) :
    Calls Tryd.prog 23 #[P.v, s.v, .int .i64 g, .int .i64 f] w fun e w' => e = .returned (.tuple #[St.none.v, .int .i64 1]) ∧ Below w.heap.size w w' := by
  have cR := Lib.hid (fun W (hb : Below w.heap.size w W) => rright_walk P W (I.below hb))
  rw [hR] at cR
  have cV := Lib.hid (fun W (hb : Below w.heap.size w W) => rvalid_walk P s W (I.below hb) hs)
  rw [hV] at cV
  have hz := St.none_ok
  have h121 := Lib.hid (show s.cs.toArray.size = 121 by simpa using St.cs_len hs)
  have d1 : decide (g < 0) = false := by simp; omega
  have d2 : decide (6 ≤ g) = true := by simp; omega
  unfold St.v Pg.v at *
  generalize s.cs.toArray = st at *
  go_enter Tryd.func23, Tryd.ntmps23
  have E0 := ((((Env.nil (w := w)).push w.heap.size rfl #[.slice P.va P.vars.length P.vcap, .int .i64 P.locks, .slice P.ha P.chans.length P.hcap, .slice P.fa P.funcs.length P.fcap] 41).push (w.heap.size + 1) (by simp) st 32).push (w.heap.size + 1 + 1) (by simp) Tryd.zeroCells32 32).sub (cs := [(w.heap.size + 1 + 1, Tryd.zeroCells32), (w.heap.size + 1, st), (w.heap.size, #[.slice P.va P.vars.length P.vcap, .int .i64 P.locks, .slice P.ha P.chans.length P.hcap, .slice P.fa P.funcs.length P.fcap])]) (fun p hp => by simp only [List.mem_cons, List.not_mem_nil, or_false] at hp ⊢; rcases hp with rfl | rfl | rfl <;> simp)
  have hno := Lib.hid (show Tryd.zeroCells32.size = 121 by rw [zc]; simpa using St.cs_len St.none_ok)
  have hone := Lib.hid (show Tryd.zeroCells32.all (·.oneCell') = true by rw [zc]; exact St.one_cell)
  go_wp2_with (first | ((go_at_call 24; ((with_reducible refine (cR.out _ (by repeat (first | (with_reducible exact Below.refl _ _) | (with_reducible refine Below.drew ?_) | (with_reducible refine below_drewN ?_ _) | (with_reducible refine Below.alloc ?_ (by first | omega | (simp <;> omega)) _)))).mono ?_); rintro e w' ⟨rfl, hb1⟩)); have E1 := E0.next hb1; have y0 := E1.h0.cell; have y1 := E1.tl.h0.cell; have y2 := E1.tl.tl.h0.cell; have B1 := E1.tl.h0; have acc1 := E1.acc) | ((go_at_call 21; ((with_reducible refine (cV.out _ (by with_reducible assumption)).mono ?_); rintro e w' ⟨rfl, hb2⟩)); have E2 := E1.next hb2; have y3 := E2.h0.cell; have y4 := E2.tl.h0.cell; have y5 := E2.tl.tl.h0.cell; have B2 := E2.tl.h0; have acc2 := E2.acc) | (refine list_load rfl _ _ rfl _ rfl _ (load_whole B1 h121.out) ?_) | (refine wpList_store_mid rfl _ _ _ rfl _ _ _ rfl rfl (E2.h0.there _ _ (by rw [hno.out]; omega)) (by rw [size32, hno.out]) hone.out ?_))
  have E5 := Env.setRow (by omega) (fun p hp => by simp only [List.mem_cons, List.not_mem_nil, or_false] at hp; rcases hp with rfl | rfl <;> (simp only; omega)) Tryd.zeroCells32.toList _ 0 _ E2 (by simp)
  rw [putRow_all _ _ (by simp)] at E5
  have hl := load_st hz (E5.h0.cast (by simp [zc]))
  unfold St.v at hl
  refine bodyPost_ret (v := .tuple #[.agg St.none.cs.toArray, .int .i64 1]) (by simp [results, Tryd.results23, asAddr, hl]) rfl ⟨rfl, E5.acc⟩
set_option maxHeartbeats 8000000 in
set_option maxRecDepth 100000 in
theorem settleR_e1c (P : Pg) (s : St) (g f : Int) (w : World) (I : P.In w) (hs : s.ok) (hR : right P = true) (hV : valid P s = true) (h : 0 ≤ g ∧ g < 6) (hf : f < 0) :
    Calls Tryd.prog 23 #[P.v, s.v, .int .i64 g, .int .i64 f] w fun e w' => e = .returned (.tuple #[St.none.v, .int .i64 1]) ∧ Below w.heap.size w w' := by
  have cR := Lib.hid (fun W (hb : Below w.heap.size w W) => rright_walk P W (I.below hb))
  rw [hR] at cR
  have cV := Lib.hid (fun W (hb : Below w.heap.size w W) => rvalid_walk P s W (I.below hb) hs)
  rw [hV] at cV
  have hz := St.none_ok
  have h121 := Lib.hid (show s.cs.toArray.size = 121 by simpa using St.cs_len hs)
  have d1 : decide (g < 0) = false := by simp; omega
  have d2 : decide (6 ≤ g) = false := by simp; omega
  have d3 : decide (f < 0) = true := by simp; omega
  unfold St.v Pg.v at *
  generalize s.cs.toArray = st at *
  go_enter Tryd.func23, Tryd.ntmps23
  have E0 := ((((Env.nil (w := w)).push w.heap.size rfl #[.slice P.va P.vars.length P.vcap, .int .i64 P.locks, .slice P.ha P.chans.length P.hcap, .slice P.fa P.funcs.length P.fcap] 41).push (w.heap.size + 1) (by simp) st 32).push (w.heap.size + 1 + 1) (by simp) Tryd.zeroCells32 32).sub (cs := [(w.heap.size + 1 + 1, Tryd.zeroCells32), (w.heap.size + 1, st), (w.heap.size, #[.slice P.va P.vars.length P.vcap, .int .i64 P.locks, .slice P.ha P.chans.length P.hcap, .slice P.fa P.funcs.length P.fcap])]) (fun p hp => by simp only [List.mem_cons, List.not_mem_nil, or_false] at hp ⊢; rcases hp with rfl | rfl | rfl <;> simp)
  have hno := Lib.hid (show Tryd.zeroCells32.size = 121 by rw [zc]; simpa using St.cs_len St.none_ok)
  have hone := Lib.hid (show Tryd.zeroCells32.all (·.oneCell') = true by rw [zc]; exact St.one_cell)
  go_wp2_with (first | ((go_at_call 24; ((with_reducible refine (cR.out _ (by repeat (first | (with_reducible exact Below.refl _ _) | (with_reducible refine Below.drew ?_) | (with_reducible refine below_drewN ?_ _) | (with_reducible refine Below.alloc ?_ (by first | omega | (simp <;> omega)) _)))).mono ?_); rintro e w' ⟨rfl, hb1⟩)); have E1 := E0.next hb1; have y0 := E1.h0.cell; have y1 := E1.tl.h0.cell; have y2 := E1.tl.tl.h0.cell; have B1 := E1.tl.h0; have acc1 := E1.acc) | ((go_at_call 21; ((with_reducible refine (cV.out _ (by with_reducible assumption)).mono ?_); rintro e w' ⟨rfl, hb2⟩)); have E2 := E1.next hb2; have y3 := E2.h0.cell; have y4 := E2.tl.h0.cell; have y5 := E2.tl.tl.h0.cell; have B2 := E2.tl.h0; have acc2 := E2.acc) | (refine list_load rfl _ _ rfl _ rfl _ (load_whole B1 h121.out) ?_) | (refine wpList_store_mid rfl _ _ _ rfl _ _ _ rfl rfl (E2.h0.there _ _ (by rw [hno.out]; omega)) (by rw [size32, hno.out]) hone.out ?_))
  have E5 := Env.setRow (by omega) (fun p hp => by simp only [List.mem_cons, List.not_mem_nil, or_false] at hp; rcases hp with rfl | rfl <;> (simp only; omega)) Tryd.zeroCells32.toList _ 0 _ E2 (by simp)
  rw [putRow_all _ _ (by simp)] at E5
  have hl := load_st hz (E5.h0.cast (by simp [zc]))
  unfold St.v at hl
  refine bodyPost_ret (v := .tuple #[.agg St.none.cs.toArray, .int .i64 1]) (by simp [results, Tryd.results23, asAddr, hl]) rfl ⟨rfl, E5.acc⟩
set_option maxHeartbeats 8000000 in
set_option maxRecDepth 100000 in
theorem settleR_e1d (P : Pg) (s : St) (g f : Int) (w : World) (I : P.In w) (hs : s.ok) (hR : right P = true) (hV : valid P s = true) (h : 0 ≤ g ∧ g < 6) (hf : 4096 < f) :
    Calls Tryd.prog 23 #[P.v, s.v, .int .i64 g, .int .i64 f] w fun e w' => e = .returned (.tuple #[St.none.v, .int .i64 1]) ∧ Below w.heap.size w w' := by
  have cR := Lib.hid (fun W (hb : Below w.heap.size w W) => rright_walk P W (I.below hb))
  rw [hR] at cR
  have cV := Lib.hid (fun W (hb : Below w.heap.size w W) => rvalid_walk P s W (I.below hb) hs)
  rw [hV] at cV
  have hz := St.none_ok
  have h121 := Lib.hid (show s.cs.toArray.size = 121 by simpa using St.cs_len hs)
  have d1 : decide (g < 0) = false := by simp; omega
  have d2 : decide (6 ≤ g) = false := by simp; omega
  have d3 : decide (f < 0) = false := by simp; omega
  have d4 : decide (4096 < f) = true := by simp; omega
  unfold St.v Pg.v at *
  generalize s.cs.toArray = st at *
  go_enter Tryd.func23, Tryd.ntmps23
  have E0 := ((((Env.nil (w := w)).push w.heap.size rfl #[.slice P.va P.vars.length P.vcap, .int .i64 P.locks, .slice P.ha P.chans.length P.hcap, .slice P.fa P.funcs.length P.fcap] 41).push (w.heap.size + 1) (by simp) st 32).push (w.heap.size + 1 + 1) (by simp) Tryd.zeroCells32 32).sub (cs := [(w.heap.size + 1 + 1, Tryd.zeroCells32), (w.heap.size + 1, st), (w.heap.size, #[.slice P.va P.vars.length P.vcap, .int .i64 P.locks, .slice P.ha P.chans.length P.hcap, .slice P.fa P.funcs.length P.fcap])]) (fun p hp => by simp only [List.mem_cons, List.not_mem_nil, or_false] at hp ⊢; rcases hp with rfl | rfl | rfl <;> simp)
  have hno := Lib.hid (show Tryd.zeroCells32.size = 121 by rw [zc]; simpa using St.cs_len St.none_ok)
  have hone := Lib.hid (show Tryd.zeroCells32.all (·.oneCell') = true by rw [zc]; exact St.one_cell)
  go_wp2_with (first | ((go_at_call 24; ((with_reducible refine (cR.out _ (by repeat (first | (with_reducible exact Below.refl _ _) | (with_reducible refine Below.drew ?_) | (with_reducible refine below_drewN ?_ _) | (with_reducible refine Below.alloc ?_ (by first | omega | (simp <;> omega)) _)))).mono ?_); rintro e w' ⟨rfl, hb1⟩)); have E1 := E0.next hb1; have y0 := E1.h0.cell; have y1 := E1.tl.h0.cell; have y2 := E1.tl.tl.h0.cell; have B1 := E1.tl.h0; have acc1 := E1.acc) | ((go_at_call 21; ((with_reducible refine (cV.out _ (by with_reducible assumption)).mono ?_); rintro e w' ⟨rfl, hb2⟩)); have E2 := E1.next hb2; have y3 := E2.h0.cell; have y4 := E2.tl.h0.cell; have y5 := E2.tl.tl.h0.cell; have B2 := E2.tl.h0; have acc2 := E2.acc) | (refine list_load rfl _ _ rfl _ rfl _ (load_whole B1 h121.out) ?_) | (refine wpList_store_mid rfl _ _ _ rfl _ _ _ rfl rfl (E2.h0.there _ _ (by rw [hno.out]; omega)) (by rw [size32, hno.out]) hone.out ?_))
  have E5 := Env.setRow (by omega) (fun p hp => by simp only [List.mem_cons, List.not_mem_nil, or_false] at hp; rcases hp with rfl | rfl <;> (simp only; omega)) Tryd.zeroCells32.toList _ 0 _ E2 (by simp)
  rw [putRow_all _ _ (by simp)] at E5
  have hl := load_st hz (E5.h0.cast (by simp [zc]))
  unfold St.v at hl
  refine bodyPost_ret (v := .tuple #[.agg St.none.cs.toArray, .int .i64 1]) (by simp [results, Tryd.results23, asAddr, hl]) rfl ⟨rfl, E5.acc⟩
set_option maxHeartbeats 8000000 in
set_option maxRecDepth 100000 in
theorem settleR_e9 (P : Pg) (s : St) (g f : Int) (w : World) (I : P.In w) (hs : s.ok) (hR : right P = true) (hV : valid P s = true) (h : 0 ≤ g ∧ g < 6) (hf : 0 ≤ f ∧ f ≤ 4096) (hc : s.count ≤ g) :
    Calls Tryd.prog 23 #[P.v, s.v, .int .i64 g, .int .i64 f] w fun e w' => e = .returned (.tuple #[St.none.v, .int .i64 9]) ∧ Below w.heap.size w w' := by
  have cR := Lib.hid (fun W (hb : Below w.heap.size w W) => rright_walk P W (I.below hb))
  rw [hR] at cR
  have cV := Lib.hid (fun W (hb : Below w.heap.size w W) => rvalid_walk P s W (I.below hb) hs)
  rw [hV] at cV
  have hz := St.none_ok
  have h121 := Lib.hid (show s.cs.toArray.size = 121 by simpa using St.cs_len hs)
  have d1 : decide (g < 0) = false := by simp; omega
  have d2 : decide (6 ≤ g) = false := by simp; omega
  have d3 : decide (f < 0) = false := by simp; omega
  have d4 : decide (4096 < f) = false := by simp; omega
  have hcnt := St.get_count hs
  have d5 : decide (s.count ≤ g) = true := by simpa using hc
  unfold St.v Pg.v at *
  generalize s.cs.toArray = st at *
  go_enter Tryd.func23, Tryd.ntmps23
  have E0 := ((((Env.nil (w := w)).push w.heap.size rfl #[.slice P.va P.vars.length P.vcap, .int .i64 P.locks, .slice P.ha P.chans.length P.hcap, .slice P.fa P.funcs.length P.fcap] 41).push (w.heap.size + 1) (by simp) st 32).push (w.heap.size + 1 + 1) (by simp) Tryd.zeroCells32 32).sub (cs := [(w.heap.size + 1 + 1, Tryd.zeroCells32), (w.heap.size + 1, st), (w.heap.size, #[.slice P.va P.vars.length P.vcap, .int .i64 P.locks, .slice P.ha P.chans.length P.hcap, .slice P.fa P.funcs.length P.fcap])]) (fun p hp => by simp only [List.mem_cons, List.not_mem_nil, or_false] at hp ⊢; rcases hp with rfl | rfl | rfl <;> simp)
  have hno := Lib.hid (show Tryd.zeroCells32.size = 121 by rw [zc]; simpa using St.cs_len St.none_ok)
  have hone := Lib.hid (show Tryd.zeroCells32.all (·.oneCell') = true by rw [zc]; exact St.one_cell)
  go_wp2_with (first | ((go_at_call 24; ((with_reducible refine (cR.out _ (by repeat (first | (with_reducible exact Below.refl _ _) | (with_reducible refine Below.drew ?_) | (with_reducible refine below_drewN ?_ _) | (with_reducible refine Below.alloc ?_ (by first | omega | (simp <;> omega)) _)))).mono ?_); rintro e w' ⟨rfl, hb1⟩)); have E1 := E0.next hb1; have y0 := E1.h0.cell; have y1 := E1.tl.h0.cell; have y2 := E1.tl.tl.h0.cell; have B1 := E1.tl.h0; have acc1 := E1.acc) | ((go_at_call 21; ((with_reducible refine (cV.out _ (by with_reducible assumption)).mono ?_); rintro e w' ⟨rfl, hb2⟩)); have E2 := E1.next hb2; have y3 := E2.h0.cell; have y4 := E2.tl.h0.cell; have y5 := E2.tl.tl.h0.cell; have B2 := E2.tl.h0; have acc2 := E2.acc) | (refine list_load rfl _ _ rfl _ rfl _ (load_whole B1 h121.out) ?_) | (refine wpList_store_mid rfl _ _ _ rfl _ _ _ rfl rfl (E2.h0.there _ _ (by rw [hno.out]; omega)) (by rw [size32, hno.out]) hone.out ?_))
  have E5 := Env.setRow (by omega) (fun p hp => by simp only [List.mem_cons, List.not_mem_nil, or_false] at hp; rcases hp with rfl | rfl <;> (simp only; omega)) Tryd.zeroCells32.toList _ 0 _ E2 (by simp)
  rw [putRow_all _ _ (by simp)] at E5
  have hl := load_st hz (E5.h0.cast (by simp [zc]))
  unfold St.v at hl
  refine bodyPost_ret (v := .tuple #[.agg St.none.cs.toArray, .int .i64 9]) (by simp [results, Tryd.results23, asAddr, hl]) rfl ⟨rfl, E5.acc⟩
end Go.Proofs.YtbcdeanmjhcgeaaDoor.Pg
