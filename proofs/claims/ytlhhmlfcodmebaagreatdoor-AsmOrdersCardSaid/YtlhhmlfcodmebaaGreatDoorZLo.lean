/- AsmOrders, walked. No condition but the table and the variables as listed. -/
import Derived.Test.YtlhhmlfcodmebaaGreatDoorZg
import Derived.Test.YtlhhmlfcodmebaaGreatDoorZVn
import Derived.Test.YtlhhmlfcodmebaaGreatDoorZw
import Derived.Test.YtlhhmlfcodmebaaGreatDoorZLn0
import Derived.Test.YtlhhmlfcodmebaaGreatDoorZr
namespace Go.Proofs.YtlhhmlfcodmebaaGreatDoor.Pg
set_option linter.unusedVariables false
set_option linter.unusedSimpArgs false
open Go.RowKit Go.WideShapes Go.ChangeShapes
open Go.Proofs.YtlhhmlfcodmebaaGreatDoor.Wd (bt wrd)
set_option linter.unusedVariables false
set_option linter.unusedSimpArgs false
theorem pick_mod {u : Int} (hu : 0 ≤ u) {n : Nat} (h0 : 0 < n) (h1 : n ≤ 140737488351232) : ∃ k : Nat, k < n ∧ wrap64 (u.tmod (n : Int)) = (k : Int) := by
  have e : u.tmod (n : Int) = u % n := Int.tmod_eq_emod_of_nonneg hu
  have a1 := Int.emod_nonneg u (b := (n : Int)) (by omega)
  have a2 := Int.emod_lt_of_pos u (b := (n : Int)) (by omega)
  refine ⟨(u % n).toNat, by omega, ?_⟩
  rw [e]
  unfold wrap64
  omega
theorem u64_nn (n : Int) : 0 ≤ IntKind.u64.wrap n := by
  simp [IntKind.wrap, IntKind.bits, IntKind.signed]
  omega
/-- How many operands a form names. -/
def cnt : List UInt8 → Nat
  | [] => 0
  | c :: cs => (if c = 45 then 0 else 1) + cnt cs
theorem opws_cnt : ∀ (L : List UInt8) (ns : List Int), L.length ≤ ns.length → (opws L ns).length = cnt L
  | [], _, _ => by simp [opws, cnt]
  | c :: cs, [], h => by simp at h
  | c :: cs, n :: ns, h => by
    have ih := opws_cnt cs ns (by simpa using h)
    rw [opws, cnt]
    by_cases hc : c = 45
    · rw [if_pos hc, if_pos hc, ih]; omega
    · rw [if_neg hc, if_neg hc, List.length_cons, ih]; omega
theorem first_word {n0 : Nat} {W : World} {v : Value} {xs : List ByteArray} {ws : List (List UInt8)} {nm : List UInt8} (hT : Wd.Txts n0 W v xs) (hx : xs.map (·.data.toList) = ws) (hh : ws.head? = some nm) :
    ∃ g cap, v = .slice (some ⟨g, 0, none⟩) ws.length cap ∧ g < W.heap.size ∧ W.cell? ⟨g, 0, none⟩ = some (.string (bt nm)) := by
  subst hx
  cases xs with
  | nil => cases hh
  | cons x xs =>
    obtain ⟨a, cap, rfl, hcap, h⟩ := hT.parts
    obtain ⟨g, rfl, _, hlt, hc⟩ := h (by simp)
    have e : x = bt nm := Pg.bt_of (by simpa using hh)
    refine ⟨g, cap, by simp, hlt, ?_⟩
    rw [← e]
    exact hc 0 x rfl
set_option maxHeartbeats 8000000 in
set_option maxRecDepth 100000 in
theorem orders_law (P : Pg) (pick : Int) (w : World) (hL : Wd.Lies w) (I : P.In w) (hp : I64 pick) : Calls Tryz.prog 5 #[P.v, .int .i64 pick] w fun e w' => e = .returned (.bool true) ∧ Below w.heap.size w w' := by
  have E0 := (Env.nil (w := w)).push w.heap.size rfl #[.slice P.va P.vars.length P.vcap, .int .i64 P.locks, .slice P.ha P.chans.length P.hcap, .slice P.fa P.funcs.length P.fcap] 26
  have hlf := I.lenF
  unfold Len at hlf
  obtain ⟨hp0, hp1⟩ := hp
  have cR := Lib.hid (fun W (hb : Below w.heap.size w W) => rright_walk P W (I.below hb))
  have c3 := Lib.hid (fun W h => small_true W h)
  by_cases hc : chk P = 0
  rotate_left
  · have hrt : right P = false := beq_eq_false_iff_ne.2 hc
    have hr : lineT P 0 0 = ([], 3) := by unfold lineT; rw [if_pos hc]
    have cA := Lib.hid (fun W (hb : Below w.heap.size w W) => aline_walk P 0 0 W (hL.below hb) (I.below hb) (by unfold I64; omega) (by unfold I64; omega))
    rw [hr] at cA
    rw [hrt] at cR
    replace hL := Lib.hid hL
    unfold Pg.v at *
    go_enter Tryz.func5, Tryz.ntmps5
    go_wp2_with (first
      | (go_at_call 16; ((with_reducible refine (cR.out _ E0.acc).mono ?_); rintro r1 w1 ⟨rfl, hB1⟩; have E1 := E0.next hB1; have y1 := E1.h0.cell; have y10 := y1 0; have y11 := y1 1; have y12 := y1 2; have y13 := y1 3; clear y1))
      | (go_at_call 14; ((with_reducible refine (cA.out _ E1.acc).mono ?_); rintro r2 w2 ⟨rfl, hB2⟩; have E2 := E1.next hB2))
      | (go_at_call 13; ((with_reducible refine (c3.out _ (hL.out.below E2.acc)).mono ?_); rintro r4 w4 ⟨rfl, hB4⟩; have E3 := E2.next hB4)))
    all_goals go_ret
    all_goals exact ⟨rfl, E3.acc⟩
  have hrt : right P = true := beq_iff_eq.2 hc
  rw [hrt] at cR
  obtain ⟨W0, W1⟩ := whole_of hc
  have hnf := W0.func
  obtain ⟨i, hil, hi⟩ := pick_mod (u64_nn pick) (n := P.funcs.length) (by omega) (by omega)
  have hz := (fnc_of (fncs_none P W1 P.funcs[i] (List.getElem_mem hil)).choose_spec).1.code
  obtain ⟨j, hjl, hj⟩ := pick_mod (u64_nn ((IntKind.u64.wrap pick).tdiv 8)) (n := P.funcs[i].code.length) (by omega) (by omega)
  have hgd : P.funcs.getD i default = P.funcs[i] := by rw [List.getD_eq_getElem?_getD, List.getElem?_eq_getElem hil]; rfl
  have hat : atOk P i j := ⟨by omega, by omega, by omega, by rw [Int.toNat_natCast, hgd]; omega⟩
  obtain ⟨b, o, cb, co, x, F, A, hx, hFm, hxm⟩ := place_of I hat
  have hFi : P.funcs[i] = F := by
    have := A.hf
    rw [Int.toNat_natCast, List.getElem?_eq_getElem hil] at this
    exact Option.some.inj this
  have hr : lineT P i j = (insT x, 0) := by unfold lineT; rw [if_neg (by rw [hc]; decide), if_pos hat, hx]
  have hok := ((pg_ok hc I.ints).funcs F hFm).code x hxm
  have xok := (I.funcs F hFm).oks x hxm
  have cA := Lib.hid (fun W (hb : Below w.heap.size w W) => aline_walk P i j W (hL.below hb) (I.below hb) (by unfold I64; omega) (by unfold I64; omega))
  rw [hr] at cA
  have hnice := nice_ins hok
  have hwr : wrd (bt (insT x)).data.toList [] = insW x := by show wrd (insT x) [] = insW x; rw [insT_jn]; exact wrd_jn _ hnice.2.1
  have hlen : (insT x).length ≤ 90 := by
    have h1 := opt_len _ _ hok.args
    have h2 := (ops_known x.op.toNat (ops_le hok.op.2) hok.op.2).2.2.2
    have h3 := hok.len
    rw [insT, List.length_append]
    omega
  have hsz : (bt (insT x)).size ≤ 1048576 := by rw [bt_size]; omega
  have cW := Lib.hid (fun W (hb : Below w.heap.size w W) => Wd.words_walk (bt (insT x)) W (hL.below hb) hsz)
  rw [hwr] at cW
  have hop := hok.op
  have e0 : ((x.op.toNat : Nat) : Int) = x.op := by omega
  have h65 := ops_le hop.2
  have h1 : 1 ≤ x.op.toNat := by
    rcases hop.2 with h | h
    · exact h.1
    · have : ∀ k ∈ Wd.ops2, 40 ≤ k := by decide
      exact Nat.le_trans (by omega) (this _ h)
  have cN := Lib.hid (fun W => Wd.rname_walk x.op.toNat W h1 h65)
  rw [e0] at cN
  have cF := Lib.hid (fun W => rform_walk x.op W)
  have e4 := hok.len
  have hs4 : (form x.op).size = 4 := by
    have : (form x.op).data.toList.length = (form x.op).size := by rw [Array.length_toList]; rfl
    omega
  have hcn : (insW x).length = 1 + cnt (form x.op).data.toList := by
    rw [insW, List.length_cons, opws_cnt _ _ (by rw [e4]; show 4 ≤ 4; omega)]
    omega
  have hhd : (insW x).head? = some (opName x.op.toNat) := rfl
  have hcl : ∀ W, Below w.heap.size w W → W.cell? ⟨b, o + i * 4 + 2, none⟩ = some (.slice (some ⟨cb, co, none⟩) F.code.length F.ccap) := fun W hb => by
    rw [hb.cell (by simpa using A.blt)]
    have := A.c2
    rw [Int.toNat_natCast, A.ca] at this
    exact this
  have hin : ∀ W, Below w.heap.size w W → W.cell? ⟨cb, co + j * 5, none⟩ = some (.int .i64 x.op) := fun W hb => by
    rw [hb.cell (by simpa using A.clt)]
    have := A.cs 0 _ rfl
    rw [Int.toNat_natCast, Nat.add_zero] at this
    exact this
  have hfa := A.fa
  have hbl := A.blt
  have hcbl := A.clt
  rw [hFi] at hj hjl hz
  clear hx hFi hr hgd hat A hwr hlen hsz hnice
  generalize insW x = ws at *
  generalize insT x = tx at *
  generalize opName x.op.toNat = nm at *
  generalize form x.op = fm at *
  replace hcl := Lib.hid hcl
  replace hin := Lib.hid hin
  replace hL := Lib.hid hL
  have hlc := hz.2
  generalize x.op = op at *
  unfold Pg.v at *
  rw [hfa] at E0 cR cA
  rw [hfa]
  go_enter Tryz.func5, Tryz.ntmps5
  go_wp2_with (first
      | (go_at_call 16; ((with_reducible refine (cR.out _ E0.acc).mono ?_); rintro r1 w1 ⟨rfl, hB1⟩; have E1 := E0.next hB1; have y1 := E1.h0.cell; have y10 := y1 0; have y11 := y1 1; have y12 := y1 2; have y13 := y1 3; clear y1; have z1 := hcl.out _ E1.acc)))
  rw [hi]
  have hil' : (i : Int) < (P.funcs.length : Int) := by omega
  go_wp2_with (first
    | (go_at_call 14; ((with_reducible refine (cA.out _ E1.acc).mono ?_); rintro r2 w2 ⟨rfl, hB2⟩; have E2 := E1.next hB2; have y2 := E2.h0.cell; have y23 := y2 3; clear y2; have z2 := hcl.out _ E2.acc; have x2 := hin.out _ E2.acc))
    | (go_at_call 17; ((with_reducible refine (cW.out _ E2.acc).mono ?_); rintro r3 w3 ⟨⟨v, xs, rfl, hT, hxs⟩, hB3⟩; obtain ⟨g, cap, rfl, hgl, hgc⟩ := first_word hT hxs hhd; have E3 := E2.next hB3; have y3 := E3.h0.cell; have y33 := y3 3; clear y3 hT hxs; have z3 := hcl.out _ E3.acc; have x3 := hin.out _ E3.acc))
    | (go_at_call 18; ((with_reducible refine (cF.out _).mono ?_); rintro e w' ⟨rfl, hW⟩; have hW' := hW.symm; subst hW')))
  have hs4' : fm.size = 4 := hs4
  replace hcn := Lib.hid hcn
  have acc3 := Lib.hid E3.acc
  clear E0 E1 E2 cA cW cR cF c3 y10 y11 y12 y13 y23 z1 z2 x2 hB1 hB2 hB3 hin hcl
  go_loopw [12, 14] (fun nv iv wr => ∃ k m : Nat, k ≤ 4 ∧ nv = .int .i64 m ∧ iv = .int .i64 k ∧ wr = w3 ∧ m ≤ 1 + k ∧ Hid (m + cnt (fm.data.toList.drop k) = ws.length)) (fun _ iv _ => 4 - (intOf iv).toNat)
  case atStart => exact ⟨0, 1, by omega, rfl, rfl, rfl, by omega, Lib.hid (by rw [hcn.out]; rfl)⟩
  case round =>
    obtain ⟨k, m, hk4, rfl, rfl, rfl, hm, hinv⟩ := hrel
    by_cases hk : k < 4
    · have hd := Wd.drop_at fm k (by omega)
      have hc8 := UInt8.toNat_lt fm[k]
      have hq2 := hinv.out
      rw [hd, cnt] at hq2
      clear hd hinv
      by_cases h45 : fm[k] = 45
      · rw [if_pos h45] at hq2
        have t45 : ((fm[k].toNat : Int) != 45) = false := by rw [h45]; rfl
        replace hq2 := Lib.hid hq2
        clear h45
        go_wp2_with (fail)
        exact ⟨⟨k + 1, m, by omega, rfl, by go_num, trivial, by omega, Lib.hid (by have := hq2.out; omega)⟩, (by first | (simp [intOf]; done) | (simp [intOf]; omega) | omega)⟩
      · rw [if_neg h45] at hq2
        have t45 : ((fm[k].toNat : Int) != 45) = true := by
          rw [bne_iff_ne]
          exact fun e => h45 (UInt8.toNat_inj.1 (by show fm[k].toNat = 45; omega))
        replace hq2 := Lib.hid hq2
        clear h45
        go_wp2_with (fail)
        exact ⟨⟨k + 1, m + 1, by omega, by go_num, by go_num, trivial, by omega, Lib.hid (by have := hq2.out; omega)⟩, (by first | (simp [intOf]; done) | (simp [intOf]; omega) | omega)⟩
    · obtain rfl : k = 4 := by omega
      have hq2 := hinv.out
      rw [List.drop_of_length_le (by omega), cnt] at hq2
      have hwm : ws.length = m := by omega
      have hm0 : (0 : Int) < (m : Int) := by cases ws with
        | nil => cases hhd
        | cons a l => simp at hwm; omega
      have hjl' : (j : Int) < (F.code.length : Int) := by omega
      have hm0' : 0 < m := by omega
      have hm1 : ¬ m = 0 := by omega
      have hm2 : (1 : Int) ≤ (m : Int) := by omega
      have hcm : 1 + cnt fm.data.toList = m := by have := hcn.out; omega
      rw [hcm]
      clear hinv hq2 hcn
      have hsz3 := acc3.out.size
      have dr : Below wr.heap.size wr wr.drew := Below.drew (Below.refl _ _)
      have KS := Lib.hid (fun W' (hb : Below wr.heap.size wr W') => (⟨(hb.cell (p := ⟨g, 0, none⟩) hgl).trans hgc, (E3.next hb).h0.cell 3, (hb.cell (p := ⟨b, o + i * 4 + 2, none⟩) (Nat.lt_of_lt_of_le hbl hsz3)).trans z3, (hb.cell (p := ⟨cb, co + j * 5, none⟩) (Nat.lt_of_lt_of_le hcbl hsz3)).trans x3⟩ : W'.cell? ⟨g, 0, none⟩ = some (.string (bt nm)) ∧ W'.cell? ⟨w.heap.size, 3, none⟩ = some (.slice (some ⟨b, o, none⟩) P.funcs.length P.fcap) ∧ W'.cell? ⟨b, o + i * 4 + 2, none⟩ = some (.slice (some ⟨cb, co, none⟩) F.code.length F.ccap) ∧ W'.cell? ⟨cb, co + j * 5, none⟩ = some (.int .i64 op)))
      go_wp2_with (fail)
      go_region_held3 (fun W' => W'.cell? ⟨g, 0, none⟩ = some (.string (bt nm)) ∧ W'.cell? ⟨w.heap.size, 3, none⟩ = some (.slice (some ⟨b, o, none⟩) P.funcs.length P.fcap) ∧ W'.cell? ⟨b, o + i * 4 + 2, none⟩ = some (.slice (some ⟨cb, co, none⟩) F.code.length F.ccap) ∧ W'.cell? ⟨cb, co + j * 5, none⟩ = some (.int .i64 op))
        (first | assumption | exact KS.out _ (Below.refl _ _) | exact KS.out _ dr | exact KS.out _ (dr.trans b4))
        ((go_at_call 19; ((with_reducible refine (cN.out _).mono ?_); rintro r4 w4 ⟨rfl, b4⟩)))
      all_goals go_wp2_with (fail)
      all_goals go_ret
      all_goals exact ⟨rfl, acc3.out.trans ((dr.trans b4).mono acc3.out.size)⟩
end Go.Proofs.YtlhhmlfcodmebaaGreatDoor.Pg
