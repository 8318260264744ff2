/- An instruction's text, plainly and walked, both sides. The conditions: the table and the variables as listed; the instruction is right. -/
import Derived.Test.YtlhhmlfcodmebaaGreatDoorZNa
import Derived.Test.YtlhhmlfcodmebaaGreatDoorZIa
import Derived.Test.YtlhhmlfcodmebaaGreatDoorZC1
import Derived.Test.YtlhhmlfcodmebaaGreatDoorZw
import Derived.Deep.RegionHeld3
namespace Go.Proofs.YtlhhmlfcodmebaaGreatDoor.Pg
set_option linter.unusedVariables false
set_option linter.unusedSimpArgs false
open Go.RowKit Go.WideShapes Go.ChangeShapes
open Go.Proofs.YtlhhmlfcodmebaaGreatDoor.Wd (bt drop_at isOp nameOf_walk rname_walk)
open Go.Lib
set_option linter.unusedVariables false
set_option linter.unusedSimpArgs false
/-- Operands, a blank ahead of each. -/
def opt : List UInt8 → List Int → List UInt8
  | c :: cs, n :: ns => if c = 45 then opt cs ns else (32 :: opw c n) ++ opt cs ns
  | _, _ => []
def insT (x : Ins) : List UInt8 := opName x.op.toNat ++ opt (form x.op).data.toList x.ops
theorem jn_cons (w : List UInt8) : ∀ ws : List (List UInt8), jn (w :: ws) = w ++ ws.flatMap (fun v => 32 :: v)
  | [] => by simp [jn]
  | v :: ws => by rw [jn, jn_cons v ws]; simp
theorem opt_opws : ∀ (L : List UInt8) (ns : List Int), opt L ns = (opws L ns).flatMap (fun v => 32 :: v)
  | [], _ => by simp [opt, opws]
  | c :: cs, [] => by simp [opt, opws]
  | c :: cs, n :: ns => by
    rw [opt, opws, opt_opws cs ns]
    split
    · rfl
    · simp
theorem insT_jn (x : Ins) : insT x = jn (insW x) := by
  rw [insT, insW, jn_cons, opt_opws]
theorem opt_len : ∀ (L : List UInt8) (ns : List Int), (∀ p ∈ L.zip ns, okArg p.1 p.2) → (opt L ns).length ≤ 21 * L.length := fun L ns h => by
  have h1 := opws_tot L ns h
  rw [opt_opws]
  have h2 : ∀ ws : List (List UInt8), (ws.flatMap fun v => 32 :: v).length = tot ws := by
    intro ws
    induction ws with
    | nil => rfl
    | cons v ws ih => rw [List.flatMap_cons, List.length_append, ih, tot, List.length_cons]
  rw [h2]
  exact h1
set_option maxHeartbeats 4000000 in
set_option maxRecDepth 100000 in
theorem aoperands_walk (x : Ins) (w : World) (hx : x.ok) : Calls Tryz.prog 65 #[x.v] w fun e w' => e = .returned (.agg #[.int .i64 x.a, .int .i64 x.b, .int .i64 x.c, .int .i64 x.n]) ∧ Below w.heap.size w w' := by
  obtain ⟨⟨_, _⟩, ⟨_, _⟩, ⟨_, _⟩, ⟨_, _⟩, ⟨_, _⟩⟩ := hx
  obtain ⟨op, a, b, c, n⟩ := x
  have bb : ∀ O O', Below w.heap.size w ((w.alloc O).alloc O') := fun O O' => ((Below.refl _ _).alloc (Nat.le_refl _) _).alloc (by simp) _
  unfold Ins.v
  go_enter Tryz.func65, Tryz.ntmps65
  go_wp2
  refine bodyPost_ret (v := .agg #[.int .i64 a, .int .i64 b, .int .i64 c, .int .i64 n]) (by simp [results, Tryz.results65, go_sem]) rfl ⟨rfl, bb _ _⟩
set_option maxHeartbeats 8000000 in
set_option maxRecDepth 100000 in
theorem itext_walk (x : Ins) (w : World) (hL : Wd.Lies w) (hx : x.ok) (ho : InsOk x) : Calls Tryz.prog 35 #[x.v] w fun e w' => e = .returned (.string (bt (insT x))) ∧ Below w.heap.size w w' := by
  obtain ⟨q, hq⟩ : ∃ q, Hid (q = insT x) := ⟨_, Lib.hid rfl⟩
  rw [← hq.out]
  have hop := ho.op
  have e0 : ((x.op.toNat : Nat) : Int) = x.op := by omega
  have cN := Lib.hid (fun W => nameOf_walk x.op.toNat W ho.op.2)
  rw [e0] at cN
  have cF := Lib.hid (fun W => form_walk x.op W)
  have cO := Lib.hid (fun W => aoperands_walk x W hx)
  unfold Ins.v at *
  have e4 := ho.len
  have hs4 : (form x.op).size = 4 := by
    have : (form x.op).data.toList.length = (form x.op).size := by rw [Array.length_toList]; rfl
    omega
  have hargs := Lib.hid ho.args
  have hlet := Lib.hid (form_alets x.op)
  have hcv := fun W => Lib.run_convert_string_bytes (P := Tryz.prog) W 9 57 5 (form x.op) Tryz.underlying9 Tryz.underlying57 Tryz.underlying5
  have hle : opName x.op.toNat ++ opt (form x.op).data.toList x.ops = insT x := rfl
  rw [← hle] at hq
  clear hle
  have hnm := (ops_known x.op.toNat (ops_le hop.2) hop.2).2.2.2
  generalize opName x.op.toNat = nm at *
  generalize form x.op = f at *
  rw [hs4] at hcv
  have E0 := (Env.nil (w := w)).push w.heap.size rfl #[.int .i64 x.op, .int .i64 x.a, .int .i64 x.b, .int .i64 x.c, .int .i64 x.n] 51
  go_enter Tryz.func35, Tryz.ntmps35
  go_wp2_with (first
    | ((go_at_call 64; ((with_reducible refine (cN.out _).mono ?_); rintro e w' ⟨rfl, b1⟩)); have E1 := E0.next b1; have y1 := E1.h0.cell)
    | ((go_at_call 65; ((with_reducible refine (cO.out _).mono ?_); rintro e w' ⟨rfl, b2⟩)); have E2 := E1.next b2; have y2 := fun O => (E2.push _ rfl O 130).tl.h0.cell)
    | (go_at_call 66; ((with_reducible refine (cF.out _).mono ?_); rintro e w' ⟨rfl, hW⟩; have hW' := hW.symm; subst hW')))
  have E3 := E2.push w'.heap.size rfl #[.int .i64 x.a, .int .i64 x.b, .int .i64 x.c, .int .i64 x.n] 130
  generalize hW3 : w'.alloc (.cells #[.int .i64 x.a, .int .i64 x.b, .int .i64 x.c, .int .i64 x.n] 130) = W3 at *
  have bC := Lib.bytesWorld_below W3 5 f
  have E4 := E3.next bC
  have cB := fun j hj => Lib.bytesWorld_cell W3 5 f j hj
  have sB := Lib.bytesWorld_size W3 5 f
  have hsz3 : W3.heap.size = w'.heap.size + 1 := by rw [← hW3]; simp
  have lB := Nat.lt_of_lt_of_le (Nat.lt_succ_self W3.heap.size) (Nat.le_of_eq sB.symm)
  generalize Lib.bytesWorld W3 5 f = W4 at *
  have hL4 := Lib.hid (hL.below E4.acc)
  have acc4 := Lib.hid E4.acc
  have yl := Lib.hid E4.h0.cell
  have ll := E4.h0.lt
  have hlen4 : f.data.toList.length = 4 := e4
  rw [hsz3] at lB cB
  have cB' := Lib.hid cB
  clear cB hcv bC E3 E2 E1 E0 E4 sB hW3 cN cO cF
  have hls : ∀ k, k < 4 → (#[Value.int .i64 x.a, .int .i64 x.b, .int .i64 x.c, .int .i64 x.n])[k]? = some (.int .i64 (x.ops.getD k 0)) ∧ I64 (x.ops.getD k 0) ∧ x.ops.drop k = x.ops.getD k 0 :: x.ops.drop (k + 1) := by
    intro k hk
    have hc : k = 0 ∨ k = 1 ∨ k = 2 ∨ k = 3 := by omega
    rcases hc with rfl | rfl | rfl | rfl
    · exact ⟨rfl, hx.2.1, rfl⟩
    · exact ⟨rfl, hx.2.2.1, rfl⟩
    · exact ⟨rfl, hx.2.2.2.1, rfl⟩
    · exact ⟨rfl, hx.2.2.2.2, rfl⟩
  replace hls := Lib.hid hls
  go_loopw [3, 17] (fun sv iv wr => ∃ (k : Nat) (cur : List UInt8), k ≤ 4 ∧ sv = .string (bt cur) ∧ iv = .int .i64 k ∧ Below W4.heap.size W4 wr ∧ cur.length ≤ 6 + 21 * k ∧ Hid (q = cur ++ opt (f.data.toList.drop k) (x.ops.drop k))) (fun _ iv _ => 4 - (intOf iv).toNat)
  case atStart => exact ⟨0, nm, by omega, rfl, rfl, Below.refl _ _, by omega, Lib.hid hq.out⟩
  case round =>
    obtain ⟨k, cur, hk4, rfl, rfl, hB, hcl, hqq⟩ := hrel
    by_cases hk : k < 4
    · have hd := drop_at f k (by omega)
      have hc8 := UInt8.toNat_lt f[k]
      have hcb := (hB.cell (p := ⟨w'.heap.size + 1, k, none⟩) lB).trans (cB'.out k (by omega))
      have hge : f.data.toList.getD k 0 = f[k] := by
        rw [List.getD_eq_getElem?_getD, List.getElem?_eq_getElem (by omega)]
        rfl
      rw [hge] at hcb
      obtain ⟨h1, h2, h3⟩ := hls.out k hk
      have hlb := (hB.cell (p := ⟨w'.heap.size, k, none⟩) ll).trans ((yl.out k).trans h1)
      have hq2 := hqq.out
      rw [hd, h3, opt] at hq2
      have harg : okArg f[k] (x.ops.getD k 0) := hargs.out (f[k], x.ops.getD k 0) (by
        rw [List.mem_iff_getElem?]
        refine ⟨k, ?_⟩
        rw [List.getElem?_zip_eq_some]
        refine ⟨by rw [List.getElem?_eq_getElem (by omega)]; rfl, ?_⟩
        have : k < x.ops.length := by show k < 4; omega
        rw [List.getD_eq_getElem?_getD, List.getElem?_eq_getElem this]
        rfl)
      have hal := hlet.out f[k] (List.mem_of_mem_drop (i := k) (by rw [hd]; exact List.mem_cons_self ..))
      generalize x.ops.getD k 0 = n at *
      clear hqq h1 h3 hd hge
      by_cases h45 : f[k] = 45
      · rw [if_pos h45] at hq2
        have t45 : ((f[k].toNat : Int) != 45) = false := by rw [h45]; rfl
        replace hq2 := Lib.hid hq2
        clear harg hal h45
        go_wp2_with (fail)
        exact ⟨⟨k + 1, cur, by omega, rfl, by go_num, hB, by omega, hq2⟩, (by first | (simp [intOf]; done) | (simp [intOf]; omega) | omega)⟩
      · rw [if_neg h45] at hq2
        have t45 : ((f[k].toNat : Int) != 45) = true := by
          rw [bne_iff_ne]
          exact fun e => h45 (UInt8.toNat_inj.1 (by show f[k].toNat = 45; omega))
        have hal2 := hal.resolve_left h45
        have ho1 := opw_len f[k] n harg h45
        have cO := Lib.hid (aopd_walk f[k] hal2 n wr (hL4.out.below hB) h2)
        have hz1 : (bt (opw f[k] n)).size ≤ 20 := by rw [bt_size]; exact ho1
        have hz2 : (bt cur).size ≤ 90 := by rw [bt_size]; omega
        have hst : bt cur ++ (⟨#[32]⟩ ++ bt (opw f[k] n)) = bt (cur ++ 32 :: opw f[k] n) := by rw [bt_cons, bt_app]
        have hq3 : Hid (q = (cur ++ 32 :: opw f[k] n) ++ opt (f.data.toList.drop (k + 1)) (x.ops.drop (k + 1))) := Lib.hid (by rw [hq2]; simp)
        have hl3 : (cur ++ 32 :: opw f[k] n).length ≤ 6 + 21 * (k + 1) := by rw [List.length_append, List.length_cons]; omega
        clear harg hal h45 hq2 hal2
        generalize opw f[k] n = u at *
        go_wp2_with ((go_at_call 46; ((with_reducible refine (cO.out).mono ?_); rintro e w' ⟨rfl, b5⟩)))
        exact ⟨⟨k + 1, cur ++ 32 :: u, by omega, rfl, by go_num, hB.trans (b5.mono hB.size), hl3, hq3⟩, (by first | (simp [intOf]; done) | (simp [intOf]; omega) | omega)⟩
    · obtain rfl : k = 4 := by omega
      have hq2 := hqq.out
      rw [List.drop_eq_nil_of_le (show f.data.toList.length ≤ 4 by omega), show opt [] (x.ops.drop 4) = [] from rfl, List.append_nil] at hq2
      replace hq2 := Lib.hid hq2
      clear hqq
      go_wp2_with (fail)
      go_ret
      rw [hq2.out]
      exact ⟨rfl, acc4.out.trans (hB.mono acc4.out.size)⟩
set_option maxHeartbeats 8000000 in
set_option maxRecDepth 100000 in
theorem ritext_walk (x : Ins) (w : World) (hL : Wd.Lies w) (hx : x.ok) (ho : InsOk x) : Calls Tryz.prog 36 #[x.v] w fun e w' => e = .returned (.string (bt (insT x))) ∧ Below w.heap.size w w' := by
  obtain ⟨q, hq⟩ : ∃ q, Hid (q = insT x) := ⟨_, Lib.hid rfl⟩
  rw [← hq.out]
  have hop := ho.op
  have e0 : ((x.op.toNat : Nat) : Int) = x.op := by omega
  have h65 := ops_le hop.2
  have h1 : 1 ≤ x.op.toNat := by
    rcases hop.2 with h | h
    · exact h.1
    · have : ∀ k ∈ Wd.ops2, 40 ≤ k := by decide
      exact Nat.le_trans (by omega) (this _ h)
  have cN := Lib.hid (fun W => rname_walk x.op.toNat W h1 h65)
  rw [e0] at cN
  have cF := Lib.hid (fun W => rform_walk x.op W)
  have e4 := ho.len
  have hs4 : (form x.op).size = 4 := by
    have : (form x.op).data.toList.length = (form x.op).size := by rw [Array.length_toList]; rfl
    omega
  have hargs := Lib.hid ho.args
  have hlet := Lib.hid (form_alets x.op)
  have hle : opName x.op.toNat ++ opt (form x.op).data.toList x.ops = insT x := rfl
  rw [← hle] at hq
  clear hle
  have hnm := (ops_known x.op.toNat (ops_le hop.2) hop.2).2.2.2
  generalize opName x.op.toNat = nm at *
  generalize form x.op = f at *
  have E0 := (Env.nil (w := w)).push w.heap.size rfl #[.int .i64 x.op, .int .i64 x.a, .int .i64 x.b, .int .i64 x.c, .int .i64 x.n] 51
  unfold Ins.v at *
  go_enter Tryz.func36, Tryz.ntmps36
  go_wp2_with (first
    | ((go_at_call 19; ((with_reducible refine (cN.out _).mono ?_); rintro e w' ⟨rfl, b1⟩)); have E1 := E0.next b1; have y1 := E1.h0.cell)
    | (go_at_call 18; ((with_reducible refine (cF.out _).mono ?_); rintro e w' ⟨rfl, hW⟩; have hW' := hW.symm; subst hW')))
  have E3 := E1.push w'.heap.size rfl #[.int .i64 x.a, .int .i64 x.b, .int .i64 x.c, .int .i64 x.n] 130
  generalize w'.alloc (.cells #[.int .i64 x.a, .int .i64 x.b, .int .i64 x.c, .int .i64 x.n] 130) = W3 at *
  have hL3 := Lib.hid (hL.below E3.acc)
  have acc3 := Lib.hid E3.acc
  have yl := Lib.hid E3.h0.cell
  have ll := E3.h0.lt
  clear E3 E1 E0 cN cF b1 y1
  have hls : ∀ k, k < 4 → (#[Value.int .i64 x.a, .int .i64 x.b, .int .i64 x.c, .int .i64 x.n])[k]? = some (.int .i64 (x.ops.getD k 0)) ∧ I64 (x.ops.getD k 0) ∧ x.ops.drop k = x.ops.getD k 0 :: x.ops.drop (k + 1) := by
    intro k hk
    have hc : k = 0 ∨ k = 1 ∨ k = 2 ∨ k = 3 := by omega
    rcases hc with rfl | rfl | rfl | rfl
    · exact ⟨rfl, hx.2.1, rfl⟩
    · exact ⟨rfl, hx.2.2.1, rfl⟩
    · exact ⟨rfl, hx.2.2.2.1, rfl⟩
    · exact ⟨rfl, hx.2.2.2.2, rfl⟩
  replace hls := Lib.hid hls
  go_loopw [3, 6] (fun sv iv wr => ∃ (k : Nat) (cur : List UInt8), k ≤ 4 ∧ sv = .string (bt cur) ∧ iv = .int .i64 k ∧ Below W3.heap.size W3 wr ∧ cur.length ≤ 6 + 21 * k ∧ Hid (q = cur ++ opt (f.data.toList.drop k) (x.ops.drop k))) (fun _ iv _ => 4 - (intOf iv).toNat)
  case atStart => exact ⟨0, nm, by omega, rfl, rfl, Below.refl _ _, by omega, Lib.hid hq.out⟩
  case round =>
    obtain ⟨k, cur, hk4, rfl, rfl, hB, hcl, hqq⟩ := hrel
    by_cases hk : k < 4
    · have hd := drop_at f k (by omega)
      have hc8 := UInt8.toNat_lt f[k]
      obtain ⟨h1, h2, h3⟩ := hls.out k hk
      have hlb := (hB.cell (p := ⟨w'.heap.size, k, none⟩) ll).trans ((yl.out k).trans h1)
      have hq2 := hqq.out
      rw [hd, h3, opt] at hq2
      have harg : okArg f[k] (x.ops.getD k 0) := hargs.out (f[k], x.ops.getD k 0) (by
        rw [List.mem_iff_getElem?]
        refine ⟨k, ?_⟩
        rw [List.getElem?_zip_eq_some]
        refine ⟨by rw [List.getElem?_eq_getElem (by omega)]; rfl, ?_⟩
        have : k < x.ops.length := by show k < 4; omega
        rw [List.getD_eq_getElem?_getD, List.getElem?_eq_getElem this]
        rfl)
      have hal := hlet.out f[k] (List.mem_of_mem_drop (i := k) (by rw [hd]; exact List.mem_cons_self ..))
      generalize x.ops.getD k 0 = n at *
      clear hqq h1 h3 hd
      by_cases h45 : f[k] = 45
      · rw [if_pos h45] at hq2
        have t45 : ((f[k].toNat : Int) != 45) = false := by rw [h45]; rfl
        replace hq2 := Lib.hid hq2
        clear harg hal h45
        go_wp2_with (fail)
        exact ⟨⟨k + 1, cur, by omega, rfl, by go_num, hB, by omega, hq2⟩, (by first | (simp [intOf]; done) | (simp [intOf]; omega) | omega)⟩
      · rw [if_neg h45] at hq2
        have t45 : ((f[k].toNat : Int) != 45) = true := by
          rw [bne_iff_ne]
          exact fun e => h45 (UInt8.toNat_inj.1 (by show f[k].toNat = 45; omega))
        have hal2 := hal.resolve_left h45
        have ho1 := opw_len f[k] n harg h45
        have cO := Lib.hid (raopd_walk f[k] hal2 n wr.drew ((hL3.out.below hB).below (Below.drew (Below.refl _ _))) h2)
        have hz1 : (bt (opw f[k] n)).size ≤ 20 := by rw [bt_size]; exact ho1
        have hz2 : (bt cur).size ≤ 90 := by rw [bt_size]; omega
        have hst : bt cur ++ ⟨#[32]⟩ ++ bt (opw f[k] n) = bt (cur ++ 32 :: opw f[k] n) := by rw [show (⟨#[32]⟩ : ByteArray) = bt [32] from rfl, bt_app, bt_app, List.append_assoc]; rfl
        have hq3 : Hid (q = (cur ++ 32 :: opw f[k] n) ++ opt (f.data.toList.drop (k + 1)) (x.ops.drop (k + 1))) := Lib.hid (by rw [hq2]; simp)
        have hl3 : (cur ++ 32 :: opw f[k] n).length ≤ 6 + 21 * (k + 1) := by rw [List.length_append, List.length_cons]; omega
        clear harg hal h45 hq2 hal2
        generalize opw f[k] n = u at *
        have hv1 : ¬ 9223372036854775807 < (bt cur).size + 1 := by omega
        have hv2 : ¬ 9223372036854775806 < (bt cur).size := by omega
        have hv3 : ¬ 9223372036854775807 < (bt cur).size + 1 + (bt u).size := by omega
        have hv4 : (bt cur).size ≤ 9223372036854775806 := by omega
        have hv5 : (bt cur).size + 1 + (bt u).size ≤ 9223372036854775807 := by omega
        have dr : Below wr.heap.size wr wr.drew := Below.drew (Below.refl _ _)
        have KS := Lib.hid (fun W' (hb : Below wr.heap.size wr W') => (hb.cell (p := ⟨w'.heap.size, k, none⟩) (Nat.lt_of_lt_of_le ll hB.size)).trans hlb)
        go_wp2_with (fail)
        go_region_held3 (fun W' => W'.cell? ⟨w'.heap.size, k, none⟩ = some (.int .i64 n)) (first | assumption | exact KS.out _ (Below.refl _ _) | exact KS.out _ dr | exact KS.out _ (dr.trans b5)) ((go_at_call 67; ((with_reducible refine (cO.out).mono ?_); rintro e W5 ⟨rfl, b5⟩)))
        all_goals go_wp2_with (fail)
        all_goals exact ⟨⟨k + 1, cur ++ 32 :: u, by omega, rfl, by go_num, hB.trans ((dr.trans b5).mono hB.size), hl3, hq3⟩, (by first | (simp [intOf]; done) | (simp [intOf]; omega) | omega)⟩
    · obtain rfl : k = 4 := by omega
      have hq2 := hqq.out
      rw [List.drop_eq_nil_of_le (show f.data.toList.length ≤ 4 by omega), show opt [] (x.ops.drop 4) = [] from rfl, List.append_nil] at hq2
      replace hq2 := Lib.hid hq2
      clear hqq
      go_wp2_with (fail)
      go_ret
      rw [hq2.out]
      exact ⟨rfl, acc3.out.trans (hB.mono acc3.out.size)⟩
end Go.Proofs.YtlhhmlfcodmebaaGreatDoor.Pg
