/- An instruction's line, walked. The condition: the reader in memory. -/
import Derived.Test.YtlhhmlfcodmebaaGreatDoorZPc
import Derived.Test.YtlhhmlfcodmebaaGreatDoorZVg
import Derived.Test.YtlhhmlfcodmebaaGreatDoorZk
import Derived.Test.YtlhhmlfcodmebaaGreatDoorZC1
namespace Go.Proofs.YtlhhmlfcodmebaaGreatDoor.Pg
set_option linter.unusedVariables false
set_option linter.unusedSimpArgs false
open Go.RowKit Go.WideShapes Go.ChangeShapes
open Go.Proofs.YtlhhmlfcodmebaaGreatDoor.Wd (drop_at)
set_option linter.unusedVariables false
set_option linter.unusedSimpArgs false
def nd (l : List UInt8) : Nat := (l.filter (fun c => decide (c ≠ 45))).length
theorem nd_dash (l : List UInt8) : nd (45 :: l) = nd l := by simp [nd]
theorem nd_word (c : UInt8) (l : List UInt8) (h : c ≠ 45) : nd (c :: l) = nd l + 1 := by simp [nd, h]
theorem count_nd : ∀ l : List UInt8, l.count 45 + nd l = l.length
  | [] => rfl
  | c :: l => by
    have := count_nd l
    by_cases h : c = 45
    · subst h; rw [nd_dash, List.count_cons_self, List.length_cons]; omega
    · rw [nd_word c l h, List.count_cons_of_ne h, List.length_cons]; omega
theorem val_64 (c : UInt8) (l : List UInt8) : I64 (val c l).1 := by
  unfold val
  split
  · exact nmb_64 _
  · split
    · exact sml_64 _
    · exact ltr_64 _ _ _
def pad (pre : List Int) : List Int := [pre.getD 0 0, pre.getD 1 0, pre.getD 2 0, pre.getD 3 0]
def xarr (op : Nat) (pre : List Int) : Array Value := #[.int .i64 op, .int .i64 (pre.getD 0 0), .int .i64 (pre.getD 1 0), .int .i64 (pre.getD 2 0), .int .i64 (pre.getD 3 0)]
/-- Half way through an instruction's letters. -/
structure Half (W : World) (g : Nat) (op : Nat) (L : List UInt8) (wl : List (List UInt8)) (k m : Nat) (pre : List Int) (wr : World) : Prop where
  le : k ≤ 4
  len : pre.length = k
  pos : 1 ≤ m
  sum : m + nd (L.drop k) = wl.length + 1
  acc : Below W.heap.size W wr
  blk : Blk W.heap.size (xarr op pre) wr
  i64 : ∀ x ∈ pre, I64 x
  err : (gos L wl).2 = (gos (L.drop k) (wl.drop (m - 1))).2
  out : (gos L wl).2 = 0 → (gos L wl).1 = pre ++ (gos (L.drop k) (wl.drop (m - 1))).1
theorem Half.dash {W wr : World} {g op k m : Nat} {L : List UInt8} {wl : List (List UInt8)} {pre : List Int} (h : Half W g op L wl k m pre wr) (hd : L.drop k = 45 :: L.drop (k + 1)) (hk : k < 4) : Half W g op L wl (k + 1) m (pre ++ [0]) wr := by
  have hp : xarr op (pre ++ [0]) = xarr op pre := by
    have hl := h.len
    unfold xarr
    have e : ∀ j, (pre ++ [0]).getD j 0 = pre.getD j 0 := fun j => by
      simp only [List.getD_eq_getElem?_getD]
      rcases Nat.lt_or_ge j pre.length with q | q
      · rw [List.getElem?_append_left q]
      · rw [List.getElem?_append_right q, List.getElem?_eq_none (l := pre) q]
        rcases Nat.eq_zero_or_pos (j - pre.length) with z | z
        · rw [z]; rfl
        · rw [List.getElem?_eq_none (by simp; omega)]
    simp only [e]
  have hs := h.sum
  rw [hd, nd_dash] at hs
  refine ⟨by omega, by rw [List.length_append, h.len]; rfl, h.pos, hs, h.acc, by rw [hp]; exact h.blk, fun x hx => ?_, ?_, fun q => ?_⟩
  · rcases List.mem_append.1 hx with q | q
    · exact h.i64 x q
    · simp at q; subst q; exact ⟨by decide, by decide⟩
  · rw [h.err, hd, gos_dash]
  · rw [h.out q, hd, gos_dash, List.append_assoc]
    rfl
/-- A letter with a word: the word, and what it comes to. -/
theorem Half.word {W wr : World} {g op k m : Nat} {L : List UInt8} {wl : List (List UInt8)} {pre : List Int} {c : UInt8} (h : Half W g op L wl k m pre wr) (hd : L.drop k = c :: L.drop (k + 1)) (hc : c ≠ 45) :
    ∃ hm : m - 1 < wl.length, ((val c wl[m - 1]).2 ≠ 0 → (gos L wl).2 = (val c wl[m - 1]).2) ∧ ((val c wl[m - 1]).2 = 0 → (gos L wl).2 = (gos (L.drop (k + 1)) (wl.drop m)).2 ∧ ((gos L wl).2 = 0 → (gos L wl).1 = (pre ++ [(val c wl[m - 1]).1]) ++ (gos (L.drop (k + 1)) (wl.drop m)).1) ∧ m + 1 + nd (L.drop (k + 1)) = wl.length + 1) := by
  have hs := h.sum
  have hp := h.pos
  rw [hd, nd_word c _ hc] at hs
  have hm : m - 1 < wl.length := by omega
  have hw : wl.drop (m - 1) = wl[m - 1] :: wl.drop m := by
    rw [List.drop_eq_getElem_cons hm, show m - 1 + 1 = m by omega]
  have he := h.err
  rw [hd, hw, gos_word c _ _ _ hc] at he
  refine ⟨hm, fun q => ?_, fun q => ?_⟩
  · rw [he, if_neg q]
  · rw [if_pos q] at he
    refine ⟨he, fun z => ?_, by omega⟩
    rw [h.out z, hd, hw, gos_word c _ _ _ hc, if_pos q, List.append_assoc]
    rfl
theorem taken_code (p : Pg) (fs : List Fn) (f : Fn) (hp : p.funcs = fs ++ [f]) (op : Nat) (xs : List Int) : taken p.bare 10 op xs = Pg.bare { p with funcs := fs ++ [{ f with code := f.code ++ [insOf op xs] }] } := by
  simp [Pg.bare, taken, hp, onLast_snoc, Fn.bare]
theorem xarr_set (op k : Nat) (pre : List Int) (n : Int) (hl : pre.length = k) (hk : k < 4) : (xarr op pre).setIfInBounds (k + 1) (.int .i64 n) = xarr op (pre ++ [n]) := by
  match pre, hl with
  | [], hl => subst hl; rfl
  | [_], hl => subst hl; rfl
  | [_, _], hl => subst hl; rfl
  | [_, _, _], hl => subst hl; rfl
  | _ :: _ :: _ :: _ :: _, hl => simp at hl; omega
theorem xarr_at (op k : Nat) (pre : List Int) (hl : pre.length = k) (hk : k < 4) : (xarr op pre)[k + 1]? = some (.int .i64 0) := by
  match pre, hl with
  | [], hl => subst hl; rfl
  | [_], hl => subst hl; rfl
  | [_, _], hl => subst hl; rfl
  | [_, _, _], hl => subst hl; rfl
  | _ :: _ :: _ :: _ :: _, hl => simp at hl; omega
theorem Half.next {W wr W4 : World} {g op k m : Nat} {L : List UInt8} {wl : List (List UInt8)} {pre : List Int} (h : Half W g op L wl k m pre wr) (hb : Below wr.heap.size wr W4) (n : Int) (hn : I64 n) (hk : k < 4)
    (h0 : (gos L wl).2 = (gos (L.drop (k + 1)) (wl.drop m)).2 ∧ ((gos L wl).2 = 0 → (gos L wl).1 = (pre ++ [n]) ++ (gos (L.drop (k + 1)) (wl.drop m)).1) ∧ m + 1 + nd (L.drop (k + 1)) = wl.length + 1) :
    Half W g op L wl (k + 1) (m + 1) (pre ++ [n]) (W4.setCell ⟨W.heap.size, k + 1, none⟩ (.int .i64 n)) := by
  have hB := (h.blk.below hb).set (k + 1) (by unfold xarr; simp; omega) (.int .i64 n)
  rw [xarr_set op k pre n h.len hk] at hB
  refine ⟨by omega, by rw [List.length_append, h.len]; rfl, by omega, h0.2.2, (h.acc.trans (hb.mono h.acc.size)).setCell (Nat.le_refl _) _, hB, fun x hx => ?_, h0.1, h0.2.1⟩
  rcases List.mem_append.1 hx with q | q
  · exact h.i64 x q
  · simp at q; subst q; exact hn
set_option maxHeartbeats 8000000 in
set_option maxRecDepth 100000 in
theorem code_walk (w0 : World) (n0 r N g cap : Nat) (p : Pg) (a : Int) (W : World) (x0 : ByteArray) (ws : List ByteArray) (op : Nat) (R : Rd w0 n0 r N p a W) (fs : List Fn) (f : Fn) (hp : p.funcs = fs ++ [f]) (hop : (form op).size = 4) (hop1 : op ≤ 65)
    (hw : Ws n0 r g (x0 :: ws) W) (h1 : ∀ x ∈ ws, x.size ≤ 281474976710656) (hc : ws.length + 1 ≤ cap) (hlw : ws.length ≤ 1000000) (hN : N ≤ 1000000) :
    Calls Tryz.prog 55 #[.pointer (some ⟨r, 0, none⟩), .int .i64 (op : Int), .slice (some ⟨g, 0, none⟩) (ws.length + 1) cap] W
      (Does w0 n0 r N W (if ws.length ≠ (lets 10 op).length then 52 else (vals (lets 10 op) (ws.map (·.data.toList))).2) (taken p.bare 10 op (vals (lets 10 op) (ws.map (·.data.toList))).1) 5) := by
  have hlet := form_alets op
  have hl10 : lets 10 op = (form op).data.toList.filter (fun c => decide (c ≠ 45)) := rfl
  have hins : ∀ xs, insOf op xs = ⟨op, (spread (form op).data.toList xs).getD 0 0, (spread (form op).data.toList xs).getD 1 0, (spread (form op).data.toList xs).getD 2 0, (spread (form op).data.toList xs).getD 3 0⟩ := fun xs => rfl
  have hgv := gos_vals (form op).data.toList (ws.map (·.data.toList))
  have hcn := count_nd (form op).data.toList
  have hL4 : (form op).data.toList.length = 4 := by rw [Array.length_toList]; exact hop
  have cF := Lib.hid (fun W => form_walk (op : Int) W)
  rw [hl10]
  generalize form op = s at *
  have cC0 := (fun W => Tryz.strings_Count_one s 45 W)
  unfold Lib.countByte at cC0
  have hcount : (s.data.toList.filter (fun c => decide (c ≠ 45))).length = nd s.data.toList := rfl
  generalize s.data.toList.count 45 = c at *
  have cC := Lib.hid cC0
  clear cC0
  rw [hL4] at hcn
  have hcb : (c : Int) ≤ 4 := by omega
  have hca : (0 : Int) ≤ (c : Int) := by omega
  by_cases hlen : ws.length = nd s.data.toList
  · have hq : ((ws.length : Int) + 1 != 5 - (c : Int)) = false := by
      rw [bne_eq_false_iff_eq]
      omega
    rw [if_neg (by rw [hcount]; simpa using hlen)]
    obtain ⟨E, hE⟩ : ∃ E, Hid (E = (gos s.data.toList (ws.map (·.data.toList))).2) := ⟨_, Lib.hid rfl⟩
    have hgv' := hgv (by rw [List.length_map, hlen]; rfl)
    rw [← hgv'.1, ← hE.out]
    replace hgv' := Lib.hid hgv'
    replace hins := Lib.hid hins
    replace hlet := Lib.hid hlet
    obtain ⟨q, hq2⟩ : ∃ q, Hid (q = taken p.bare 10 op (vals (s.data.toList.filter (fun c => decide (c ≠ 45))) (ws.map (·.data.toList))).1) := ⟨_, Lib.hid rfl⟩
    rw [← hq2.out]
    clear hgv hcount
    have bb1 : Below W.heap.size W (W.alloc (.cells #[.int .i64 op, .int .i64 0, .int .i64 0, .int .i64 0, .int .i64 0] 51)) := (Below.refl _ _).alloc (Nat.le_refl _) _
    have H0 : Half W g op s.data.toList (ws.map (·.data.toList)) 0 1 [] (W.alloc (.cells #[.int .i64 op, .int .i64 0, .int .i64 0, .int .i64 0, .int .i64 0] 51)) :=
      ⟨by omega, rfl, by omega, by rw [List.drop_zero, List.length_map]; omega, bb1, Blk.new _ _ _, (fun _ h => by cases h), by rw [List.drop_zero]; rfl, fun _ => by rw [List.drop_zero]; rfl⟩
    replace hlen := Lib.hid hlen
    have cV := Lib.hid (fun c hc x hx W hW => value_walk c hc x W hW hx)
    have hlm : (ws.map (·.data.toList)).length = ws.length := List.length_map ..
    go_enter Tryz.func55, Tryz.ntmps55
    go_wp2_with (first | (go_at_call 66; ((with_reducible refine (cF.out _).mono ?_); rintro e w' ⟨rfl, hW⟩; have hW' := hW.symm; subst hW')) | (go_at_call 92; ((with_reducible refine (cC.out _).mono ?_); rintro e w' ⟨rfl, hW⟩; have hW' := hW.symm; subst hW')))
    generalize W.alloc (.cells #[.int .i64 op, .int .i64 0, .int .i64 0, .int .i64 0, .int .i64 0] 51) = W1 at *
    go_loopw [9, 29] (fun nx i wr => ∃ (k m : Nat) (pre : List Int), nx = .int .i64 m ∧ i = .int .i64 k ∧ Half W g op s.data.toList (ws.map (·.data.toList)) k m pre wr) (fun _ i _ => 4 - (intOf i).toNat)
    case atStart => exact ⟨0, 1, [], rfl, rfl, H0⟩
    case round =>
      obtain ⟨k, m, pre, rfl, rfl, H⟩ := hrel
      have hk4 := H.le
      by_cases hk : k < 4
      · have hd := drop_at s k (by omega)
        have hx := UInt8.toNat_lt s[k]
        by_cases h45 : s[k] = 45
        · have t45 : s[k].toNat = 45 := by rw [h45]; rfl
          rw [h45] at hd
          have H1 := H.dash hd hk
          clear hd h45
          go_wp2_with (fail)
          all_goals first
            | (refine ⟨⟨k + 1, m, pre ++ [0], rfl, by go_num, H1⟩, (by first | (simp [intOf]; done) | (simp [intOf]; omega) | omega)⟩)
            | (refine ⟨?_, (by first | (simp [intOf]; done) | (simp [intOf]; omega) | omega)⟩; (repeat apply Exists.intro); exact ⟨⟨k + 1, m, pre ++ [0], rfl, by go_num, H1⟩, rfl⟩)
        · have t45 : ((s[k].toNat : Int) == 45) = false := by
            rw [beq_eq_false_iff_ne]
            exact fun e => h45 (UInt8.toNat_inj.1 (by show s[k].toNat = 45; omega))
          obtain ⟨hm, he1, he0⟩ := H.word hd h45
          have hlt : alet s[k] := (hlet.out s[k] (List.mem_of_mem_drop (i := k) (by rw [hd]; exact List.mem_cons_self ..))).resolve_left h45
          have hp := H.pos
          have hmw : m - 1 < ws.length := by rw [hlm] at hm; exact hm
          have hwx : (x0 :: ws)[m]? = some ws[m - 1] := by
            obtain ⟨j, rfl⟩ : ∃ j, m = j + 1 := ⟨m - 1, by omega⟩
            simp only [Nat.add_sub_cancel] at hmw ⊢
            rw [List.getElem?_cons_succ, List.getElem?_eq_getElem hmw]
          have hxs := h1 ws[m - 1] (List.getElem_mem _)
          have hmap : (ws.map (·.data.toList))[m - 1] = ws[m - 1].data.toList := by rw [List.getElem_map]
          rw [hmap] at he1 he0
          generalize ws[m - 1] = x at *
          have hw2 := hw.below H.acc
          have wx := hw2.cell m _ hwx
          have cV2 := Lib.hid (fun W hW => cV.out s[k] hlt x hxs W hW)
          have hlie : Wd.Lies wr := (R.below H.acc).lie
          have hv64 : I64 (val s[k] x.data.toList).1 := val_64 _ _
          generalize val s[k] x.data.toList = y at *
          obtain ⟨n, e⟩ := y
          have hm0 : (0 : Int) ≤ (m : Int) := by omega
          have hm1 : (m : Int) < (ws.length : Int) + 1 := by omega
          replace he1 := Lib.hid he1
          replace he0 := Lib.hid he0
          have dr : Below wr.heap.size wr wr.drew := Below.drew (Below.refl _ _)
          have KS := Lib.hid (fun W' (hb : Below wr.heap.size wr W') => (hw2.below hb).cell m _ hwx)
          have hsz := H.acc.size
          go_wp2_with (fail)
          go_region_held3 (fun W' => W'.cell? ⟨g, m, none⟩ = some (.string x))
            (first | assumption | exact KS.out _ (Below.refl _ _) | exact KS.out _ dr | exact KS.out _ (dr.trans b4))
            ((go_at_call 93; ((with_reducible refine (cV2.out _ (hlie.below dr)).mono ?_); rintro e W4 ⟨rfl, b4⟩)))
          have bb4 := dr.trans b4
          clear KS dr b4 wx hw2 hlie cV2 t45 hd h45 hlt hwx hxs hmap
          by_cases hez : e = 0
          · subst hez
            have H4 := H.next bb4 n hv64 hk (he0.out rfl)
            have dX := ((H.blk.below bb4).cell (k + 1)).trans (xarr_at op k pre H.len hk)
            have zX := (H.blk.below bb4).fr
            clear bb4 he0 he1
            have hk' : k = 0 ∨ k = 1 ∨ k = 2 ∨ k = 3 := by omega
            rcases hk' with rfl | rfl | rfl | rfl
            all_goals simp only [Nat.zero_add, Nat.reduceAdd] at dX H4
            all_goals go_wp2_with (fail)
            · exact ⟨⟨1, m + 1, pre ++ [n], by go_num, rfl, H4⟩, (by first | (simp [intOf]; done) | (simp [intOf]; omega) | omega)⟩
            · exact ⟨⟨2, m + 1, pre ++ [n], by go_num, rfl, H4⟩, (by first | (simp [intOf]; done) | (simp [intOf]; omega) | omega)⟩
            · exact ⟨⟨3, m + 1, pre ++ [n], by go_num, rfl, H4⟩, (by first | (simp [intOf]; done) | (simp [intOf]; omega) | omega)⟩
            · exact ⟨⟨4, m + 1, pre ++ [n], by go_num, rfl, H4⟩, (by first | (simp [intOf]; done) | (simp [intOf]; omega) | omega)⟩
          · have hE2 := he1.out hez
            go_wp2_with (fail)
            go_ret
            exact ⟨by rw [hE.out, hE2]; rfl, Frm.below R.hi (H.acc.trans (bb4.mono H.acc.size)), fun q => absurd (by rw [← hE2, ← hE.out]; exact q) hez⟩
      · obtain rfl : k = 4 := by omega
        have hdrop : s.data.toList.drop 4 = [] := List.drop_eq_nil_of_le (by omega)
        have hE0 : E = 0 := by
          rw [hE.out, H.err, hdrop]
          rfl
        have hG : (gos s.data.toList (ws.map (·.data.toList))).1 = pre := by
          have := H.out (by rw [← hE.out]; exact hE0)
          rw [hdrop] at this
          rw [this]
          exact List.append_nil _
        have hsp := hgv'.out.2 (by rw [← hE.out]; exact hE0)
        rw [hG] at hsp
        have hqx := hq2.out
        have hxi : insOf op (vals (s.data.toList.filter (fun c => decide (c ≠ 45))) (ws.map (·.data.toList))).1 = ⟨op, pre.getD 0 0, pre.getD 1 0, pre.getD 2 0, pre.getD 3 0⟩ := by
          rw [hins.out, ← hsp]
        have hok : (Ins.mk op (pre.getD 0 0) (pre.getD 1 0) (pre.getD 2 0) (pre.getD 3 0)).ok := by
          have hg : ∀ j, I64 (pre.getD j 0) := fun j => by
            rw [List.getD_eq_getElem?_getD]
            rcases Nat.lt_or_ge j pre.length with z | z
            · rw [List.getElem?_eq_getElem z]; exact H.i64 _ (List.getElem_mem _)
            · rw [List.getElem?_eq_none z]; exact ⟨by decide, by decide⟩
          exact ⟨⟨by show -9223372036854775808 ≤ (op : Int); omega, by show (op : Int) ≤ 9223372036854775807; omega⟩, hg 0, hg 1, hg 2, hg 3⟩
        have hB := H.blk
        unfold xarr at hB
        generalize pre.getD 0 0 = q0 at *
        generalize pre.getD 1 0 = q1 at *
        generalize pre.getD 2 0 = q2 at *
        generalize pre.getD 3 0 = q3 at *
        have R2 := R.below H.acc
        have f2 := Frm.below (r := r) R.hi H.acc
        obtain ⟨b, hL⟩ := R2.last fs f hp
        have cL := Lib.hid (fun W R => last_walk w0 n0 r N b p a W R fs f hp hL.fa hN)
        have hlf := (R.few.funcs f (by rw [hp]; simp)).lenC
        subst hE0
        clear hgv' hins hq2 hsp hG hdrop hE
        replace hqx := Lib.hid hqx
        replace hxi := Lib.hid hxi
        go_wp2_with (go_at_call 94; ((with_reducible refine (cL.out _ R2).mono ?_); rintro e W3 ⟨rfl, b3⟩))
        have dr : Below W3.heap.size W3 W3.drew := Below.drew (Below.refl _ _)
        have R3 := R2.below (b3.drew)
        have f3 := f2.trans (Frm.below R2.hi (b3.drew))
        have L3 := hL.below b3
        have d2 := L3.c2
        have B3 := hB.below b3
        have c0 : W3.cell? ⟨W.heap.size, 0, none⟩ = some (.int .i64 op) := B3.cell 0
        have c1 : W3.cell? ⟨W.heap.size, 1, none⟩ = some (.int .i64 q0) := B3.cell 1
        have c2 : W3.cell? ⟨W.heap.size, 2, none⟩ = some (.int .i64 q1) := B3.cell 2
        have c3 : W3.cell? ⟨W.heap.size, 3, none⟩ = some (.int .i64 q2) := B3.cell 3
        have c4 : W3.cell? ⟨W.heap.size, 4, none⟩ = some (.int .i64 q3) := B3.cell 4
        have cA : ∀ t u v x y, (W3.alloc (.cells #[t, u, v, x, y] 51)).cell? ⟨b, fs.length * 4 + 2, none⟩ = some (.slice f.ca f.code.length f.ccap) := fun t u v x y => (((Below.refl W3.heap.size W3).alloc (Nat.le_refl _) _).cell (by simpa using L3.lt)).trans d2
        go_region_law ((refine step_app (R3.rows.perm ((rows_last p fs f hp).trans (List.Perm.swap _ _ _))) R3.hi rfl _ _ _ (by rfl) (Ins.mk op q0 q1 q2 q3).cs 51 (by rfl) (.agg #[.int .i64 0, .int .i64 0, .int .i64 0, .int .i64 0, .int .i64 0]) 40 Tryz.underlying42 info_ins rfl (Nat.succ_pos _) (by rfl) (by rfl) rfl (by simp [Ins.cs, Value.oneCell']) (by show (f.code.length + 1) * 40 ≤ _; omega) (by show f.code.length + 1 ≤ _; omega) ?_; intro g2 cap2 W10 k1 k2 k3 k4 k5; have d10 : W10.cell? ⟨b, fs.length * 4 + 2, none⟩ = some (.slice f.ca f.code.length f.ccap) := (k2.cell_far ⟨b, fs.length * 4 + 2, none⟩ L3.lt (fun e => R3.code_ne fs f hp hL.fa e.symm)).trans d2; have z10 : ∀ o, W10.frozen? ⟨b, o, none⟩ = false := (fun o => (k2.frozen_far ⟨b, o, none⟩ L3.lt (fun e => R3.code_ne fs f hp hL.fa e.symm)).trans (L3.fr o))))
        all_goals obtain ⟨R11, f11⟩ := R3.code fs f hp (x := ⟨op, q0, q1, q2, q3⟩) hok hL.fa k1 k2
        all_goals have far := (R3.far (last_mem p fs f hp (by simp [Fn.rows])) k2).1
        all_goals have hbr : r ≠ b := by have := R3.lo; have := hL.ge; omega
        all_goals have c11 : ∀ v, (W10.setCell ⟨b, fs.length * 4 + 2, none⟩ v).cell? ⟨r, 4, none⟩ = some (.int .i64 a) := fun v => (far.setOther b (fs.length * 4 + 2) v hbr).cell 4
        all_goals have z11 : ∀ v o, (W10.setCell ⟨b, fs.length * 4 + 2, none⟩ v).frozen? ⟨r, o, none⟩ = false := fun v o => (far.setOther b (fs.length * 4 + 2) v hbr).fr o
        all_goals go_wp2_with (fail)
        all_goals go_ret
        all_goals exact ⟨rfl, (f3.trans f11).trans (Frm.setR R11.hi 4 _), fun _ => ⟨_, by rw [hqx.out, taken_code p fs f hp, hxi.out]; simp [Pg.bare, Fn.bare], R11.setAt 5⟩⟩
  · have hq : ((ws.length : Int) + 1 != 5 - (c : Int)) = true := by
      rw [bne_iff_ne]
      intro e
      exact hlen (by omega)
    rw [if_pos (by rw [hcount]; exact hlen)]
    generalize taken p.bare 10 op _ = q at *
    go_enter Tryz.func55, Tryz.ntmps55
    go_wp2_with (first | (go_at_call 66; ((with_reducible refine (cF.out _).mono ?_); rintro e w' ⟨rfl, hW⟩; have hW' := hW.symm; subst hW')) | (go_at_call 92; ((with_reducible refine (cC.out _).mono ?_); rintro e w' ⟨rfl, hW⟩; have hW' := hW.symm; subst hW')))
    go_ret
    exact ⟨rfl, Frm.refl _ _ _, fun q => by cases q⟩
end Go.Proofs.YtlhhmlfcodmebaaGreatDoor.Pg
