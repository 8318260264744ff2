/- The reference's Parse, walked. No condition but the table and the variables as listed. -/
import Derived.Test.YtlhhmlfcodmebaaGreatDoorZRp0
import Derived.Test.YtlhhmlfcodmebaaGreatDoorZc
import Derived.Deep.RegionHeld3
namespace Go.Proofs.YtlhhmlfcodmebaaGreatDoor.Pg
set_option linter.unusedVariables false
set_option linter.unusedSimpArgs false
open Go.RowKit Go.WideShapes Go.ChangeShapes
open Go.Proofs.YtlhhmlfcodmebaaGreatDoor.Wd (wrd bt drop_at rwords_walk rkind_walk wrd_count)
set_option linter.unusedVariables false
set_option linter.unusedSimpArgs false
set_option maxHeartbeats 8000000 in
set_option maxRecDepth 100000 in
theorem rparse_long (s : ByteArray) (w : World) (hs : 65536 < s.size) : Calls Tryz.prog 11 #[.string s] w (RStop w s) := by
  have hlen : s.data.toList.length = s.size := by rw [Array.length_toList]; rfl
  have hp : prs s.data.toList = (Pg.no, 2, 0) := by unfold prs; rw [if_pos (by omega)]
  have hi : (65536 : Int) < (s.size : Int) := by omega
  have bb : ∀ O, Below w.heap.size w (w.alloc O) := fun O => (Below.refl _ _).alloc (Nat.le_refl _) _
  go_enter Tryz.func11, Tryz.ntmps11
  go_wp2
  refine bodyPost_ret (v := .tuple #[.agg #[.slice none 0 0, .int .i64 0, .slice none 0 0, .slice none 0 0], .int .i64 2, .int .i64 0]) ?_ rfl ⟨Pg.no, by rw [hp]; rfl, by rw [hp]; rfl, no_in _, bb _⟩
  simp [results, Tryz.results11, go_sem]
set_option maxHeartbeats 16000000 in
set_option maxRecDepth 100000 in
theorem rparse_walk (s : ByteArray) (w : World) (hL : Wd.Lies w) (hs : s.size ≤ 65536) : Calls Tryz.prog 11 #[.string s] w (RStop w s) := by
  have hi : (s.size : Int) ≤ 65536 := by omega
  have M0 := RMid.start w s
  have hL0 := Lib.hid hL
  clear hL
  unfold noCs at M0
  go_enter Tryz.func11, Tryz.ntmps11
  go_wp2_with (fail)
  go_loopw [6, 7, 8] (fun lv nv av wr => ∃ (p : Pg) (last cnt a N : Nat), lv = .int .i64 last ∧ nv = .int .i64 cnt ∧ av = .int .i64 a ∧ RMid w wr s a N cnt p last) (fun _ _ av _ => s.size + 1 - (intOf av).toNat)
  case atStart => exact ⟨Pg.no, 0, 0, 0, 0, rfl, rfl, rfl, M0⟩
  case round =>
    clear M0
    obtain ⟨p, last, cnt, a, N, rfl, rfl, rfl, M⟩ := hrel
    have hN := M.hN
    have hcn := M.hc
    have hA := M.ha
    have ht10 := M.inv.top
    by_cases ha : a < s.size
    · obtain ⟨wo, hwo⟩ : ∃ wo : World, Hid (wr = wo) := ⟨_, Lib.hid rfl⟩
      have hwo' := hwo.out
      subst hwo'
      clear hwo
      go_wp2_with (fail)
      go_loopw [9] (fun ev wq => ∃ e : Nat, ev = .int .i64 e ∧ a ≤ e ∧ e ≤ s.size ∧ wq = wr ∧ Hid (∀ j (h : j < s.size), a ≤ j → j < e → s[j] ≠ 10)) (fun ev _ => s.size - (intOf ev).toNat)
      case atStart => exact ⟨a, rfl, Nat.le_refl _, by omega, rfl, Lib.hid fun j _ h1 h2 => by omega⟩
      case round =>
        obtain ⟨e, rfl, he1, he2, rfl, hq⟩ := hrel
        have hx : (∃ h : e < s.size, s[e] ≠ 10) ∨ (e = s.size ∨ ∃ h : e < s.size, s[e] = 10) := by
          by_cases h : e < s.size
          · by_cases h2 : s[e] = 10
            · exact .inr (.inr ⟨h, h2⟩)
            · exact .inl ⟨h, h2⟩
          · exact .inr (.inl (by omega))
        rcases hx with ⟨he, h10⟩ | hx
        · have t10 : ((s[e].toNat : Int) != 10) = true := by
            rw [bne_iff_ne]
            exact fun q => h10 (UInt8.toNat_inj.1 (by show s[e].toNat = 10; omega))
          have hq1 : Hid (∀ j (h : j < s.size), a ≤ j → j < e + 1 → s[j] ≠ 10) := Lib.hid fun j h h1 h2 => by
            rcases Nat.lt_or_ge j e with q | q
            · exact hq.out j h h1 q
            · obtain rfl : j = e := by omega
              exact h10
          clear h10 hq
          go_wp2_with (fail)
          exact ⟨⟨e + 1, by go_num, by omega, by omega, trivial, hq1⟩, (by first | (simp [intOf]; done) | (simp [intOf]; omega) | omega)⟩
        · have hlns := Lib.hid (lns_first s a e ha he1 he2 hq.out hx)
          have hsz : (s.extract a e).size ≤ 65536 := (ext_len s a e he2).resolve_right (by omega)
          have hlen : (s.extract a e).data.toList.length ≤ 65536 := by
            have : (s.extract a e).data.toList.length = (s.extract a e).size := by rw [Array.length_toList]; rfl
            omega
          have hcnt := wrd_count (s.extract a e).data.toList []
          have hfil := Lib.hid (Ln.wrd_filled (s.extract a e).data.toList [])
          have hsiz := Lib.hid (Ln.wrd_sizes (s.extract a e).data.toList [])
          have cW := Lib.hid (rwords_walk (s.extract a e) wr (by omega))
          clear hq
          rcases hx with rfl | ⟨he, h10⟩
          · go_wp2_with (fail)
            refine (cW.out).mono ?_
            rintro r2 w2 ⟨⟨v, xs, rfl, hT, hm⟩, hB2⟩
            obtain ⟨ga, gc, rfl, hcap, hT0⟩ := hT.parts
            have M2 := M.below hB2
            have hL2 : Wd.Lies w2 := (hL0.out).below M2.acc
            have hxl : xs.length ≤ 65537 := by have := congrArg List.length hm; rw [List.length_map] at this; omega
            clear cW hT hB2 M
            rcases xs with _ | ⟨x0, xs⟩
            · have hw0 : wrd (s.extract a s.size).data.toList [] = [] := by rw [← hm]; rfl
              have M3 : RMid w w2 s (s.size + 1) N (cnt + 1) p last := ⟨M2.rows, M2.few, M2.acc, M2.z, M2.y, M2.hi, by omega, by omega, by omega, M2.inv, by rw [M2.rd, hlns.out, reads_cons, hw0]; rfl⟩
              clear hm hw0 hlns M2 hT0
              go_wp2_with (fail)
              first
                | exact ⟨⟨p, last, cnt + 1, s.size + 1, N, rfl, by go_num, by go_num, M3⟩, (by first | (simp [intOf]; done) | (simp [intOf]; omega) | omega)⟩
                | (refine ⟨?_, (by first | (simp [intOf]; done) | (simp [intOf]; omega) | omega)⟩; (repeat apply Exists.intro); exact ⟨⟨p, last, cnt + 1, s.size + 1, N, rfl, by go_num, by go_num, M3⟩, rfl⟩)
            · have hws : wrd (s.extract a s.size).data.toList [] = x0.data.toList :: xs.map (·.data.toList) := by rw [← hm]; rfl
              have hx0 : x0.data.toList ≠ [] := hfil.out _ (by rw [hws]; exact List.mem_cons_self ..)
              have hxf : Hid (∀ x ∈ xs, 0 < x.size ∧ x.size ≤ 281474976710656) := Lib.hid fun x hx => by
                have hm2 : x.data.toList ∈ wrd (s.extract a s.size).data.toList [] := by rw [hws]; exact List.mem_cons_of_mem _ (List.mem_map.2 ⟨x, hx, rfl⟩)
                have h1 := hfil.out _ hm2
                have h2 := hsiz.out _ hm2
                have h3 : x.data.toList.length = x.size := by rw [Array.length_toList]; rfl
                have h4 := List.length_pos_iff.2 h1
                simp at h2
                constructor <;> omega
              obtain ⟨g, rfl, hg0, hg1, hgc⟩ := hT0 (List.cons_ne_nil _ _)
              have hstop := Lib.hid (fun (E : Int) (hE : E ≠ 0) (hb : bad last (x0.data.toList :: xs.map (·.data.toList)) = E) => (show (Pg.reads (lns s.data.toList []) Pg.no 0 0).2 = (E, cnt + 1) from by rw [M2.rd, hlns.out, reads_cons, hws, hb, if_pos hE]))
              have hgood := Lib.hid (fun (hb : bad last (x0.data.toList :: xs.map (·.data.toList)) = 0) => (show Pg.reads (lns s.data.toList []) Pg.no 0 0 = Pg.reads (lns (s.data.toList.drop (s.size + 1)) []) (good p.bare last (x0.data.toList :: xs.map (·.data.toList))).1 (good p.bare last (x0.data.toList :: xs.map (·.data.toList))).2 (cnt + 1) from by rw [M2.rd, hlns.out, reads_cons, hws, if_neg (by rw [hb]; decide)]))
              rw [bad_cons] at hstop hgood
              rw [good_cons] at hgood
              have c0 := hgc 0 x0 rfl
              have cK := Lib.hid (rkind_walk x0 w2 hx0)
              have hk10 := kind_le x0.data.toList
              have hten := Lib.hid (fun h => kind_ten hx0 h)
              clear hm hws hlns hfil hsiz hT0 hcnt hx0 hlen hsz
              have zz := M2.z
              unfold noCs at zz
              generalize kind x0.data.toList = kk at *
              generalize opOf x0.data.toList = oo at *
              by_cases hk0 : kk = 0
              · subst hk0
                go_wp2_with (go_at_call 28; ((with_reducible refine (cK.out).mono ?_); rintro r3 w3 ⟨rfl, b3⟩; have zE := zz.below b3; have zc := zE.cell; have zf := zE.fr; have zc0 := zc 0; have zc1 := zc 1; have zc2 := zc 2; have zc3 := zc 3; have accE := M2.acc.trans (b3.mono M2.acc.size); clear zc))
                refine leave_rparse rfl rfl rfl (by nofun) (by nofun) zE (rstop hs (by decide) (hstop.out 50 (by decide) (by simp)) ?_)
                exact ((((accE.setCell (Nat.le_refl _) _).setCell (Nat.le_refl _) _).setCell (Nat.le_refl _) _).setCell (Nat.le_refl _) _)
              · have hkk : 1 ≤ kk ∧ kk ≤ 10 := ⟨by omega, hk10⟩
                have hk0' : ((kk : Int) == 0) = false := by rw [beq_eq_false_iff_ne]; omega
                rw [if_neg hk0] at hstop hgood
                have cM := Lib.hid (fun W => rmay_walk kk last W hkk ht10)
                by_cases hmay : may kk last = false
                · rw [hmay] at cM
                  go_wp2_with (first | (go_at_call 28; ((with_reducible refine (cK.out).mono ?_); rintro r3 w3 ⟨rfl, b3⟩)) | (go_at_call 29; ((with_reducible refine (cM.out _).mono ?_); rintro r4 w4 ⟨rfl, b4⟩; have b34 := b3.trans (b4.mono b3.size); have zE := zz.below b34; have zc := zE.cell; have zf := zE.fr; have zc0 := zc 0; have zc1 := zc 1; have zc2 := zc 2; have zc3 := zc 3; have accE := M2.acc.trans (b34.mono M2.acc.size); clear zc)))
                  refine leave_rparse rfl rfl rfl (by nofun) (by nofun) zE (rstop hs (by decide) (hstop.out 53 (by decide) (by rw [if_pos hmay])) ?_)
                  exact ((((accE.setCell (Nat.le_refl _) _).setCell (Nat.le_refl _) _).setCell (Nat.le_refl _) _).setCell (Nat.le_refl _) _)
                · rw [if_neg hmay] at hstop hgood
                  have hmay' : may kk last = true := by simpa using hmay
                  rw [hmay'] at cM
                  have cF := Lib.hid (fun W => rforms_walk kk oo W hkk (fun h => (hten.out h).1))
                  have hLa := Lib.hid (lets_alet kk oo)
                  obtain ⟨fb, hfb⟩ : ∃ fb : ByteArray, Hid (fb = bt (lets kk oo)) := ⟨_, Lib.hid rfl⟩
                  have hfbl : Hid (lets kk oo = fb.data.toList) := Lib.hid (by rw [hfb.out]; rfl)
                  rw [← hfb.out] at cF
                  rw [hfbl.out] at hstop hgood hLa
                  have hfs : fb.data.toList.length = fb.size := by rw [Array.length_toList]; rfl
                  have hxm : (xs.map (·.data.toList)).length = xs.length := List.length_map ..
                  have hf4 : (fb.size : Int) ≤ 4 := by have := lets_len kk oo; rw [hfbl.out, hfs] at this; omega
                  rw [hfs, hxm] at hstop hgood
                  by_cases hlf : ¬ xs.length = fb.size
                  · have hlf' : ((xs.length : Int) + 1 != (fb.size : Int) + 1) = true := by rw [bne_iff_ne]; omega
                    go_wp2_with (first | (go_at_call 28; ((with_reducible refine (cK.out).mono ?_); rintro r3 w3 ⟨rfl, b3⟩)) | (go_at_call 29; ((with_reducible refine (cM.out _).mono ?_); rintro r4 w4 ⟨rfl, b4⟩; have b34 := b3.trans (b4.mono b3.size))) | (go_at_call 30; ((with_reducible refine (cF.out _).mono ?_); rintro r5 w5 ⟨rfl, b5⟩; have b345 := b34.trans (b5.mono b34.size); have zE := zz.below b345; have zc := zE.cell; have zf := zE.fr; have zc0 := zc 0; have zc1 := zc 1; have zc2 := zc 2; have zc3 := zc 3; have accE := M2.acc.trans (b345.mono M2.acc.size); clear zc)))
                    refine leave_rparse rfl rfl rfl (by nofun) (by nofun) zE (rstop hs (by decide) (hstop.out 52 (by decide) (by rw [if_pos hlf])) ?_)
                    exact ((((accE.setCell (Nat.le_refl _) _).setCell (Nat.le_refl _) _).setCell (Nat.le_refl _) _).setCell (Nat.le_refl _) _)
                  · rw [if_neg hlf] at hstop hgood
                    have hlf2 : xs.length = fb.size := by omega
                    have hlf' : ((xs.length : Int) + 1 != (fb.size : Int) + 1) = false := by rw [bne_eq_false_iff_eq]; omega
                    go_wp2_with (first | (go_at_call 28; ((with_reducible refine (cK.out).mono ?_); rintro r3 w3 ⟨rfl, b3⟩)) | (go_at_call 29; ((with_reducible refine (cM.out _).mono ?_); rintro r4 w4 ⟨rfl, b4⟩; have b34 := b3.trans (b4.mono b3.size))) | (go_at_call 30; ((with_reducible refine (cF.out _).mono ?_); rintro r5 w5 ⟨rfl, b5⟩; have b345 := b34.trans (b5.mono b34.size); have zE := zz.below b345; have zc := zE.cell; have zf := zE.fr; have zc0 := zc 0; have zc1 := zc 1; have zc2 := zc 2; have zc3 := zc 3; have accE := M2.acc.trans (b345.mono M2.acc.size); clear zc)))
                    have M5 := M2.below b345
                    have hL5 : Wd.Lies w5 := (hL0.out).below M5.acc
                    have V0 := VM.start fb.data.toList (xs.map (·.data.toList)) w5
                    have hg5 : g < w5.heap.size := Nat.lt_of_lt_of_le hg1 b345.size
                    have hgc5 := Lib.hid (fun k (x : ByteArray) (hx : (x0 :: xs)[k]? = some x) => (b345.cell (p := ⟨g, k, none⟩) (by simpa using hg1)).trans (hgc k x hx))
                    have acc5 := M5.acc
                    have zz5 := M5.z
                    unfold noCs at zz5
                    clear hgc c0 cK cM cF zz M2 hL2 b3 b4 b5 b34 b345 zE zc0 zc1 zc2 zc3 zf accE hlf' hlf hmay hfb hk0' hxl hk0
                    go_loopw [14, 15] (fun xv iv wq => ∃ (k : Nat) (vs : List Int) (xa : Option Addr) (cp : Nat), xv = .slice xa k cp ∧ iv = .int .i64 k ∧ k ≤ fb.size ∧ VM fb.data.toList (xs.map (·.data.toList)) k vs xa cp w5 wq) (fun _ iv _ => fb.size - (intOf iv).toNat)
                    case atStart => exact ⟨0, [], none, 0, rfl, rfl, by omega, V0⟩
                    case round =>
                      clear V0
                      skip
                      obtain ⟨k, vs, xa, cp, rfl, rfl, hk, V⟩ := hrel
                      obtain rfl := V.len
                      have hcp : vs.length ≤ cp := Wd.owns_cap (V.rows.own _ (List.mem_cons_self ..))
                      by_cases hkf : vs.length < fb.size
                      · have hd := drop_at fb vs.length hkf
                        have hx8 := UInt8.toNat_lt fb[vs.length]
                        have hkx : vs.length < xs.length := by omega
                        have hw : (xs.map (·.data.toList)).drop vs.length = xs[vs.length].data.toList :: (xs.map (·.data.toList)).drop (vs.length + 1) := by rw [List.drop_eq_getElem_cons (by rw [hxm]; exact hkx), List.getElem_map]
                        have hmx := List.getElem_mem hkx
                        have hxf2 := hxf.out _ hmx
                        have hcx := hgc5.out (vs.length + 1) xs[vs.length] (by rw [List.getElem?_cons_succ, List.getElem?_eq_getElem hkx])
                        have hcx2 := (V.acc.cell (p := ⟨g, vs.length + 1, none⟩) (by simpa using hg5)).trans hcx
                        have hlet := hLa.out fb[vs.length] (List.mem_of_mem_drop (i := vs.length) (by rw [hd]; exact List.mem_cons_self ..))
                        have cV := Lib.hid (fun W hW => rvalue_walk fb[vs.length] hlet xs[vs.length] W hW hxf2.1 hxf2.2)
                        have hbad := Lib.hid (V.bad hd hw)
                        have hnext := Lib.hid (fun g cap' W3 n => V.next (g := g) (cap' := cap') (W3 := W3) (n := n) hd hw)
                        have hv64 : I64 (val fb[vs.length] xs[vs.length].data.toList).1 := val_64 _ _
                        skip
                        clear hd hw hmx hcx hlet hxf2
                        generalize val fb[vs.length] xs[vs.length].data.toList = y at *
                        generalize xs[vs.length] = x at *
                        obtain ⟨nv, er⟩ := y
                        have hLq : Wd.Lies wr := hL5.below V.acc
                        clear hgc5 hgood hten hLa hxf
                        have dr : Below wr.heap.size wr wr.drew := Below.drew (Below.refl _ _)
                        have KS := Lib.hid (fun W' (hb : Below wr.heap.size wr W') => (hb.cell (p := ⟨g, vs.length + 1, none⟩) (by have := V.acc.size; show g < wr.heap.size; omega)).trans hcx2)
                        have hi0 : (0 : Int) ≤ (vs.length : Int) + 1 := by omega
                        have hi1 : (vs.length : Int) + 1 < (xs.length : Int) + 1 := by omega
                        have hi2 : (vs.length : Int) < (fb.size : Int) := by omega
                        have hi3 : (vs.length : Int) + 1 ≤ 4 := by omega
                        have hi4 : IntKind.i64.wrap ((vs.length : Int) + 1) = (vs.length : Int) + 1 := Wd.wrap_i64 _ (by omega) (by omega)
                        by_cases her : er = 0
                        · subst her
                          go_wp2_with (fail)
                          go_region_held3 (fun W' => W'.cell? ⟨g, vs.length + 1, none⟩ = some (.string x)) (first | assumption | exact KS.out _ (Below.refl _ _) | exact KS.out _ dr | exact KS.out _ (dr.trans b6)) ((go_at_call 31; ((with_reducible refine (cV.out _ (hLq.below dr)).mono ?_); rintro r6 w6 ⟨rfl, b6⟩)))
                          have b66 := dr.trans b6
                          have V6 := V.rows.below b66
                          go_wp2_with (at_builtin; refine wpList_app V6 (Nat.le_trans V.acc.size b66.size) rfl _ _ _ rfl [.int .i64 nv] 2 rfl (.int .i64 0) 8 Tryz.underlying76 info_i64 rfl (Nat.succ_pos _) rfl rfl rfl (by simp [Value.oneCell']) (by show (vs.length + 1) * 8 ≤ _; omega) (by show vs.length + 1 ≤ _; omega) ?_; intro g2 cap2 W7 k1 k2 k3 k4 k5)
                          have V7 := hnext.out g2 cap2 W7 nv rfl hv64 ((V.acc.trans (b66.mono V.acc.size)).trans (V6.grow (Nat.le_trans V.acc.size b66.size) (List.mem_cons_self ..) k2)) k1
                          exact ⟨⟨vs.length + 1, vs ++ [nv], some ⟨g2, 0, none⟩, cap2, by go_num, by go_num, by omega, V7⟩, (by first | (simp [intOf]; done) | (simp [intOf]; omega) | omega)⟩
                        · have her' : (er != 0) = true := by rw [bne_iff_ne]; exact her
                          have hb2 := hbad.out her
                          go_wp2_with (fail)
                          go_region_held3 (fun W' => W'.cell? ⟨g, vs.length + 1, none⟩ = some (.string x)) (first | assumption | exact KS.out _ (Below.refl _ _) | exact KS.out _ dr | exact KS.out _ (dr.trans b6)) ((go_at_call 31; ((with_reducible refine (cV.out _ (hLq.below dr)).mono ?_); rintro r6 w6 ⟨rfl, b6⟩)))
                          have b56 := V.acc.trans ((dr.trans b6).mono V.acc.size); have zE := zz5.below b56; have zc := zE.cell; have zf := zE.fr; have zc0 := zc 0; have zc1 := zc 1; have zc2 := zc 2; have zc3 := zc 3; have accE := acc5.trans (b56.mono acc5.size); clear zc
                          go_wp2_with (fail)
                          refine leave_rparse rfl rfl rfl (by nofun) (by nofun) zE (rstop hs her (hstop.out er her hb2) ?_)
                          exact ((((accE.setCell (Nat.le_refl _) _).setCell (Nat.le_refl _) _).setCell (Nat.le_refl _) _).setCell (Nat.le_refl _) _)
                      · have hvs : vs.length = fb.size := by omega
                        have hdn : fb.data.toList.drop vs.length = [] := List.drop_eq_nil_of_le (by omega)
                        have hv0 : (vals fb.data.toList (xs.map (·.data.toList))).2 = 0 := by rw [V.err, hdn]; rfl
                        have hv1 : (vals fb.data.toList (xs.map (·.data.toList))).1 = vs := by rw [V.out hv0, hdn]; exact List.append_nil _
                        have hgd := hgood.out hv0
                        rw [hv1] at hgd
                        have M6 := M5.below V.acc
                        have hX : Xs xa vs wr := ⟨fun hne => by
                            have hown := V.rows.own _ (List.mem_cons_self ..)
                            obtain ⟨g3, c3, e3, h3, h4⟩ := World.ownsRow.form hown (List.length_pos_iff.2 hne)
                            simp only [Value.slice.injEq] at e3
                            refine ⟨g3, e3.1, h4, fun j v hj => ?_⟩
                            have h5 := World.ownsRow.cells hown (g := g3) (by simp [e3.1, Value.ownBlock]) j (.int .i64 v) (by simp [hj])
                            rwa [Addr.add_lit, Nat.zero_add] at h5, V.i64⟩
                        have hoff : ∀ b, xa = some ⟨b, 0, none⟩ → Off b p.rows := fun b hb x hx ex => by
                          have h1 := (M5.rows.blk_ge hx ex).2
                          have h2 := (V.rows.blk_ge (List.mem_cons_self ..) (k := b) (by rw [hb]; rfl)).1
                          omega
                        have hll : vs.length = (lets kk oo).length := by rw [hfbl.out, hfs]; exact hvs
                        have cT := rtaken_walk (w.heap.size + 2) N cp p kk last oo xa vs wr M6.rows M6.few M6.hi hX hcp (by omega) M6.inv hmay' hkk hten.out hll hoff
                        unfold Pg.v at cT
                        rw [hvs] at cT
                        replace cT := Lib.hid cT
                        have hinv := M6.inv.to_bare.taken (op := oo) (xs := vs) hkk.2 hmay'
                        have y6 := M6.y.cell
                        have y60 := y6 0
                        have y61 := y6 1
                        have y62 := y6 2
                        have y63 := y6 3
                        have hv8 : (fb.size : Int) ≤ (vs.length : Int) := by omega
                        clear y6 hX hoff hll hv0 hv1 hdn hgood hten hstop hgc5 hxf hLa zz5 hg5 acc5
                        go_wp2_with (go_at_call 32; ((with_reducible refine (cT.out).mono ?_); rintro r7 w7 ⟨q, hr7, hq, hR, hF, hB⟩; unfold Pg.v at hr7; subst hr7; have y7 := M6.y.lowly hB (by omega); have yc := y7.cell; have yf := y7.fr; have yc0 := yc 0; have yc1 := yc 1; have yc2 := yc 2; have yc3 := yc 3; clear yc))
                        have M8 := M6.taken (cnt' := cnt + 1) (a' := s.size + 1) (last' := kk) hB hR hF (by omega) (by omega) (by omega) (by rw [← hq] at hinv; exact hinv.of_bare) (by rw [hgd, hq])
                        first
                          | exact ⟨⟨q, kk, cnt + 1, s.size + 1, N + 1, rfl, by go_num, by go_num, M8⟩, (by first | (simp [intOf]; done) | (simp [intOf]; omega) | omega)⟩
                          | (refine ⟨?_, (by first | (simp [intOf]; done) | (simp [intOf]; omega) | omega)⟩; (repeat apply Exists.intro); exact ⟨⟨q, kk, cnt + 1, s.size + 1, N + 1, rfl, by go_num, by go_num, M8⟩, rfl⟩)
          · have t10 : ((s[e].toNat : Int) != 10) = false := by rw [h10]; rfl
            go_wp2_with (fail)
            refine (cW.out).mono ?_
            rintro r2 w2 ⟨⟨v, xs, rfl, hT, hm⟩, hB2⟩
            obtain ⟨ga, gc, rfl, hcap, hT0⟩ := hT.parts
            have M2 := M.below hB2
            have hL2 : Wd.Lies w2 := (hL0.out).below M2.acc
            have hxl : xs.length ≤ 65537 := by have := congrArg List.length hm; rw [List.length_map] at this; omega
            clear cW hT hB2 M
            rcases xs with _ | ⟨x0, xs⟩
            · have hw0 : wrd (s.extract a e).data.toList [] = [] := by rw [← hm]; rfl
              have M3 : RMid w w2 s (e + 1) N (cnt + 1) p last := ⟨M2.rows, M2.few, M2.acc, M2.z, M2.y, M2.hi, by omega, by omega, by omega, M2.inv, by rw [M2.rd, hlns.out, reads_cons, hw0]; rfl⟩
              clear hm hw0 hlns M2 hT0
              go_wp2_with (fail)
              first
                | exact ⟨⟨p, last, cnt + 1, e + 1, N, rfl, by go_num, by go_num, M3⟩, (by first | (simp [intOf]; done) | (simp [intOf]; omega) | omega)⟩
                | (refine ⟨?_, (by first | (simp [intOf]; done) | (simp [intOf]; omega) | omega)⟩; (repeat apply Exists.intro); exact ⟨⟨p, last, cnt + 1, e + 1, N, rfl, by go_num, by go_num, M3⟩, rfl⟩)
            · have hws : wrd (s.extract a e).data.toList [] = x0.data.toList :: xs.map (·.data.toList) := by rw [← hm]; rfl
              have hx0 : x0.data.toList ≠ [] := hfil.out _ (by rw [hws]; exact List.mem_cons_self ..)
              have hxf : Hid (∀ x ∈ xs, 0 < x.size ∧ x.size ≤ 281474976710656) := Lib.hid fun x hx => by
                have hm2 : x.data.toList ∈ wrd (s.extract a e).data.toList [] := by rw [hws]; exact List.mem_cons_of_mem _ (List.mem_map.2 ⟨x, hx, rfl⟩)
                have h1 := hfil.out _ hm2
                have h2 := hsiz.out _ hm2
                have h3 : x.data.toList.length = x.size := by rw [Array.length_toList]; rfl
                have h4 := List.length_pos_iff.2 h1
                simp at h2
                constructor <;> omega
              obtain ⟨g, rfl, hg0, hg1, hgc⟩ := hT0 (List.cons_ne_nil _ _)
              have hstop := Lib.hid (fun (E : Int) (hE : E ≠ 0) (hb : bad last (x0.data.toList :: xs.map (·.data.toList)) = E) => (show (Pg.reads (lns s.data.toList []) Pg.no 0 0).2 = (E, cnt + 1) from by rw [M2.rd, hlns.out, reads_cons, hws, hb, if_pos hE]))
              have hgood := Lib.hid (fun (hb : bad last (x0.data.toList :: xs.map (·.data.toList)) = 0) => (show Pg.reads (lns s.data.toList []) Pg.no 0 0 = Pg.reads (lns (s.data.toList.drop (e + 1)) []) (good p.bare last (x0.data.toList :: xs.map (·.data.toList))).1 (good p.bare last (x0.data.toList :: xs.map (·.data.toList))).2 (cnt + 1) from by rw [M2.rd, hlns.out, reads_cons, hws, if_neg (by rw [hb]; decide)]))
              rw [bad_cons] at hstop hgood
              rw [good_cons] at hgood
              have c0 := hgc 0 x0 rfl
              have cK := Lib.hid (rkind_walk x0 w2 hx0)
              have hk10 := kind_le x0.data.toList
              have hten := Lib.hid (fun h => kind_ten hx0 h)
              clear hm hws hlns hfil hsiz hT0 hcnt hx0 hlen hsz
              have zz := M2.z
              unfold noCs at zz
              generalize kind x0.data.toList = kk at *
              generalize opOf x0.data.toList = oo at *
              by_cases hk0 : kk = 0
              · subst hk0
                go_wp2_with (go_at_call 28; ((with_reducible refine (cK.out).mono ?_); rintro r3 w3 ⟨rfl, b3⟩; have zE := zz.below b3; have zc := zE.cell; have zf := zE.fr; have zc0 := zc 0; have zc1 := zc 1; have zc2 := zc 2; have zc3 := zc 3; have accE := M2.acc.trans (b3.mono M2.acc.size); clear zc))
                refine leave_rparse rfl rfl rfl (by nofun) (by nofun) zE (rstop hs (by decide) (hstop.out 50 (by decide) (by simp)) ?_)
                exact ((((accE.setCell (Nat.le_refl _) _).setCell (Nat.le_refl _) _).setCell (Nat.le_refl _) _).setCell (Nat.le_refl _) _)
              · have hkk : 1 ≤ kk ∧ kk ≤ 10 := ⟨by omega, hk10⟩
                have hk0' : ((kk : Int) == 0) = false := by rw [beq_eq_false_iff_ne]; omega
                rw [if_neg hk0] at hstop hgood
                have cM := Lib.hid (fun W => rmay_walk kk last W hkk ht10)
                by_cases hmay : may kk last = false
                · rw [hmay] at cM
                  go_wp2_with (first | (go_at_call 28; ((with_reducible refine (cK.out).mono ?_); rintro r3 w3 ⟨rfl, b3⟩)) | (go_at_call 29; ((with_reducible refine (cM.out _).mono ?_); rintro r4 w4 ⟨rfl, b4⟩; have b34 := b3.trans (b4.mono b3.size); have zE := zz.below b34; have zc := zE.cell; have zf := zE.fr; have zc0 := zc 0; have zc1 := zc 1; have zc2 := zc 2; have zc3 := zc 3; have accE := M2.acc.trans (b34.mono M2.acc.size); clear zc)))
                  refine leave_rparse rfl rfl rfl (by nofun) (by nofun) zE (rstop hs (by decide) (hstop.out 53 (by decide) (by rw [if_pos hmay])) ?_)
                  exact ((((accE.setCell (Nat.le_refl _) _).setCell (Nat.le_refl _) _).setCell (Nat.le_refl _) _).setCell (Nat.le_refl _) _)
                · rw [if_neg hmay] at hstop hgood
                  have hmay' : may kk last = true := by simpa using hmay
                  rw [hmay'] at cM
                  have cF := Lib.hid (fun W => rforms_walk kk oo W hkk (fun h => (hten.out h).1))
                  have hLa := Lib.hid (lets_alet kk oo)
                  obtain ⟨fb, hfb⟩ : ∃ fb : ByteArray, Hid (fb = bt (lets kk oo)) := ⟨_, Lib.hid rfl⟩
                  have hfbl : Hid (lets kk oo = fb.data.toList) := Lib.hid (by rw [hfb.out]; rfl)
                  rw [← hfb.out] at cF
                  rw [hfbl.out] at hstop hgood hLa
                  have hfs : fb.data.toList.length = fb.size := by rw [Array.length_toList]; rfl
                  have hxm : (xs.map (·.data.toList)).length = xs.length := List.length_map ..
                  have hf4 : (fb.size : Int) ≤ 4 := by have := lets_len kk oo; rw [hfbl.out, hfs] at this; omega
                  rw [hfs, hxm] at hstop hgood
                  by_cases hlf : ¬ xs.length = fb.size
                  · have hlf' : ((xs.length : Int) + 1 != (fb.size : Int) + 1) = true := by rw [bne_iff_ne]; omega
                    go_wp2_with (first | (go_at_call 28; ((with_reducible refine (cK.out).mono ?_); rintro r3 w3 ⟨rfl, b3⟩)) | (go_at_call 29; ((with_reducible refine (cM.out _).mono ?_); rintro r4 w4 ⟨rfl, b4⟩; have b34 := b3.trans (b4.mono b3.size))) | (go_at_call 30; ((with_reducible refine (cF.out _).mono ?_); rintro r5 w5 ⟨rfl, b5⟩; have b345 := b34.trans (b5.mono b34.size); have zE := zz.below b345; have zc := zE.cell; have zf := zE.fr; have zc0 := zc 0; have zc1 := zc 1; have zc2 := zc 2; have zc3 := zc 3; have accE := M2.acc.trans (b345.mono M2.acc.size); clear zc)))
                    refine leave_rparse rfl rfl rfl (by nofun) (by nofun) zE (rstop hs (by decide) (hstop.out 52 (by decide) (by rw [if_pos hlf])) ?_)
                    exact ((((accE.setCell (Nat.le_refl _) _).setCell (Nat.le_refl _) _).setCell (Nat.le_refl _) _).setCell (Nat.le_refl _) _)
                  · rw [if_neg hlf] at hstop hgood
                    have hlf2 : xs.length = fb.size := by omega
                    have hlf' : ((xs.length : Int) + 1 != (fb.size : Int) + 1) = false := by rw [bne_eq_false_iff_eq]; omega
                    go_wp2_with (first | (go_at_call 28; ((with_reducible refine (cK.out).mono ?_); rintro r3 w3 ⟨rfl, b3⟩)) | (go_at_call 29; ((with_reducible refine (cM.out _).mono ?_); rintro r4 w4 ⟨rfl, b4⟩; have b34 := b3.trans (b4.mono b3.size))) | (go_at_call 30; ((with_reducible refine (cF.out _).mono ?_); rintro r5 w5 ⟨rfl, b5⟩; have b345 := b34.trans (b5.mono b34.size); have zE := zz.below b345; have zc := zE.cell; have zf := zE.fr; have zc0 := zc 0; have zc1 := zc 1; have zc2 := zc 2; have zc3 := zc 3; have accE := M2.acc.trans (b345.mono M2.acc.size); clear zc)))
                    have M5 := M2.below b345
                    have hL5 : Wd.Lies w5 := (hL0.out).below M5.acc
                    have V0 := VM.start fb.data.toList (xs.map (·.data.toList)) w5
                    have hg5 : g < w5.heap.size := Nat.lt_of_lt_of_le hg1 b345.size
                    have hgc5 := Lib.hid (fun k (x : ByteArray) (hx : (x0 :: xs)[k]? = some x) => (b345.cell (p := ⟨g, k, none⟩) (by simpa using hg1)).trans (hgc k x hx))
                    have acc5 := M5.acc
                    have zz5 := M5.z
                    unfold noCs at zz5
                    clear hgc c0 cK cM cF zz M2 hL2 b3 b4 b5 b34 b345 zE zc0 zc1 zc2 zc3 zf accE hlf' hlf hmay hfb hk0' hxl hk0
                    go_loopw [14, 15] (fun xv iv wq => ∃ (k : Nat) (vs : List Int) (xa : Option Addr) (cp : Nat), xv = .slice xa k cp ∧ iv = .int .i64 k ∧ k ≤ fb.size ∧ VM fb.data.toList (xs.map (·.data.toList)) k vs xa cp w5 wq) (fun _ iv _ => fb.size - (intOf iv).toNat)
                    case atStart => exact ⟨0, [], none, 0, rfl, rfl, by omega, V0⟩
                    case round =>
                      clear V0
                      skip
                      obtain ⟨k, vs, xa, cp, rfl, rfl, hk, V⟩ := hrel
                      obtain rfl := V.len
                      have hcp : vs.length ≤ cp := Wd.owns_cap (V.rows.own _ (List.mem_cons_self ..))
                      by_cases hkf : vs.length < fb.size
                      · have hd := drop_at fb vs.length hkf
                        have hx8 := UInt8.toNat_lt fb[vs.length]
                        have hkx : vs.length < xs.length := by omega
                        have hw : (xs.map (·.data.toList)).drop vs.length = xs[vs.length].data.toList :: (xs.map (·.data.toList)).drop (vs.length + 1) := by rw [List.drop_eq_getElem_cons (by rw [hxm]; exact hkx), List.getElem_map]
                        have hmx := List.getElem_mem hkx
                        have hxf2 := hxf.out _ hmx
                        have hcx := hgc5.out (vs.length + 1) xs[vs.length] (by rw [List.getElem?_cons_succ, List.getElem?_eq_getElem hkx])
                        have hcx2 := (V.acc.cell (p := ⟨g, vs.length + 1, none⟩) (by simpa using hg5)).trans hcx
                        have hlet := hLa.out fb[vs.length] (List.mem_of_mem_drop (i := vs.length) (by rw [hd]; exact List.mem_cons_self ..))
                        have cV := Lib.hid (fun W hW => rvalue_walk fb[vs.length] hlet xs[vs.length] W hW hxf2.1 hxf2.2)
                        have hbad := Lib.hid (V.bad hd hw)
                        have hnext := Lib.hid (fun g cap' W3 n => V.next (g := g) (cap' := cap') (W3 := W3) (n := n) hd hw)
                        have hv64 : I64 (val fb[vs.length] xs[vs.length].data.toList).1 := val_64 _ _
                        skip
                        clear hd hw hmx hcx hlet hxf2
                        generalize val fb[vs.length] xs[vs.length].data.toList = y at *
                        generalize xs[vs.length] = x at *
                        obtain ⟨nv, er⟩ := y
                        have hLq : Wd.Lies wr := hL5.below V.acc
                        clear hgc5 hgood hten hLa hxf
                        have dr : Below wr.heap.size wr wr.drew := Below.drew (Below.refl _ _)
                        have KS := Lib.hid (fun W' (hb : Below wr.heap.size wr W') => (hb.cell (p := ⟨g, vs.length + 1, none⟩) (by have := V.acc.size; show g < wr.heap.size; omega)).trans hcx2)
                        have hi0 : (0 : Int) ≤ (vs.length : Int) + 1 := by omega
                        have hi1 : (vs.length : Int) + 1 < (xs.length : Int) + 1 := by omega
                        have hi2 : (vs.length : Int) < (fb.size : Int) := by omega
                        have hi3 : (vs.length : Int) + 1 ≤ 4 := by omega
                        have hi4 : IntKind.i64.wrap ((vs.length : Int) + 1) = (vs.length : Int) + 1 := Wd.wrap_i64 _ (by omega) (by omega)
                        by_cases her : er = 0
                        · subst her
                          go_wp2_with (fail)
                          go_region_held3 (fun W' => W'.cell? ⟨g, vs.length + 1, none⟩ = some (.string x)) (first | assumption | exact KS.out _ (Below.refl _ _) | exact KS.out _ dr | exact KS.out _ (dr.trans b6)) ((go_at_call 31; ((with_reducible refine (cV.out _ (hLq.below dr)).mono ?_); rintro r6 w6 ⟨rfl, b6⟩)))
                          have b66 := dr.trans b6
                          have V6 := V.rows.below b66
                          go_wp2_with (at_builtin; refine wpList_app V6 (Nat.le_trans V.acc.size b66.size) rfl _ _ _ rfl [.int .i64 nv] 2 rfl (.int .i64 0) 8 Tryz.underlying76 info_i64 rfl (Nat.succ_pos _) rfl rfl rfl (by simp [Value.oneCell']) (by show (vs.length + 1) * 8 ≤ _; omega) (by show vs.length + 1 ≤ _; omega) ?_; intro g2 cap2 W7 k1 k2 k3 k4 k5)
                          have V7 := hnext.out g2 cap2 W7 nv rfl hv64 ((V.acc.trans (b66.mono V.acc.size)).trans (V6.grow (Nat.le_trans V.acc.size b66.size) (List.mem_cons_self ..) k2)) k1
                          exact ⟨⟨vs.length + 1, vs ++ [nv], some ⟨g2, 0, none⟩, cap2, by go_num, by go_num, by omega, V7⟩, (by first | (simp [intOf]; done) | (simp [intOf]; omega) | omega)⟩
                        · have her' : (er != 0) = true := by rw [bne_iff_ne]; exact her
                          have hb2 := hbad.out her
                          go_wp2_with (fail)
                          go_region_held3 (fun W' => W'.cell? ⟨g, vs.length + 1, none⟩ = some (.string x)) (first | assumption | exact KS.out _ (Below.refl _ _) | exact KS.out _ dr | exact KS.out _ (dr.trans b6)) ((go_at_call 31; ((with_reducible refine (cV.out _ (hLq.below dr)).mono ?_); rintro r6 w6 ⟨rfl, b6⟩)))
                          have b56 := V.acc.trans ((dr.trans b6).mono V.acc.size); have zE := zz5.below b56; have zc := zE.cell; have zf := zE.fr; have zc0 := zc 0; have zc1 := zc 1; have zc2 := zc 2; have zc3 := zc 3; have accE := acc5.trans (b56.mono acc5.size); clear zc
                          go_wp2_with (fail)
                          refine leave_rparse rfl rfl rfl (by nofun) (by nofun) zE (rstop hs her (hstop.out er her hb2) ?_)
                          exact ((((accE.setCell (Nat.le_refl _) _).setCell (Nat.le_refl _) _).setCell (Nat.le_refl _) _).setCell (Nat.le_refl _) _)
                      · have hvs : vs.length = fb.size := by omega
                        have hdn : fb.data.toList.drop vs.length = [] := List.drop_eq_nil_of_le (by omega)
                        have hv0 : (vals fb.data.toList (xs.map (·.data.toList))).2 = 0 := by rw [V.err, hdn]; rfl
                        have hv1 : (vals fb.data.toList (xs.map (·.data.toList))).1 = vs := by rw [V.out hv0, hdn]; exact List.append_nil _
                        have hgd := hgood.out hv0
                        rw [hv1] at hgd
                        have M6 := M5.below V.acc
                        have hX : Xs xa vs wr := ⟨fun hne => by
                            have hown := V.rows.own _ (List.mem_cons_self ..)
                            obtain ⟨g3, c3, e3, h3, h4⟩ := World.ownsRow.form hown (List.length_pos_iff.2 hne)
                            simp only [Value.slice.injEq] at e3
                            refine ⟨g3, e3.1, h4, fun j v hj => ?_⟩
                            have h5 := World.ownsRow.cells hown (g := g3) (by simp [e3.1, Value.ownBlock]) j (.int .i64 v) (by simp [hj])
                            rwa [Addr.add_lit, Nat.zero_add] at h5, V.i64⟩
                        have hoff : ∀ b, xa = some ⟨b, 0, none⟩ → Off b p.rows := fun b hb x hx ex => by
                          have h1 := (M5.rows.blk_ge hx ex).2
                          have h2 := (V.rows.blk_ge (List.mem_cons_self ..) (k := b) (by rw [hb]; rfl)).1
                          omega
                        have hll : vs.length = (lets kk oo).length := by rw [hfbl.out, hfs]; exact hvs
                        have cT := rtaken_walk (w.heap.size + 2) N cp p kk last oo xa vs wr M6.rows M6.few M6.hi hX hcp (by omega) M6.inv hmay' hkk hten.out hll hoff
                        unfold Pg.v at cT
                        rw [hvs] at cT
                        replace cT := Lib.hid cT
                        have hinv := M6.inv.to_bare.taken (op := oo) (xs := vs) hkk.2 hmay'
                        have y6 := M6.y.cell
                        have y60 := y6 0
                        have y61 := y6 1
                        have y62 := y6 2
                        have y63 := y6 3
                        have hv8 : (fb.size : Int) ≤ (vs.length : Int) := by omega
                        clear y6 hX hoff hll hv0 hv1 hdn hgood hten hstop hgc5 hxf hLa zz5 hg5 acc5
                        go_wp2_with (go_at_call 32; ((with_reducible refine (cT.out).mono ?_); rintro r7 w7 ⟨q, hr7, hq, hR, hF, hB⟩; unfold Pg.v at hr7; subst hr7; have y7 := M6.y.lowly hB (by omega); have yc := y7.cell; have yf := y7.fr; have yc0 := yc 0; have yc1 := yc 1; have yc2 := yc 2; have yc3 := yc 3; clear yc))
                        have M8 := M6.taken (cnt' := cnt + 1) (a' := e + 1) (last' := kk) hB hR hF (by omega) (by omega) (by omega) (by rw [← hq] at hinv; exact hinv.of_bare) (by rw [hgd, hq])
                        first
                          | exact ⟨⟨q, kk, cnt + 1, e + 1, N + 1, rfl, by go_num, by go_num, M8⟩, (by first | (simp [intOf]; done) | (simp [intOf]; omega) | omega)⟩
                          | (refine ⟨?_, (by first | (simp [intOf]; done) | (simp [intOf]; omega) | omega)⟩; (repeat apply Exists.intro); exact ⟨⟨q, kk, cnt + 1, e + 1, N + 1, rfl, by go_num, by go_num, M8⟩, rfl⟩)
    · have haa : s.size ≤ a := by omega
      have hai : (s.size : Int) ≤ (a : Int) := by omega
      have hrd := M.rd
      rw [List.drop_eq_nil_of_le (by rw [Array.length_toList]; exact haa)] at hrd
      have hpr := prs_of hs hrd
      have zE := M.z
      unfold noCs at zE
      have accE := M.acc
      by_cases hl : last = 0
      · rw [if_pos hl] at hpr
        subst hl
        have zc := zE.cell; have zf := zE.fr; have zc0 := zc 0; have zc1 := zc 1; have zc2 := zc 2; have zc3 := zc 3; clear zc
        go_wp2_with (fail)
        refine leave_rparse rfl rfl rfl (by nofun) (by nofun) zE ⟨Pg.no, by rw [hpr]; rfl, (by rw [hpr] <;> rfl), no_in _, ?_⟩
        exact ((((accE.setCell (Nat.le_refl _) _).setCell (Nat.le_refl _) _).setCell (Nat.le_refl _) _).setCell (Nat.le_refl _) _)
      · rw [if_neg hl] at hpr
        have hl' : ((last : Int) == 0) = false := by rw [beq_eq_false_iff_ne]; omega
        have hin := rows_in M.rows M.few (by omega)
        have cC := rcheck_walk p wr hin
        unfold Pg.v at cC
        replace cC := Lib.hid cC
        have y6 := M.y.cell
        have y60 := y6 0
        have y61 := y6 1
        have y62 := y6 2
        have y63 := y6 3
        have hi2 := M.hi
        by_cases hc : chk p = 0
        · rw [if_neg (by simpa using hc)] at hpr
          rw [hc] at cC
          clear y6
          go_wp2_with (go_at_call 33; ((with_reducible refine (cC.out).mono ?_); rintro r3 w3 ⟨⟨v3, rfl, av, bv, rfl⟩, b3⟩; have zE3 := fun O => (zE.below b3).alloc O; have zf := fun O => (zE3 O).fr; have zc0 := fun O => (zE3 O).cell 0; have zc1 := fun O => (zE3 O).cell 1; have zc2 := fun O => (zE3 O).cell 2; have zc3 := fun O => (zE3 O).cell 3; have ye := fun O => (M.y.below b3).alloc O; have ye0 := fun O => (ye O).cell 0; have ye1 := fun O => (ye O).cell 1; have ye2 := fun O => (ye O).cell 2; have ye3 := fun O => (ye O).cell 3))
          have R3 := fun O => (M.rows.below b3).below ((Below.refl _ _).alloc (Nat.le_refl _) O)
          have off : Off w.heap.size p.rows := fun x hx e => by have := (M.rows.blk_ge hx e).1; omega
          have acc3 := fun O => (accE.trans (b3.mono accE.size)).alloc (Nat.le_trans accE.size b3.size) O
          refine leave_rparse rfl rfl rfl (by nofun) (by nofun) (zE3 _) ⟨p, by rw [hpr]; rfl, (by rw [hpr] <;> rfl), rows_in (((((R3 _).setOff off 0 _).setOff off 1 _).setOff off 2 _).setOff off 3 _) M.few (by omega), ?_⟩
          exact (((((acc3 _).setCell (Nat.le_refl _) _).setCell (Nat.le_refl _) _).setCell (Nat.le_refl _) _).setCell (Nat.le_refl _) _)
        · rw [if_pos hc] at hpr
          have hc' : (chk p != 0) = true := by rw [bne_iff_ne]; exact hc
          generalize chk p = ck at *
          clear y6
          go_wp2_with (go_at_call 33; ((with_reducible refine (cC.out).mono ?_); rintro r3 w3 ⟨⟨v3, rfl, av, bv, rfl⟩, b3⟩; have zE3 := fun O => (zE.below b3).alloc O; have zf := fun O => (zE3 O).fr; have zc0 := fun O => (zE3 O).cell 0; have zc1 := fun O => (zE3 O).cell 1; have zc2 := fun O => (zE3 O).cell 2; have zc3 := fun O => (zE3 O).cell 3; have ye := fun O => (M.y.below b3).alloc O; have ye0 := fun O => (ye O).cell 0; have ye1 := fun O => (ye O).cell 1; have ye2 := fun O => (ye O).cell 2; have ye3 := fun O => (ye O).cell 3))
          have acc3 := fun O => (accE.trans (b3.mono accE.size)).alloc (Nat.le_trans accE.size b3.size) O
          refine leave_rparse rfl rfl rfl (by nofun) (by nofun) (zE3 _) ⟨Pg.no, by rw [hpr]; rfl, (by rw [hpr] <;> rfl), no_in _, ?_⟩
          exact (((((acc3 _).setCell (Nat.le_refl _) _).setCell (Nat.le_refl _) _).setCell (Nat.le_refl _) _).setCell (Nat.le_refl _) _)
end Go.Proofs.YtlhhmlfcodmebaaGreatDoor.Pg
