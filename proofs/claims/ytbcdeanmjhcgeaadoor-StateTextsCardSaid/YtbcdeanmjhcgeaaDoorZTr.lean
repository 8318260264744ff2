/- A state's text, the reference's, walked. The condition: what FormatInt and Itoa give. -/
import Derived.Test.YtbcdeanmjhcgeaaDoorZTr0
import Derived.Deep.RegionHeld3
namespace Go.Proofs.YtbcdeanmjhcgeaaDoor.Tx
set_option linter.unusedVariables false
set_option linter.unusedSimpArgs false
open Go.RowKit Go.WideShapes Go.ChangeShapes
open Go.Lib (itoa)
open Go.Proofs.YtbcdeanmjhcgeaaDoor.Pg
set_option linter.unusedVariables false
set_option linter.unusedSimpArgs false
set_option maxHeartbeats 8000000 in
set_option maxRecDepth 100000 in
theorem rtext_walk (s : St) (hs : s.ok) (w : World) (hT : Told w) :
    Calls Tryd.prog 14 #[s.v] w fun e w' => e = .returned (.string (bs (txt (nums s)))) ∧ Below w.heap.size w w' := by
  have cW := Lib.hid (fun n hn W (hb : Below w.heap.size w W) => wide_walk n hn W (hT.below hb))
  have cN := Lib.hid (fun n hn W (hb : Below w.heap.size w W) => num_walk n hn W (hT.below hb))
  have hLV := Lib.hid (fun b W y => load_vars hs (b := b) (W := W) y)
  have hLO := Lib.hid (fun b W y => load_owner hs (b := b) (W := W) y)
  have hLC := Lib.hid (fun b W y => load_chans hs (b := b) (W := W) y)
  have hLG := Lib.hid (fun b W y => load_gos hs (b := b) (W := W) y)
  have hXV := Lib.hid (fun k hk W => ix_vars hs.lv k hk W)
  have hXO := Lib.hid (fun k hk W => ix_owner hs.lo k hk W)
  have hXC := Lib.hid (fun k hk W => index_chan hs k hk W)
  have hXG := Lib.hid (fun k hk W => index_go hs k hk W)
  have hcnt := St.get_count hs
  unfold St.v
  generalize s.cs.toArray = ga at *
  generalize iv s.vars = av at *
  generalize iv s.owner = ao at *
  generalize s.cv = ac at *
  generalize s.gv = ag at *
  clear hT
  go_enter Tryd.func14, Tryd.ntmps14
  have E0 := (Env.nil (w := w)).push w.heap.size rfl ga 32
  have y0 := E0.h0.cell
  go_wp2_with (refine list_load rfl _ _ rfl _ rfl _ (hLV.out _ _ y0) ?_)
  go_loopw [3, 19] (fun t i wr => ∃ j : Nat, j ≤ 8 ∧ i = .int .i64 j ∧ Rd w [(w.heap.size, ga)] (s.vars.take j) wr t) (fun t i _ => 8 - (intOf i).toNat)
  case atStart => exact ⟨0, by omega, rfl, ⟨E0, fun x hx => by simp at hx, rfl⟩⟩
  case round =>
    clear E0 y0
    obtain ⟨j, hj, rfl, E, hok, rfl⟩ := hrel
    by_cases hj' : j < 8
    · have hix := hXV.out j hj'
      have hn := getD_mem (k := j) (by rw [hs.lv]; exact hj') hs.vars
      have hs1 := take_snoc (l := s.vars) (k := j) (by rw [hs.lv]; exact hj')
      generalize s.vars.getD j 0 = x at *
      have hz := cat_ok hok (by rw [List.length_take]; omega) hn
      go_wp2_with ((go_at_call 31; ((with_reducible refine (cW.out _ hn _ E.acc).mono ?_); rintro e w' ⟨rfl, hb1⟩)))
      first
        | (refine ⟨⟨j + 1, by omega, by go_num, by rw [hs1]; exact Rd.step E hok hn hb1⟩, (by first | (simp [intOf]; done) | (simp [intOf]; omega) | omega)⟩)
        | (refine ⟨?_, (by first | (simp [intOf]; done) | (simp [intOf]; omega) | omega)⟩; (repeat apply Exists.intro); exact ⟨⟨j + 1, by omega, by go_num, by rw [hs1]; exact Rd.step E hok hn hb1⟩, rfl⟩)
    · obtain rfl : j = 8 := by omega
      rw [List.take_of_length_le (by rw [hs.lv]; omega)] at hok
      have e1 : s.vars.take 8 = s.vars := List.take_of_length_le (by rw [hs.lv]; omega)
      rw [e1]
      clear e1
      have y0 := E.h0.cell
      go_wp2_with (refine list_load rfl _ _ rfl _ rfl _ (hLO.out _ _ y0) ?_)
      go_loopw [3, 29] (fun t i wr => ∃ j : Nat, j ≤ 4 ∧ i = .int .i64 j ∧ Rd w [(w.heap.size, ga)] (s.vars ++ s.owner.take j) wr t) (fun t i _ => 4 - (intOf i).toNat)
      case atStart => exact ⟨0, by omega, rfl, ⟨E, by simpa using hok, by simp⟩⟩
      case round =>
        clear E y0 hok
        obtain ⟨j, hj, rfl, E, hok, rfl⟩ := hrel
        by_cases hj' : j < 4
        · have hix := hXO.out j hj'
          have hn := getD_mem (k := j) (by rw [hs.lo]; exact hj') hs.owner
          have hs1 := take_snoc (l := s.owner) (k := j) (by rw [hs.lo]; exact hj')
          generalize s.owner.getD j 0 = x at *
          have hz := cat_ok hok (by have := hs.lv; rw [List.length_append, List.length_take]; omega) hn
          go_wp2_with ((go_at_call 32; ((with_reducible refine (cN.out _ hn _ E.acc).mono ?_); rintro e w' ⟨rfl, hb1⟩)))
          first
            | (refine ⟨⟨j + 1, by omega, by go_num, by rw [hs1, ← List.append_assoc]; exact Rd.step E hok hn hb1⟩, (by first | (simp [intOf]; done) | (simp [intOf]; omega) | omega)⟩)
            | (refine ⟨?_, (by first | (simp [intOf]; done) | (simp [intOf]; omega) | omega)⟩; (repeat apply Exists.intro); exact ⟨⟨j + 1, by omega, by go_num, by rw [hs1, ← List.append_assoc]; exact Rd.step E hok hn hb1⟩, rfl⟩)
        · obtain rfl : j = 4 := by omega
          rw [List.take_of_length_le (by rw [hs.lo]; omega)] at hok
          have e1 : s.owner.take 4 = s.owner := List.take_of_length_le (by rw [hs.lo]; omega)
          rw [e1]
          clear e1
          have y0 := E.h0.cell
          go_wp2_with (refine list_load rfl _ _ rfl _ rfl _ (hLC.out _ _ y0) ?_)
          go_loopw [3, 39] (fun t i wr => ∃ j : Nat, j ≤ 4 ∧ i = .int .i64 j ∧ Rd w [(w.heap.size, ga)] (s.vars ++ s.owner ++ (s.chans.take j).flatMap cnums) wr t) (fun t i _ => 4 - (intOf i).toNat)
          case atStart => exact ⟨0, by omega, rfl, E, by simpa using hok, by simp⟩
          case round =>
            clear E y0 hok
            obtain ⟨wo, rfl⟩ : ∃ wo : World, wo = wr := ⟨_, rfl⟩
            obtain ⟨j, hj, rfl, E, hok, rfl⟩ := hrel
            by_cases hj4 : j < 4
            · have hix := hXC.out j hj4
              have hco := getD_mem' (k := j) (by rw [hs.lc]; exact hj4) hs.chans
              have hs1 := take_snoc' (l := s.chans) (k := j) (by rw [hs.lc]; exact hj4)
              have hln : (s.vars ++ s.owner ++ (s.chans.take j).flatMap cnums).length ≤ 48 := by have := hs.lv; have := hs.lo; have := len_take hs j; rw [List.length_append, List.length_append]; omega
              generalize s.chans.getD j default = c at *
              replace hs1 := Lib.hid hs1
              obtain ⟨L, hL⟩ : ∃ L, Hid (L = s.vars ++ s.owner ++ (s.chans.take j).flatMap cnums) := ⟨_, Lib.hid rfl⟩
              rw [← hL.out] at hok hln ⊢
              have hLB := Lib.hid (fun b W y => load_buf hco (b := b) (W := W) y)
              have hXB := Lib.hid (fun k hk W => ix_buf hco.blen k hk W)
              obtain ⟨x0, x1, x2, x3, hb4⟩ := fourI hco.blen
              have hco' := Lib.hid hco
              obtain ⟨buf, len, closed, offer, frm, val⟩ := c
              simp only at hb4
              subst hb4
              unfold Ch.v at *
              unfold Ch.cs at *
              simp only [List.map_cons, List.map_nil, List.cons_append, List.nil_append] at *
              have E1 := E.push wo.heap.size rfl #[.int .i64 x0, .int .i64 x1, .int .i64 x2, .int .i64 x3, .int .i64 len, .bool closed, .int .i64 offer, .int .i64 frm, .int .i64 val] 26
              have y1 := E1.h0.cell
              have l1 := E1.h0.lt
              go_wp2_with (refine list_load rfl _ _ rfl _ rfl _ (hLB.out _ _ y1) ?_)
              go_loopw [3, 44] (fun t i wr => ∃ j : Nat, j ≤ 4 ∧ i = .int .i64 j ∧ Rd w [(wo.heap.size, #[.int .i64 x0, .int .i64 x1, .int .i64 x2, .int .i64 x3, .int .i64 len, .bool closed, .int .i64 offer, .int .i64 frm, .int .i64 val]), (w.heap.size, ga)] (L ++ [x0, x1, x2, x3].take j) wr t) (fun t i _ => 4 - (intOf i).toNat)
              case atStart => exact ⟨0, by omega, rfl, E1, by simpa using hok, by simp⟩
              case round =>
                clear E E1 y1 l1 hix hok
                obtain ⟨i, hi, rfl, E, hok, rfl⟩ := hrel
                by_cases hi4 : i < 4
                · have hix := hXB.out i hi4
                  have hn := getD_mem (k := i) (show i < [x0, x1, x2, x3].length from hi4) hco'.out.buf
                  have hs2 := take_snoc (l := [x0, x1, x2, x3]) (k := i) hi4
                  generalize [x0, x1, x2, x3].getD i 0 = x at *
                  have hz := cat_ok hok (by rw [List.length_append, List.length_take]; omega) hn
                  go_wp2_with ((go_at_call 31; ((with_reducible refine (cW.out _ hn _ E.acc).mono ?_); rintro e w' ⟨rfl, hb1⟩)))
                  first
                    | (refine ⟨⟨i + 1, by omega, by go_num, by rw [hs2, ← List.append_assoc]; exact Rd.step E hok hn hb1⟩, (by first | (simp [intOf]; done) | (simp [intOf]; omega) | omega)⟩)
                    | (refine ⟨?_, (by first | (simp [intOf]; done) | (simp [intOf]; omega) | omega)⟩; (repeat apply Exists.intro); exact ⟨⟨i + 1, by omega, by go_num, by rw [hs2, ← List.append_assoc]; exact Rd.step E hok hn hb1⟩, rfl⟩)
                · obtain rfl : i = 4 := by omega
                  rw [show [x0, x1, x2, x3].take 4 = [x0, x1, x2, x3] from rfl] at hok ⊢
                  have y1 := E.h0.cell
                  have l1 := E.h0.lt
                  obtain ⟨i1, i2, i3, i4⟩ : I64 len ∧ I64 offer ∧ I64 frm ∧ I64 val := ⟨hco'.out.len, hco'.out.offer, hco'.out.frm, hco'.out.val⟩
                  have hn4 : (L ++ [x0, x1, x2, x3]).length ≤ 60 := by simp only [List.length_append, List.length_cons, List.length_nil]; omega
                  cases closed
                  · have i5 : I64 0 := ⟨by decide, by decide⟩
                    have s0 := size_le hok
                    have s1 := size_one i1
                    have s2 := size_one i5
                    have s3 := size_one i2
                    have s4 := size_one i3
                    have s5 := size_one i4
                    have d1 : ¬ 9223372036854775807 < (bs (refs (L ++ [x0, x1, x2, x3]))).size + (bs (32 :: itoa len)).size := by omega
                    have d2 : ¬ 9223372036854775807 < (bs (refs (L ++ [x0, x1, x2, x3]))).size + (bs (32 :: itoa len)).size + (bs (32 :: itoa 0)).size := by omega
                    have d3 : ¬ 9223372036854775807 < (bs (refs (L ++ [x0, x1, x2, x3]))).size + (bs (32 :: itoa len)).size + (bs (32 :: itoa 0)).size + (bs (32 :: itoa offer)).size := by omega
                    have d4 : ¬ 9223372036854775807 < (bs (refs (L ++ [x0, x1, x2, x3]))).size + (bs (32 :: itoa len)).size + (bs (32 :: itoa 0)).size + (bs (32 :: itoa offer)).size + (bs (32 :: itoa frm)).size := by omega
                    have d5 : ¬ 9223372036854775807 < (bs (refs (L ++ [x0, x1, x2, x3]))).size + (bs (32 :: itoa len)).size + (bs (32 :: itoa 0)).size + (bs (32 :: itoa offer)).size + (bs (32 :: itoa frm)).size + (bs (32 :: itoa val)).size := by omega
                    clear s0 s1 s2 s3 s4 s5
                    go_wp2
                    go_region_held3 (fun W => (∀ o, W.cell? ⟨wo.heap.size, o, none⟩ = (#[.int .i64 x0, .int .i64 x1, .int .i64 x2, .int .i64 x3, .int .i64 len, .bool false, .int .i64 offer, .int .i64 frm, .int .i64 val] : Array Value)[o]?) ∧ Env w [(wo.heap.size, #[.int .i64 x0, .int .i64 x1, .int .i64 x2, .int .i64 x3, .int .i64 len, .bool false, .int .i64 offer, .int .i64 frm, .int .i64 val]), (w.heap.size, ga)] W)
                      (first | assumption | exact ⟨E.h0.cell, E⟩ | exact ⟨E.drew.h0.cell, E.drew⟩ | exact ⟨E'.h0.cell, E'⟩)
                      (first | ((go_at_call 32; ((with_reducible refine (cN.out _ (by assumption) _ (Env.acc (bs := [(wo.heap.size, #[.int .i64 x0, .int .i64 x1, .int .i64 x2, .int .i64 x3, .int .i64 len, .bool false, .int .i64 offer, .int .i64 frm, .int .i64 val]), (w.heap.size, ga)]) (by first | assumption | exact E.drew | exact E))).mono ?_); rintro e w' ⟨rfl, hb⟩)); have E' := Env.next (bs := [(wo.heap.size, #[.int .i64 x0, .int .i64 x1, .int .i64 x2, .int .i64 x3, .int .i64 len, .bool false, .int .i64 offer, .int .i64 frm, .int .i64 val]), (w.heap.size, ga)]) (w := w) (by first | assumption | exact E.drew | exact E) hb) | ((go_at_call 31; ((with_reducible refine (cW.out _ (by assumption) _ (Env.acc (bs := [(wo.heap.size, #[.int .i64 x0, .int .i64 x1, .int .i64 x2, .int .i64 x3, .int .i64 len, .bool false, .int .i64 offer, .int .i64 frm, .int .i64 val]), (w.heap.size, ga)]) (by first | assumption | exact E.drew | exact E))).mono ?_); rintro e w' ⟨rfl, hb⟩)); have E' := Env.next (bs := [(wo.heap.size, #[.int .i64 x0, .int .i64 x1, .int .i64 x2, .int .i64 x3, .int .i64 len, .bool false, .int .i64 offer, .int .i64 frm, .int .i64 val]), (w.heap.size, ga)]) (w := w) (by first | assumption | exact E.drew | exact E) hb))
                    have hfin := bs_many (L ++ [x0, x1, x2, x3]) len 0 offer frm val
                    have hok' := ok_app hok (m := [len, 0, offer, frm, val]) (fun x hx => by simp only [List.mem_cons, List.not_mem_nil, or_false] at hx; rcases hx with rfl | rfl | rfl | rfl | rfl <;> assumption)
                    go_wp2
                    first
                      | (refine ⟨⟨j + 1, by omega, by go_num, by rw [hs1.out, List.flatMap_append, ← List.append_assoc, ← hL.out]; refine ⟨Env.tl (p := (wo.heap.size, #[.int .i64 x0, .int .i64 x1, .int .i64 x2, .int .i64 x3, .int .i64 len, .bool false, .int .i64 offer, .int .i64 frm, .int .i64 val])) (bs := [(w.heap.size, ga)]) (by assumption), ?_, ?_⟩; (· simpa [cnums, bi, List.append_assoc] using hok'); (· rw [hfin]; simp [cnums, bi, List.append_assoc])⟩, (by first | (simp [intOf]; done) | (simp [intOf]; omega) | omega)⟩)
                      | (refine ⟨?_, (by first | (simp [intOf]; done) | (simp [intOf]; omega) | omega)⟩; (repeat apply Exists.intro); exact ⟨⟨j + 1, by omega, by go_num, by rw [hs1.out, List.flatMap_append, ← List.append_assoc, ← hL.out]; refine ⟨Env.tl (p := (wo.heap.size, #[.int .i64 x0, .int .i64 x1, .int .i64 x2, .int .i64 x3, .int .i64 len, .bool false, .int .i64 offer, .int .i64 frm, .int .i64 val])) (bs := [(w.heap.size, ga)]) (by assumption), ?_, ?_⟩; (· simpa [cnums, bi, List.append_assoc] using hok'); (· rw [hfin]; simp [cnums, bi, List.append_assoc])⟩, rfl⟩)
                  · have i5 : I64 1 := ⟨by decide, by decide⟩
                    have s0 := size_le hok
                    have s1 := size_one i1
                    have s2 := size_one i5
                    have s3 := size_one i2
                    have s4 := size_one i3
                    have s5 := size_one i4
                    have d1 : ¬ 9223372036854775807 < (bs (refs (L ++ [x0, x1, x2, x3]))).size + (bs (32 :: itoa len)).size := by omega
                    have d2 : ¬ 9223372036854775807 < (bs (refs (L ++ [x0, x1, x2, x3]))).size + (bs (32 :: itoa len)).size + (bs (32 :: itoa 1)).size := by omega
                    have d3 : ¬ 9223372036854775807 < (bs (refs (L ++ [x0, x1, x2, x3]))).size + (bs (32 :: itoa len)).size + (bs (32 :: itoa 1)).size + (bs (32 :: itoa offer)).size := by omega
                    have d4 : ¬ 9223372036854775807 < (bs (refs (L ++ [x0, x1, x2, x3]))).size + (bs (32 :: itoa len)).size + (bs (32 :: itoa 1)).size + (bs (32 :: itoa offer)).size + (bs (32 :: itoa frm)).size := by omega
                    have d5 : ¬ 9223372036854775807 < (bs (refs (L ++ [x0, x1, x2, x3]))).size + (bs (32 :: itoa len)).size + (bs (32 :: itoa 1)).size + (bs (32 :: itoa offer)).size + (bs (32 :: itoa frm)).size + (bs (32 :: itoa val)).size := by omega
                    clear s0 s1 s2 s3 s4 s5
                    go_wp2
                    go_region_held3 (fun W => (∀ o, W.cell? ⟨wo.heap.size, o, none⟩ = (#[.int .i64 x0, .int .i64 x1, .int .i64 x2, .int .i64 x3, .int .i64 len, .bool true, .int .i64 offer, .int .i64 frm, .int .i64 val] : Array Value)[o]?) ∧ Env w [(wo.heap.size, #[.int .i64 x0, .int .i64 x1, .int .i64 x2, .int .i64 x3, .int .i64 len, .bool true, .int .i64 offer, .int .i64 frm, .int .i64 val]), (w.heap.size, ga)] W)
                      (first | assumption | exact ⟨E.h0.cell, E⟩ | exact ⟨E.drew.h0.cell, E.drew⟩ | exact ⟨E'.h0.cell, E'⟩)
                      (first | ((go_at_call 32; ((with_reducible refine (cN.out _ (by assumption) _ (Env.acc (bs := [(wo.heap.size, #[.int .i64 x0, .int .i64 x1, .int .i64 x2, .int .i64 x3, .int .i64 len, .bool true, .int .i64 offer, .int .i64 frm, .int .i64 val]), (w.heap.size, ga)]) (by first | assumption | exact E.drew | exact E))).mono ?_); rintro e w' ⟨rfl, hb⟩)); have E' := Env.next (bs := [(wo.heap.size, #[.int .i64 x0, .int .i64 x1, .int .i64 x2, .int .i64 x3, .int .i64 len, .bool true, .int .i64 offer, .int .i64 frm, .int .i64 val]), (w.heap.size, ga)]) (w := w) (by first | assumption | exact E.drew | exact E) hb) | ((go_at_call 31; ((with_reducible refine (cW.out _ (by assumption) _ (Env.acc (bs := [(wo.heap.size, #[.int .i64 x0, .int .i64 x1, .int .i64 x2, .int .i64 x3, .int .i64 len, .bool true, .int .i64 offer, .int .i64 frm, .int .i64 val]), (w.heap.size, ga)]) (by first | assumption | exact E.drew | exact E))).mono ?_); rintro e w' ⟨rfl, hb⟩)); have E' := Env.next (bs := [(wo.heap.size, #[.int .i64 x0, .int .i64 x1, .int .i64 x2, .int .i64 x3, .int .i64 len, .bool true, .int .i64 offer, .int .i64 frm, .int .i64 val]), (w.heap.size, ga)]) (w := w) (by first | assumption | exact E.drew | exact E) hb))
                    have hfin := bs_many (L ++ [x0, x1, x2, x3]) len 1 offer frm val
                    have hok' := ok_app hok (m := [len, 1, offer, frm, val]) (fun x hx => by simp only [List.mem_cons, List.not_mem_nil, or_false] at hx; rcases hx with rfl | rfl | rfl | rfl | rfl <;> assumption)
                    go_wp2
                    first
                      | (refine ⟨⟨j + 1, by omega, by go_num, by rw [hs1.out, List.flatMap_append, ← List.append_assoc, ← hL.out]; refine ⟨Env.tl (p := (wo.heap.size, #[.int .i64 x0, .int .i64 x1, .int .i64 x2, .int .i64 x3, .int .i64 len, .bool true, .int .i64 offer, .int .i64 frm, .int .i64 val])) (bs := [(w.heap.size, ga)]) (by assumption), ?_, ?_⟩; (· simpa [cnums, bi, List.append_assoc] using hok'); (· rw [hfin]; simp [cnums, bi, List.append_assoc])⟩, (by first | (simp [intOf]; done) | (simp [intOf]; omega) | omega)⟩)
                      | (refine ⟨?_, (by first | (simp [intOf]; done) | (simp [intOf]; omega) | omega)⟩; (repeat apply Exists.intro); exact ⟨⟨j + 1, by omega, by go_num, by rw [hs1.out, List.flatMap_append, ← List.append_assoc, ← hL.out]; refine ⟨Env.tl (p := (wo.heap.size, #[.int .i64 x0, .int .i64 x1, .int .i64 x2, .int .i64 x3, .int .i64 len, .bool true, .int .i64 offer, .int .i64 frm, .int .i64 val])) (bs := [(w.heap.size, ga)]) (by assumption), ?_, ?_⟩; (· simpa [cnums, bi, List.append_assoc] using hok'); (· rw [hfin]; simp [cnums, bi, List.append_assoc])⟩, rfl⟩)
            · obtain rfl : j = 4 := by omega
              rw [List.take_of_length_le (by rw [hs.lc]; omega)] at hok
              have e1 : s.chans.take 4 = s.chans := List.take_of_length_le (by rw [hs.lc]; omega)
              rw [e1]
              clear e1
              have y0 := E.h0.cell
              go_wp2_with (refine list_load rfl _ _ rfl _ rfl _ (hLG.out _ _ y0) ?_)
              go_loopw [3, 77] (fun t i wr => ∃ j : Nat, j ≤ 6 ∧ i = .int .i64 j ∧ Rd w [(w.heap.size, ga)] (s.vars ++ s.owner ++ s.chans.flatMap cnums ++ (s.gos.take j).flatMap gnums) wr t) (fun t i _ => 6 - (intOf i).toNat)
              case atStart => exact ⟨0, by omega, rfl, E, by simpa using hok, by simp⟩
              case round =>
                clear E y0 hok
                obtain ⟨wo, rfl⟩ : ∃ wo : World, wo = wr := ⟨_, rfl⟩
                obtain ⟨j, hj, rfl, E, hok, rfl⟩ := hrel
                by_cases hj6 : j < 6
                · have hix := hXG.out j hj6
                  have hgo := getD_mem' (k := j) (by rw [hs.lg]; exact hj6) hs.gos
                  have hs1 := take_snoc' (l := s.gos) (k := j) (by rw [hs.lg]; exact hj6)
                  have hln : (s.vars ++ s.owner ++ s.chans.flatMap cnums ++ (s.gos.take j).flatMap gnums).length ≤ 120 := by have := hs.lv; have := hs.lo; have h1 := len_take hs 4; rw [List.take_of_length_le (by rw [hs.lc]; omega)] at h1; have := len_take' hs j; rw [List.length_append, List.length_append, List.length_append]; omega
                  generalize s.gos.getD j default = g at *
                  replace hs1 := Lib.hid hs1
                  obtain ⟨L, hL⟩ : ∃ L, Hid (L = s.vars ++ s.owner ++ s.chans.flatMap cnums ++ (s.gos.take j).flatMap gnums) := ⟨_, Lib.hid rfl⟩
                  rw [← hL.out] at hok hln ⊢
                  have hLR := Lib.hid (fun b W y => load_regs hgo (b := b) (W := W) y)
                  have hXR := Lib.hid (fun k hk W => ix_vars hgo.len k hk W)
                  obtain ⟨x0, x1, x2, x3, x4, x5, x6, x7, hrg⟩ := eightI hgo.len
                  have hgo' := Lib.hid hgo
                  obtain ⟨gs, gf, gpc, gw, regs⟩ := g
                  simp only at hrg
                  subst hrg
                  unfold Gr.v at *
                  unfold Gr.cs at *
                  simp only [List.map_cons, List.map_nil, List.cons_append, List.nil_append] at *
                  have E1 := E.push wo.heap.size rfl #[.int .i64 gs, .int .i64 gf, .int .i64 gpc, .int .i64 gw, .int .i64 x0, .int .i64 x1, .int .i64 x2, .int .i64 x3, .int .i64 x4, .int .i64 x5, .int .i64 x6, .int .i64 x7] 29
                  clear E
                  have E := E1
                  clear E1
                  have y1 := E.h0.cell
                  have l1 := E.h0.lt
                  have d6 : decide ((j : Int) < 6) = true := by simp; omega
                  obtain ⟨i1, i2, i3, i4⟩ : I64 gs ∧ I64 gf ∧ I64 gpc ∧ I64 gw := ⟨hgo'.out.st, hgo'.out.fn, hgo'.out.pc, hgo'.out.why⟩
                  have s0 := size_le hok
                  have s1 := size_one i1
                  have s2 := size_one i2
                  have s3 := size_one i3
                  have s4 := size_one i4
                  have d1 : ¬ 9223372036854775807 < (bs (refs L)).size + (bs (32 :: itoa gs)).size := by omega
                  have d2 : ¬ 9223372036854775807 < (bs (refs L)).size + (bs (32 :: itoa gs)).size + (bs (32 :: itoa gf)).size := by omega
                  have d3 : ¬ 9223372036854775807 < (bs (refs L)).size + (bs (32 :: itoa gs)).size + (bs (32 :: itoa gf)).size + (bs (32 :: itoa gpc)).size := by omega
                  have d4 : ¬ 9223372036854775807 < (bs (refs L)).size + (bs (32 :: itoa gs)).size + (bs (32 :: itoa gf)).size + (bs (32 :: itoa gpc)).size + (bs (32 :: itoa gw)).size := by omega
                  clear s0 s1 s2 s3 s4
                  go_wp2
                  go_region_held3 (fun W => (∀ o, W.cell? ⟨wo.heap.size, o, none⟩ = (#[.int .i64 gs, .int .i64 gf, .int .i64 gpc, .int .i64 gw, .int .i64 x0, .int .i64 x1, .int .i64 x2, .int .i64 x3, .int .i64 x4, .int .i64 x5, .int .i64 x6, .int .i64 x7] : Array Value)[o]?) ∧ Env w [(wo.heap.size, #[.int .i64 gs, .int .i64 gf, .int .i64 gpc, .int .i64 gw, .int .i64 x0, .int .i64 x1, .int .i64 x2, .int .i64 x3, .int .i64 x4, .int .i64 x5, .int .i64 x6, .int .i64 x7]), (w.heap.size, ga)] W)
                    (first | assumption | exact ⟨E.h0.cell, E⟩ | exact ⟨E.drew.h0.cell, E.drew⟩ | exact ⟨E'.h0.cell, E'⟩)
                    (first | ((go_at_call 32; ((with_reducible refine (cN.out _ (by assumption) _ (Env.acc (bs := [(wo.heap.size, #[.int .i64 gs, .int .i64 gf, .int .i64 gpc, .int .i64 gw, .int .i64 x0, .int .i64 x1, .int .i64 x2, .int .i64 x3, .int .i64 x4, .int .i64 x5, .int .i64 x6, .int .i64 x7]), (w.heap.size, ga)]) (by first | assumption | exact E.drew | exact E))).mono ?_); rintro e w' ⟨rfl, hb⟩)); have E' := Env.next (bs := [(wo.heap.size, #[.int .i64 gs, .int .i64 gf, .int .i64 gpc, .int .i64 gw, .int .i64 x0, .int .i64 x1, .int .i64 x2, .int .i64 x3, .int .i64 x4, .int .i64 x5, .int .i64 x6, .int .i64 x7]), (w.heap.size, ga)]) (w := w) (by first | assumption | exact E.drew | exact E) hb) | ((go_at_call 31; ((with_reducible refine (cW.out _ (by assumption) _ (Env.acc (bs := [(wo.heap.size, #[.int .i64 gs, .int .i64 gf, .int .i64 gpc, .int .i64 gw, .int .i64 x0, .int .i64 x1, .int .i64 x2, .int .i64 x3, .int .i64 x4, .int .i64 x5, .int .i64 x6, .int .i64 x7]), (w.heap.size, ga)]) (by first | assumption | exact E.drew | exact E))).mono ?_); rintro e w' ⟨rfl, hb⟩)); have E' := Env.next (bs := [(wo.heap.size, #[.int .i64 gs, .int .i64 gf, .int .i64 gpc, .int .i64 gw, .int .i64 x0, .int .i64 x1, .int .i64 x2, .int .i64 x3, .int .i64 x4, .int .i64 x5, .int .i64 x6, .int .i64 x7]), (w.heap.size, ga)]) (w := w) (by first | assumption | exact E.drew | exact E) hb))
                  have hfin := bs_four L gs gf gpc gw
                  have hok' := ok_app hok (m := [gs, gf, gpc, gw]) (fun x hx => by simp only [List.mem_cons, List.not_mem_nil, or_false] at hx; rcases hx with rfl | rfl | rfl | rfl <;> assumption)
                  have E2 : Env w [(wo.heap.size, #[.int .i64 gs, .int .i64 gf, .int .i64 gpc, .int .i64 gw, .int .i64 x0, .int .i64 x1, .int .i64 x2, .int .i64 x3, .int .i64 x4, .int .i64 x5, .int .i64 x6, .int .i64 x7]), (w.heap.size, ga)] w' := by assumption
                  obtain ⟨L2, hL2⟩ : ∃ L2, Hid (L2 = L ++ [gs, gf, gpc, gw]) := ⟨_, Lib.hid rfl⟩
                  rw [← hL2.out] at hfin hok'
                  have hn2 : L2.length ≤ 124 := by rw [hL2.out]; simp only [List.length_append, List.length_cons, List.length_nil]; omega
                  rw [hfin]
                  have y2 := E2.h0.cell
                  have l2 := E2.h0.lt
                  go_wp2_with (refine list_load rfl _ _ rfl _ rfl _ (hLR.out _ _ y2) ?_)
                  try simp only [d6]
                  go_loopw [3, 99] (fun t i wr => ∃ j : Nat, j ≤ 8 ∧ i = .int .i64 j ∧ Rd w [(wo.heap.size, #[.int .i64 gs, .int .i64 gf, .int .i64 gpc, .int .i64 gw, .int .i64 x0, .int .i64 x1, .int .i64 x2, .int .i64 x3, .int .i64 x4, .int .i64 x5, .int .i64 x6, .int .i64 x7]), (w.heap.size, ga)] (L2 ++ [x0, x1, x2, x3, x4, x5, x6, x7].take j) wr t) (fun t i _ => 8 - (intOf i).toNat)
                  case atStart => exact ⟨0, by omega, rfl, E2, by simpa using hok', by simp⟩
                  case round =>
                    clear E E2 y1 l1 y2 l2 hix hok hok' hfin d1 d2 d3 d4
                    obtain ⟨i, hi, rfl, E, hok, rfl⟩ := hrel
                    by_cases hi8 : i < 8
                    · have hix := hXR.out i hi8
                      have hn := getD_mem (k := i) (show i < [x0, x1, x2, x3, x4, x5, x6, x7].length from hi8) hgo'.out.regs
                      have hs2 := take_snoc (l := [x0, x1, x2, x3, x4, x5, x6, x7]) (k := i) hi8
                      generalize [x0, x1, x2, x3, x4, x5, x6, x7].getD i 0 = x at *
                      have hz := cat_ok hok (by simp only [List.length_append, List.length_take, List.length_cons, List.length_nil]; omega) hn
                      go_wp2_with ((go_at_call 31; ((with_reducible refine (cW.out _ hn _ E.acc).mono ?_); rintro e w' ⟨rfl, hb1⟩)))
                      first
                        | (refine ⟨⟨i + 1, by omega, by go_num, by rw [hs2, ← List.append_assoc]; exact Rd.step E hok hn hb1⟩, (by first | (simp [intOf]; done) | (simp [intOf]; omega) | omega)⟩)
                        | (refine ⟨?_, (by first | (simp [intOf]; done) | (simp [intOf]; omega) | omega)⟩; (repeat apply Exists.intro); exact ⟨⟨i + 1, by omega, by go_num, by rw [hs2, ← List.append_assoc]; exact Rd.step E hok hn hb1⟩, rfl⟩)
                    · obtain rfl : i = 8 := by omega
                      rw [show [x0, x1, x2, x3, x4, x5, x6, x7].take 8 = [x0, x1, x2, x3, x4, x5, x6, x7] from rfl] at hok ⊢
                      go_wp2
                      first
                        | (refine ⟨⟨j + 1, by omega, by go_num, by rw [hs1.out, List.flatMap_append, ← List.append_assoc, ← hL.out]; refine ⟨E.tl, ?_, ?_⟩; (· have h := hok; rw [hL2.out] at h; simpa [gnums, List.append_assoc] using h); (· rw [hL2.out]; simp [gnums, List.append_assoc])⟩, (by first | (simp [intOf]; done) | (simp [intOf]; omega) | omega)⟩)
                        | (refine ⟨?_, (by first | (simp [intOf]; done) | (simp [intOf]; omega) | omega)⟩; (repeat apply Exists.intro); exact ⟨⟨j + 1, by omega, by go_num, by rw [hs1.out, List.flatMap_append, ← List.append_assoc, ← hL.out]; refine ⟨E.tl, ?_, ?_⟩; (· have h := hok; rw [hL2.out] at h; simpa [gnums, List.append_assoc] using h); (· rw [hL2.out]; simp [gnums, List.append_assoc])⟩, rfl⟩)
                · obtain rfl : j = 6 := by omega
                  rw [List.take_of_length_le (by rw [hs.lg]; omega)] at hok
                  have e1 : s.gos.take 6 = s.gos := List.take_of_length_le (by rw [hs.lg]; omega)
                  rw [e1]
                  clear e1
                  have y0 := E.h0.cell
                  have hn := hs.count
                  have hln : (s.vars ++ s.owner ++ s.chans.flatMap cnums ++ s.gos.flatMap gnums).length ≤ 120 := by have := hs.lv; have := hs.lo; have h1 := len_take hs 4; rw [List.take_of_length_le (by rw [hs.lc]; omega)] at h1; have h2 := len_take' hs 6; rw [List.take_of_length_le (by rw [hs.lg]; omega)] at h2; rw [List.length_append, List.length_append, List.length_append]; omega
                  have hz := cat_ok hok (by omega) hn
                  have e1 : s.vars ++ s.owner ++ s.chans.flatMap cnums ++ s.gos.flatMap gnums ++ [s.count] = nums s := by simp [nums, List.append_assoc]
                  have e2 := bs_refs (s.vars ++ s.owner ++ s.chans.flatMap cnums ++ s.gos.flatMap gnums) s.count
                  rw [e1] at e2
                  replace e1 := Lib.hid e1
                  replace e2 := Lib.hid e2
                  obtain ⟨Z, hZ⟩ : ∃ Z, Hid (Z = bs (refs (s.vars ++ s.owner ++ s.chans.flatMap cnums ++ s.gos.flatMap gnums))) := ⟨_, Lib.hid rfl⟩
                  replace e2 := e2.out
                  rw [← hZ.out] at hz e2 ⊢
                  have e3 := bs_tail _ _ _ e2
                  have h1 : 1 ≤ Z.size + (bs (32 :: itoa s.count)).size := by
                    have : 1 ≤ (bs (32 :: itoa s.count)).size := by simp [bs, ByteArray.size]
                    omega
                  replace e2 := Lib.hid e2
                  replace e3 := Lib.hid e3
                  go_wp2_with ((go_at_call 32; ((with_reducible refine (cN.out _ hn _ E.acc).mono ?_); rintro e w' ⟨rfl, hb1⟩)))
                  go_ret
                  exact ⟨by rw [e3.out]; rfl, (E.next hb1).acc⟩
end Go.Proofs.YtbcdeanmjhcgeaaDoor.Tx
