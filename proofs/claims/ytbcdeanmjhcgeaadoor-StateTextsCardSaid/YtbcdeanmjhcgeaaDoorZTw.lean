/- A state's text, walked. The condition: what FormatInt gives. -/
import Derived.Test.YtbcdeanmjhcgeaaDoorZTw0
namespace Go.Proofs.YtbcdeanmjhcgeaaDoor.Tx
set_option linter.unusedVariables false
set_option linter.unusedSimpArgs false
open Go.RowKit Go.WideShapes Go.ChangeShapes
open Go.Lib (itoa)
open Go.Proofs.YtbcdeanmjhcgeaaDoor.Pg
set_option linter.unusedVariables false
set_option linter.unusedSimpArgs false
theorem hmf (fn : Go.Fn) (first cap : Array Value) (w : World) : (Instr.makeFunc fn first cap).run Tryd.prog w = .ok (.func fn first cap) w := rfl
set_option maxHeartbeats 8000000 in
set_option maxRecDepth 100000 in
theorem text_walk (s : St) (hs : s.ok) (w : World) (hI : ∀ n, I64 n → ∀ W, Below w.heap.size w W → Calls Tryd.prog 29 #[.int .i64 n, .int .i64 10] W fun e w' => e = .returned (.string ⟨(itoa n).toArray⟩) ∧ Below W.heap.size W w') :
    Calls Tryd.prog 13 #[s.v] w fun e w' => e = .returned (.string ⟨(txt (nums s)).toArray⟩) ∧ Below w.heap.size w w' := by
  have cP := Lib.hid (fun bs l W n (A : At w (w.heap.size + 1) bs l W) (hn : I64 n) (hlen : l.length ≤ 999) => A.put n hn hlen hI)
  clear hI
  have hLV := Lib.hid (fun b W y => load_vars hs (b := b) (W := W) y)
  have hLO := Lib.hid (fun b W y => load_owner hs (b := b) (W := W) y)
  have hLC := Lib.hid (fun b W y => load_chans hs (b := b) (W := W) y)
  have hLG := Lib.hid (fun b W y => load_gos hs (b := b) (W := W) y)
  have hXV := Lib.hid (fun k hk W => ix_vars hs.lv k hk W)
  have hXO := Lib.hid (fun k hk W => ix_owner hs.lo k hk W)
  have hXC := Lib.hid (fun k hk W => index_chan hs k hk W)
  have hXG := Lib.hid (fun k hk W => index_go hs k hk W)
  have hcnt := St.get_count hs
  unfold St.v
  generalize s.cs.toArray = ga at *
  generalize iv s.vars = av at *
  generalize iv s.owner = ao at *
  generalize s.cv = ac at *
  generalize s.gv = ag at *
  have hmf := hmf
  go_enter Tryd.func13, Tryd.ntmps13
  have A0 := At.first (w := w) ga
  have y0 := A0.y
  go_wp2_with (refine list_load rfl _ _ rfl _ rfl _ (hLV.out _ _ y0) ?_)
  go_loopw [23] (fun i wr => ∃ j : Nat, j ≤ 8 ∧ i = .int .i64 j ∧ At w (w.heap.size + 1) [(w.heap.size, ga, 32)] (s.vars.take j) wr) (fun i _ => 8 - (intOf i).toNat)
  case atStart => exact ⟨0, by omega, rfl, A0⟩
  case round =>
    clear A0 y0
    obtain ⟨j, hj, rfl, A⟩ := hrel
    by_cases hj8 : j < 8
    · have hix := hXV.out j hj8
      have hn := getD_mem (k := j) (by rw [hs.lv]; exact hj8) hs.vars
      have hs1 := take_snoc (l := s.vars) (k := j) (by rw [hs.lv]; exact hj8)
      generalize s.vars.getD j 0 = x at *
      go_wp2_with ((go_at_call 25; ((with_reducible refine (cP.out _ _ _ _ A (hn) (by rw [List.length_take]; omega)).mono ?_); rintro e w' ⟨rfl, A1⟩)))
      first
        | (refine ⟨⟨j + 1, by omega, by go_num, by rw [hs1]; exact A1⟩, (by first | (simp [intOf]; done) | (simp [intOf]; omega) | omega)⟩)
        | (refine ⟨?_, (by first | (simp [intOf]; done) | (simp [intOf]; omega) | omega)⟩; (repeat apply Exists.intro); exact ⟨⟨j + 1, by omega, by go_num, by rw [hs1]; exact A1⟩, rfl⟩)
    · obtain rfl : j = 8 := by omega
      rw [List.take_of_length_le (by rw [hs.lv]; omega)] at A
      have y1 := A.y
      go_wp2_with (refine list_load rfl _ _ rfl _ rfl _ (hLO.out _ _ y1) ?_)
      go_loopw [32] (fun i wr => ∃ j : Nat, j ≤ 4 ∧ i = .int .i64 j ∧ At w (w.heap.size + 1) [(w.heap.size, ga, 32)] (s.vars ++ s.owner.take j) wr) (fun i _ => 4 - (intOf i).toNat)
      case atStart => exact ⟨0, by omega, rfl, by simpa using A⟩
      case round =>
        clear A y1
        obtain ⟨j, hj, rfl, A⟩ := hrel
        by_cases hj4 : j < 4
        · have hix := hXO.out j hj4
          have hn := getD_mem (k := j) (by rw [hs.lo]; exact hj4) hs.owner
          have hs1 := take_snoc (l := s.owner) (k := j) (by rw [hs.lo]; exact hj4)
          generalize s.owner.getD j 0 = x at *
          go_wp2_with ((go_at_call 25; ((with_reducible refine (cP.out _ _ _ _ A (hn) (by have := hs.lv; rw [List.length_append, List.length_take]; omega)).mono ?_); rintro e w' ⟨rfl, A1⟩)))
          first
            | (refine ⟨⟨j + 1, by omega, by go_num, by rw [hs1, ← List.append_assoc]; exact A1⟩, (by first | (simp [intOf]; done) | (simp [intOf]; omega) | omega)⟩)
            | (refine ⟨?_, (by first | (simp [intOf]; done) | (simp [intOf]; omega) | omega)⟩; (repeat apply Exists.intro); exact ⟨⟨j + 1, by omega, by go_num, by rw [hs1, ← List.append_assoc]; exact A1⟩, rfl⟩)
        · obtain rfl : j = 4 := by omega
          rw [List.take_of_length_le (by rw [hs.lo]; omega)] at A
          have y1 := A.y
          go_wp2_with (refine list_load rfl _ _ rfl _ rfl _ (hLC.out _ _ y1) ?_)
          go_loopw [41] (fun i wr => ∃ j : Nat, j ≤ 4 ∧ i = .int .i64 j ∧ At w (w.heap.size + 1) [(w.heap.size, ga, 32)] (s.vars ++ s.owner ++ (s.chans.take j).flatMap cnums) wr) (fun i _ => 4 - (intOf i).toNat)
          case atStart => exact ⟨0, by omega, rfl, by simpa using A⟩
          case round =>
            clear A y1
            obtain ⟨wo, rfl⟩ : ∃ wo : World, wo = wr := ⟨_, rfl⟩
            obtain ⟨j, hj, rfl, A⟩ := hrel
            by_cases hj4 : j < 4
            · have hix := hXC.out j hj4
              have hco := getD_mem' (k := j) (by rw [hs.lc]; exact hj4) hs.chans
              have hs1 := take_snoc' (l := s.chans) (k := j) (by rw [hs.lc]; exact hj4)
              have hln : (s.vars ++ s.owner ++ (s.chans.take j).flatMap cnums).length ≤ 48 := by have := hs.lv; have := hs.lo; have := len_take hs j; rw [List.length_append, List.length_append]; omega
              generalize s.chans.getD j default = c at *
              replace hs1 := Lib.hid hs1
              obtain ⟨L, hL⟩ : ∃ L, Hid (L = s.vars ++ s.owner ++ (s.chans.take j).flatMap cnums) := ⟨_, Lib.hid rfl⟩
              rw [← hL.out] at A hln
              have hLB := Lib.hid (fun b W y => load_buf hco (b := b) (W := W) y)
              have hXB := Lib.hid (fun k hk W => ix_buf hco.blen k hk W)
              obtain ⟨x0, x1, x2, x3, hb4⟩ := fourI hco.blen
              have hok := Lib.hid hco
              obtain ⟨buf, len, closed, offer, frm, val⟩ := c
              simp only at hb4
              subst hb4
              unfold Ch.v at *
              unfold Ch.cs at *
              simp only [List.map_cons, List.map_nil, List.cons_append, List.nil_append] at *
              have A1 := A.push wo.heap.size rfl #[.int .i64 x0, .int .i64 x1, .int .i64 x2, .int .i64 x3, .int .i64 len, .bool closed, .int .i64 offer, .int .i64 frm, .int .i64 val] 26 (by decide)
              have y1 := A1.y
              have l1 := A1.lt
              go_wp2_with (refine list_load rfl _ _ rfl _ rfl _ (hLB.out _ _ y1) ?_)
              go_loopw [46] (fun i wr => ∃ j : Nat, j ≤ 4 ∧ i = .int .i64 j ∧ At w (w.heap.size + 1) [(wo.heap.size, #[.int .i64 x0, .int .i64 x1, .int .i64 x2, .int .i64 x3, .int .i64 len, .bool closed, .int .i64 offer, .int .i64 frm, .int .i64 val], 26), (w.heap.size, ga, 32)] (L ++ [x0, x1, x2, x3].take j) wr) (fun i _ => 4 - (intOf i).toNat)
              case atStart => exact ⟨0, by omega, rfl, by simpa using A1⟩
              case round =>
                clear A A1 y1 l1 hix
                obtain ⟨i, hi, rfl, A⟩ := hrel
                by_cases hi4 : i < 4
                · have hix := hXB.out i hi4
                  have hn := getD_mem (k := i) (show i < [x0, x1, x2, x3].length from hi4) hok.out.buf
                  have hs2 := take_snoc (l := [x0, x1, x2, x3]) (k := i) hi4
                  generalize [x0, x1, x2, x3].getD i 0 = x at *
                  go_wp2_with ((go_at_call 25; ((with_reducible refine (cP.out _ _ _ _ A (hn) (by rw [List.length_append, List.length_take]; omega)).mono ?_); rintro e w' ⟨rfl, A2⟩)))
                  first
                    | (refine ⟨⟨i + 1, by omega, by go_num, by rw [hs2, ← List.append_assoc]; exact A2⟩, (by first | (simp [intOf]; done) | (simp [intOf]; omega) | omega)⟩)
                    | (refine ⟨?_, (by first | (simp [intOf]; done) | (simp [intOf]; omega) | omega)⟩; (repeat apply Exists.intro); exact ⟨⟨i + 1, by omega, by go_num, by rw [hs2, ← List.append_assoc]; exact A2⟩, rfl⟩)
                · obtain rfl : i = 4 := by omega
                  rw [show [x0, x1, x2, x3].take 4 = [x0, x1, x2, x3] from rfl] at A
                  have y1 := A.y
                  have l1 := A.lt
                  have z1 := A.z
                  have hclo : I64 (bi closed) := bi_i64 _
                  cases closed
                  · simp only [show bi false = 0 from rfl] at hclo
                    go_wp2_with (first
                      | ((go_at_call 25; ((with_reducible refine (cP.out _ _ _ _ B3 (hok.out.val) (by simp only [List.length_append, List.length_cons, List.length_nil]; omega)).mono ?_); rintro e w' ⟨rfl, B4⟩)); have q4 := B4.y; have r4 := B4.lt)
                      | ((go_at_call 25; ((with_reducible refine (cP.out _ _ _ _ B2 (hok.out.frm) (by simp only [List.length_append, List.length_cons, List.length_nil]; omega)).mono ?_); rintro e w' ⟨rfl, B3⟩)); have q3 := B3.y; have r3 := B3.lt)
                      | ((go_at_call 25; ((with_reducible refine (cP.out _ _ _ _ B1 (hok.out.offer) (by simp only [List.length_append, List.length_cons, List.length_nil]; omega)).mono ?_); rintro e w' ⟨rfl, B2⟩)); have q2 := B2.y; have r2 := B2.lt)
                      | ((go_at_call 25; ((with_reducible refine (cP.out _ _ _ _ B0 (hclo) (by simp only [List.length_append, List.length_cons, List.length_nil]; omega)).mono ?_); rintro e w' ⟨rfl, B1⟩)); have q1 := B1.y; have r1 := B1.lt)
                      | ((go_at_call 25; ((with_reducible refine (cP.out _ _ _ _ A (hok.out.len) (by simp only [List.length_append, List.length_cons, List.length_nil]; omega)).mono ?_); rintro e w' ⟨rfl, B0⟩)); have q0 := B0.y; have r0 := B0.lt))
                    first
                      | (refine ⟨⟨j + 1, by omega, by go_num, by rw [hs1.out, List.flatMap_append, ← List.append_assoc, ← hL.out]; simpa [cnums, bi, List.append_assoc] using B4.tl⟩, (by first | (simp [intOf]; done) | (simp [intOf]; omega) | omega)⟩)
                      | (refine ⟨?_, (by first | (simp [intOf]; done) | (simp [intOf]; omega) | omega)⟩; (repeat apply Exists.intro); exact ⟨⟨j + 1, by omega, by go_num, by rw [hs1.out, List.flatMap_append, ← List.append_assoc, ← hL.out]; simpa [cnums, bi, List.append_assoc] using B4.tl⟩, rfl⟩)
                  · simp only [show bi true = 1 from rfl] at hclo
                    go_wp2_with (first
                      | ((go_at_call 25; ((with_reducible refine (cP.out _ _ _ _ B3 (hok.out.val) (by simp only [List.length_append, List.length_cons, List.length_nil]; omega)).mono ?_); rintro e w' ⟨rfl, B4⟩)); have q4 := B4.y; have r4 := B4.lt)
                      | ((go_at_call 25; ((with_reducible refine (cP.out _ _ _ _ B2 (hok.out.frm) (by simp only [List.length_append, List.length_cons, List.length_nil]; omega)).mono ?_); rintro e w' ⟨rfl, B3⟩)); have q3 := B3.y; have r3 := B3.lt)
                      | ((go_at_call 25; ((with_reducible refine (cP.out _ _ _ _ B1 (hok.out.offer) (by simp only [List.length_append, List.length_cons, List.length_nil]; omega)).mono ?_); rintro e w' ⟨rfl, B2⟩)); have q2 := B2.y; have r2 := B2.lt)
                      | ((go_at_call 25; ((with_reducible refine (cP.out _ _ _ _ B0 (hclo) (by simp only [List.length_append, List.length_cons, List.length_nil]; omega)).mono ?_); rintro e w' ⟨rfl, B1⟩)); have q1 := B1.y; have r1 := B1.lt)
                      | ((go_at_call 25; ((with_reducible refine (cP.out _ _ _ _ A (hok.out.len) (by simp only [List.length_append, List.length_cons, List.length_nil]; omega)).mono ?_); rintro e w' ⟨rfl, B0⟩)); have q0 := B0.y; have r0 := B0.lt))
                    first
                      | (refine ⟨⟨j + 1, by omega, by go_num, by rw [hs1.out, List.flatMap_append, ← List.append_assoc, ← hL.out]; simpa [cnums, bi, List.append_assoc] using B4.tl⟩, (by first | (simp [intOf]; done) | (simp [intOf]; omega) | omega)⟩)
                      | (refine ⟨?_, (by first | (simp [intOf]; done) | (simp [intOf]; omega) | omega)⟩; (repeat apply Exists.intro); exact ⟨⟨j + 1, by omega, by go_num, by rw [hs1.out, List.flatMap_append, ← List.append_assoc, ← hL.out]; simpa [cnums, bi, List.append_assoc] using B4.tl⟩, rfl⟩)
            · obtain rfl : j = 4 := by omega
              rw [List.take_of_length_le (by rw [hs.lc]; omega)] at A
              have y1 := A.y
              go_wp2_with (refine list_load rfl _ _ rfl _ rfl _ (hLG.out _ _ y1) ?_)
              go_loopw [77] (fun i wr => ∃ j : Nat, j ≤ 6 ∧ i = .int .i64 j ∧ At w (w.heap.size + 1) [(w.heap.size, ga, 32)] (s.vars ++ s.owner ++ s.chans.flatMap cnums ++ (s.gos.take j).flatMap gnums) wr) (fun i _ => 6 - (intOf i).toNat)
              case atStart => exact ⟨0, by omega, rfl, by simpa using A⟩
              case round =>
                clear A y1
                obtain ⟨wo, rfl⟩ : ∃ wo : World, wo = wr := ⟨_, rfl⟩
                obtain ⟨j, hj, rfl, A⟩ := hrel
                by_cases hj6 : j < 6
                · have hix := hXG.out j hj6
                  have hgo := getD_mem' (k := j) (by rw [hs.lg]; exact hj6) hs.gos
                  have hs1 := take_snoc' (l := s.gos) (k := j) (by rw [hs.lg]; exact hj6)
                  have hln : (s.vars ++ s.owner ++ s.chans.flatMap cnums ++ (s.gos.take j).flatMap gnums).length ≤ 120 := by have := hs.lv; have := hs.lo; have h1 := len_take hs 4; rw [List.take_of_length_le (by rw [hs.lc]; omega)] at h1; have := len_take' hs j; rw [List.length_append, List.length_append, List.length_append]; omega
                  generalize s.gos.getD j default = g at *
                  replace hs1 := Lib.hid hs1
                  obtain ⟨L, hL⟩ : ∃ L, Hid (L = s.vars ++ s.owner ++ s.chans.flatMap cnums ++ (s.gos.take j).flatMap gnums) := ⟨_, Lib.hid rfl⟩
                  rw [← hL.out] at A hln
                  have hLR := Lib.hid (fun b W y => load_regs hgo (b := b) (W := W) y)
                  have hXR := Lib.hid (fun k hk W => ix_vars hgo.len k hk W)
                  obtain ⟨x0, x1, x2, x3, x4, x5, x6, x7, hrg⟩ := eightI hgo.len
                  have hok := Lib.hid hgo
                  obtain ⟨gs, gf, gpc, gw, regs⟩ := g
                  simp only at hrg
                  subst hrg
                  unfold Gr.v at *
                  unfold Gr.cs at *
                  simp only [List.map_cons, List.map_nil, List.cons_append, List.nil_append] at *
                  have A1 := A.push wo.heap.size rfl #[.int .i64 gs, .int .i64 gf, .int .i64 gpc, .int .i64 gw, .int .i64 x0, .int .i64 x1, .int .i64 x2, .int .i64 x3, .int .i64 x4, .int .i64 x5, .int .i64 x6, .int .i64 x7] 29 (by decide)
                  have y1 := A1.y
                  have l1 := A1.lt
                  have d6 : decide ((j : Int) < 6) = true := by simp; omega
                  go_wp2
                  try simp only [d6]
                  have hX4 := Lib.hid (fun k hk W => ix_owner (l := [gs, gf, gpc, gw]) rfl k hk W)
                  rw [show iv [gs, gf, gpc, gw] = #[.int .i64 gs, .int .i64 gf, .int .i64 gpc, .int .i64 gw] from rfl] at hX4
                  go_loopw [89] (fun i wr => ∃ j : Nat, j ≤ 4 ∧ i = .int .i64 j ∧ At w (w.heap.size + 1) [(wo.heap.size, #[.int .i64 gs, .int .i64 gf, .int .i64 gpc, .int .i64 gw, .int .i64 x0, .int .i64 x1, .int .i64 x2, .int .i64 x3, .int .i64 x4, .int .i64 x5, .int .i64 x6, .int .i64 x7], 29), (w.heap.size, ga, 32)] (L ++ [gs, gf, gpc, gw].take j) wr) (fun i _ => 4 - (intOf i).toNat)
                  case atStart => exact ⟨0, by omega, rfl, by simpa using A1⟩
                  case round =>
                    clear A A1 y1 l1 hix
                    obtain ⟨i, hi, rfl, A⟩ := hrel
                    by_cases hi4 : i < 4
                    · have hix := hX4.out i hi4
                      have hn : I64 ([gs, gf, gpc, gw].getD i 0) := getD_mem (l := [gs, gf, gpc, gw]) (k := i) hi4 (fun x hx => by simp only [List.mem_cons, List.not_mem_nil, or_false] at hx; rcases hx with rfl | rfl | rfl | rfl; exact hok.out.st; exact hok.out.fn; exact hok.out.pc; exact hok.out.why)
                      have hs2 := take_snoc (l := [gs, gf, gpc, gw]) (k := i) hi4
                      generalize [gs, gf, gpc, gw].getD i 0 = x at *
                      go_wp2_with ((go_at_call 25; ((with_reducible refine (cP.out _ _ _ _ A (hn) (by rw [List.length_append, List.length_take]; omega)).mono ?_); rintro e w' ⟨rfl, A2⟩)))
                      first
                        | (refine ⟨⟨i + 1, by omega, by go_num, by rw [hs2, ← List.append_assoc]; exact A2⟩, (by first | (simp [intOf]; done) | (simp [intOf]; omega) | omega)⟩)
                        | (refine ⟨?_, (by first | (simp [intOf]; done) | (simp [intOf]; omega) | omega)⟩; (repeat apply Exists.intro); exact ⟨⟨i + 1, by omega, by go_num, by rw [hs2, ← List.append_assoc]; exact A2⟩, rfl⟩)
                    · obtain rfl : i = 4 := by omega
                      rw [show [gs, gf, gpc, gw].take 4 = [gs, gf, gpc, gw] from rfl] at A
                      have y1 := A.y
                      have l1 := A.lt
                      go_wp2_with (refine list_load rfl _ _ rfl _ rfl _ (hLR.out _ _ y1) ?_)
                      go_loopw [98] (fun i wr => ∃ j : Nat, j ≤ 8 ∧ i = .int .i64 j ∧ At w (w.heap.size + 1) [(wo.heap.size, #[.int .i64 gs, .int .i64 gf, .int .i64 gpc, .int .i64 gw, .int .i64 x0, .int .i64 x1, .int .i64 x2, .int .i64 x3, .int .i64 x4, .int .i64 x5, .int .i64 x6, .int .i64 x7], 29), (w.heap.size, ga, 32)] (L ++ [gs, gf, gpc, gw] ++ [x0, x1, x2, x3, x4, x5, x6, x7].take j) wr) (fun i _ => 8 - (intOf i).toNat)
                      case atStart => exact ⟨0, by omega, rfl, by simpa using A⟩
                      case round =>
                        clear A y1 l1
                        obtain ⟨i, hi, rfl, A⟩ := hrel
                        by_cases hi8 : i < 8
                        · have hix := hXR.out i hi8
                          have hn := getD_mem (k := i) (show i < [x0, x1, x2, x3, x4, x5, x6, x7].length from hi8) hok.out.regs
                          have hs2 := take_snoc (l := [x0, x1, x2, x3, x4, x5, x6, x7]) (k := i) hi8
                          generalize [x0, x1, x2, x3, x4, x5, x6, x7].getD i 0 = x at *
                          go_wp2_with ((go_at_call 25; ((with_reducible refine (cP.out _ _ _ _ A (hn) (by simp only [List.length_append, List.length_take, List.length_cons, List.length_nil]; omega)).mono ?_); rintro e w' ⟨rfl, A2⟩)))
                          first
                            | (refine ⟨⟨i + 1, by omega, by go_num, by rw [hs2, ← List.append_assoc]; exact A2⟩, (by first | (simp [intOf]; done) | (simp [intOf]; omega) | omega)⟩)
                            | (refine ⟨?_, (by first | (simp [intOf]; done) | (simp [intOf]; omega) | omega)⟩; (repeat apply Exists.intro); exact ⟨⟨i + 1, by omega, by go_num, by rw [hs2, ← List.append_assoc]; exact A2⟩, rfl⟩)
                        · obtain rfl : i = 8 := by omega
                          rw [show [x0, x1, x2, x3, x4, x5, x6, x7].take 8 = [x0, x1, x2, x3, x4, x5, x6, x7] from rfl] at A
                          go_wp2
                          first
                            | (refine ⟨⟨j + 1, by omega, by go_num, by rw [hs1.out, List.flatMap_append, ← List.append_assoc, ← hL.out]; simpa [gnums, List.append_assoc] using A.tl⟩, (by first | (simp [intOf]; done) | (simp [intOf]; omega) | omega)⟩)
                            | (refine ⟨?_, (by first | (simp [intOf]; done) | (simp [intOf]; omega) | omega)⟩; (repeat apply Exists.intro); exact ⟨⟨j + 1, by omega, by go_num, by rw [hs1.out, List.flatMap_append, ← List.append_assoc, ← hL.out]; simpa [gnums, List.append_assoc] using A.tl⟩, rfl⟩)
                · obtain rfl : j = 6 := by omega
                  rw [List.take_of_length_le (by rw [hs.lg]; omega)] at A
                  have y1 := A.y
                  have hln : (s.vars ++ s.owner ++ s.chans.flatMap cnums ++ s.gos.flatMap gnums).length ≤ 120 := by have := hs.lv; have := hs.lo; have h1 := len_take hs 4; rw [List.take_of_length_le (by rw [hs.lc]; omega)] at h1; have h2 := len_take' hs 6; rw [List.take_of_length_le (by rw [hs.lg]; omega)] at h2; rw [List.length_append, List.length_append, List.length_append]; omega
                  have e1 : nums s = s.vars ++ s.owner ++ s.chans.flatMap cnums ++ s.gos.flatMap gnums ++ [s.count] := by simp [nums, List.append_assoc]
                  have hcS := Lib.hid (fun W (h : Holds (w.heap.size + 1) (w.heap.size + 1) (nums s) W) (hB : w.heap.size + 1 ≤ W.heap.size) => Tryd.Builder_String_any_k (w.heap.size + 1) (w.heap.size + 1) (txt (nums s)) W h hB)
                  replace e1 := Lib.hid e1
                  go_wp2_with (first
                    | ((go_at_call 30; ((with_reducible refine (hcS.out _ (by rw [e1.out]; exact B1.hold) (by have := B1.lt; omega)).mono ?_); rintro e w' ⟨rfl, hx, hb1, hk1⟩)))
                    | ((go_at_call 25; ((with_reducible refine (cP.out _ _ _ _ A (hs.count) (by omega)).mono ?_); rintro e w' ⟨rfl, B1⟩))))
                  go_ret
                  exact ⟨rfl, B1.acc.trans (hb1.mono (by omega))⟩
end Go.Proofs.YtbcdeanmjhcgeaaDoor.Tx
