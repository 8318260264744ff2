/- Which goroutines live: both sides, walked; two lists of numbers compared. No condition. -/
import Derived.Test.YtbcdeanmjhcgeaaDoorZa
import Derived.Test.YtbcdeanmjhcgeaaDoorZn
import Derived.BigQuiet
import Derived.Lib.Hide
namespace Go.Proofs.YtbcdeanmjhcgeaaDoor.Pg
set_option linter.unusedVariables false
set_option linter.unusedSimpArgs false
open Go.ChangeShapes Go.WideShapes Go.RowKit
set_option linter.unusedVariables false
set_option linter.unusedSimpArgs false
def isLive (g : Gr) : Bool := decide (g.status = 1 ∨ g.status = 2)
def lives (s : St) (j : Nat) : List Int := ((List.range j).filter fun k => isLive (s.gos.getD k default)).map fun (k : Nat) => (k : Int)
theorem lives_yes {s : St} {j : Nat} (h : isLive (s.gos.getD j default) = true) : lives s (j + 1) = lives s j ++ [(j : Int)] := by
  unfold lives; rw [List.range_succ, List.filter_append, List.map_append, List.filter_cons, h]; simp
theorem lives_no {s : St} {j : Nat} (h : isLive (s.gos.getD j default) = false) : lives s (j + 1) = lives s j := by
  unfold lives; rw [List.range_succ, List.filter_append, List.map_append, List.filter_cons, h]; simp
theorem lives_len (s : St) (j : Nat) : (lives s j).length ≤ j := by
  unfold lives
  have := List.length_filter_le (fun k => isLive (s.gos.getD k default)) (List.range j)
  simpa using this
theorem lives_ok (s : St) (j : Nat) (hj : j ≤ 100) : ∀ x ∈ lives s j, I64 x := fun x hx => by
  obtain ⟨k, hk, rfl⟩ := List.mem_map.1 hx
  have := List.mem_range.1 (List.mem_filter.1 hk).1
  exact ⟨by omega, by omega⟩
theorem info_int : (Tryd.prog.info? 3).map (fun i => (i.zero, i.size, i.bytes)) = some (some (.int .i64 0), 1, 8) := by kernel_rfl
theorem lies_one (W : World) (v : Value) (T : TypeId) (b : Nat) (hb : b = W.heap.size) : Lies (W.alloc (.cells #[v] T)) (some ⟨b, 0, none⟩) [v] := by
  subst hb
  refine .inr ⟨_, 0, rfl, by simp, fun j u hv => ?_⟩
  rw [Nat.zero_add, World.cell?_alloc_new]; simpa using hv
set_option maxHeartbeats 4000000 in
set_option maxRecDepth 100000 in
theorem live_walk (s : St) (hs : s.ok) (w : World) : Calls Tryd.prog 11 #[s.v] w fun e w' => ∃ a c, e = .returned (.slice a (lives s 6).length c) ∧ Lies w' a ((lives s 6).map (Value.int .i64)) ∧ Below w.heap.size w w' := by
  have hLG := Lib.hid (fun b W y => load_gos hs (b := b) (W := W) y)
  have hXG := Lib.hid (fun k hk W => index_go hs k hk W)
  have hGo : ∀ j, j < 6 → (s.gos.getD j default).ok := fun j hj => by
    have : j < s.gos.length := by rw [hs.lg]; exact hj
    rw [List.getD_eq_getElem?_getD, List.getElem?_eq_getElem this]; exact hs.gos _ (List.getElem_mem _)
  replace hGo := Lib.hid hGo
  unfold St.v
  generalize s.cs.toArray = ga at *
  generalize s.gv = ag at *
  go_enter Tryd.func11, Tryd.ntmps11
  have E0 := (Env.nil (w := w)).push w.heap.size rfl ga 32
  have y0 := E0.h0.cell
  go_wp2_with (refine list_load rfl _ _ rfl _ rfl _ (hLG.out _ _ y0) ?_)
  go_loopw [3, 8] (fun v i wr => ∃ (j : Nat) (a : Option Addr) (c : Nat), j ≤ 6 ∧ i = .int .i64 j ∧ v = .slice a (lives s j).length c ∧ Env w [(w.heap.size, ga)] wr ∧ wr.ownsRow (w.heap.size + 1) 3 1 (.slice a (lives s j).length c) (lives s j).length ((lives s j).map (Value.int .i64))) (fun v i _ => 6 - (intOf i).toNat)
  case atStart => exact ⟨0, none, 0, by omega, rfl, rfl, E0, World.ownsRow_nil _ _ _ _⟩
  case round =>
    clear E0 y0
    obtain ⟨j, a, c, hj, rfl, rfl, E, own⟩ := hrel
    have acc := E.acc
    have hsz := acc.size
    by_cases hj6 : j < 6
    · have hix := hXG.out j hj6
      have hgo := hGo.out j hj6
      have hlen := lives_len s j
      have hy := lives_yes (s := s) (j := j)
      have hn := lives_no (s := s) (j := j)
      generalize s.gos.getD j default = g at *
      obtain ⟨x0, x1, x2, x3, x4, x5, x6, x7, hrg⟩ : ∃ a b c d e f g' i, g.regs = [a, b, c, d, e, f, g', i] := by
        have h8 := hgo.len
        match g.regs, h8 with
        | [a, b, c, d, e, f, g', i], _ => exact ⟨a, b, c, d, e, f, g', i, rfl⟩
      obtain ⟨gs, gf, gpc, gw, regs⟩ := g
      simp only at hrg
      subst hrg
      unfold Gr.v Gr.cs at *
      simp only [List.map_cons, List.map_nil, List.cons_append, List.nil_append] at *
      have E1 := E.skip (.cells #[.int .i64 gs, .int .i64 gf, .int .i64 gpc, .int .i64 gw, .int .i64 x0, .int .i64 x1, .int .i64 x2, .int .i64 x3, .int .i64 x4, .int .i64 x5, .int .i64 x6, .int .i64 x7] 29)
      have E1' := E1.skip (.cells #[.int .i64 j] 3)
      rcases (show gs = 1 ∨ (gs ≠ 1 ∧ gs = 2) ∨ (gs ≠ 1 ∧ gs ≠ 2) by omega) with h | ⟨h', h⟩ | ⟨h', h⟩
      · subst h
        have hy' := hy rfl
        go_wp2_with (at_builtin; (refine wpList_append_lst rfl (.tmp 20) (.tmp 22) 34 rfl (w.heap.size + 1) 3 _ 1 8 Tryd.underlying34 info_int rfl (by decide) (.slice a (lives s j).length c) _ _ rfl ((own.alloc _).alloc _) (some ⟨wr.heap.size + 1, 0, none⟩) 1 1 [.int .i64 j] rfl rfl (lies_one _ _ _ _ (by simp)) (by intro u hu; simp at hu; subst hu; rfl) (by omega) (by decide) (by have := acc.size; simp; omega) ?_; intro v' w2 o2 g2 t2; obtain ⟨a', c', rfl, _, _⟩ := ownsRow_form o2 (by decide); have E2 := E1'.grown g2 (fun k hk => by have hkk := own.lt k hk; refine ⟨by omega, fun p hp => ?_⟩; simp only [List.mem_cons, List.not_mem_nil, or_false] at hp; rcases hp with rfl; simp only; omega)))
        first
          | (refine ⟨⟨j + 1, a', c', by omega, by go_num, by rw [hy', List.length_append]; rfl, E2, by rw [hy']; simpa using o2⟩, (by first | (simp [intOf]; done) | (simp [intOf]; omega) | omega)⟩)
          | (refine ⟨?_, (by first | (simp [intOf]; done) | (simp [intOf]; omega) | omega)⟩; (repeat apply Exists.intro); exact ⟨⟨j + 1, a', c', by omega, by go_num, by rw [hy', List.length_append]; rfl, E2, by rw [hy']; simpa using o2⟩, rfl⟩)
      · subst h
        have hy' := hy rfl
        go_wp2_with (at_builtin; (refine wpList_append_lst rfl (.tmp 20) (.tmp 22) 34 rfl (w.heap.size + 1) 3 _ 1 8 Tryd.underlying34 info_int rfl (by decide) (.slice a (lives s j).length c) _ _ rfl ((own.alloc _).alloc _) (some ⟨wr.heap.size + 1, 0, none⟩) 1 1 [.int .i64 j] rfl rfl (lies_one _ _ _ _ (by simp)) (by intro u hu; simp at hu; subst hu; rfl) (by omega) (by decide) (by have := acc.size; simp; omega) ?_; intro v' w2 o2 g2 t2; obtain ⟨a', c', rfl, _, _⟩ := ownsRow_form o2 (by decide); have E2 := E1'.grown g2 (fun k hk => by have hkk := own.lt k hk; refine ⟨by omega, fun p hp => ?_⟩; simp only [List.mem_cons, List.not_mem_nil, or_false] at hp; rcases hp with rfl; simp only; omega)))
        first
          | (refine ⟨⟨j + 1, a', c', by omega, by go_num, by rw [hy', List.length_append]; rfl, E2, by rw [hy']; simpa using o2⟩, (by first | (simp [intOf]; done) | (simp [intOf]; omega) | omega)⟩)
          | (refine ⟨?_, (by first | (simp [intOf]; done) | (simp [intOf]; omega) | omega)⟩; (repeat apply Exists.intro); exact ⟨⟨j + 1, a', c', by omega, by go_num, by rw [hy', List.length_append]; rfl, E2, by rw [hy']; simpa using o2⟩, rfl⟩)
      · have hn' := hn (by simp [isLive, h, h'])
        have k1 : decide (gs = 1) = false := decide_eq_false h'
        have k2 : decide (gs = 2) = false := decide_eq_false h
        have k3 : (gs == 1) = false := by simpa using h'
        have k4 : (gs == 2) = false := by simpa using h
        go_wp2
        first
          | (refine ⟨⟨j + 1, a, c, by omega, by go_num, by rw [hn'], E1, by rw [hn']; exact own.alloc _⟩, (by first | (simp [intOf]; done) | (simp [intOf]; omega) | omega)⟩)
          | (refine ⟨?_, (by first | (simp [intOf]; done) | (simp [intOf]; omega) | omega)⟩; (repeat apply Exists.intro); exact ⟨⟨j + 1, a, c, by omega, by go_num, by rw [hn'], E1, by rw [hn']; exact own.alloc _⟩, rfl⟩)
    · obtain rfl : j = 6 := by omega
      obtain ⟨a, c, e, hl, _⟩ := ownsRow_form own (by decide)
      cases e
      go_wp2
      go_ret
      exact ⟨a, c, rfl, hl, E.acc⟩
set_option maxHeartbeats 4000000 in
set_option maxRecDepth 100000 in
theorem rlive_walk (s : St) (hs : s.ok) (w : World) : Calls Tryd.prog 12 #[s.v] w fun e w' => ∃ a c, e = .returned (.slice a (lives s 6).length c) ∧ Lies w' a ((lives s 6).map (Value.int .i64)) ∧ Below w.heap.size w w' := by
  have hS := Lib.hid (fun j hj => St.get_go hs j hj 0 _ rfl)
  unfold St.v
  generalize s.cs.toArray = ga at *
  go_enter Tryd.func12, Tryd.ntmps12
  have E0 := (Env.nil (w := w)).push w.heap.size rfl ga 32
  go_wp2
  go_loopw [3, 5] (fun v i wr => ∃ (j : Nat) (a : Option Addr) (c : Nat), j ≤ 6 ∧ i = .int .i64 j ∧ v = .slice a (lives s j).length c ∧ Env w [(w.heap.size, ga)] wr ∧ wr.ownsRow (w.heap.size + 1) 3 1 (.slice a (lives s j).length c) (lives s j).length ((lives s j).map (Value.int .i64))) (fun v i _ => 6 - (intOf i).toNat)
  case atStart => exact ⟨0, none, 0, by omega, rfl, rfl, E0, World.ownsRow_nil _ _ _ _⟩
  case round =>
    clear E0
    obtain ⟨j, a, c, hj, rfl, rfl, E, own⟩ := hrel
    have acc := E.acc
    have hsz := acc.size
    have y0 := E.h0.cell
    have l0 := E.h0.lt
    by_cases hj6 : j < 6
    · have hix := hS.out j hj6
      have hlen := lives_len s j
      have hy := lives_yes (s := s) (j := j)
      have hn := lives_no (s := s) (j := j)
      generalize s.gos.getD j default = g at *
      obtain ⟨gs, gf, gpc, gw, regs⟩ := g
      simp only [Nat.add_zero] at hix
      have E1' := E.skip (.cells #[.int .i64 j] 3)
      rcases (show gs = 1 ∨ (gs ≠ 1 ∧ gs = 2) ∨ (gs ≠ 1 ∧ gs ≠ 2) by omega) with h | ⟨h', h⟩ | ⟨h', h⟩
      · subst h
        have hy' := hy rfl
        go_wp2_with (at_builtin; (refine wpList_append_lst rfl (.tmp 22) (.tmp 24) 34 rfl (w.heap.size + 1) 3 _ 1 8 Tryd.underlying34 info_int rfl (by decide) (.slice a (lives s j).length c) _ _ rfl (own.alloc _) (some ⟨wr.heap.size, 0, none⟩) 1 1 [.int .i64 j] rfl rfl (lies_one _ _ _ _ (by simp)) (by intro u hu; simp at hu; subst hu; rfl) (by omega) (by decide) (by have := acc.size; simp; omega) ?_; intro v' w2 o2 g2 t2; obtain ⟨a', c', rfl, _, _⟩ := ownsRow_form o2 (by decide); have E2 := E1'.grown g2 (fun k hk => by have hkk := own.lt k hk; refine ⟨by omega, fun p hp => ?_⟩; simp only [List.mem_cons, List.not_mem_nil, or_false] at hp; rcases hp with rfl; simp only; omega)))
        first
          | (refine ⟨⟨j + 1, a', c', by omega, by go_num, by rw [hy', List.length_append]; rfl, E2, by rw [hy']; simpa using o2⟩, (by first | (simp [intOf]; done) | (simp [intOf]; omega) | omega)⟩)
          | (refine ⟨?_, (by first | (simp [intOf]; done) | (simp [intOf]; omega) | omega)⟩; (repeat apply Exists.intro); exact ⟨⟨j + 1, a', c', by omega, by go_num, by rw [hy', List.length_append]; rfl, E2, by rw [hy']; simpa using o2⟩, rfl⟩)
      · subst h
        have hy' := hy rfl
        go_wp2_with (at_builtin; (refine wpList_append_lst rfl (.tmp 22) (.tmp 24) 34 rfl (w.heap.size + 1) 3 _ 1 8 Tryd.underlying34 info_int rfl (by decide) (.slice a (lives s j).length c) _ _ rfl (own.alloc _) (some ⟨wr.heap.size, 0, none⟩) 1 1 [.int .i64 j] rfl rfl (lies_one _ _ _ _ (by simp)) (by intro u hu; simp at hu; subst hu; rfl) (by omega) (by decide) (by have := acc.size; simp; omega) ?_; intro v' w2 o2 g2 t2; obtain ⟨a', c', rfl, _, _⟩ := ownsRow_form o2 (by decide); have E2 := E1'.grown g2 (fun k hk => by have hkk := own.lt k hk; refine ⟨by omega, fun p hp => ?_⟩; simp only [List.mem_cons, List.not_mem_nil, or_false] at hp; rcases hp with rfl; simp only; omega)))
        first
          | (refine ⟨⟨j + 1, a', c', by omega, by go_num, by rw [hy', List.length_append]; rfl, E2, by rw [hy']; simpa using o2⟩, (by first | (simp [intOf]; done) | (simp [intOf]; omega) | omega)⟩)
          | (refine ⟨?_, (by first | (simp [intOf]; done) | (simp [intOf]; omega) | omega)⟩; (repeat apply Exists.intro); exact ⟨⟨j + 1, a', c', by omega, by go_num, by rw [hy', List.length_append]; rfl, E2, by rw [hy']; simpa using o2⟩, rfl⟩)
      · have hn' := hn (by simp [isLive, h, h'])
        have k1 : decide (gs = 1) = false := decide_eq_false h'
        have k2 : decide (gs = 2) = false := decide_eq_false h
        have k3 : (gs == 1) = false := by simpa using h'
        have k4 : (gs == 2) = false := by simpa using h
        go_wp2
        first
          | (refine ⟨⟨j + 1, a, c, by omega, by go_num, by rw [hn'], E, by rw [hn']; exact own⟩, (by first | (simp [intOf]; done) | (simp [intOf]; omega) | omega)⟩)
          | (refine ⟨?_, (by first | (simp [intOf]; done) | (simp [intOf]; omega) | omega)⟩; (repeat apply Exists.intro); exact ⟨⟨j + 1, a, c, by omega, by go_num, by rw [hn'], E, by rw [hn']; exact own⟩, rfl⟩)
    · obtain rfl : j = 6 := by omega
      obtain ⟨a, c, e, hl, _⟩ := ownsRow_form own (by decide)
      cases e
      go_wp2
      go_ret
      exact ⟨a, c, rfl, hl, E.acc⟩
theorem Lies.int {w : World} {a : Option Addr} {l : List Int} (h : Lies w a (l.map (Value.int .i64))) (hl : 0 < l.length) : ∃ b o, a = some ⟨b, o, none⟩ ∧ b < w.heap.size ∧ ∀ k x, l[k]? = some x → w.cell? ⟨b, o + k, none⟩ = some (.int .i64 x) := by
  rcases h with e | ⟨b, o, e, hb, hr⟩
  · rw [List.map_eq_nil_iff] at e; subst e; simp at hl
  · exact ⟨b, o, e, hb, fun k x hx => hr k _ (by rw [List.getElem?_map, hx]; rfl)⟩
set_option maxHeartbeats 4000000 in
set_option maxRecDepth 100000 in
theorem sameints_walk (l : List Int) (hn : l.length ≤ 1000) (a b : Option Addr) (c d : Nat) (w : World) (ha : Lies w a (l.map (Value.int .i64))) (hb : Lies w b (l.map (Value.int .i64))) :
    Calls Tryd.prog 10 #[.slice a l.length c, .slice b l.length d] w fun e w' => e = .returned (.bool true) ∧ Below w.heap.size w w' := by
  replace ha := Lib.hid ha
  replace hb := Lib.hid hb
  go_enter Tryd.func10, Tryd.ntmps10
  go_wp2
  go_loopw [13] (fun i wr => ∃ j : Nat, j ≤ l.length ∧ i = .int .i64 j ∧ Below w.heap.size w wr) (fun i _ => l.length - (intOf i).toNat)
  case atStart => exact ⟨0, by omega, rfl, Below.refl _ _⟩
  case round =>
    obtain ⟨j, hj, rfl, acc⟩ := hrel
    by_cases hjl : j < l.length
    · obtain ⟨eb, eo, hea, hel, hE⟩ := ha.out.int (by omega)
      obtain ⟨gb, go', hga, hgl, hG⟩ := hb.out.int (by omega)
      have s0 := hE j l[j] (by simp)
      have t0 := hG j l[j] (by simp)
      generalize l[j] = x at *
      rw [← acc.cell (by simpa using hel)] at s0
      rw [← acc.cell (by simpa using hgl)] at t0
      have hel' := Nat.lt_of_lt_of_le hel acc.size
      have hgl' := Nat.lt_of_lt_of_le hgl acc.size
      clear hE hG
      rw [hea, hga]
      go_wp2
      go_quiet (fail)
      go_wp2
      first
        | (refine ⟨⟨j + 1, by omega, by go_num, by first | exact acc | exact below_drewN acc _⟩, (by first | (simp [intOf]; done) | (simp [intOf]; omega) | omega)⟩)
        | (refine ⟨?_, (by first | (simp [intOf]; done) | (simp [intOf]; omega) | omega)⟩; (repeat apply Exists.intro); exact ⟨⟨j + 1, by omega, by go_num, by first | exact acc | exact below_drewN acc _⟩, rfl⟩)
    · obtain rfl : j = l.length := by omega
      go_wp2
      go_ret
      exact ⟨rfl, acc⟩
end Go.Proofs.YtbcdeanmjhcgeaaDoor.Pg
