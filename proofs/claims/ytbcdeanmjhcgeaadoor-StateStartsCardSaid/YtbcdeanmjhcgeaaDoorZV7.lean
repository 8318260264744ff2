/- States, walked: is a channel one of a program: both answers in one. No condition. -/
import Derived.Test.YtbcdeanmjhcgeaaDoorZV5b
import Derived.Test.YtbcdeanmjhcgeaaDoorZV6b
import Derived.Test.YtbcdeanmjhcgeaaDoorZV6c
namespace Go.Proofs.YtbcdeanmjhcgeaaDoor.Pg
set_option linter.unusedVariables false
set_option linter.unusedSimpArgs false
open Go.ChangeShapes Go.WideShapes Go.RowKit
set_option linter.unusedVariables false
theorem chan_facts {P : Pg} {s : St} (hs : s.ok) (k : Nat) (hk4 : k < 4) : ∃ b0 b1 b2 b3 len off frm val : Int, ∃ cl : Bool, s.chans.getD k default = ⟨[b0, b1, b2, b3], len, cl, off, frm, val⟩ := by
  have hk' : k < s.chans.length := by rw [hs.lc]; exact hk4
  have hm := hs.chans s.chans[k] (List.getElem_mem _)
  obtain ⟨b0, b1, b2, b3, hb⟩ := four hm.blen
  refine ⟨b0, b1, b2, b3, s.chans[k].len, s.chans[k].offer, s.chans[k].frm, s.chans[k].val, s.chans[k].closed, ?_⟩
  rw [show s.chans.getD k default = s.chans[k] by simp [hk']]
  generalize s.chans[k] = x at *
  obtain ⟨buf, len, cl, off, frm, val⟩ := x
  simp only at hb
  subst hb
  rfl
theorem channel_walk (P : Pg) (s : St) (k : Nat) (w : World) (I : P.In w) (hs : s.ok) (hst : Stand P s) (hk : k < P.chans.length) (hk4 : k < 4) (hcap : P.chans.getD k 0 ≤ 4) :
    Calls Tryd.prog 39 #[P.v, s.v, .int .i64 k] w fun e w' => e = .returned (.bool (chanOk P s k (s.chans.getD k default))) ∧ Below w.heap.size w w' := by
  obtain ⟨hb, ho, hha, hhl, hH⟩ := I.chan (by omega)
  have z0 := hH k P.chans[k] (by simp)
  have hlh := I.lenH
  unfold Len at hlh
  rw [show P.chans.getD k 0 = P.chans[k] by simp [hk]] at hcap
  obtain ⟨b0, b1, b2, b3, len, off, frm, val, cl, hx⟩ := chan_facts (P := P) hs k hk4
  have e0 := St.get_chan hs k hk4 0 _ (by rw [hx]; rfl)
  have e1 := St.get_chan hs k hk4 1 _ (by rw [hx]; rfl)
  have e2 := St.get_chan hs k hk4 2 _ (by rw [hx]; rfl)
  have e3 := St.get_chan hs k hk4 3 _ (by rw [hx]; rfl)
  have e4 := St.get_chan hs k hk4 4 _ (by rw [hx]; rfl)
  have e5 := St.get_chan hs k hk4 5 _ (by rw [hx]; rfl)
  have e6 := St.get_chan hs k hk4 6 _ (by rw [hx]; rfl)
  have e7 := St.get_chan hs k hk4 7 _ (by rw [hx]; rfl)
  have e8 := St.get_chan hs k hk4 8 _ (by rw [hx]; rfl)
  have h121 : s.cs.toArray.size = 121 := by simpa using St.cs_len hs
  have he := chanOk_eq P s k (s.chans.getD k default)
  rw [hx] at he ⊢
  rw [show P.chans.getD k 0 = P.chans[k] by simp [hk]] at he
  simp only at he
  simp only [Nat.add_zero] at e0
  by_cases hn : 0 ≤ len ∧ len ≤ P.chans[k] ∧ 0 ≤ off ∧ off ≤ 3 ∧ (off = 0 ∨ P.chans[k] = 0)
  · rw [show decide (0 ≤ len ∧ len ≤ P.chans[k] ∧ 0 ≤ off ∧ off ≤ 3 ∧ (off = 0 ∨ P.chans[k] = 0)) = true by simpa using hn, Bool.true_and] at he
    by_cases hz : off = 0
    · rw [if_pos hz] at he
      rcases (show len = 0 ∨ len = 1 ∨ len = 2 ∨ len = 3 ∨ len = 4 by omega) with hl | hl | hl | hl | hl
      · exact chan_0_0 P s k hb ho w hhl _ hk hk4 _ b0 b1 b2 b3 len off frm val cl hlh hha z0 hcap h121 e0 e1 e2 e3 e4 e5 e6 e7 e8 hl (by omega) hz _ (Lib.hid he)
      · exact chan_0_1 P s k hb ho w hhl _ hk hk4 _ b0 b1 b2 b3 len off frm val cl hlh hha z0 hcap h121 e0 e1 e2 e3 e4 e5 e6 e7 e8 hl (by omega) hz _ (Lib.hid he)
      · exact chan_0_2 P s k hb ho w hhl _ hk hk4 _ b0 b1 b2 b3 len off frm val cl hlh hha z0 hcap h121 e0 e1 e2 e3 e4 e5 e6 e7 e8 hl (by omega) hz _ (Lib.hid he)
      · exact chan_0_3 P s k hb ho w hhl _ hk hk4 _ b0 b1 b2 b3 len off frm val cl hlh hha z0 hcap h121 e0 e1 e2 e3 e4 e5 e6 e7 e8 hl (by omega) hz _ (Lib.hid he)
      · exact chan_0_4 P s k hb ho w hhl _ hk hk4 _ b0 b1 b2 b3 len off frm val cl hlh hha z0 hcap h121 e0 e1 e2 e3 e4 e5 e6 e7 e8 hl (by omega) hz _ (Lib.hid he)
    · rw [if_neg hz] at he
      exact chan_1_0 P s k hb ho w hhl _ hk hk4 _ b0 b1 b2 b3 len off frm val cl hlh hha z0 hcap h121 e0 e1 e2 e3 e4 e5 e6 e7 e8 (by omega) (by omega) (by omega) (by omega) (Lib.hid fun W hW => waits_walk P s frm k W (I.below hW) hs hst) _ (Lib.hid he)
  · rw [show decide (0 ≤ len ∧ len ≤ P.chans[k] ∧ 0 ≤ off ∧ off ≤ 3 ∧ (off = 0 ∨ P.chans[k] = 0)) = false by simpa using hn, Bool.false_and] at he
    rw [he]
    exact chan_no P k hb ho w hhl _ hk hk4 _ b0 b1 b2 b3 len off frm val cl hlh hha z0 hcap h121 e0 e1 e2 e3 e4 e5 e6 e7 e8 hn
theorem rchannel_walk (P : Pg) (s : St) (k : Nat) (w : World) (I : P.In w) (hs : s.ok) (hst : Stand P s) (hk : k < P.chans.length) (hk4 : k < 4) (hcap : P.chans.getD k 0 ≤ 4) :
    Calls Tryd.prog 41 #[P.v, s.v, .int .i64 k] w fun e w' => e = .returned (.bool (chanOk P s k (s.chans.getD k default))) ∧ Below w.heap.size w w' := by
  obtain ⟨hb, ho, hha, hhl, hH⟩ := I.chan (by omega)
  have z0 := hH k P.chans[k] (by simp)
  have hlh := I.lenH
  unfold Len at hlh
  rw [show P.chans.getD k 0 = P.chans[k] by simp [hk]] at hcap
  obtain ⟨b0, b1, b2, b3, len, off, frm, val, cl, hx⟩ := chan_facts (P := P) hs k hk4
  have e0 := St.get_chan hs k hk4 0 _ (by rw [hx]; rfl)
  have e1 := St.get_chan hs k hk4 1 _ (by rw [hx]; rfl)
  have e2 := St.get_chan hs k hk4 2 _ (by rw [hx]; rfl)
  have e3 := St.get_chan hs k hk4 3 _ (by rw [hx]; rfl)
  have e4 := St.get_chan hs k hk4 4 _ (by rw [hx]; rfl)
  have e5 := St.get_chan hs k hk4 5 _ (by rw [hx]; rfl)
  have e6 := St.get_chan hs k hk4 6 _ (by rw [hx]; rfl)
  have e7 := St.get_chan hs k hk4 7 _ (by rw [hx]; rfl)
  have e8 := St.get_chan hs k hk4 8 _ (by rw [hx]; rfl)
  have h121 : s.cs.toArray.size = 121 := by simpa using St.cs_len hs
  have he := chanOk_eq P s k (s.chans.getD k default)
  rw [hx] at he ⊢
  rw [show P.chans.getD k 0 = P.chans[k] by simp [hk]] at he
  simp only at he
  simp only [Nat.add_zero] at e0
  by_cases hn : 0 ≤ len ∧ len ≤ P.chans[k] ∧ 0 ≤ off ∧ off ≤ 3 ∧ (off = 0 ∨ P.chans[k] = 0)
  · rw [show decide (0 ≤ len ∧ len ≤ P.chans[k] ∧ 0 ≤ off ∧ off ≤ 3 ∧ (off = 0 ∨ P.chans[k] = 0)) = true by simpa using hn, Bool.true_and] at he
    by_cases hz : off = 0
    · rw [if_pos hz] at he
      rcases hcb : (P.chans[k] != 0) with _ | _
      · rcases (show len = 0 ∨ len = 1 ∨ len = 2 ∨ len = 3 ∨ len = 4 by omega) with hl | hl | hl | hl | hl
        · exact rchan_0_0f P s k hb ho w hhl _ hk hk4 _ b0 b1 b2 b3 len off frm val cl hlh hha z0 hcap h121 e0 e1 e2 e3 e4 e5 e6 e7 e8 hl (by omega) hz hcb _ (Lib.hid he)
        · exact rchan_0_1f P s k hb ho w hhl _ hk hk4 _ b0 b1 b2 b3 len off frm val cl hlh hha z0 hcap h121 e0 e1 e2 e3 e4 e5 e6 e7 e8 hl (by omega) hz hcb _ (Lib.hid he)
        · exact rchan_0_2f P s k hb ho w hhl _ hk hk4 _ b0 b1 b2 b3 len off frm val cl hlh hha z0 hcap h121 e0 e1 e2 e3 e4 e5 e6 e7 e8 hl (by omega) hz hcb _ (Lib.hid he)
        · exact rchan_0_3f P s k hb ho w hhl _ hk hk4 _ b0 b1 b2 b3 len off frm val cl hlh hha z0 hcap h121 e0 e1 e2 e3 e4 e5 e6 e7 e8 hl (by omega) hz hcb _ (Lib.hid he)
        · exact rchan_0_4f P s k hb ho w hhl _ hk hk4 _ b0 b1 b2 b3 len off frm val cl hlh hha z0 hcap h121 e0 e1 e2 e3 e4 e5 e6 e7 e8 hl (by omega) hz hcb _ (Lib.hid he)
      · rcases (show len = 0 ∨ len = 1 ∨ len = 2 ∨ len = 3 ∨ len = 4 by omega) with hl | hl | hl | hl | hl
        · exact rchan_0_0t P s k hb ho w hhl _ hk hk4 _ b0 b1 b2 b3 len off frm val cl hlh hha z0 hcap h121 e0 e1 e2 e3 e4 e5 e6 e7 e8 hl (by omega) hz hcb _ (Lib.hid he)
        · exact rchan_0_1t P s k hb ho w hhl _ hk hk4 _ b0 b1 b2 b3 len off frm val cl hlh hha z0 hcap h121 e0 e1 e2 e3 e4 e5 e6 e7 e8 hl (by omega) hz hcb _ (Lib.hid he)
        · exact rchan_0_2t P s k hb ho w hhl _ hk hk4 _ b0 b1 b2 b3 len off frm val cl hlh hha z0 hcap h121 e0 e1 e2 e3 e4 e5 e6 e7 e8 hl (by omega) hz hcb _ (Lib.hid he)
        · exact rchan_0_3t P s k hb ho w hhl _ hk hk4 _ b0 b1 b2 b3 len off frm val cl hlh hha z0 hcap h121 e0 e1 e2 e3 e4 e5 e6 e7 e8 hl (by omega) hz hcb _ (Lib.hid he)
        · exact rchan_0_4t P s k hb ho w hhl _ hk hk4 _ b0 b1 b2 b3 len off frm val cl hlh hha z0 hcap h121 e0 e1 e2 e3 e4 e5 e6 e7 e8 hl (by omega) hz hcb _ (Lib.hid he)
    · rw [if_neg hz] at he
      by_cases hq : (b0 = 0 ∧ b1 = 0 ∧ b2 = 0 ∧ b3 = 0) ∧ ((off = 1 ∨ val = 0) ∧ ¬ (off = 1 ∧ cl = true) ∧ ¬ (off = 3 ∧ cl = false))
      · obtain ⟨⟨rfl, rfl, rfl, rfl⟩, hf⟩ := hq
        rw [show decide ((off = 1 ∨ val = 0) ∧ ¬ (off = 1 ∧ cl = true) ∧ ¬ (off = 3 ∧ cl = false)) = true from decide_eq_true hf, Bool.true_and,
          (zeros_iff _ _).2 (fun j hj => by match j, hj with | 0, _ | 1, _ | 2, _ | 3, _ => exact .inr rfl), Bool.true_and] at he
        rw [he]
        obtain ⟨f1, f2, f3⟩ := hf
        rcases (show off = 1 ∨ off = 2 ∨ off = 3 by omega) with ho1 | ho1 | ho1
        · exact rchan_1 P s k hb ho w I hs hst hhl hk hk4 _ 0 0 0 0 len off frm val cl hlh hha z0 hx (by omega) ho1 (by omega) (by simpa [ho1] using f2) rfl rfl rfl rfl
        · exact rchan_2 P s k hb ho w I hs hst hhl hk hk4 _ 0 0 0 0 len off frm val cl hlh hha z0 hx (by omega) ho1 (by omega) (by omega) rfl rfl rfl rfl
        · exact rchan_3 P s k hb ho w I hs hst hhl hk hk4 _ 0 0 0 0 len off frm val cl hlh hha z0 hx (by omega) ho1 (by omega) (by omega) (by simpa [ho1] using f3) rfl rfl rfl rfl
      · have hr : chanOk P s k ⟨[b0, b1, b2, b3], len, cl, off, frm, val⟩ = false := by
          rw [he]
          by_cases hb0 : b0 = 0 ∧ b1 = 0 ∧ b2 = 0 ∧ b3 = 0
          · rw [show decide ((off = 1 ∨ val = 0) ∧ ¬ (off = 1 ∧ cl = true) ∧ ¬ (off = 3 ∧ cl = false)) = false by rw [decide_eq_false_iff_not]; exact fun h => hq ⟨hb0, h⟩, Bool.false_and, Bool.and_false]
          · have hz0 : zeros len [b0, b1, b2, b3] = false := by
              rw [← Bool.not_eq_true, zeros_iff]
              intro h
              have h0 := h 0 (by simp); have h1 := h 1 (by simp); have h2 := h 2 (by simp); have h3 := h 3 (by simp)
              simp at h0 h1 h2 h3
              omega
            rw [hz0, Bool.false_and]
        rw [hr]
        refine rchan_fail P k hb ho w hhl _ hk hk4 _ b0 b1 b2 b3 len off frm val cl hlh hha z0 hcap h121 e0 e1 e2 e3 e4 e5 e6 e7 e8 (by omega) (by omega) (by omega) ?_
        by_cases hb0 : b0 = 0 ∧ b1 = 0 ∧ b2 = 0 ∧ b3 = 0
        · exact .inr (fun h => hq ⟨hb0, h⟩)
        · exact .inl hb0
  · rw [show decide (0 ≤ len ∧ len ≤ P.chans[k] ∧ 0 ≤ off ∧ off ≤ 3 ∧ (off = 0 ∨ P.chans[k] = 0)) = false by simpa using hn, Bool.false_and] at he
    rw [he]
    exact rchan_no P k hb ho w hhl _ hk hk4 _ b0 b1 b2 b3 len off frm val cl hlh hha z0 hcap h121 e0 e1 e2 e3 e4 e5 e6 e7 e8 hn
end Go.Proofs.YtbcdeanmjhcgeaaDoor.Pg
