/- A line of whatever words, walked; what is kept of a program half read. The condition: the reader in memory. -/
import Derived.Test.YtlhhmlfcodmebaaGreatDoorZo
import Derived.Test.YtlhhmlfcodmebaaGreatDoorZp
namespace Go.Proofs.YtlhhmlfcodmebaaGreatDoor.Pg
set_option linter.unusedVariables false
set_option linter.unusedSimpArgs false
open Go.RowKit Go.WideShapes Go.ChangeShapes
open Go.Proofs.YtlhhmlfcodmebaaGreatDoor.Wd (bt)
set_option linter.unusedVariables false
theorem bad_cons (last : Nat) (w : List UInt8) (ws : List (List UInt8)) : bad last (w :: ws) = if kind w = 0 then 50 else if may (kind w) last = false then 53 else if ws.length ≠ (lets (kind w) (opOf w)).length then 52 else (vals (lets (kind w) (opOf w)) ws).2 := rfl
theorem good_cons (p : Pg) (last : Nat) (w : List UInt8) (ws : List (List UInt8)) : good p last (w :: ws) = (taken p (kind w) (opOf w) (vals (lets (kind w) (opOf w)) ws).1, kind w) := rfl
theorem bt_of {x : ByteArray} {l : List UInt8} (h : x.data.toList = l) : x = bt l := by
  have : x.data = l.toArray := by rw [← h]
  cases x
  simp only at this
  rw [this]
  rfl
theorem Inv.of_bare {p : Pg} {last : Nat} (h : Inv p.bare last) : Inv p last := by
  refine ⟨fun hl => ?_, h.top⟩
  obtain ⟨fs, f, hp, h6, h9⟩ := h.funcs hl
  have hp' : p.funcs.map Fn.bare = fs ++ [f] := hp
  obtain ⟨l1, l2, e1, e2, e3⟩ := List.map_eq_append_iff.1 hp'
  obtain ⟨f', rfl⟩ : ∃ f', l2 = [f'] := by
    match l2, e3 with
    | [f'], _ => exact ⟨f', rfl⟩
  simp only [List.map_cons, List.map_nil, List.cons.injEq, and_true] at e3
  refine ⟨l1, f', e1, fun q => ?_, fun q => ?_⟩
  · have := h6 q
    rw [← e3] at this
    exact List.map_eq_nil_iff.1 this
  · obtain ⟨ss, s, hs⟩ := h9 q
    rw [← e3] at hs
    have hs' : f'.sels.map Sel.bare = ss ++ [s] := hs
    obtain ⟨m1, m2, g1, g2, g3⟩ := List.map_eq_append_iff.1 hs'
    obtain ⟨s', rfl⟩ : ∃ s', m2 = [s'] := by
      match m2, g3 with
      | [s'], _ => exact ⟨s', rfl⟩
    exact ⟨m1, s', g1⟩
theorem Inv.to_bare {p : Pg} {last : Nat} (h : Inv p last) : Inv p.bare last := by
  refine ⟨fun hl => ?_, h.top⟩
  obtain ⟨fs, f, hp, h6, h9⟩ := h.funcs hl
  refine ⟨fs.map Fn.bare, f.bare, by show p.funcs.map Fn.bare = _; rw [hp]; simp, fun q => ?_, fun q => ?_⟩
  · show f.sels.map Sel.bare = []
    rw [h6 q]
    rfl
  · obtain ⟨ss, s, hs⟩ := h9 q
    exact ⟨ss.map Sel.bare, s.bare, by show f.sels.map Sel.bare = _; rw [hs]; simp⟩
theorem Inv.taken {p : Pg} {last k op : Nat} {xs : List Int} (h : Inv p last) (hk : k ≤ 10) (hm : may k last = true) : Inv (taken p k op xs) k := by
  refine ⟨fun hl => ?_, hk⟩
  have h6 : 6 ≤ k → k ≠ 6 → 6 ≤ last := fun a b => by
    have : k = 7 ∨ k = 8 ∨ k = 9 ∨ k = 10 := by omega
    rcases this with rfl | rfl | rfl | rfl
    · rw [mayIs_7, decide_eq_true_eq] at hm; omega
    · rw [mayIs_8, decide_eq_true_eq] at hm; omega
    · rw [mayIs_9, decide_eq_true_eq] at hm; omega
    · rw [mayIs_10, decide_eq_true_eq] at hm; omega
  have : k = 6 ∨ k = 7 ∨ k = 8 ∨ k = 9 ∨ k = 10 := by omega
  rcases this with rfl | rfl | rfl | rfl | rfl
  · exact ⟨p.funcs, ⟨xs.headD 0, xs.getD 1 0, none, 0, [], none, 0, []⟩, by simp [Pg.taken], fun _ => rfl, fun q => by omega⟩
  · obtain ⟨fs, f, hp, _⟩ := h.funcs (h6 hl (by decide))
    exact ⟨fs, { f with sels := f.sels ++ [⟨none, 0, [], xs.headD 0⟩] }, by simp [Pg.taken, hp, onLast_snoc], fun q => by omega, fun q => ⟨f.sels, ⟨none, 0, [], xs.headD 0⟩, rfl⟩⟩
  · obtain ⟨fs, f, hp, _, h9⟩ := h.funcs (h6 hl (by decide))
    rw [mayIs_8, decide_eq_true_eq] at hm
    obtain ⟨ss, s, hs⟩ := h9 hm
    exact ⟨fs, { f with sels := ss ++ [{ s with cases := s.cases ++ [⟨true, xs.headD 0, xs.getD 1 0, xs.getD 2 0⟩] }] }, by simp [Pg.taken, hp, hs, onLast_snoc], fun q => by omega, fun q => ⟨ss, _, rfl⟩⟩
  · obtain ⟨fs, f, hp, _, h9⟩ := h.funcs (h6 hl (by decide))
    rw [mayIs_9, decide_eq_true_eq] at hm
    obtain ⟨ss, s, hs⟩ := h9 hm
    exact ⟨fs, { f with sels := ss ++ [{ s with cases := s.cases ++ [⟨false, xs.headD 0, xs.getD 1 0, xs.getD 2 0⟩] }] }, by simp [Pg.taken, hp, hs, onLast_snoc], fun q => by omega, fun q => ⟨ss, _, rfl⟩⟩
  · obtain ⟨fs, f, hp, _⟩ := h.funcs (h6 hl (by decide))
    exact ⟨fs, { f with code := f.code ++ [insOf op xs] }, by simp [Pg.taken, hp, onLast_snoc], fun q => by omega, fun q => by omega⟩
theorem kind_le (w : List UInt8) : kind w ≤ 10 := by
  unfold kind
  rcases idx_range w fixed 1 with h | ⟨h1, h2⟩
  · rw [if_neg (by omega)]
    split <;> omega
  · have : fixed.length = 9 := by decide
    rw [if_pos (by omega)]
    omega
theorem Inv.good {p : Pg} {last : Nat} (h : Inv p last) (ws : List (List UInt8)) (hb : bad last ws = 0) : Inv (good p last ws).1 (good p last ws).2 := by
  cases ws with
  | nil => exact h
  | cons w ws =>
    rw [bad_cons] at hb
    by_cases h0 : kind w = 0
    · rw [if_pos h0] at hb; cases hb
    · rw [if_neg h0] at hb
      by_cases hm : may (kind w) last = false
      · rw [if_pos hm] at hb; cases hb
      · exact Inv.taken h (kind_le w) (by simpa using hm)
theorem line_walk (w0 : World) (n0 r N g cap : Nat) (p : Pg) (last : Nat) (W : World) (x0 : ByteArray) (ws : List ByteArray) (hs : x0.data.toList ≠ []) (R : Rd w0 n0 r N p (atOf last) W) (hI : Inv p last) (hw : Ws n0 r g (x0 :: ws) W) (hg : ∀ row ∈ p.rows, row.blk ≠ some g) (h1 : ∀ x ∈ ws, x.size ≤ 281474976710656) (hc : ws.length + 1 ≤ cap) (hlw : ws.length ≤ 1000000) (hN : N ≤ 1000000) :
    Calls Tryz.prog 25 #[.pointer (some ⟨r, 0, none⟩), .slice (some ⟨g, 0, none⟩) (ws.length + 1) cap] W
      (Does w0 n0 r N W (bad last ((x0 :: ws).map (·.data.toList))) (good p.bare last ((x0 :: ws).map (·.data.toList))).1 (atOf (good p.bare last ((x0 :: ws).map (·.data.toList))).2)) := by
  have hlm : (ws.map (·.data.toList)).length = ws.length := List.length_map ..
  by_cases c1 : x0.data.toList = [115, 99, 97, 114, 97, 98]
  · have hk : kind x0.data.toList = 1 := by rw [c1]; decide
    have ho : opOf x0.data.toList = 0 := by rw [c1]; decide
    obtain rfl := bt_of c1
    refine (line_scarab w0 n0 r N g cap p last W ws R hI hw hg h1 hc hlw hN).mono fun e w' D => ?_
    rw [List.map_cons, bad_cons, good_cons, hk, ho, if_neg (by decide), hlm]
    exact D
  by_cases c2 : x0.data.toList = [118, 97, 114]
  · have hk : kind x0.data.toList = 2 := by rw [c2]; decide
    have ho : opOf x0.data.toList = 0 := by rw [c2]; decide
    obtain rfl := bt_of c2
    refine (line_var w0 n0 r N g cap p last W ws R hI hw hg h1 hc hlw hN).mono fun e w' D => ?_
    rw [List.map_cons, bad_cons, good_cons, hk, ho, if_neg (by decide), hlm]
    exact D
  by_cases c3 : x0.data.toList = [97, 116, 111, 109, 105, 99]
  · have hk : kind x0.data.toList = 3 := by rw [c3]; decide
    have ho : opOf x0.data.toList = 0 := by rw [c3]; decide
    obtain rfl := bt_of c3
    refine (line_atomic w0 n0 r N g cap p last W ws R hI hw hg h1 hc hlw hN).mono fun e w' D => ?_
    rw [List.map_cons, bad_cons, good_cons, hk, ho, if_neg (by decide), hlm]
    exact D
  by_cases c4 : x0.data.toList = [109, 117, 116, 101, 120]
  · have hk : kind x0.data.toList = 4 := by rw [c4]; decide
    have ho : opOf x0.data.toList = 0 := by rw [c4]; decide
    obtain rfl := bt_of c4
    refine (line_mutex w0 n0 r N g cap p last W ws R hI hw hg h1 hc hlw hN).mono fun e w' D => ?_
    rw [List.map_cons, bad_cons, good_cons, hk, ho, if_neg (by decide), hlm]
    exact D
  by_cases c5 : x0.data.toList = [99, 104, 97, 110]
  · have hk : kind x0.data.toList = 5 := by rw [c5]; decide
    have ho : opOf x0.data.toList = 0 := by rw [c5]; decide
    obtain rfl := bt_of c5
    refine (line_chan w0 n0 r N g cap p last W ws R hI hw hg h1 hc hlw hN).mono fun e w' D => ?_
    rw [List.map_cons, bad_cons, good_cons, hk, ho, if_neg (by decide), hlm]
    exact D
  by_cases c6 : x0.data.toList = [102, 117, 110, 99]
  · have hk : kind x0.data.toList = 6 := by rw [c6]; decide
    have ho : opOf x0.data.toList = 0 := by rw [c6]; decide
    obtain rfl := bt_of c6
    refine (line_func w0 n0 r N g cap p last W ws R hI hw hg h1 hc hlw hN).mono fun e w' D => ?_
    rw [List.map_cons, bad_cons, good_cons, hk, ho, if_neg (by decide), hlm]
    exact D
  by_cases c7 : x0.data.toList = [99, 104, 111, 111, 115, 101]
  · have hk : kind x0.data.toList = 7 := by rw [c7]; decide
    have ho : opOf x0.data.toList = 0 := by rw [c7]; decide
    obtain rfl := bt_of c7
    refine (line_choose w0 n0 r N g cap p last W ws R hI hw hg h1 hc hlw hN).mono fun e w' D => ?_
    rw [List.map_cons, bad_cons, good_cons, hk, ho, if_neg (by decide), hlm]
    exact D
  by_cases c8 : x0.data.toList = [111, 110, 115, 101, 110, 100]
  · have hk : kind x0.data.toList = 8 := by rw [c8]; decide
    have ho : opOf x0.data.toList = 0 := by rw [c8]; decide
    obtain rfl := bt_of c8
    refine (line_onsend w0 n0 r N g cap p last W ws R hI hw hg h1 hc hlw hN).mono fun e w' D => ?_
    rw [List.map_cons, bad_cons, good_cons, hk, ho, if_neg (by decide), hlm]
    exact D
  by_cases c9 : x0.data.toList = [111, 110, 114, 101, 99, 118]
  · have hk : kind x0.data.toList = 9 := by rw [c9]; decide
    have ho : opOf x0.data.toList = 0 := by rw [c9]; decide
    obtain rfl := bt_of c9
    refine (line_onrecv w0 n0 r N g cap p last W ws R hI hw hg h1 hc hlw hN).mono fun e w' D => ?_
    rw [List.map_cons, bad_cons, good_cons, hk, ho, if_neg (by decide), hlm]
    exact D
  have hx : idx x0.data.toList fixed 1 = 0 := by
    unfold fixed
    simp only [idx]
    rw [if_neg (fun e => c1 e.symm), if_neg (fun e => c2 e.symm), if_neg (fun e => c3 e.symm), if_neg (fun e => c4 e.symm), if_neg (fun e => c5 e.symm), if_neg (fun e => c6 e.symm), if_neg (fun e => c7 e.symm), if_neg (fun e => c8 e.symm), if_neg (fun e => c9 e.symm)]
  have ho : opOf x0.data.toList = opAt x0.data.toList := by unfold opOf; rw [if_neg (by omega)]
  refine (line_other w0 n0 r N g cap p last W x0 ws hx hs R hI hw hg h1 hc hlw hN).mono fun e w' D => ?_
  by_cases h0 : opAt x0.data.toList = 0
  · have hk : kind x0.data.toList = 0 := by unfold kind; rw [if_neg (by omega), if_neg (by simpa using h0)]
    rw [if_pos h0] at D
    rw [List.map_cons, bad_cons, good_cons, hk, if_pos rfl]
    exact ⟨D.out, D.frm, fun z => by cases z⟩
  · have hk : kind x0.data.toList = 10 := by unfold kind; rw [if_neg (by omega), if_pos h0]
    rw [if_neg h0] at D
    rw [List.map_cons, bad_cons, good_cons, hk, ho, if_neg (by decide), hlm]
    exact D
end Go.Proofs.YtlhhmlfcodmebaaGreatDoor.Pg
