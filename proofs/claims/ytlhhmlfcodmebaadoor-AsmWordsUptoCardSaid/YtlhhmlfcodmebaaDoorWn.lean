/- What the library gives these walks in all later worlds, and Number, walked. The conditions: the table and the variables as listed. -/
import Derived.Test.YtlhhmlfcodmebaaDoorWd1
import Derived.Test.YtlhhmlfcodmebaaDoorShelfW
import Derived.Lib.LaidTab
import Derived.Lib.AppendIntMem
import Derived.Lib.Hide
import Derived.WalkKit
import Derived.Stop.IfaceNil
import Derived.Below
import Derived.WalkSmall
namespace Go.Proofs.YtlhhmlfcodmebaaDoor.Wd
open Go.RowKit Go.WideShapes Go.ChangeShapes
open Go.Lib (itoa)
set_option linter.unusedVariables false
set_option linter.unusedSimpArgs false
/-- What must lie in a world. -/
structure Lies (w : World) : Prop where
  cut : ∃ m, w.cell? ⟨3, 0, none⟩ = some (.int .i64 m)
  pow : Lib.TabIs Tryd.prog w "internal/strconv.uint64pow10" .u64 Lib.pow10Tab
  es : ∃ ev, w.cell? ⟨0, 0, none⟩ = some ev ∧ (ev = .nilIface ∨ ∃ te pe, ev = .iface te pe)
  er : ∃ ev, w.cell? ⟨1, 0, none⟩ = some ev ∧ (ev = .nilIface ∨ ∃ te pe, ev = .iface te pe)
theorem cell_lt {w : World} {b : Nat} {v : Value} (h : w.cell? ⟨b, 0, none⟩ = some v) : b < w.heap.size := by
  rcases Nat.lt_or_ge b w.heap.size with h1 | h1
  · exact h1
  · rw [World.cell?, Array.getElem?_eq_none h1] at h
    cases h
theorem Lies.below {w w' : World} (h : Lies w) (hb : Below w.heap.size w w') : Lies w' := by
  have go : ∀ {b : Nat} {v : Value}, w.cell? ⟨b, 0, none⟩ = some v → w'.cell? ⟨b, 0, none⟩ = some v := fun {b v} hc => by rw [hb.cell (by simpa using cell_lt hc)]; exact hc
  obtain ⟨⟨m, hm⟩, hp, ⟨e1, h1, k1⟩, ⟨e2, h2, k2⟩⟩ := h
  exact ⟨⟨m, go hm⟩, Lib.tabBelow_of_tabIs hp w' hb, ⟨e1, go h1, k1⟩, ⟨e2, go h2, k2⟩⟩
theorem format_calls {w : World} (h : Lies w) (n : Int) (h0 : -9223372036854775808 ≤ n) (h1 : n ≤ 9223372036854775807) :
    Calls Tryd.prog 10 #[.int .i64 n, .int .i64 10] w fun e w' => e = .returned (.string ⟨(itoa n).toArray⟩) ∧ Below w.heap.size w w' := by
  refine (Tryd.strconv_FormatInt_10 n h0 h1 w h.pow).mono ?_
  rintro e w' ⟨he, k, os, rfl⟩
  exact ⟨he, Lib.below_grow _ w (Nat.le_refl _) k os⟩
theorem parse_calls {w : World} (h : Lies w) (s : ByteArray) (hs : s.size ≤ 281474976710656) :
    Calls Tryd.prog 9 #[.string s, .int .i64 10, .int .i64 64] w fun e w' => (∃ v x, e = .returned (.tuple #[.int .i64 v, x]) ∧ ((x = .nilIface ∧ Lib.parseIntB 64 s.data.toList = .ok v) ∨ ((∃ t p, x = .iface t p) ∧ num s.data.toList = (0, false)))) ∧ Below w.heap.size w w' := by
  obtain ⟨e1, h1, k1⟩ := h.es
  obtain ⟨e2, h2, k2⟩ := h.er
  cases hp : Lib.parseIntB 64 s.data.toList with
  | ok v =>
    refine (Tryd.strconv_ParseInt_10_at64_ok s (by omega) v hp w).mono ?_
    rintro e w' ⟨he, rfl | ⟨t, rfl⟩⟩
    · exact ⟨⟨v, .nilIface, he, .inl ⟨rfl, rfl⟩⟩, Below.refl _ _⟩
    · exact ⟨⟨v, .nilIface, he, .inl ⟨rfl, rfl⟩⟩, Lib.bytesWorld_below w 5 t⟩
  | range =>
    refine (Any.strconv_ParseInt_10_at64_range Tryd.laysC174 s hs hp e2 w h2 k2).mono ?_
    rintro e w' ⟨N, he, _, _, hb⟩
    exact ⟨⟨_, _, he, .inr ⟨⟨_, _, rfl⟩, by unfold num; rw [hp]⟩⟩, hb⟩
  | _ =>
    refine (Any.strconv_ParseInt_10_at64_syntax Tryd.laysC174 s hs hp e1 w h1 k1).mono ?_
    rintro e w' ⟨N, he, _, _, hb⟩
    exact ⟨⟨_, _, he, .inr ⟨⟨_, _, rfl⟩, by unfold num; rw [hp]⟩⟩, hb⟩
set_option maxHeartbeats 4000000 in
set_option maxRecDepth 100000 in
theorem number_walk (s : ByteArray) (w : World) (h : Lies w) (hs : s.size ≤ 281474976710656) :
    Calls Tryd.prog 4 #[.string s] w fun e w' => e = .returned (.tuple #[.int .i64 (num s.data.toList).1, .bool (num s.data.toList).2]) ∧ Below w.heap.size w w' := by
  have cP := Lib.hid (fun (W : World) (h : Lies W) => parse_calls h s hs)
  have cF := Lib.hid (fun (W : World) (h : Lies W) (n : Int) (hn : -9223372036854775808 ≤ n ∧ n ≤ 9223372036854775807) => format_calls h n hn.1 hn.2)
  have hh := Lib.hid h
  clear h
  have hI : Tryd.prog.isIface 29 = true := by kernel_rfl
  go_enter Tryd.func4, Tryd.ntmps4
  go_wp2_with ((go_at_call 9; ((with_reducible refine (cP.out _ hh.out).mono ?_); rintro e w' ⟨⟨v, x, rfl, hx⟩, b1⟩)))
  have h1 := Lib.hid (hh.out.below b1)
  rcases hx with ⟨rfl, hp⟩ | ⟨⟨t, p, rfl⟩, hn⟩
  · have hr := parse_range hp
    have hnum : num s.data.toList = if itoa v = s.data.toList then (v, true) else (0, false) := by unfold num; rw [hp]
    replace hnum := Lib.hid hnum
    go_simp
    go_wp2_with ((go_at_call 10; ((with_reducible refine (cF.out _ h1.out v hr).mono ?_); rintro e w' ⟨rfl, b2⟩)))
    all_goals go_ret2
    all_goals refine ⟨?_, b1.trans (b2.mono b1.size)⟩
    · next he =>
      have he' : ¬ itoa v = s.data.toList := by
        rw [ByteArray.toList_eq] at he
        simpa using he
      rw [hnum.out, if_neg he']
      rfl
    · next he =>
      have he' : itoa v = s.data.toList := by
        rw [ByteArray.toList_eq] at he
        simpa using he
      rw [hnum.out, if_pos he']
      rfl
  · replace hn := Lib.hid hn
    go_simp
    go_wp2_with (fail)
    go_ret2
    rw [hn.out]
    exact ⟨rfl, b1⟩
end Go.Proofs.YtlhhmlfcodmebaaDoor.Wd
