/- Clocks, walked: a clock's text, where each number's text is told by a contract. -/
import Derived.Test.YtfhdmknplpgiiaaDoorW1
import Derived.Test.YtfhdmknplpgiiaaDoorShelfA
import Derived.Deep.AppendLies
import Derived.Lib.ItoaLen
import Derived.Lib.Hide
import Derived.Laws.AppendOwn
import Derived.Laws.OwnMore
namespace Go.Proofs.YtfhdmknplpgiiaaDoor.Ck
open Go.ChangeShapes Go.WideShapes Go.RowKit
def C6.nth (x : C6) : Nat → Int
  | 0 => x.a
  | 1 => x.b
  | 2 => x.c
  | 3 => x.d
  | 4 => x.e
  | _ => x.f
theorem ixk (x : C6) (k : Nat) (hk : k < 6) (w : World) : (Instr.index 23 x.v (.int .i64 (k : Int))).run Tryd.prog w = .ok (.int .i64 (x.nth k)) w := by
  match k, hk with
  | 0, _ => exact ix0 _ _ _ _ _ _ w
  | 1, _ => exact ix1 _ _ _ _ _ _ w
  | 2, _ => exact ix2 _ _ _ _ _ _ w
  | 3, _ => exact ix3 _ _ _ _ _ _ w
  | 4, _ => exact ix4 _ _ _ _ _ _ w
  | 5, _ => exact ix5 _ _ _ _ _ _ w
def num (n : Int) : ByteArray := ⟨(Lib.itoa n).toArray⟩
def C6.strs (x : C6) : List ByteArray := [num x.a, num x.b, num x.c, num x.d, num x.e, num x.f]
theorem strs_take (x : C6) (k : Nat) (hk : k < 6) : (x.strs.take (k + 1)).map Value.string = (x.strs.take k).map Value.string ++ [.string (num (x.nth k))] := by
  match k, hk with
  | 0, _ | 1, _ | 2, _ | 3, _ | 4, _ | 5, _ => rfl
/-- A clock's text. -/
def joinB (x : C6) : ByteArray := ⟨(Lib.join (x.strs.map (·.data.toList)) [44]).toArray⟩
def textB (x : C6) : ByteArray := (⟨#[60]⟩ : ByteArray) ++ joinB x ++ ⟨#[62]⟩
def small6 (x : C6) : Prop := ∀ k, k < 6 → -9223372036854775808 ≤ x.nth k ∧ x.nth k ≤ 9223372036854775807
theorem join_len (x : C6) (hx : small6 x) : (Lib.join (x.strs.map (·.data.toList)) [44]).length ≤ 140737488355328 := by
  have l := fun k hk => Lib.itoa_length_le (x.nth k) (hx k hk).1 (hx k hk).2
  have l0 := l 0 (by omega); have l1 := l 1 (by omega); have l2 := l 2 (by omega); have l3 := l 3 (by omega); have l4 := l 4 (by omega); have l5 := l 5 (by omega)
  simp only [C6.nth] at l0 l1 l2 l3 l4 l5
  simp [Lib.join, C6.strs, num, List.intercalate, List.intersperse]
  omega
/-- The texts of the first k numbers, as cells. -/
def svs (x : C6) (k : Nat) : List Value := (x.strs.take k).map Value.string
theorem owns_below {w w' : World} {base e size n : Nat} {v : Value} {xs : List Value} (h : w.ownsRow base e size v n xs) (hb : Below w.heap.size w w') : w'.ownsRow base e size v n xs := by
  obtain ⟨h1, h2⟩ := h
  refine ⟨h1, ?_⟩
  rcases h2 with h2 | ⟨g, cap, cur, hv, hbg, hg, r⟩
  · exact .inl h2
  · exact .inr ⟨g, cap, cur, hv, hbg, (hb.block g ((Array.getElem?_eq_some_iff.1 hg).1)).trans hg, r⟩
theorem owns_cap {w : World} {base e size n cap : Nat} {a : Option Addr} {xs : List Value} (h : w.ownsRow base e size (.slice a n cap) n xs) : n ≤ cap := by
  rcases h.2 with ⟨hv, hn⟩ | ⟨g, cap', cur, hv, hbg, hg, r, _⟩
  · omega
  · injection hv with _ _ h3; omega
theorem info9 : (Tryd.prog.info? 9).map (fun i => (i.zero, i.size, i.bytes)) = some (some (.string ⟨#[]⟩), 1, 16) := by kernel_rfl
set_option maxHeartbeats 4000000 in
set_option maxRecDepth 100000 in
theorem text_walk (x : C6) (w : World) (hx : small6 x)
    (hI : ∀ k, k < 6 → ∀ W, Below w.heap.size w W → Calls Tryd.prog 36 #[.int .i64 (x.nth k)] W fun e w' => e = .returned (.string (num (x.nth k))) ∧ Below W.heap.size W w') :
    Calls Tryd.prog 31 #[x.v] w fun e w' => e = .returned (.string (textB x)) ∧ Below w.heap.size w w' := by
  obtain ⟨q0, hq, hz0, hz1, hz2⟩ := info_parts info9
  have hx' := Lib.hid hx
  have hI' := Lib.hid hI
  clear hx hI
  have hix := ixk x
  have hlt : ∀ k, k < 6 → svs x (k + 1) = svs x k ++ [.string (num (x.nth k))] := strs_take x
  have hlt' := Lib.hid hlt
  clear hlt
  unfold C6.v at hix ⊢
  go_enter Tryd.func31, Tryd.ntmps31
  go_wp2
  go_loopw [3, 7] (fun v i wr => ∃ k : Nat, k ≤ 6 ∧ i = .int .i64 k ∧ wr.ownsRow (w.heap.size + 1) 9 1 v k (svs x k) ∧ Below w.heap.size w wr ∧ w.heap.size + 1 ≤ wr.heap.size) (fun _ i _ => 6 - (intOf i).toNat)
  case atStart => exact ⟨0, by omega, rfl, World.ownsRow_nil _ _ _ _, (Below.refl _ _).alloc (Nat.le_refl _) _, by simp⟩
  case round =>
    obtain ⟨k, hk, rfl, hown, hnx, hsz⟩ := hrel
    by_cases hlt : k < 6
    · have hk6 := hix k hlt
      have hC := hI'.out k hlt wr hnx
      have hC' := Lib.hid hC
      clear hC hix
      go_wp2_with (go_at_call 36; refine hC'.out.mono ?_; rintro e w1 ⟨rfl, hb1⟩; refine Hid.out ?_)
      refine Lib.hid ?_
      have hown1 := owns_below hown hb1
      have hsz1 := hb1.size
      clear hown
      go_wp2_with (at_builtin; refine wpList_append_own _ rfl _ _ 49 rfl (w.heap.size + 1) 9 q0 (.string ⟨#[]⟩) 1 16 Tryd.underlying49 hq hz0 hz1 hz2 rfl (by decide) _ _ _ rfl (hown1.alloc _) ⟨w1.heap.size, 0, none⟩ 1 1 [.string (num (x.nth k))] rfl rfl ?c1 ?c2 ?c3 ?c4 ?c5 ?_)
      case c1 =>
        intro j u hj
        match j, hj with
        | 0, hj => simp at hj; subst hj; simp [Addr.add]
      case c2 => intro u hu; simp at hu; subst hu; rfl
      case c3 => unfold maxLen; omega
      case c4 => omega
      case c5 => simp; omega
      · intro v' w2 hown2 hgrow _
        have hbel : Below w.heap.size w w2 := ((hnx.trans (hb1.mono (by have := hnx.size; omega))).alloc (by have := hnx.size; omega) _).grown hgrow (by simp; have := hnx.size; omega) (fun g hg => by have := (World.ownsRow.lt hown1 g hg).1; omega)
        have hsz2 : w.heap.size + 1 ≤ w2.heap.size := by have := hgrow.size; simp at this; omega
        have ht := hlt'.out k hlt
        have hown3 : w2.ownsRow (w.heap.size + 1) 9 1 v' (k + 1) (svs x (k + 1)) := by rw [ht]; exact hown2
        clear ht hown1 hown2 hgrow hnx hb1 hsz hk6
        go_wp2
        go_roundw
        case rel => exact ⟨k + 1, by omega, by go_num, hown3, hbel, hsz2⟩
        case measure => simp [intOf]; omega
    · have hk6 : k = 6 := by omega
      subst hk6
      obtain ⟨g, cap, hv, hg1, hg2⟩ := World.ownsRow.form hown (by omega)
      subst hv
      have hcap := owns_cap hown
      have hcell := World.ownsRow.cells hown (g := g) rfl
      have hJ : Calls Tryd.prog 37 #[.slice (some ⟨g, 0, none⟩) 6 cap, .string ⟨#[44]⟩] wr fun e w' => e = .returned (.string (joinB x)) ∧ Below wr.heap.size wr w' :=
        Tryd.strings_Join g 0 cap x.strs ⟨#[44]⟩ wr (fun j y hj => by
          have := hcell j (.string y) (by
            show ((x.strs.take 6).map Value.string)[j]? = _
            rw [List.getElem?_map, show x.strs.take 6 = x.strs from rfl, hj]; rfl)
          rw [← this]
          unfold Addr.add
          by_cases h0 : j = 0 <;> simp [h0]) hg2 (by show 6 ≤ _; omega) (by show 6 ≤ cap; omega) (join_len x hx'.out)
      have hJ' := Lib.hid hJ
      clear hJ hown hcell hix hlt
      have hjl : (joinB x).size ≤ 140737488355328 := join_len x hx'.out
      have hj1 : ¬ 9223372036854775807 < 1 + (joinB x).size := by omega
      have hj2 : ¬ 9223372036854775807 < 1 + (joinB x).size + 1 := by omega
      clear hjl
      go_wp2_with (go_at_call 37; refine hJ'.out.mono ?_; rintro e w1 ⟨rfl, hb1⟩)
      go_ret
      exact ⟨rfl, hnx.trans (hb1.mono (by omega))⟩
end Go.Proofs.YtfhdmknplpgiiaaDoor.Ck
