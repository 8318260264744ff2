/- AsmWords, walked. The conditions: the table and the variables as listed; at most 1048576 bytes each. -/
import Derived.Test.YtlhhmlfcodmebaaDoorWc
import Derived.Test.YtlhhmlfcodmebaaDoorWq
import Derived.Test.YtlhhmlfcodmebaaDoorRows
import Derived.LaidMore
import Derived.Stop.Joined
import Derived.OpenShut
import Derived.Stop.LaidErr
namespace Go.Proofs.YtlhhmlfcodmebaaDoor.Wd
open Go.RowKit Go.WideShapes Go.ChangeShapes
set_option linter.unusedVariables false
set_option linter.unusedSimpArgs false
theorem lit_words : wrd [97, 32, 98, 32, 59, 32, 99] [] = [[97], [98]] := by decide
theorem texts_inj : ∀ {xs ys : List ByteArray}, xs.map (·.data.toList) = ys.map (·.data.toList) → xs = ys
  | [], [], _ => rfl
  | [], y :: ys, h => by cases h
  | x :: xs, [], h => by cases h
  | x :: xs, y :: ys, h => by
    rw [List.map_cons, List.map_cons, List.cons.injEq] at h
    rw [texts_inj h.2]
    congr 1
    have h1 : x.data = y.data := Array.toList_inj.1 h.1
    cases x; cases y
    simp only at h1
    rw [h1]
theorem words_len {v : Value} {xs : List ByteArray} {n0 : Nat} {w : World} (h : Txts n0 w v xs) : ∃ a c, v = .slice a xs.length c := by
  obtain ⟨a, c, e, _⟩ := h.parts
  exact ⟨a, c, e⟩
set_option maxHeartbeats 8000000 in
set_option maxRecDepth 100000 in
theorem words_law (a b : ByteArray) (w : World) (h : Lies w) (ha : a.size ≤ 1048576) (hb : b.size ≤ 1048576) :
    Calls Tryd.prog 3 #[.string a, .string b] w fun e w' => e = .returned (.bool true) ∧ Below w.heap.size w w' := by
  have cN := Lib.hid (number_walk b w h (by omega))
  have cR := Lib.hid (fun W (hW : Lies W) => rnumber_walk b W hW (by omega))
  have cW := Lib.hid (fun W (hW : Lies W) => words_walk a W hW ha)
  have cX := Lib.hid (fun W => rwords_walk a W ha)
  have cL := Lib.hid (fun W (hW : Lies W) => words_walk ⟨#[97, 32, 98, 32, 59, 32, 99]⟩ W hW (by decide))
  have cS := Lib.hid (fun (W : World) (n0 n1 : Nat) (u v : Value) (xs : List ByteArray) (hu : Txts n0 W u xs) (hv : Txts n1 W v xs) (hl : xs.length ≤ 281474976710656) => texts_same n0 n1 W u v xs hu hv hl)
  have hcnt : (wrd a.data.toList []).length ≤ 281474976710656 := by
    have h2 := wrd_count a.data.toList []
    have h3 : a.data.toList.length = a.size := Array.length_toList
    omega
  have hh := Lib.hid h
  clear h
  go_enter Tryd.func3, Tryd.ntmps3
  go_wp2_with (go_at_call 4; ((with_reducible refine (cN.out).mono ?_); rintro e w1 ⟨rfl, b1⟩))
  have l1 := Lib.hid (hh.out.below b1)
  generalize num b.data.toList = nm at *
  obtain ⟨x, ok⟩ := nm
  go_wp2_with (go_at_call 5; ((with_reducible refine (cR.out _ l1.out).mono ?_); rintro e w2 ⟨rfl, b2⟩))
  have l2 := Lib.hid (l1.out.below b2)
  go_wp2_with (go_at_call 6; ((with_reducible refine (cW.out _ l2.out).mono ?_); rintro e w3 ⟨⟨v, xs, rfl, hT, hx⟩, b3⟩))
  have l3 := Lib.hid (l2.out.below b3)
  go_wp2_with (go_at_call 8; ((with_reducible refine (cX.out _).mono ?_); rintro e w4 ⟨⟨u, ys, rfl, hU, hy⟩, b4⟩))
  have l4 := Lib.hid (l3.out.below b4)
  obtain rfl : xs = ys := texts_inj (hx.trans hy.symm)
  have hlen : xs.length ≤ 281474976710656 := by
    have := congrArg List.length hx
    rw [List.length_map] at this
    omega
  have hT4 := hT.below b4
  clear hx hy hT
  go_wp2_with (go_at_call 7; ((with_reducible refine (cS.out _ _ _ _ _ _ hT4 hU hlen).mono ?_); rintro e w5 ⟨rfl, b5⟩))
  have l5 := Lib.hid (l4.out.below b5)
  have hB : Below w.heap.size w w5 := b1.trans ((b2.trans ((b3.trans ((b4.trans (b5.mono b4.size)).mono b3.size)).mono b2.size)).mono b1.size)
  clear hT4 hU b1 b2 b3 b4 b5
  go_wp2_with (go_at_call 6; ((with_reducible refine (cL.out _ l5.out).mono ?_); rintro e w6 ⟨⟨z, zs, rfl, hZ, hz⟩, b6⟩; obtain ⟨za, zc, rfl⟩ := words_len hZ; have hz2 : zs.length = 2 := (by have := congrArg List.length (hz.trans lit_words); rwa [List.length_map] at this)))
  all_goals go_ret
  all_goals exact ⟨rfl, hB.trans (b6.mono hB.size)⟩
end Go.Proofs.YtlhhmlfcodmebaaDoor.Wd
