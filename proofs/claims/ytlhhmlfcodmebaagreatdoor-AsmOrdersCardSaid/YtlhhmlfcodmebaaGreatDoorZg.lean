/- Words, walked. The conditions: the variables as listed; at most 1048576 bytes. -/
import Derived.Test.YtlhhmlfcodmebaaGreatDoorZf
import Derived.Deep.Onto
namespace Go.Proofs.YtlhhmlfcodmebaaGreatDoor.Wd
set_option linter.unusedVariables false
set_option linter.unusedSimpArgs false
open Go.RowKit Go.WideShapes Go.ChangeShapes
set_option linter.unusedVariables false
set_option linter.unusedSimpArgs false
set_option maxHeartbeats 8000000 in
set_option maxRecDepth 100000 in
theorem blank_calls (x : Nat) (w : World) : Calls Tryz.prog 39 #[.int .i32 (x : Int)] w fun e w' => e = .returned (.bool (blank x)) ∧ ∃ q, w' = w.drewN q := by
  have h0 : ∀ W : World, ∃ q, W = W.drewN q := fun W => ⟨0, rfl⟩
  by_cases h1 : x = 32
  · subst h1
    have e : blank 32 = true := by decide
    rw [e]
    go_enter Tryz.func39, Tryz.ntmps39
    go_wp2
    all_goals go_ret
    all_goals exact ⟨rfl, h0 _⟩
  · by_cases h2 : x = 9
    · subst h2
      have e : blank 9 = true := by decide
      rw [e]
      go_enter Tryz.func39, Tryz.ntmps39
      go_wp2
      all_goals go_ret
      all_goals exact ⟨rfl, h0 _⟩
    · have e : blank x = false := by unfold blank; simp [h1, h2]
      rw [e]
      have g1 : ((x : Int) == 32) = false := by rw [beq_eq_false_iff_ne]; omega
      have g2 : ((x : Int) == 9) = false := by rw [beq_eq_false_iff_ne]; omega
      clear h1 h2 e
      go_enter Tryz.func39, Tryz.ntmps39
      go_wp2
      all_goals go_ret
      all_goals exact ⟨rfl, h0 _⟩
theorem cut_calls {w : World} (h : Lies w) (s : ByteArray) (hs : s.size ≤ 1048576) :
    Calls Tryz.prog 37 #[.string s, .string ⟨#[59]⟩] w fun e w' => (∃ t b, e = .returned (.tuple #[.string ⟨(cutAt s.data.toList).toArray⟩, .string t, .bool b])) ∧ Below w.heap.size w w' := by
  obtain ⟨m, hm⟩ := h.cut
  refine (Tryz.strings_Cut s ⟨#[59]⟩ m w (by omega) hm).mono ?_
  rintro e w' ⟨rfl, n, rfl⟩
  exact ⟨⟨⟨(Lib.cut s.data.toList [59]).2.1.toArray⟩, (Lib.cut s.data.toList [59]).2.2, by rw [← cut_fst]⟩, below_drewN (Below.refl _ _) _⟩
theorem cut_size (s : ByteArray) (hs : s.size ≤ 1048576) : (⟨(cutAt s.data.toList).toArray⟩ : ByteArray).size ≤ 1048576 := by
  have h1 := cutAt_len s.data.toList
  have h2 : s.data.toList.length = s.size := Array.length_toList
  have h3 : (⟨(cutAt s.data.toList).toArray⟩ : ByteArray).size = (cutAt s.data.toList).length := by show (cutAt s.data.toList).toArray.size = _; simp
  omega
theorem fields_calls (s : ByteArray) (w : World) (hs : s.size ≤ 1048576) :
    Calls Tryz.prog 38 #[.string ⟨(cutAt s.data.toList).toArray⟩, .func (.func 39) #[] #[]] w fun e w' => (∃ A xs, e = .returned (.slice (some ⟨A, 0, none⟩) xs.length xs.length) ∧ Txts w.heap.size w' (.slice (some ⟨A, 0, none⟩) xs.length xs.length) xs ∧ Hid (xs.map (·.data.toList) = wrd s.data.toList []) ∧ xs.length ≤ 2097152) ∧ Below w.heap.size w w' := by
  have hF := fields_wrd s.data.toList
  rw [cut_fst] at hF
  have hl := cut_size s hs
  have hn : (Lib.goFieldsP blank ⟨(cutAt s.data.toList).toArray⟩).length ≤ 2097152 := by
    have h1 := congrArg List.length hF
    rw [List.length_map] at h1
    have h2 := wrd_count s.data.toList []
    have h3 : s.data.toList.length = s.size := Array.length_toList
    omega
  refine (Tryz.strings_FieldsFunc 39 #[] (enters_of Tryz.func39 (by kernel_rfl) rfl) blank ⟨(cutAt s.data.toList).toArray⟩ w (by omega) (fun W x _ => blank_calls x W)).mono ?_
  rintro e w' ⟨A, rfl, hA, hO, hB⟩
  exact ⟨⟨A, _, rfl, hO, Lib.hid hF, hn⟩, hB⟩
set_option maxHeartbeats 8000000 in
set_option maxRecDepth 100000 in
theorem words_walk (s : ByteArray) (w : World) (h : Lies w) (hs : s.size ≤ 1048576) :
    Calls Tryz.prog 17 #[.string s] w fun e w' => (∃ v xs, e = .returned v ∧ Txts w.heap.size w' v xs ∧ xs.map (·.data.toList) = wrd s.data.toList []) ∧ Below w.heap.size w w' := by
  obtain ⟨q0, hq, hz0, hz1, hz2⟩ := info_parts info_str
  have cC := Lib.hid (cut_calls h s hs)
  have cF := Lib.hid (fun W => fields_calls s W hs)
  clear h
  go_enter Tryz.func17, Tryz.ntmps17
  go_wp2_with (first | (go_at_call 37; ((with_reducible refine (cC.out).mono ?_); rintro e w1 ⟨⟨t, b, rfl⟩, b1⟩)) | (go_at_call 38; ((with_reducible refine (cF.out _).mono ?_); rintro e W ⟨⟨A, xs, rfl, hT, hx, hn⟩, b2⟩)))
  have hsz1 := b1.size
  have hsz2 := b2.size
  have hA : A < W.heap.size := (World.ownsRow.lt hT A rfl).2
  have hcell := fun k (hk : k < xs.length) => World.ownsRow.cells hT (g := A) rfl k (.string xs[k]) (by rw [List.getElem?_map, List.getElem?_eq_getElem hk]; rfl)
  have b12 := b1.trans (b2.mono hsz1)
  clear hT b2 b1
  replace hcell := Lib.hid hcell
  go_loopw [3, 15] (fun v i wr => ∃ k : Nat, k ≤ xs.length ∧ i = .int .i64 k ∧ Txts W.heap.size wr v (xs.take k) ∧ Below W.heap.size W wr) (fun _ i _ => xs.length - (intOf i).toNat)
  case atStart => exact ⟨0, by omega, rfl, World.ownsRow_nil _ _ _ _, Below.refl _ _⟩
  case round =>
    obtain ⟨k, hk, rfl, hO, hB⟩ := hrel
    have hsz := hB.size
    by_cases hkn : k < xs.length
    · have hc := hB.cell (p := ⟨A, k, none⟩) hA
      have hc2 := hcell.out k hkn
      rw [Addr.add_lit, Nat.zero_add] at hc2
      rw [hc2] at hc
      have ht : xs.take (k + 1) = xs.take k ++ [xs[k]] := by rw [List.take_add_one, List.getElem?_eq_getElem hkn]; rfl
      have hl : (xs.take k).length = k := by rw [List.length_take]; omega
      generalize xs[k] = x at *
      replace ht := Lib.hid ht
      replace hl := Lib.hid hl
      clear hc2
      go_wp2_with (at_builtin; refine wpList_append_own _ rfl _ _ 46 rfl W.heap.size 9 q0 (.string ⟨#[]⟩) 1 16 Tryz.underlying46 hq hz0 hz1 hz2 rfl (by decide) _ _ _ rfl (World.ownsRow.alloc hO _) ⟨wr.heap.size, 0, none⟩ 1 1 [.string x] rfl rfl ?c1 ?c2 ?c3 ?c4 ?c5 ?_)
      case c1 =>
        intro j u hj
        match j, hj with
        | 0, hj => simp at hj; subst hj; simp [Addr.add]
      case c2 => intro u hu; simp at hu; subst hu; rfl
      case c3 => have := hl.out; unfold maxLen; omega
      case c4 => have := hl.out; omega
      case c5 => simp; omega
      · intro v' w2 hown2 hgrow _
        have hT2 : Txts W.heap.size w2 v' (xs.take (k + 1)) := by
          unfold Txts
          rw [ht.out, List.length_append, List.map_append, hl.out, List.map_take]
          exact hown2
        have hB2 : Below W.heap.size W w2 := (hB.alloc hsz _).grown hgrow (by simp; omega) (fun g hg => (World.ownsRow.lt hO g hg).1)
        clear hown2 hgrow hO hB
        go_wp2
        first
          | (refine ⟨⟨k + 1, by omega, by go_num, hT2, hB2⟩, (by first | (simp [intOf]; done) | (simp [intOf]; omega) | omega)⟩)
          | (refine ⟨?_, (by first | (simp [intOf]; done) | (simp [intOf]; omega) | omega)⟩; (repeat apply Exists.intro); exact ⟨⟨k + 1, by omega, by go_num, hT2, hB2⟩, rfl⟩)
    · obtain rfl : k = xs.length := by omega
      rw [List.take_length] at hO
      go_wp2
      go_ret
      exact ⟨⟨_, xs, rfl, World.ownsRow.mono hO (by omega), hx.out⟩, b12.trans (hB.mono (by omega))⟩
end Go.Proofs.YtlhhmlfcodmebaaGreatDoor.Wd
