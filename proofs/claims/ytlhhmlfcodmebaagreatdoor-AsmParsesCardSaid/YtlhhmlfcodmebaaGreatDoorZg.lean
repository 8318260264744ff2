/- Several texts of one proof, one behind the other. Words, walked. The conditions: the variables as listed; at most 1048576 bytes. | The reference's Number, walked. The conditions: the table and the variables as listed. -/
import Derived.Test.YtlhhmlfcodmebaaGreatDoorZf
import Derived.Deep.Onto
namespace Go.Proofs.YtlhhmlfcodmebaaGreatDoor.Wd
set_option linter.unusedVariables false
set_option linter.unusedSimpArgs false
open Go.RowKit Go.WideShapes Go.ChangeShapes
set_option linter.unusedVariables false
set_option linter.unusedSimpArgs false
set_option maxHeartbeats 8000000 in
set_option maxRecDepth 100000 in
theorem blank_calls (x : Nat) (w : World) : Calls Tryz.prog 39 #[.int .i32 (x : Int)] w fun e w' => e = .returned (.bool (blank x)) ∧ ∃ q, w' = w.drewN q := by
  have h0 : ∀ W : World, ∃ q, W = W.drewN q := fun W => ⟨0, rfl⟩
  by_cases h1 : x = 32
  · subst h1
    have e : blank 32 = true := by decide
    rw [e]
    go_enter Tryz.func39, Tryz.ntmps39
    go_wp2
    all_goals go_ret
    all_goals exact ⟨rfl, h0 _⟩
  · by_cases h2 : x = 9
    · subst h2
      have e : blank 9 = true := by decide
      rw [e]
      go_enter Tryz.func39, Tryz.ntmps39
      go_wp2
      all_goals go_ret
      all_goals exact ⟨rfl, h0 _⟩
    · have e : blank x = false := by unfold blank; simp [h1, h2]
      rw [e]
      have g1 : ((x : Int) == 32) = false := by rw [beq_eq_false_iff_ne]; omega
      have g2 : ((x : Int) == 9) = false := by rw [beq_eq_false_iff_ne]; omega
      clear h1 h2 e
      go_enter Tryz.func39, Tryz.ntmps39
      go_wp2
      all_goals go_ret
      all_goals exact ⟨rfl, h0 _⟩
theorem cut_calls {w : World} (h : Lies w) (s : ByteArray) (hs : s.size ≤ 1048576) :
    Calls Tryz.prog 37 #[.string s, .string ⟨#[59]⟩] w fun e w' => (∃ t b, e = .returned (.tuple #[.string ⟨(cutAt s.data.toList).toArray⟩, .string t, .bool b])) ∧ Below w.heap.size w w' := by
  obtain ⟨m, hm⟩ := h.cut
  refine (Tryz.strings_Cut s ⟨#[59]⟩ m w (by omega) hm).mono ?_
  rintro e w' ⟨rfl, n, rfl⟩
  exact ⟨⟨⟨(Lib.cut s.data.toList [59]).2.1.toArray⟩, (Lib.cut s.data.toList [59]).2.2, by rw [← cut_fst]⟩, below_drewN (Below.refl _ _) _⟩
theorem cut_size (s : ByteArray) (hs : s.size ≤ 1048576) : (⟨(cutAt s.data.toList).toArray⟩ : ByteArray).size ≤ 1048576 := by
  have h1 := cutAt_len s.data.toList
  have h2 : s.data.toList.length = s.size := Array.length_toList
  have h3 : (⟨(cutAt s.data.toList).toArray⟩ : ByteArray).size = (cutAt s.data.toList).length := by show (cutAt s.data.toList).toArray.size = _; simp
  omega
theorem fields_calls (s : ByteArray) (w : World) (hs : s.size ≤ 1048576) :
    Calls Tryz.prog 38 #[.string ⟨(cutAt s.data.toList).toArray⟩, .func (.func 39) #[] #[]] w fun e w' => (∃ A xs, e = .returned (.slice (some ⟨A, 0, none⟩) xs.length xs.length) ∧ Txts w.heap.size w' (.slice (some ⟨A, 0, none⟩) xs.length xs.length) xs ∧ Hid (xs.map (·.data.toList) = wrd s.data.toList []) ∧ xs.length ≤ 2097152) ∧ Below w.heap.size w w' := by
  have hF := fields_wrd s.data.toList
  rw [cut_fst] at hF
  have hl := cut_size s hs
  have hn : (Lib.goFieldsP blank ⟨(cutAt s.data.toList).toArray⟩).length ≤ 2097152 := by
    have h1 := congrArg List.length hF
    rw [List.length_map] at h1
    have h2 := wrd_count s.data.toList []
    have h3 : s.data.toList.length = s.size := Array.length_toList
    omega
  refine (Tryz.strings_FieldsFunc 39 #[] (enters_of Tryz.func39 (by kernel_rfl) rfl) blank ⟨(cutAt s.data.toList).toArray⟩ w (by omega) (fun W x _ => blank_calls x W)).mono ?_
  rintro e w' ⟨A, rfl, hA, hO, hB⟩
  exact ⟨⟨A, _, rfl, hO, Lib.hid hF, hn⟩, hB⟩
set_option maxHeartbeats 8000000 in
set_option maxRecDepth 100000 in
theorem words_walk (s : ByteArray) (w : World) (h : Lies w) (hs : s.size ≤ 1048576) :
    Calls Tryz.prog 17 #[.string s] w fun e w' => (∃ v xs, e = .returned v ∧ Txts w.heap.size w' v xs ∧ xs.map (·.data.toList) = wrd s.data.toList []) ∧ Below w.heap.size w w' := by
  obtain ⟨q0, hq, hz0, hz1, hz2⟩ := info_parts info_str
  have cC := Lib.hid (cut_calls h s hs)
  have cF := Lib.hid (fun W => fields_calls s W hs)
  clear h
  go_enter Tryz.func17, Tryz.ntmps17
  go_wp2_with (first | (go_at_call 37; ((with_reducible refine (cC.out).mono ?_); rintro e w1 ⟨⟨t, b, rfl⟩, b1⟩)) | (go_at_call 38; ((with_reducible refine (cF.out _).mono ?_); rintro e W ⟨⟨A, xs, rfl, hT, hx, hn⟩, b2⟩)))
  have hsz1 := b1.size
  have hsz2 := b2.size
  have hA : A < W.heap.size := (World.ownsRow.lt hT A rfl).2
  have hcell := fun k (hk : k < xs.length) => World.ownsRow.cells hT (g := A) rfl k (.string xs[k]) (by rw [List.getElem?_map, List.getElem?_eq_getElem hk]; rfl)
  have b12 := b1.trans (b2.mono hsz1)
  clear hT b2 b1
  replace hcell := Lib.hid hcell
  go_loopw [3, 15] (fun v i wr => ∃ k : Nat, k ≤ xs.length ∧ i = .int .i64 k ∧ Txts W.heap.size wr v (xs.take k) ∧ Below W.heap.size W wr) (fun _ i _ => xs.length - (intOf i).toNat)
  case atStart => exact ⟨0, by omega, rfl, World.ownsRow_nil _ _ _ _, Below.refl _ _⟩
  case round =>
    obtain ⟨k, hk, rfl, hO, hB⟩ := hrel
    have hsz := hB.size
    by_cases hkn : k < xs.length
    · have hc := hB.cell (p := ⟨A, k, none⟩) hA
      have hc2 := hcell.out k hkn
      rw [Addr.add_lit, Nat.zero_add] at hc2
      rw [hc2] at hc
      have ht : xs.take (k + 1) = xs.take k ++ [xs[k]] := by rw [List.take_add_one, List.getElem?_eq_getElem hkn]; rfl
      have hl : (xs.take k).length = k := by rw [List.length_take]; omega
      generalize xs[k] = x at *
      replace ht := Lib.hid ht
      replace hl := Lib.hid hl
      clear hc2
      go_wp2_with (at_builtin; refine wpList_append_own _ rfl _ _ 46 rfl W.heap.size 9 q0 (.string ⟨#[]⟩) 1 16 Tryz.underlying46 hq hz0 hz1 hz2 rfl (by decide) _ _ _ rfl (World.ownsRow.alloc hO _) ⟨wr.heap.size, 0, none⟩ 1 1 [.string x] rfl rfl ?c1 ?c2 ?c3 ?c4 ?c5 ?_)
      case c1 =>
        intro j u hj
        match j, hj with
        | 0, hj => simp at hj; subst hj; simp [Addr.add]
      case c2 => intro u hu; simp at hu; subst hu; rfl
      case c3 => have := hl.out; unfold maxLen; omega
      case c4 => have := hl.out; omega
      case c5 => simp; omega
      · intro v' w2 hown2 hgrow _
        have hT2 : Txts W.heap.size w2 v' (xs.take (k + 1)) := by
          unfold Txts
          rw [ht.out, List.length_append, List.map_append, hl.out, List.map_take]
          exact hown2
        have hB2 : Below W.heap.size W w2 := (hB.alloc hsz _).grown hgrow (by simp; omega) (fun g hg => (World.ownsRow.lt hO g hg).1)
        clear hown2 hgrow hO hB
        go_wp2
        first
          | (refine ⟨⟨k + 1, by omega, by go_num, hT2, hB2⟩, (by first | (simp [intOf]; done) | (simp [intOf]; omega) | omega)⟩)
          | (refine ⟨?_, (by first | (simp [intOf]; done) | (simp [intOf]; omega) | omega)⟩; (repeat apply Exists.intro); exact ⟨⟨k + 1, by omega, by go_num, hT2, hB2⟩, rfl⟩)
    · obtain rfl : k = xs.length := by omega
      rw [List.take_length] at hO
      go_wp2
      go_ret
      exact ⟨⟨_, xs, rfl, World.ownsRow.mono hO (by omega), hx.out⟩, b12.trans (hB.mono (by omega))⟩
end Go.Proofs.YtlhhmlfcodmebaaGreatDoor.Wd
namespace Go.Proofs.YtlhhmlfcodmebaaGreatDoor.Wd
set_option linter.unusedVariables false
set_option linter.unusedSimpArgs false
open Go.RowKit Go.WideShapes Go.ChangeShapes
open Go.Lib (itoa)
set_option linter.unusedVariables false
set_option linter.unusedSimpArgs false
/-- What the reference comes to, half way. -/
def half (l : List UInt8) (b : Bool) (m : Nat) (r : List UInt8) : Int × Bool := match digs m r with | none => (0, false) | some x => fin l b x
theorem half_neg (r : List UInt8) (h : ¬ 20 < (45 :: r : List UInt8).length) : refNum (45 :: r) = half (45 :: r) true 0 r := by
  unfold refNum
  rw [if_neg h]
  rfl
theorem half_pos (l : List UInt8) (hl : ∀ r, l ≠ 45 :: r) (h : ¬ 20 < l.length) : refNum l = half l false 0 l := by
  unfold refNum
  rw [if_neg h]
  split
  · exact absurd rfl (hl _)
  · rfl
theorem half_bad (l : List UInt8) (b : Bool) (m : Nat) (c : UInt8) (r : List UInt8) (h : c.toNat < 48 ∨ 57 < c.toNat ∨ 922337203685477580 < m) : half l b m (c :: r) = (0, false) := by
  unfold half digs
  rw [if_pos h]
theorem half_on (l : List UInt8) (b : Bool) (m : Nat) (c : UInt8) (r : List UInt8) (h : ¬ (c.toNat < 48 ∨ 57 < c.toNat ∨ 922337203685477580 < m)) : half l b m (c :: r) = half l b (m * 10 + (c.toNat - 48)) r := by
  unfold half
  rw [digs, if_neg h]
theorem half_nil (l : List UInt8) (b : Bool) (m : Nat) : half l b m [] = fin l b m := rfl
theorem sgn_f (m : Nat) : sgn false m = wrap64 (m : Int) := by
  unfold sgn
  rw [if_neg (by decide), IntWalk.i64_left]
theorem sgn_t (m : Nat) : sgn true m = wrap64 (-(wrap64 (m : Int))) := by
  unfold sgn
  rw [if_pos rfl, IntWalk.i64_left, IntWalk.i64_left]
set_option maxHeartbeats 8000000 in
set_option maxRecDepth 100000 in
theorem rnumber_walk (s : ByteArray) (w : World) (h : Lies w) (hs : s.size ≤ 281474976710656) :
    Calls Tryz.prog 60 #[.string s] w fun e w' => e = .returned (.tuple #[.int .i64 (num s.data.toList).1, .bool (num s.data.toList).2]) ∧ Below w.heap.size w w' := by
  rw [← ref_num]
  have hlen : s.data.toList.length = s.size := by rw [Array.length_toList]; rfl
  have cF := Lib.hid (fun (W : World) (h : Lies W) (n : Int) (hn : -9223372036854775808 ≤ n ∧ n ≤ 9223372036854775807) => format_calls h n hn.1 hn.2)
  have hh := Lib.hid h
  clear h
  by_cases h20 : 20 < s.size
  · have e : refNum s.data.toList = (0, false) := by unfold refNum; rw [if_pos (by omega)]
    rw [e]
    clear hlen
    go_enter Tryz.func60, Tryz.ntmps60
    go_wp2
    go_ret2
    exact ⟨rfl, Below.refl _ _⟩
  · obtain ⟨r, hr⟩ : ∃ r, Hid (r = refNum s.data.toList) := ⟨_, Lib.hid rfl⟩
    rw [← hr.out]
    go_enter Tryz.func60, Tryz.ntmps60
    go_wp2
    go_loopw [4, 5, 6] (fun x b i wr => ∃ (k m : Nat) (neg : Bool), x = .int .u64 m ∧ b = .bool neg ∧ i = .int .i64 k ∧ k ≤ s.size ∧ m ≤ 9223372036854775809 ∧ wr = w ∧ (k = 0 → m = 0 ∧ neg = false) ∧ Hid (0 < k → r = half s.data.toList neg m (s.data.toList.drop k))) (fun _ _ i _ => s.size - (intOf i).toNat)
    case atStart => exact ⟨0, 0, false, rfl, rfl, rfl, by omega, by omega, rfl, fun _ => ⟨rfl, rfl⟩, Lib.hid fun q => absurd q (by omega)⟩
    case round =>
      obtain ⟨k, m, neg, rfl, rfl, rfl, hk, hm, rfl, h0, hq⟩ := hrel
      by_cases hks : k < s.size
      · have hd := drop_at s k hks
        have hx := UInt8.toNat_lt s[k]
        by_cases hn : k = 0 ∧ s[k] = 45
        · obtain ⟨rfl, h45⟩ := hn
          obtain ⟨rfl, rfl⟩ := h0 rfl
          have t45 : s[0].toNat = 45 := by rw [h45]; rfl
          have hr' : r = half s.data.toList true 0 (s.data.toList.drop 1) := by
            rw [hr.out]
            rw [h45, List.drop_zero] at hd
            rw [hd]
            exact half_neg _ (by rw [← hd]; omega)
          replace hr' := Lib.hid hr'
          clear hd hq
          go_wp2
          all_goals refine ⟨⟨1, 0, true, rfl, rfl, rfl, by omega, by omega, trivial, fun q => absurd q (by omega), Lib.hid fun _ => hr'.out⟩, (by first | (simp [intOf]; done) | (simp [intOf]; omega) | omega)⟩
        · have hrr : Hid (r = half s.data.toList neg m (s[k] :: s.data.toList.drop (k + 1))) := by
            refine Lib.hid ?_
            rw [← hd]
            by_cases hk0 : k = 0
            · subst hk0
              obtain ⟨rfl, rfl⟩ := h0 rfl
              rw [hr.out, List.drop_zero]
              refine half_pos _ (fun r' e => hn ⟨rfl, ?_⟩) (by omega)
              rw [List.drop_zero, e] at hd
              exact (List.cons.inj hd).1.symm
            · exact hq.out (by omega)
          clear hq hd
          by_cases hk0 : k = 0
          · have t45 : ((s[k].toNat : Int) == 45) = false := by
              rw [beq_eq_false_iff_ne]
              exact fun e => hn ⟨hk0, UInt8.toNat_inj.1 (by show s[k].toNat = 45; omega)⟩
            clear hn
            obtain ⟨rfl, rfl⟩ := h0 hk0
            subst hk0
            by_cases q1 : (s[0].toNat : Int) < 48
            · have hr0 : Hid (r = (0, false)) := Lib.hid (by rw [hrr.out]; exact half_bad _ _ _ _ _ (by omega))
              clear hrr
              go_wp2
              all_goals go_ret2
              all_goals (rw [hr0.out]; exact ⟨rfl, Below.refl _ _⟩)
            · by_cases q2 : (57 : Int) < (s[0].toNat : Int)
              · have hr0 : Hid (r = (0, false)) := Lib.hid (by rw [hrr.out]; exact half_bad _ _ _ _ _ (by omega))
                clear hrr
                go_wp2
                all_goals go_ret2
                all_goals (rw [hr0.out]; exact ⟨rfl, Below.refl _ _⟩)
              · by_cases q3 : (922337203685477580 : Int) < ((0 : Nat) : Int)
                · exact absurd q3 (by omega)
                · have hr1 : Hid (r = half s.data.toList false (0 * 10 + (s[0].toNat - 48)) (s.data.toList.drop (0 + 1))) := Lib.hid (by rw [hrr.out]; exact half_on _ _ _ _ _ (by omega))
                  clear hrr
                  have hc48 : 48 ≤ s[0].toNat := by omega
                  have hc57 : s[0].toNat ≤ 57 := by omega
                  go_wp2
                  all_goals refine ⟨⟨1, 0 * 10 + (s[0].toNat - 48), false, ?_, rfl, by go_num, by omega, by omega, trivial, fun q => absurd q (by omega), Lib.hid fun _ => hr1.out⟩, (by first | (simp [intOf]; done) | (simp [intOf]; omega) | omega)⟩
                  all_goals (congr 1; go_num)
          · have tk : ¬ ((k : Int) = 0) := by omega
            clear hn
            by_cases q1 : (s[k].toNat : Int) < 48
            · have hr0 : Hid (r = (0, false)) := Lib.hid (by rw [hrr.out]; exact half_bad _ _ _ _ _ (by omega))
              clear hrr
              go_wp2
              all_goals go_ret2
              all_goals (rw [hr0.out]; exact ⟨rfl, Below.refl _ _⟩)
            · by_cases q2 : (57 : Int) < (s[k].toNat : Int)
              · have hr0 : Hid (r = (0, false)) := Lib.hid (by rw [hrr.out]; exact half_bad _ _ _ _ _ (by omega))
                clear hrr
                go_wp2
                all_goals go_ret2
                all_goals (rw [hr0.out]; exact ⟨rfl, Below.refl _ _⟩)
              · by_cases q3 : (922337203685477580 : Int) < (m : Int)
                · have hr0 : Hid (r = (0, false)) := Lib.hid (by rw [hrr.out]; exact half_bad _ _ _ _ _ (by omega))
                  clear hrr
                  go_wp2
                  all_goals go_ret2
                  all_goals (rw [hr0.out]; exact ⟨rfl, Below.refl _ _⟩)
                · have hr1 : Hid (r = half s.data.toList neg (m * 10 + (s[k].toNat - 48)) (s.data.toList.drop (k + 1))) := Lib.hid (by rw [hrr.out]; exact half_on _ _ _ _ _ (by omega))
                  clear hrr
                  have hc48 : 48 ≤ s[k].toNat := by omega
                  have hc57 : s[k].toNat ≤ 57 := by omega
                  go_wp2
                  all_goals refine ⟨⟨k + 1, m * 10 + (s[k].toNat - 48), neg, ?_, rfl, by go_num, by omega, by omega, trivial, fun q => absurd q (by omega), Lib.hid fun _ => hr1.out⟩, (by first | (simp [intOf]; done) | (simp [intOf]; omega) | omega)⟩
                  all_goals (congr 1; go_num)
      · have hrr : Hid (r = fin s.data.toList neg m) := by
          refine Lib.hid ?_
          have hd : s.data.toList.drop k = [] := List.drop_eq_nil_of_le (by omega)
          rw [← half_nil]
          by_cases hk0 : k = 0
          · subst hk0
            obtain ⟨rfl, rfl⟩ := h0 rfl
            rw [List.drop_zero] at hd
            rw [hr.out, half_pos _ (fun r' e => by rw [hd] at e; cases e) (by omega), hd]
          · rw [hq.out (by omega), hd]
        clear hq hr h0
        by_cases q1 : (9223372036854775808 : Int) < (m : Int)
        · have hr0 : Hid (r = (0, false)) := Lib.hid (by rw [hrr.out]; unfold fin; rw [if_pos (.inl (by omega))])
          clear hrr
          cases neg
          · go_wp2
            all_goals go_ret2
            all_goals (rw [hr0.out]; exact ⟨rfl, Below.refl _ _⟩)
          · go_wp2
            all_goals go_ret2
            all_goals (rw [hr0.out]; exact ⟨rfl, Below.refl _ _⟩)
        · have hr0 : Hid (r = if itoa (sgn neg m) ≠ s.data.toList then (0, false) else (sgn neg m, true)) := Lib.hid (by
            rw [hrr.out]; unfold fin
            by_cases hi : itoa (sgn neg m) ≠ s.data.toList
            · rw [if_pos (.inr hi), if_pos hi]
            · rw [if_neg (by intro q; rcases q with q | q; omega; exact hi q), if_neg hi])
          clear hrr
          cases neg
          · have hv : -9223372036854775808 ≤ wrap64 (m : Int) ∧ wrap64 (m : Int) ≤ 9223372036854775807 := sgn_f m ▸ sgn_i64 false m
            have hs' : Hid (sgn false m = wrap64 (m : Int)) := Lib.hid (sgn_f m)
            go_wp2_with ((go_at_call 45; ((with_reducible refine (cF.out _ hh.out _ hv).mono ?_); rintro e w' ⟨rfl, b2⟩)))
            all_goals go_ret2
            all_goals refine ⟨?_, b2⟩
            · next he =>
              have he' : ¬ itoa (wrap64 (m : Int)) = s.data.toList := by
                rw [ByteArray.toList_eq] at he
                simpa using he
              rw [hr0.out, hs'.out, if_pos he']
              rfl
            · next he =>
              have he' : itoa (wrap64 (m : Int)) = s.data.toList := by
                rw [ByteArray.toList_eq] at he
                simpa using he
              rw [hr0.out, hs'.out, if_neg (fun q => q he')]
              rfl
          · have hv : -9223372036854775808 ≤ wrap64 (-(wrap64 (m : Int))) ∧ wrap64 (-(wrap64 (m : Int))) ≤ 9223372036854775807 := sgn_t m ▸ sgn_i64 true m
            have hs' : Hid (sgn true m = wrap64 (-(wrap64 (m : Int)))) := Lib.hid (sgn_t m)
            go_wp2_with ((go_at_call 45; ((with_reducible refine (cF.out _ hh.out _ hv).mono ?_); rintro e w' ⟨rfl, b2⟩)))
            all_goals go_ret2
            all_goals refine ⟨?_, b2⟩
            · next he =>
              have he' : ¬ itoa (wrap64 (-(wrap64 (m : Int)))) = s.data.toList := by
                rw [ByteArray.toList_eq] at he
                simpa using he
              rw [hr0.out, hs'.out, if_pos he']
              rfl
            · next he =>
              have he' : itoa (wrap64 (-(wrap64 (m : Int)))) = s.data.toList := by
                rw [ByteArray.toList_eq] at he
                simpa using he
              rw [hr0.out, hs'.out, if_neg (fun q => q he')]
              rfl
end Go.Proofs.YtlhhmlfcodmebaaGreatDoor.Wd
