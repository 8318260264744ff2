/- The reference's Words, walked. The condition: at most 1048576 bytes. -/
import Derived.Test.YtlhhmlfcodmebaaDoorTx
import Derived.Test.YtlhhmlfcodmebaaDoorWd0
namespace Go.Proofs.YtlhhmlfcodmebaaDoor.Wd
open Go.RowKit Go.WideShapes Go.ChangeShapes
set_option linter.unusedVariables false
set_option linter.unusedSimpArgs false
theorem drop_at (s : ByteArray) (k : Nat) (hk : k < s.size) : s.data.toList.drop k = s[k] :: s.data.toList.drop (k + 1) := by
  have h : k < s.data.toList.length := by rw [Array.length_toList]; exact hk
  rw [List.drop_eq_getElem_cons h, Array.getElem_toList]
  rfl
theorem tl_nil (c : ByteArray) : c.toList = [] ↔ c.data.toList = [] := by rw [ByteArray.toList_eq]
theorem ext_one (s : ByteArray) (k : Nat) (hk : k < s.size) : (s.extract k (k + 1)).data.toList = [s[k]] := by
  have h := drop_at s k hk
  have e : (s.extract k (k + 1)).data.toList = (s.data.toList.drop k).take 1 := by
    rw [ByteArray.data_extract, Array.toList_extract, List.extract_eq_take_drop]
    congr 1
    omega
  rw [e, h]
  rfl
theorem cur_add (c : ByteArray) (s : ByteArray) (k : Nat) (hk : k < s.size) : (c ++ s.extract k (k + 1)).data.toList = c.data.toList ++ [s[k]] := by
  rw [← ext_one s k hk, ByteArray.data_append, Array.toList_append]
set_option maxHeartbeats 8000000 in
set_option maxRecDepth 100000 in
theorem rwords_walk (s : ByteArray) (w : World) (hs : s.size ≤ 1048576) :
    Calls Tryd.prog 8 #[.string s] w fun e w' => (∃ v xs, e = .returned v ∧ Txts w.heap.size w' v xs ∧ xs.map (·.data.toList) = wrd s.data.toList []) ∧ Below w.heap.size w w' := by
  obtain ⟨q0, hq, hz0, hz1, hz2⟩ := info_parts info_str
  go_enter Tryd.func8, Tryd.ntmps8
  go_wp2
  go_loopw [3, 4, 5] (fun v c i wr => ∃ (k : Nat) (xs : List ByteArray) (cur : ByteArray), i = .int .i64 k ∧ c = .string cur ∧ k ≤ s.size ∧ Txts w.heap.size wr v xs ∧ Below w.heap.size w wr ∧ xs.length ≤ k ∧ cur.size ≤ k ∧ Hid (wrd s.data.toList [] = xs.map (·.data.toList) ++ wrd (s.data.toList.drop k) cur.data.toList)) (fun _ _ i _ => s.size - (intOf i).toNat)
  case atStart => exact ⟨0, [], ⟨#[]⟩, rfl, rfl, by omega, World.ownsRow_nil _ _ _ _, Below.refl _ _, Nat.le_refl _, Nat.le_refl _, Lib.hid rfl⟩
  case round =>
    obtain ⟨k, xs, cur, rfl, rfl, hk, hT, hB, hn, hc, hr⟩ := hrel
    have hsz := hB.size
    by_cases hks : k < s.size
    · have hr' := hr.out
      clear hr
      rw [drop_at s k hks, wrd] at hr'
      have hcur := cur_add cur s k hks
      have hx := UInt8.toNat_lt s[k]
      by_cases h59 : s[k] = 59
      · have t59 : s[k].toNat = 59 := by rw [h59]; rfl
        rw [if_pos h59] at hr'
        clear hcur
        by_cases he : cur.toList.isEmpty = true
        · rw [if_pos ((tl_nil cur).1 (List.isEmpty_iff.1 he))] at hr'
          rw [List.append_nil] at hr'
          replace hr' := Lib.hid hr'
          go_wp2
          go_ret
          exact ⟨⟨_, xs, rfl, hT, hr'.out.symm⟩, hB⟩
        · rw [if_neg (fun e => he (List.isEmpty_iff.2 ((tl_nil cur).2 e)))] at hr'
          replace hr' := Lib.hid hr'
          have he' : cur.toList.isEmpty = false := by simpa using he
          clear he
          go_wp2_with (at_builtin; refine wpList_append_own _ rfl _ _ 24 rfl w.heap.size 9 q0 (.string ⟨#[]⟩) 1 16 Tryd.underlying24 hq hz0 hz1 hz2 rfl (by decide) _ _ _ rfl (World.ownsRow.alloc hT _) ⟨wr.heap.size, 0, none⟩ 1 1 [.string cur] rfl rfl ?c1 ?c2 ?c3 ?c4 ?c5 ?_)
          case c1 =>
            intro j u hj
            match j, hj with
            | 0, hj => simp at hj; subst hj; simp [Addr.add]
          case c2 => intro u hu; simp at hu; subst hu; rfl
          case c3 => unfold maxLen; omega
          case c4 => omega
          case c5 => simp; omega
          · intro v' w2 hown2 hgrow _
            have hT2 : Txts w.heap.size w2 v' (xs ++ [cur]) := by
              unfold Txts
              rw [List.length_append, List.map_append]
              exact hown2
            have hB2 : Below w.heap.size w w2 := (hB.alloc hsz _).grown hgrow (by simp; omega) (fun g hg => (World.ownsRow.lt hT g hg).1)
            clear hown2 hgrow hT hB
            go_wp2
            go_ret
            exact ⟨⟨v', xs ++ [cur], rfl, hT2, by rw [hr'.out, List.map_append]; rfl⟩, hB2⟩
      · have t59 : ((s[k].toNat : Int) == 59) = false := by
          rw [beq_eq_false_iff_ne]
          exact fun e => h59 (UInt8.toNat_inj.1 (by show s[k].toNat = 59; omega))
        rw [if_neg h59] at hr'
        by_cases hb32 : s[k] = 32
        · rw [if_pos (Or.inl hb32)] at hr'
          clear hcur
          have t32 : s[k].toNat = 32 := by rw [hb32]; rfl
          by_cases he : cur.toList.isEmpty = true
          · rw [if_pos ((tl_nil cur).1 (List.isEmpty_iff.1 he))] at hr'
            replace hr' := Lib.hid hr'
            go_wp2
            first
              | (refine ⟨⟨k + 1, xs, ⟨#[]⟩, by go_num, rfl, by omega, hT, hB, by omega, Nat.zero_le _, hr'⟩, (by first | (simp [intOf]; done) | (simp [intOf]; omega) | omega)⟩)
              | (refine ⟨?_, (by first | (simp [intOf]; done) | (simp [intOf]; omega) | omega)⟩; (repeat apply Exists.intro); exact ⟨⟨k + 1, xs, ⟨#[]⟩, by go_num, rfl, by omega, hT, hB, by omega, Nat.zero_le _, hr'⟩, rfl⟩)
          · rw [if_neg (fun e => he (List.isEmpty_iff.2 ((tl_nil cur).2 e)))] at hr'
            replace hr' := Lib.hid hr'
            have he' : cur.toList.isEmpty = false := by simpa using he
            clear he
            go_wp2_with (at_builtin; refine wpList_append_own _ rfl _ _ 24 rfl w.heap.size 9 q0 (.string ⟨#[]⟩) 1 16 Tryd.underlying24 hq hz0 hz1 hz2 rfl (by decide) _ _ _ rfl (World.ownsRow.alloc hT _) ⟨wr.heap.size, 0, none⟩ 1 1 [.string cur] rfl rfl ?c1 ?c2 ?c3 ?c4 ?c5 ?_)
            case c1 =>
              intro j u hj
              match j, hj with
              | 0, hj => simp at hj; subst hj; simp [Addr.add]
            case c2 => intro u hu; simp at hu; subst hu; rfl
            case c3 => unfold maxLen; omega
            case c4 => omega
            case c5 => simp; omega
            · intro v' w2 hown2 hgrow _
              have hT2 : Txts w.heap.size w2 v' (xs ++ [cur]) := by
                unfold Txts
                rw [List.length_append, List.map_append]
                exact hown2
              have hB2 : Below w.heap.size w w2 := (hB.alloc hsz _).grown hgrow (by simp; omega) (fun g hg => (World.ownsRow.lt hT g hg).1)
              clear hown2 hgrow hT hB
              have hr2 : Hid (wrd s.data.toList [] = (xs ++ [cur]).map (·.data.toList) ++ wrd (s.data.toList.drop (k + 1)) []) := Lib.hid (by rw [hr'.out, List.map_append, List.append_assoc]; rfl)
              go_wp2
              first
                | (refine ⟨⟨k + 1, (xs ++ [cur]), ⟨#[]⟩, by go_num, rfl, by omega, hT2, hB2, by (rw [List.length_append, List.length_singleton]; omega), Nat.zero_le _, hr2⟩, (by first | (simp [intOf]; done) | (simp [intOf]; omega) | omega)⟩)
                | (refine ⟨?_, (by first | (simp [intOf]; done) | (simp [intOf]; omega) | omega)⟩; (repeat apply Exists.intro); exact ⟨⟨k + 1, (xs ++ [cur]), ⟨#[]⟩, by go_num, rfl, by omega, hT2, hB2, by (rw [List.length_append, List.length_singleton]; omega), Nat.zero_le _, hr2⟩, rfl⟩)
        · have t32 : ((s[k].toNat : Int) == 32) = false := by
            rw [beq_eq_false_iff_ne]
            exact fun e => hb32 (UInt8.toNat_inj.1 (by show s[k].toNat = 32; omega))
          by_cases hb9 : s[k] = 9
          · rw [if_pos (Or.inr hb9)] at hr'
            clear hcur
            have t9 : s[k].toNat = 9 := by rw [hb9]; rfl
            by_cases he : cur.toList.isEmpty = true
            · rw [if_pos ((tl_nil cur).1 (List.isEmpty_iff.1 he))] at hr'
              replace hr' := Lib.hid hr'
              go_wp2
              first
                | (refine ⟨⟨k + 1, xs, ⟨#[]⟩, by go_num, rfl, by omega, hT, hB, by omega, Nat.zero_le _, hr'⟩, (by first | (simp [intOf]; done) | (simp [intOf]; omega) | omega)⟩)
                | (refine ⟨?_, (by first | (simp [intOf]; done) | (simp [intOf]; omega) | omega)⟩; (repeat apply Exists.intro); exact ⟨⟨k + 1, xs, ⟨#[]⟩, by go_num, rfl, by omega, hT, hB, by omega, Nat.zero_le _, hr'⟩, rfl⟩)
            · rw [if_neg (fun e => he (List.isEmpty_iff.2 ((tl_nil cur).2 e)))] at hr'
              replace hr' := Lib.hid hr'
              have he' : cur.toList.isEmpty = false := by simpa using he
              clear he
              go_wp2_with (at_builtin; refine wpList_append_own _ rfl _ _ 24 rfl w.heap.size 9 q0 (.string ⟨#[]⟩) 1 16 Tryd.underlying24 hq hz0 hz1 hz2 rfl (by decide) _ _ _ rfl (World.ownsRow.alloc hT _) ⟨wr.heap.size, 0, none⟩ 1 1 [.string cur] rfl rfl ?c1 ?c2 ?c3 ?c4 ?c5 ?_)
              case c1 =>
                intro j u hj
                match j, hj with
                | 0, hj => simp at hj; subst hj; simp [Addr.add]
              case c2 => intro u hu; simp at hu; subst hu; rfl
              case c3 => unfold maxLen; omega
              case c4 => omega
              case c5 => simp; omega
              · intro v' w2 hown2 hgrow _
                have hT2 : Txts w.heap.size w2 v' (xs ++ [cur]) := by
                  unfold Txts
                  rw [List.length_append, List.map_append]
                  exact hown2
                have hB2 : Below w.heap.size w w2 := (hB.alloc hsz _).grown hgrow (by simp; omega) (fun g hg => (World.ownsRow.lt hT g hg).1)
                clear hown2 hgrow hT hB
                have hr2 : Hid (wrd s.data.toList [] = (xs ++ [cur]).map (·.data.toList) ++ wrd (s.data.toList.drop (k + 1)) []) := Lib.hid (by rw [hr'.out, List.map_append, List.append_assoc]; rfl)
                go_wp2
                first
                  | (refine ⟨⟨k + 1, (xs ++ [cur]), ⟨#[]⟩, by go_num, rfl, by omega, hT2, hB2, by (rw [List.length_append, List.length_singleton]; omega), Nat.zero_le _, hr2⟩, (by first | (simp [intOf]; done) | (simp [intOf]; omega) | omega)⟩)
                  | (refine ⟨?_, (by first | (simp [intOf]; done) | (simp [intOf]; omega) | omega)⟩; (repeat apply Exists.intro); exact ⟨⟨k + 1, (xs ++ [cur]), ⟨#[]⟩, by go_num, rfl, by omega, hT2, hB2, by (rw [List.length_append, List.length_singleton]; omega), Nat.zero_le _, hr2⟩, rfl⟩)
          · have t9 : ((s[k].toNat : Int) == 9) = false := by
              rw [beq_eq_false_iff_ne]
              exact fun e => hb9 (UInt8.toNat_inj.1 (by show s[k].toNat = 9; omega))
            rw [if_neg (by simp [hb32, hb9]), ← hcur] at hr'
            replace hr' := Lib.hid hr'
            have hsx : (s.extract k (k + 1)).size = 1 := by simp; omega
            have hlen : ¬ 9223372036854775807 < cur.size + (s.extract k (k + 1)).size := by omega
            have hca : (cur ++ s.extract k (k + 1)).size ≤ k + 1 := by rw [ByteArray.size_append]; omega
            clear hb32 hb9 h59 hcur
            go_wp2
            all_goals first
              | (refine ⟨⟨k + 1, xs, (cur ++ s.extract k (k + 1)), by go_num, rfl, by omega, hT, hB, by omega, hca, hr'⟩, (by first | (simp [intOf]; done) | (simp [intOf]; omega) | omega)⟩)
              | (refine ⟨?_, (by first | (simp [intOf]; done) | (simp [intOf]; omega) | omega)⟩; (repeat apply Exists.intro); exact ⟨⟨k + 1, xs, (cur ++ s.extract k (k + 1)), by go_num, rfl, by omega, hT, hB, by omega, hca, hr'⟩, rfl⟩)
    · have hr' := hr.out
      clear hr
      rw [List.drop_eq_nil_of_le (by rw [Array.length_toList]; show s.size ≤ k; omega), wrd] at hr'
      by_cases he : cur.toList.isEmpty = true
      · rw [if_pos ((tl_nil cur).1 (List.isEmpty_iff.1 he))] at hr'
        rw [List.append_nil] at hr'
        replace hr' := Lib.hid hr'
        go_wp2
        go_ret
        exact ⟨⟨_, xs, rfl, hT, hr'.out.symm⟩, hB⟩
      · rw [if_neg (fun e => he (List.isEmpty_iff.2 ((tl_nil cur).2 e)))] at hr'
        replace hr' := Lib.hid hr'
        have he' : cur.toList.isEmpty = false := by simpa using he
        clear he
        go_wp2_with (at_builtin; refine wpList_append_own _ rfl _ _ 24 rfl w.heap.size 9 q0 (.string ⟨#[]⟩) 1 16 Tryd.underlying24 hq hz0 hz1 hz2 rfl (by decide) _ _ _ rfl (World.ownsRow.alloc hT _) ⟨wr.heap.size, 0, none⟩ 1 1 [.string cur] rfl rfl ?c1 ?c2 ?c3 ?c4 ?c5 ?_)
        case c1 =>
          intro j u hj
          match j, hj with
          | 0, hj => simp at hj; subst hj; simp [Addr.add]
        case c2 => intro u hu; simp at hu; subst hu; rfl
        case c3 => unfold maxLen; omega
        case c4 => omega
        case c5 => simp; omega
        · intro v' w2 hown2 hgrow _
          have hT2 : Txts w.heap.size w2 v' (xs ++ [cur]) := by
            unfold Txts
            rw [List.length_append, List.map_append]
            exact hown2
          have hB2 : Below w.heap.size w w2 := (hB.alloc hsz _).grown hgrow (by simp; omega) (fun g hg => (World.ownsRow.lt hT g hg).1)
          clear hown2 hgrow hT hB
          go_wp2
          go_ret
          exact ⟨⟨v', xs ++ [cur], rfl, hT2, by rw [hr'.out, List.map_append]; rfl⟩, hB2⟩
end Go.Proofs.YtlhhmlfcodmebaaDoor.Wd
