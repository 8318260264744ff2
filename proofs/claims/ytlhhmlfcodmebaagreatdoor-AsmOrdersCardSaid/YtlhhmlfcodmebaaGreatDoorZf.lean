/- Several texts of one proof, one behind the other. What the library gives these walks in all later worlds, and Number, walked. The conditions: the table and the variables as listed. | Lists of texts in memory, and that two like ones are told so. No condition. | The reference's Words, walked. The condition: at most 1048576 bytes. -/
import Derived.Test.YtlhhmlfcodmebaaGreatDoorZe
import Derived.Test.YtlhhmlfcodmebaaGreatDoorZShelfW
import Derived.Lib.LaidTab
import Derived.Lib.AppendIntMem
import Derived.Lib.Hide
import Derived.WalkKit
import Derived.Stop.IfaceNil
import Derived.Below
import Derived.WalkSmall
import Derived.Deep.AppendLies
import Derived.Laws.AppendOwn
import Derived.Laws.OwnMore
import Derived.OwnWalk
namespace Go.Proofs.YtlhhmlfcodmebaaGreatDoor.Wd
set_option linter.unusedVariables false
set_option linter.unusedSimpArgs false
open Go.RowKit Go.WideShapes Go.ChangeShapes
open Go.Lib (itoa)
set_option linter.unusedVariables false
set_option linter.unusedSimpArgs false
/-- What must lie in a world. -/
structure Lies (w : World) : Prop where
  cut : ∃ m, w.cell? ⟨0, 0, none⟩ = some (.int .i64 m)
  pow : Lib.TabIs Tryz.prog w "internal/strconv.uint64pow10" .u64 Lib.pow10Tab
  es : ∃ ev, w.cell? ⟨4, 0, none⟩ = some ev ∧ (ev = .nilIface ∨ ∃ te pe, ev = .iface te pe)
  er : ∃ ev, w.cell? ⟨5, 0, none⟩ = some ev ∧ (ev = .nilIface ∨ ∃ te pe, ev = .iface te pe)
theorem cell_lt {w : World} {b : Nat} {v : Value} (h : w.cell? ⟨b, 0, none⟩ = some v) : b < w.heap.size := by
  rcases Nat.lt_or_ge b w.heap.size with h1 | h1
  · exact h1
  · rw [World.cell?, Array.getElem?_eq_none h1] at h
    cases h
theorem Lies.below {w w' : World} (h : Lies w) (hb : Below w.heap.size w w') : Lies w' := by
  have go : ∀ {b : Nat} {v : Value}, w.cell? ⟨b, 0, none⟩ = some v → w'.cell? ⟨b, 0, none⟩ = some v := fun {b v} hc => by rw [hb.cell (by simpa using cell_lt hc)]; exact hc
  obtain ⟨⟨m, hm⟩, hp, ⟨e1, h1, k1⟩, ⟨e2, h2, k2⟩⟩ := h
  exact ⟨⟨m, go hm⟩, Lib.tabBelow_of_tabIs hp w' hb, ⟨e1, go h1, k1⟩, ⟨e2, go h2, k2⟩⟩
theorem format_calls {w : World} (h : Lies w) (n : Int) (h0 : -9223372036854775808 ≤ n) (h1 : n ≤ 9223372036854775807) :
    Calls Tryz.prog 45 #[.int .i64 n, .int .i64 10] w fun e w' => e = .returned (.string ⟨(itoa n).toArray⟩) ∧ Below w.heap.size w w' := by
  refine (Tryz.strconv_FormatInt_10 n h0 h1 w h.pow).mono ?_
  rintro e w' ⟨he, k, os, rfl⟩
  exact ⟨he, Lib.below_grow _ w (Nat.le_refl _) k os⟩
theorem parse_calls {w : World} (h : Lies w) (s : ByteArray) (hs : s.size ≤ 281474976710656) :
    Calls Tryz.prog 136 #[.string s, .int .i64 10, .int .i64 64] w fun e w' => (∃ v x, e = .returned (.tuple #[.int .i64 v, x]) ∧ ((x = .nilIface ∧ Lib.parseIntB 64 s.data.toList = .ok v) ∨ ((∃ t p, x = .iface t p) ∧ num s.data.toList = (0, false)))) ∧ Below w.heap.size w w' := by
  obtain ⟨e1, h1, k1⟩ := h.es
  obtain ⟨e2, h2, k2⟩ := h.er
  cases hp : Lib.parseIntB 64 s.data.toList with
  | ok v =>
    refine (Tryz.strconv_ParseInt_10_at64_ok s (by omega) v hp w).mono ?_
    rintro e w' ⟨he, rfl | ⟨t, rfl⟩⟩
    · exact ⟨⟨v, .nilIface, he, .inl ⟨rfl, rfl⟩⟩, Below.refl _ _⟩
    · exact ⟨⟨v, .nilIface, he, .inl ⟨rfl, rfl⟩⟩, Lib.bytesWorld_below w 5 t⟩
  | range =>
    refine (Any.strconv_ParseInt_10_at64_range Tryz.laysC174 s hs hp e2 w h2 k2).mono ?_
    rintro e w' ⟨N, he, _, _, hb⟩
    exact ⟨⟨_, _, he, .inr ⟨⟨_, _, rfl⟩, by unfold num; rw [hp]⟩⟩, hb⟩
  | _ =>
    refine (Any.strconv_ParseInt_10_at64_syntax Tryz.laysC174 s hs hp e1 w h1 k1).mono ?_
    rintro e w' ⟨N, he, _, _, hb⟩
    exact ⟨⟨_, _, he, .inr ⟨⟨_, _, rfl⟩, by unfold num; rw [hp]⟩⟩, hb⟩
set_option maxHeartbeats 4000000 in
set_option maxRecDepth 100000 in
theorem number_walk (s : ByteArray) (w : World) (h : Lies w) (hs : s.size ≤ 281474976710656) :
    Calls Tryz.prog 131 #[.string s] w fun e w' => e = .returned (.tuple #[.int .i64 (num s.data.toList).1, .bool (num s.data.toList).2]) ∧ Below w.heap.size w w' := by
  have cP := Lib.hid (fun (W : World) (h : Lies W) => parse_calls h s hs)
  have cF := Lib.hid (fun (W : World) (h : Lies W) (n : Int) (hn : -9223372036854775808 ≤ n ∧ n ≤ 9223372036854775807) => format_calls h n hn.1 hn.2)
  have hh := Lib.hid h
  clear h
  have hI : Tryz.prog.isIface 98 = true := by kernel_rfl
  go_enter Tryz.func131, Tryz.ntmps131
  go_wp2_with ((go_at_call 136; ((with_reducible refine (cP.out _ hh.out).mono ?_); rintro e w' ⟨⟨v, x, rfl, hx⟩, b1⟩)))
  have h1 := Lib.hid (hh.out.below b1)
  rcases hx with ⟨rfl, hp⟩ | ⟨⟨t, p, rfl⟩, hn⟩
  · have hr := parse_range hp
    have hnum : num s.data.toList = if itoa v = s.data.toList then (v, true) else (0, false) := by unfold num; rw [hp]
    replace hnum := Lib.hid hnum
    go_simp
    go_wp2_with ((go_at_call 45; ((with_reducible refine (cF.out _ h1.out v hr).mono ?_); rintro e w' ⟨rfl, b2⟩)))
    all_goals go_ret2
    all_goals refine ⟨?_, b1.trans (b2.mono b1.size)⟩
    · next he =>
      have he' : ¬ itoa v = s.data.toList := by
        rw [ByteArray.toList_eq] at he
        simpa using he
      rw [hnum.out, if_neg he']
      rfl
    · next he =>
      have he' : itoa v = s.data.toList := by
        rw [ByteArray.toList_eq] at he
        simpa using he
      rw [hnum.out, if_pos he']
      rfl
  · replace hn := Lib.hid hn
    go_simp
    go_wp2_with (fail)
    go_ret2
    rw [hn.out]
    exact ⟨rfl, b1⟩
end Go.Proofs.YtlhhmlfcodmebaaGreatDoor.Wd
namespace Go.Proofs.YtlhhmlfcodmebaaGreatDoor.Wd
set_option linter.unusedVariables false
set_option linter.unusedSimpArgs false
open Go.RowKit Go.WideShapes Go.ChangeShapes
set_option linter.unusedVariables false
set_option linter.unusedSimpArgs false
theorem owns_below {w w' : World} {base e size n : Nat} {v : Value} {xs : List Value} (h : w.ownsRow base e size v n xs) (hb : Below w.heap.size w w') : w'.ownsRow base e size v n xs := by
  obtain ⟨h1, h2⟩ := h
  refine ⟨h1, ?_⟩
  rcases h2 with h2 | ⟨g, cap, cur, hv, hbg, hg, r⟩
  · exact .inl h2
  · exact .inr ⟨g, cap, cur, hv, hbg, (hb.block g ((Array.getElem?_eq_some_iff.1 hg).1)).trans hg, r⟩
theorem owns_cap {w : World} {base e size n cap : Nat} {a : Option Addr} {xs : List Value} (h : w.ownsRow base e size (.slice a n cap) n xs) : n ≤ cap := by
  rcases h.2 with ⟨hv, hn⟩ | ⟨g, cap', cur, hv, hbg, hg, r, _⟩
  · omega
  · injection hv with _ _ h3; omega
theorem info_str : (Tryz.prog.info? 9).map (fun i => (i.zero, i.size, i.bytes)) = some (some (.string ⟨#[]⟩), 1, 16) := by kernel_rfl
/-- A list of texts of one's own. -/
def Txts (n0 : Nat) (w : World) (v : Value) (xs : List ByteArray) : Prop := w.ownsRow n0 9 1 v xs.length (xs.map Value.string)
theorem Txts.below {n0 : Nat} {w w' : World} {v : Value} {xs : List ByteArray} (h : Txts n0 w v xs) (hb : Below w.heap.size w w') : Txts n0 w' v xs := owns_below h hb
theorem Txts.parts {n0 : Nat} {w : World} {v : Value} {xs : List ByteArray} (h : Txts n0 w v xs) :
    ∃ a cap, v = .slice a xs.length cap ∧ xs.length ≤ cap ∧ (xs ≠ [] → ∃ g, a = some ⟨g, 0, none⟩ ∧ n0 ≤ g ∧ g < w.heap.size ∧ ∀ k x, xs[k]? = some x → w.cell? ⟨g, k, none⟩ = some (.string x)) := by
  have hl := World.ownsRow.lt h
  have hc := fun g (hg : v.ownBlock = some g) => World.ownsRow.cells h (g := g) hg
  have h2 := h.2
  rcases h2 with ⟨hv, h0⟩ | ⟨g, cap, cur, hv, hbg, hg, hn, _⟩
  · subst hv
    exact ⟨none, 0, by rw [h0], by omega, fun hx => absurd (List.eq_nil_of_length_eq_zero h0) hx⟩
  · subst hv
    refine ⟨some ⟨g, 0, none⟩, cap, rfl, hn, fun _ => ⟨g, rfl, (hl g rfl).1, (hl g rfl).2, fun k x hk => ?_⟩⟩
    have := hc g rfl k (.string x) (by rw [List.getElem?_map, hk]; rfl)
    rwa [Addr.add_lit, Nat.zero_add] at this
end Go.Proofs.YtlhhmlfcodmebaaGreatDoor.Wd
namespace Go.Proofs.YtlhhmlfcodmebaaGreatDoor.Wd
set_option linter.unusedVariables false
set_option linter.unusedSimpArgs false
open Go.RowKit Go.WideShapes Go.ChangeShapes
set_option linter.unusedVariables false
set_option linter.unusedSimpArgs false
theorem drop_at (s : ByteArray) (k : Nat) (hk : k < s.size) : s.data.toList.drop k = s[k] :: s.data.toList.drop (k + 1) := by
  have h : k < s.data.toList.length := by rw [Array.length_toList]; exact hk
  rw [List.drop_eq_getElem_cons h, Array.getElem_toList]
  rfl
theorem tl_nil (c : ByteArray) : c.toList = [] ↔ c.data.toList = [] := by rw [ByteArray.toList_eq]
theorem ext_one (s : ByteArray) (k : Nat) (hk : k < s.size) : (s.extract k (k + 1)).data.toList = [s[k]] := by
  have h := drop_at s k hk
  have e : (s.extract k (k + 1)).data.toList = (s.data.toList.drop k).take 1 := by
    rw [ByteArray.data_extract, Array.toList_extract, List.extract_eq_take_drop]
    congr 1
    omega
  rw [e, h]
  rfl
theorem cur_add (c : ByteArray) (s : ByteArray) (k : Nat) (hk : k < s.size) : (c ++ s.extract k (k + 1)).data.toList = c.data.toList ++ [s[k]] := by
  rw [← ext_one s k hk, ByteArray.data_append, Array.toList_append]
set_option maxHeartbeats 8000000 in
set_option maxRecDepth 100000 in
theorem rwords_walk (s : ByteArray) (w : World) (hs : s.size ≤ 1048576) :
    Calls Tryz.prog 27 #[.string s] w fun e w' => (∃ v xs, e = .returned v ∧ Txts w.heap.size w' v xs ∧ xs.map (·.data.toList) = wrd s.data.toList []) ∧ Below w.heap.size w w' := by
  obtain ⟨q0, hq, hz0, hz1, hz2⟩ := info_parts info_str
  go_enter Tryz.func27, Tryz.ntmps27
  go_wp2
  go_loopw [3, 4, 5] (fun v c i wr => ∃ (k : Nat) (xs : List ByteArray) (cur : ByteArray), i = .int .i64 k ∧ c = .string cur ∧ k ≤ s.size ∧ Txts w.heap.size wr v xs ∧ Below w.heap.size w wr ∧ xs.length ≤ k ∧ cur.size ≤ k ∧ Hid (wrd s.data.toList [] = xs.map (·.data.toList) ++ wrd (s.data.toList.drop k) cur.data.toList)) (fun _ _ i _ => s.size - (intOf i).toNat)
  case atStart => exact ⟨0, [], ⟨#[]⟩, rfl, rfl, by omega, World.ownsRow_nil _ _ _ _, Below.refl _ _, Nat.le_refl _, Nat.le_refl _, Lib.hid rfl⟩
  case round =>
    obtain ⟨k, xs, cur, rfl, rfl, hk, hT, hB, hn, hc, hr⟩ := hrel
    have hsz := hB.size
    by_cases hks : k < s.size
    · have hr' := hr.out
      clear hr
      rw [drop_at s k hks, wrd] at hr'
      have hcur := cur_add cur s k hks
      have hx := UInt8.toNat_lt s[k]
      by_cases h59 : s[k] = 59
      · have t59 : s[k].toNat = 59 := by rw [h59]; rfl
        rw [if_pos h59] at hr'
        clear hcur
        by_cases he : cur.toList.isEmpty = true
        · rw [if_pos ((tl_nil cur).1 (List.isEmpty_iff.1 he))] at hr'
          rw [List.append_nil] at hr'
          replace hr' := Lib.hid hr'
          go_wp2
          go_ret
          exact ⟨⟨_, xs, rfl, hT, hr'.out.symm⟩, hB⟩
        · rw [if_neg (fun e => he (List.isEmpty_iff.2 ((tl_nil cur).2 e)))] at hr'
          replace hr' := Lib.hid hr'
          have he' : cur.toList.isEmpty = false := by simpa using he
          clear he
          go_wp2_with (at_builtin; refine wpList_append_own _ rfl _ _ 46 rfl w.heap.size 9 q0 (.string ⟨#[]⟩) 1 16 Tryz.underlying46 hq hz0 hz1 hz2 rfl (by decide) _ _ _ rfl (World.ownsRow.alloc hT _) ⟨wr.heap.size, 0, none⟩ 1 1 [.string cur] rfl rfl ?c1 ?c2 ?c3 ?c4 ?c5 ?_)
          case c1 =>
            intro j u hj
            match j, hj with
            | 0, hj => simp at hj; subst hj; simp [Addr.add]
          case c2 => intro u hu; simp at hu; subst hu; rfl
          case c3 => unfold maxLen; omega
          case c4 => omega
          case c5 => simp; omega
          · intro v' w2 hown2 hgrow _
            have hT2 : Txts w.heap.size w2 v' (xs ++ [cur]) := by
              unfold Txts
              rw [List.length_append, List.map_append]
              exact hown2
            have hB2 : Below w.heap.size w w2 := (hB.alloc hsz _).grown hgrow (by simp; omega) (fun g hg => (World.ownsRow.lt hT g hg).1)
            clear hown2 hgrow hT hB
            go_wp2
            go_ret
            exact ⟨⟨v', xs ++ [cur], rfl, hT2, by rw [hr'.out, List.map_append]; rfl⟩, hB2⟩
      · have t59 : ((s[k].toNat : Int) == 59) = false := by
          rw [beq_eq_false_iff_ne]
          exact fun e => h59 (UInt8.toNat_inj.1 (by show s[k].toNat = 59; omega))
        rw [if_neg h59] at hr'
        by_cases hb32 : s[k] = 32
        · rw [if_pos (Or.inl hb32)] at hr'
          clear hcur
          have t32 : s[k].toNat = 32 := by rw [hb32]; rfl
          by_cases he : cur.toList.isEmpty = true
          · rw [if_pos ((tl_nil cur).1 (List.isEmpty_iff.1 he))] at hr'
            replace hr' := Lib.hid hr'
            go_wp2
            first
              | (refine ⟨⟨k + 1, xs, ⟨#[]⟩, by go_num, rfl, by omega, hT, hB, by omega, Nat.zero_le _, hr'⟩, (by first | (simp [intOf]; done) | (simp [intOf]; omega) | omega)⟩)
              | (refine ⟨?_, (by first | (simp [intOf]; done) | (simp [intOf]; omega) | omega)⟩; (repeat apply Exists.intro); exact ⟨⟨k + 1, xs, ⟨#[]⟩, by go_num, rfl, by omega, hT, hB, by omega, Nat.zero_le _, hr'⟩, rfl⟩)
          · rw [if_neg (fun e => he (List.isEmpty_iff.2 ((tl_nil cur).2 e)))] at hr'
            replace hr' := Lib.hid hr'
            have he' : cur.toList.isEmpty = false := by simpa using he
            clear he
            go_wp2_with (at_builtin; refine wpList_append_own _ rfl _ _ 46 rfl w.heap.size 9 q0 (.string ⟨#[]⟩) 1 16 Tryz.underlying46 hq hz0 hz1 hz2 rfl (by decide) _ _ _ rfl (World.ownsRow.alloc hT _) ⟨wr.heap.size, 0, none⟩ 1 1 [.string cur] rfl rfl ?c1 ?c2 ?c3 ?c4 ?c5 ?_)
            case c1 =>
              intro j u hj
              match j, hj with
              | 0, hj => simp at hj; subst hj; simp [Addr.add]
            case c2 => intro u hu; simp at hu; subst hu; rfl
            case c3 => unfold maxLen; omega
            case c4 => omega
            case c5 => simp; omega
            · intro v' w2 hown2 hgrow _
              have hT2 : Txts w.heap.size w2 v' (xs ++ [cur]) := by
                unfold Txts
                rw [List.length_append, List.map_append]
                exact hown2
              have hB2 : Below w.heap.size w w2 := (hB.alloc hsz _).grown hgrow (by simp; omega) (fun g hg => (World.ownsRow.lt hT g hg).1)
              clear hown2 hgrow hT hB
              have hr2 : Hid (wrd s.data.toList [] = (xs ++ [cur]).map (·.data.toList) ++ wrd (s.data.toList.drop (k + 1)) []) := Lib.hid (by rw [hr'.out, List.map_append, List.append_assoc]; rfl)
              go_wp2
              first
                | (refine ⟨⟨k + 1, (xs ++ [cur]), ⟨#[]⟩, by go_num, rfl, by omega, hT2, hB2, by (rw [List.length_append, List.length_singleton]; omega), Nat.zero_le _, hr2⟩, (by first | (simp [intOf]; done) | (simp [intOf]; omega) | omega)⟩)
                | (refine ⟨?_, (by first | (simp [intOf]; done) | (simp [intOf]; omega) | omega)⟩; (repeat apply Exists.intro); exact ⟨⟨k + 1, (xs ++ [cur]), ⟨#[]⟩, by go_num, rfl, by omega, hT2, hB2, by (rw [List.length_append, List.length_singleton]; omega), Nat.zero_le _, hr2⟩, rfl⟩)
        · have t32 : ((s[k].toNat : Int) == 32) = false := by
            rw [beq_eq_false_iff_ne]
            exact fun e => hb32 (UInt8.toNat_inj.1 (by show s[k].toNat = 32; omega))
          by_cases hb9 : s[k] = 9
          · rw [if_pos (Or.inr hb9)] at hr'
            clear hcur
            have t9 : s[k].toNat = 9 := by rw [hb9]; rfl
            by_cases he : cur.toList.isEmpty = true
            · rw [if_pos ((tl_nil cur).1 (List.isEmpty_iff.1 he))] at hr'
              replace hr' := Lib.hid hr'
              go_wp2
              first
                | (refine ⟨⟨k + 1, xs, ⟨#[]⟩, by go_num, rfl, by omega, hT, hB, by omega, Nat.zero_le _, hr'⟩, (by first | (simp [intOf]; done) | (simp [intOf]; omega) | omega)⟩)
                | (refine ⟨?_, (by first | (simp [intOf]; done) | (simp [intOf]; omega) | omega)⟩; (repeat apply Exists.intro); exact ⟨⟨k + 1, xs, ⟨#[]⟩, by go_num, rfl, by omega, hT, hB, by omega, Nat.zero_le _, hr'⟩, rfl⟩)
            · rw [if_neg (fun e => he (List.isEmpty_iff.2 ((tl_nil cur).2 e)))] at hr'
              replace hr' := Lib.hid hr'
              have he' : cur.toList.isEmpty = false := by simpa using he
              clear he
              go_wp2_with (at_builtin; refine wpList_append_own _ rfl _ _ 46 rfl w.heap.size 9 q0 (.string ⟨#[]⟩) 1 16 Tryz.underlying46 hq hz0 hz1 hz2 rfl (by decide) _ _ _ rfl (World.ownsRow.alloc hT _) ⟨wr.heap.size, 0, none⟩ 1 1 [.string cur] rfl rfl ?c1 ?c2 ?c3 ?c4 ?c5 ?_)
              case c1 =>
                intro j u hj
                match j, hj with
                | 0, hj => simp at hj; subst hj; simp [Addr.add]
              case c2 => intro u hu; simp at hu; subst hu; rfl
              case c3 => unfold maxLen; omega
              case c4 => omega
              case c5 => simp; omega
              · intro v' w2 hown2 hgrow _
                have hT2 : Txts w.heap.size w2 v' (xs ++ [cur]) := by
                  unfold Txts
                  rw [List.length_append, List.map_append]
                  exact hown2
                have hB2 : Below w.heap.size w w2 := (hB.alloc hsz _).grown hgrow (by simp; omega) (fun g hg => (World.ownsRow.lt hT g hg).1)
                clear hown2 hgrow hT hB
                have hr2 : Hid (wrd s.data.toList [] = (xs ++ [cur]).map (·.data.toList) ++ wrd (s.data.toList.drop (k + 1)) []) := Lib.hid (by rw [hr'.out, List.map_append, List.append_assoc]; rfl)
                go_wp2
                first
                  | (refine ⟨⟨k + 1, (xs ++ [cur]), ⟨#[]⟩, by go_num, rfl, by omega, hT2, hB2, by (rw [List.length_append, List.length_singleton]; omega), Nat.zero_le _, hr2⟩, (by first | (simp [intOf]; done) | (simp [intOf]; omega) | omega)⟩)
                  | (refine ⟨?_, (by first | (simp [intOf]; done) | (simp [intOf]; omega) | omega)⟩; (repeat apply Exists.intro); exact ⟨⟨k + 1, (xs ++ [cur]), ⟨#[]⟩, by go_num, rfl, by omega, hT2, hB2, by (rw [List.length_append, List.length_singleton]; omega), Nat.zero_le _, hr2⟩, rfl⟩)
          · have t9 : ((s[k].toNat : Int) == 9) = false := by
              rw [beq_eq_false_iff_ne]
              exact fun e => hb9 (UInt8.toNat_inj.1 (by show s[k].toNat = 9; omega))
            rw [if_neg (by simp [hb32, hb9]), ← hcur] at hr'
            replace hr' := Lib.hid hr'
            have hsx : (s.extract k (k + 1)).size = 1 := by simp; omega
            have hlen : ¬ 9223372036854775807 < cur.size + (s.extract k (k + 1)).size := by omega
            have hca : (cur ++ s.extract k (k + 1)).size ≤ k + 1 := by rw [ByteArray.size_append]; omega
            clear hb32 hb9 h59 hcur
            go_wp2
            all_goals first
              | (refine ⟨⟨k + 1, xs, (cur ++ s.extract k (k + 1)), by go_num, rfl, by omega, hT, hB, by omega, hca, hr'⟩, (by first | (simp [intOf]; done) | (simp [intOf]; omega) | omega)⟩)
              | (refine ⟨?_, (by first | (simp [intOf]; done) | (simp [intOf]; omega) | omega)⟩; (repeat apply Exists.intro); exact ⟨⟨k + 1, xs, (cur ++ s.extract k (k + 1)), by go_num, rfl, by omega, hT, hB, by omega, hca, hr'⟩, rfl⟩)
    · have hr' := hr.out
      clear hr
      rw [List.drop_eq_nil_of_le (by rw [Array.length_toList]; show s.size ≤ k; omega), wrd] at hr'
      by_cases he : cur.toList.isEmpty = true
      · rw [if_pos ((tl_nil cur).1 (List.isEmpty_iff.1 he))] at hr'
        rw [List.append_nil] at hr'
        replace hr' := Lib.hid hr'
        go_wp2
        go_ret
        exact ⟨⟨_, xs, rfl, hT, hr'.out.symm⟩, hB⟩
      · rw [if_neg (fun e => he (List.isEmpty_iff.2 ((tl_nil cur).2 e)))] at hr'
        replace hr' := Lib.hid hr'
        have he' : cur.toList.isEmpty = false := by simpa using he
        clear he
        go_wp2_with (at_builtin; refine wpList_append_own _ rfl _ _ 46 rfl w.heap.size 9 q0 (.string ⟨#[]⟩) 1 16 Tryz.underlying46 hq hz0 hz1 hz2 rfl (by decide) _ _ _ rfl (World.ownsRow.alloc hT _) ⟨wr.heap.size, 0, none⟩ 1 1 [.string cur] rfl rfl ?c1 ?c2 ?c3 ?c4 ?c5 ?_)
        case c1 =>
          intro j u hj
          match j, hj with
          | 0, hj => simp at hj; subst hj; simp [Addr.add]
        case c2 => intro u hu; simp at hu; subst hu; rfl
        case c3 => unfold maxLen; omega
        case c4 => omega
        case c5 => simp; omega
        · intro v' w2 hown2 hgrow _
          have hT2 : Txts w.heap.size w2 v' (xs ++ [cur]) := by
            unfold Txts
            rw [List.length_append, List.map_append]
            exact hown2
          have hB2 : Below w.heap.size w w2 := (hB.alloc hsz _).grown hgrow (by simp; omega) (fun g hg => (World.ownsRow.lt hT g hg).1)
          clear hown2 hgrow hT hB
          go_wp2
          go_ret
          exact ⟨⟨v', xs ++ [cur], rfl, hT2, by rw [hr'.out, List.map_append]; rfl⟩, hB2⟩
end Go.Proofs.YtlhhmlfcodmebaaGreatDoor.Wd
