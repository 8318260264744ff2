/- WordTexts, walked: a word's text is the reference's, and is read as the word. No condition. -/
import Derived.Test.YtelamlkefblmaaaDoorNum
import Derived.Test.YtelamlkefblmaaaDoorShelfA
import Derived.Lib.AppendIntMem
import Derived.Lib.Hide
import Derived.WalkKit
import Derived.Below
import Derived.Laws.IdiomStrings
namespace Go.Proofs.YtelamlkefblmaaaDoor.Num
open Go.ChangeShapes Go.WideShapes Go.RowKit
/-- A word's text. -/
def num (x : Int) : ByteArray := ⟨(Lib.itoa x).toArray⟩
def Tab (w : World) : Prop := Lib.TabIs Tryd.prog w "internal/strconv.uint64pow10" .u64 Lib.pow10Tab
theorem Tab.below {w w' : World} (h : Tab w) (hb : Below w.heap.size w w') : Tab w' := Lib.tabBelow_of_tabIs h w' hb
theorem format (x : Int) (h0 : -9223372036854775808 ≤ x) (h1 : x ≤ 9223372036854775807) (w : World) (ht : Tab w) :
    Calls Tryd.prog 8 #[.int .i64 x, .int .i64 10] w fun e w' => e = .returned (.string (num x)) ∧ Below w.heap.size w w' :=
  (Tryd.strconv_FormatInt_10 x h0 h1 w ht).mono fun e w' ⟨he, k, os, hw⟩ => ⟨he, by rw [hw]; exact Lib.below_grow _ _ (Nat.le_refl _) _ _⟩
set_option maxHeartbeats 800000 in
set_option maxRecDepth 100000 in
theorem text_walk (x : Int) (h0 : -9223372036854775808 ≤ x) (h1 : x ≤ 9223372036854775807) (w : World) (ht : Tab w) :
    Calls Tryd.prog 4 #[.int .i64 x] w fun e w' => e = .returned (.string (num x)) ∧ Below w.heap.size w w' := by
  have hF := Lib.hid (fun (W : World) (h : Tab W) => format x h0 h1 W h)
  have ht' := Lib.hid ht
  clear ht
  go_enter Tryd.func4, Tryd.ntmps4
  go_wp2_with (go_at_call 8; ((with_reducible refine (hF.out _ ht'.out).mono ?_); rintro e w1 ⟨rfl, hb1⟩))
  go_ret
  exact ⟨rfl, hb1⟩
theorem no_hex' (x : Int) : (((num x).extract 0 2).toList == [48, 120]) = false := by
  have h := no_hex x
  have e : ((num x).extract 0 2).toList = (Lib.itoa x).take 2 := by
    rw [ByteArray.toList_eq, ByteArray.data_extract, Array.toList_extract]
    simp [num]
  rw [e]
  simpa using h
theorem parse (x : Int) (h0 : -9223372036854775808 ≤ x) (h1 : x ≤ 9223372036854775807) (w : World) :
    Calls Tryd.prog 10 #[.string (num x), .int .i64 10, .int .i64 64] w fun e w' => e = .returned (.tuple #[.int .i64 x, .nilIface]) ∧ Below w.heap.size w w' := by
  have hl : (num x).size ≤ 21 := Lib.itoa_length_le x h0 h1
  refine (Tryd.strconv_ParseInt_10_at64_ok (num x) (by omega) x (parse_itoa x h0 h1) w).mono ?_
  rintro e w' ⟨he, rfl | ⟨t, rfl⟩⟩
  · exact ⟨he, Below.refl _ _⟩
  · exact ⟨he, Lib.bytesWorld_below w 5 t⟩
set_option maxHeartbeats 800000 in
set_option maxRecDepth 100000 in
theorem parse_walk (x : Int) (h0 : -9223372036854775808 ≤ x) (h1 : x ≤ 9223372036854775807) (w : World) (ht : Tab w) :
    Calls Tryd.prog 5 #[.string (num x)] w fun e w' => e = .returned (.tuple #[.int .i64 x, .int .i64 0]) ∧ Below w.heap.size w w' := by
  have hF := Lib.hid (fun (W : World) (h : Tab W) => text_walk x h0 h1 W h)
  have hP := Lib.hid (fun (W : World) => parse x h0 h1 W)
  have hx := no_hex' x
  have ht' := Lib.hid ht
  clear ht
  by_cases h2 : 2 < (num x).size
  · go_enter Tryd.func5, Tryd.ntmps5
    go_wp2_with (first
      | (go_at_call 10; ((with_reducible refine (hP.out _).mono ?_); rintro e w1 ⟨rfl, hb1⟩))
      | (go_at_call 4; ((with_reducible refine (hF.out _ (ht'.out.below hb1)).mono ?_); rintro e w2 ⟨rfl, hb2⟩)))
    go_ret2
    exact ⟨rfl, hb1.trans (hb2.mono hb1.size)⟩
  · go_enter Tryd.func5, Tryd.ntmps5
    go_wp2_with (first
      | (go_at_call 10; ((with_reducible refine (hP.out _).mono ?_); rintro e w1 ⟨rfl, hb1⟩))
      | (go_at_call 4; ((with_reducible refine (hF.out _ (ht'.out.below hb1)).mono ?_); rintro e w2 ⟨rfl, hb2⟩)))
    go_ret2
    exact ⟨rfl, hb1.trans (hb2.mono hb1.size)⟩
set_option maxHeartbeats 1600000 in
set_option maxRecDepth 100000 in
theorem speaks_walk (w : World) : Calls Tryd.prog 6 #[] w fun e w' => e = .returned (.bool true) ∧ Below w.heap.size w w' := by
  go_enter Tryd.func6, Tryd.ntmps6
  go_wp2
  go_ret
  exact ⟨rfl, Below.refl _ _⟩
theorem conv1 (W : World) (v : Int) (b : UInt8) (h : v = (b.toNat : Int)) : (convert 37 9 (.slice (some ⟨W.heap.size, 0, none⟩) 1 1)).run Tryd.prog (W.alloc (.cells #[.int .u8 v] 5)) = .ok (.string ⟨#[b]⟩) (W.alloc (.cells #[.int .u8 v] 5)) := by
  have := run_convert_bytes_back (P := Tryd.prog) (W.alloc (.cells #[.int .u8 v] 5)) 37 9 5 ⟨W.heap.size, 0, none⟩ 1 [b] Tryd.underlying37 Tryd.underlying5 Tryd.underlying9 (fun j hj => by
    have : j = 0 := by simp at hj; omega
    subst this
    simp [Addr.add, h])
  exact this
theorem num_pos (m : Nat) : num (m : Int) = ⟨(Lib.decDigits m).toArray⟩ := by
  unfold num Lib.itoa
  rw [if_neg (by omega)]
  rfl
theorem num_neg (m : Nat) (h : m ≠ 0) : num (-(m : Int)) = ⟨#[45]⟩ ++ ⟨(Lib.decDigits m).toArray⟩ := by
  unfold num Lib.itoa
  rw [if_pos (by omega), show (-(m : Int)).natAbs = m by omega]
  apply ByteArray.ext
  rw [ByteArray.data_append]
  simp
theorem push1 (b : UInt8) (l : List UInt8) : (⟨#[b]⟩ : ByteArray) ++ ⟨l.toArray⟩ = ⟨(b :: l).toArray⟩ := by
  apply ByteArray.ext
  rw [ByteArray.data_append]
  simp
theorem far_len (m u : Nat) (l : List UInt8) (hm : m ≤ 9223372036854775808) (h : Far m u l) : l.length ≤ 20 := by
  have hd := decDigits_len m (by omega)
  by_cases hu : u = 0
  · rw [h.1 hu]; exact hd
  · have := congrArg List.length (h.2.1 hu)
    rw [List.length_append] at this
    omega
set_option maxHeartbeats 1600000 in
set_option maxRecDepth 100000 in
theorem ref_walk (x : Int) (h0 : -9223372036854775808 ≤ x) (h1 : x ≤ 9223372036854775807) (w : World) :
    Calls Tryd.prog 7 #[.int .i64 x] w fun e w' => e = .returned (.string (num x)) ∧ Below w.heap.size w w' := by
  by_cases hz : x = 0
  · subst hz
    go_enter Tryd.func7, Tryd.ntmps7
    go_wp2
    go_ret
    refine ⟨?_, Below.refl _ _⟩
    show Ending.returned (.string ⟨#[48]⟩) = Ending.returned (.string ⟨(Lib.decDigits 0).toArray⟩)
    rw [Lib.decDigits]
    rfl
  · by_cases hp : 0 < x
    · obtain ⟨m, rfl⟩ : ∃ m : Nat, x = m := ⟨x.toNat, by omega⟩
      go_enter Tryd.func7, Tryd.ntmps7
      go_wp2
      go_loopw [3, 4] (fun s n wr => ∃ (u : Nat) (l : List UInt8), s = .string ⟨l.toArray⟩ ∧ n = .int .i64 u ∧ Far m u l ∧ l.length ≤ 20 ∧ Below w.heap.size w wr) (fun _ n _ => (intOf n).toNat)
      case atStart => exact ⟨m, [], rfl, rfl, far_start m (by omega), by simp, Below.refl _ _⟩
      case round =>
        obtain ⟨u, l, rfl, rfl, hf, hl, hb⟩ := hrel
        by_cases hu : u = 0
        · subst hu
          go_wp2
          go_ret
          refine ⟨?_, hb⟩
          rw [num_pos, ← hf.1 rfl]
          rfl
        · have hu' : ¬ (u : Int) = 0 := by omega
          have hu3 : 0 ≤ (u : Int) % 10 := by omega
          have hu4 : (u : Int) % 10 < 10 := by omega
          obtain ⟨c, hc⟩ : ∃ c, c = UInt8.ofNat (48 + u % 10) := ⟨_, rfl⟩
          have hcv := fun W => conv1 W (48 + (u : Int) % 10) c (by rw [hc, dig_toNat _ (by omega)]; omega)
          have hj1 : ¬ 9223372036854775807 < 1 + l.length := by omega
          have hf' := far_step m u l hu hf
          rw [← hc] at hf'
          clear hc
          have hl' := far_len m (u / 10) _ (by omega) hf'
          have hsz := hb.size
          have hn : ((u / 10 : Nat) : Int) = (u : Int) / 10 := by omega
          have hw : wrap64 ((u : Int) / 10) = (u : Int) / 10 := by have := hf.2.2; unfold wrap64; omega
          have hn' := Lib.hid hn
          have hw' := Lib.hid hw
          clear hn hw
          go_wp2
          go_roundw
          case rel => exact ⟨u / 10, c :: l, by rw [push1], by rw [hn'.out, hw'.out], hf', hl', hb.alloc hsz _⟩
          case measure => rw [hw'.out]; simp [intOf]; omega
    · obtain ⟨m, rfl⟩ : ∃ m : Nat, x = -(m : Int) := ⟨(-x).toNat, by omega⟩
      have hm0 : 0 < (m : Int) := by omega
      go_enter Tryd.func7, Tryd.ntmps7
      go_wp2
      go_loopw [3, 4] (fun s n wr => ∃ (u : Nat) (l : List UInt8), s = .string ⟨l.toArray⟩ ∧ n = .int .i64 (-(u : Int)) ∧ Far m u l ∧ l.length ≤ 20 ∧ Below w.heap.size w wr) (fun _ n _ => (intOf n).natAbs)
      case atStart => exact ⟨m, [], rfl, rfl, far_start m (by omega), by simp, Below.refl _ _⟩
      case round =>
        obtain ⟨u, l, rfl, rfl, hf, hl, hb⟩ := hrel
        by_cases hu : u = 0
        · subst hu
          have hj1 : ¬ 9223372036854775807 < 1 + l.length := by omega
          go_wp2
          go_ret
          refine ⟨?_, hb⟩
          rw [num_neg m (by omega), ← hf.1 rfl]
          rfl
        · have hu' : ¬ (u : Int) = 0 := by omega
          have hj1 : ¬ 9223372036854775807 < 1 + l.length := by omega
          have hf' := far_step m u l hu hf
          have hl' := far_len m (u / 10) _ (by omega) hf'
          have hsz := hb.size
          have hq : (-(u : Int)).tdiv 10 = -((u : Int) / 10) := by rw [Int.neg_tdiv, Int.tdiv_eq_ediv_of_nonneg (by omega)]
          have hn : ((u / 10 : Nat) : Int) = (u : Int) / 10 := by omega
          have hw : wrap64 (-((u : Int) / 10)) = -((u : Int) / 10) := by have := hf.2.2; unfold wrap64; omega
          have hn' := Lib.hid hn
          have hw' := Lib.hid hw
          clear hn hw
          obtain ⟨c, hc⟩ : ∃ c, c = UInt8.ofNat (48 + u % 10) := ⟨_, rfl⟩
          by_cases hd : (u : Int) % 10 = 0
          · have ht : (-(u : Int)).tmod 10 = 0 := by rw [Int.neg_tmod, Int.tmod_eq_emod_of_nonneg (by omega), hd]; rfl
            have hcv := fun W => conv1 W 48 c (by rw [hc, dig_toNat _ (by omega)]; omega)
            rw [← hc] at hf'
            clear hc hd
            go_wp2
            go_roundw
            case rel => exact ⟨u / 10, c :: l, by rw [push1], by rw [hn'.out, hw'.out], hf', by simpa using hl', hb.alloc hsz _⟩
            case measure => rw [hw'.out]; simp [intOf]; omega
          · have ht : (-(u : Int)).tmod 10 = -((u : Int) % 10) := by rw [Int.neg_tmod, Int.tmod_eq_emod_of_nonneg (by omega)]
            have hu3 : 0 < (u : Int) % 10 := by omega
            have hu4 : (u : Int) % 10 < 10 := by omega
            have hcv := fun W => conv1 W (48 + (u : Int) % 10) c (by rw [hc, dig_toNat _ (by omega)]; omega)
            rw [← hc] at hf'
            clear hc hd
            go_wp2
            go_roundw
            case rel => exact ⟨u / 10, c :: l, by rw [push1], by rw [hn'.out, hw'.out], hf', by simpa using hl', hb.alloc hsz _⟩
            case measure => rw [hw'.out]; simp [intOf]; omega
end Go.Proofs.YtelamlkefblmaaaDoor.Num
