/- Several texts of one proof, one behind the other. The contracts of the library that this seat's walks use, at this translation: the kit's own laying, in plain words. | Operations on numbers: the library's and the small ones. The condition of one: the table of math/bits lies in the world. -/
import Derived.Shelf.Small.Bits
import Derived.Shelf.Strconv.Itoa0
import Derived.Shelf.Bits.Mul64
import Derived.Test.YtbcdeanmjhcgeaaDoorProg
import Derived.WalkKit
import Derived.Below
import Derived.Lib.Hide
import Derived.Lib.TrailingZeros
import Derived.WalkSmall
import Derived.OpenShut
namespace Go.Proofs
set_option linter.unusedVariables false
set_option linter.unusedSimpArgs false
open Go.Shelf
def Tryd.lays134_ren : Go.Shelf.Ren := ⟨fun | 134 => 106 | 129 => 78 | n => n, fun | 53 => 116 | 3 => 3 | 4 => 4 | 46 => 139 | 5 => 5 | 9 => 9 | n => n, fun | n => n⟩
theorem Tryd.lays134 : Go.Proofs.Lays.n134 Tryd.prog Tryd.lays134_ren := {
  mixed := by kernel_rfl
  f129 := Tryd.func78.trans (congrArg some (by kernel_rfl))
  f134 := Tryd.func106.trans (congrArg some (by kernel_rfl))
  t3 := Tryd.underlying3
  a3 := Tryd.isAgg3
  z3 := Tryd.sizeOf3
  v3 := Tryd.zeroValue3
  t4 := Tryd.underlying4
  a4 := Tryd.isAgg4
  z4 := Tryd.sizeOf4
  v4 := Tryd.zeroValue4
  t5 := Tryd.underlying5
  a5 := Tryd.isAgg5
  z5 := Tryd.sizeOf5
  v5 := Tryd.zeroValue5
  t9 := Tryd.underlying9
  a9 := Tryd.isAgg9
  z9 := Tryd.sizeOf9
  v9 := Tryd.zeroValue9
  t46 := Tryd.underlying139
  a46 := Tryd.isAgg139
  z46 := Tryd.sizeOf139
  v46 := Tryd.zeroValue139
  t53 := Tryd.underlying116
  a53 := Tryd.isAgg116
  z53 := Tryd.sizeOf116
  v53 := Tryd.zeroValue116 }
/-- bits.LeadingZeros64: "LeadingZeros64 returns the number of leading zero bits in x; the result is 64 for x == 0.": IT RETURNS '64 - Lib.bitLen x'; the world is as it was. ITS CALLEE bits.Len64 IS MET BY ITS OWN CONTRACT OFF THE SHELF (lay that first): entered in place it sends the kernel out of memory. (LAID: no walk: one application.) -/
theorem Tryd.bits_LeadingZeros64 (x : Int) (w : World) (h0 : 0 ≤ x) (h1 : x ≤ 18446744073709551615) :
    Calls Tryd.prog 106 #[.int .u64 x] w fun e w' => e = .returned (.int .i64 (64 - (Lib.bitLen x.toNat : Int))) ∧ w' = w := Any.bits_LeadingZeros64 Tryd.lays134 x w h0 h1
def Tryd.lays129_ren : Go.Shelf.Ren := ⟨fun | 129 => 78 | n => n, fun | 53 => 116 | 3 => 3 | 4 => 4 | 46 => 139 | 5 => 5 | 9 => 9 | n => n, fun | n => n⟩
theorem Tryd.lays129 : Go.Proofs.Lays.n129 Tryd.prog Tryd.lays129_ren := {
  mixed := by kernel_rfl
  f129 := Tryd.func78.trans (congrArg some (by kernel_rfl))
  t3 := Tryd.underlying3
  a3 := Tryd.isAgg3
  z3 := Tryd.sizeOf3
  v3 := Tryd.zeroValue3
  t4 := Tryd.underlying4
  a4 := Tryd.isAgg4
  z4 := Tryd.sizeOf4
  v4 := Tryd.zeroValue4
  t5 := Tryd.underlying5
  a5 := Tryd.isAgg5
  z5 := Tryd.sizeOf5
  v5 := Tryd.zeroValue5
  t9 := Tryd.underlying9
  a9 := Tryd.isAgg9
  z9 := Tryd.sizeOf9
  v9 := Tryd.zeroValue9
  t46 := Tryd.underlying139
  a46 := Tryd.isAgg139
  z46 := Tryd.sizeOf139
  v46 := Tryd.zeroValue139
  t53 := Tryd.underlying116
  a53 := Tryd.isAgg116
  z53 := Tryd.sizeOf116
  v53 := Tryd.zeroValue116 }
/-- bits.Len64: "Len64 returns the minimum number of bits required to represent x; the result is 0 for x == 0.": IT RETURNS 'Lib.bitLen x'; the world is as it was. ('h0', 'h1': x is a uint64.) (LAID: no walk: one application.) -/
theorem Tryd.bits_Len64 (x : Int) (w : World) (h0 : 0 ≤ x) (h1 : x ≤ 18446744073709551615) :
    Calls Tryd.prog 78 #[.int .u64 x] w fun e w' => e = .returned (.int .i64 (Lib.bitLen x.toNat)) ∧ w' = w := Any.bits_Len64 Tryd.lays129 x w h0 h1
def Tryd.lays264_ren : Go.Shelf.Ren := ⟨fun | 264 => 111 | n => n, fun | 53 => 116 | 46 => 139 | n => n, fun | n => n⟩
theorem Tryd.lays264 : Go.Proofs.Lays.n264 Tryd.prog Tryd.lays264_ren := {
  mixed := by kernel_rfl
  f264 := Tryd.func111.trans (congrArg some (by kernel_rfl))
  t46 := Tryd.underlying139
  a46 := Tryd.isAgg139
  z46 := Tryd.sizeOf139
  v46 := Tryd.zeroValue139
  t53 := Tryd.underlying116
  a53 := Tryd.isAgg116
  z53 := Tryd.sizeOf116
  v53 := Tryd.zeroValue116 }
open Go.RowKit Go.Lib in
theorem Tryd.bits_Mul64 (x y : Nat) (hx : x < 18446744073709551616) (hy : y < 18446744073709551616) (w : World) :
    Calls Tryd.prog 111 #[.int .u64 x, .int .u64 y] w fun e w' => e = .returned (.tuple #[.int .u64 ((x * y / 18446744073709551616 : Nat) : Int), .int .u64 ((x * y % 18446744073709551616 : Nat) : Int)]) ∧ w' = w := Any.bits_Mul64 Tryd.lays264 x y hx hy w
end Go.Proofs
namespace Go.Proofs.YtbcdeanmjhcgeaaDoor.Alu
set_option linter.unusedVariables false
set_option linter.unusedSimpArgs false
open Go.RowKit
set_option linter.unusedVariables false
set_option linter.unusedSimpArgs false
theorem opq {P : Program} {c : Code} {Q : Exit → Act → World → Prop} {a : Act} {w : World} (h : ∀ Q' : Exit → Act → World → Prop, Hid (∀ e a w, Q e a w → Q' e a w) → Code.wp P c Q' a w) : Code.wp P c Q a w := h Q (Lib.hid (fun _ _ _ h => h))
theorem opq_out {Q Q' : Exit → Act → World → Prop} {e : Exit} {a : Act} {w : World} (h : Hid (∀ e a w, Q e a w → Q' e a w)) (g : Q e a w) : Q' e a w := h.out e a w g
theorem is_region {P : Program} {id : Nat} {ops : Array Oper} {b : Bool} {Q : Exit → Act → World → Prop} {a : Act} {w : World} (h : (Code.region id ops b).wp P Q a w) : (Code.region id ops b).wp P Q a w := h
def I6 (x : Int) : Prop := -9223372036854775808 ≤ x ∧ x ≤ 9223372036854775807
def U6 (x : Int) : Prop := 0 ≤ x ∧ x ≤ 18446744073709551615
theorem i6_wrap (x : Int) : I6 (wrap64 x) := by unfold I6 wrap64; omega
theorem i6_kw (x : Int) : I6 (IntKind.i64.wrap x) := by unfold I6; have := wf_wrap .i64 x; simp [Lit.wf, IntKind.min, IntKind.max, IntKind.signed, IntKind.bits] at this; exact this
theorem u6_wrap (x : Int) : U6 (IntKind.u64.wrap x) := by unfold U6; rw [IntKind.wrap_u64]; omega
theorem i6_bits (op : BinOp) (x y : Int) : I6 (bits op .i64 x y) := by unfold bits; split <;> exact i6_kw _
theorem u6_bits (op : BinOp) (x y : Int) : U6 (bits op .u64 x y) := by unfold bits; split <;> exact u6_wrap _
def shlv (k : IntKind) (x y : Int) : Int := k.wrap (x * 2 ^ min y.toNat k.bits)
def shrv (k : IntKind) (x y : Int) : Int := x.fdiv (2 ^ min y.toNat k.bits)
theorem shl_eq {k yk : IntKind} {x y : Int} (h : 0 ≤ y) : Op.shift .shl k x yk y = pure (.int k (shlv k x y)) := by
  unfold Op.shift; rw [if_neg (by omega)]; rfl
theorem shr_eq {k yk : IntKind} {x y : Int} (h : 0 ≤ y) : Op.shift .shr k x yk y = pure (.int k (shrv k x y)) := by
  unfold Op.shift; rw [if_neg (by omega)]; rfl
theorem fdiv_pow {x : Int} (n : Nat) : (0 ≤ x → 0 ≤ x.fdiv (2 ^ n) ∧ x.fdiv (2 ^ n) ≤ x) ∧ (x < 0 → x ≤ x.fdiv (2 ^ n) ∧ x.fdiv (2 ^ n) < 0) := by
  have hp : (0 : Int) < 2 ^ n := Int.pow_pos (by omega)
  rw [Int.fdiv_eq_ediv_of_nonneg _ (Int.le_of_lt hp)]
  constructor
  · intro h; exact ⟨Int.ediv_nonneg h (Int.le_of_lt hp), Int.ediv_le_self _ h⟩
  · intro h
    refine ⟨?_, Int.ediv_neg_of_neg_of_pos h hp⟩
    rw [Int.le_ediv_iff_mul_le hp]
    have := Int.mul_le_mul_of_nonneg_left (show (1 : Int) ≤ 2 ^ n by omega) (show (0 : Int) ≤ -x by omega)
    rw [Int.neg_mul, Int.neg_mul] at this
    omega
theorem i6_shl (x y : Int) : I6 (shlv .i64 x y) := i6_kw _
theorem u6_shl (x y : Int) : U6 (shlv .u64 x y) := u6_wrap _
theorem i6_shr {x : Int} (y : Int) (h : I6 x) : I6 (shrv .i64 x y) := by
  unfold I6 shrv at *
  obtain ⟨h1, h2⟩ := fdiv_pow (x := x) (min y.toNat IntKind.i64.bits)
  by_cases h0 : 0 ≤ x
  · have := h1 h0; omega
  · have := h2 (by omega); omega
theorem u6_shr {x : Int} (y : Int) (h : U6 x) : U6 (shrv .u64 x y) := by
  unfold U6 shrv at *
  have := (fdiv_pow (x := x) (min y.toNat IntKind.u64.bits)).1 h.1
  omega
/-- The table of math/bits lies in the world. -/
def Tab (w : World) : Prop := ∀ j, j < 64 → w.cell? ⟨2, j, none⟩ = some (.int .u8 ((Lib.deBruijn64tab.getD j 0 : Nat) : Int))
theorem Tab.below {w w' : World} (h : Tab w) (hb : Below w.heap.size w w') : Tab w' := fun j hj => by
  have h0 := h j hj
  have hlt : 2 < w.heap.size := by
    rcases Nat.lt_or_ge 2 w.heap.size with h | h
    · exact h
    · simp [World.cell?, Array.getElem?_eq_none h] at h0
  rw [hb.cell (by exact hlt)]; exact h0
set_option maxHeartbeats 4000000 in
set_option maxRecDepth 100000 in
theorem ones_ex (u : Int) (h : U6 u) : ∃ x, (∀ W, Calls Tryd.prog 105 #[.int .u64 u] W fun e w' => e = .returned (.int .i64 x) ∧ w' = W) ∧ I6 x := by
  apply Exists.intro
  refine ⟨fun W => ?_, ?_⟩
  · go_enter Tryd.func105, Tryd.ntmps105
    go_wp2
    refine bodyPost_ret (results_tmp rfl _ _ _) rfl ?_
    exact ⟨rfl, rfl⟩
  · exact i6_bits _ _ _
set_option maxHeartbeats 4000000 in
set_option maxRecDepth 100000 in
theorem rotl_ex (u n : Int) (h : U6 u) : ∃ x, (∀ W, Calls Tryd.prog 109 #[.int .u64 u, .int .i64 n] W fun e w' => e = .returned (.int .u64 x) ∧ w' = W) ∧ U6 x := by
  have h1 := (u6_bits .and (IntKind.u64.wrap n) 63).1
  have h2 := (u6_wrap (64 - bits .and .u64 (IntKind.u64.wrap n) 63)).1
  have s1 := fun x yk => shl_eq (k := .u64) (x := x) (yk := yk) h1
  have s2 := fun x yk => shr_eq (k := .u64) (x := x) (yk := yk) h2
  apply Exists.intro
  refine ⟨fun W => ?_, ?_⟩
  · go_enter Tryd.func109, Tryd.ntmps109
    go_wp2
    refine bodyPost_ret (results_tmp rfl _ _ _) rfl ?_
    exact ⟨rfl, rfl⟩
  · exact u6_bits _ _ _
theorem yes_walk (b : Bool) (W : World) : Calls Tryd.prog 108 #[.bool b] W fun e w' => e = .returned (.int .i64 (if b then 1 else 0)) ∧ w' = W := by
  cases b
  all_goals
    go_enter Tryd.func108, Tryd.ntmps108
    go_wp2
    refine bodyPost_ret (results_tmp rfl _ _ _) rfl ?_
    exact ⟨rfl, rfl⟩
theorem trail_core (x k idx : Nat) (w : World) (hx0 : ((x : Int) == 0) = false)
    (key : IntKind.u64.wrap (Go.bits BinOp.and IntKind.u64 (x : Int) (IntKind.u64.wrap (-(x : Int))) * 285870213051353865) / 288230376151711744 = (idx : Int))
    (hi : idx < 64) (hk : k < 64) (hcell : w.cell? ⟨2, idx, none⟩ = some (.int .u8 k)) :
    Calls Tryd.prog 103 #[.int .u64 x] w fun e w' => e = .returned (.int .i64 k) ∧ w' = w := by
  go_enter Tryd.func103, Tryd.ntmps103
  go_wp2_with (simp only [key])
  go_ret
  exact ⟨rfl, rfl⟩
theorem trail_zero (w : World) : Calls Tryd.prog 103 #[.int .u64 0] w fun e w' => e = .returned (.int .i64 64) ∧ w' = w := by
  go_enter Tryd.func103, Tryd.ntmps103
  go_wp2
  go_ret
  exact ⟨rfl, rfl⟩
theorem and_nat (x y : Nat) (hx : x < 18446744073709551616) (hy : y < 18446744073709551616) : Go.bits BinOp.and IntKind.u64 (x : Int) (y : Int) = ((x &&& y : Nat) : Int) := by
  have h1 : (BitVec.ofInt 64 (x : Int)).toNat = x := by simp [BitVec.toNat_ofInt]; omega
  have h2 : (BitVec.ofInt 64 (y : Int)).toNat = y := by simp [BitVec.toNat_ofInt]; omega
  have h3 : x &&& y ≤ x := Nat.and_le_left
  show IntKind.u64.wrap ((BitVec.ofInt 64 (x : Int) &&& BitVec.ofInt 64 (y : Int)).toNat : Int) = _
  rw [BitVec.toNat_and, h1, h2, IntKind.wrap_u64]
  omega
theorem trail_key (x a : Nat) (hx : x < 18446744073709551616) (hx0 : x ≠ 0) (hlow : x &&& (18446744073709551616 - x) = a) :
    IntKind.u64.wrap (Go.bits BinOp.and IntKind.u64 (x : Int) (IntKind.u64.wrap (-(x : Int))) * 285870213051353865) / 288230376151711744 = ((a * 285870213051353865 % 18446744073709551616 / 288230376151711744 : Nat) : Int) := by
  have e1 : IntKind.u64.wrap (-(x : Int)) = ((18446744073709551616 - x : Nat) : Int) := by rw [IntKind.wrap_u64]; omega
  rw [e1, and_nat x _ hx (by omega), hlow, IntKind.wrap_u64]
  omega
theorem trail_walk (x : Nat) (hx : x < 18446744073709551616) (w : World) (hT : Tab w) : Calls Tryd.prog 103 #[.int .u64 x] w fun e w' => e = .returned (.int .i64 (Lib.ctz 64 x : Nat)) ∧ w' = w := by
  by_cases hx0 : x = 0
  · subst hx0
    exact trail_zero w
  · obtain ⟨hlow, hk⟩ := Lib.lowest_bit 64 x hx0 hx
    obtain ⟨hi, htab⟩ := Lib.deBruijn64_at _ hk
    have hcell := hT _ hi
    rw [htab] at hcell
    exact trail_core x _ _ w (by simp; omega) (trail_key x _ hx hx0 hlow) hi hk hcell
theorem ctz_le (x : Nat) (hx : x < 18446744073709551616) : Lib.ctz 64 x ≤ 64 := by
  by_cases hx0 : x = 0
  · subst hx0; decide
  · exact Nat.le_of_lt (Lib.lowest_bit 64 x hx0 hx).2
/-- The bits turned about, after k rounds. -/
def flips (u : Int) : Nat → Int
  | 0 => 0
  | k + 1 => bits .or .u64 (flips u k) (IntKind.u64.wrap (bits .and .u64 (u / 2 ^ k) 1 * 2 ^ (63 - k)))
set_option maxHeartbeats 4000000 in
set_option maxRecDepth 100000 in
theorem flip_walk (a : Int) (W : World) : Calls Tryd.prog 107 #[.int .i64 a] W fun e w' => e = .returned (.int .i64 (wrap64 (flips (IntKind.u64.wrap a) 64))) ∧ w' = W := by
  go_enter Tryd.func107, Tryd.ntmps107
  go_wp2
  go_loopw [3, 5] (fun r i wr => ∃ k : Nat, k ≤ 64 ∧ i = .int .i64 k ∧ r = .int .u64 (flips (IntKind.u64.wrap a) k) ∧ wr = W) (fun _ i _ => 64 - (intOf i).toNat)
  case atStart => exact ⟨0, by omega, rfl, rfl, rfl⟩
  case round =>
    obtain ⟨k, hk, rfl, rfl, rfl⟩ := hrel
    have s1 := fun x yk => shr_eq (k := .u64) (x := x) (yk := yk) (show (0 : Int) ≤ (k : Int) by omega)
    by_cases h : k < 64
    · have s2 := fun x yk => shl_eq (k := .u64) (x := x) (yk := yk) (show (0 : Int) ≤ 63 - (k : Int) by omega)
      go_wp2
      go_roundw
      case rel => exact ⟨k + 1, by omega, by go_num, rfl, trivial⟩
      case measure => simp [intOf]; omega
    · obtain rfl : k = 64 := by omega
      go_wp2
      refine bodyPost_ret (results_tmp rfl _ _ _) rfl ?_
      exact ⟨rfl, rfl⟩
/-- The high word of a product. -/
def wideHi (a b : Int) : Int := wrap64 (let h := (((IntKind.u64.wrap a).toNat * (IntKind.u64.wrap b).toNat / 18446744073709551616 : Nat) : Int); let h1 := if a < 0 then IntKind.u64.wrap (h - IntKind.u64.wrap b) else h; if b < 0 then IntKind.u64.wrap (h1 - IntKind.u64.wrap a) else h1)
set_option maxHeartbeats 4000000 in
set_option maxRecDepth 100000 in
theorem wide_walk (a b : Int) (W : World) : Calls Tryd.prog 110 #[.int .i64 a, .int .i64 b] W fun e w' => e = .returned (.tuple #[.int .i64 (wideHi a b), .int .u64 (((IntKind.u64.wrap a).toNat * (IntKind.u64.wrap b).toNat % 18446744073709551616 : Nat) : Int)]) ∧ w' = W := by
  have ha := u6_wrap a; have hb := u6_wrap b
  unfold U6 at ha hb
  have ea : ((IntKind.u64.wrap a).toNat : Int) = IntKind.u64.wrap a := by omega
  have eb : ((IntKind.u64.wrap b).toNat : Int) = IntKind.u64.wrap b := by omega
  have cM := Tryd.bits_Mul64 (IntKind.u64.wrap a).toNat (IntKind.u64.wrap b).toNat (by omega) (by omega) W
  rw [ea, eb] at cM
  replace cM := Lib.hid cM
  obtain ⟨hi, hhi⟩ : ∃ hi, Hid (hi = (((IntKind.u64.wrap a).toNat * (IntKind.u64.wrap b).toNat / 18446744073709551616 : Nat) : Int)) := ⟨_, Lib.hid rfl⟩
  have hw : wideHi a b = wrap64 (let h1 := if a < 0 then IntKind.u64.wrap (hi - IntKind.u64.wrap b) else hi; if b < 0 then IntKind.u64.wrap (h1 - IntKind.u64.wrap a) else h1) := by rw [hhi.out]; rfl
  rw [← hhi.out] at cM
  rw [hw]
  clear hw hhi ea eb ha hb
  by_cases c1 : a < 0 <;> by_cases c2 : b < 0 <;> simp only [c1, c2, if_true, if_false]
  all_goals
    go_enter Tryd.func110, Tryd.ntmps110
    go_wp2_with (first | (go_at_call 111; ((with_reducible refine (cM.out).mono ?_); rintro e w' ⟨rfl, rfl⟩)))
    refine bodyPost_ret (v := _) ?r rfl ⟨rfl, rfl⟩
    case r => simp [results, Tryd.results110]
end Go.Proofs.YtbcdeanmjhcgeaaDoor.Alu
