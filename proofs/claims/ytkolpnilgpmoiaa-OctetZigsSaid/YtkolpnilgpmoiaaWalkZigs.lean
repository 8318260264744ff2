/- OctetZigs, walked: zigzag, four bytes and the sum of bytes are the reference's. No condition. -/
import Derived.Test.YtkolpnilgpmoiaaZRefSum
import Derived.Test.YtkolpnilgpmoiaaZCodec2
import Derived.Test.YtkolpnilgpmoiaaZRefGet
import Derived.WalkKit
import Derived.OpenShut
import Derived.Deep.RegionWith
import Derived.Laws.StructEq
import Derived.ChangeKeysEq
import Derived.Deep.QuietTactic
import Derived.BigQuiet
import Derived.Lib.Hide
namespace Go.Proofs.Ytkolpnilgpmoiaa.WalkZigs
open Go.ChangeShapes Go.WideShapes Go.RowKit Go.Proofs.Ytkolpnilgpmoiaa.Z Go.Proofs.YtkolpnilgpmoiaaW.PrintWords Go.Proofs.Ytkolpnilgpmoiaa.Bits Go.Proofs.Ytkolpnilgpmoiaa.Codec
/-- A number in four bytes, in memory. -/
def box4 (y : Int) : Obj := .cells #[.int .u8 (y / 16777216), .int .u8 (y / 65536 % 256), .int .u8 (y / 256 % 256), .int .u8 (y % 256)] 33
/-- A number in four bytes. -/
def four (y : Int) : Value := .agg #[.int .u8 (y / 16777216), .int .u8 (y / 65536 % 256), .int .u8 (y / 256 % 256), .int .u8 (y % 256)]
set_option maxHeartbeats 1600000 in
set_option maxRecDepth 100000 in
theorem fixed_walk (y : Int) (w : World) (h0 : 0 ≤ y) (h1 : y < 4294967296) : Calls Try.prog 19 #[.int .u32 y] w fun e w' => e = .returned (four y) ∧ w' = w.alloc (box4 y) := by
  go_enter Try.func19, Try.ntmps19
  go_wp2
  exact bodyPost_ret (v := four y) (by simp [results, Try.results19, go_sem, four]) rfl ⟨rfl, rfl⟩
set_option maxHeartbeats 1600000 in
set_option maxRecDepth 100000 in
theorem ref_fixed_walk (y : Int) (w : World) (h0 : 0 ≤ y) (h1 : y < 4294967296) : Calls Try.prog 20 #[.int .u32 y] w fun e w' => e = .returned (four y) ∧ w' = w.alloc (box4 y) := by
  go_enter Try.func20, Try.ntmps20
  go_wp2
  exact bodyPost_ret (v := four y) (by simp [results, Try.results20, go_sem, four]) rfl ⟨rfl, rfl⟩
theorem pt0 (v0 v1 v2 v3 : Value) (w : World) : (part 5 #[v0, v1, v2, v3] 0).run Try.prog w = .ok v0 w := by kernel_rfl
theorem pt1 (v0 v1 v2 v3 : Value) (w : World) : (part 5 #[v0, v1, v2, v3] 1).run Try.prog w = .ok v1 w := by kernel_rfl
theorem pt2 (v0 v1 v2 v3 : Value) (w : World) : (part 5 #[v0, v1, v2, v3] 2).run Try.prog w = .ok v2 w := by kernel_rfl
theorem pt3 (v0 v1 v2 v3 : Value) (w : World) : (part 5 #[v0, v1, v2, v3] 3).run Try.prog w = .ok v3 w := by kernel_rfl
theorem info5' : (Try.prog.info? 5).isSome = true := by kernel_rfl
theorem cells5 : Try.prog.cellsOf 5 = 1 := by kernel_rfl
theorem guard33 : Try.prog.eqGuardType Try.prog.depth 33 = false := by kernel_rfl
theorem eq4_run (a b c d : Int) (w : World) : (Op.equalIn 10000 33 (.agg #[.int .u8 a, .int .u8 b, .int .u8 c, .int .u8 d]) (.agg #[.int .u8 a, .int .u8 b, .int .u8 c, .int .u8 d])).run Try.prog w = .ok true w := by
  obtain ⟨i, hi⟩ := Option.isSome_iff_exists.1 info5'
  rw [show (10000 : Nat) = 9999 + 1 from rfl, run_equalIn_array w 9999 _ _ Try.underlying33 hi, cells5, show List.range 4 = [0, 1, 2, 3] from rfl]
  have e := fun (a b : Int) (w : World) => run_equalIn_int (P := Try.prog) w 9998 5 .u8 .u8 a b Try.underlying5
  simp [Op.eqItems, Sem.run_bind, Nat.reduceMul, pt0, pt1, pt2, pt3, Result.andThen_ok, e, Sem.run_ite, Sem.run_pure]
set_option maxHeartbeats 3200000 in
set_option maxRecDepth 100000 in
theorem zigs_walk (x u : Int) (a0 : Option Addr) (len0 cap0 : Nat) (z0 : List Int) (w : World) (wx : (Lit.int .i64 x).wf = true) (wu : (Lit.int .u64 u).wf = true) (w0 : (a0 = none ∧ len0 = 0 ∧ cap0 = 0 ∧ z0 = []) ∨ ∃ x, a0 = some x ∧ len0 ≤ cap0 ∧ cap0 ≤ maxLen ∧ z0.length = cap0 ∧ (∀ i, i < z0.length → w.cell? (x.add i) = some (.int .u8 (z0.getD i 0))) ∧ ∀ n ∈ z0, (Lit.int .u8 n).wf = true) (y0 : len0 * 1 ≤ 140737488351232) :
    Calls Try.prog 5 #[.int .i64 x, .int .u64 u, .slice a0 len0 cap0] w fun e w' => e = .returned (.bool true) ∧ Below w.heap.size w w' := by
  obtain ⟨l0, rfl, hr0, hm0, hw0, hc0⟩ := ReadsInt.ofRowC w0
  have hr := Kd.C_of_reads (d := (0 : Int)) (h1 := fun _ => rfl) hr0
  have bx := Go.bounds_i64 wx
  have bu := Go.bounds_u64 wu
  obtain ⟨z, hz1, hz2, hz3, _⟩ := zig_nat x (by omega) (by omega)
  obtain ⟨v, rfl⟩ : ∃ v : Nat, u = (v : Int) := ⟨u.toNat, by omega⟩
  have hv := Pure.ref_zag v (by omega)
  have hg1 := zag_val v (by omega)
  have hs := Crc.sum_val l0 (by omega) (10 * l0.length + 1) (by omega)
  have ht := Crc.ref_sum_val l0 (by omega) (10 * l0.length + 1) (by omega)
  generalize hS : (((~~~Crc.reg (Crc.byt l0) (BitVec.allOnes 32) l0.length).toNat : Nat) : Int) = S at hs ht
  rw [hg1] at hv
  generalize hZ : (if v % 2 = 0 then ((v / 2 : Nat) : Int) else -((v / 2 : Nat) : Int) - 1) = Z at hg1 hv
  have cZ0 := fun W => octet_Zig.calls x z W hz1
  have cZ0' := fun W => scarabref01_Zig.calls x z W hz2
  have cG0 := fun W => octet_Zag.calls v Z W hg1
  have cG0' := fun W => scarabref01_Zag.calls v Z W hv
  have cF0 := fun W => fixed_walk ((v : Int) % 4294967296) W (by omega) (by omega)
  have cF0' := fun W => ref_fixed_walk ((v : Int) % 4294967296) W (by omega) (by omega)
  have cS0 := fun W hb => octet_Sum.calls _ a0 cap0 l0 S W (Kd.C_below hr hb) hc0 hs
  have cS0' := fun W hb => scarabref01_Sum.calls _ a0 cap0 l0 S W (Kd.C_below hr hb) hc0 ht
  have hq := eq4_run
  have hg := guard33
  unfold four at cF0 cF0'
  have cZ := Lib.hid cZ0; have cZ' := Lib.hid cZ0'; have cG := Lib.hid cG0; have cG' := Lib.hid cG0'; have cF := Lib.hid cF0; have cF' := Lib.hid cF0'; have cS := Lib.hid cS0; have cS' := Lib.hid cS0'
  clear cZ0 cZ0' cG0 cG0' cF0 cF0' cS0 cS0' hs ht hg1 hv hz1 hz2 hr hr0 w0 hw0 hZ hS y0 hm0 hc0
  go_enter Try.func5, Try.ntmps5
  go_wp2_with (first
    | (go_at_call 12; ((with_reducible refine (cZ.out _).mono ?_); rintro e w' ⟨rfl, ⟨n, rfl⟩⟩))
    | (go_at_call 16; ((with_reducible refine (cZ'.out _).mono ?_); rintro e w' ⟨rfl, ⟨n, rfl⟩⟩))
    | (go_at_call 17; ((with_reducible refine (cG.out _).mono ?_); rintro e w' ⟨rfl, ⟨n, rfl⟩⟩))
    | (go_at_call 18; ((with_reducible refine (cG'.out _).mono ?_); rintro e w' ⟨rfl, ⟨n, rfl⟩⟩))
    | (go_at_call 19; ((with_reducible refine (cF.out _).mono ?_); rintro e w' ⟨rfl, rfl⟩))
    | (go_at_call 20; ((with_reducible refine (cF'.out _).mono ?_); rintro e w' ⟨rfl, rfl⟩))
    | (go_at_call 15; ((with_reducible refine (cS.out _ (by repeat (first | (with_reducible exact Below.refl _ _) | (with_reducible refine Below.drew ?_) | (with_reducible refine pw_below_drewN ?_ _) | (with_reducible refine Below.alloc ?_ (by first | omega | (simp <;> omega)) _)))).mono ?_); rintro e w' ⟨rfl, ⟨n, rfl⟩⟩))
    | (go_at_call 21; ((with_reducible refine (cS'.out _ (by repeat (first | (with_reducible exact Below.refl _ _) | (with_reducible refine Below.drew ?_) | (with_reducible refine pw_below_drewN ?_ _) | (with_reducible refine Below.alloc ?_ (by first | omega | (simp <;> omega)) _)))).mono ?_); rintro e w' ⟨rfl, ⟨n, rfl⟩⟩)))
  go_ret
  exact ⟨rfl, (by repeat (first | (with_reducible exact Below.refl _ _) | (with_reducible refine Below.drew ?_) | (with_reducible refine pw_below_drewN ?_ _) | (with_reducible refine Below.alloc ?_ (by first | omega | (simp <;> omega)) _)))⟩
end Go.Proofs.Ytkolpnilgpmoiaa.WalkZigs
