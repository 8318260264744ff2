/- The readers' calls, walked: numbers. -/
import Derived.Test.YtkolpnilgpmoiaaPlayK
import Derived.Deep.QuietTactic
import Derived.BigQuiet
namespace Go.Proofs.Ytkolpnilgpmoiaa.Pl
open Go.ChangeShapes Go.WideShapes Go.RowKit Go.Proofs.Ytkolpnilgpmoiaa.Z Go.Proofs.YtkolpnilgpmoiaaW.PrintWords Go.Proofs.Ytkolpnilgpmoiaa.Bits Go.Proofs.Ytkolpnilgpmoiaa.Codec Go.Proofs.Ytkolpnilgpmoiaa.Pure
set_option linter.unusedVariables false
theorem gt_to (l : List Int) (at_ : Nat) : ∀ (f j : Nat) (x v n : Int), gt l at_ f j x = (v, n, 0) → ∃ m : Nat, n = m ∧ m ≤ l.length
  | 0, j, x, v, n, h => by simp [gt] at h
  | f + 1, j, x, v, n, h => by
    rw [gt] at h
    split at h
    · simp at h
    split at h
    · simp at h
    split at h
    · exact gt_to l at_ f _ _ v n h
    split at h
    · simp at h
    · simp only [Prod.mk.injEq] at h
      exact ⟨at_ + j + 1, by rw [← h.2.1], by omega⟩
def zagF (v : Int) : Int := Go.bits .xor .i64 (wrap64 (v / 2)) (wrap64 (-(wrap64 (Go.bits .and .u64 v 1))))
theorem zag_f (v : Int) : octet_Zag.f v = some (zagF v) := rfl
theorem zag_zero : zagF 0 = 0 := by decide +kernel
/-- Where a reader of a number with a sign comes to. -/
def sint (L : List Int) (p : Nat) : Int × Nat × Int := (zagF (uint L p).1, (uint L p).2.1, (uint L p).2.2)
theorem getint_val (L : List Int) (hb : Codec.bytes L) (hl : L.length ≤ 140737488351300) (p : Nat) (hp : p ≤ L.length) :
    scarabref01_GetInt.f 100 L p = some (if (gt L p 10 0 0).2.2 = 0 then (zagF (gt L p 10 0 0).1, (gt L p 10 0 0).2.1, 0) else (0, 0, (gt L p 10 0 0).2.2)) := by
  have hgt := ref_get_val L hb hl p 100 (by omega)
  rw [if_pos ⟨by omega, by omega⟩, Int.toNat_natCast] at hgt
  unfold scarabref01_GetInt.f
  rw [hgt]
  have hf := gt_form L hb p (gt L p 10 0 0).1 (gt L p 10 0 0).2.1 (gt L p 10 0 0).2.2 rfl
  generalize gt L p 10 0 0 = r at *
  obtain ⟨v, n, e⟩ := r
  simp only at hf ⊢
  rw [Option.bind_some]
  simp only
  by_cases he : e = 0
  · rw [if_pos he, if_pos he]
    rcases hf with ⟨h, _⟩ | ⟨_, h0, h1⟩
    · exact absurd he h
    · obtain ⟨u, rfl⟩ := Int.eq_ofNat_of_zero_le h0
      rw [ref_zag u (by omega), zag_f]
      rfl
  · rw [if_neg he, if_neg he]
variable {w0 : World} {L : List Int} {A B : Option Addr} {c d g h p q : Nat} {W : World}
theorem uint_le (hp : p ≤ L.length) : (uint L p).2.1 ≤ L.length := by
  unfold uint
  simp only
  split
  · rename_i he
    generalize hr : gt L p 10 0 0 = r at *
    obtain ⟨v, n, e⟩ := r
    simp only at he
    subst he
    obtain ⟨m, rfl, hm⟩ := gt_to L p 10 0 0 v n hr
    simpa using hm
  · exact hp
theorem room (P : Play w0 L A B c d g h p q W) : L.length ≤ d := by
  rcases P.row.2 with ⟨e, h0⟩ | ⟨g', cap, cur, e, _, _, hc, _⟩
  · omega
  · injection e with _ _ e3; omega
theorem Play.kdB (P : Play w0 L A B c d g h p q W) : Kd.C (Kd.int .u8) W B L.length L := Kd.C_of_reads (d := (0 : Int)) (h1 := fun _ => rfl) P.readsB
theorem Play.kdA (P : Play w0 L A B c d g h p q W) (hA : Kd.C (Kd.int .u8) w0 A L.length L) : Kd.C (Kd.int .u8) W A L.length L := Kd.C_below hA P.acc
/-- Get of the program, as a quiet callee. -/
theorem get_quiet (hb : Codec.bytes L) (hl : L.length ≤ 140737488351300) (P : Play w0 L A B c d g h p q W) (k : Nat) :
    Calls Try.prog 28 #[.slice B L.length d, .int .i64 p] (W.drewN k) fun e w' => e = .returned (.tuple #[.int .u64 (gt L p 10 0 0).1, .int .i64 (gt L p 10 0 0).2.1, .int .i64 (gt L p 10 0 0).2.2]) ∧ ∃ m, w' = (W.drewN k).drewN m := by
  have hgt := get_val L hb hl p 100 (by omega)
  rw [if_pos ⟨by omega, by have := P.hp; omega⟩, Int.toNat_natCast] at hgt
  exact (octet_Get.calls 100 B d L p (gt L p 10 0 0).1 (gt L p 10 0 0).2.1 (gt L p 10 0 0).2.2 (W.drewN k) (P.drewN k).kdB (room P) hgt).mono fun e w' ⟨he, hd⟩ => ⟨he, hd.out⟩
theorem rget_quiet (hb : Codec.bytes L) (hl : L.length ≤ 140737488351300) (hA : Kd.C (Kd.int .u8) w0 A L.length L) (hc : L.length ≤ c) (P : Play w0 L A B c d g h p q W) (k : Nat) :
    Calls Try.prog 30 #[.slice A L.length c, .int .i64 q] (W.drewN k) fun e w' => e = .returned (.tuple #[.int .u64 (gt L q 10 0 0).1, .int .i64 (gt L q 10 0 0).2.1, .int .i64 (gt L q 10 0 0).2.2]) ∧ ∃ m, w' = (W.drewN k).drewN m := by
  have hgt := ref_get_val L hb hl q 100 (by omega)
  rw [if_pos ⟨by omega, by have := P.hq; omega⟩, Int.toNat_natCast] at hgt
  exact (scarabref01_Get.calls 100 A c L q (gt L q 10 0 0).1 (gt L q 10 0 0).2.1 (gt L q 10 0 0).2.2 (W.drewN k) ((P.drewN k).kdA hA) hc hgt).mono fun e w' ⟨he, hd⟩ => ⟨he, hd.out⟩
theorem rgetint_quiet (hb : Codec.bytes L) (hl : L.length ≤ 140737488351300) (hA : Kd.C (Kd.int .u8) w0 A L.length L) (hc : L.length ≤ c) (P : Play w0 L A B c d g h p q W) (k : Nat) :
    Calls Try.prog 31 #[.slice A L.length c, .int .i64 q] (W.drewN k) fun e w' => e = .returned (.tuple #[.int .i64 (zagF (gt L q 10 0 0).1), .int .i64 (if (gt L q 10 0 0).2.2 = 0 then (gt L q 10 0 0).2.1 else 0), .int .i64 (gt L q 10 0 0).2.2]) ∧ ∃ m, w' = (W.drewN k).drewN m := by
  have hgt := getint_val L hb hl q P.hq
  have hf := gt_form L hb q (gt L q 10 0 0).1 (gt L q 10 0 0).2.1 (gt L q 10 0 0).2.2 rfl
  generalize gt L q 10 0 0 = r at *
  obtain ⟨v, n, e⟩ := r
  simp only at hgt hf ⊢
  by_cases he : e = 0
  · subst he
    rw [if_pos rfl] at hgt
    exact (scarabref01_GetInt.calls 100 A c L q _ _ _ (W.drewN k) ((P.drewN k).kdA hA) hc hgt).mono fun e w' ⟨he, hd⟩ => ⟨he, hd.out⟩
  · rw [if_neg he] at hgt
    rcases hf with ⟨_, h0, _⟩ | ⟨h, _⟩
    · subst h0
      rw [zag_zero, if_neg he]
      exact (scarabref01_GetInt.calls 100 A c L q _ _ _ (W.drewN k) ((P.drewN k).kdA hA) hc hgt).mono fun e w' ⟨he, hd⟩ => ⟨he, hd.out⟩
    · exact absurd h he
theorem zag_quiet (v : Int) (W : World) : Calls Try.prog 17 #[.int .u64 v] W fun e w' => e = .returned (.int .i64 (zagF v)) ∧ Drawn0 W w' := octet_Zag.calls v (zagF v) W (zag_f v)
set_option maxHeartbeats 4000000 in
set_option maxRecDepth 100000 in
theorem guint (hb : Codec.bytes L) (hl : L.length ≤ 140737488351300) (P : Play w0 L A B c d g h p q W) : Calls Try.prog 34 #[.pointer (some ⟨g, 0, none⟩)] W fun e w' => e = .returned (.tuple #[.int .u64 (uint L p).1, .int .i64 (uint L p).2.2]) ∧ Play w0 L A B c d g h (uint L p).2.1 q w' := by
  have cG := fun k => get_quiet hb hl P k
  have hto := gt_to L p 10 0 0
  have hle := uint_le P.hp
  unfold uint at hle ⊢
  generalize gt L p 10 0 0 = r at *
  obtain ⟨v, n, e⟩ := r
  simp only at cG hle hto ⊢
  have e0 := P.g0
  have e1 := P.g1
  have ef := P.gf
  have lg := P.lg
  replace P := Lib.hid P
  by_cases he : e = 0
  · subst he
    obtain ⟨m, rfl, hm⟩ := hto v n rfl
    skip
    replace cG := Lib.hid cG
    go_enter Try.func34, Try.ntmps34
    go_wp2
    go_quiet ((go_at_call 28; refine Calls.quiet_of (cG.out _)))
    go_wp2
    go_ret2
    exact ⟨rfl, by (try rw [if_pos rfl, Int.toNat_natCast]); exact (P.out.drewN _).putG m hm⟩
  · have he' : (e == 0) = false := by simpa using he
    have he2 : decide (e = 0) = false := decide_eq_false he
    skip
    replace cG := Lib.hid cG
    go_enter Try.func34, Try.ntmps34
    go_wp2
    go_quiet ((go_at_call 28; refine Calls.quiet_of (cG.out _)))
    go_wp2
    go_ret2
    exact ⟨rfl, by (try rw [if_neg he]); exact P.out.drewN _⟩
set_option maxHeartbeats 4000000 in
set_option maxRecDepth 100000 in
theorem huint (hb : Codec.bytes L) (hl : L.length ≤ 140737488351300) (hA : Kd.C (Kd.int .u8) w0 A L.length L) (hc : L.length ≤ c) (P : Play w0 L A B c d g h p q W) : Calls Try.prog 41 #[.pointer (some ⟨h, 0, none⟩)] W fun e w' => e = .returned (.tuple #[.int .u64 (uint L q).1, .int .i64 (uint L q).2.2]) ∧ Play w0 L A B c d g h p (uint L q).2.1 w' := by
  have cG := fun k => rget_quiet hb hl hA hc P k
  have hto := gt_to L q 10 0 0
  have hle := uint_le P.hq
  unfold uint at hle ⊢
  generalize gt L q 10 0 0 = r at *
  obtain ⟨v, n, e⟩ := r
  simp only at cG hle hto ⊢
  have e0 := P.h0
  have e1 := P.h1
  have ef := P.hf
  have lg := P.lh
  replace P := Lib.hid P
  by_cases he : e = 0
  · subst he
    obtain ⟨m, rfl, hm⟩ := hto v n rfl
    skip
    replace cG := Lib.hid cG
    go_enter Try.func41, Try.ntmps41
    go_wp2
    go_quiet ((go_at_call 30; refine Calls.quiet_of (cG.out _)))
    go_wp2
    go_ret2
    exact ⟨rfl, by (try rw [if_pos rfl, Int.toNat_natCast]); exact (P.out.drewN _).putH m hm⟩
  · have he' : (e == 0) = false := by simpa using he
    have he2 : decide (e = 0) = false := decide_eq_false he
    skip
    replace cG := Lib.hid cG
    go_enter Try.func41, Try.ntmps41
    go_wp2
    go_quiet ((go_at_call 30; refine Calls.quiet_of (cG.out _)))
    go_wp2
    go_ret2
    exact ⟨rfl, by (try rw [if_neg he]); exact P.out.drewN _⟩
set_option maxHeartbeats 4000000 in
set_option maxRecDepth 100000 in
theorem hint (hb : Codec.bytes L) (hl : L.length ≤ 140737488351300) (hA : Kd.C (Kd.int .u8) w0 A L.length L) (hc : L.length ≤ c) (P : Play w0 L A B c d g h p q W) : Calls Try.prog 42 #[.pointer (some ⟨h, 0, none⟩)] W fun e w' => e = .returned (.tuple #[.int .i64 (sint L q).1, .int .i64 (sint L q).2.2]) ∧ Play w0 L A B c d g h p (sint L q).2.1 w' := by
  have cG := fun k => rgetint_quiet hb hl hA hc P k
  have hto := gt_to L q 10 0 0
  have hle := uint_le P.hq
  unfold sint
  unfold uint at hle ⊢
  generalize gt L q 10 0 0 = r at *
  obtain ⟨v, n, e⟩ := r
  simp only at cG hle hto ⊢
  have e0 := P.h0
  have e1 := P.h1
  have ef := P.hf
  have lg := P.lh
  replace P := Lib.hid P
  by_cases he : e = 0
  · subst he
    obtain ⟨m, rfl, hm⟩ := hto v n rfl
    simp only [if_true] at cG
    replace cG := Lib.hid cG
    go_enter Try.func42, Try.ntmps42
    go_wp2
    go_quiet ((go_at_call 31; refine Calls.quiet_of (cG.out _)))
    go_wp2
    go_ret2
    exact ⟨rfl, by (try rw [if_pos rfl, Int.toNat_natCast]); exact (P.out.drewN _).putH m hm⟩
  · have he' : (e == 0) = false := by simpa using he
    have he2 : decide (e = 0) = false := decide_eq_false he
    simp only [if_neg he] at cG
    replace cG := Lib.hid cG
    go_enter Try.func42, Try.ntmps42
    go_wp2
    go_quiet ((go_at_call 31; refine Calls.quiet_of (cG.out _)))
    go_wp2
    go_ret2
    exact ⟨rfl, by (try rw [if_neg he]); exact P.out.drewN _⟩
set_option maxHeartbeats 4000000 in
set_option maxRecDepth 100000 in
theorem gint (hb : Codec.bytes L) (hl : L.length ≤ 140737488351300) (P : Play w0 L A B c d g h p q W) : Calls Try.prog 35 #[.pointer (some ⟨g, 0, none⟩)] W fun e w' => e = .returned (.tuple #[.int .i64 (sint L p).1, .int .i64 (sint L p).2.2]) ∧ Play w0 L A B c d g h (sint L p).2.1 q w' := by
  have cG := Lib.hid (guint hb hl P)
  have cZ := Lib.hid (fun v W => zag_quiet v W)
  unfold sint
  generalize uint L p = r at *
  go_enter Try.func35, Try.ntmps35
  go_wp2_with (first
    | ((go_at_call 17; ((with_reducible refine (cZ.out _ _).mono ?_); rintro e w' ⟨rfl, hd⟩)))
    | ((go_at_call 34; ((with_reducible refine (cG.out).mono ?_); rintro e w' ⟨rfl, P1⟩))))
  go_ret2
  exact ⟨rfl, P1.next hd.below⟩
set_option maxHeartbeats 1000000 in
set_option maxRecDepth 100000 in
theorem gat (P : Play w0 L A B c d g h p q W) : Calls Try.prog 37 #[.pointer (some ⟨g, 0, none⟩)] W fun e w' => e = .returned (.int .i64 p) ∧ w' = W := by
  have e1 := P.g1
  clear P
  go_enter Try.func37, Try.ntmps37
  go_wp2
  go_ret
  exact ⟨rfl, rfl⟩
set_option maxHeartbeats 1000000 in
set_option maxRecDepth 100000 in
theorem gleft (hl : L.length ≤ 140737488351300) (P : Play w0 L A B c d g h p q W) : Calls Try.prog 38 #[.pointer (some ⟨g, 0, none⟩)] W fun e w' => e = .returned (.int .i64 ((L.length : Int) - p)) ∧ ∃ m, w' = W.drewN m := by
  have e0 := P.g0
  have e1 := P.g1
  have hp := P.hp
  have hw : IntKind.i64.wrap ((L.length : Int) - p) = (L.length : Int) - p := by simp [IntKind.wrap, IntKind.bits]; omega
  clear P
  go_enter Try.func38, Try.ntmps38
  go_wp2
  go_quiet (fail)
  go_wp2
  go_ret
  exact ⟨rfl, _, rfl⟩
set_option maxHeartbeats 1000000 in
set_option maxRecDepth 100000 in
theorem gend (hl : L.length ≤ 140737488351300) (P : Play w0 L A B c d g h p q W) : Calls Try.prog 39 #[.pointer (some ⟨g, 0, none⟩)] W fun e w' => e = .returned (.int .i64 (if p < L.length then 13 else 0)) ∧ ∃ m, w' = W.drewN m := by
  have cL := Lib.hid (gleft hl P)
  have hp := P.hp
  clear P
  by_cases hc : p < L.length
  · rw [if_pos hc]
    go_enter Try.func39, Try.ntmps39
    go_wp2_with ((go_at_call 38; ((with_reducible refine (cL.out).mono ?_); rintro e w' ⟨rfl, hm⟩)))
    go_ret
    exact ⟨rfl, hm⟩
  · rw [if_neg hc]
    go_enter Try.func39, Try.ntmps39
    go_wp2_with ((go_at_call 38; ((with_reducible refine (cL.out).mono ?_); rintro e w' ⟨rfl, hm⟩)))
    go_ret
    exact ⟨rfl, hm⟩
set_option maxHeartbeats 1000000 in
set_option maxRecDepth 100000 in
theorem hend (hl : L.length ≤ 140737488351300) (P : Play w0 L A B c d g h p q W) : Calls Try.prog 44 #[.pointer (some ⟨h, 0, none⟩)] W fun e w' => e = .returned (.int .i64 (if q < L.length then 13 else 0)) ∧ ∃ m, w' = W.drewN m := by
  have e0 := P.h0
  have e1 := P.h1
  have hq := P.hq
  clear P
  by_cases hc : q < L.length
  · rw [if_pos hc]
    go_enter Try.func44, Try.ntmps44
    go_wp2
    go_quiet (fail)
    go_wp2
    go_ret
    exact ⟨rfl, _, rfl⟩
  · rw [if_neg hc]
    go_enter Try.func44, Try.ntmps44
    go_wp2
    go_quiet (fail)
    go_wp2
    go_ret
    exact ⟨rfl, _, rfl⟩
end Go.Proofs.Ytkolpnilgpmoiaa.Pl
