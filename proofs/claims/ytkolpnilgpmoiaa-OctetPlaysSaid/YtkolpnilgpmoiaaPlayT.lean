/- The readers' calls, walked: bytes. -/
import Derived.Test.YtkolpnilgpmoiaaPlayG
import Derived.Test.YtkolpnilgpmoiaaShelfC
import Derived.Deep.RegionHeld3
namespace Go.Proofs.Ytkolpnilgpmoiaa.Pl
open Go.ChangeShapes Go.WideShapes Go.RowKit Go.Proofs.Ytkolpnilgpmoiaa.Z Go.Proofs.YtkolpnilgpmoiaaW.PrintWords Go.Proofs.Ytkolpnilgpmoiaa.Bits Go.Proofs.Ytkolpnilgpmoiaa.Codec Go.Proofs.Ytkolpnilgpmoiaa.Pure
set_option linter.unusedVariables false
/-- What is taken, and the error. -/
def tkx (L : List Int) (p : Nat) (n : Int) : List Int := if 0 ≤ n ∧ n ≤ (L.length : Int) - p then (L.drop p).take n.toNat else []
def tke (L : List Int) (p : Nat) (n : Int) : Int := if n < 0 then 1 else if (L.length : Int) - p < n then 10 else 0
variable {w0 : World} {L : List Int} {A B : Option Addr} {c d g hh p q : Nat} {W : World}
theorem tkx_len (hp : p ≤ L.length) (n : Int) : p + (tkx L p n).length ≤ L.length := by
  unfold tkx
  split
  · rw [List.length_take, List.length_drop]; omega
  · simp; exact hp
theorem row_at {w : World} {base n d : Nat} {e : TypeId} {B : Option Addr} {L : List Int} (h : w.ownsRow base e 1 (.slice B n d) n (L.map (Value.int .u8))) (h0 : 0 < n) : ∃ k, B = some ⟨k, 0, none⟩ ∧ L.length = n ∧ n ≤ d ∧ d ≤ maxLen ∧ ∀ j x, L[j]? = some x → w.cell? ⟨k, j, none⟩ = some (.int .u8 x) := by
  have hlen : L.length = n := by simpa using h.1
  rcases h.2 with ⟨e1, h1⟩ | ⟨g, cap, cur, e1, hb, hg, hc, hm, hs, ht⟩
  · omega
  · injection e1 with e2 e3 e4
    subst e4
    refine ⟨g, e2, hlen, hc, hm, fun j x hx => ?_⟩
    have hj : j < n := by rw [← hlen]; exact (List.getElem?_eq_some_iff.1 hx).1
    have h2 : (cur.toList.take (n * 1))[j]? = some (.int .u8 x) := by rw [ht, List.getElem?_map, hx]; rfl
    rw [List.getElem?_take_of_lt (by omega)] at h2
    simp [World.cell?, hg]
    simpa using h2
set_option maxHeartbeats 4000000 in
set_option maxRecDepth 100000 in
theorem gtake (hl : L.length ≤ 140737488351300) (n : Int) (hn : -9223372036854775808 ≤ n ∧ n ≤ 9223372036854775807) (P : Play w0 L A B c d g hh p q W) : Calls Try.prog 36 #[.pointer (some ⟨g, 0, none⟩), .int .i64 n] W fun e w' =>
    ∃ v, e = .returned (.tuple #[v, .int .i64 (tke L p n)]) ∧ w'.ownsRow W.heap.size 5 1 v (tkx L p n).length (bs (tkx L p n)) ∧ Play w0 L A B c d g hh (p + (tkx L p n).length) q w' ∧ (∀ k, k < W.heap.size → k ≠ g → w'.heap[k]? = W.heap[k]?) := by
  have cL := Lib.hid (gleft hl P)
  have hp := P.hp
  by_cases h0 : n < 0
  · rw [show tkx L p n = [] from if_neg (by omega), show tke L p n = 1 from if_pos h0]
    replace P := Lib.hid P
    go_enter Try.func36, Try.ntmps36
    go_wp2
    go_ret2
    exact ⟨_, rfl, World.ownsRow_nil _ _ _ _, P.out, fun _ _ _ => rfl⟩
  by_cases h1 : (L.length : Int) - p < n
  · rw [show tkx L p n = [] from if_neg (by omega), show tke L p n = 10 by unfold tke; rw [if_neg h0, if_pos h1]]
    replace P := Lib.hid P
    go_enter Try.func36, Try.ntmps36
    go_wp2_with ((go_at_call 38; ((with_reducible refine (cL.out).mono ?_); rintro e w' ⟨rfl, m, rfl⟩)))
    go_ret2
    exact ⟨_, rfl, World.ownsRow_nil _ _ _ _, P.out.drewN m, fun _ _ _ => rfl⟩
  by_cases h2 : n = 0
  · subst h2
    rw [show tkx L p 0 = [] by unfold tkx; split <;> simp, show tke L p 0 = 0 by unfold tke; rw [if_neg h0, if_neg h1]]
    replace P := Lib.hid P
    go_enter Try.func36, Try.ntmps36
    go_wp2_with ((go_at_call 38; ((with_reducible refine (cL.out).mono ?_); rintro e w' ⟨rfl, m, rfl⟩)))
    go_ret2
    exact ⟨_, rfl, World.ownsRow_nil _ _ _ _, P.out.drewN m, fun _ _ _ => rfl⟩
  obtain ⟨m, rfl⟩ := Int.eq_ofNat_of_zero_le (show 0 ≤ n by omega)
  have htk : tkx L p m = (L.drop p).take m := by unfold tkx; rw [if_pos (by omega), Int.toNat_natCast]
  have hln : ((L.drop p).take m).length = m := by rw [List.length_take, List.length_drop]; omega
  rw [htk, hln, show tke L p m = 0 by unfold tke; rw [if_neg h0, if_neg h1]]
  obtain ⟨k, rfl, _, hd, hdm, hcell⟩ := row_at (L := L) P.row (by omega)
  have e0 := P.g0
  have e1 := P.g1
  have ef := P.gf
  have lg := P.lg
  have hkl : k < W.heap.size := (P.sg k rfl).2.2
  replace P := Lib.hid P
  have cC := Lib.hid (fun (V : World) (hV : Below W.heap.size W V) => Try.bytes_Clone_at ⟨k, p, none⟩ m (d - p) ((L.drop p).take m) V hln (by omega) (fun i hi => by
    have hi' : p + i < L.length := by omega
    rw [show (⟨k, p, none⟩ : Addr).add i = ⟨k, p + i, none⟩ by simp [Addr.add], hV.cell (by simpa using hkl), hcell (p + i) L[p + i] (by simp [hi'])]
    simp [hi, hi', List.getD]))
  replace hcell := Lib.hid hcell
  have b1 : (0 : Int) ≤ (p : Int) := by omega
  have b2 : (p : Int) ≤ (p : Int) + m := by omega
  have b3 : (p : Int) + m ≤ (d : Int) := by omega
  have b4 : ¬ d = p := by omega
  have b5 : (p : Int) + m - p = m := by omega
  have b6 : ((p : Int) + m).toNat = p + m := by omega
  have hw : IntKind.i64.wrap ((p : Int) + m) = (p : Int) + m := by unfold maxLen at hdm; simp [IntKind.wrap, IntKind.bits]; omega
  go_enter Try.func36, Try.ntmps36
  go_wp2_with ((go_at_call 38; ((with_reducible refine (cL.out).mono ?_); rintro e w' ⟨rfl, mm, rfl⟩)))
  go_region_held3 (fun V => V.cell? ⟨g, 0, none⟩ = some (.slice (some ⟨k, 0, none⟩) L.length d) ∧ V.cell? ⟨g, 1, none⟩ = some (.int .i64 p))
    (first | assumption | exact ⟨e0, e1⟩ | exact ⟨P1.g0, P1.g1⟩)
    (first | ((go_at_call 45; ((with_reducible refine (cC.out _ (by first | exact pw_below_drewN (Below.refl _ _) _ | exact Below.drew (pw_below_drewN (Below.refl _ _) _))).mono ?_); rintro e w' ⟨v, rfl, own, _, hb1⟩)); have P1 := (by first | exact (P.out.drewN _).drew.next hb1 | exact (P.out.drewN _).next hb1 : Play w0 L A (some ⟨k, 0, none⟩) c d g hh p q w')) | fail)
  have P1 : Play w0 L A (some ⟨k, 0, none⟩) c d g hh p q w' := by assumption
  have f1 := P1.g1
  have ff := P1.gf
  have fl := P1.lg
  have hsz : W.heap.size ≤ w'.heap.size := by have := hb1.size; simpa using this
  have hw := hw
  go_wp2
  go_ret2
  refine ⟨v, rfl, ?_, ?_, fun j hj hjg => (Below.heap_setCell _ _ _ _ hjg).trans (hb1.block j hj)⟩
  · have hs : W.heap.size ≤ (((W.drewN mm).drew).heap.size) := Nat.le_refl _
    have o2 : w'.ownsRow W.heap.size 5 1 v m (bs ((L.drop p).take m)) := own
    exact own_move o2 (fun j hj => Below.heap_setCell _ _ _ _ (fun e => by have := (own.lt j hj).1; simp at this; have := lg.2; simp only at e; omega))
  · have := P1.putG (p + m) (by omega)
    simpa using this
theorem kd_nil (w : World) (A : Option Addr) : Kd.C (Kd.int .u8) w A 0 [] := ⟨rfl, by omega, fun h => by omega⟩
theorem kd_sub {w : World} {ad : Addr} {L : List Int} (h : Kd.C (Kd.int .u8) w (some ad) L.length L) (q m : Nat) (hm : q + m ≤ L.length) : Kd.C (Kd.int .u8) w (some (ad.add q)) m ((L.drop q).take m) := by
  refine ⟨by rw [List.length_take, List.length_drop]; omega, by have := h.2.1; omega, fun h0 => ⟨ad.add q, rfl, fun j x hj => ?_⟩⟩
  obtain ⟨ad', e, hc⟩ := h.2.2 (by omega)
  cases e
  have hjm : j < m := by
    have := (List.getElem?_eq_some_iff.1 hj).1
    rw [List.length_take] at this; omega
  rw [List.getElem?_take_of_lt hjm, List.getElem?_drop] at hj
  obtain ⟨c, h1, h2, h3⟩ := hc (q + j) x hj
  refine ⟨c, h1, h2, fun i u hu => ?_⟩
  rw [Addr.add_add]
  have := h3 i u hu
  have hsz : (Kd.int .u8).sz = 1 := rfl
  rw [hsz] at this ⊢
  rw [show q + (j * 1 + i) = (q + j) * 1 + i by omega]
  exact this
set_option maxHeartbeats 4000000 in
set_option maxRecDepth 100000 in
theorem htake (hl : L.length ≤ 140737488351300) (hA : Kd.C (Kd.int .u8) w0 A L.length L) (hc : L.length ≤ c) (hcm : c ≤ maxLen) (hAn : A = none → L.length = 0 ∧ c = 0) (n : Int) (hn : -9223372036854775808 ≤ n ∧ n ≤ 9223372036854775807) (P : Play w0 L A B c d g hh p q W) : Calls Try.prog 43 #[.pointer (some ⟨hh, 0, none⟩), .int .i64 n] W fun e w' =>
    ∃ A' c', e = .returned (.tuple #[.slice A' (tkx L q n).length c', .int .i64 (tke L q n)]) ∧ Kd.C (Kd.int .u8) w0 A' (tkx L q n).length (tkx L q n) ∧ (tkx L q n).length ≤ c' ∧ Play w0 L A B c d g hh p (q + (tkx L q n).length) w' ∧ (∀ k, k ≠ hh → w'.heap[k]? = W.heap[k]?) := by
  have hp := P.hq
  have hnil : ∀ A' : Option Addr, Kd.C (Kd.int .u8) w0 A' 0 [] := fun A' => kd_nil w0 A'
  have e0 := P.h0
  have e1 := P.h1
  have ef := P.hf
  have lg := P.lh
  by_cases h0 : n < 0
  · rw [show tkx L q n = [] from if_neg (by omega), show tke L q n = 1 from if_pos h0]
    replace P := Lib.hid P
    go_enter Try.func43, Try.ntmps43
    go_wp2
    go_ret2
    exact ⟨none, 0, rfl, hnil _, by simp, P.out, fun _ _ => rfl⟩
  by_cases h1 : (L.length : Int) - q < n
  · rw [show tkx L q n = [] from if_neg (by omega), show tke L q n = 10 by unfold tke; rw [if_neg h0, if_pos h1]]
    have hw : IntKind.i64.wrap ((L.length : Int) - q) = (L.length : Int) - q := by simp [IntKind.wrap, IntKind.bits]; omega
    replace P := Lib.hid P
    go_enter Try.func43, Try.ntmps43
    go_wp2
    go_quiet (fail)
    go_wp2
    go_ret2
    exact ⟨none, 0, rfl, hnil _, by simp, P.out.drewN _, fun _ _ => rfl⟩
  obtain ⟨m, rfl⟩ := Int.eq_ofNat_of_zero_le (show 0 ≤ n by omega)
  have htk : tkx L q m = (L.drop q).take m := by unfold tkx; rw [if_pos (by omega), Int.toNat_natCast]
  have hln : ((L.drop q).take m).length = m := by rw [List.length_take, List.length_drop]; omega
  rw [htk, hln, show tke L q m = 0 by unfold tke; rw [if_neg h0, if_neg h1]]
  have hw0 : IntKind.i64.wrap ((L.length : Int) - q) = (L.length : Int) - q := by simp [IntKind.wrap, IntKind.bits]; omega
  have b1 : (0 : Int) ≤ (q : Int) := by omega
  have b2 : (q : Int) ≤ (q : Int) + m := by omega
  have b3 : (q : Int) + m ≤ (c : Int) := by omega
  have b5 : (q : Int) + m - q = m := by omega
  have b6 : ((q : Int) + m).toNat = q + m := by omega
  have hw : IntKind.i64.wrap ((q : Int) + m) = (q : Int) + m := by unfold maxLen at hcm; simp [IntKind.wrap, IntKind.bits]; omega
  cases A with
  | none =>
    obtain ⟨z1, z2⟩ := hAn rfl
    obtain rfl : q = 0 := by omega
    obtain rfl : m = 0 := by omega
    subst z2
    replace P := Lib.hid P
    go_enter Try.func43, Try.ntmps43
    go_wp2
    go_quiet (fail)
    go_wp2
    go_quiet (fail)
    go_wp2
    go_ret2
    exact ⟨none, 0, rfl, by simpa using hnil none, by omega, by simpa using (P.out.drewN _).putH 0 (by omega), fun k hk => Below.heap_setCell _ _ _ _ hk⟩
  | some ad =>
    by_cases hcq : c = q
    · obtain rfl : m = 0 := by omega
      replace P := Lib.hid P
      go_enter Try.func43, Try.ntmps43
      go_wp2
      go_quiet (fail)
      go_wp2
      go_quiet (fail)
      go_wp2
      go_ret2
      exact ⟨_, _, rfl, by simpa using hnil _, by omega, by simpa using (P.out.drewN _).putH (q + 0) (by omega), fun k hk => Below.heap_setCell _ _ _ _ hk⟩
    · have hsub := kd_sub hA q m (by omega)
      replace P := Lib.hid P
      go_enter Try.func43, Try.ntmps43
      go_wp2
      go_quiet (fail)
      go_wp2
      go_quiet (fail)
      go_wp2
      go_ret2
      exact ⟨_, _, rfl, hsub, by omega, by simpa using (P.out.drewN _).putH (q + m) (by omega), fun k hk => Below.heap_setCell _ _ _ _ hk⟩
end Go.Proofs.Ytkolpnilgpmoiaa.Pl
