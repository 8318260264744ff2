/- A copy of bytes, a reader made of it: walked. -/
import Derived.Test.YtkolpnilgpmoiaaPlayT
namespace Go.Proofs.Ytkolpnilgpmoiaa.Pl
open Go.ChangeShapes Go.WideShapes Go.RowKit Go.Proofs.Ytkolpnilgpmoiaa.Z Go.Proofs.YtkolpnilgpmoiaaW.PrintWords Go.Proofs.Ytkolpnilgpmoiaa.Bits Go.Proofs.Ytkolpnilgpmoiaa.Codec Go.Proofs.Ytkolpnilgpmoiaa.Pure
set_option linter.unusedVariables false
variable {L : List Int} {A : Option Addr} {c : Nat}
theorem own_c (hl : L.length ≤ 140737488351300) (w : World) (hA : Kd.C (Kd.int .u8) w A L.length L) (hc : L.length ≤ c) : Calls Try.prog 14 #[.slice A L.length c] w fun e w' => ∃ v, e = .returned v ∧ w'.ownsRow w.heap.size 5 1 v L.length (bs L) ∧ Below w.heap.size w w' :=
  (scarablaw01_own.calls A c L L w hA hc (own_val L hl)).mono fun e w' ⟨v, he, hr, hb⟩ => ⟨v, he, Kd.own_of_R hr, hb⟩
theorem alloc_at (W : World) (O : Obj) : (W.alloc O).heap[W.heap.size]? = some O := by
  show (W.heap.push O)[W.heap.size]? = _
  simp
theorem alloc_old' (W : World) (O : Obj) (k : Nat) (h : k < W.heap.size) : (W.alloc O).heap[k]? = W.heap[k]? := by
  show (W.heap.push O)[k]? = _
  rw [Array.getElem?_push, if_neg (by omega)]
theorem own_slice {w : World} {base e size n : Nat} {v : Value} {xs : List Value} (h : w.ownsRow base e size v n xs) : ∃ B d, v = .slice B n d ∧ n ≤ d := by
  rcases h.2 with ⟨rfl, rfl⟩ | ⟨g, cap, cur, rfl, _, _, hc, _⟩
  · exact ⟨none, 0, rfl, Nat.le_refl _⟩
  · exact ⟨_, _, rfl, hc⟩
set_option maxHeartbeats 4000000 in
set_option maxRecDepth 100000 in
theorem newreader (hl : L.length ≤ 140737488351300) {base : Nat} {v : Value} (W : World) (own : W.ownsRow base 5 1 v L.length (bs L)) : Calls Try.prog 40 #[v] W fun e w' => ∃ g B d, e = .returned (.pointer (some ⟨g, 0, none⟩)) ∧ W.heap.size ≤ g ∧ w'.heap[g]? = some (.cells #[.slice B L.length d, .int .i64 0] 80 (0, 0)) ∧ w'.ownsRow W.heap.size 5 1 (.slice B L.length d) L.length (bs L) ∧ (Value.slice B L.length d).ownBlock ≠ some g ∧ Below W.heap.size W w' := by
  rcases own.2 with ⟨rfl, h0⟩ | ⟨k, cap, cur, rfl, hb, hk, hcap, hm, hs, ht⟩
  · have cC := Lib.hid (fun (V : World) => Try.bytes_Clone_nil 0 0 V)
    have hL : L = [] := List.eq_nil_of_length_eq_zero h0
    subst hL
    clear own
    go_enter Try.func40, Try.ntmps40
    go_wp2_with ((go_at_call 45; ((with_reducible refine (cC.out _).mono ?_); rintro e w' ⟨rfl, rfl⟩)))
    go_ret
    exact ⟨_, none, 0, rfl, Nat.le_refl _, alloc_at _ _, own_nil _ _ _ _, by simp [Value.ownBlock], (Below.refl _ _).alloc (Nat.le_refl _) _⟩
  · have hkl : k < W.heap.size := (Array.getElem?_eq_some_iff.1 hk).1
    have cC := Lib.hid (Try.bytes_Clone_at ⟨k, 0, none⟩ L.length cap L W rfl (by omega) (fun i hi => by
      rw [WideShapes.add_plain, Nat.zero_add]
      have h2 : (cur.toList.take (L.length * 1))[i]? = some (.int .u8 (L.getD i 0)) := by rw [ht]; simp [bs, hi]
      rw [List.getElem?_take_of_lt (by omega)] at h2
      simp only [World.cell?, hk]
      simpa using h2))
    clear own hk ht hs hcap hb
    go_enter Try.func40, Try.ntmps40
    go_wp2_with ((go_at_call 45; ((with_reducible refine (cC.out).mono ?_); rintro e w' ⟨v', rfl, o2, _, hb2⟩)); obtain ⟨B, d, rfl, hd⟩ := own_slice o2)
    go_ret
    refine ⟨_, B, d, rfl, hb2.size, alloc_at _ _, own_move o2 (fun j hj => alloc_old' _ _ _ (o2.lt j hj).2), fun e => ?_, hb2.alloc hb2.size _⟩
    have := (o2.lt _ e).2
    omega
end Go.Proofs.Ytkolpnilgpmoiaa.Pl
