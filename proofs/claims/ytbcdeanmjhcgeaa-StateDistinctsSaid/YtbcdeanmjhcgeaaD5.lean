/- StateDistincts, walked: any slice of states. -/
import Derived.Test.YtbcdeanmjhcgeaaD4
namespace Go.Proofs.Ytbcdeanmjhcgeaa.Di
open Go.RowKit Go.Maps
set_option maxHeartbeats 4000000 in
set_option maxRecDepth 100000 in
theorem walk (a : Option Addr) (n cap : Nat) (K : Nat → Lit) (w : World) (hreach : n * 8 ≤ 140737488351232) (R : Sts a n K w) :
    Calls Try.prog 3 #[.slice a n cap] w fun e w' => e = .returned (.bool true) ∧ Below w.heap.size w w' := by
  have cS := Lib.hid (fun W (hb : Below w.heap.size w W) => distinct_walk a n cap K W hreach (R.below hb))
  have cR := Lib.hid (fun W (hb : Below w.heap.size w W) => rdistinct_walk a n cap K W hreach (R.below hb))
  obtain ⟨kz, ko, key_z, key_o⟩ := keys
  have c3 := Lib.hid (fun W => distinct_walk _ 3 3 _ _ (by omega) (three key_z key_o W))
  obtain ⟨l1, l2⟩ := like3 key_z key_o
  rw [l1, l2] at c3
  generalize hd : dist (like K) n = dn at *
  generalize hf : fsts (like K) n = fn at *
  clear key_z key_o l1 l2 hd hf
  go_enter Try.func3, Try.ntmps3
  go_wp2_with (first
    | (refine list_op rfl (ex_bs rfl rfl rfl rfl _) ?_)
    | (refine list_op rfl (ex_b1 rfl rfl _) ?_)
    | (refine list_op rfl (ex_b0 rfl _) ?_)
    | ((go_at_call 6; ((with_reducible refine (same_walk x3 _ d3 3 3 [0, 1, 0] _ (by omega) (hi3.below (hb4.trans (((Below.refl w4.heap.size w4).alloc (Nat.le_refl _) _).mono hb4.size)) hx3) (ints3 w4)).mono ?_); rintro e w' ⟨rfl, hb5⟩)))
    | ((go_at_call 6; ((with_reducible refine (same_walk x1 x2 d1 d2 n fn w3 (by omega) (hi1.below (hb2.trans (hb23.mono hb2.size)) hx1) (hi2.below hb23 hx2)).mono ?_); rintro e w' ⟨rfl, hb4⟩)); obtain ⟨w4, rfl⟩ : ∃ w4 : World, w4 = w' := ⟨_, rfl⟩)
    | ((go_at_call 4; ((with_reducible refine (c3.out w2).mono ?_); rintro e w' ⟨x3, d3, rfl, hi3, hx3, hb3⟩)); obtain ⟨w3, rfl⟩ : ∃ w3 : World, w3 = w' := ⟨_, rfl⟩; have hb23 := ((Below.refl w2.heap.size w2).alloc (Nat.le_refl _) (.cells acells 36)).trans (hb3.mono (by simp)))
    | ((go_at_call 5; ((with_reducible refine (cR.out w1 hb1).mono ?_); rintro e w' ⟨x2, d2, rfl, hi2, hx2, hb2⟩)); obtain ⟨w2, rfl⟩ : ∃ w2 : World, w2 = w' := ⟨_, rfl⟩)
    | ((go_at_call 4; ((with_reducible refine (cS.out w (Below.refl _ _)).mono ?_); rintro e w' ⟨x1, d1, rfl, hi1, hx1, hb1⟩)); obtain ⟨w1, rfl⟩ : ∃ w1 : World, w1 = w' := ⟨_, rfl⟩)
    | go_in)
  go_ret
  refine ⟨rfl, ?_⟩
  have s2 := hb1.trans (hb2.mono hb1.size)
  have s3 := s2.trans (hb23.mono s2.size)
  have s4 := s3.trans (hb4.mono s3.size)
  exact (s4.alloc s4.size _).trans (hb5.mono (by have := s4.size; simp; omega))
end Go.Proofs.Ytbcdeanmjhcgeaa.Di
