/- ClockBack, walked: a clock is read from its text, and no other text is it. -/
import Derived.Test.YtfhdmknplpgiiaaDoorPWalk
import Derived.Test.YtfhdmknplpgiiaaDoorWLattice
namespace Go.Proofs.YtfhdmknplpgiiaaDoor.Ck
open Go.ChangeShapes Go.WideShapes Go.RowKit
theorem keep {W w1 : World} (hb : Below W.heap.size W w1) {b : Nat} {arr : Array Value} (hlt : b < W.heap.size) (h : ∀ o, W.cell? ⟨b, o, none⟩ = arr[o]?) :
    (∀ o, w1.cell? ⟨b, o, none⟩ = arr[o]?) ∧ b < w1.heap.size ∧ ∀ cs T o, (w1.alloc (.cells cs T)).cell? ⟨b, o, none⟩ = arr[o]? := by
  have h1 : ∀ o, w1.cell? ⟨b, o, none⟩ = arr[o]? := fun o => by rw [hb.cell (by simp only; omega)]; exact h o
  have h2 : b < w1.heap.size := by have := hb.size; omega
  exact ⟨h1, h2, fun cs T o => by rw [World.cell?_alloc_lt _ _ _ (by simp only; omega)]; exact h1 o⟩
theorem fresh (W : World) (cs : Array Value) (T : TypeId) : ∀ o, (W.alloc (.cells cs T)).cell? ⟨W.heap.size, o, none⟩ = cs[o]? := fun _ => World.cell?_alloc_new _ _ _ _
set_option maxHeartbeats 1600000 in
set_option maxRecDepth 100000 in
theorem back_right (a : C6) (s : ByteArray) (w : World) (E : Env w) (ha : R a) : Calls Tryd.prog 8 #[a.v, .string s] w fun e w' => e = .returned (.bool true) ∧ Below w.heap.size w w' := by
  have acc := Below.refl w.heap.size w
  have cT := fun W (hb : Below w.heap.size w W) => Text_ok a W ha (fun k hk W' hW' => itoa_env _ (small6_of ha k hk).1 (small6_of ha k hk).2 W' (E.below (hb.trans (hW'.mono hb.size))))
  have cP := fun W (hb : Below w.heap.size w W) => parse_walk (textB a) W (E.below hb)
  have cS := fun W (hb : Below w.heap.size w W) => parse_walk s W (E.below hb)
  have hQ := fun (x y : C6) (W : World) => eq6_run x y W
  have hg := guard23
  have q0 : eq6 a a = true := eq_refl a
  have hok := pres_ok s
  rw [pres_text a ha] at cP
  obtain ⟨c, g⟩ : ∃ c, c = (pres s).1 := ⟨_, rfl⟩
  obtain ⟨n, hn⟩ : ∃ n, n = (pres s).2 := ⟨_, rfl⟩
  rw [← g, ← hn] at cS hok
  have cases : ¬ n = 0 ∨ (n = 0 ∧ eq6 c a = false) ∨ (n = 0 ∧ eq6 c a = true ∧ (s.toList == (textB a).toList) = true) := by
    by_cases h0 : n = 0
    · right
      cases h1 : eq6 c a with
      | false => exact .inl ⟨h0, rfl⟩
      | true =>
        refine .inr ⟨h0, rfl, ?_⟩
        have hc := (eq6_iff c a).1 h1
        rw [← hc, (hok h0).2]
        simp
    · exact .inl h0
  clear hok g hn ha E
  generalize textB a = t at *
  simp only [C6.v] at cT cP cS hQ ⊢
  have cT' := Lib.hid cT
  have cP' := Lib.hid cP
  have cS' := Lib.hid cS
  clear cT cP cS
  rcases cases with h | ⟨h, h1⟩ | ⟨h, h1, h2⟩
  all_goals
    go_enter Tryd.func8, Tryd.ntmps8
    go_wp2_with (first
      | (go_at_call 20; ((with_reducible refine (cT'.out _ (by repeat (first | (with_reducible exact acc) | (with_reducible refine Below.drew ?_) | (with_reducible refine Below.alloc ?_ (by first | omega | (simp <;> omega)) _)))).mono ?_); rintro e w1 ⟨rfl, hb1⟩; replace acc := acc_step (B := w.heap.size) (w := w) (by repeat (first | (with_reducible exact acc) | (with_reducible refine Below.drew ?_) | (with_reducible refine Below.alloc ?_ (by first | omega | (simp <;> omega)) _))) (by first | omega | (simp <;> omega)) hb1; have k1 := keep hb1 (b := w.heap.size) (by simp) (fresh _ _ _); have s1 := k1.2.1; clear hb1))
      | (go_at_call 21; first | ((with_reducible refine (cP'.out _ (by repeat (first | (with_reducible exact acc) | (with_reducible refine Below.drew ?_) | (with_reducible refine Below.alloc ?_ (by first | omega | (simp <;> omega)) _)))).mono ?_); rintro e w2 ⟨rfl, hb2⟩; replace acc := acc_step (B := w.heap.size) (w := w) (by repeat (first | (with_reducible exact acc) | (with_reducible refine Below.drew ?_) | (with_reducible refine Below.alloc ?_ (by first | omega | (simp <;> omega)) _))) (by first | omega | (simp <;> omega)) hb2; have k2 := keep hb2 k1.2.1 k1.1; have s2 := k2.2.1; clear hb2 k1) | ((with_reducible refine (cS'.out _ (by repeat (first | (with_reducible exact acc) | (with_reducible refine Below.drew ?_) | (with_reducible refine Below.alloc ?_ (by first | omega | (simp <;> omega)) _)))).mono ?_); rintro e w3 ⟨rfl, hb3⟩; replace acc := acc_step (B := w.heap.size) (w := w) (by repeat (first | (with_reducible exact acc) | (with_reducible refine Below.drew ?_) | (with_reducible refine Below.alloc ?_ (by first | omega | (simp <;> omega)) _))) (by first | omega | (simp <;> omega)) hb3; have k3 := keep hb3 (b := w.heap.size) (by simp; omega) (k2.2.2 _ _); have k4 := keep hb3 (b := w2.heap.size) (by simp) (fresh _ _ _); obtain ⟨k3a, k3b, k3c⟩ := k3; obtain ⟨k4a, k4b, k4c⟩ := k4; clear hb3 k2)))
    all_goals go_ret
    all_goals exact ⟨by first | rfl | (rw [h2]; rfl), (by repeat (first | (with_reducible exact acc) | (with_reducible refine Below.drew ?_) | (with_reducible refine Below.alloc ?_ (by first | omega | (simp <;> omega)) _)))⟩
set_option maxHeartbeats 1600000 in
set_option maxRecDepth 100000 in
theorem back_wrong (a : C6) (s : ByteArray) (w : World) (ha : ¬ R a) : Calls Tryd.prog 8 #[a.v, .string s] w fun e w' => e = .returned (.bool true) ∧ Below w.heap.size w w' := by
  have acc := Below.refl w.heap.size w
  have cT := fun W => Text_bad a W ha
  have cB := fun W => bad_no a a W (fun h => ha h.1)
  have cS := fun W => small_walk W
  simp only [C6.v] at cT cB ⊢
  have cT' := Lib.hid cT
  have cB' := Lib.hid cB
  have cS' := Lib.hid cS
  clear cT cB cS ha
  go_enter Tryd.func8, Tryd.ntmps8
  go_wp2_with (first
    | (go_at_call 20; ((with_reducible refine (cT'.out _).mono ?_); rintro e w1 ⟨rfl, hb1⟩; replace acc := acc_step (B := w.heap.size) (w := w) (by repeat (first | (with_reducible exact acc) | (with_reducible refine Below.drew ?_) | (with_reducible refine Below.alloc ?_ (by first | omega | (simp <;> omega)) _))) (by first | omega | (simp <;> omega)) hb1; have k1 := keep hb1 (b := w.heap.size) (by simp) (fresh _ _ _); obtain ⟨k1a, s1, k1c⟩ := k1; clear hb1))
    | (go_at_call 9; ((with_reducible refine (cB'.out _).mono ?_); rintro e w2 ⟨rfl, hb2⟩; replace acc := acc_step (B := w.heap.size) (w := w) (by repeat (first | (with_reducible exact acc) | (with_reducible refine Below.drew ?_) | (with_reducible refine Below.alloc ?_ (by first | omega | (simp <;> omega)) _))) (by first | omega | (simp <;> omega)) hb2; have s2 := hb2.size; clear hb2))
    | (go_at_call 10; ((with_reducible refine (cS'.out _).mono ?_); rintro e w3 ⟨rfl, hb3⟩; replace acc := acc_step (B := w.heap.size) (w := w) (by repeat (first | (with_reducible exact acc) | (with_reducible refine Below.drew ?_) | (with_reducible refine Below.alloc ?_ (by first | omega | (simp <;> omega)) _))) (by first | omega | (simp <;> omega)) hb3; have s3 := hb3.size; clear hb3)))
  all_goals go_ret
  all_goals exact ⟨rfl, (by repeat (first | (with_reducible exact acc) | (with_reducible refine Below.drew ?_) | (with_reducible refine Below.alloc ?_ (by first | omega | (simp <;> omega)) _)))⟩
theorem back_walk (a : C6) (s : ByteArray) (w : World) (E : Env w) : Calls Tryd.prog 8 #[a.v, .string s] w fun e w' => e = .returned (.bool true) ∧ Below w.heap.size w w' := by
  by_cases ha : R a
  · exact back_right a s w E ha
  · exact back_wrong a s w ha
theorem back_law (a : C6) (s : ByteArray) (w : World) (hL : laidMetH Tryd.prog Rows.clockBackRow.laid w) (hsh : w.ShapedOpen Tryd.prog) (_ : wf6 a) (_ : s.size ≤ 140737488351232) : Calls Tryd.prog 8 #[a.v, .string s] w fun e w' => e = .returned (.bool true) ∧ Below w.heap.size w w' := back_walk a s w (env_of_laid hL hsh)
end Go.Proofs.YtfhdmknplpgiiaaDoor.Ck
