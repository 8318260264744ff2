/- ClockLattice, walked: Join and Meet hang neither on order nor on brackets, and take each other up. No condition. -/
import Derived.Test.YtfhdmknplpgiiaaDoorW8
import Derived.Test.YtfhdmknplpgiiaaDoorArr6
namespace Go.Proofs.YtfhdmknplpgiiaaDoor.Ck
open Go.ChangeShapes Go.WideShapes Go.RowKit
set_option maxHeartbeats 1600000 in
set_option maxRecDepth 100000 in
theorem lattice_right (a b c : C6) (w : World) (ha : R a) (hb : R b) (hc : R c) : Calls Tryd.prog 3 #[a.v, b.v, c.v] w fun e w' => e = .returned (.bool true) ∧ Below w.heap.size w w' := by
  have rab : R (join a b) := right_join ha hb
  have rbc : R (join b c) := right_join hb hc
  have rm : R (meet a b) := right_meet ha hb
  have hB : ∀ x y W, R x → R y → Calls Tryd.prog 9 #[x.v, y.v] W fun e w' => e = .returned (.int .i64 0) ∧ Below W.heap.size W w' ∧ w'.heap.size = W.heap.size + 4 := fun x y W hx hy => bad_ok x y W hx hy
  have hJ : ∀ x y W, R x → R y → Calls Tryd.prog 11 #[x.v, y.v] W fun e w' => e = .returned (.tuple #[(join x y).v, .int .i64 0]) ∧ Below W.heap.size W w' ∧ w'.heap.size = W.heap.size + 11 := fun x y W hx hy => join_ok x y W hx hy
  have hM : ∀ x y W, R x → R y → Calls Tryd.prog 12 #[x.v, y.v] W fun e w' => e = .returned (.tuple #[(meet x y).v, .int .i64 0]) ∧ Below W.heap.size W w' ∧ w'.heap.size = W.heap.size + 11 := fun x y W hx hy => meet_ok x y W hx hy
  have hQ := fun (x y : C6) (W : World) => eq6_run x y W
  have hg := guard23
  have q1 : eq6 (join a b) (join b a) = true := by rw [join_comm]; exact eq_refl _
  have q2 : eq6 (join (join a b) c) (join a (join b c)) = true := by rw [join_assoc]; exact eq_refl _
  have q3 : eq6 (meet a b) (meet b a) = true := by rw [meet_comm]; exact eq_refl _
  have q4 : eq6 (join a (meet a b)) a = true := by rw [join_meet]; exact eq_refl _
  have q5 : eq6 (meet a (join a b)) a = true := by rw [meet_join]; exact eq_refl _
  simp only [C6.v] at hB hJ hM hQ ⊢
  have hB' := Lib.hid hB
  have hJ' := Lib.hid hJ
  have hM' := Lib.hid hM
  clear hB hJ hM
  have acc := Below.refl w.heap.size w
  go_enter Tryd.func3, Tryd.ntmps3
  go_wp2_with (first
    | (go_at_call 9; ((with_reducible refine (hB'.out _ _ _ (by assumption) (by assumption)).mono ?_); rintro e w1 ⟨rfl, hb1, hs1⟩; replace acc := acc_step (B := w.heap.size) (w := w) (by repeat (first | (with_reducible exact acc) | (with_reducible refine Below.drew ?_) | (with_reducible refine Below.alloc ?_ (by first | omega | (simp <;> omega)) _))) (by first | omega | (simp <;> omega)) hb1; obtain ⟨hc1, hf1⟩ := bcell hb1; clear hb1; (try simp at hs1); (try simp at hc1); (try simp at hf1)))
    | (go_at_call 11; ((with_reducible refine (hJ'.out _ _ _ (by assumption) (by assumption)).mono ?_); rintro e w1 ⟨rfl, hb1, hs1⟩; replace acc := acc_step (B := w.heap.size) (w := w) (by repeat (first | (with_reducible exact acc) | (with_reducible refine Below.drew ?_) | (with_reducible refine Below.alloc ?_ (by first | omega | (simp <;> omega)) _))) (by first | omega | (simp <;> omega)) hb1; obtain ⟨hc1, hf1⟩ := bcell hb1; clear hb1; (try simp at hs1); (try simp at hc1); (try simp at hf1)))
    | (go_at_call 12; ((with_reducible refine (hM'.out _ _ _ (by assumption) (by assumption)).mono ?_); rintro e w1 ⟨rfl, hb1, hs1⟩; replace acc := acc_step (B := w.heap.size) (w := w) (by repeat (first | (with_reducible exact acc) | (with_reducible refine Below.drew ?_) | (with_reducible refine Below.alloc ?_ (by first | omega | (simp <;> omega)) _))) (by first | omega | (simp <;> omega)) hb1; obtain ⟨hc1, hf1⟩ := bcell hb1; clear hb1; (try simp at hs1); (try simp at hc1); (try simp at hf1))))
  go_ret
  exact ⟨rfl, (by repeat (first | (with_reducible exact acc) | (with_reducible refine Below.drew ?_) | (with_reducible refine Below.alloc ?_ (by first | omega | (simp <;> omega)) _)))⟩
set_option maxHeartbeats 1600000 in
set_option maxRecDepth 100000 in
theorem lattice_wrong (a b c : C6) (w : World) (h : ¬ (R a ∧ R b ∧ R c)) : Calls Tryd.prog 3 #[a.v, b.v, c.v] w fun e w' => e = .returned (.bool true) ∧ Below w.heap.size w w' := by
  have acc := Below.refl w.heap.size w
  have hS' := Lib.hid (fun (W : World) => small_walk W)
  by_cases hab : R a ∧ R b
  · have hcc : ¬ (R c ∧ R c) := fun hc => h ⟨hab.1, hab.2, hc.1⟩
    have hB := fun (W : World) => bad_ok a b W hab.1 hab.2
    have hN := fun (W : World) => bad_no c c W hcc
    simp only [C6.v] at hB hN ⊢
    have hB' := Lib.hid hB
    have hN' := Lib.hid hN
    clear hB hN hcc hab h
    go_enter Tryd.func3, Tryd.ntmps3
    go_wp2_with (first
      | (go_at_call 9; first | ((with_reducible refine (hB'.out _).mono ?_); rintro e w1 ⟨rfl, hb1, hs1⟩; replace acc := acc_step (B := w.heap.size) (w := w) (by repeat (first | (with_reducible exact acc) | (with_reducible refine Below.drew ?_) | (with_reducible refine Below.alloc ?_ (by first | omega | (simp <;> omega)) _))) (by first | omega | (simp <;> omega)) hb1; obtain ⟨hc1, hf1⟩ := bcell hb1; clear hb1; (try simp at hs1); (try simp at hc1); (try simp at hf1)) | ((with_reducible refine (hN'.out _).mono ?_); rintro e w1 ⟨rfl, hb1⟩; replace acc := acc_step (B := w.heap.size) (w := w) (by repeat (first | (with_reducible exact acc) | (with_reducible refine Below.drew ?_) | (with_reducible refine Below.alloc ?_ (by first | omega | (simp <;> omega)) _))) (by first | omega | (simp <;> omega)) hb1; obtain ⟨hc1, hf1⟩ := bcell hb1; have hs1 := hb1.size; clear hb1; (try simp at hs1); (try simp at hc1); (try simp at hf1)))
      | (go_at_call 10; ((with_reducible refine (hS'.out _).mono ?_); rintro e w1 ⟨rfl, hb1⟩; replace acc := acc_step (B := w.heap.size) (w := w) (by repeat (first | (with_reducible exact acc) | (with_reducible refine Below.drew ?_) | (with_reducible refine Below.alloc ?_ (by first | omega | (simp <;> omega)) _))) (by first | omega | (simp <;> omega)) hb1; obtain ⟨hc1, hf1⟩ := bcell hb1; have hs1 := hb1.size; clear hb1; (try simp at hs1); (try simp at hc1); (try simp at hf1))))
    go_ret
    exact ⟨rfl, acc⟩
  · have hN := fun (W : World) => bad_no a b W hab
    simp only [C6.v] at hN ⊢
    have hN' := Lib.hid hN
    clear hN hab h
    go_enter Tryd.func3, Tryd.ntmps3
    go_wp2_with (first
      | (go_at_call 9; ((with_reducible refine (hN'.out _).mono ?_); rintro e w1 ⟨rfl, hb1⟩; replace acc := acc_step (B := w.heap.size) (w := w) (by repeat (first | (with_reducible exact acc) | (with_reducible refine Below.drew ?_) | (with_reducible refine Below.alloc ?_ (by first | omega | (simp <;> omega)) _))) (by first | omega | (simp <;> omega)) hb1; obtain ⟨hc1, hf1⟩ := bcell hb1; have hs1 := hb1.size; clear hb1; (try simp at hs1); (try simp at hc1); (try simp at hf1)))
      | (go_at_call 10; ((with_reducible refine (hS'.out _).mono ?_); rintro e w1 ⟨rfl, hb1⟩; replace acc := acc_step (B := w.heap.size) (w := w) (by repeat (first | (with_reducible exact acc) | (with_reducible refine Below.drew ?_) | (with_reducible refine Below.alloc ?_ (by first | omega | (simp <;> omega)) _))) (by first | omega | (simp <;> omega)) hb1; obtain ⟨hc1, hf1⟩ := bcell hb1; have hs1 := hb1.size; clear hb1; (try simp at hs1); (try simp at hc1); (try simp at hf1))))
    go_ret
    exact ⟨rfl, acc⟩
theorem lattice_walk (a b c : C6) (w : World) (_ : wf6 a) (_ : wf6 b) (_ : wf6 c) : Calls Tryd.prog 3 #[a.v, b.v, c.v] w fun e w' => e = .returned (.bool true) ∧ Below w.heap.size w w' := by
  by_cases h : R a ∧ R b ∧ R c
  · exact lattice_right a b c w h.1 h.2.1 h.2.2
  · exact lattice_wrong a b c w h
end Go.Proofs.YtfhdmknplpgiiaaDoor.Ck
