/- THE PURE LAW of WordTurns: turning is undone, and counts of bits follow it. No condition. -/
import Derived.Test.YtckfnbjjghdaoaaDoorTurn
import Derived.Test.YtckfnbjjghdaoaaDoorT4
namespace Go.Proofs.YtckfnbjjghdaoaaDoor.Pure
open Go.RowKit Go.Proofs.YtckfnbjjghdaoaaDoor.T Go.Proofs.YtckfnbjjghdaoaaDoorW.PrintWords Go.Proofs.YtckfnbjjghdaoaaDoor.Bits Go.Proofs.YtckfnbjjghdaoaaDoor.Ops Go.Proofs.YtckfnbjjghdaoaaDoor.RefOps Go.Proofs.YtckfnbjjghdaoaaDoor.Pop Go.Proofs.YtckfnbjjghdaoaaDoor.Ones Go.Proofs.YtckfnbjjghdaoaaDoor.Twos Go.Proofs.YtckfnbjjghdaoaaDoor.Turn
theorem i64_of (x : W) : -9223372036854775808 ≤ x.toInt ∧ x.toInt < 9223372036854775808 := by
  have h1 := x.toInt_lt; have h2 := x.le_toInt
  simp only [Nat.reduceSub, Int.reducePow] at h1 h2
  omega
theorem did_one (op a : Int) (ha : -9223372036854775808 ≤ a ∧ a < 9223372036854775808) (h0 : 1 ≤ op) (h1 : op ≤ 15) (k : Nat) (hk : 64 < k) : ∃ r, scarablaw02_did.f k op a 0 = some (r, true) ∧ isOne op a r := by
  obtain ⟨r, hr, ho⟩ := word_one_val op a ha h0 h1 k hk
  refine ⟨r, ?_, ho⟩
  unfold scarablaw02_did.f
  rw [apply_one op a 0 h0 h1 k (by omega)]
  exact bindI (bindI hr rfl) rfl
theorem did_rot (a b : Int) (k : Nat) (hk : 64 < k) : scarablaw02_did.f k 28 a b = some ((rotw (of a) (b % 64).toNat).toInt, true) := by
  unfold scarablaw02_did.f
  rw [apply_two 28 a b (by decide) (by decide) (by decide) (by decide) (by decide) k (by omega)]
  refine bindI (bindI (x := (rotw (of a) (b % 64).toNat).toInt) ?_ rfl) rfl
  unfold word_two.f
  rw [if_neg (by decide), if_neg (by decide), if_neg (by decide), if_neg (by decide), if_neg (by decide), if_neg (by decide), if_neg (by decide), if_pos rfl]
  refine bindI (rot64 a b) ?_
  rw [wrap64_of, of_toNat]
theorem did2 (a : Int) (ha : -9223372036854775808 ≤ a ∧ a < 9223372036854775808) (k : Nat) (hk : 64 < k) : scarablaw02_did.f k 2 a 0 = some ((~~~ of a).toInt, true) := by
  obtain ⟨r, hr, ho⟩ := did_one 2 a ha (by decide) (by decide) k hk
  rw [hr, ho.2.1 rfl]
theorem did4 (a : Int) (ha : -9223372036854775808 ≤ a ∧ a < 9223372036854775808) (k : Nat) (hk : 64 < k) : scarablaw02_did.f k 4 a 0 = some (((pop 64 (of a).toNat : Nat) : Int), true) := by
  obtain ⟨r, hr, ho⟩ := did_one 4 a ha (by decide) (by decide) k hk
  rw [hr, ho.2.2.2.1 rfl]
theorem did5 (a : Int) (ha : -9223372036854775808 ≤ a ∧ a < 9223372036854775808) (k : Nat) (hk : 64 < k) : ∃ L : Nat, scarablaw02_did.f k 5 a 0 = some (64 - (L : Int), true) ∧ isLen (of a).toNat L := by
  obtain ⟨r, hr, ho⟩ := did_one 5 a ha (by decide) (by decide) k hk
  obtain ⟨L, h1, h2⟩ := ho.2.2.2.2.1 rfl
  exact ⟨L, by rw [hr, h1], h2⟩
theorem did6 (a : Int) (ha : -9223372036854775808 ≤ a ∧ a < 9223372036854775808) (k : Nat) (hk : 64 < k) : scarablaw02_did.f k 6 a 0 = some (((Lib.ctzFrom 64 (of a).toNat : Nat) : Int), true) := by
  obtain ⟨r, hr, ho⟩ := did_one 6 a ha (by decide) (by decide) k hk
  rw [hr, ho.2.2.2.2.2.1 rfl]
theorem did7 (a : Int) (ha : -9223372036854775808 ≤ a ∧ a < 9223372036854775808) (k : Nat) (hk : 64 < k) : scarablaw02_did.f k 7 a 0 = some ((flipw (of a)).toInt, true) := by
  obtain ⟨r, hr, ho⟩ := did_one 7 a ha (by decide) (by decide) k hk
  rw [hr, ho.2.2.2.2.2.2.1 rfl]
theorem turns_of (a b n rot f nt c d l m : Int) (k : Nat) (s : scarablaw02_speaks.f (k + 1) = some true)
    (g0 : scarablaw02_did.f (k + 1) 1 b 0 = some (n, true)) (g1 : scarablaw02_did.f (k + 1) 28 a b = some (rot, true)) (g2 : scarablaw02_did.f (k + 1) 28 rot n = some (a, true))
    (g3 : scarablaw02_did.f (k + 1) 7 a 0 = some (f, true)) (g4 : scarablaw02_did.f (k + 1) 7 f 0 = some (a, true)) (g5 : scarablaw02_did.f (k + 1) 2 a 0 = some (nt, true)) (g6 : scarablaw02_did.f (k + 1) 2 nt 0 = some (a, true))
    (q1 : scarablaw02_did.f k 4 a 0 = some (c, true)) (q2 : scarablaw02_did.f k 4 nt 0 = some (d, true)) (q3 : scarablaw02_did.f k 4 rot 0 = some (c, true)) (q4 : scarablaw02_did.f k 5 a 0 = some (l, true)) (q5 : scarablaw02_did.f k 6 f 0 = some (m, true))
    (e1 : c + d = 64) (e2 : l = m) : scarablaw02_WordTurns.f (k + 1) a b = some true := by
  unfold scarablaw02_WordTurns.f
  refine bindI s ?_
  rw [if_pos rfl]
  refine bindI g0 (bindI g1 (bindI g2 (bindI g3 (bindI g4 (bindI g5 (bindI g6 ?_))))))
  have aa : (a != a) = false := by simp
  rw [if_pos rfl, if_pos rfl, if_pos rfl, if_pos rfl, if_pos rfl, if_pos rfl, if_pos rfl, if_pos rfl, if_pos rfl, aa, scarablaw02_WordTurns.j0, if_neg (show ¬ false = true by decide)]
  refine bindI q1 (bindI q2 (bindI q3 (bindI q4 (bindI q5 ?_))))
  rw [if_pos rfl, if_pos rfl, if_pos rfl, if_pos rfl, if_pos rfl, if_pos (by rw [e1]; decide +kernel), if_pos rfl, e2]
  simp
theorem WordTurns : scarablaw02_WordTurns.Pure := by
  intro a b wa wb
  have ha := wf_i64 wa
  have hb := wf_i64 wb
  have ea := toInt_of ha.1 ha.2
  refine ⟨401, ?_⟩
  have s1 : rotw (rotw (of a) (b % 64).toNat) (wrap64 (-b) % 64).toNat = of a := by
    refine rot_back _ _ _ (by omega) (by omega) ?_
    have : wrap64 (-b) % 64 = (-b) % 64 := by unfold wrap64; omega
    rw [this]; omega
  have s2 := flip_flip (of a)
  have s3 : ~~~ (~~~ of a) = of a := BitVec.not_not
  have p1 := pop_compl (of a)
  have p2 := pop_rot (of a) (b % 64).toNat (by omega)
  have p3 := fun L h => lead_trail (of a) L h
  obtain ⟨R, hR⟩ : ∃ R, rotw (of a) (b % 64).toNat = R := ⟨_, rfl⟩
  obtain ⟨F, hF⟩ : ∃ F, flipw (of a) = F := ⟨_, rfl⟩
  obtain ⟨N, hN⟩ : ∃ N, ~~~ of a = N := ⟨_, rfl⟩
  have g1 := did_rot a b 401 (by decide)
  have g2 := did_rot R.toInt (wrap64 (-b)) 401 (by decide)
  have g3 := did7 a ha 401 (by decide)
  have g4 := did7 F.toInt (i64_of _) 401 (by decide)
  have g5 := did2 a ha 401 (by decide)
  have g6 := did2 N.toInt (i64_of _) 401 (by decide)
  have q1 := did4 a ha 400 (by decide)
  have q2 := did4 N.toInt (i64_of _) 400 (by decide)
  have q3 := did4 R.toInt (i64_of _) 400 (by decide)
  have q4 := did6 F.toInt (i64_of _) 400 (by decide)
  rw [hR] at s1 p2 g1
  rw [hF] at s2 g3
  rw [hN] at s3 p1 g5
  rw [hF] at p3
  rw [of_toInt, s1, ea] at g2
  rw [of_toInt, s2, ea] at g4
  rw [of_toInt, s3, ea] at g6
  rw [of_toInt] at q2 q3 q4
  clear hR hF hN s1 s2 s3
  obtain ⟨L, h5, hL⟩ := did5 a ha 400 (by decide)
  have p4 := isLen_le hL (of a).isLt
  rw [p2] at q3
  rw [p3 L hL] at q4
  exact turns_of a b _ _ _ _ _ _ _ _ 400 (speaks _ (by decide)) (did1 b 0 401 (by decide)) g1 g2 g3 g4 g5 g6 q1 q2 q3 h5 q4 (by omega) (by omega)
end Go.Proofs.YtckfnbjjghdaoaaDoor.Pure
