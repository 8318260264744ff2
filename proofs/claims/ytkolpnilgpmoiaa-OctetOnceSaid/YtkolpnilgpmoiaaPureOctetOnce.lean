/- THE PURE LAW of OctetOnce: what Get takes is what Put writes. No condition. -/
import Derived.Test.YtkolpnilgpmoiaaCodec2
import Derived.Test.YtkolpnilgpmoiaaQ4
namespace Go.Proofs.Ytkolpnilgpmoiaa.Pure
open Go.RowKit Go.Proofs.Ytkolpnilgpmoiaa.Q Go.Proofs.YtkolpnilgpmoiaaW.PrintWords Go.Proofs.Ytkolpnilgpmoiaa.Bits Go.Proofs.Ytkolpnilgpmoiaa.Codec

theorem gt_zero (l : List Int) (at_ : Nat) (f : Nat) : ∀ (j : Nat) (x v n e : Int), gt l at_ f j x = (v, n, e) → e ≠ 0 → v = 0 ∧ n = 0 := by
  induction f with
  | zero => intro j x v n e h he; simp [gt] at h; omega
  | succ f ih =>
    intro j x v n e h he
    rw [gt] at h
    split at h
    · simp at h; omega
    split at h
    · simp at h; omega
    split at h
    · exact ih _ _ _ _ _ h he
    split at h
    · simp at h; omega
    · simp only [Prod.mk.injEq] at h; omega

theorem OctetOnce : scarablaw01_OctetOnce.Pure := by
  intro l a hlm hl8 hlb ha
  have hb := bytes_of hlb
  have hl : l.length ≤ 140737488351232 := by omega
  refine ⟨100, ?_⟩
  unfold scarablaw01_OctetOnce.f
  rw [get_val l hb (by omega) a 100 (by decide)]
  simp only [Option.bind_some]
  have sizes : ((octet_Size.f 100 127).bind fun t221 => if t221 = 1 then (octet_Size.f 100 128).bind fun t222 => some (t222 == 2) else some false) = some true := by
    rw [show (127 : Int) = ((127 : Nat) : Int) from rfl, show (128 : Int) = ((128 : Nat) : Int) from rfl, size_val 127 (by decide) 100 (by decide), size_val 128 (by decide) 100 (by decide)]
    have e1 : (ten 127).length = 1 := by decide
    have e2 : (ten 128).length = 2 := by decide
    rw [e1, e2]
    rfl
  by_cases h : 0 ≤ a ∧ a ≤ l.length
  · rw [if_pos h]
    obtain ⟨n, rfl⟩ := Int.eq_ofNat_of_zero_le h.1
    rw [Int.toNat_natCast]
    rcases hg : gt l n 10 0 0 with ⟨v, m, e⟩
    by_cases he : e = 0
    · subst he
      obtain ⟨y, q, rfl, rfl, hy, _, hq, hql, hcut⟩ := gt_once l hb n 9 0 0 v m rfl hg
      simp only [Int.pow_zero, Int.mul_one, Int.zero_add, if_true]
      rw [if_pos (by omega), put_val [] y (by simp only [Nat.reducePow, Nat.reduceMul] at hy; omega) (by simp) 100 (by decide)]
      simp only [Option.bind_some, List.nil_append]
      rw [if_pos (by omega), if_pos (by omega), if_pos (by omega), Int.toNat_natCast]
      rw [Nat.add_zero] at hcut
      rw [hcut, same_val (ten y) (enc 9 y) rfl]
      rfl
    · obtain ⟨rfl, rfl⟩ := gt_zero l n 10 0 0 v m e hg he
      simp only [if_true]
      rw [if_neg he]
      exact sizes
  · rw [if_neg h]
    simp only [if_true]
    rw [if_neg (by decide)]
    exact sizes
end Go.Proofs.Ytkolpnilgpmoiaa.Pure
