/- THE PURE LAW of OctetBack: what Put and PutInt wrote is read, and the place behind it; zigzag is turned back. No condition. -/
import Derived.Test.YtkolpnilgpmoiaaCodec2
import Derived.Test.YtkolpnilgpmoiaaQ4
namespace Go.Proofs.Ytkolpnilgpmoiaa.Pure
open Go.RowKit Go.Proofs.Ytkolpnilgpmoiaa.Q Go.Proofs.YtkolpnilgpmoiaaW.PrintWords Go.Proofs.Ytkolpnilgpmoiaa.Bits Go.Proofs.Ytkolpnilgpmoiaa.Codec

theorem bytes_app {l m : List Int} (hl : Codec.bytes l) (hm : ∀ x ∈ m, 0 ≤ x ∧ x < 256) : Codec.bytes (l ++ m) := by
  intro i
  unfold rd
  rw [List.getD_eq_getElem?_getD]
  by_cases h : i.toNat < l.length
  · rw [List.getElem?_append_left h]
    have := hl i
    unfold rd at this
    rwa [List.getD_eq_getElem?_getD] at this
  · rw [List.getElem?_append_right (by omega)]
    by_cases h2 : i.toNat - l.length < m.length
    · rw [List.getElem?_eq_getElem h2]
      exact hm _ (List.getElem_mem h2)
    · rw [List.getElem?_eq_none (by omega)]; simp
theorem enc_bytes (d : Nat) : ∀ x : Nat, x < 2 * 128 ^ d → ∀ c ∈ enc d x, 0 ≤ c ∧ c < 256 := by
  induction d with
  | zero => intro x hx c hc; simp [enc] at hc; simp at hx; omega
  | succ d ih =>
    intro x hx c hc
    simp only [enc] at hc
    split at hc
    · simp at hc; omega
    · rcases List.mem_cons.1 hc with rfl | hc
      · omega
      · exact ih (x / 128) (by rw [Nat.pow_succ] at hx; omega) c hc
theorem back_get (l : List Int) (hb : Codec.bytes l) (x : Nat) (hx : x < 18446744073709551616) (hl : l.length ≤ 140737488351232) (k : Nat) (hk : 22 < k) :
    octet_Get.f k (l ++ ten x) (l.length : Int) = some ((x : Int), ((l ++ ten x).length : Int), 0) := by
  have h9 : x < 2 * 128 ^ 9 := by simp only [Nat.reducePow, Nat.reduceMul]; omega
  have hlen := enc_len 9 x
  unfold ten
  rw [get_val _ (bytes_app hb (enc_bytes 9 x h9)) (by simp; omega) _ k hk, if_pos (by simp; omega), Int.toNat_natCast]
  have := gt_enc 9 0 x l.length 0 l rfl h9 (by omega) (by omega)
  rw [this]
  simp

theorem OctetBack : scarablaw01_OctetBack.Pure := by
  intro l x y hlm hl8 hlb hx hy
  have bx := wf_u64 hx
  have by_ := wf_i64 hy
  have hb := bytes_of hlb
  have hl : l.length ≤ 140737488351232 := by omega
  obtain ⟨x, rfl⟩ := Int.eq_ofNat_of_zero_le bx.1
  have hxn : x < 18446744073709551616 := by omega
  obtain ⟨u, hu, _, hub, huv⟩ := zig_nat y by_.1 by_.2
  have hzu := zag_val u hub
  have hzx := zag_val x hxn
  have eu : (if u % 2 = 0 then ((u / 2 : Nat) : Int) else -((u / 2 : Nat) : Int) - 1) = y := by split <;> omega
  rw [eu] at hzu
  refine ⟨100, ?_⟩
  have hz : ∀ z : Int, z = (if x % 2 = 0 then ((x / 2 : Nat) : Int) else -((x / 2 : Nat) : Int) - 1) → octet_Zig.f z = some (x : Int) := by
    intro z hz
    have hzb : -9223372036854775808 ≤ z ∧ z < 9223372036854775808 := by rw [hz]; split <;> omega
    obtain ⟨v, hv, _, _, hvv⟩ := zig_nat z hzb.1 hzb.2
    rw [hv]
    congr 1
    split at hz <;> omega
  have := ten_len x
  unfold scarablaw01_OctetBack.f octet_PutInt.f octet_GetInt.f
  refine bindI (put_val l x hxn (by omega) 100 (by decide)) ?_
  refine bindI (back_get l hb x hxn hl 100 (by decide)) ?_
  refine bindI (bindI hu (bindI (put_val l u hub (by omega) 100 (by decide)) rfl)) ?_
  refine bindI (bindI (back_get l hb u hub hl 100 (by decide)) (bindI hzu rfl)) ?_
  try dsimp only
  rw [if_pos rfl, if_pos rfl, if_pos rfl, if_pos rfl, if_pos rfl, if_pos rfl]
  refine bindI hu ?_
  refine bindI hzu ?_
  try dsimp only
  rw [if_pos rfl]
  refine bindI hzx ?_
  refine bindI (hz _ rfl) ?_
  try dsimp only
  rw [if_pos rfl]
  refine bindI (size_val x hxn 100 (by decide)) ?_
  try dsimp only
  rw [show wrap64 ((l.length : Int) + ((ten x).length : Int)) = (l.length : Int) + ((ten x).length : Int) by unfold wrap64; omega]
  simp
end Go.Proofs.Ytkolpnilgpmoiaa.Pure
