/- THE PURE LAW of OctetPuts: every Put, PutInt and Size; what is handed in stays. No condition. -/
import Derived.Test.YtkolpnilgpmoiaaCodec2
import Derived.Test.YtkolpnilgpmoiaaQ3
namespace Go.Proofs.Ytkolpnilgpmoiaa.Pure
open Go.RowKit Go.Proofs.Ytkolpnilgpmoiaa.Q Go.Proofs.YtkolpnilgpmoiaaW.PrintWords Go.Proofs.Ytkolpnilgpmoiaa.Bits Go.Proofs.Ytkolpnilgpmoiaa.Codec

theorem puts_loop (l p : List Int) (y : Int) (u : Nat) (hl : l.length ≤ 140737488351232) (hp : l.length < p.length) (hpl : p.length ≤ 140737488351300) (hu : scarabref01_Zig.f y = some (u : Int)) (hub : u < 18446744073709551616) (d : Nat) :
    ∀ (i : Nat) (q : List Int), q.length = p.length → i + d = p.length → ∀ k, d + 20 < k →
    scarablaw01_OctetPuts.l0 k l y (l ++ [201, 202, 203]) q (l ++ ten u) (p.length : Int) (i : Int) = some true := by
  induction d with
  | zero =>
    intro i q hq hi k hk
    obtain ⟨k, rfl⟩ : ∃ m, k = m + 1 := ⟨k - 1, by omega⟩
    simp only [scarablaw01_OctetPuts.l0]
    rw [if_neg (by omega)]
    refine bindI rfl ?_
    try dsimp only
    rw [if_pos (show q.length + ([7, 7, 7, 7] : List Int).length < 140737488355328 by simp only [List.length_cons, List.length_nil]; omega)]
    refine bindI (bindI hu (bindI (refput_val l u hub (by omega) k (by omega)) rfl)) ?_
    refine bindI (same_val _ _ rfl) ?_
    try dsimp only
    rw [if_pos rfl]
    refine bindI (own_val l (by omega)) ?_
    refine bindI rfl ?_
    try dsimp only
    rw [if_pos (show l.length + ([201, 202, 203] : List Int).length < 140737488355328 by simp only [List.length_cons, List.length_nil]; omega)]
    refine bindI (same_val _ _ rfl) ?_
    try dsimp only
    rw [if_pos rfl, decide_eq_true (by rw [List.length_append]; omega)]
  | succ d ih =>
    intro i q hq hi k hk
    obtain ⟨k, rfl⟩ : ∃ m, k = m + 1 := ⟨k - 1, by omega⟩
    simp only [scarablaw01_OctetPuts.l0]
    rw [if_pos (by omega), if_pos (by omega), if_pos (by omega), show wrap64 ((i : Int) + 1) = ((i + 1 : Nat) : Int) by unfold wrap64; omega]
    exact ih (i + 1) _ (by simp [hq]) (by omega) k (by omega)

theorem OctetPuts : scarablaw01_OctetPuts.Pure := by
  intro l x y hlm hl8 hlb hx hy
  have bx := wf_u64 hx
  have by_ := wf_i64 hy
  have hl : l.length ≤ 140737488351232 := by omega
  obtain ⟨x, rfl⟩ := Int.eq_ofNat_of_zero_le bx.1
  have hxn : x < 18446744073709551616 := by omega
  obtain ⟨u, hu, hu2, hub, huv⟩ := zig_nat y by_.1 by_.2
  have hp := enc_pos 9 x
  have hpl := ten_len x
  refine ⟨(l ++ ten x).length + 200, ?_⟩
  generalize hK : (l ++ ten x).length + 200 = K
  have hK1 : 30 < K := by omega
  unfold scarablaw01_OctetPuts.f octet_PutInt.f scarabref01_PutInt.f
  refine bindI (own_val l (by omega)) ?_
  refine bindI rfl ?_
  try dsimp only
  rw [if_pos (show l.length + ([201, 202, 203] : List Int).length < 140737488355328 by simp only [List.length_cons, List.length_nil]; omega)]
  refine bindI rfl ?_
  try dsimp only
  rw [if_pos (by omega), if_pos (by rw [List.length_append]; omega)]
  refine bindI rfl ?_
  try dsimp only
  rw [Int.toNat_natCast, List.take_left]
  refine bindI (put_val l x hxn (by omega) K (by omega)) ?_
  refine bindI (bindI hu (bindI (put_val l u hub (by omega) K (by omega)) rfl)) ?_
  refine bindI (refput_val l x hxn (by omega) K (by omega)) ?_
  refine bindI (same_val _ _ rfl) ?_
  try dsimp only
  rw [if_pos rfl]
  refine bindI (bindI hu2 (bindI (refput_val l u hub (by omega) K (by omega)) rfl)) ?_
  refine bindI (same_val _ _ rfl) ?_
  try dsimp only
  rw [if_pos rfl]
  refine bindI (size_val x hxn K (by omega)) ?_
  refine bindI (bytes_val x hxn K (by omega)) ?_
  obtain ⟨K, rfl⟩ : ∃ m, K = m + 1 := ⟨K - 1, by omega⟩
  try dsimp only
  rw [show (((ten x).length : Int) != ((ten x).length : Int)) = false by simp]
  rw [scarablaw01_OctetPuts.j0, if_neg (by decide)]
  exact puts_loop l (l ++ ten x) y u hl (by unfold ten; rw [List.length_append]; omega) (by rw [List.length_append]; omega) hu2 hub (l ++ ten x).length 0 _ rfl (by omega) K (by omega)
end Go.Proofs.Ytkolpnilgpmoiaa.Pure
