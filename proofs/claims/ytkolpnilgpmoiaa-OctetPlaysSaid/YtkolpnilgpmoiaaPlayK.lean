/- Two readers side by side, in memory: what stays of them over a call and over a write. No condition. -/
import Derived.Test.YtkolpnilgpmoiaaZRefGet
import Derived.Test.YtkolpnilgpmoiaaZCodec2
import Derived.WalkKit
import Derived.Below
import Derived.Lib.Hide
import Derived.Laws.AppendOwn
import Derived.Laws.OwnMore
namespace Go.Proofs.Ytkolpnilgpmoiaa.Pl
open Go.ChangeShapes Go.WideShapes Go.RowKit Go.Proofs.Ytkolpnilgpmoiaa.Z Go.Proofs.YtkolpnilgpmoiaaW.PrintWords Go.Proofs.Ytkolpnilgpmoiaa.Bits Go.Proofs.Ytkolpnilgpmoiaa.Codec
/-- Bytes, as cells. -/
def bs (L : List Int) : List Value := L.map (Value.int .u8)
/-- The program's reader at block g stands at p, the reference's at block h at q: both read L. -/
structure Play (w0 : World) (L : List Int) (A B : Option Addr) (c d g h p q : Nat) (W : World) : Prop where
  acc : Below w0.heap.size w0 W
  g0 : W.cell? ⟨g, 0, none⟩ = some (.slice B L.length d)
  g1 : W.cell? ⟨g, 1, none⟩ = some (.int .i64 p)
  gf : W.frozen? ⟨g, 1, none⟩ = false
  h0 : W.cell? ⟨h, 0, none⟩ = some (.slice A L.length c)
  h1 : W.cell? ⟨h, 1, none⟩ = some (.int .i64 q)
  hf : W.frozen? ⟨h, 1, none⟩ = false
  row : W.ownsRow w0.heap.size 5 1 (.slice B L.length d) L.length (bs L)
  sg : ∀ k, (Value.slice B L.length d).ownBlock = some k → k ≠ g ∧ k ≠ h ∧ k < W.heap.size
  ne : g ≠ h
  lg : w0.heap.size ≤ g ∧ g < W.heap.size
  lh : w0.heap.size ≤ h ∧ h < W.heap.size
  hp : p ≤ L.length
  hq : q ≤ L.length
section
variable {w0 : World} {L : List Int} {A B : Option Addr} {c d g h p q : Nat} {W w1 : World}
/-- Where the blocks of both are as they were. -/
theorem Play.same (P : Play w0 L A B c d g h p q W) (acc : Below w0.heap.size w0 w1) (hs : W.heap.size ≤ w1.heap.size) (hg : w1.heap[g]? = W.heap[g]?) (hh : w1.heap[h]? = W.heap[h]?)
    (hb : ∀ k, (Value.slice B L.length d).ownBlock = some k → w1.heap[k]? = W.heap[k]?) : Play w0 L A B c d g h p q w1 :=
  ⟨acc, (World.cell?_of_block (w := W) hg).trans P.g0, (World.cell?_of_block (w := W) hg).trans P.g1, (World.frozen?_of_block (w := W) hg).trans P.gf,
   (World.cell?_of_block (w := W) hh).trans P.h0, (World.cell?_of_block (w := W) hh).trans P.h1, (World.frozen?_of_block (w := W) hh).trans P.hf,
   own_move P.row hb, fun k hk => ⟨(P.sg k hk).1, (P.sg k hk).2.1, by have := (P.sg k hk).2.2; omega⟩, P.ne, ⟨P.lg.1, by have := P.lg.2; omega⟩, ⟨P.lh.1, by have := P.lh.2; omega⟩, P.hp, P.hq⟩
/-- Behind a call that has laid new blocks alone. -/
theorem Play.next (P : Play w0 L A B c d g h p q W) (hb : Below W.heap.size W w1) : Play w0 L A B c d g h p q w1 :=
  P.same (P.acc.trans (hb.mono P.acc.size)) hb.size (hb.block g P.lg.2) (hb.block h P.lh.2) (fun k hk => hb.block k (P.sg k hk).2.2)
theorem Play.drew (P : Play w0 L A B c d g h p q W) : Play w0 L A B c d g h p q W.drew := P.next (Below.drew (Below.refl _ _))
theorem Play.drewN (P : Play w0 L A B c d g h p q W) (n : Nat) : Play w0 L A B c d g h p q (W.drewN n) := P.next (pw_below_drewN (Below.refl _ _) n)
/-- Behind a write elsewhere. -/
theorem Play.far (P : Play w0 L A B c d g h p q W) (k j : Nat) (u : Value) (hk : w0.heap.size ≤ k) (hg : k ≠ g) (hh : k ≠ h) (hb : (Value.slice B L.length d).ownBlock ≠ some k) : Play w0 L A B c d g h p q (W.setCell ⟨k, j, none⟩ u) :=
  P.same (P.acc.setCell (by simpa using hk) u) (by simp [World.setCell]) (Below.heap_setCell _ _ _ _ (fun e => hg e.symm)) (Below.heap_setCell _ _ _ _ (fun e => hh e.symm)) (fun k' hk' => Below.heap_setCell _ _ _ _ (fun e => hb (by rw [hk', e])))
/-- The program's reader moves on. -/
theorem Play.putG (P : Play w0 L A B c d g h p q W) (p' : Nat) (hp' : p' ≤ L.length) : Play w0 L A B c d g h p' q (W.setCell ⟨g, 1, none⟩ (.int .i64 p')) := by
  refine ⟨P.acc.setCell P.lg.1 _, ?_, World.cell?_setCell_same _ _ _ P.g1, by rw [World.frozen?_setCell]; exact P.gf, ?_, ?_, by rw [World.frozen?_setCell]; exact P.hf, ?_, ?_, P.ne, ⟨P.lg.1, by simpa [World.setCell] using P.lg.2⟩, ⟨P.lh.1, by simpa [World.setCell] using P.lh.2⟩, hp', P.hq⟩
  · rw [World.cell?_setCell_other _ _ _ _ (by simp)]; exact P.g0
  · rw [World.cell?_setCell_other _ _ _ _ (by simp only [ne_eq, Addr.mk.injEq]; have := P.ne; omega)]; exact P.h0
  · rw [World.cell?_setCell_other _ _ _ _ (by simp only [ne_eq, Addr.mk.injEq]; have := P.ne; omega)]; exact P.h1
  · exact own_move P.row (fun k hk => Below.heap_setCell _ _ _ _ (fun e => (P.sg k hk).1 e))
  · intro k hk; have := P.sg k hk; exact ⟨this.1, this.2.1, by simpa [World.setCell] using this.2.2⟩
/-- The reference's reader moves on. -/
theorem Play.putH (P : Play w0 L A B c d g h p q W) (q' : Nat) (hq' : q' ≤ L.length) : Play w0 L A B c d g h p q' (W.setCell ⟨h, 1, none⟩ (.int .i64 q')) := by
  refine ⟨P.acc.setCell P.lh.1 _, ?_, ?_, by rw [World.frozen?_setCell]; exact P.gf, ?_, World.cell?_setCell_same _ _ _ P.h1, by rw [World.frozen?_setCell]; exact P.hf, ?_, ?_, P.ne, ⟨P.lg.1, by simpa [World.setCell] using P.lg.2⟩, ⟨P.lh.1, by simpa [World.setCell] using P.lh.2⟩, P.hp, hq'⟩
  · rw [World.cell?_setCell_other _ _ _ _ (by simp only [ne_eq, Addr.mk.injEq]; have := P.ne; omega)]; exact P.g0
  · rw [World.cell?_setCell_other _ _ _ _ (by simp only [ne_eq, Addr.mk.injEq]; have := P.ne; omega)]; exact P.g1
  · rw [World.cell?_setCell_other _ _ _ _ (by simp)]; exact P.h0
  · exact own_move P.row (fun k hk => Below.heap_setCell _ _ _ _ (fun e => (P.sg k hk).2.1 e))
  · intro k hk; have := P.sg k hk; exact ⟨this.1, this.2.1, by simpa [World.setCell] using this.2.2⟩
theorem Play.readsB (P : Play w0 L A B c d g h p q W) : ReadsInt W .u8 B L.length L := own_reads' P.row
end
/-- Where a reader of a number comes to. -/
def uint (L : List Int) (p : Nat) : Int × Nat × Int := let r := gt L p 10 0 0; (r.1, if r.2.2 = 0 then r.2.1.toNat else p, r.2.2)
end Go.Proofs.Ytkolpnilgpmoiaa.Pl
