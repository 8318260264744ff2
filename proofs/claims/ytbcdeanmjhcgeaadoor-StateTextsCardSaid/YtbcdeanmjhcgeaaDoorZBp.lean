/- A number written behind those that a strings.Builder holds (the closure of Text), walked. The condition: what FormatInt gives. -/
import Derived.Test.YtbcdeanmjhcgeaaDoorZTx0
import Derived.Test.YtbcdeanmjhcgeaaDoorZBw
import Derived.Lib.Hide
namespace Go.Proofs.YtbcdeanmjhcgeaaDoor.Tx
set_option linter.unusedVariables false
set_option linter.unusedSimpArgs false
open Go.RowKit Go.Lib
open Go.Proofs.YtbcdeanmjhcgeaaDoor.Pg (I64)
set_option linter.unusedVariables false
theorem atF_below {T e : TypeId} {B b : Nat} {p : Value} {bs : List Value} {W W' : World} (h : Lib.BuilderAtF T e B b p bs W) (hb : Below W.heap.size W W') : Lib.BuilderAtF T e B b p bs W' := by
  have hlt := h.lt
  obtain ⟨hB, v, hbk, hown, hne⟩ := h
  refine ⟨hB, v, (hb.block b hlt).trans hbk, ⟨hown.1, ?_⟩, hne⟩
  rcases hown.2 with hn | ⟨g, cap, cur, fz, hv, hbg, hg, rest⟩
  · exact .inl hn
  · exact .inr ⟨g, cap, cur, fz, hv, hbg, (hb.block g (Array.getElem?_eq_some_iff.1 hg).1).trans hg, rest⟩
theorem isF_below {T e : TypeId} {B b : Nat} {bs : List Value} {W W' : World} (h : Lib.IsBuilderF T e B b bs W) (hb : Below W.heap.size W W') : Lib.IsBuilderF T e B b bs W' := h.elim (fun x => .inl (atF_below x hb)) (fun x => .inr (atF_below x hb))
theorem isF_used {T e : TypeId} {B b : Nat} {bs : List Value} {W : World} (h : Lib.BuilderAtF T e B b (.pointer (some ⟨b, 0, none⟩)) bs W) : Lib.IsBuilderF T e B b bs W := .inr h
theorem others_below {e : TypeId} {b : Option Nat} {a w w' : World} (h : Lib.OthersKept e b a w) (hb : Below w.heap.size w w') : Lib.OthersKept e b a w' := fun k x hk hkb hx => by
  have h1 := h k x hk hkb hx
  exact (hb.block k (Array.getElem?_eq_some_iff.1 h1).1).trans h1
/-- What a builder holds: the numbers so far, blanks between them. -/
def Holds (B b : Nat) (l : List Int) (W : World) : Prop := Lib.IsBuilderF 62 5 B b (Lib.byteCells (txt l)) W
theorem cells_app (a b : List UInt8) : Lib.byteCells (a ++ b) = Lib.byteCells a ++ Lib.byteCells b := by simp [Lib.byteCells]
theorem str_cells (l : List UInt8) : Lib.strCells ⟨l.toArray⟩ = Lib.byteCells l := by rw [Lib.strCells_eq]
set_option maxHeartbeats 4000000 in
set_option maxRecDepth 100000 in
theorem put_walk (n : Int) (hn : I64 n) (B b : Nat) (l : List Int) (hl : ∀ x ∈ l, I64 x) (hlen : l.length ≤ 1000) (w : World) (h : Holds B b l w) (hB : B ≤ w.heap.size)
    (hI : ∀ W, Below B w W → Calls Tryd.prog 29 #[.int .i64 n, .int .i64 10] W fun e w' => e = .returned (.string ⟨(itoa n).toArray⟩) ∧ Below W.heap.size W w') :
    Calls Tryd.prog 25 #[.int .i64 n, .pointer (some ⟨b, 0, none⟩)] w fun e w' => e = .returned (.tuple #[]) ∧ Holds B b (l ++ [n]) w' ∧ Below B w w' ∧ Lib.OthersKept 5 (some b) w w' := by
  have ht := txt_len l hl
  have hi := itoa_length_le n hn.1 hn.2
  have cL := Lib.hid (fun bs W (h : Lib.IsBuilderF 62 5 B b bs W) => Tryd.Builder_Len_f B b bs W h)
  have cF := Lib.hid hI
  have cW := Lib.hid (fun bs s W h h1 h2 => Bw.writeString B b bs s W h h1 h2)
  have cB := Lib.hid (fun bs c W h h1 h2 => Bw.writeByte B b bs c W h h1 h2)
  have hsz : (⟨(itoa n).toArray⟩ : ByteArray).size = (itoa n).length := by simp [ByteArray.size]
  replace hsz := Lib.hid hsz
  have h0 := Lib.hid h
  clear hI h
  by_cases hc : l = []
  · subst hc
    have h1 := h0.out
    unfold Holds at h1
    rw [txt_nil] at h1
    go_enter Tryd.func25, Tryd.ntmps25
    go_wp2_with (first
      | ((go_at_call 28; ((with_reducible refine (cW.out _ _ _ (isF_below h1 hb1) (by rw [hsz.out]; simp [Lib.byteCells]; omega) (by have := hb1.size; omega)).mono ?_); rintro e w' ⟨rfl, hx, hb2, hk2⟩)))
      | ((go_at_call 29; ((with_reducible refine (cF.out _ (Below.refl _ _)).mono ?_); rintro e w' ⟨rfl, hb1⟩)))
      | ((go_at_call 26; ((with_reducible refine (cL.out _ _ h1).mono ?_); rintro e w' ⟨rfl, rfl⟩))))
    go_end0
    refine ⟨rfl, ?_, (hb1.mono hB).trans hb2, ?_⟩
    · unfold Holds
      rw [txt_one]
      rw [str_cells] at hx
      exact .inr hx
    · exact (others_below (Lib.OthersKept.refl _ _ _) hb1).trans hk2
  · have hne := txt_ne hc
    have h1 := h0.out
    unfold Holds at h1
    have hp : 0 < (Lib.byteCells (txt l)).length := by rw [Lib.byteCells_length]; exact List.length_pos_iff.2 hne
    have hq : (Lib.byteCells (txt l)).length ≤ 22000 := by rw [Lib.byteCells_length]; omega
    go_enter Tryd.func25, Tryd.ntmps25
    go_wp2_with (first
      | ((go_at_call 28; ((with_reducible refine (cW.out _ _ _ (isF_below (isF_used hx) hb2) (by rw [hsz.out, List.length_append, List.length_singleton]; omega) (by have := hb1.size; have := hb2.size; omega)).mono ?_); rintro e w' ⟨rfl, hy, hb3, hk3⟩)))
      | ((go_at_call 29; ((with_reducible refine (cF.out _ hb1).mono ?_); rintro e w' ⟨rfl, hb2⟩)))
      | ((go_at_call 27; ((with_reducible refine (cB.out _ _ _ h1 (by omega) hB).mono ?_); rintro e w' ⟨rfl, hx, hb1, hk1⟩)))
      | ((go_at_call 26; ((with_reducible refine (cL.out _ _ h1).mono ?_); rintro e w' ⟨rfl, rfl⟩))))
    go_end0
    refine ⟨rfl, ?_, (hb1.trans (hb2.mono (by have := hb1.size; omega))).trans hb3, ?_⟩
    · unfold Holds
      rw [txt_snoc hc]
      rw [str_cells] at hy
      right
      rw [cells_app]
      simpa [Lib.byteCells] using hy
    · exact (others_below hk1 hb2).trans hk3
end Go.Proofs.YtbcdeanmjhcgeaaDoor.Tx
