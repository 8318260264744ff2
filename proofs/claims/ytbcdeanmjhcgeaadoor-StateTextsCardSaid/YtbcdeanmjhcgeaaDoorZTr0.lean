/- The reference's number texts (num, wide), walked; strings by their bytes. The condition: what FormatInt and Itoa give. -/
import Derived.Test.YtbcdeanmjhcgeaaDoorZa
import Derived.Test.YtbcdeanmjhcgeaaDoorZTw0
namespace Go.Proofs.YtbcdeanmjhcgeaaDoor.Tx
set_option linter.unusedVariables false
set_option linter.unusedSimpArgs false
open Go.RowKit Go.WideShapes Go.ChangeShapes
open Go.Lib (itoa)
open Go.Proofs.YtbcdeanmjhcgeaaDoor.Pg
set_option linter.unusedVariables false
/-- A string of these bytes. -/
def bs (l : List UInt8) : ByteArray := ⟨l.toArray⟩
theorem bs_app (a b : List UInt8) : bs a ++ bs b = bs (a ++ b) := by
  apply ByteArray.ext
  simp [bs]
theorem bs_nil : (⟨#[]⟩ : ByteArray) = bs [] := rfl
theorem bs_blank : (⟨#[32]⟩ : ByteArray) = bs [32] := rfl
theorem bs_refs (l : List Int) (n : Int) : bs (refs l) ++ bs (32 :: itoa n) = bs (refs (l ++ [n])) := by rw [bs_app, refs_snoc]
theorem bs_inj {a b : List UInt8} (h : bs a = bs b) : a = b := by
  have := congrArg (fun z => z.data.toList) h
  simpa [bs] using this
/-- What FormatInt and Itoa give, in later worlds. -/
structure Told (w : World) : Prop where
  fi : ∀ n, I64 n → ∀ W, Below w.heap.size w W → Calls Tryd.prog 29 #[.int .i64 n, .int .i64 10] W fun e w' => e = .returned (.string ⟨(itoa n).toArray⟩) ∧ Below W.heap.size W w'
  it : ∀ n, I64 n → ∀ W, Below w.heap.size w W → Calls Tryd.prog 45 #[.int .i64 n] W fun e w' => e = .returned (.string ⟨(itoa n).toArray⟩) ∧ Below W.heap.size W w'
theorem Told.below {w W : World} (h : Told w) (hb : Below w.heap.size w W) : Told W := ⟨fun n hn V hV => h.fi n hn V (hb.trans (hV.mono hb.size)), fun n hn V hV => h.it n hn V (hb.trans (hV.mono hb.size))⟩
set_option maxHeartbeats 1000000 in
set_option maxRecDepth 100000 in
theorem wide_walk (n : Int) (hn : I64 n) (w : World) (h : Told w) : Calls Tryd.prog 31 #[.int .i64 n] w fun e w' => e = .returned (.string (bs (32 :: itoa n))) ∧ Below w.heap.size w w' := by
  have c := Lib.hid (h.fi n hn w (Below.refl _ _))
  have e1 := Lib.hid (show (⟨#[32]⟩ : ByteArray) ++ ⟨(itoa n).toArray⟩ = bs (32 :: itoa n) from bs_app [32] (itoa n))
  have hz : ¬ 9223372036854775807 < 1 + (⟨(itoa n).toArray⟩ : ByteArray).size := by have := Go.Lib.itoa_length_le n hn.1 hn.2; simp [ByteArray.size]; omega
  generalize (⟨(itoa n).toArray⟩ : ByteArray) = z at *
  go_enter Tryd.func31, Tryd.ntmps31
  go_wp2_with ((go_at_call 29; ((with_reducible refine (c.out).mono ?_); rintro e w' ⟨rfl, hb⟩)))
  go_ret
  exact ⟨by rw [e1.out]; rfl, hb⟩
set_option maxHeartbeats 1000000 in
set_option maxRecDepth 100000 in
theorem num_walk (n : Int) (hn : I64 n) (w : World) (h : Told w) : Calls Tryd.prog 32 #[.int .i64 n] w fun e w' => e = .returned (.string (bs (32 :: itoa n))) ∧ Below w.heap.size w w' := by
  have c := Lib.hid (h.it n hn w (Below.refl _ _))
  have e1 := Lib.hid (show (⟨#[32]⟩ : ByteArray) ++ ⟨(itoa n).toArray⟩ = bs (32 :: itoa n) from bs_app [32] (itoa n))
  have hz : ¬ 9223372036854775807 < 1 + (⟨(itoa n).toArray⟩ : ByteArray).size := by have := Go.Lib.itoa_length_le n hn.1 hn.2; simp [ByteArray.size]; omega
  generalize (⟨(itoa n).toArray⟩ : ByteArray) = z at *
  go_enter Tryd.func32, Tryd.ntmps32
  go_wp2_with ((go_at_call 45; ((with_reducible refine (c.out).mono ?_); rintro e w' ⟨rfl, hb⟩)))
  go_ret
  exact ⟨by rw [e1.out]; rfl, hb⟩
structure Rd (w : World) (bl : List (Nat × Array Value)) (l : List Int) (W : World) (t : Value) : Prop where
  env : Env w bl W
  ok : ∀ x ∈ l, I64 x
  t : t = .string (bs (refs l))
theorem cat_ok {l : List Int} (hl : ∀ x ∈ l, I64 x) (hn : l.length ≤ 1000) {x : Int} (hx : I64 x) : ¬ 9223372036854775807 < (bs (refs l)).size + (bs (32 :: itoa x)).size := by
  have h1 := refs_len l hl
  have h2 := Go.Lib.itoa_length_le x hx.1 hx.2
  simp [bs, ByteArray.size]
  omega
theorem bs_tail (a b : ByteArray) (l : List UInt8) (h : a ++ b = bs l) : (a ++ b).extract 1 (a.size + b.size) = bs (l.drop 1) := by
  rw [← ByteArray.size_append, h]
  apply ByteArray.ext
  simp only [bs, ByteArray.data_extract, ByteArray.size]
  apply Array.toList_inj.1
  simp
  exact List.take_of_length_le (by simp)
theorem size_le {l : List Int} (hl : ∀ x ∈ l, I64 x) : (bs (refs l)).size ≤ 22 * l.length := by
  have h1 := refs_len l hl
  simpa [bs, ByteArray.size] using h1
theorem size_one {x : Int} (hx : I64 x) : (bs (32 :: itoa x)).size ≤ 22 := by
  have h2 := Go.Lib.itoa_length_le x hx.1 hx.2
  simp [bs, ByteArray.size]; omega
theorem ok_app {l m : List Int} (h1 : ∀ x ∈ l, I64 x) (h2 : ∀ x ∈ m, I64 x) : ∀ x ∈ l ++ m, I64 x := fun x hx => (List.mem_append.1 hx).elim (h1 x) (h2 x)
theorem bs_many (l : List Int) (a b c d e : Int) : bs (refs l) ++ bs (32 :: itoa a) ++ bs (32 :: itoa b) ++ bs (32 :: itoa c) ++ bs (32 :: itoa d) ++ bs (32 :: itoa e) = bs (refs (l ++ [a, b, c, d, e])) := by
  simp only [bs_app, refs, List.flatMap_append, List.flatMap_cons, List.flatMap_nil, List.append_assoc, List.append_nil, List.cons_append, List.nil_append]
theorem bs_four (l : List Int) (a b c d : Int) : bs (refs l) ++ bs (32 :: itoa a) ++ bs (32 :: itoa b) ++ bs (32 :: itoa c) ++ bs (32 :: itoa d) = bs (refs (l ++ [a, b, c, d])) := by
  simp only [bs_app, refs, List.flatMap_append, List.flatMap_cons, List.flatMap_nil, List.append_assoc, List.append_nil, List.cons_append, List.nil_append]
theorem Rd.step {w W W' : World} {bl : List (Nat × Array Value)} {l : List Int} {x : Int} (E : Env w bl W) (hl : ∀ x ∈ l, I64 x) (hx : I64 x) (hb : Below W.heap.size W W') : Rd w bl (l ++ [x]) W' (.string (bs (refs l) ++ bs (32 :: itoa x))) :=
  ⟨E.next hb, fun y hy => by
    rcases List.mem_append.1 hy with hy | hy
    · exact hl y hy
    · rw [List.mem_singleton.1 hy]; exact hx, by rw [bs_refs]⟩
end Go.Proofs.YtbcdeanmjhcgeaaDoor.Tx
