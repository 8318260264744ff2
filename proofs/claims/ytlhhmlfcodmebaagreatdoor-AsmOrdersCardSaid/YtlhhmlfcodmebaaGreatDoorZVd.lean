/- What a line does, walked: the simple kinds. The condition: the reader in memory. -/
import Derived.Test.YtlhhmlfcodmebaaGreatDoorZi
import Derived.Deep.RegionHeld3
import Derived.StillTailTactics
namespace Go.Proofs.YtlhhmlfcodmebaaGreatDoor.Pg
set_option linter.unusedVariables false
set_option linter.unusedSimpArgs false
open Go.RowKit Go.WideShapes Go.ChangeShapes
open Go.Proofs.YtlhhmlfcodmebaaGreatDoor.Wd (sml_walk nmb_walk ltr_walk num)
set_option linter.unusedVariables false
set_option linter.unusedSimpArgs false
theorem num_64 (l : List UInt8) : I64 (num l).1 := by
  unfold num
  split
  · next n hp =>
    split
    · exact Wd.parse_range hp
    · exact ⟨by decide, by decide⟩
  · exact ⟨by decide, by decide⟩
theorem sml_64 (l : List UInt8) : I64 (sml l).1 := by
  unfold sml
  split
  · exact num_64 l
  · exact ⟨by decide, by decide⟩
theorem nmb_64 (l : List UInt8) : I64 (nmb l).1 := by
  unfold nmb
  split
  · exact num_64 l
  · exact ⟨by decide, by decide⟩
theorem ltr_64 (l : List UInt8) (h : UInt8) (b : Bool) : I64 (ltr l h b).1 := by
  unfold ltr
  split
  · exact ⟨by decide, by decide⟩
  · split
    · exact sml_64 _
    · exact ⟨by decide, by decide⟩
/-- A line's words, and the slice that they come in. -/
def LIM : Nat := 281474976710656
set_option maxHeartbeats 8000000 in
set_option maxRecDepth 100000 in
theorem channel_walk (w0 : World) (n0 r N g cap : Nat) (p : Pg) (a : Int) (W : World) (x0 x1 : ByteArray) (R : Rd w0 n0 r N p a W) (hw : Ws n0 r g [x0, x1] W) (h1 : x1.size ≤ 281474976710656) (hc : 2 ≤ cap) (hN : N ≤ 1000000) :
    Calls Tryz.prog 83 #[.pointer (some ⟨r, 0, none⟩), .slice (some ⟨g, 0, none⟩) 2 cap] W fun e w' => e = .returned (.int .i64 (sml x1.data.toList).2) ∧ Frm n0 r W w' ∧
      ∃ p', p'.bare = taken p.bare 5 0 [(sml x1.data.toList).1] ∧ Rd w0 n0 r (N + 1) p' 3 w' := by
  have R1 := R.setAt 3
  have f1 := Frm.setR (r := r) R.hi 4 (.int .i64 3)
  have c4 : W.cell? ⟨r, 4, none⟩ = some (.int .i64 a) := R.cell 4
  have fz := R.blk.fr
  have w1 := (hw.set 4 (.int .i64 3)).cell 1 _ rfl
  have cS := Lib.hid (fun W hL => sml_walk x1 W hL h1)
  have hn : I64 (sml x1.data.toList).1 := sml_64 _
  generalize sml x1.data.toList = y at *
  obtain ⟨n, e⟩ := y
  have hlen := R.few.lenH
  go_enter Tryz.func83, Tryz.ntmps83
  go_wp2_with (first
    | (go_at_call 114; ((with_reducible refine (cS.out _ R1.lie).mono ?_); rintro e W2 ⟨rfl, b2⟩; have R2 := R1.below b2; have d2 : W2.cell? ⟨r, 2, none⟩ = some (.slice p.ha p.chans.length p.hcap) := R2.cell 2; have fz2 := R2.blk.fr; have f2 := f1.trans (Frm.below R1.hi b2)))
    | (at_builtin; refine wpList_app (R2.rows.perm (rows_chan p)) R2.hi rfl _ _ _ rfl [.int .i64 n] 3 rfl (.int .i64 0) 8 Tryz.underlying23 info_int rfl (Nat.succ_pos _) rfl rfl rfl (by simp [Vr.cs, Fn.cs, Sel.cs, Cas.cs, Ins.cs, Fn.new, Value.oneCell']) (by show (p.chans.length + 1) * 8 ≤ _; omega) (by show p.chans.length + 1 ≤ _; omega) ?_; intro g2 cap2 W3 k1 k2 k3 k4 k5; have far := R2.far (by simp [Pg.rows]) k2; have d3 : W3.cell? ⟨r, 2, none⟩ = some (.slice p.ha p.chans.length p.hcap) := far.1.cell 2; have fz3 := far.1.fr))
  obtain ⟨R4, f4⟩ := R2.chan hn k1 k2
  go_ret
  exact ⟨rfl, f2.trans f4, _, rfl, R4⟩
set_option maxHeartbeats 8000000 in
set_option maxRecDepth 100000 in
theorem lock_walk (w0 : World) (n0 r N : Nat) (v : Value) (p : Pg) (a : Int) (W : World) (R : Rd w0 n0 r N p a W) (hN : N ≤ 1000000) :
    Calls Tryz.prog 82 #[.pointer (some ⟨r, 0, none⟩), v] W fun e w' => e = .returned (.int .i64 0) ∧ Frm n0 r W w' ∧
      ∃ p', p'.bare = taken p.bare 4 0 [] ∧ Rd w0 n0 r (N + 1) p' 2 w' := by
  have R1 := R.setAt 2
  have f1 := Frm.setR (r := r) R.hi 4 (.int .i64 2)
  have c4 : W.cell? ⟨r, 4, none⟩ = some (.int .i64 a) := R.cell 4
  have c1 : (W.setCell ⟨r, 4, none⟩ (.int .i64 2)).cell? ⟨r, 1, none⟩ = some (.int .i64 p.locks) := R1.cell 1
  have fz := R.blk.fr
  have hlk := R.few.locks
  have R2 : Rd w0 n0 r (N + 1) { p with locks := p.locks + 1 } 2 ((W.setCell ⟨r, 4, none⟩ (.int .i64 2)).setCell ⟨r, 1, none⟩ (.int .i64 (p.locks + 1))) := by
    have hb := R1.blk.set 1 (by simp) (.int .i64 (p.locks + 1))
    have hm := R.few.mono (Nat.le_succ N)
    exact ⟨by simpa using hb, (R1.rows.other (grown_cell _ r 1 _) R1.lo), R1.lo, by simpa [World.setCell] using R1.hi, ⟨hm.inits, hm.chans, ⟨by show 0 ≤ p.locks + 1; omega, by show p.locks + 1 ≤ ((N + 1 : Nat) : Int); omega⟩, hm.lenV, hm.lenH, hm.lenF, hm.funcs⟩, (f1.trans (Frm.setR R1.hi 1 _)).acc R.acc R.base R.lo, R.base, R.lies⟩
  have f2 := f1.trans (Frm.setR (r := r) R1.hi 1 (.int .i64 (p.locks + 1)))
  go_enter Tryz.func82, Tryz.ntmps82
  go_wp2
  go_ret
  exact ⟨rfl, f2, _, rfl, R2⟩
set_option maxHeartbeats 8000000 in
set_option maxRecDepth 100000 in
theorem scarab_walk (w0 : World) (n0 r N : Nat) (v : Value) (p : Pg) (a : Int) (W : World) (R : Rd w0 n0 r N p a W) :
    Calls Tryz.prog 80 #[.pointer (some ⟨r, 0, none⟩), v] W fun e w' => e = .returned (.int .i64 0) ∧ Frm n0 r W w' ∧
      ∃ p', p'.bare = taken p.bare 1 0 [] ∧ Rd w0 n0 r (N + 1) p' 1 w' := by
  have R1 := R.setAt 1
  have f1 := Frm.setR (r := r) R.hi 4 (.int .i64 1)
  have c4 : W.cell? ⟨r, 4, none⟩ = some (.int .i64 a) := R.cell 4
  have fz := R.blk.fr
  go_enter Tryz.func80, Tryz.ntmps80
  go_wp2
  go_ret
  exact ⟨rfl, f1, p, rfl, R1.more (Nat.le_succ N)⟩
set_option maxHeartbeats 8000000 in
set_option maxRecDepth 100000 in
theorem function_walk (w0 : World) (n0 r N g cap : Nat) (p : Pg) (a : Int) (W : World) (x0 x1 x2 : ByteArray) (R : Rd w0 n0 r N p a W) (hw : Ws n0 r g [x0, x1, x2] W) (h1 : x1.size ≤ 281474976710656) (h2 : x2.size ≤ 281474976710656) (hc : 3 ≤ cap) (hN : N ≤ 1000000) :
    Calls Tryz.prog 85 #[.pointer (some ⟨r, 0, none⟩), .slice (some ⟨g, 0, none⟩) 3 cap] W fun e w' => e = .returned (.int .i64 (if (sml x1.data.toList).2 ≠ 0 then (sml x1.data.toList).2 else (sml x2.data.toList).2)) ∧ Frm n0 r W w' ∧
      ((sml x1.data.toList).2 = 0 → ∃ p', p'.bare = taken p.bare 6 0 [(sml x1.data.toList).1, (sml x2.data.toList).1] ∧ Rd w0 n0 r (N + 1) p' 4 w') := by
  have R1 := R.setAt 4
  have f1 := Frm.setR (r := r) R.hi 4 (.int .i64 4)
  have c4 : W.cell? ⟨r, 4, none⟩ = some (.int .i64 a) := R.cell 4
  have fz := R.blk.fr
  have hw1 := hw.set 4 (.int .i64 4)
  have w1 := hw1.cell 1 _ rfl
  have cS := Lib.hid (fun W hL => sml_walk x1 W hL h1)
  have cT := Lib.hid (fun W hL => sml_walk x2 W hL h2)
  have hn : I64 (sml x1.data.toList).1 := sml_64 _
  have hm : I64 (sml x2.data.toList).1 := sml_64 _
  generalize sml x1.data.toList = y at *
  generalize sml x2.data.toList = z at *
  obtain ⟨n, e⟩ := y
  obtain ⟨m, e'⟩ := z
  have hlen := R.few.lenF
  by_cases he : e = 0
  · subst he
    go_enter Tryz.func85, Tryz.ntmps85
    go_wp2_with (first
      | (go_at_call 114; ((with_reducible refine (cS.out _ R1.lie).mono ?_); rintro e W2 ⟨rfl, b2⟩; have R2 := R1.below b2; have w2 := (hw1.below b2).cell 2 _ rfl; have f2 := f1.trans (Frm.below R1.hi b2)))
      | (go_at_call 114; ((with_reducible refine (cT.out _ R2.lie).mono ?_); rintro e W3 ⟨rfl, b3⟩; have R3 := R2.below b3; have d3 : W3.cell? ⟨r, 3, none⟩ = some (.slice p.fa p.funcs.length p.fcap) := R3.cell 3; have fz3 := R3.blk.fr; have f3 := f2.trans (Frm.below R2.hi b3)))
      | (at_builtin; refine wpList_app (R3.rows.perm (rows_func p)) R3.hi rfl _ _ _ rfl (Fn.new n m).cs 45 rfl (.agg #[.int .i64 0, .int .i64 0, .slice none 0 0, .slice none 0 0]) 64 Tryz.underlying24 info_fn rfl (Nat.succ_pos _) rfl rfl rfl (by simp [Vr.cs, Fn.cs, Sel.cs, Cas.cs, Ins.cs, Fn.new, Value.oneCell']) (by show (p.funcs.length + 1) * 64 ≤ _; omega) (by show p.funcs.length + 1 ≤ _; omega) ?_; intro g2 cap2 W4 k1 k2 k3 k4 k5; have far := R3.far (by simp [Pg.rows]) k2; have d4 : W4.cell? ⟨r, 3, none⟩ = some (.slice p.fa p.funcs.length p.fcap) := far.1.cell 3; have fz4 := far.1.fr))
    obtain ⟨R5, f5⟩ := R3.func hn hm k1 k2
    go_ret
    exact ⟨rfl, f3.trans f5, _, by simp [Pg.bare, taken, Fn.new, Fn.bare], R5⟩
  · go_enter Tryz.func85, Tryz.ntmps85
    go_wp2_with (go_at_call 114; ((with_reducible refine (cS.out _ R1.lie).mono ?_); rintro e W2 ⟨rfl, b2⟩; have R2 := R1.below b2; have f2 := f1.trans (Frm.below R1.hi b2)))
    go_ret
    first
      | exact ⟨rfl, f2⟩
      | exact ⟨by rw [if_pos he]; rfl, f2⟩
      | exact ⟨by rw [if_pos he]; rfl, f2, fun q => absurd q he⟩
def bytes_atomic : ByteArray := ⟨#[97, 116, 111, 109, 105, 99]⟩
set_option maxHeartbeats 8000000 in
set_option maxRecDepth 100000 in
theorem variable_walk (w0 : World) (n0 r N g cap : Nat) (p : Pg) (a : Int) (W : World) (x0 x1 : ByteArray) (R : Rd w0 n0 r N p a W) (hw : Ws n0 r g [x0, x1] W) (hg : ∀ row ∈ p.rows, row.blk ≠ some g) (h1 : x1.size ≤ 281474976710656) (hc : 2 ≤ cap) (hN : N ≤ 1000000) :
    Calls Tryz.prog 81 #[.pointer (some ⟨r, 0, none⟩), .slice (some ⟨g, 0, none⟩) 2 cap] W fun e w' => e = .returned (.int .i64 (nmb x1.data.toList).2) ∧ Frm n0 r W w' ∧
      ∃ p', p'.bare = { p.bare with vars := p.vars ++ [⟨x0.toList == [97, 116, 111, 109, 105, 99], (nmb x1.data.toList).1⟩] } ∧ Rd w0 n0 r (N + 1) p' a w' := by
  have w1 := hw.cell 1 _ rfl
  have cS := Lib.hid (fun W hL => nmb_walk x1 W hL h1)
  have hn : I64 (nmb x1.data.toList).1 := nmb_64 _
  generalize nmb x1.data.toList = y at *
  obtain ⟨n, e⟩ := y
  have hlen := R.few.lenV
  go_enter Tryz.func81, Tryz.ntmps81
  go_wp2_with (go_at_call 113; ((with_reducible refine (cS.out _ R.lie).mono ?_); rintro e W2 ⟨rfl, b2⟩))
  have b3 : Below W.heap.size W W2.drew := b2.drew
  have R3 := R.below b3
  have f3 := Frm.below (r := r) R.hi b3
  have w3 := hw.below b3
  have c0 : W2.cell? ⟨r, 0, none⟩ = some (.slice p.va p.vars.length p.vcap) := R3.cell 0
  have c1 : ∀ x y, (W2.alloc (.cells #[x, y] 83)).cell? ⟨r, 0, none⟩ = some (.slice p.va p.vars.length p.vcap) := fun x y => (R3.below ((Below.refl _ _).alloc (Nat.le_refl _) _)).cell 0
  have c2 : W2.cell? ⟨g, 0, none⟩ = some (.string x0) := w3.cell 0 _ rfl
  go_region_law ((refine step_app R3.rows R3.hi rfl _ _ _ (by rfl) [.bool (x0.toList == [97, 116, 111, 109, 105, 99]), .int .i64 n] 83 (by rfl) (.agg #[.bool false, .int .i64 0]) 16 Tryz.underlying22 info_var rfl (Nat.succ_pos _) (by rfl) (by rfl) rfl (by simp [Value.oneCell']) (by show (p.vars.length + 1) * 16 ≤ _; omega) (by show p.vars.length + 1 ≤ _; omega) ?_; intro g2 cap2 W4 k1 k2 k3 k4 k5; have far := R3.far (by simp [Pg.rows]) k2; have fz4 := far.1.fr; have d4 : W4.cell? ⟨r, 0, none⟩ = some (.slice p.va p.vars.length p.vcap) := far.1.cell 0))
  all_goals go_wp2
  all_goals obtain ⟨R5, f5⟩ := R3.var (x := ⟨x0.toList == [97, 116, 111, 109, 105, 99], n⟩) hn k1 k2
  all_goals go_ret
  all_goals exact ⟨rfl, f3.trans f5, _, rfl, R5⟩
end Go.Proofs.YtlhhmlfcodmebaaGreatDoor.Pg
