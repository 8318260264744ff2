/- Several texts of one proof, one behind the other. Two little texts read, plainly and walked. No condition but the table and the variables as listed. | The law's little texts, walked. No condition but the table and the variables as listed. -/
import Derived.Test.YtlhhmlfcodmebaaGreatDoorZVp
namespace Go.Proofs.YtlhhmlfcodmebaaGreatDoor.Pg
set_option linter.unusedVariables false
set_option linter.unusedSimpArgs false
open Go.RowKit Go.WideShapes Go.ChangeShapes
open Go.Proofs.YtlhhmlfcodmebaaGreatDoor.Wd (num wrd)
open Go.Proofs.YtlhhmlfcodmebaaGreatDoor.Num Go.Lib
set_option linter.unusedVariables false
set_option linter.unusedSimpArgs false
theorem itoa_zero : itoa 0 = [48] := by
  simp [itoa, decDigits]
theorem num_zero : num [48] = (0, true) := by
  have h := parse_itoa 0 (by decide) (by decide)
  rw [itoa_zero] at h
  unfold num
  rw [h]
  simp only [itoa_zero, if_pos]
def little : Pg := ⟨none, 0, [], 0, none, 0, [], none, 0, [⟨0, 0, none, 0, [⟨45, 0, 0, 0, 0⟩], none, 0, []⟩]⟩
def sLit : List UInt8 := [115, 99, 97, 114, 97, 98, 10, 102, 117, 110, 99, 32, 48, 32, 48, 10, 101, 110, 100]
def sVar : List UInt8 := [118, 97, 114, 32, 49]
theorem vals_func : vals [78, 78] [[48], [48]] = ([0, 0], 0) := by
  have h : val 78 [48] = (0, 0) := by
    unfold val sml
    rw [num_zero]
    rfl
  unfold vals vals vals
  rw [h]
  rfl
theorem prs_little : prs sLit = (little, 0, 0) := by
  have h1 : lns sLit [] = [[115, 99, 97, 114, 97, 98], [102, 117, 110, 99, 32, 48, 32, 48], [101, 110, 100]] := by decide
  have w1 : wrd [115, 99, 97, 114, 97, 98] [] = [[115, 99, 97, 114, 97, 98]] := by decide
  have w2 : wrd [102, 117, 110, 99, 32, 48, 32, 48] [] = [[102, 117, 110, 99], [48], [48]] := by decide
  have w3 : wrd [101, 110, 100] [] = [[101, 110, 100]] := by decide
  have k1 : kind [115, 99, 97, 114, 97, 98] = 1 := by decide
  have k2 : kind [102, 117, 110, 99] = 6 := by decide
  have k3 : kind [101, 110, 100] = 10 := by decide
  have o1 : opOf [115, 99, 97, 114, 97, 98] = 0 := by decide
  have o2 : opOf [102, 117, 110, 99] = 0 := by decide
  have o3 : opOf [101, 110, 100] = 45 := by decide
  have l3 : lets 10 45 = [] := by decide
  have hr : reads (lns sLit []) Pg.no 0 0 = ((little, 10), 0, 0) := by
    rw [h1, reads_cons, w1, bad_cons, good_cons, k1, o1, if_neg (by decide), reads_cons, w2, bad_cons, good_cons, k2, o2]
    rw [show lets 6 0 = [78, 78] from rfl, vals_func, if_neg (by decide), reads_cons, w3, bad_cons, good_cons, k3, o3, l3, if_neg (by decide)]
    rfl
  unfold prs
  rw [hr, if_neg (by decide), if_neg (by decide), if_neg (by decide), if_neg (by decide)]
theorem prs_var : prs sVar = (Pg.no, 53, 1) := by
  have h1 : lns sVar [] = [sVar] := by decide
  have w1 : wrd sVar [] = [[118, 97, 114], [49]] := by decide
  have k1 : kind [118, 97, 114] = 2 := by decide
  have hr : reads (lns sVar []) Pg.no 0 0 = ((Pg.no, 0), 53, 1) := by
    rw [h1, reads_cons, w1, bad_cons, good_cons, k1, if_pos (by decide)]
    rfl
  unfold prs
  rw [hr, if_neg (by decide), if_pos (by decide)]
  rfl
end Go.Proofs.YtlhhmlfcodmebaaGreatDoor.Pg
namespace Go.Proofs.YtlhhmlfcodmebaaGreatDoor.Pg
set_option linter.unusedVariables false
set_option linter.unusedSimpArgs false
open Go.RowKit Go.WideShapes Go.ChangeShapes
set_option linter.unusedVariables false
set_option linter.unusedSimpArgs false
theorem bare_little {p : Pg} (h : p.bare = little) : p.vars.length = 0 ∧ p.locks = 0 ∧ p.chans.length = 0 ∧ ∃ f, p.funcs = [f] ∧ f.code.length = 1 := by
  have h1 : p.vars = [] := congrArg Pg.vars h
  have h2 : p.locks = 0 := congrArg Pg.locks h
  have h3 : p.chans = [] := congrArg Pg.chans h
  have h4 : p.funcs.map Fn.bare = [⟨0, 0, none, 0, [⟨45, 0, 0, 0, 0⟩], none, 0, []⟩] := congrArg Pg.funcs h
  refine ⟨by rw [h1]; rfl, h2, by rw [h3]; rfl, ?_⟩
  cases hf : p.funcs with
  | nil => rw [hf] at h4; cases h4
  | cons f l =>
    rw [hf] at h4
    simp only [List.map_cons, List.cons.injEq, List.map_eq_nil_iff] at h4
    obtain ⟨e, rfl⟩ := h4
    have : f.code = [⟨45, 0, 0, 0, 0⟩] := congrArg Fn.code e
    exact ⟨f, rfl, by rw [this]; rfl⟩
theorem parse_little (w : World) (hL : Wd.Lies w) : Calls Tryz.prog 10 #[.string ⟨#[115, 99, 97, 114, 97, 98, 10, 102, 117, 110, 99, 32, 48, 32, 48, 10, 101, 110, 100]⟩] w fun e w' =>
    (∃ va vc ha hc b o fc ca cc, e = .returned (.tuple #[.agg #[.slice va 0 vc, .int .i64 0, .slice ha 0 hc, .slice (some ⟨b, o, none⟩) 1 fc], .int .i64 0, .int .i64 0]) ∧ b < w'.heap.size ∧ w'.cell? ⟨b, o + 2, none⟩ = some (.slice ca 1 cc)) ∧ Below w.heap.size w w' := by
  refine (parse_any _ w hL).mono ?_
  rintro e w' ⟨p, rfl, hp, hI, hB⟩
  have hpr : prs (⟨#[115, 99, 97, 114, 97, 98, 10, 102, 117, 110, 99, 32, 48, 32, 48, 10, 101, 110, 100]⟩ : ByteArray).data.toList = (little, 0, 0) := prs_little
  rw [hpr] at hp ⊢
  refine ⟨?_, hB⟩
  obtain ⟨h1, h2, h3, f, hf, hc⟩ := bare_little hp
  obtain ⟨b, o, hfa, hlt, hat⟩ := hI.func (by rw [hf]; exact Nat.succ_pos _)
  have h0 := hat 0 f (by rw [hf]; rfl)
  have h22 := h0 2 (.slice f.ca 1 f.ccap) (by rw [← hc]; rfl)
  refine ⟨p.va, p.vcap, p.ha, p.hcap, b, o, p.fcap, f.ca, f.ccap, ?_, hlt, by simpa using h22⟩
  unfold Pg.v
  rw [h1, h2, h3, hf, hfa]
  rfl
theorem parse_var (w : World) (hL : Wd.Lies w) : Calls Tryz.prog 10 #[.string ⟨#[118, 97, 114, 32, 49]⟩] w fun e w' =>
    (∃ va vn vc l ha hn hc fa fc, e = .returned (.tuple #[.agg #[.slice va vn vc, .int .i64 l, .slice ha hn hc, .slice fa 0 fc], .int .i64 53, .int .i64 1])) ∧ Below w.heap.size w w' := by
  refine (parse_any _ w hL).mono ?_
  rintro e w' ⟨p, rfl, hp, hI, hB⟩
  have hpr : prs (⟨#[118, 97, 114, 32, 49]⟩ : ByteArray).data.toList = (Pg.no, 53, 1) := prs_var
  rw [hpr] at hp ⊢
  refine ⟨?_, hB⟩
  have h4 : p.funcs.map Fn.bare = [] := congrArg Pg.funcs hp
  have h5 : p.funcs.length = 0 := by rw [List.map_eq_nil_iff.1 h4]; rfl
  refine ⟨p.va, p.vars.length, p.vcap, p.locks, p.ha, p.chans.length, p.hcap, p.fa, p.fcap, ?_⟩
  unfold Pg.v
  rw [h5]
theorem after1 (w w' : World) (hL : Wd.Lies w) (hB : Below w.heap.size w w') (b o : Nat) (v : Value) (hb : b < w'.heap.size) (hc : w'.cell? ⟨b, o + 2, none⟩ = some v) (arr : Array Value) : Wd.Lies (w'.alloc (.cells arr 26)) ∧ ∀ w2, Below (w'.heap.size + 1) (w'.alloc (.cells arr 26)) w2 → (∀ O, Blk w'.heap.size arr (w2.alloc O)) ∧ (∀ O, (w2.alloc O).cell? ⟨b, o + 2, none⟩ = some v) := by
  have h1 : Below w'.heap.size w' (w'.alloc (.cells arr 26)) := Below.alloc (Below.refl _ _) (Nat.le_refl _) _
  refine ⟨(hL.below hB).below h1, fun w2 h2 => ?_⟩
  have e : w'.heap.size + 1 = (w'.alloc (.cells arr 26)).heap.size := (World.size_alloc _ _).symm
  rw [e] at h2
  refine ⟨fun O => ((Blk.new w' arr _).below h2).alloc O, fun O => ?_⟩
  have h3 : Below w2.heap.size w2 (w2.alloc O) := Below.alloc (Below.refl _ _) (Nat.le_refl _) _
  rw [h3.cell (by have := h2.size; simp at this ⊢; omega), h2.cell (by simp; omega), h1.cell (by simpa using hb)]
  exact hc
set_option maxHeartbeats 4000000 in
set_option maxRecDepth 100000 in
theorem small_true (w : World) (hL : Wd.Lies w) : Calls Tryz.prog 13 #[] w fun e w' => e = .returned (.bool true) ∧ Below w.heap.size w w' := by
  have c1 := Lib.hid (parse_little w hL)
  have c2 := Lib.hid (fun W h => parse_var W h)
  replace hL := Lib.hid hL
  go_enter Tryz.func13, Tryz.ntmps13
  go_wp2_with (first
    | (go_at_call 10; refine (c2.out _ (hA.out _).1).mono ?_; rintro e w2 ⟨⟨va2, vn2, vc2, l2, ha2, hn2, hc2, fa2, fc2, rfl⟩, hB2⟩; obtain ⟨hq1, hq2⟩ := (hA.out _).2 w2 (by simpa using hB2); have hq3 := fun O => (hq1 O).cell; have hE := Lib.hid (Below.alloc hB.out (Nat.le_trans (Nat.le_refl _) hB.out.size)); replace hB2 := Lib.hid hB2; clear hq1 hA)
    | (go_at_call 10; refine (c1.out).mono ?_; rintro e w' ⟨⟨va, vc, ha, hc, b, o, fc, ca, cc, rfl, hb, hcell⟩, hB⟩; have hA := Lib.hid (after1 w w' hL.out hB b o _ hb hcell); replace hB := Lib.hid hB))
  go_ret
  have hA1 := Below.alloc hB.out hB.out.size (.cells #[.slice va 0 vc, .int .i64 0, .slice ha 0 hc, .slice (some ⟨b, o, none⟩) 1 fc] 26)
  have hA2 := hA1.trans (hB2.out.mono (by have := hA1.size; simpa using this))
  exact ⟨rfl, Below.alloc hA2 hA2.size _⟩
end Go.Proofs.YtlhhmlfcodmebaaGreatDoor.Pg
