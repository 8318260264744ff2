/- Several texts of one proof, one behind the other. The checker of programs, walked: sizes. | The checker of programs, walked: a program's sizes, and all. | The checker of programs, walked: all of it. -/
import Derived.Test.YtlhhmlfcodmebaaGreatDoorZC4
namespace Go.Proofs.YtlhhmlfcodmebaaGreatDoor.Pg
set_option linter.unusedVariables false
set_option linter.unusedSimpArgs false
open Go.ChangeShapes Go.WideShapes Go.RowKit
theorem all_take {α : Type} (g : α → Bool) (l : List α) (k : Nat) (h : k < l.length) : (l.take (k + 1)).all g = ((l.take k).all g && g l[k]) := by
  rw [List.take_succ_eq_append_getElem h, List.all_append]
  simp
/-- The sizes but for the selects'. -/
def szb (f : Fn) (main : Bool) : Bool := decide (0 ≤ f.regs ∧ f.regs ≤ 8 ∧ 0 ≤ f.params ∧ f.params ≤ f.regs ∧ ¬ (main = true ∧ f.params ≠ 0) ∧ 1 ≤ f.code.length ∧ f.code.length ≤ 64 ∧ f.sels.length ≤ 4)
def few (s : Sel) : Bool := decide (1 ≤ s.cases.length ∧ s.cases.length ≤ 4)
theorem szs_eq (f : Fn) (main : Bool) : szs f main = (szb f main && f.sels.all few) := rfl
set_option maxHeartbeats 8000000 in
set_option maxRecDepth 100000 in
theorem sizes_walk (f : Fn) (main : Bool) (w : World) (I : f.In w) : Calls Tryz.prog 57 #[f.v, .bool main] w fun e w' => e = .returned (.int .i64 (if szs f main = true then 0 else 32)) ∧ Below w.heap.size w w' := by
  obtain ⟨r, hr⟩ : ∃ r, Hid (r = (if szs f main = true then 0 else 32 : Int)) := ⟨_, Lib.hid rfl⟩
  rw [← hr.out]
  unfold Fn.v
  have hls := I.lenS
  have hlc := I.lenC
  unfold Len at hls hlc
  obtain ⟨p0, p1⟩ := I.par
  obtain ⟨q0, q1⟩ := I.reg
  obtain ⟨b0, hb0⟩ : ∃ b0, Hid (b0 = szb f main) := ⟨_, Lib.hid rfl⟩
  have hrb : Hid (r = if (b0 && f.sels.all few) = true then 0 else 32) := Lib.hid (by rw [hr.out, szs_eq, hb0.out])
  cases main
  all_goals go_enter Tryz.func57, Tryz.ntmps57
  all_goals go_wp2
  all_goals go_loopw [5, 59] (fun v i wr => ∃ k : Nat, k ≤ f.sels.length ∧ i = .int .i64 k ∧ Below w.heap.size w wr ∧ ∃ b : Bool, v = .bool b ∧ Hid (b = (b0 && (f.sels.take k).all few))) (fun _ i _ => f.sels.length - (intOf i).toNat)
  all_goals first
    | (case' atStart => (refine ⟨0, by omega, rfl, (by repeat (first | (with_reducible exact Below.refl _ _) | (with_reducible refine Below.drew ?_) | (with_reducible refine below_drewN ?_ _) | (with_reducible refine Below.alloc ?_ (by first | omega | (simp <;> omega)) _))), _, rfl, Lib.hid ?_⟩; rw [hb0.out]; unfold szb; first | (simp; done) | (simp; omega) | (rw [Bool.eq_iff_iff]; simp; omega)))
    | skip
  all_goals
    obtain ⟨k, hk, rfl, acc, b, rfl, hb⟩ := hrel
    have hsz := acc.size
    by_cases hkl : k < f.sels.length
    · obtain ⟨sb, so, hsa, hsl, hS⟩ := I.sel (by omega)
      have s0 := hS k f.sels[k] (by simp) 0 _ rfl
      have s1 := hS k f.sels[k] (by simp) 1 _ rfl
      have hin := I.sels f.sels[k] (List.getElem_mem _)
      have hlc := hin.len
      unfold Len at hlc
      have hat := all_take few f.sels k hkl
      have hfew : few f.sels[k] = decide (1 ≤ f.sels[k].cases.length ∧ f.sels[k].cases.length ≤ 4) := rfl
      rw [← acc.cell (by simpa using hsl)] at s0 s1
      have hsl' := Nat.lt_of_lt_of_le hsl acc.size
      simp only [Nat.add_zero] at s0
      generalize few f.sels[k] = g at *
      generalize f.sels[k] = s at *
      have hat' := Lib.hid hat
      have hfew' := Lib.hid hfew
      clear hS hat hfew
      rw [hsa]
      cases b
      · go_wp2
        go_roundw
        case rel => exact ⟨k + 1, by omega, by go_num, by repeat (first | assumption | (with_reducible refine Below.drew ?_) | (with_reducible refine below_drewN ?_ _) | (with_reducible refine Below.alloc ?_ (by first | omega | (simp <;> omega)) _)), false, rfl, Lib.hid (by rw [hat'.out, ← Bool.and_assoc, ← hb.out]; rfl)⟩
        case measure => simp [intOf]; omega
      · by_cases g1 : 1 ≤ s.cases.length ∧ s.cases.length ≤ 4
        · have hg : g = true := by rw [hfew'.out]; simpa using g1
          obtain ⟨g1, g2⟩ := g1
          go_wp2
          go_roundw
          case rel => exact ⟨k + 1, by omega, by go_num, by repeat (first | assumption | (with_reducible refine Below.drew ?_) | (with_reducible refine below_drewN ?_ _) | (with_reducible refine Below.alloc ?_ (by first | omega | (simp <;> omega)) _)), true, by first | rfl | (simp; omega), Lib.hid (by rw [hat'.out, ← Bool.and_assoc, ← hb.out, hg]; rfl)⟩
          case measure => simp [intOf]; omega
        · have hg : g = false := by rw [hfew'.out]; simpa using g1
          go_wp2
          all_goals go_roundw
          all_goals first
            | exact ⟨k + 1, by omega, by go_num, by repeat (first | assumption | (with_reducible refine Below.drew ?_) | (with_reducible refine below_drewN ?_ _) | (with_reducible refine Below.alloc ?_ (by first | omega | (simp <;> omega)) _)), _, rfl, Lib.hid (by rw [hat'.out, ← Bool.and_assoc, ← hb.out, hg]; simp; omega)⟩
            | exact ⟨k + 1, by omega, by go_num, by repeat (first | assumption | (with_reducible refine Below.drew ?_) | (with_reducible refine below_drewN ?_ _) | (with_reducible refine Below.alloc ?_ (by first | omega | (simp <;> omega)) _)), false, rfl, Lib.hid (by rw [hat'.out, ← Bool.and_assoc, ← hb.out, hg]; rfl)⟩
            | (simp [intOf]; omega)
    · have hkk : f.sels.take k = f.sels := List.take_of_length_le (by omega)
      rw [hkk] at hb
      rw [← hb.out] at hrb
      cases b
      · have hrv : r = 32 := hrb.out
        clear hrb hr
        go_wp2
        go_ret
        exact ⟨by rw [hrv]; rfl, by repeat (first | assumption | (with_reducible refine Below.drew ?_) | (with_reducible refine below_drewN ?_ _) | (with_reducible refine Below.alloc ?_ (by first | omega | (simp <;> omega)) _))⟩
      · have hrv : r = 0 := hrb.out
        clear hrb hr
        go_wp2
        go_ret
        exact ⟨by rw [hrv]; rfl, by repeat (first | assumption | (with_reducible refine Below.drew ?_) | (with_reducible refine below_drewN ?_ _) | (with_reducible refine Below.alloc ?_ (by first | omega | (simp <;> omega)) _))⟩
end Go.Proofs.YtlhhmlfcodmebaaGreatDoor.Pg
namespace Go.Proofs.YtlhhmlfcodmebaaGreatDoor.Pg
set_option linter.unusedVariables false
set_option linter.unusedSimpArgs false
open Go.ChangeShapes Go.WideShapes Go.RowKit
theorem all_drop {α : Type} (g : α → Bool) (l : List α) (k : Nat) (h : k < l.length) : (l.drop k).all g = (g l[k] && (l.drop (k + 1)).all g) := by
  rw [List.drop_eq_getElem_cons h]; rfl
def cap4 (n : Int) : Bool := decide (0 ≤ n ∧ n ≤ 4)
set_option maxHeartbeats 8000000 in
set_option maxRecDepth 100000 in
theorem whole_walk (P : Pg) (w : World) (I : P.In w) : Calls Tryz.prog 56 #[P.v] w fun e w' => e = .returned (.int .i64 (whole P)) ∧ Below w.heap.size w w' := by
  obtain ⟨r, hr⟩ : ∃ r, Hid (r = whole P) := ⟨_, Lib.hid rfl⟩
  rw [← hr.out]
  unfold Pg.v
  have hlv := I.lenV
  have hlh := I.lenH
  have hlf := I.lenF
  unfold Len at hlv hlh hlf
  by_cases h : P.vars.length ≤ 8 ∧ 0 ≤ P.locks ∧ P.locks ≤ 4 ∧ P.chans.length ≤ 4 ∧ 1 ≤ P.funcs.length ∧ P.funcs.length ≤ 8
  · have hw : r = if P.chans.all cap4 = true then 0 else 31 := by rw [hr.out]; unfold whole; rw [if_pos h]; rfl
    have hw' := Lib.hid hw
    clear hw hr
    obtain ⟨h1, h2, h3, h4, h5, h6⟩ := h
    go_enter Tryz.func56, Tryz.ntmps56
    go_wp2
    go_loopw [40] (fun i wr => ∃ k : Nat, k ≤ P.chans.length ∧ i = .int .i64 k ∧ Below w.heap.size w wr ∧ Hid (r = if (P.chans.drop k).all cap4 = true then 0 else 31)) (fun i _ => P.chans.length - (intOf i).toNat)
    case atStart => exact ⟨0, by omega, rfl, (by repeat (first | (with_reducible exact Below.refl _ _) | (with_reducible refine Below.drew ?_) | (with_reducible refine below_drewN ?_ _) | (with_reducible refine Below.alloc ?_ (by first | omega | (simp <;> omega)) _))), Lib.hid hw'.out⟩
    case round =>
      obtain ⟨k, hk, rfl, acc, hq⟩ := hrel
      have hsz := acc.size
      by_cases hkl : k < P.chans.length
      · obtain ⟨hb, ho, hha, hhl, hH⟩ := I.chan (by omega)
        have z0 := hH k P.chans[k] (by simp)
        have hd := all_drop cap4 P.chans k hkl
        rw [← acc.cell (by simpa using hhl)] at z0
        have hhl' := Nat.lt_of_lt_of_le hhl acc.size
        clear hH
        rw [hd] at hq
        generalize P.chans[k] = z at *
        rw [hha]
        by_cases hz : 0 ≤ z ∧ z ≤ 4
        · have hc : cap4 z = true := by unfold cap4; simpa using hz
          rw [hc, Bool.true_and] at hq
          obtain ⟨z1, z2⟩ := hz
          clear hc hd
          go_wp2
          all_goals first
            | (exfalso; omega)
            | (go_roundw
               case rel => exact ⟨k + 1, by omega, by go_num, by repeat (first | assumption | (with_reducible exact Below.refl _ _) | (with_reducible refine Below.drew ?_) | (with_reducible refine below_drewN ?_ _) | (with_reducible refine Below.alloc ?_ (by first | omega | (simp <;> omega)) _)), hq⟩
               case measure => simp [intOf]; omega)
        · have hc : cap4 z = false := by unfold cap4; simpa using hz
          rw [hc, Bool.false_and] at hq
          have hrv := Lib.hid (show r = 31 from hq.out)
          clear hc hd hq
          go_wp2
          all_goals first
            | (exfalso; omega)
            | (go_ret; exact ⟨by rw [hrv.out]; rfl, by repeat (first | assumption | (with_reducible exact Below.refl _ _) | (with_reducible refine Below.drew ?_) | (with_reducible refine below_drewN ?_ _) | (with_reducible refine Below.alloc ?_ (by first | omega | (simp <;> omega)) _))⟩)
      · rw [List.drop_eq_nil_of_le (by omega)] at hq
        have hrv := Lib.hid (show r = 0 from hq.out)
        clear hq
        go_wp2
        go_ret
        exact ⟨by rw [hrv.out]; rfl, by repeat (first | assumption | (with_reducible exact Below.refl _ _) | (with_reducible refine Below.drew ?_) | (with_reducible refine below_drewN ?_ _) | (with_reducible refine Below.alloc ?_ (by first | omega | (simp <;> omega)) _))⟩
  · have hw : r = 30 := by rw [hr.out]; unfold whole; rw [if_neg h]
    have hw' := Lib.hid hw
    clear hw hr
    go_enter Tryz.func56, Tryz.ntmps56
    go_wp2
    all_goals first
      | (exfalso; omega)
      | (go_ret; exact ⟨by rw [hw'.out]; rfl, by repeat (first | assumption | (with_reducible exact Below.refl _ _) | (with_reducible refine Below.drew ?_) | (with_reducible refine below_drewN ?_ _) | (with_reducible refine Below.alloc ?_ (by first | omega | (simp <;> omega)) _))⟩)
end Go.Proofs.YtlhhmlfcodmebaaGreatDoor.Pg
namespace Go.Proofs.YtlhhmlfcodmebaaGreatDoor.Pg
set_option linter.unusedVariables false
set_option linter.unusedSimpArgs false
open Go.ChangeShapes Go.WideShapes Go.RowKit
/-- What the checker hands back. -/
def chkV (n : Int) (v : Value) : Prop := ∃ a b : Int, v = .tuple #[.int .i64 n, .agg #[.int .i64 a, .int .i64 b]]
theorem Blk.ck {W : World} {B : Nat} {P : Pg} {f : Fn} (h : Blk B #[.slice P.va P.vars.length P.vcap, .int .i64 P.locks, .slice P.ha P.chans.length P.hcap, .slice P.fa P.funcs.length P.fcap, .int .i64 f.params, .int .i64 f.regs, .slice f.ca f.code.length f.ccap, .slice f.sa f.sels.length f.scap] W) (I : P.In W) (J : f.In W) : Ck W B P f := ⟨h.cell 0, h.cell 1, h.cell 2, h.cell 3, h.cell 4, h.cell 5, h.cell 6, h.cell 7, h.lt, I, J⟩
theorem fncs_drop (P : Pg) (l : List Fn) (k : Nat) (h : k < l.length) : fncs P ((k : Int) == 0) (l.drop k) = if fnc P l[k] ((k : Int) == 0) = 0 then fncs P (((k + 1 : Nat) : Int) == 0) (l.drop (k + 1)) else fnc P l[k] ((k : Int) == 0) := by
  rw [List.drop_eq_getElem_cons h, show (((k + 1 : Nat) : Int) == 0) = false by simp; omega]; rfl
set_option maxHeartbeats 12000000 in
set_option maxRecDepth 100000 in
theorem check_walk (P : Pg) (w : World) (I : P.In w) : Calls Tryz.prog 26 #[P.v] w fun e w' => (∃ v, e = .returned v ∧ chkV (chk P) v) ∧ Below w.heap.size w w' := by
  obtain ⟨r, hr⟩ : ∃ r, Hid (r = chk P) := ⟨_, Lib.hid rfl⟩
  rw [← hr.out]
  have cW := Lib.hid (fun W (hb : Below w.heap.size w W) => whole_walk P W (I.below hb))
  have hlf := I.lenF
  unfold Len at hlf
  by_cases hwh : whole P = 0
  · have hw := Lib.hid (show r = fncs P (((0 : Nat) : Int) == 0) (P.funcs.drop 0) by rw [hr.out]; unfold chk; rw [if_pos hwh]; rfl)
    rw [hwh] at cW
    have cS := Lib.hid (fun f m W (J : Fn.In W f) => sizes_walk f m W J)
    unfold Pg.v at *
    unfold Fn.v at cS
    clear hr hwh
    go_enter Tryz.func26, Tryz.ntmps26
    have E0 := ((Env.nil (w := w)).push w.heap.size rfl #[.slice P.va P.vars.length P.vcap, .int .i64 P.locks, .slice P.ha P.chans.length P.hcap, .slice P.fa P.funcs.length P.fcap] 26).push (w.heap.size + 1) (by simp) #[.int .i64 0, .int .i64 0] 69
    go_wp2_with ((go_at_call 56; ((with_reducible refine (cW.out _ (by repeat (first | (with_reducible exact Below.refl _ _) | (with_reducible refine Below.drew ?_) | (with_reducible refine below_drewN ?_ _) | (with_reducible refine Below.alloc ?_ (by first | omega | (simp <;> omega)) _)))).mono ?_); rintro e w' ⟨rfl, hb1⟩)); have E1 := E0.next hb1; have y0 := E1.tl.h0.cell; have y1 := E1.h0.cell; have l0 := E1.tl.h0.lt; have l1 := E1.h0.lt)
    go_loopw [23] (fun i wr => ∃ k : Nat, k ≤ P.funcs.length ∧ i = .int .i64 k ∧ Env w [(w.heap.size + 1, #[.int .i64 0, .int .i64 0]), (w.heap.size, #[.slice P.va P.vars.length P.vcap, .int .i64 P.locks, .slice P.ha P.chans.length P.hcap, .slice P.fa P.funcs.length P.fcap])] wr ∧ Hid (r = fncs P ((k : Int) == 0) (P.funcs.drop k))) (fun i _ => P.funcs.length - (intOf i).toNat)
    case atStart => exact ⟨0, by omega, rfl, E1, hw⟩
    case round =>
      clear E0 y0 y1 l0 l1 E1 hb1 cW hw
      obtain ⟨k, hk, rfl, E1, hq⟩ := hrel
      have y0 := E1.tl.h0.cell; have y1 := E1.h0.cell; have l0 := E1.tl.h0.lt; have l1 := E1.h0.lt; have z1 := E1.h0.fr
      have acc := E1.acc
      have hsz := acc.size
      by_cases hkl : k < P.funcs.length
      · obtain ⟨fb, fo, hfa, hfl, hF⟩ := I.func (by omega)
        have s0 := hF k P.funcs[k] (by simp) 0 _ rfl
        have s1 := hF k P.funcs[k] (by simp) 1 _ rfl
        have s2 := hF k P.funcs[k] (by simp) 2 _ rfl
        have s3 := hF k P.funcs[k] (by simp) 3 _ rfl
        have J := I.funcs P.funcs[k] (List.getElem_mem _)
        have hfd := fncs_drop P P.funcs k hkl
        generalize P.funcs[k] = f at *
        rw [← acc.cell (by simpa using hfl)] at s0 s1 s2 s3
        have hfl' := Nat.lt_of_lt_of_le hfl acc.size
        simp only [Nat.add_zero] at s0
        rw [hfd] at hq
        clear hF hfd
        rw [hfa]
        rw [hfa] at y0
        by_cases hs : szs f ((k : Int) == 0) = true
        · have hr : 0 ≤ f.regs ∧ f.regs ≤ 8 := by unfold szs at hs; simp at hs; omega
          have hcl : 1 ≤ f.code.length := by unfold szs at hs; simp at hs; omega
          have cS' := Lib.hid (fun W (hb : Below w.heap.size w W) => cS.out f ((k : Int) == 0) W (J.below hb))
          rw [hs] at cS'
          have hq' := Lib.hid (show r = if fnc P f ((k : Int) == 0) = 0 then fncs P (((k + 1 : Nat) : Int) == 0) (P.funcs.drop (k + 1)) else fnc P f ((k : Int) == 0) from hq.out)
          have hfn : fnc P f ((k : Int) == 0) = if firstE (sel P f) f.sels = 0 then (if firstE (ins P f) f.code = 0 then (if lastOp f = 42 ∨ lastOp f = 45 ∨ lastOp f = 61 then 0 else 39) else firstE (ins P f) f.code) else firstE (sel P f) f.sels := if_pos hs
          have hfn' := Lib.hid hfn
          have cL := Lib.hid (fun B W (C : Ck W B P f) => selects_walk B P f W C)
          have cI := Lib.hid (fun x B W (C : Ck W B P f) (hx : x.ok) => instr_walk x B P f W C hr hx)
          unfold Ins.v at cI
          have hlc := J.lenC
          unfold Len at hlc
          clear hq hs cS hfn hr
          by_cases hse : firstE (sel P f) f.sels = 0
          rotate_left
          · have hrv := Lib.hid (show r = firstE (sel P f) f.sels by rw [hq'.out, hfn'.out, if_neg hse, if_neg hse])
            have hsb : (firstE (sel P f) f.sels != 0) = true := by simpa using hse
            clear hse
            go_wp2_with (first
              | (go_at_call 57; ((with_reducible refine (cS'.out _ (by repeat (first | assumption | (with_reducible exact Below.refl _ _) | (with_reducible refine Below.drew ?_) | (with_reducible refine below_drewN ?_ _) | (with_reducible refine Below.alloc ?_ (by first | omega | (simp <;> omega)) _) | (with_reducible refine Below.setCell ?_ (by simp only; omega) _)))).mono ?_); rintro e w' ⟨rfl, hb1⟩)); have E2 := (E1.push wr.heap.size rfl #[.int .i64 f.params, .int .i64 f.regs, .slice f.ca f.code.length f.ccap, .slice f.sa f.sels.length f.scap] 45).next hb1; have y0 := E2.tl.tl.h0.cell; have y1 := E2.tl.h0.cell; have l0 := E2.tl.tl.h0.lt; have l1 := E2.tl.h0.lt; have z1 := E2.tl.h0.fr; have acc := E2.acc; have hsz := acc.size; have yf := E2.h0.cell; have lf := E2.h0.lt; obtain ⟨w2, hw2⟩ : ∃ w2, w2 = w' := ⟨_, rfl⟩; subst hw2
              | (go_at_call 58; ((with_reducible refine (cL.out _ _ (Blk.ck (by rw [hfa]; exact Blk.new _ _ _) (I.below (by repeat (first | assumption | (with_reducible exact Below.refl _ _) | (with_reducible refine Below.drew ?_) | (with_reducible refine below_drewN ?_ _) | (with_reducible refine Below.alloc ?_ (by first | omega | (simp <;> omega)) _) | (with_reducible refine Below.setCell ?_ (by simp only; omega) _)))) (J.below (by repeat (first | assumption | (with_reducible exact Below.refl _ _) | (with_reducible refine Below.drew ?_) | (with_reducible refine below_drewN ?_ _) | (with_reducible refine Below.alloc ?_ (by first | omega | (simp <;> omega)) _) | (with_reducible refine Below.setCell ?_ (by simp only; omega) _)))))).mono ?_); rintro e w' ⟨rfl, hb2⟩)); have E3 := (E2.push _ rfl _ _).next hb2; have y0 := E3.tl.tl.tl.h0.cell; have y1 := E3.tl.tl.h0.cell; have l0 := E3.tl.tl.tl.h0.lt; have l1 := E3.tl.tl.h0.lt; have z1 := E3.tl.tl.h0.fr; have acc := E3.acc; have hsz := acc.size; have yf := E3.tl.h0.cell; have lf := E3.tl.h0.lt; have yk := E3.h0.cell; have lk := E3.h0.lt)
            refine bodyPost_ret (v := .tuple #[.int .i64 (firstE (sel P f) f.sels), .agg #[.int .i64 k, .int .i64 0]]) (by simp [results, Tryz.results26, go_sem, y1]) rfl ⟨⟨_, rfl, by rw [hrv.out]; exact ⟨_, _, rfl⟩⟩, by have acc := E3.acc; have hsz := acc.size; repeat (first | assumption | (with_reducible exact Below.refl _ _) | (with_reducible refine Below.drew ?_) | (with_reducible refine below_drewN ?_ _) | (with_reducible refine Below.alloc ?_ (by first | omega | (simp <;> omega)) _) | (with_reducible refine Below.setCell ?_ (by simp only; omega) _))⟩
          · rw [hse] at cL
            go_wp2_with (first
              | (go_at_call 57; ((with_reducible refine (cS'.out _ (by repeat (first | assumption | (with_reducible exact Below.refl _ _) | (with_reducible refine Below.drew ?_) | (with_reducible refine below_drewN ?_ _) | (with_reducible refine Below.alloc ?_ (by first | omega | (simp <;> omega)) _) | (with_reducible refine Below.setCell ?_ (by simp only; omega) _)))).mono ?_); rintro e w' ⟨rfl, hb1⟩)); have E2 := (E1.push wr.heap.size rfl #[.int .i64 f.params, .int .i64 f.regs, .slice f.ca f.code.length f.ccap, .slice f.sa f.sels.length f.scap] 45).next hb1; have y0 := E2.tl.tl.h0.cell; have y1 := E2.tl.h0.cell; have l0 := E2.tl.tl.h0.lt; have l1 := E2.tl.h0.lt; have z1 := E2.tl.h0.fr; have acc := E2.acc; have hsz := acc.size; have yf := E2.h0.cell; have lf := E2.h0.lt; obtain ⟨w2, hw2⟩ : ∃ w2, w2 = w' := ⟨_, rfl⟩; subst hw2
              | (go_at_call 58; ((with_reducible refine (cL.out _ _ (Blk.ck (by rw [hfa]; exact Blk.new _ _ _) (I.below (by repeat (first | assumption | (with_reducible exact Below.refl _ _) | (with_reducible refine Below.drew ?_) | (with_reducible refine below_drewN ?_ _) | (with_reducible refine Below.alloc ?_ (by first | omega | (simp <;> omega)) _) | (with_reducible refine Below.setCell ?_ (by simp only; omega) _)))) (J.below (by repeat (first | assumption | (with_reducible exact Below.refl _ _) | (with_reducible refine Below.drew ?_) | (with_reducible refine below_drewN ?_ _) | (with_reducible refine Below.alloc ?_ (by first | omega | (simp <;> omega)) _) | (with_reducible refine Below.setCell ?_ (by simp only; omega) _)))))).mono ?_); rintro e w' ⟨rfl, hb2⟩)); have E3 := (E2.push _ rfl _ _).next hb2; have y0 := E3.tl.tl.tl.h0.cell; have y1 := E3.tl.tl.h0.cell; have l0 := E3.tl.tl.tl.h0.lt; have l1 := E3.tl.tl.h0.lt; have z1 := E3.tl.tl.h0.fr; have acc := E3.acc; have hsz := acc.size; have yf := E3.tl.h0.cell; have lf := E3.tl.h0.lt; have yk := E3.h0.cell; have lk := E3.h0.lt)
            obtain ⟨q, hqi⟩ : ∃ q, Hid (q = firstE (ins P f) f.code) := ⟨_, Lib.hid rfl⟩
            have hq2 := Lib.hid (show r = if (if q = 0 then (if lastOp f = 42 ∨ lastOp f = 45 ∨ lastOp f = 61 then 0 else 39 : Int) else q) = 0 then fncs P (((k + 1 : Nat) : Int) == 0) (P.funcs.drop (k + 1)) else (if q = 0 then (if lastOp f = 42 ∨ lastOp f = 45 ∨ lastOp f = 61 then 0 else 39) else q) by
              rw [hq'.out, hfn'.out, if_pos hse, ← hqi.out])
            clear hq' hfn' cS' cL y0 y1 z1 yf yk
            go_loopw [51] (fun j wi => ∃ m : Nat, m ≤ f.code.length ∧ j = .int .i64 m ∧ Env w [(w2.heap.size, #[.slice P.va P.vars.length P.vcap, .int .i64 P.locks, .slice P.ha P.chans.length P.hcap, .slice P.fa P.funcs.length P.fcap, .int .i64 f.params, .int .i64 f.regs, .slice f.ca f.code.length f.ccap, .slice f.sa f.sels.length f.scap]), (wr.heap.size, #[.int .i64 f.params, .int .i64 f.regs, .slice f.ca f.code.length f.ccap, .slice f.sa f.sels.length f.scap]), (w.heap.size + 1, #[.int .i64 0, .int .i64 0]), (w.heap.size, #[.slice P.va P.vars.length P.vcap, .int .i64 P.locks, .slice P.ha P.chans.length P.hcap, .slice P.fa P.funcs.length P.fcap])] wi ∧ Hid (firstE (ins P f) (f.code.drop m) = q)) (fun j _ => f.code.length - (intOf j).toNat)
            case atStart => exact ⟨0, by omega, rfl, by rw [← hfa] at E3; exact E3, Lib.hid hqi.out.symm⟩
            case round =>
              clear E3 E2 E1 l0 l1 lf lk acc hsz
              obtain ⟨m, hm, rfl, E4, hqm⟩ := hrel
              have y1 := E4.tl.tl.h0.cell; have l1 := E4.tl.tl.h0.lt; have z1 := E4.tl.tl.h0.fr; have yf := E4.tl.h0.cell; have lf := E4.tl.h0.lt; have l0 := E4.tl.tl.tl.h0.lt; have lk := E4.h0.lt; have acc := E4.acc; have hsz := acc.size
              by_cases hml : m < f.code.length
              · obtain ⟨cb, co, hca, hcbl, hC⟩ := J.ins (by omega)
                have t0 := hC m f.code[m] (by simp) 0 _ rfl
                have t1 := hC m f.code[m] (by simp) 1 _ rfl
                have t2 := hC m f.code[m] (by simp) 2 _ rfl
                have t3 := hC m f.code[m] (by simp) 3 _ rfl
                have t4 := hC m f.code[m] (by simp) 4 _ rfl
                have hox := J.oks f.code[m] (List.getElem_mem _)
                have hid := firstE_drop (ins P f) f.code m hml
                generalize f.code[m] = x at *
                rw [← acc.cell (by simpa using hcbl)] at t0 t1 t2 t3 t4
                have hcbl' := Nat.lt_of_lt_of_le hcbl acc.size
                simp only [Nat.add_zero] at t0
                rw [hid] at hqm
                clear hC hid
                have hqm' := Lib.hid hqm.out.symm
                clear hqm
                rw [hca]
                by_cases hx0 : ins P f x = 0
                · have hqn := Lib.hid (show q = firstE (ins P f) (f.code.drop (m + 1)) by rw [hqm'.out, if_pos hx0])
                  go_wp2_with ((go_at_call 59; ((with_reducible refine (cI.out x _ _ (Blk.ck (E4.skip _).h0 (I.below (by repeat (first | assumption | (with_reducible exact Below.refl _ _) | (with_reducible refine Below.drew ?_) | (with_reducible refine below_drewN ?_ _) | (with_reducible refine Below.alloc ?_ (by first | omega | (simp <;> omega)) _) | (with_reducible refine Below.setCell ?_ (by simp only; omega) _)))) (J.below (by repeat (first | assumption | (with_reducible exact Below.refl _ _) | (with_reducible refine Below.drew ?_) | (with_reducible refine below_drewN ?_ _) | (with_reducible refine Below.alloc ?_ (by first | omega | (simp <;> omega)) _) | (with_reducible refine Below.setCell ?_ (by simp only; omega) _))))) hox).mono ?_); rintro e w' ⟨rfl, hb3⟩)); have E5 := (E4.skip _).next hb3; have y1 := E5.tl.tl.h0.cell; have l1 := E5.tl.tl.h0.lt; have z1 := E5.tl.tl.h0.fr; have yf := E5.tl.h0.cell; have lf := E5.tl.h0.lt; have l0 := E5.tl.tl.tl.h0.lt; have lk := E5.h0.lt; have acc := E5.acc; have hsz := acc.size)
                  go_roundw
                  case rel => exact ⟨m + 1, by omega, by go_num, by rw [← hca]; exact E5, Lib.hid hqn.out.symm⟩
                  case measure => simp [intOf]; omega
                · have hqn : q = ins P f x := by rw [hqm'.out, if_neg hx0]
                  have hrv := Lib.hid (show r = ins P f x by rw [hq2.out, if_neg (by rw [if_neg (by rw [hqn]; exact hx0), hqn]; exact hx0), if_neg (by rw [hqn]; exact hx0), hqn])
                  clear hqn
                  go_wp2_with ((go_at_call 59; ((with_reducible refine (cI.out x _ _ (Blk.ck (E4.skip _).h0 (I.below (by repeat (first | assumption | (with_reducible exact Below.refl _ _) | (with_reducible refine Below.drew ?_) | (with_reducible refine below_drewN ?_ _) | (with_reducible refine Below.alloc ?_ (by first | omega | (simp <;> omega)) _) | (with_reducible refine Below.setCell ?_ (by simp only; omega) _)))) (J.below (by repeat (first | assumption | (with_reducible exact Below.refl _ _) | (with_reducible refine Below.drew ?_) | (with_reducible refine below_drewN ?_ _) | (with_reducible refine Below.alloc ?_ (by first | omega | (simp <;> omega)) _) | (with_reducible refine Below.setCell ?_ (by simp only; omega) _))))) hox).mono ?_); rintro e w' ⟨rfl, hb3⟩)); have E5 := (E4.skip _).next hb3; have y1 := E5.tl.tl.h0.cell; have l1 := E5.tl.tl.h0.lt; have z1 := E5.tl.tl.h0.fr; have yf := E5.tl.h0.cell; have lf := E5.tl.h0.lt; have l0 := E5.tl.tl.tl.h0.lt; have lk := E5.h0.lt; have acc := E5.acc; have hsz := acc.size)
                  refine bodyPost_ret (v := .tuple #[.int .i64 (ins P f x), .agg #[.int .i64 k, .int .i64 m]]) (by simp [results, Tryz.results26, go_sem, y1]) rfl ⟨⟨_, rfl, by rw [hrv.out]; exact ⟨_, _, rfl⟩⟩, by have acc := E5.acc; have hsz := acc.size; repeat (first | assumption | (with_reducible exact Below.refl _ _) | (with_reducible refine Below.drew ?_) | (with_reducible refine below_drewN ?_ _) | (with_reducible refine Below.alloc ?_ (by first | omega | (simp <;> omega)) _) | (with_reducible refine Below.setCell ?_ (by simp only; omega) _))⟩
              · have hq0 : q = 0 := by rw [← hqm.out]; exact firstE_end _ _ _ (by omega)
                obtain ⟨L, hL⟩ : ∃ L : Nat, f.code.length = L + 1 := ⟨f.code.length - 1, by omega⟩
                obtain ⟨cb, co, hca, hcbl, hC⟩ := J.ins (by omega)
                have t0 := hC L f.code[L] (by simp) 0 _ rfl
                rw [← acc.cell (by simpa using hcbl)] at t0
                have hcbl' := Nat.lt_of_lt_of_le hcbl acc.size
                simp only [Nat.add_zero] at t0
                have hLl : L < f.code.length := by omega
                have hlo : lastOp f = f.code[L].op := by unfold lastOp; rw [show f.code.length - 1 = L by omega]; simp [hLl]
                have hq3 : r = if (if f.code[L].op = 42 ∨ f.code[L].op = 45 ∨ f.code[L].op = 61 then 0 else 39 : Int) = 0 then fncs P (((k + 1 : Nat) : Int) == 0) (P.funcs.drop (k + 1)) else (if f.code[L].op = 42 ∨ f.code[L].op = 45 ∨ f.code[L].op = 61 then 0 else 39) := by
                  have h := hq2.out
                  simp only [hq0, ↓reduceIte, hlo] at h
                  exact h
                generalize f.code[L] = x at *
                generalize x.op = o at *
                have hq3' := Lib.hid hq3
                clear hq3 hlo hC hq2 hqm hq0
                have hLi : ((f.code.length : Nat) : Int) = (L : Int) + 1 := by omega
                rw [hca] at yf
                by_cases ho : o = 42 ∨ o = 45 ∨ o = 61
                · have hqn := Lib.hid (show r = fncs P (((k + 1 : Nat) : Int) == 0) (P.funcs.drop (k + 1)) by rw [hq3'.out, if_pos ho, if_pos rfl])
                  rcases ho with rfl | rfl | rfl
                  all_goals go_wp2
                  all_goals go_roundw
                  all_goals first
                    | exact ⟨k + 1, by omega, by go_num, by rw [← hfa]; exact E4.tl.tl, Lib.hid hqn.out⟩
                    | (simp [intOf]; omega)
                    | ((repeat apply Exists.intro); exact ⟨⟨k + 1, by omega, by go_num, by rw [← hfa]; exact E4.tl.tl, Lib.hid hqn.out⟩, rfl⟩)
                · have hrv := Lib.hid (show r = 39 by rw [hq3'.out, if_neg ho]; rfl)
                  have b1 : (o == 42) = false := by simp; omega
                  have b2 : (o == 45) = false := by simp; omega
                  have b3 : (o == 61) = false := by simp; omega
                  go_wp2
                  refine bodyPost_ret (v := .tuple #[.int .i64 (39), .agg #[.int .i64 k, .int .i64 L]]) (by simp [results, Tryz.results26, go_sem, y1]) rfl ⟨⟨_, rfl, by rw [hrv.out]; exact ⟨_, _, rfl⟩⟩, by have acc := E4.acc; have hsz := acc.size; repeat (first | assumption | (with_reducible exact Below.refl _ _) | (with_reducible refine Below.drew ?_) | (with_reducible refine below_drewN ?_ _) | (with_reducible refine Below.alloc ?_ (by first | omega | (simp <;> omega)) _) | (with_reducible refine Below.setCell ?_ (by simp only; omega) _))⟩
        · have hs' : szs f ((k : Int) == 0) = false := by simpa using hs
          have hrv := Lib.hid (show r = 32 by rw [hq.out, show fnc P f ((k : Int) == 0) = 32 from if_neg hs]; rfl)
          have cS' := Lib.hid (fun W (hb : Below w.heap.size w W) => cS.out f ((k : Int) == 0) W (J.below hb))
          rw [hs'] at cS'
          clear hs hs' hq cS
          go_wp2_with ((go_at_call 57; ((with_reducible refine (cS'.out _ (by repeat (first | assumption | (with_reducible exact Below.refl _ _) | (with_reducible refine Below.drew ?_) | (with_reducible refine below_drewN ?_ _) | (with_reducible refine Below.alloc ?_ (by first | omega | (simp <;> omega)) _) | (with_reducible refine Below.setCell ?_ (by simp only; omega) _)))).mono ?_); rintro e w' ⟨rfl, hb1⟩)); have E2 := (E1.skip _).next hb1; have y0 := E2.tl.h0.cell; have y1 := E2.h0.cell; have l0 := E2.tl.h0.lt; have l1 := E2.h0.lt; have z1 := E2.h0.fr)
          refine bodyPost_ret (v := .tuple #[.int .i64 (32), .agg #[.int .i64 k, .int .i64 0]]) (by simp [results, Tryz.results26, go_sem, y1]) rfl ⟨⟨_, rfl, by rw [hrv.out]; exact ⟨_, _, rfl⟩⟩, by have acc := E2.acc; have hsz := acc.size; repeat (first | assumption | (with_reducible exact Below.refl _ _) | (with_reducible refine Below.drew ?_) | (with_reducible refine below_drewN ?_ _) | (with_reducible refine Below.alloc ?_ (by first | omega | (simp <;> omega)) _) | (with_reducible refine Below.setCell ?_ (by simp only; omega) _))⟩
      · rw [List.drop_eq_nil_of_le (by omega)] at hq
        have hrv := Lib.hid (show r = 0 from hq.out)
        clear hq
        go_wp2
        refine bodyPost_ret (v := .tuple #[.int .i64 (0), .agg #[.int .i64 0, .int .i64 0]]) (by simp [results, Tryz.results26, go_sem, y1]) rfl ⟨⟨_, rfl, by rw [hrv.out]; exact ⟨_, _, rfl⟩⟩, by have acc := E1.acc; have hsz := acc.size; repeat (first | assumption | (with_reducible exact Below.refl _ _) | (with_reducible refine Below.drew ?_) | (with_reducible refine below_drewN ?_ _) | (with_reducible refine Below.alloc ?_ (by first | omega | (simp <;> omega)) _) | (with_reducible refine Below.setCell ?_ (by simp only; omega) _))⟩
  · have hrv := Lib.hid (show r = whole P by rw [hr.out]; unfold chk; rw [if_neg hwh])
    obtain ⟨v, hv⟩ : ∃ v, v = whole P := ⟨_, rfl⟩
    rw [← hv] at cW hrv hwh
    clear hr hv
    unfold Pg.v at *
    go_enter Tryz.func26, Tryz.ntmps26
    have E0 := ((Env.nil (w := w)).push w.heap.size rfl #[.slice P.va P.vars.length P.vcap, .int .i64 P.locks, .slice P.ha P.chans.length P.hcap, .slice P.fa P.funcs.length P.fcap] 26).push (w.heap.size + 1) (by simp) #[.int .i64 0, .int .i64 0] 69
    go_wp2_with ((go_at_call 56; ((with_reducible refine (cW.out _ (by repeat (first | (with_reducible exact Below.refl _ _) | (with_reducible refine Below.drew ?_) | (with_reducible refine below_drewN ?_ _) | (with_reducible refine Below.alloc ?_ (by first | omega | (simp <;> omega)) _)))).mono ?_); rintro e w' ⟨rfl, hb1⟩)); have E1 := E0.next hb1; have y1 := E1.h0.cell; have l1 := E1.h0.lt; have z1 := E1.h0.fr)
    refine bodyPost_ret (v := .tuple #[.int .i64 (v), .agg #[.int .i64 0, .int .i64 0]]) (by simp [results, Tryz.results26, go_sem, y1]) rfl ⟨⟨_, rfl, by rw [hrv.out]; exact ⟨_, _, rfl⟩⟩, by have acc := E1.acc; have hsz := acc.size; repeat (first | assumption | (with_reducible exact Below.refl _ _) | (with_reducible refine Below.drew ?_) | (with_reducible refine below_drewN ?_ _) | (with_reducible refine Below.alloc ?_ (by first | omega | (simp <;> omega)) _) | (with_reducible refine Below.setCell ?_ (by simp only; omega) _))⟩
end Go.Proofs.YtlhhmlfcodmebaaGreatDoor.Pg
