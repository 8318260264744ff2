/- Several texts of one proof, one behind the other. Local instructions, walked: a goroutine is ended. | Local instructions, told plainly. No condition. -/
import Derived.Test.YtbcdeanmjhcgeaaDoorZa
import Derived.Test.YtbcdeanmjhcgeaaDoorZC1
import Derived.BigRegion
namespace Go.Proofs.YtbcdeanmjhcgeaaDoor.Pg
set_option linter.unusedVariables false
set_option linter.unusedSimpArgs false
open Go.ChangeShapes Go.WideShapes Go.RowKit
set_option linter.unusedVariables false
set_option maxHeartbeats 4000000 in
set_option maxRecDepth 100000 in
theorem done_run (gs gf gpc gw x0 x1 x2 x3 x4 x5 x6 x7 st why : Int) (w : World) :
    Calls Tryd.prog 68 #[.agg #[.int .i64 gs, .int .i64 gf, .int .i64 gpc, .int .i64 gw, .int .i64 x0, .int .i64 x1, .int .i64 x2, .int .i64 x3, .int .i64 x4, .int .i64 x5, .int .i64 x6, .int .i64 x7], .int .i64 st, .int .i64 why] w
      fun e w' => e = .returned (.agg #[.int .i64 st, .int .i64 gf, .int .i64 gpc, .int .i64 why, .int .i64 0, .int .i64 0, .int .i64 0, .int .i64 0, .int .i64 0, .int .i64 0, .int .i64 0, .int .i64 0]) ∧ Below w.heap.size w w' := by
  go_enter Tryd.func68, Tryd.ntmps68
  go_wp2
  refine bodyPost_ret (v := .agg #[.int .i64 st, .int .i64 gf, .int .i64 gpc, .int .i64 why, .int .i64 0, .int .i64 0, .int .i64 0, .int .i64 0, .int .i64 0, .int .i64 0, .int .i64 0, .int .i64 0]) (by simp [results, Tryd.results68, go_sem]) rfl ⟨rfl, ?_⟩
  repeat (first | (with_reducible exact Below.refl _ _) | (with_reducible refine Below.setCell ?_ (by simp) _) | (with_reducible refine Below.alloc ?_ (by simp) _))
set_option maxHeartbeats 4000000 in
set_option maxRecDepth 100000 in
theorem ended_run (gs gf gpc gw x0 x1 x2 x3 x4 x5 x6 x7 st why : Int) (w : World) :
    Calls Tryd.prog 51 #[.agg #[.int .i64 gs, .int .i64 gf, .int .i64 gpc, .int .i64 gw, .int .i64 x0, .int .i64 x1, .int .i64 x2, .int .i64 x3, .int .i64 x4, .int .i64 x5, .int .i64 x6, .int .i64 x7], .int .i64 st, .int .i64 why] w
      fun e w' => e = .returned (.agg #[.int .i64 st, .int .i64 gf, .int .i64 gpc, .int .i64 why, .int .i64 0, .int .i64 0, .int .i64 0, .int .i64 0, .int .i64 0, .int .i64 0, .int .i64 0, .int .i64 0]) ∧ Below w.heap.size w w' := by
  go_enter Tryd.func51, Tryd.ntmps51
  go_wp2
  go_outline
  refine bodyPost_ret (v := .agg #[.int .i64 st, .int .i64 gf, .int .i64 gpc, .int .i64 why, .int .i64 0, .int .i64 0, .int .i64 0, .int .i64 0, .int .i64 0, .int .i64 0, .int .i64 0, .int .i64 0]) (by simp [results, Tryd.results51, go_sem]) rfl ⟨rfl, ?_⟩
  repeat (first | (with_reducible exact Below.refl _ _) | (with_reducible refine Below.setCell ?_ (by simp) _) | (with_reducible refine Below.alloc ?_ (by simp) _))
end Go.Proofs.YtbcdeanmjhcgeaaDoor.Pg
namespace Go.Proofs.YtbcdeanmjhcgeaaDoor.Pg
set_option linter.unusedVariables false
set_option linter.unusedSimpArgs false
/-- A register. -/
def Gr.r (g : Gr) (k : Int) : Int := g.regs.getD k.toNat 0
def Gr.put (g : Gr) (k v : Int) : Gr := ⟨g.status, g.func, g.pc + 1, g.why, g.regs.set k.toNat v⟩
def Gr.to (g : Gr) (pc : Int) : Gr := ⟨g.status, g.func, pc, g.why, g.regs⟩
def Gr.fin (g : Gr) (st why : Int) : Gr := ⟨st, g.func, g.pc, why, [0, 0, 0, 0, 0, 0, 0, 0]⟩
/-- A goroutine behind a local instruction; A is what an operation of numbers gives, and its error. -/
def step (A : Int → Int → Int → Int × Int) (x : Ins) (g : Gr) : Gr :=
  if x.op = 40 then g.put x.a x.n
  else if x.op = 41 then g.put x.a (g.r x.b)
  else if x.op = 42 then g.to x.a
  else if x.op = 43 then (if g.r x.a ≠ 0 then g.to x.b else g.to (g.pc + 1))
  else if x.op = 44 then (if g.r x.a = 0 then g.fin 4 1 else g.to (g.pc + 1))
  else if x.op = 45 then g.fin 3 0
  else if (A x.op (g.r x.b) (if x.op ≤ 15 then 0 else g.r x.c)).2 = 20 then g.fin 4 2
  else if (A x.op (g.r x.b) (if x.op ≤ 15 then 0 else g.r x.c)).2 = 21 then g.fin 4 3
  else g.put x.a (A x.op (g.r x.b) (if x.op ≤ 15 then 0 else g.r x.c)).1
/-- The registers that a local instruction names are there. -/
structure Bnd (x : Ins) : Prop where
  a : (1 ≤ x.op ∧ x.op ≤ 36) ∨ x.op = 40 ∨ x.op = 41 ∨ x.op = 43 ∨ x.op = 44 → 0 ≤ x.a ∧ x.a < 8
  b : (1 ≤ x.op ∧ x.op ≤ 36) ∨ x.op = 41 → 0 ≤ x.b ∧ x.b < 8
  c : 16 ≤ x.op ∧ x.op ≤ 36 → 0 ≤ x.c ∧ x.c < 8
theorem Gr.cs_r {g : Gr} (h : g.ok) (k : Nat) (hk : k < 8) : g.cs.toArray[4 + k]? = some (.int .i64 (g.r k)) := by
  have hl := h.len
  simp only [Gr.cs, List.getElem?_toArray]
  rw [List.getElem?_append_right (by simp)]
  simp [Gr.r, show k < g.regs.length by omega]
theorem Gr.cs_size {g : Gr} (h : g.ok) : g.cs.toArray.size = 12 := by simpa using Gr.cs_len h
theorem Gr.r_ok {g : Gr} (h : g.ok) (k : Int) : I64 (g.r k) := by
  unfold Gr.r
  rw [List.getD_eq_getElem?_getD]
  by_cases hk : k.toNat < g.regs.length
  · simpa [hk] using h.regs _ (List.getElem_mem hk)
  · rw [List.getElem?_eq_none (by omega)]; exact ⟨by decide, by decide⟩
theorem Gr.cs_put {g : Gr} (h : g.ok) (k : Nat) (v : Int) : (g.put k v).cs.toArray = (g.cs.toArray.setIfInBounds 2 (.int .i64 (g.pc + 1))).setIfInBounds (4 + k) (.int .i64 v) := by
  apply Array.toList_inj.1
  simp [Gr.cs, Gr.put, Nat.add_comm 4 k]
theorem Gr.cs_to (g : Gr) (v : Int) : (g.to v).cs.toArray = g.cs.toArray.setIfInBounds 2 (.int .i64 v) := by
  apply Array.toList_inj.1
  simp [Gr.cs, Gr.to]
/-- A goroutine's local instructions, run with fuel. -/
def settle (A : Int → Int → Int → Int × Int) (P : Pg) : Nat → Gr → Gr
  | 0, g => if g.status = 1 ∧ loc (g.ins P).op = true then ⟨5, g.func, g.pc, g.why, g.regs⟩ else g
  | n + 1, g => if g.status = 1 ∧ loc (g.ins P).op = true then settle A P n (step A (g.ins P) g) else g
/-- What an operation of numbers gives is an int. -/
def AluOk (A : Int → Int → Int → Int × Int) : Prop := ∀ op a b, I64 (A op a b).1 ∧ I64 (A op a b).2
/-- A goroutine that stands in a program. -/
structure Stood (P : Pg) (g : Gr) : Prop where
  ok : g.ok
  f0 : 0 ≤ g.func
  f1 : g.func < P.funcs.length
  p0 : 0 ≤ g.pc
  p1 : g.pc < (P.fn g.func).code.length
theorem Stood.fn_mem {P : Pg} {g : Gr} (h : Stood P g) : P.fn g.func ∈ P.funcs := by
  have h0 := h.f0; have h1 := h.f1
  unfold Pg.fn
  rw [List.getD_eq_getElem?_getD, List.getElem?_eq_getElem (by omega)]
  exact List.getElem_mem _
theorem Stood.ins_mem {P : Pg} {g : Gr} (h : Stood P g) : g.ins P ∈ (P.fn g.func).code := by
  have h0 := h.p0; have h1 := h.p1
  unfold Gr.ins Fn.at
  rw [List.getD_eq_getElem?_getD, List.getElem?_eq_getElem (by omega)]
  exact List.getElem_mem _
/-- What a right instruction's operands obey. -/
theorem ins_split {P : Pg} {f : Fn} {x : Ins} (h : ins P f x = 0) (s : ByteArray) (hf : form x.op = s) (hs : s ≠ ⟨#[]⟩) :
    opd P f x s[0]!.toNat x.a = 0 ∧ opd P f x s[1]!.toNat x.b = 0 ∧ opd P f x s[2]!.toNat x.c = 0 ∧ opd P f x s[3]!.toNat x.n = 0 := by
  unfold ins at h
  rw [hf, if_neg hs] at h
  by_cases hu : unused s x = true
  · rw [if_pos hu] at h; exact absurd h (by decide)
  · rw [if_neg hu] at h
    have hz := firstE_zero _ _ h
    exact ⟨hz (_, x.a) (by simp), hz (_, x.b) (by simp), hz (_, x.c) (by simp), hz (_, x.n) (by simp)⟩
theorem opd_r {P : Pg} {f : Fn} {x : Ins} {n : Int} (h : opd P f x 114 n = 0) : 0 ≤ n ∧ n < f.regs := by
  unfold opd at h
  rw [if_neg (by decide), if_pos (by decide)] at h
  exact reg_zero h
theorem opd_t {P : Pg} {f : Fn} {x : Ins} {n : Int} (h : opd P f x 116 n = 0) : 0 ≤ n ∧ n < f.code.length := by
  unfold opd at h
  iterate 8 rw [if_neg (by decide)] at h
  rw [if_pos (by decide)] at h
  exact tgt_zero h
/-- The operands of a right local instruction. -/
structure LocOk (f : Fn) (x : Ins) : Prop where
  a : (1 ≤ x.op ∧ x.op ≤ 36) ∨ x.op = 40 ∨ x.op = 41 ∨ x.op = 43 ∨ x.op = 44 → 0 ≤ x.a ∧ x.a < f.regs
  b : (1 ≤ x.op ∧ x.op ≤ 36) ∨ x.op = 41 → 0 ≤ x.b ∧ x.b < f.regs
  c : 16 ≤ x.op ∧ x.op ≤ 36 → 0 ≤ x.c ∧ x.c < f.regs
  t : x.op = 42 → 0 ≤ x.a ∧ x.a < f.code.length
  u : x.op = 43 → 0 ≤ x.b ∧ x.b < f.code.length
theorem LocOk.of {P : Pg} {f : Fn} {x : Ins} (h : ins P f x = 0) : LocOk f x := by
  refine ⟨fun ho => ?_, fun ho => ?_, fun ho => ?_, fun ho => ?_, fun ho => ?_⟩
  · by_cases h1 : 1 ≤ x.op ∧ x.op ≤ 15
    · exact opd_r (ins_split h ⟨#[114, 114, 45, 45]⟩ (by unfold form; rw [if_pos h1]) (by decide)).1
    · by_cases h2 : 16 ≤ x.op ∧ x.op ≤ 36
      · exact opd_r (ins_split h ⟨#[114, 114, 114, 45]⟩ (by unfold form; rw [if_neg h1, if_pos h2]) (by decide)).1
      · by_cases h3 : x.op = 40 ∨ x.op = 44 ∨ x.op = 65
        · exact opd_r (ins_split h ⟨#[114, 45, 45, 110]⟩ (by unfold form; rw [if_neg h1, if_neg h2, if_pos h3]) (by decide)).1
        · by_cases h4 : x.op = 41
          · exact opd_r (ins_split h ⟨#[114, 114, 45, 45]⟩ (by unfold form; rw [if_neg h1, if_neg h2, if_neg h3, if_pos h4]) (by decide)).1
          · have h5 : x.op = 43 := by omega
            exact opd_r (ins_split h ⟨#[114, 116, 45, 45]⟩ (by unfold form; rw [if_neg h1, if_neg h2, if_neg h3, if_neg h4, if_neg (by omega), if_pos h5]) (by decide)).1
  · by_cases h1 : 1 ≤ x.op ∧ x.op ≤ 15
    · exact opd_r (ins_split h ⟨#[114, 114, 45, 45]⟩ (by unfold form; rw [if_pos h1]) (by decide)).2.1
    · by_cases h2 : 16 ≤ x.op ∧ x.op ≤ 36
      · exact opd_r (ins_split h ⟨#[114, 114, 114, 45]⟩ (by unfold form; rw [if_neg h1, if_pos h2]) (by decide)).2.1
      · have h4 : x.op = 41 := by omega
        exact opd_r (ins_split h ⟨#[114, 114, 45, 45]⟩ (by unfold form; rw [if_neg h1, if_neg h2, if_neg (by omega), if_pos h4]) (by decide)).2.1
  · exact opd_r (ins_split h ⟨#[114, 114, 114, 45]⟩ (by unfold form; rw [if_neg (by omega), if_pos ho]) (by decide)).2.2.1
  · exact opd_t (ins_split h ⟨#[116, 45, 45, 45]⟩ (by unfold form; rw [if_neg (by omega), if_neg (by omega), if_neg (by omega), if_neg (by omega), if_pos ho]) (by decide)).1
  · exact opd_t (ins_split h ⟨#[114, 116, 45, 45]⟩ (by unfold form; rw [if_neg (by omega), if_neg (by omega), if_neg (by omega), if_neg (by omega), if_neg (by omega), if_pos ho]) (by decide)).2.1
theorem Stood.locOk {P : Pg} {g : Gr} (R : Rt P) (h : Stood P g) : LocOk (P.fn g.func) (g.ins P) := LocOk.of ((R.fn _ h.fn_mem).ins _ h.ins_mem)
theorem Stood.bnd {P : Pg} {g : Gr} (R : Rt P) (h : Stood P g) : Bnd (g.ins P) := by
  have L := h.locOk R
  have F := R.fn _ h.fn_mem
  have := F.r8
  exact ⟨fun o => by have := L.a o; omega, fun o => by have := L.b o; omega, fun o => by have := L.c o; omega⟩
theorem Stood.pc64 {P : Pg} {g : Gr} (R : Rt P) (h : Stood P g) : 0 ≤ g.pc ∧ g.pc < 64 := by
  have F := R.fn _ h.fn_mem
  have := F.c64; have := h.p0; have := h.p1
  omega
/-- An instruction that is neither a jump nor an end is not the last. -/
theorem Stood.next {P : Pg} {g : Gr} (R : Rt P) (h : Stood P g) (h1 : (g.ins P).op ≠ 42) (h2 : (g.ins P).op ≠ 45) (h3 : (g.ins P).op ≠ 61) : g.pc + 1 < (P.fn g.func).code.length := by
  have F := R.fn _ h.fn_mem
  have hp0 := h.p0; have hp1 := h.p1
  by_cases he : g.pc + 1 < (P.fn g.func).code.length
  · exact he
  · exfalso
    have e : g.pc.toNat = (P.fn g.func).code.length - 1 := by omega
    have hl := F.last
    unfold lastOp at hl
    rw [← e] at hl
    unfold Gr.ins Fn.at at h1 h2 h3
    omega
theorem Gr.ok.put {g : Gr} (h : g.ok) (k v : Int) (hp : I64 (g.pc + 1)) (hv : I64 v) : (g.put k v).ok :=
  ⟨h.st, h.fn, hp, h.why, fun x hx => (List.mem_or_eq_of_mem_set hx).elim (h.regs x) (fun e => e ▸ hv), by simpa [Gr.put] using h.len⟩
theorem Gr.ok.to {g : Gr} (h : g.ok) (p : Int) (hp : I64 p) : (g.to p).ok := ⟨h.st, h.fn, hp, h.why, h.regs, h.len⟩
theorem Gr.ok.fin {g : Gr} (h : g.ok) (s y : Int) (hs : I64 s) (hy : I64 y) : (g.fin s y).ok := ⟨hs, h.fn, h.pc, hy, fun x hx => by simp [Gr.fin] at hx; subst hx; exact ⟨by decide, by decide⟩, rfl⟩
theorem i64_small {n : Int} (h0 : -1000 ≤ n) (h1 : n ≤ 1000) : I64 n := ⟨by omega, by omega⟩
/-- A step, told by its way. -/
inductive Way (A : Int → Int → Int → Int × Int) (x : Ins) (g : Gr) : Prop
  | put (v : Int) (e : step A x g = g.put x.a v) (hv : v = x.n ∨ v = g.r x.b ∨ ∃ o a b, v = (A o a b).1) (ho : (1 ≤ x.op ∧ x.op ≤ 36) ∨ x.op = 40 ∨ x.op = 41)
  | on (e : step A x g = g.to (g.pc + 1)) (ho : x.op = 43 ∨ x.op = 44)
  | to (t : Int) (e : step A x g = g.to t) (ho : x.op = 42 ∧ t = x.a ∨ x.op = 43 ∧ t = x.b)
  | fin (s y : Int) (e : step A x g = g.fin s y) (ho : s = 3 ∧ y = 0 ∧ x.op = 45 ∨ s = 4 ∧ may y x.op = true ∧ 1 ≤ y ∧ y ≤ 3)
theorem step_num {A : Int → Int → Int → Int × Int} {x : Ins} {g : Gr} (h : 1 ≤ x.op ∧ x.op ≤ 36) : step A x g =
    if (A x.op (g.r x.b) (if x.op ≤ 15 then 0 else g.r x.c)).2 = 20 then g.fin 4 2
    else if (A x.op (g.r x.b) (if x.op ≤ 15 then 0 else g.r x.c)).2 = 21 then g.fin 4 3
    else g.put x.a (A x.op (g.r x.b) (if x.op ≤ 15 then 0 else g.r x.c)).1 := by
  unfold step
  rw [if_neg (by omega), if_neg (by omega), if_neg (by omega), if_neg (by omega), if_neg (by omega), if_neg (by omega)]
/-- Only a division fails by zero, only a shift by its count. -/
def AluWhy (A : Int → Int → Int → Int × Int) : Prop := ∀ op a b, ((A op a b).2 = 20 → op = 19 ∨ op = 20) ∧ ((A op a b).2 = 21 → 25 ≤ op ∧ op ≤ 27)
theorem way {A : Int → Int → Int → Int × Int} {x : Ins} {g : Gr} (W : AluWhy A) (hl : loc x.op = true) : Way A x g := by
  unfold loc at hl
  simp only [decide_eq_true_eq] at hl
  by_cases h0 : x.op = 40
  · exact .put x.n (by unfold step; rw [if_pos h0]) (.inl rfl) (by omega)
  · by_cases h1 : x.op = 41
    · exact .put (g.r x.b) (by unfold step; rw [if_neg h0, if_pos h1]) (.inr (.inl rfl)) (by omega)
    · by_cases h2 : x.op = 42
      · exact .to x.a (by unfold step; rw [if_neg h0, if_neg h1, if_pos h2]) (.inl ⟨h2, rfl⟩)
      · by_cases h3 : x.op = 43
        · by_cases hr : g.r x.a ≠ 0
          · exact .to x.b (by unfold step; rw [if_neg h0, if_neg h1, if_neg h2, if_pos h3, if_pos hr]) (.inr ⟨h3, rfl⟩)
          · exact .on (by unfold step; rw [if_neg h0, if_neg h1, if_neg h2, if_pos h3, if_neg hr]) (.inl h3)
        · by_cases h4 : x.op = 44
          · by_cases hr : g.r x.a = 0
            · exact .fin 4 1 (by unfold step; rw [if_neg h0, if_neg h1, if_neg h2, if_neg h3, if_pos h4, if_pos hr]) (.inr ⟨rfl, by unfold may; simp [h4], by omega, by omega⟩)
            · exact .on (by unfold step; rw [if_neg h0, if_neg h1, if_neg h2, if_neg h3, if_pos h4, if_neg hr]) (.inr h4)
          · by_cases h5 : x.op = 45
            · exact .fin 3 0 (by unfold step; rw [if_neg h0, if_neg h1, if_neg h2, if_neg h3, if_neg h4, if_pos h5]) (.inl ⟨rfl, rfl, h5⟩)
            · have hn : 1 ≤ x.op ∧ x.op ≤ 36 := by omega
              have e := step_num (A := A) (g := g) hn
              have w := W x.op (g.r x.b) (if x.op ≤ 15 then 0 else g.r x.c)
              generalize hd : A x.op (g.r x.b) (if x.op ≤ 15 then 0 else g.r x.c) = d at *
              by_cases e1 : d.2 = 20
              · rw [if_pos e1] at e
                have := w.1 e1
                exact .fin 4 2 e (.inr ⟨rfl, by unfold may; simp; omega, by omega, by omega⟩)
              · rw [if_neg e1] at e
                by_cases e2 : d.2 = 21
                · rw [if_pos e2] at e
                  have := w.2 e2
                  exact .fin 4 3 e (.inr ⟨rfl, by unfold may; simp; omega, by omega, by omega⟩)
                · rw [if_neg e2] at e
                  exact .put d.1 e (.inr (.inr ⟨_, _, _, by rw [hd]⟩)) (.inl hn)
theorem Stood.step {A : Int → Int → Int → Int × Int} {P : Pg} {g : Gr} (R : Rt P) (hA : AluOk A) (W : AluWhy A) (hx : (g.ins P).ok) (h : Stood P g) (hl : loc (g.ins P).op = true) : Stood P (step A (g.ins P) g) := by
  have hp := h.pc64 R
  have L := h.locOk R
  have F := R.fn _ h.fn_mem
  have hc := F.c64
  have hn := h.next R
  rcases way (g := g) W hl with ⟨v, e, hv, ho⟩ | ⟨e, ho⟩ | ⟨t, e, ho⟩ | ⟨s, y, e, ho⟩
  · rw [e]
    have hv' : I64 v := by
      rcases hv with rfl | rfl | ⟨o, a, b, rfl⟩
      · exact hx.2.2.2.2
      · exact Gr.r_ok h.ok _
      · exact (hA o a b).1
    have := hn (by omega) (by omega) (by omega)
    exact ⟨h.ok.put _ _ (i64_small (by omega) (by omega)) hv', h.f0, h.f1, show 0 ≤ g.pc + 1 by omega, this⟩
  · rw [e]
    have := hn (by omega) (by omega) (by omega)
    exact ⟨h.ok.to _ (i64_small (by omega) (by omega)), h.f0, h.f1, show 0 ≤ g.pc + 1 by omega, this⟩
  · rw [e]
    have ht : 0 ≤ t ∧ t < (P.fn g.func).code.length := by
      rcases ho with ⟨a, rfl⟩ | ⟨a, rfl⟩
      · exact L.t a
      · exact L.u a
    exact ⟨h.ok.to _ (i64_small (by omega) (by omega)), h.f0, h.f1, ht.1, ht.2⟩
  · rw [e]
    exact ⟨h.ok.fin _ _ (i64_small (by omega) (by omega)) (i64_small (by omega) (by omega)), h.f0, h.f1, h.p0, h.p1⟩
theorem step_func (A : Int → Int → Int → Int × Int) (x : Ins) (g : Gr) : (Pg.step A x g).func = g.func := by
  unfold Pg.step
  repeat (first | rfl | split)
end Go.Proofs.YtbcdeanmjhcgeaaDoor.Pg
