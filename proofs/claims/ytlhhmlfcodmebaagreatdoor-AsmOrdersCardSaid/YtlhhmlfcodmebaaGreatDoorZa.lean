/- Several texts of one proof, one behind the other. Programs, told plainly: when one is right. No condition. | Programs in memory: where their lists lie, and that a call which lays new blocks alone leaves them. No condition. | Programs but for where their lists lie. No condition. | Programs read from texts, told plainly, as the reference goes. No condition. | Blocks that a call has laid, in later worlds: what they hold, and that nothing older is touched. No condition. | One way out of a piece of code: its slots found by the tactic, its world told by a property. No condition. -/
import Derived.Test.YtlhhmlfcodmebaaGreatDoorZe
import Derived.WalkKit
import Derived.Below
import Derived.Deep.MidRow
import Derived.WalkSmall
namespace Go.Proofs.YtlhhmlfcodmebaaGreatDoor.Pg
set_option linter.unusedVariables false
set_option linter.unusedSimpArgs false
/-- An instruction. -/
structure Ins where (op a b c n : Int)
/-- A case of a select. -/
structure Cas where (send : Bool) (ch reg to : Int)
/-- A select, and where its cases lie. -/
structure Sel where (a : Option Addr) (cap : Nat) (cases : List Cas) (els : Int)
/-- A function, and where its code and its selects lie. -/
structure Fn where (params regs : Int) (ca : Option Addr) (ccap : Nat) (code : List Ins) (sa : Option Addr) (scap : Nat) (sels : List Sel)
/-- A variable. -/
structure Vr where (atomic : Bool) (init : Int)
/-- A program, and where its lists lie. -/
structure Pg where (va : Option Addr) (vcap : Nat) (vars : List Vr) (locks : Int) (ha : Option Addr) (hcap : Nat) (chans : List Int) (fa : Option Addr) (fcap : Nat) (funcs : List Fn)
instance : Inhabited Ins := ⟨⟨0, 0, 0, 0, 0⟩⟩
instance : Inhabited Cas := ⟨⟨false, 0, 0, 0⟩⟩
instance : Inhabited Sel := ⟨⟨none, 0, [], 0⟩⟩
instance : Inhabited Fn := ⟨⟨0, 0, none, 0, [], none, 0, []⟩⟩
instance : Inhabited Vr := ⟨⟨false, 0⟩⟩
/-- What an operation's operands are, letter by letter. -/
def form (op : Int) : ByteArray :=
  if 1 ≤ op ∧ op ≤ 15 then ⟨#[114, 114, 45, 45]⟩
  else if 16 ≤ op ∧ op ≤ 36 then ⟨#[114, 114, 114, 45]⟩
  else if op = 40 ∨ op = 44 ∨ op = 65 then ⟨#[114, 45, 45, 110]⟩
  else if op = 41 then ⟨#[114, 114, 45, 45]⟩
  else if op = 42 then ⟨#[116, 45, 45, 45]⟩
  else if op = 43 then ⟨#[114, 116, 45, 45]⟩
  else if op = 45 ∨ op = 64 then ⟨#[45, 45, 45, 45]⟩
  else if op = 50 then ⟨#[114, 118, 45, 45]⟩
  else if op = 51 then ⟨#[118, 114, 45, 45]⟩
  else if op = 52 then ⟨#[111, 97, 114, 45]⟩
  else if op = 53 then ⟨#[114, 97, 114, 119]⟩
  else if op = 54 then ⟨#[97, 114, 45, 45]⟩
  else if op = 55 ∨ op = 56 then ⟨#[108, 45, 45, 45]⟩
  else if op = 57 then ⟨#[114, 108, 45, 45]⟩
  else if op = 58 then ⟨#[99, 114, 45, 45]⟩
  else if op = 59 then ⟨#[111, 99, 111, 45]⟩
  else if op = 60 then ⟨#[99, 45, 45, 45]⟩
  else if op = 61 then ⟨#[115, 45, 45, 45]⟩
  else if op = 62 then ⟨#[111, 102, 112, 45]⟩
  else if op = 63 then ⟨#[114, 45, 45, 45]⟩
  else ⟨#[]⟩
/-- Is an operation run along? -/
def loc (op : Int) : Bool := decide (1 ≤ op ∧ op ≤ 36 ∨ 40 ≤ op ∧ op ≤ 45)
/-- Is an operation a step? -/
def vis (op : Int) : Bool := decide (50 ≤ op ∧ op ≤ 65)
def reg (f : Fn) (n : Int) : Int := if 0 ≤ n ∧ n < f.regs then 0 else 35
def obj (n most : Int) : Int := if 0 ≤ n ∧ n < most then 0 else 36
def tgt (f : Fn) (n : Int) : Int := if 0 ≤ n ∧ n < f.code.length then 0 else 38
/-- What is wrong with an operand of a letter. -/
def opd (P : Pg) (f : Fn) (x : Ins) (l : Nat) (n : Int) : Int :=
  if l = 111 then (if n = -1 then 0 else reg f n)
  else if l = 114 ∨ l = 119 then reg f n
  else if l = 118 then obj n P.vars.length
  else if l = 97 then (if obj n P.vars.length = 0 then (if (P.vars.getD n.toNat default).atomic then 0 else 37) else 36)
  else if l = 108 then obj n P.locks
  else if l = 99 then obj n P.chans.length
  else if l = 115 then obj n f.sels.length
  else if l = 102 then obj n P.funcs.length
  else if l = 116 then tgt f n
  else if l = 112 then (if (P.funcs.getD x.b.toNat default).params = 0 ∧ n ≠ 0 ∨ 0 < (P.funcs.getD x.b.toNat default).params ∧ (n < 0 ∨ f.regs - (P.funcs.getD x.b.toNat default).params < n) then 35 else 0)
  else 0
/-- The first that is wrong. -/
def firstE {α : Type} (g : α → Int) : List α → Int
  | [] => 0
  | a :: l => if g a = 0 then firstE g l else g a
/-- An instruction's operands, in order. -/
def Ins.ops (x : Ins) : List Int := [x.a, x.b, x.c, x.n]
def unused (s : ByteArray) (x : Ins) : Bool := decide (s[0]!.toNat = 45 ∧ x.a ≠ 0 ∨ s[1]!.toNat = 45 ∧ x.b ≠ 0 ∨ s[2]!.toNat = 45 ∧ x.c ≠ 0 ∨ s[3]!.toNat = 45 ∧ x.n ≠ 0)
/-- What is wrong with an instruction. -/
def ins (P : Pg) (f : Fn) (x : Ins) : Int :=
  if form x.op = ⟨#[]⟩ then 33 else if unused (form x.op) x = true then 34
  else firstE (fun (p : Nat × Int) => opd P f x p.1 p.2) [((form x.op)[0]!.toNat, x.a), ((form x.op)[1]!.toNat, x.b), ((form x.op)[2]!.toNat, x.c), ((form x.op)[3]!.toNat, x.n)]
/-- What is wrong with a case of a select. -/
def cas (P : Pg) (f : Fn) (c : Cas) : Int :=
  if obj c.ch P.chans.length = 0 then
    (if (c.send = true ∨ c.reg ≠ -1) ∧ ¬ reg f c.reg = 0 then 35 else if c.send = true ∧ P.chans.getD c.ch.toNat 0 = 0 then 37 else tgt f c.to)
  else 36
/-- What is wrong with a select. -/
def sel (P : Pg) (f : Fn) (s : Sel) : Int :=
  if firstE (cas P f) s.cases = 0 then (if s.els = -1 then 0 else tgt f s.els) else firstE (cas P f) s.cases
/-- Are a function's sizes right? -/
def szs (f : Fn) (main : Bool) : Bool :=
  decide (0 ≤ f.regs ∧ f.regs ≤ 8 ∧ 0 ≤ f.params ∧ f.params ≤ f.regs ∧ ¬ (main = true ∧ f.params ≠ 0) ∧ 1 ≤ f.code.length ∧ f.code.length ≤ 64 ∧ f.sels.length ≤ 4) &&
  f.sels.all fun s => decide (1 ≤ s.cases.length ∧ s.cases.length ≤ 4)
/-- The operation at the end. -/
def lastOp (f : Fn) : Int := (f.code.getD (f.code.length - 1) default).op
/-- What is wrong with a function. -/
def fnc (P : Pg) (f : Fn) (main : Bool) : Int :=
  if szs f main = true then
    (if firstE (sel P f) f.sels = 0 then
      (if firstE (ins P f) f.code = 0 then (if lastOp f = 42 ∨ lastOp f = 45 ∨ lastOp f = 61 then 0 else 39)
       else firstE (ins P f) f.code)
     else firstE (sel P f) f.sels)
  else 32
def fncs (P : Pg) : Bool → List Fn → Int
  | _, [] => 0
  | m, f :: l => if fnc P f m = 0 then fncs P false l else fnc P f m
def whole (P : Pg) : Int :=
  if P.vars.length ≤ 8 ∧ 0 ≤ P.locks ∧ P.locks ≤ 4 ∧ P.chans.length ≤ 4 ∧ 1 ≤ P.funcs.length ∧ P.funcs.length ≤ 8 then
    (if P.chans.all (fun n => decide (0 ≤ n ∧ n ≤ 4)) = true then 0 else 31)
  else 30
/-- What is wrong with a program. -/
def chk (P : Pg) : Int := if whole P = 0 then fncs P true P.funcs else whole P
/-- Is a program right? -/
def right (P : Pg) : Bool := chk P == 0
theorem ite_P {c : Prop} [Decidable c] {P : ByteArray → Prop} {a b : ByteArray} (ha : c → P a) (hb : ¬ c → P b) : P (if c then a else b) := by
  split
  · exact ha ‹_›
  · exact hb ‹_›
theorem form_cases (op : Int) : form op = ⟨#[]⟩ ∨ (form op).size = 4 := by
  show (fun s : ByteArray => s = ⟨#[]⟩ ∨ s.size = 4) (form op)
  unfold form
  iterate 20 refine ite_P (P := fun s : ByteArray => s = ⟨#[]⟩ ∨ s.size = 4) (fun _ => Or.inr rfl) (fun _ => ?_)
  exact Or.inl rfl
theorem form_none (op : Int) : form op = ⟨#[]⟩ ↔ loc op = false ∧ vis op = false := by
  constructor
  · show (fun s : ByteArray => s = ⟨#[]⟩ → loc op = false ∧ vis op = false) (form op)
    unfold form
    iterate 20 refine ite_P (P := fun s : ByteArray => s = ⟨#[]⟩ → loc op = false ∧ vis op = false) (fun _ h => absurd (congrArg ByteArray.size h) (by decide)) (fun _ => ?_)
    intro _
    unfold loc vis
    simp only [decide_eq_false_iff_not]
    omega
  · intro h
    unfold loc vis at h
    simp only [decide_eq_false_iff_not] at h
    show (fun s : ByteArray => s = ⟨#[]⟩) (form op)
    unfold form
    iterate 20 refine ite_P (P := fun s : ByteArray => s = ⟨#[]⟩) (fun q => by omega) (fun _ => ?_)
    rfl
end Go.Proofs.YtlhhmlfcodmebaaGreatDoor.Pg
namespace Go.Proofs.YtlhhmlfcodmebaaGreatDoor.Pg
set_option linter.unusedVariables false
set_option linter.unusedSimpArgs false
open Go.RowKit
/-- An int. -/
def I64 (x : Int) : Prop := -9223372036854775808 ≤ x ∧ x ≤ 9223372036854775807
/-- The cells lie from an address on. -/
def Lies (w : World) (a : Option Addr) (cs : List Value) : Prop := cs = [] ∨ ∃ b o, a = some ⟨b, o, none⟩ ∧ b < w.heap.size ∧ w.rangeAt b o cs
def Ins.cs (x : Ins) : List Value := [.int .i64 x.op, .int .i64 x.a, .int .i64 x.b, .int .i64 x.c, .int .i64 x.n]
def Cas.cs (x : Cas) : List Value := [.bool x.send, .int .i64 x.ch, .int .i64 x.reg, .int .i64 x.to]
def Sel.cs (s : Sel) : List Value := [.slice s.a s.cases.length s.cap, .int .i64 s.els]
def Fn.cs (f : Fn) : List Value := [.int .i64 f.params, .int .i64 f.regs, .slice f.ca f.code.length f.ccap, .slice f.sa f.sels.length f.scap]
def Vr.cs (x : Vr) : List Value := [.bool x.atomic, .int .i64 x.init]
def Pg.cs (p : Pg) : List Value := [.slice p.va p.vars.length p.vcap, .int .i64 p.locks, .slice p.ha p.chans.length p.hcap, .slice p.fa p.funcs.length p.fcap]
def Pg.v (p : Pg) : Value := .agg #[.slice p.va p.vars.length p.vcap, .int .i64 p.locks, .slice p.ha p.chans.length p.hcap, .slice p.fa p.funcs.length p.fcap]
def Fn.v (f : Fn) : Value := .agg #[.int .i64 f.params, .int .i64 f.regs, .slice f.ca f.code.length f.ccap, .slice f.sa f.sels.length f.scap]
def Ins.v (x : Ins) : Value := .agg #[.int .i64 x.op, .int .i64 x.a, .int .i64 x.b, .int .i64 x.c, .int .i64 x.n]
def Ins.ok (x : Ins) : Prop := I64 x.op ∧ I64 x.a ∧ I64 x.b ∧ I64 x.c ∧ I64 x.n
def Cas.ok (x : Cas) : Prop := I64 x.ch ∧ I64 x.reg ∧ I64 x.to
def Len (n : Nat) : Prop := n ≤ 140737488351232
structure Sel.In (w : World) (s : Sel) : Prop where
  lies : Lies w s.a (s.cases.flatMap Cas.cs)
  oks : ∀ x ∈ s.cases, x.ok
  els : I64 s.els
  len : Len s.cases.length
structure Fn.In (w : World) (f : Fn) : Prop where
  code : Lies w f.ca (f.code.flatMap Ins.cs)
  selL : Lies w f.sa (f.sels.flatMap Sel.cs)
  sels : ∀ s ∈ f.sels, s.In w
  oks : ∀ x ∈ f.code, x.ok
  par : I64 f.params
  reg : I64 f.regs
  lenC : Len f.code.length
  lenS : Len f.sels.length
structure Pg.In (w : World) (p : Pg) : Prop where
  varL : Lies w p.va (p.vars.flatMap Vr.cs)
  chanL : Lies w p.ha (p.chans.map (Value.int .i64))
  funcL : Lies w p.fa (p.funcs.flatMap Fn.cs)
  funcs : ∀ f ∈ p.funcs, f.In w
  inits : ∀ x ∈ p.vars, I64 x.init
  chans : ∀ n ∈ p.chans, I64 n
  locks : I64 p.locks
  lenV : Len p.vars.length
  lenH : Len p.chans.length
  lenF : Len p.funcs.length
theorem Lies.below {w w1 : World} {a : Option Addr} {cs : List Value} (h : Lies w a cs) (hb : Below w.heap.size w w1) : Lies w1 a cs := by
  rcases h with h | ⟨b, o, e, hl, h⟩
  · exact .inl h
  · exact .inr ⟨b, o, e, by have := hb.size; omega, fun j v hv => by rw [hb.cell (by simpa using hl)]; exact h j v hv⟩
theorem Sel.In.below {w w1 : World} {s : Sel} (h : s.In w) (hb : Below w.heap.size w w1) : s.In w1 := ⟨h.lies.below hb, h.oks, h.els, h.len⟩
theorem Fn.In.below {w w1 : World} {f : Fn} (h : f.In w) (hb : Below w.heap.size w w1) : f.In w1 := ⟨h.code.below hb, h.selL.below hb, fun s hs => (h.sels s hs).below hb, h.oks, h.par, h.reg, h.lenC, h.lenS⟩
theorem Pg.In.below {w w1 : World} {p : Pg} (h : p.In w) (hb : Below w.heap.size w w1) : p.In w1 := ⟨h.varL.below hb, h.chanL.below hb, h.funcL.below hb, fun f hf => (h.funcs f hf).below hb, h.inits, h.chans, h.locks, h.lenV, h.lenH, h.lenF⟩
/-- An element's cells among all. -/
theorem flat_get {α : Type} (f : α → List Value) (c : Nat) (hf : ∀ x, (f x).length = c) : ∀ (l : List α) (k : Nat) (x : α), l[k]? = some x → ∀ j v, (f x)[j]? = some v → (l.flatMap f)[k * c + j]? = some v
  | [], k, x, h, j, v, hv => by simp at h
  | y :: l, 0, x, h, j, v, hv => by
    simp at h; subst h
    have hj : j < (f y).length := (List.getElem?_eq_some_iff.1 hv).1
    simp only [List.flatMap_cons, Nat.zero_mul, Nat.zero_add]
    rw [List.getElem?_append_left hj]; exact hv
  | y :: l, k + 1, x, h, j, v, hv => by
    simp at h
    have := flat_get f c hf l k x h j v hv
    simp only [List.flatMap_cons]
    rw [List.getElem?_append_right (by rw [hf, Nat.succ_mul]; omega), hf, show (k + 1) * c + j - c = k * c + j by rw [Nat.succ_mul]; omega]
    exact this
/-- An element of a list that lies in memory. -/
theorem Lies.get {α : Type} {w : World} {a : Option Addr} {l : List α} (f : α → List Value) (c : Nat) (hf : ∀ x, (f x).length = c) (hc : 0 < c) (h : Lies w a (l.flatMap f)) (hl : 0 < l.length) :
    ∃ b o, a = some ⟨b, o, none⟩ ∧ b < w.heap.size ∧ ∀ k x, l[k]? = some x → w.rangeAt b (o + k * c) (f x) := by
  rcases h with h | ⟨b, o, e, hlt, h⟩
  · cases l with
    | nil => simp at hl
    | cons y l => have := hf y; rw [List.flatMap_cons, List.append_eq_nil_iff] at h; rw [h.1] at this; simp at this; omega
  · exact ⟨b, o, e, hlt, fun k x hk j v hv => by rw [Nat.add_assoc]; exact h _ _ (flat_get f c hf l k x hk j v hv)⟩
theorem Pg.In.chan {w : World} {p : Pg} (h : p.In w) (hl : 0 < p.chans.length) : ∃ b o, p.ha = some ⟨b, o, none⟩ ∧ b < w.heap.size ∧ ∀ k x, p.chans[k]? = some x → w.cell? ⟨b, o + k, none⟩ = some (.int .i64 x) := by
  rcases h.chanL with e | ⟨b, o, e, hlt, h⟩
  · simp at e; rw [e] at hl; simp at hl
  · exact ⟨b, o, e, hlt, fun k x hk => h k _ (by rw [List.getElem?_map, hk]; rfl)⟩
theorem Ins.cs_len (x : Ins) : x.cs.length = 5 := rfl
theorem Cas.cs_len (x : Cas) : x.cs.length = 4 := rfl
theorem Sel.cs_len (x : Sel) : x.cs.length = 2 := rfl
theorem Fn.cs_len (x : Fn) : x.cs.length = 4 := rfl
theorem Vr.cs_len (x : Vr) : x.cs.length = 2 := rfl
theorem Pg.In.func {w : World} {p : Pg} (h : p.In w) (hl : 0 < p.funcs.length) : ∃ b o, p.fa = some ⟨b, o, none⟩ ∧ b < w.heap.size ∧ ∀ k f, p.funcs[k]? = some f → w.rangeAt b (o + k * 4) f.cs := h.funcL.get Fn.cs 4 Fn.cs_len (by omega) hl
theorem Pg.In.var {w : World} {p : Pg} (h : p.In w) (hl : 0 < p.vars.length) : ∃ b o, p.va = some ⟨b, o, none⟩ ∧ b < w.heap.size ∧ ∀ k f, p.vars[k]? = some f → w.rangeAt b (o + k * 2) f.cs := h.varL.get Vr.cs 2 Vr.cs_len (by omega) hl
theorem Fn.In.ins {w : World} {p : Fn} (h : p.In w) (hl : 0 < p.code.length) : ∃ b o, p.ca = some ⟨b, o, none⟩ ∧ b < w.heap.size ∧ ∀ k f, p.code[k]? = some f → w.rangeAt b (o + k * 5) f.cs := h.code.get Ins.cs 5 Ins.cs_len (by omega) hl
theorem Fn.In.sel {w : World} {p : Fn} (h : p.In w) (hl : 0 < p.sels.length) : ∃ b o, p.sa = some ⟨b, o, none⟩ ∧ b < w.heap.size ∧ ∀ k f, p.sels[k]? = some f → w.rangeAt b (o + k * 2) f.cs := h.selL.get Sel.cs 2 Sel.cs_len (by omega) hl
theorem Sel.In.case {w : World} {p : Sel} (h : p.In w) (hl : 0 < p.cases.length) : ∃ b o, p.a = some ⟨b, o, none⟩ ∧ b < w.heap.size ∧ ∀ k f, p.cases[k]? = some f → w.rangeAt b (o + k * 4) f.cs := h.lies.get Cas.cs 4 Cas.cs_len (by omega) hl
end Go.Proofs.YtlhhmlfcodmebaaGreatDoor.Pg
namespace Go.Proofs.YtlhhmlfcodmebaaGreatDoor.Pg
set_option linter.unusedVariables false
set_option linter.unusedSimpArgs false
/-- The same, but for where the lists lie. -/
def Sel.bare (s : Sel) : Sel := ⟨none, 0, s.cases, s.els⟩
def Fn.bare (f : Fn) : Fn := ⟨f.params, f.regs, none, 0, f.code, none, 0, f.sels.map Sel.bare⟩
def Pg.bare (P : Pg) : Pg := ⟨none, 0, P.vars, P.locks, none, 0, P.chans, none, 0, P.funcs.map Fn.bare⟩
end Go.Proofs.YtlhhmlfcodmebaaGreatDoor.Pg
namespace Go.Proofs.YtlhhmlfcodmebaaGreatDoor.Pg
set_option linter.unusedVariables false
set_option linter.unusedSimpArgs false
open Go.Proofs.YtlhhmlfcodmebaaGreatDoor.Wd (wrd num)
/-- The lines of a text, behind what is open. -/
def lns : List UInt8 → List UInt8 → List (List UInt8)
  | [], cur => if cur = [] then [] else [cur]
  | c :: l, cur => if c = 10 then cur :: lns l [] else lns l (cur ++ [c])
/-- The names of the operations. -/
def names : List (List UInt8) := [[], [110, 101, 103], [110, 111, 116], [97, 98, 115], [111, 110, 101, 115], [108, 101, 97, 100], [116, 114, 97, 105, 108], [102, 108, 105, 112], [98, 111, 111, 108], [110, 111], [105, 56], [105, 49, 54], [105, 51, 50], [117, 56], [117, 49, 54], [117, 51, 50], [97, 100, 100], [115, 117, 98], [109, 117, 108], [100, 105, 118], [114, 101, 109], [97, 110, 100], [111, 114], [120, 111, 114], [99, 108, 101, 97, 114], [115, 104, 108], [115, 104, 114], [117, 115, 104, 114], [114, 111, 116, 108], [101, 113], [110, 101], [108, 116], [108, 101], [117, 108, 116], [109, 105, 110], [109, 97, 120], [104, 105, 103, 104], [], [], [], [99, 111, 110, 115, 116], [109, 111, 118, 101], [106, 117, 109, 112], [105, 102], [97, 115, 115, 101, 114, 116], [101, 110, 100], [], [], [], [], [108, 111, 97, 100], [115, 116, 111, 114, 101], [98, 117, 109, 112], [99, 97, 115], [97, 119, 97, 105, 116], [108, 111, 99, 107], [117, 110, 108, 111, 99, 107], [116, 114, 121], [115, 101, 110, 100], [114, 101, 99, 118], [99, 108, 111, 115, 101], [115, 101, 108, 101, 99, 116], [115, 112, 97, 119, 110], [106, 111, 105, 110], [121, 105, 101, 108, 100], [110, 111, 116, 101]]
def opName (op : Nat) : List UInt8 := names.getD op []
/-- The other first words. -/
def fixed : List (List UInt8) := [[115, 99, 97, 114, 97, 98], [118, 97, 114], [97, 116, 111, 109, 105, 99], [109, 117, 116, 101, 120], [99, 104, 97, 110], [102, 117, 110, 99], [99, 104, 111, 111, 115, 101], [111, 110, 115, 101, 110, 100], [111, 110, 114, 101, 99, 118]]
/-- Where a word stands in a list, from k on; 0: nowhere. -/
def idx (w : List UInt8) : List (List UInt8) → Nat → Nat
  | [], _ => 0
  | x :: l, k => if x = w then k else idx w l (k + 1)
/-- An operation by its name; 0: none. -/
def opAt (w : List UInt8) : Nat := if w = [] then 0 else idx w (names.drop 1) 1
/-- A first word's kind of line; 0: none. -/
def kind (w : List UInt8) : Nat := if idx w fixed 1 ≠ 0 then idx w fixed 1 else if opAt w ≠ 0 then 10 else 0
def opOf (w : List UInt8) : Nat := if idx w fixed 1 ≠ 0 then 0 else opAt w
/-- May a kind of line stand behind one of a kind? -/
def may (k last : Nat) : Bool :=
  if k = 1 then decide (last = 0) else if k = 2 ∨ k = 3 then decide (1 ≤ last ∧ last ≤ 3) else if k = 4 then decide (1 ≤ last ∧ last ≤ 4) else if k = 5 then decide (1 ≤ last ∧ last ≤ 5)
  else if k = 6 then decide (1 ≤ last) else if k = 7 then decide (6 ≤ last ∧ last ≤ 9) else if k = 8 ∨ k = 9 then decide (7 ≤ last ∧ last ≤ 9) else decide (6 ≤ last)
/-- The letters of a kind's words behind the first one. -/
def lets (k op : Nat) : List UInt8 :=
  if k = 2 ∨ k = 3 then [110] else if k = 5 then [78] else if k = 6 then [78, 78] else if k = 7 then [84] else if k = 8 then [99, 114, 116] else if k = 9 then [99, 111, 116]
  else if k = 10 then (form op).data.toList.filter (fun c => decide (c ≠ 45)) else []
def headOf (c : UInt8) : UInt8 := if c = 111 ∨ c = 119 ∨ c = 112 then 114 else if c = 97 then 118 else if c = 116 ∨ c = 84 then 64 else c
/-- A number from 0 to 999999999. -/
def sml (w : List UInt8) : Int × Int := if (num w).2 = true ∧ 0 ≤ (num w).1 ∧ (num w).1 ≤ 999999999 then ((num w).1, 0) else (0, 51)
/-- A number. -/
def nmb (w : List UInt8) : Int × Int := if (num w).2 = true then ((num w).1, 0) else (0, 51)
/-- A number behind a letter. -/
def ltr (w : List UInt8) (h : UInt8) (none : Bool) : Int × Int := if none = true ∧ w = [95] then (-1, 0) else if w.head? = some h then sml w.tail else (0, 50)
/-- A word's number by its letter. -/
def val (c : UInt8) (w : List UInt8) : Int × Int := if c = 110 then nmb w else if c = 78 then sml w else ltr w (headOf c) (decide (c = 111 ∨ c = 84))
def vals : List UInt8 → List (List UInt8) → List Int × Int
  | [], _ => ([], 0)
  | _ :: _, [] => ([], 0)
  | c :: cs, w :: ws => if (val c w).2 = 0 then ((val c w).1 :: (vals cs ws).1, (vals cs ws).2) else ([], (val c w).2)
def spread : List UInt8 → List Int → List Int
  | [], _ => []
  | c :: cs, xs => if c = 45 then 0 :: spread cs xs else xs.headD 0 :: spread cs xs.tail
def insOf (op : Nat) (xs : List Int) : Ins := ⟨op, (spread (form op).data.toList xs).getD 0 0, (spread (form op).data.toList xs).getD 1 0, (spread (form op).data.toList xs).getD 2 0, (spread (form op).data.toList xs).getD 3 0⟩
/-- The last of a list, changed. -/
def onLast {α : Type} (g : α → α) : List α → List α
  | [] => []
  | [a] => [g a]
  | a :: b :: l => a :: onLast g (b :: l)
theorem onLast_snoc {α : Type} (g : α → α) (a : α) : ∀ l : List α, onLast g (l ++ [a]) = l ++ [g a]
  | [] => rfl
  | [b] => rfl
  | b :: c :: l => by
    have := onLast_snoc g a (c :: l)
    rw [List.cons_append, List.cons_append] at *
    rw [onLast, this]
    rfl
/-- A program with a line more. -/
def taken (p : Pg) (k op : Nat) (xs : List Int) : Pg :=
  if k = 2 then { p with vars := p.vars ++ [⟨false, xs.headD 0⟩] } else if k = 3 then { p with vars := p.vars ++ [⟨true, xs.headD 0⟩] }
  else if k = 4 then { p with locks := p.locks + 1 } else if k = 5 then { p with chans := p.chans ++ [xs.headD 0] }
  else if k = 6 then { p with funcs := p.funcs ++ [⟨xs.headD 0, xs.getD 1 0, none, 0, [], none, 0, []⟩] }
  else if k = 7 then { p with funcs := onLast (fun f => { f with sels := f.sels ++ [⟨none, 0, [], xs.headD 0⟩] }) p.funcs }
  else if k = 8 ∨ k = 9 then { p with funcs := onLast (fun f => { f with sels := onLast (fun s => { s with cases := s.cases ++ [⟨decide (k = 8), xs.headD 0, xs.getD 1 0, xs.getD 2 0⟩] }) f.sels }) p.funcs }
  else if k = 10 then { p with funcs := onLast (fun f => { f with code := f.code ++ [insOf op xs] }) p.funcs }
  else p
/-- A line's words read: the error. -/
def bad (last : Nat) : List (List UInt8) → Int
  | [] => 0
  | w :: ws => if kind w = 0 then 50 else if may (kind w) last = false then 53 else if ws.length ≠ (lets (kind w) (opOf w)).length then 52 else (vals (lets (kind w) (opOf w)) ws).2
/-- .. and where there is none: the program, the kind. -/
def good (p : Pg) (last : Nat) : List (List UInt8) → Pg × Nat
  | [] => (p, last)
  | w :: ws => (taken p (kind w) (opOf w) (vals (lets (kind w) (opOf w)) ws).1, kind w)
/-- Line by line: the program, the last kind, the error, its line. -/
def reads : List (List UInt8) → Pg → Nat → Nat → (Pg × Nat) × Int × Nat
  | [], p, last, _ => ((p, last), 0, 0)
  | l :: ls, p, last, n => if bad last (wrd l []) ≠ 0 then ((p, last), bad last (wrd l []), n + 1) else reads ls (good p last (wrd l [])).1 (good p last (wrd l [])).2 (n + 1)
def Pg.no : Pg := ⟨none, 0, [], 0, none, 0, [], none, 0, []⟩
/-- The program of a text. -/
def prs (s : List UInt8) : Pg × Int × Int :=
  if 65536 < s.length then (Pg.no, 2, 0)
  else if (reads (lns s []) Pg.no 0 0).2.1 ≠ 0 then (Pg.no, (reads (lns s []) Pg.no 0 0).2.1, (reads (lns s []) Pg.no 0 0).2.2)
  else if (reads (lns s []) Pg.no 0 0).1.2 = 0 then (Pg.no, 53, 0)
  else if chk (reads (lns s []) Pg.no 0 0).1.1 ≠ 0 then (Pg.no, chk (reads (lns s []) Pg.no 0 0).1.1, 0)
  else ((reads (lns s []) Pg.no 0 0).1.1, 0, 0)
end Go.Proofs.YtlhhmlfcodmebaaGreatDoor.Pg
namespace Go.Proofs.YtlhhmlfcodmebaaGreatDoor.Pg
set_option linter.unusedVariables false
set_option linter.unusedSimpArgs false
open Go.ChangeShapes Go.WideShapes Go.RowKit
/-- A block, in a later world. -/
structure Blk (b : Nat) (arr : Array Value) (W : World) : Prop where
  lt : b < W.heap.size
  cell : ∀ o, W.cell? ⟨b, o, none⟩ = arr[o]?
  fr : ∀ o, W.frozen? ⟨b, o, none⟩ = false
theorem Blk.new (W : World) (arr : Array Value) (T : TypeId) : Blk W.heap.size arr (W.alloc (.cells arr T)) := ⟨by simp, fun _ => World.cell?_alloc_new _ _ _ _, fun _ => World.frozen?_alloc_new _ _ _ _⟩
theorem Blk.new' (W : World) (b : Nat) (arr : Array Value) (T : TypeId) (hb : b = W.heap.size) : Blk b arr (W.alloc (.cells arr T)) := by subst hb; exact Blk.new _ _ _
theorem Blk.below {b : Nat} {arr : Array Value} {W w1 : World} (h : Blk b arr W) (hb : Below W.heap.size W w1) : Blk b arr w1 :=
  ⟨by have := hb.size; have := h.lt; omega, fun o => by rw [hb.cell (by simpa using h.lt)]; exact h.cell o, fun o => by rw [hb.frozen (by simpa using h.lt)]; exact h.fr o⟩
theorem Blk.alloc {b : Nat} {arr : Array Value} {W : World} (h : Blk b arr W) (O : Obj) : Blk b arr (W.alloc O) := h.below (Below.alloc (Below.refl _ _) (Nat.le_refl _) _)
theorem Blk.drewN {b : Nat} {arr : Array Value} {W : World} (h : Blk b arr W) (n : Nat) : Blk b arr (W.drewN n) := h.below (below_drewN (Below.refl _ _) _)
theorem Blk.drew {b : Nat} {arr : Array Value} {W : World} (h : Blk b arr W) : Blk b arr W.drew := h.below (Below.drew (Below.refl _ _))
theorem Blk.setOther {b : Nat} {arr : Array Value} {W : World} (h : Blk b arr W) (c o : Nat) (v : Value) (ne : b ≠ c) : Blk b arr (W.setCell ⟨c, o, none⟩ v) :=
  ⟨by simpa [World.setCell] using h.lt, fun j => by rw [World.cell?_setCell_other _ _ _ _ (by simp only [ne_eq, Addr.mk.injEq]; omega)]; exact h.cell j, fun j => by rw [World.frozen?_setCell]; exact h.fr j⟩
theorem Blk.set {b : Nat} {arr : Array Value} {W : World} (h : Blk b arr W) (o : Nat) (ho : o < arr.size) (v : Value) : Blk b (arr.setIfInBounds o v) (W.setCell ⟨b, o, none⟩ v) := by
  refine ⟨by simpa [World.setCell] using h.lt, fun j => ?_, fun j => by rw [World.frozen?_setCell]; exact h.fr j⟩
  by_cases hj : j = o
  · subst hj
    rw [World.cell?_setCell_same _ _ _ ((h.cell j).trans (Array.getElem?_eq_getElem ho))]
    simp [ho]
  · rw [World.cell?_setCell_other _ _ _ _ (by simp only [ne_eq, Addr.mk.injEq, true_and, and_true]; omega), h.cell j]
    simp [show ¬ o = j from fun e => hj e.symm]
/-- Nothing below w's blocks is touched; the blocks told hold what is told. -/
structure Env (w : World) (bs : List (Nat × Array Value)) (W : World) : Prop where
  acc : Below w.heap.size w W
  blk : ∀ p ∈ bs, Blk p.1 p.2 W
variable {w W w1 : World} {bs : List (Nat × Array Value)}
theorem Env.nil : Env w [] w := ⟨Below.refl _ _, fun _ h => by cases h⟩
theorem Env.next (E : Env w bs W) (hb : Below W.heap.size W w1) : Env w bs w1 := ⟨E.acc.trans (hb.mono E.acc.size), fun p hp => (E.blk p hp).below hb⟩
theorem Env.push (E : Env w bs W) (n : Nat) (hn : n = W.heap.size) (arr : Array Value) (T : TypeId) : Env w ((n, arr) :: bs) (W.alloc (.cells arr T)) := by
  subst hn
  have E' := E.next (Below.alloc (Below.refl W.heap.size W) (Nat.le_refl _) (.cells arr T))
  refine ⟨E'.acc, fun p hp => ?_⟩
  rcases List.mem_cons.1 hp with rfl | hp
  · exact Blk.new _ _ _
  · exact E'.blk p hp
theorem Env.skip (E : Env w bs W) (O : Obj) : Env w bs (W.alloc O) := E.next (Below.alloc (Below.refl _ _) (Nat.le_refl _) _)
theorem Env.drew (E : Env w bs W) : Env w bs W.drew := E.next (Below.drew (Below.refl _ _))
theorem Env.drewN (E : Env w bs W) (n : Nat) : Env w bs (W.drewN n) := E.next (below_drewN (Below.refl _ _) _)
theorem Env.set {b : Nat} {arr : Array Value} (E : Env w ((b, arr) :: bs) W) (hb : w.heap.size ≤ b) (ne : ∀ p ∈ bs, p.1 ≠ b) (o : Nat) (ho : o < arr.size) (v : Value) : Env w ((b, arr.setIfInBounds o v) :: bs) (W.setCell ⟨b, o, none⟩ v) := by
  refine ⟨E.acc.setCell (by simpa using hb) _, fun p hp => ?_⟩
  rcases List.mem_cons.1 hp with rfl | hp
  · exact (E.blk (b, arr) (List.mem_cons_self ..)).set o ho v
  · exact (E.blk p (List.mem_cons_of_mem _ hp)).setOther b o v (ne p hp)
theorem Env.sub {cs : List (Nat × Array Value)} (E : Env w bs W) (h : ∀ p ∈ cs, p ∈ bs) : Env w cs W := ⟨E.acc, fun p hp => E.blk p (h p hp)⟩
theorem Env.h0 {b : Nat} {arr : Array Value} (E : Env w ((b, arr) :: bs) W) : Blk b arr W := E.blk (b, arr) (List.mem_cons_self ..)
theorem Env.tl {p : Nat × Array Value} (E : Env w (p :: bs) W) : Env w bs W := ⟨E.acc, fun q hq => E.blk q (List.mem_cons_of_mem _ hq)⟩
theorem Env.cells4 {b0 b1 b2 b3 : Nat} {a0 a1 a2 a3 : Array Value} (E : Env w [(b0, a0), (b1, a1), (b2, a2), (b3, a3)] W) :
    (∀ o, W.cell? ⟨b0, o, none⟩ = a0[o]?) ∧ (∀ o, W.cell? ⟨b1, o, none⟩ = a1[o]?) ∧ (∀ o, W.cell? ⟨b2, o, none⟩ = a2[o]?) ∧ ∀ o, W.cell? ⟨b3, o, none⟩ = a3[o]? := ⟨E.h0.cell, E.tl.h0.cell, E.tl.tl.h0.cell, E.tl.tl.tl.h0.cell⟩
theorem Env.cells3 {b0 b1 b2 : Nat} {a0 a1 a2 : Array Value} (E : Env w [(b0, a0), (b1, a1), (b2, a2)] W) :
    (∀ o, W.cell? ⟨b0, o, none⟩ = a0[o]?) ∧ (∀ o, W.cell? ⟨b1, o, none⟩ = a1[o]?) ∧ ∀ o, W.cell? ⟨b2, o, none⟩ = a2[o]? := ⟨E.h0.cell, E.tl.h0.cell, E.tl.tl.h0.cell⟩
theorem Env.cells2 {b0 b1 : Nat} {a0 a1 : Array Value} (E : Env w [(b0, a0), (b1, a1)] W) :
    (∀ o, W.cell? ⟨b0, o, none⟩ = a0[o]?) ∧ ∀ o, W.cell? ⟨b1, o, none⟩ = a1[o]? := ⟨E.h0.cell, E.tl.h0.cell⟩
end Go.Proofs.YtlhhmlfcodmebaaGreatDoor.Pg
namespace Go.Proofs.YtlhhmlfcodmebaaGreatDoor.Pg
set_option linter.unusedVariables false
set_option linter.unusedSimpArgs false
open Go.ChangeShapes Go.WideShapes Go.RowKit
/-- What stands at the end. -/
def ToS (a1 : Act) (S : World → Prop) : Exit → Act → World → Prop
  | .normal, a', w' => a' = a1 ∧ S w'
  | _, _, _ => False
theorem ToS.mk {a1 : Act} {S : World → Prop} {w : World} (h : S w) : ToS a1 S .normal a1 w := ⟨rfl, h⟩
theorem wp_toS {P : Program} {c : Code} {Q : Exit → Act → World → Prop} {a : Act} {w : World} {a1 : Act} (S : World → Prop)
    (h : c.wp P (ToS a1 S) a w) (k : ∀ w1, S w1 → Q .normal a1 w1) : c.wp P Q a w :=
  Code.wp_mono (fun e a' w' q => by
    cases e with
    | normal => obtain ⟨rfl, hs⟩ := q; exact k _ hs
    | _ => exact q.elim) h
end Go.Proofs.YtlhhmlfcodmebaaGreatDoor.Pg
