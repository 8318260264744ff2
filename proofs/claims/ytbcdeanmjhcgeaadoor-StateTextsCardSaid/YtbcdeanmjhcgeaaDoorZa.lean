/- Several texts of one proof, one behind the other. Programs, told plainly: when one is right. No condition. | Programs in memory: where their lists lie, and that a call which lays new blocks alone leaves them. No condition. | States of the machine, told plainly: when one is a program's, how local instructions run. No condition. | A state's cells, place by place. No condition. | Arrays by value: an element, whatever the place. No condition. | Blocks that a call has laid, in later worlds: what they hold, and that nothing older is touched. No condition. | A whole state, read out of its block. No condition. | A state's goroutines and channels, as arrays by value: loaded whole, one taken out. No condition. -/
import Derived.WalkKit
import Derived.Below
import Derived.Deep.MidRow
import Derived.WalkSmall
import Derived.Test.YtbcdeanmjhcgeaaDoorProg
import Derived.ChangeKeysEq
namespace Go.Proofs.YtbcdeanmjhcgeaaDoor.Pg
set_option linter.unusedVariables false
set_option linter.unusedSimpArgs false
/-- An instruction. -/
structure Ins where (op a b c n : Int)
/-- A case of a select. -/
structure Cas where (send : Bool) (ch reg to : Int)
/-- A select, and where its cases lie. -/
structure Sel where (a : Option Addr) (cap : Nat) (cases : List Cas) (els : Int)
/-- A function, and where its code and its selects lie. -/
structure Fn where (params regs : Int) (ca : Option Addr) (ccap : Nat) (code : List Ins) (sa : Option Addr) (scap : Nat) (sels : List Sel)
/-- A variable. -/
structure Vr where (atomic : Bool) (init : Int)
/-- A program, and where its lists lie. -/
structure Pg where (va : Option Addr) (vcap : Nat) (vars : List Vr) (locks : Int) (ha : Option Addr) (hcap : Nat) (chans : List Int) (fa : Option Addr) (fcap : Nat) (funcs : List Fn)
instance : Inhabited Ins := ⟨⟨0, 0, 0, 0, 0⟩⟩
instance : Inhabited Cas := ⟨⟨false, 0, 0, 0⟩⟩
instance : Inhabited Sel := ⟨⟨none, 0, [], 0⟩⟩
instance : Inhabited Fn := ⟨⟨0, 0, none, 0, [], none, 0, []⟩⟩
instance : Inhabited Vr := ⟨⟨false, 0⟩⟩
/-- What an operation's operands are, letter by letter. -/
def form (op : Int) : ByteArray :=
  if 1 ≤ op ∧ op ≤ 15 then ⟨#[114, 114, 45, 45]⟩
  else if 16 ≤ op ∧ op ≤ 36 then ⟨#[114, 114, 114, 45]⟩
  else if op = 40 ∨ op = 44 ∨ op = 65 then ⟨#[114, 45, 45, 110]⟩
  else if op = 41 then ⟨#[114, 114, 45, 45]⟩
  else if op = 42 then ⟨#[116, 45, 45, 45]⟩
  else if op = 43 then ⟨#[114, 116, 45, 45]⟩
  else if op = 45 ∨ op = 64 then ⟨#[45, 45, 45, 45]⟩
  else if op = 50 then ⟨#[114, 118, 45, 45]⟩
  else if op = 51 then ⟨#[118, 114, 45, 45]⟩
  else if op = 52 then ⟨#[111, 97, 114, 45]⟩
  else if op = 53 then ⟨#[114, 97, 114, 119]⟩
  else if op = 54 then ⟨#[97, 114, 45, 45]⟩
  else if op = 55 ∨ op = 56 then ⟨#[108, 45, 45, 45]⟩
  else if op = 57 then ⟨#[114, 108, 45, 45]⟩
  else if op = 58 then ⟨#[99, 114, 45, 45]⟩
  else if op = 59 then ⟨#[111, 99, 111, 45]⟩
  else if op = 60 then ⟨#[99, 45, 45, 45]⟩
  else if op = 61 then ⟨#[115, 45, 45, 45]⟩
  else if op = 62 then ⟨#[111, 102, 112, 45]⟩
  else if op = 63 then ⟨#[114, 45, 45, 45]⟩
  else ⟨#[]⟩
/-- Is an operation run along? -/
def loc (op : Int) : Bool := decide (1 ≤ op ∧ op ≤ 36 ∨ 40 ≤ op ∧ op ≤ 45)
/-- Is an operation a step? -/
def vis (op : Int) : Bool := decide (50 ≤ op ∧ op ≤ 65)
def reg (f : Fn) (n : Int) : Int := if 0 ≤ n ∧ n < f.regs then 0 else 35
def obj (n most : Int) : Int := if 0 ≤ n ∧ n < most then 0 else 36
def tgt (f : Fn) (n : Int) : Int := if 0 ≤ n ∧ n < f.code.length then 0 else 38
/-- What is wrong with an operand of a letter. -/
def opd (P : Pg) (f : Fn) (x : Ins) (l : Nat) (n : Int) : Int :=
  if l = 111 then (if n = -1 then 0 else reg f n)
  else if l = 114 ∨ l = 119 then reg f n
  else if l = 118 then obj n P.vars.length
  else if l = 97 then (if obj n P.vars.length = 0 then (if (P.vars.getD n.toNat default).atomic then 0 else 37) else 36)
  else if l = 108 then obj n P.locks
  else if l = 99 then obj n P.chans.length
  else if l = 115 then obj n f.sels.length
  else if l = 102 then obj n P.funcs.length
  else if l = 116 then tgt f n
  else if l = 112 then (if (P.funcs.getD x.b.toNat default).params = 0 ∧ n ≠ 0 ∨ 0 < (P.funcs.getD x.b.toNat default).params ∧ (n < 0 ∨ f.regs - (P.funcs.getD x.b.toNat default).params < n) then 35 else 0)
  else 0
/-- The first that is wrong. -/
def firstE {α : Type} (g : α → Int) : List α → Int
  | [] => 0
  | a :: l => if g a = 0 then firstE g l else g a
/-- An instruction's operands, in order. -/
def Ins.ops (x : Ins) : List Int := [x.a, x.b, x.c, x.n]
def unused (s : ByteArray) (x : Ins) : Bool := decide (s[0]!.toNat = 45 ∧ x.a ≠ 0 ∨ s[1]!.toNat = 45 ∧ x.b ≠ 0 ∨ s[2]!.toNat = 45 ∧ x.c ≠ 0 ∨ s[3]!.toNat = 45 ∧ x.n ≠ 0)
/-- What is wrong with an instruction. -/
def ins (P : Pg) (f : Fn) (x : Ins) : Int :=
  if form x.op = ⟨#[]⟩ then 33 else if unused (form x.op) x = true then 34
  else firstE (fun (p : Nat × Int) => opd P f x p.1 p.2) [((form x.op)[0]!.toNat, x.a), ((form x.op)[1]!.toNat, x.b), ((form x.op)[2]!.toNat, x.c), ((form x.op)[3]!.toNat, x.n)]
/-- What is wrong with a case of a select. -/
def cas (P : Pg) (f : Fn) (c : Cas) : Int :=
  if obj c.ch P.chans.length = 0 then
    (if (c.send = true ∨ c.reg ≠ -1) ∧ ¬ reg f c.reg = 0 then 35 else if c.send = true ∧ P.chans.getD c.ch.toNat 0 = 0 then 37 else tgt f c.to)
  else 36
/-- What is wrong with a select. -/
def sel (P : Pg) (f : Fn) (s : Sel) : Int :=
  if firstE (cas P f) s.cases = 0 then (if s.els = -1 then 0 else tgt f s.els) else firstE (cas P f) s.cases
/-- Are a function's sizes right? -/
def szs (f : Fn) (main : Bool) : Bool :=
  decide (0 ≤ f.regs ∧ f.regs ≤ 8 ∧ 0 ≤ f.params ∧ f.params ≤ f.regs ∧ ¬ (main = true ∧ f.params ≠ 0) ∧ 1 ≤ f.code.length ∧ f.code.length ≤ 64 ∧ f.sels.length ≤ 4) &&
  f.sels.all fun s => decide (1 ≤ s.cases.length ∧ s.cases.length ≤ 4)
/-- The operation at the end. -/
def lastOp (f : Fn) : Int := (f.code.getD (f.code.length - 1) default).op
/-- What is wrong with a function. -/
def fnc (P : Pg) (f : Fn) (main : Bool) : Int :=
  if szs f main = true then
    (if firstE (sel P f) f.sels = 0 then
      (if firstE (ins P f) f.code = 0 then (if lastOp f = 42 ∨ lastOp f = 45 ∨ lastOp f = 61 then 0 else 39)
       else firstE (ins P f) f.code)
     else firstE (sel P f) f.sels)
  else 32
def fncs (P : Pg) : Bool → List Fn → Int
  | _, [] => 0
  | m, f :: l => if fnc P f m = 0 then fncs P false l else fnc P f m
def whole (P : Pg) : Int :=
  if P.vars.length ≤ 8 ∧ 0 ≤ P.locks ∧ P.locks ≤ 4 ∧ P.chans.length ≤ 4 ∧ 1 ≤ P.funcs.length ∧ P.funcs.length ≤ 8 then
    (if P.chans.all (fun n => decide (0 ≤ n ∧ n ≤ 4)) = true then 0 else 31)
  else 30
/-- What is wrong with a program. -/
def chk (P : Pg) : Int := if whole P = 0 then fncs P true P.funcs else whole P
/-- Is a program right? -/
def right (P : Pg) : Bool := chk P == 0
theorem ite_P {c : Prop} [Decidable c] {P : ByteArray → Prop} {a b : ByteArray} (ha : c → P a) (hb : ¬ c → P b) : P (if c then a else b) := by
  split
  · exact ha ‹_›
  · exact hb ‹_›
theorem form_cases (op : Int) : form op = ⟨#[]⟩ ∨ (form op).size = 4 := by
  show (fun s : ByteArray => s = ⟨#[]⟩ ∨ s.size = 4) (form op)
  unfold form
  iterate 20 refine ite_P (P := fun s : ByteArray => s = ⟨#[]⟩ ∨ s.size = 4) (fun _ => Or.inr rfl) (fun _ => ?_)
  exact Or.inl rfl
theorem form_none (op : Int) : form op = ⟨#[]⟩ ↔ loc op = false ∧ vis op = false := by
  constructor
  · show (fun s : ByteArray => s = ⟨#[]⟩ → loc op = false ∧ vis op = false) (form op)
    unfold form
    iterate 20 refine ite_P (P := fun s : ByteArray => s = ⟨#[]⟩ → loc op = false ∧ vis op = false) (fun _ h => absurd (congrArg ByteArray.size h) (by decide)) (fun _ => ?_)
    intro _
    unfold loc vis
    simp only [decide_eq_false_iff_not]
    omega
  · intro h
    unfold loc vis at h
    simp only [decide_eq_false_iff_not] at h
    show (fun s : ByteArray => s = ⟨#[]⟩) (form op)
    unfold form
    iterate 20 refine ite_P (P := fun s : ByteArray => s = ⟨#[]⟩) (fun q => by omega) (fun _ => ?_)
    rfl
end Go.Proofs.YtbcdeanmjhcgeaaDoor.Pg
namespace Go.Proofs.YtbcdeanmjhcgeaaDoor.Pg
set_option linter.unusedVariables false
set_option linter.unusedSimpArgs false
open Go.RowKit
/-- An int. -/
def I64 (x : Int) : Prop := -9223372036854775808 ≤ x ∧ x ≤ 9223372036854775807
/-- The cells lie from an address on. -/
def Lies (w : World) (a : Option Addr) (cs : List Value) : Prop := cs = [] ∨ ∃ b o, a = some ⟨b, o, none⟩ ∧ b < w.heap.size ∧ w.rangeAt b o cs
def Ins.cs (x : Ins) : List Value := [.int .i64 x.op, .int .i64 x.a, .int .i64 x.b, .int .i64 x.c, .int .i64 x.n]
def Cas.cs (x : Cas) : List Value := [.bool x.send, .int .i64 x.ch, .int .i64 x.reg, .int .i64 x.to]
def Sel.cs (s : Sel) : List Value := [.slice s.a s.cases.length s.cap, .int .i64 s.els]
def Fn.cs (f : Fn) : List Value := [.int .i64 f.params, .int .i64 f.regs, .slice f.ca f.code.length f.ccap, .slice f.sa f.sels.length f.scap]
def Vr.cs (x : Vr) : List Value := [.bool x.atomic, .int .i64 x.init]
def Pg.cs (p : Pg) : List Value := [.slice p.va p.vars.length p.vcap, .int .i64 p.locks, .slice p.ha p.chans.length p.hcap, .slice p.fa p.funcs.length p.fcap]
def Pg.v (p : Pg) : Value := .agg #[.slice p.va p.vars.length p.vcap, .int .i64 p.locks, .slice p.ha p.chans.length p.hcap, .slice p.fa p.funcs.length p.fcap]
def Fn.v (f : Fn) : Value := .agg #[.int .i64 f.params, .int .i64 f.regs, .slice f.ca f.code.length f.ccap, .slice f.sa f.sels.length f.scap]
def Ins.v (x : Ins) : Value := .agg #[.int .i64 x.op, .int .i64 x.a, .int .i64 x.b, .int .i64 x.c, .int .i64 x.n]
def Ins.ok (x : Ins) : Prop := I64 x.op ∧ I64 x.a ∧ I64 x.b ∧ I64 x.c ∧ I64 x.n
def Cas.ok (x : Cas) : Prop := I64 x.ch ∧ I64 x.reg ∧ I64 x.to
def Len (n : Nat) : Prop := n ≤ 140737488351232
structure Sel.In (w : World) (s : Sel) : Prop where
  lies : Lies w s.a (s.cases.flatMap Cas.cs)
  oks : ∀ x ∈ s.cases, x.ok
  els : I64 s.els
  len : Len s.cases.length
structure Fn.In (w : World) (f : Fn) : Prop where
  code : Lies w f.ca (f.code.flatMap Ins.cs)
  selL : Lies w f.sa (f.sels.flatMap Sel.cs)
  sels : ∀ s ∈ f.sels, s.In w
  oks : ∀ x ∈ f.code, x.ok
  par : I64 f.params
  reg : I64 f.regs
  lenC : Len f.code.length
  lenS : Len f.sels.length
structure Pg.In (w : World) (p : Pg) : Prop where
  varL : Lies w p.va (p.vars.flatMap Vr.cs)
  chanL : Lies w p.ha (p.chans.map (Value.int .i64))
  funcL : Lies w p.fa (p.funcs.flatMap Fn.cs)
  funcs : ∀ f ∈ p.funcs, f.In w
  inits : ∀ x ∈ p.vars, I64 x.init
  chans : ∀ n ∈ p.chans, I64 n
  locks : I64 p.locks
  lenV : Len p.vars.length
  lenH : Len p.chans.length
  lenF : Len p.funcs.length
theorem Lies.below {w w1 : World} {a : Option Addr} {cs : List Value} (h : Lies w a cs) (hb : Below w.heap.size w w1) : Lies w1 a cs := by
  rcases h with h | ⟨b, o, e, hl, h⟩
  · exact .inl h
  · exact .inr ⟨b, o, e, by have := hb.size; omega, fun j v hv => by rw [hb.cell (by simpa using hl)]; exact h j v hv⟩
theorem Sel.In.below {w w1 : World} {s : Sel} (h : s.In w) (hb : Below w.heap.size w w1) : s.In w1 := ⟨h.lies.below hb, h.oks, h.els, h.len⟩
theorem Fn.In.below {w w1 : World} {f : Fn} (h : f.In w) (hb : Below w.heap.size w w1) : f.In w1 := ⟨h.code.below hb, h.selL.below hb, fun s hs => (h.sels s hs).below hb, h.oks, h.par, h.reg, h.lenC, h.lenS⟩
theorem Pg.In.below {w w1 : World} {p : Pg} (h : p.In w) (hb : Below w.heap.size w w1) : p.In w1 := ⟨h.varL.below hb, h.chanL.below hb, h.funcL.below hb, fun f hf => (h.funcs f hf).below hb, h.inits, h.chans, h.locks, h.lenV, h.lenH, h.lenF⟩
/-- An element's cells among all. -/
theorem flat_get {α : Type} (f : α → List Value) (c : Nat) (hf : ∀ x, (f x).length = c) : ∀ (l : List α) (k : Nat) (x : α), l[k]? = some x → ∀ j v, (f x)[j]? = some v → (l.flatMap f)[k * c + j]? = some v
  | [], k, x, h, j, v, hv => by simp at h
  | y :: l, 0, x, h, j, v, hv => by
    simp at h; subst h
    have hj : j < (f y).length := (List.getElem?_eq_some_iff.1 hv).1
    simp only [List.flatMap_cons, Nat.zero_mul, Nat.zero_add]
    rw [List.getElem?_append_left hj]; exact hv
  | y :: l, k + 1, x, h, j, v, hv => by
    simp at h
    have := flat_get f c hf l k x h j v hv
    simp only [List.flatMap_cons]
    rw [List.getElem?_append_right (by rw [hf, Nat.succ_mul]; omega), hf, show (k + 1) * c + j - c = k * c + j by rw [Nat.succ_mul]; omega]
    exact this
/-- An element of a list that lies in memory. -/
theorem Lies.get {α : Type} {w : World} {a : Option Addr} {l : List α} (f : α → List Value) (c : Nat) (hf : ∀ x, (f x).length = c) (hc : 0 < c) (h : Lies w a (l.flatMap f)) (hl : 0 < l.length) :
    ∃ b o, a = some ⟨b, o, none⟩ ∧ b < w.heap.size ∧ ∀ k x, l[k]? = some x → w.rangeAt b (o + k * c) (f x) := by
  rcases h with h | ⟨b, o, e, hlt, h⟩
  · cases l with
    | nil => simp at hl
    | cons y l => have := hf y; rw [List.flatMap_cons, List.append_eq_nil_iff] at h; rw [h.1] at this; simp at this; omega
  · exact ⟨b, o, e, hlt, fun k x hk j v hv => by rw [Nat.add_assoc]; exact h _ _ (flat_get f c hf l k x hk j v hv)⟩
theorem Pg.In.chan {w : World} {p : Pg} (h : p.In w) (hl : 0 < p.chans.length) : ∃ b o, p.ha = some ⟨b, o, none⟩ ∧ b < w.heap.size ∧ ∀ k x, p.chans[k]? = some x → w.cell? ⟨b, o + k, none⟩ = some (.int .i64 x) := by
  rcases h.chanL with e | ⟨b, o, e, hlt, h⟩
  · simp at e; rw [e] at hl; simp at hl
  · exact ⟨b, o, e, hlt, fun k x hk => h k _ (by rw [List.getElem?_map, hk]; rfl)⟩
theorem Ins.cs_len (x : Ins) : x.cs.length = 5 := rfl
theorem Cas.cs_len (x : Cas) : x.cs.length = 4 := rfl
theorem Sel.cs_len (x : Sel) : x.cs.length = 2 := rfl
theorem Fn.cs_len (x : Fn) : x.cs.length = 4 := rfl
theorem Vr.cs_len (x : Vr) : x.cs.length = 2 := rfl
theorem Pg.In.func {w : World} {p : Pg} (h : p.In w) (hl : 0 < p.funcs.length) : ∃ b o, p.fa = some ⟨b, o, none⟩ ∧ b < w.heap.size ∧ ∀ k f, p.funcs[k]? = some f → w.rangeAt b (o + k * 4) f.cs := h.funcL.get Fn.cs 4 Fn.cs_len (by omega) hl
theorem Pg.In.var {w : World} {p : Pg} (h : p.In w) (hl : 0 < p.vars.length) : ∃ b o, p.va = some ⟨b, o, none⟩ ∧ b < w.heap.size ∧ ∀ k f, p.vars[k]? = some f → w.rangeAt b (o + k * 2) f.cs := h.varL.get Vr.cs 2 Vr.cs_len (by omega) hl
theorem Fn.In.ins {w : World} {p : Fn} (h : p.In w) (hl : 0 < p.code.length) : ∃ b o, p.ca = some ⟨b, o, none⟩ ∧ b < w.heap.size ∧ ∀ k f, p.code[k]? = some f → w.rangeAt b (o + k * 5) f.cs := h.code.get Ins.cs 5 Ins.cs_len (by omega) hl
theorem Fn.In.sel {w : World} {p : Fn} (h : p.In w) (hl : 0 < p.sels.length) : ∃ b o, p.sa = some ⟨b, o, none⟩ ∧ b < w.heap.size ∧ ∀ k f, p.sels[k]? = some f → w.rangeAt b (o + k * 2) f.cs := h.selL.get Sel.cs 2 Sel.cs_len (by omega) hl
theorem Sel.In.case {w : World} {p : Sel} (h : p.In w) (hl : 0 < p.cases.length) : ∃ b o, p.a = some ⟨b, o, none⟩ ∧ b < w.heap.size ∧ ∀ k f, p.cases[k]? = some f → w.rangeAt b (o + k * 4) f.cs := h.lies.get Cas.cs 4 Cas.cs_len (by omega) hl
end Go.Proofs.YtbcdeanmjhcgeaaDoor.Pg
namespace Go.Proofs.YtbcdeanmjhcgeaaDoor.Pg
set_option linter.unusedVariables false
set_option linter.unusedSimpArgs false
/-- A goroutine. -/
structure Gr where (status func pc why : Int) (regs : List Int)
deriving DecidableEq
/-- A channel. -/
structure Ch where (buf : List Int) (len : Int) (closed : Bool) (offer frm val : Int)
deriving DecidableEq
/-- A state. -/
structure St where (vars owner : List Int) (chans : List Ch) (gos : List Gr) (count : Int)
def Gr.cs (g : Gr) : List Value := [.int .i64 g.status, .int .i64 g.func, .int .i64 g.pc, .int .i64 g.why] ++ g.regs.map (Value.int .i64)
def Ch.cs (c : Ch) : List Value := c.buf.map (Value.int .i64) ++ [.int .i64 c.len, .bool c.closed, .int .i64 c.offer, .int .i64 c.frm, .int .i64 c.val]
def St.cs (s : St) : List Value := s.vars.map (Value.int .i64) ++ (s.owner.map (Value.int .i64) ++ (s.chans.flatMap Ch.cs ++ (s.gos.flatMap Gr.cs ++ [.int .i64 s.count])))
def Gr.v (g : Gr) : Value := .agg g.cs.toArray
def St.v (s : St) : Value := .agg s.cs.toArray
/-- The ints of a goroutine. -/
structure Gr.ok (g : Gr) : Prop where
  st : I64 g.status
  fn : I64 g.func
  pc : I64 g.pc
  why : I64 g.why
  regs : ∀ x ∈ g.regs, I64 x
  len : g.regs.length = 8
structure Ch.ok (c : Ch) : Prop where
  buf : ∀ x ∈ c.buf, I64 x
  blen : c.buf.length = 4
  len : I64 c.len
  offer : I64 c.offer
  frm : I64 c.frm
  val : I64 c.val
structure St.ok (s : St) : Prop where
  vars : ∀ x ∈ s.vars, I64 x
  owner : ∀ x ∈ s.owner, I64 x
  chans : ∀ x ∈ s.chans, x.ok
  gos : ∀ x ∈ s.gos, x.ok
  count : I64 s.count
  lv : s.vars.length = 8
  lo : s.owner.length = 4
  lc : s.chans.length = 4
  lg : s.gos.length = 6
instance : Inhabited Gr := ⟨⟨0, 0, 0, 0, [0, 0, 0, 0, 0, 0, 0, 0]⟩⟩
instance : Inhabited Ch := ⟨⟨[0, 0, 0, 0], 0, false, 0, 0, 0⟩⟩
/-- May a goroutine have failed at an operation, so? -/
def may (why op : Int) : Bool := decide (why = 1 ∧ op = 44 ∨ why = 2 ∧ (op = 19 ∨ op = 20) ∨ why = 3 ∧ 25 ≤ op ∧ op ≤ 27 ∨ why = 4 ∧ (op = 58 ∨ op = 61) ∨ why = 5 ∧ op = 60 ∨ why = 6 ∧ op = 56 ∨ why = 7 ∧ op = 63 ∨ why = 8 ∧ op = 62)
def Pg.fn (P : Pg) (k : Int) : Fn := P.funcs.getD k.toNat default
def Fn.at (f : Fn) (k : Int) : Ins := f.code.getD k.toNat default
/-- All behind a place are 0. -/
def zeros (n : Int) (l : List Int) : Bool := (List.range l.length).all fun k => decide ((k : Int) < n) || decide (l.getD k 0 = 0)
def ends (g : Gr) : Bool := decide (g.status = 3 ∨ g.status = 4)
/-- Does a goroutine stand in a program? -/
def stands (P : Pg) (g : Gr) : Bool := decide (1 ≤ g.status ∧ g.status ≤ 5 ∧ 0 ≤ g.func ∧ g.func < P.funcs.length) && decide (0 ≤ g.pc ∧ g.pc < (P.fn g.func).code.length)
/-- The instruction at which it stands. -/
def Gr.ins (P : Pg) (g : Gr) : Ins := (P.fn g.func).at g.pc
/-- Is a goroutine one of a program? -/
def fits (P : Pg) (g : Gr) : Bool :=
  stands P g && (zeros (if ends g = true then 0 else (P.fn g.func).regs) g.regs && (if g.status = 4 then may g.why (g.ins P).op else decide (g.why = 0) && (decide (g.status ≠ 3) || decide ((g.ins P).op = 45)) && (decide (g.status ≠ 5) || loc (g.ins P).op)))
/-- Does a goroutine wait, at a send on a channel? -/
def waits (P : Pg) (s : St) (g c : Int) : Bool :=
  decide (0 ≤ g ∧ g < s.count) && (decide ((s.gos.getD g.toNat default).status = 2) && decide (((s.gos.getD g.toNat default).ins P).op = 58 ∧ ((s.gos.getD g.toNat default).ins P).a = c))
/-- Is a channel one of a program? -/
def chanOk (P : Pg) (s : St) (k : Nat) (x : Ch) : Bool :=
  decide (0 ≤ x.len ∧ x.len ≤ P.chans.getD k 0 ∧ 0 ≤ x.offer ∧ x.offer ≤ 3 ∧ (x.offer = 0 ∨ P.chans.getD k 0 = 0)) && (zeros x.len x.buf &&
    (if x.offer = 0 then decide (x.frm = 0 ∧ x.val = 0) else decide ((x.offer = 1 ∨ x.val = 0) ∧ ¬ (x.offer = 1 ∧ x.closed = true) ∧ ¬ (x.offer = 3 ∧ x.closed = false)) && waits P s x.frm k))
def offers (s : St) (g : Nat) : Nat := s.chans.countP fun c => decide (c.offer ≠ 0 ∧ c.frm = (g : Int))
def gosOk (P : Pg) (s : St) : Bool := (List.range 6).all fun k => if (k : Int) < s.count then fits P (s.gos.getD k default) else decide (s.gos.getD k default = default)
end Go.Proofs.YtbcdeanmjhcgeaaDoor.Pg
namespace Go.Proofs.YtbcdeanmjhcgeaaDoor.Pg
set_option linter.unusedVariables false
set_option linter.unusedSimpArgs false
theorem Gr.cs_len {g : Gr} (h : g.ok) : g.cs.length = 12 := by simp [Gr.cs, h.len]
theorem Ch.cs_len {c : Ch} (h : c.ok) : c.cs.length = 9 := by simp [Ch.cs, h.blen]
/-- An element's cells among all, where each has as many. -/
theorem flat_get' {α : Type} (f : α → List Value) (c : Nat) : ∀ (l : List α) (_ : ∀ x ∈ l, (f x).length = c) (k : Nat) (x : α), l[k]? = some x → ∀ j v, (f x)[j]? = some v → (l.flatMap f)[k * c + j]? = some v
  | [], _, k, x, h, j, v, hv => by simp at h
  | y :: l, hf, 0, x, h, j, v, hv => by
    simp at h; subst h
    have hj : j < (f y).length := (List.getElem?_eq_some_iff.1 hv).1
    simp only [List.flatMap_cons, Nat.zero_mul, Nat.zero_add]
    rw [List.getElem?_append_left hj]; exact hv
  | y :: l, hf, k + 1, x, h, j, v, hv => by
    simp at h
    have := flat_get' f c l (fun x hx => hf x (List.mem_cons_of_mem _ hx)) k x h j v hv
    have hy := hf y (List.mem_cons_self ..)
    simp only [List.flatMap_cons]
    rw [List.getElem?_append_right (by rw [hy, Nat.succ_mul]; omega), hy, show (k + 1) * c + j - c = k * c + j by rw [Nat.succ_mul]; omega]
    exact this
theorem flat_len {α : Type} (f : α → List Value) (c : Nat) : ∀ (l : List α), (∀ x ∈ l, (f x).length = c) → (l.flatMap f).length = l.length * c
  | [], _ => by simp
  | y :: l, h => by
    rw [List.flatMap_cons, List.length_append, flat_len f c l (fun x hx => h x (List.mem_cons_of_mem _ hx)), h y (List.mem_cons_self ..), List.length_cons, Nat.succ_mul]; omega
section
variable {s : St} (h : s.ok)
include h
theorem St.len_chans : (s.chans.flatMap Ch.cs).length = 36 := by rw [flat_len Ch.cs 9 _ (fun x hx => Ch.cs_len (h.chans x hx)), h.lc]
theorem St.len_gos : (s.gos.flatMap Gr.cs).length = 72 := by rw [flat_len Gr.cs 12 _ (fun x hx => Gr.cs_len (h.gos x hx)), h.lg]
theorem St.cs_len : s.cs.length = 121 := by
  have := St.len_chans h; have := St.len_gos h; have := h.lv; have := h.lo
  simp only [St.cs, List.length_append, List.length_map, List.length_cons, List.length_nil]; omega
theorem St.get_var (k : Nat) (hk : k < 8) : s.cs.toArray[k]? = some (.int .i64 (s.vars.getD k 0)) := by
  have hl := h.lv
  have hk' : k < s.vars.length := by omega
  simp only [List.getElem?_toArray, St.cs]
  rw [List.getElem?_append_left (by simpa using hk')]
  simp [hk']
theorem St.get_owner (k : Nat) (hk : k < 4) : s.cs.toArray[8 + k]? = some (.int .i64 (s.owner.getD k 0)) := by
  have hl := h.lv; have ho := h.lo
  have hk' : k < s.owner.length := by omega
  simp only [List.getElem?_toArray, St.cs]
  rw [List.getElem?_append_right (by simp; omega), List.getElem?_append_left (by simp; omega)]
  simp [hl, hk']
theorem St.get_chan (k : Nat) (hk : k < 4) (j : Nat) (v : Value) (hv : (s.chans.getD k default).cs[j]? = some v) : s.cs.toArray[12 + k * 9 + j]? = some v := by
  have hl := h.lv; have ho := h.lo; have hc := h.lc
  have hk' : k < s.chans.length := by omega
  have hm := h.chans s.chans[k] (List.getElem_mem _)
  rw [show s.chans.getD k default = s.chans[k] by simp [hk']] at hv
  have hj : j < 9 := by rw [← Ch.cs_len hm]; exact (List.getElem?_eq_some_iff.1 hv).1
  have hlc := St.len_chans h
  simp only [List.getElem?_toArray, St.cs]
  rw [List.getElem?_append_right (by simp; omega), List.getElem?_append_right (by simp; omega), List.getElem?_append_left (by simp only [List.length_map]; omega)]
  simp only [List.length_map, hl, ho]
  rw [show 12 + k * 9 + j - 8 - 4 = k * 9 + j by omega]
  exact flat_get' Ch.cs 9 s.chans (fun x hx => Ch.cs_len (h.chans x hx)) k _ (by simp) j v hv
theorem St.get_go (k : Nat) (hk : k < 6) (j : Nat) (v : Value) (hv : (s.gos.getD k default).cs[j]? = some v) : s.cs.toArray[48 + k * 12 + j]? = some v := by
  have hl := h.lv; have ho := h.lo; have hc := h.lg
  have hk' : k < s.gos.length := by omega
  have hm := h.gos s.gos[k] (List.getElem_mem _)
  rw [show s.gos.getD k default = s.gos[k] by simp [hk']] at hv
  have hj : j < 12 := by rw [← Gr.cs_len hm]; exact (List.getElem?_eq_some_iff.1 hv).1
  have hlc := St.len_chans h
  have hlg := St.len_gos h
  simp only [List.getElem?_toArray, St.cs]
  rw [List.getElem?_append_right (by simp; omega), List.getElem?_append_right (by simp; omega), List.getElem?_append_right (by simp only [List.length_map]; omega), List.getElem?_append_left (by simp only [List.length_map]; omega)]
  simp only [List.length_map, hl, ho, hlc]
  rw [show 48 + k * 12 + j - 8 - 4 - 36 = k * 12 + j by omega]
  exact flat_get' Gr.cs 12 s.gos (fun x hx => Gr.cs_len (h.gos x hx)) k _ (by simp) j v hv
theorem St.get_count : s.cs.toArray[120]? = some (.int .i64 s.count) := by
  have hl := h.lv; have ho := h.lo
  have hlc := St.len_chans h
  have hlg := St.len_gos h
  simp only [List.getElem?_toArray, St.cs]
  rw [List.getElem?_append_right (by simp; omega), List.getElem?_append_right (by simp; omega), List.getElem?_append_right (by simp only [List.length_map]; omega), List.getElem?_append_right (by simp only [List.length_map]; omega)]
  simp only [List.length_map, hl, ho, hlc, hlg]
  rfl
end
end Go.Proofs.YtbcdeanmjhcgeaaDoor.Pg
namespace Go.Proofs.YtbcdeanmjhcgeaaDoor.Pg
set_option linter.unusedVariables false
set_option linter.unusedSimpArgs false
open Go.ChangeShapes Go.WideShapes Go.RowKit
/-- An element of one cell. -/
theorem index_one {P : Program} {T e : TypeId} {n : Nat} {i : TypeInfo} (hT : P.underlying T = some (.array n e)) (hi : P.info? e = some i) (hs : P.cellsOf e = 1) (hp : P.plainKey e = true) (cs : Array Value) (k : Nat) (hk : k < n) (v : Value) (hv : cs[k]? = some v) (w : World) :
    (Instr.index T (.agg cs) (.int .i64 k)).run P w = .ok v w := by
  have h2 : (part e cs (k * 1)).run P w = .ok v w := run_part_plain w hp (by simpa using hv)
  have h3 := run_sizeOf w hi
  rw [hs] at h3
  simp only [Instr.index, asIntOf, Sem.run_bind, Sem.run_pure, Result.andThen_ok, run_underlying hT w, Int.toNat_natCast]
  rw [if_pos ⟨by omega, by omega⟩]
  simp only [Sem.run_bind, h3, Result.andThen_ok, h2]
/-- An element of several cells. -/
theorem index_many {P : Program} {T e : TypeId} {n c : Nat} {i : TypeInfo} (hT : P.underlying T = some (.array n e)) (hi : P.info? e = some i) (hs : P.cellsOf e = c) (hp : ∀ w, (isAgg e).run P w = .ok true w) (cs : Array Value) (k : Nat) (hk : k < n) (w : World) :
    (Instr.index T (.agg cs) (.int .i64 k)).run P w = .ok (.agg (cs.extract (k * c) (k * c + c))) w := by
  have h3 := fun w => run_sizeOf w hi
  rw [hs] at h3
  simp only [Instr.index, asIntOf, Sem.run_bind, Sem.run_pure, Result.andThen_ok, run_underlying hT w, Int.toNat_natCast]
  rw [if_pos ⟨by omega, by omega⟩]
  simp only [Sem.run_bind, h3, Result.andThen_ok, part, hp, if_true, Sem.run_pure]
end Go.Proofs.YtbcdeanmjhcgeaaDoor.Pg
namespace Go.Proofs.YtbcdeanmjhcgeaaDoor.Pg
set_option linter.unusedVariables false
set_option linter.unusedSimpArgs false
open Go.ChangeShapes Go.WideShapes Go.RowKit
/-- A block, in a later world. -/
structure Blk (b : Nat) (arr : Array Value) (W : World) : Prop where
  lt : b < W.heap.size
  cell : ∀ o, W.cell? ⟨b, o, none⟩ = arr[o]?
  fr : ∀ o, W.frozen? ⟨b, o, none⟩ = false
theorem Blk.new (W : World) (arr : Array Value) (T : TypeId) : Blk W.heap.size arr (W.alloc (.cells arr T)) := ⟨by simp, fun _ => World.cell?_alloc_new _ _ _ _, fun _ => World.frozen?_alloc_new _ _ _ _⟩
theorem Blk.new' (W : World) (b : Nat) (arr : Array Value) (T : TypeId) (hb : b = W.heap.size) : Blk b arr (W.alloc (.cells arr T)) := by subst hb; exact Blk.new _ _ _
theorem Blk.below {b : Nat} {arr : Array Value} {W w1 : World} (h : Blk b arr W) (hb : Below W.heap.size W w1) : Blk b arr w1 :=
  ⟨by have := hb.size; have := h.lt; omega, fun o => by rw [hb.cell (by simpa using h.lt)]; exact h.cell o, fun o => by rw [hb.frozen (by simpa using h.lt)]; exact h.fr o⟩
theorem Blk.alloc {b : Nat} {arr : Array Value} {W : World} (h : Blk b arr W) (O : Obj) : Blk b arr (W.alloc O) := h.below (Below.alloc (Below.refl _ _) (Nat.le_refl _) _)
theorem Blk.drewN {b : Nat} {arr : Array Value} {W : World} (h : Blk b arr W) (n : Nat) : Blk b arr (W.drewN n) := h.below (below_drewN (Below.refl _ _) _)
theorem Blk.drew {b : Nat} {arr : Array Value} {W : World} (h : Blk b arr W) : Blk b arr W.drew := h.below (Below.drew (Below.refl _ _))
theorem Blk.setOther {b : Nat} {arr : Array Value} {W : World} (h : Blk b arr W) (c o : Nat) (v : Value) (ne : b ≠ c) : Blk b arr (W.setCell ⟨c, o, none⟩ v) :=
  ⟨by simpa [World.setCell] using h.lt, fun j => by rw [World.cell?_setCell_other _ _ _ _ (by simp only [ne_eq, Addr.mk.injEq]; omega)]; exact h.cell j, fun j => by rw [World.frozen?_setCell]; exact h.fr j⟩
theorem Blk.set {b : Nat} {arr : Array Value} {W : World} (h : Blk b arr W) (o : Nat) (ho : o < arr.size) (v : Value) : Blk b (arr.setIfInBounds o v) (W.setCell ⟨b, o, none⟩ v) := by
  refine ⟨by simpa [World.setCell] using h.lt, fun j => ?_, fun j => by rw [World.frozen?_setCell]; exact h.fr j⟩
  by_cases hj : j = o
  · subst hj
    rw [World.cell?_setCell_same _ _ _ ((h.cell j).trans (Array.getElem?_eq_getElem ho))]
    simp [ho]
  · rw [World.cell?_setCell_other _ _ _ _ (by simp only [ne_eq, Addr.mk.injEq, true_and, and_true]; omega), h.cell j]
    simp [show ¬ o = j from fun e => hj e.symm]
/-- Nothing below w's blocks is touched; the blocks told hold what is told. -/
structure Env (w : World) (bs : List (Nat × Array Value)) (W : World) : Prop where
  acc : Below w.heap.size w W
  blk : ∀ p ∈ bs, Blk p.1 p.2 W
variable {w W w1 : World} {bs : List (Nat × Array Value)}
theorem Env.nil : Env w [] w := ⟨Below.refl _ _, fun _ h => by cases h⟩
theorem Env.next (E : Env w bs W) (hb : Below W.heap.size W w1) : Env w bs w1 := ⟨E.acc.trans (hb.mono E.acc.size), fun p hp => (E.blk p hp).below hb⟩
theorem Env.push (E : Env w bs W) (n : Nat) (hn : n = W.heap.size) (arr : Array Value) (T : TypeId) : Env w ((n, arr) :: bs) (W.alloc (.cells arr T)) := by
  subst hn
  have E' := E.next (Below.alloc (Below.refl W.heap.size W) (Nat.le_refl _) (.cells arr T))
  refine ⟨E'.acc, fun p hp => ?_⟩
  rcases List.mem_cons.1 hp with rfl | hp
  · exact Blk.new _ _ _
  · exact E'.blk p hp
theorem Env.skip (E : Env w bs W) (O : Obj) : Env w bs (W.alloc O) := E.next (Below.alloc (Below.refl _ _) (Nat.le_refl _) _)
theorem Env.drew (E : Env w bs W) : Env w bs W.drew := E.next (Below.drew (Below.refl _ _))
theorem Env.drewN (E : Env w bs W) (n : Nat) : Env w bs (W.drewN n) := E.next (below_drewN (Below.refl _ _) _)
theorem Env.set {b : Nat} {arr : Array Value} (E : Env w ((b, arr) :: bs) W) (hb : w.heap.size ≤ b) (ne : ∀ p ∈ bs, p.1 ≠ b) (o : Nat) (ho : o < arr.size) (v : Value) : Env w ((b, arr.setIfInBounds o v) :: bs) (W.setCell ⟨b, o, none⟩ v) := by
  refine ⟨E.acc.setCell (by simpa using hb) _, fun p hp => ?_⟩
  rcases List.mem_cons.1 hp with rfl | hp
  · exact (E.blk (b, arr) (List.mem_cons_self ..)).set o ho v
  · exact (E.blk p (List.mem_cons_of_mem _ hp)).setOther b o v (ne p hp)
theorem Env.sub {cs : List (Nat × Array Value)} (E : Env w bs W) (h : ∀ p ∈ cs, p ∈ bs) : Env w cs W := ⟨E.acc, fun p hp => E.blk p (h p hp)⟩
theorem Env.h0 {b : Nat} {arr : Array Value} (E : Env w ((b, arr) :: bs) W) : Blk b arr W := E.blk (b, arr) (List.mem_cons_self ..)
theorem Env.tl {p : Nat × Array Value} (E : Env w (p :: bs) W) : Env w bs W := ⟨E.acc, fun q hq => E.blk q (List.mem_cons_of_mem _ hq)⟩
theorem Env.cells4 {b0 b1 b2 b3 : Nat} {a0 a1 a2 a3 : Array Value} (E : Env w [(b0, a0), (b1, a1), (b2, a2), (b3, a3)] W) :
    (∀ o, W.cell? ⟨b0, o, none⟩ = a0[o]?) ∧ (∀ o, W.cell? ⟨b1, o, none⟩ = a1[o]?) ∧ (∀ o, W.cell? ⟨b2, o, none⟩ = a2[o]?) ∧ ∀ o, W.cell? ⟨b3, o, none⟩ = a3[o]? := ⟨E.h0.cell, E.tl.h0.cell, E.tl.tl.h0.cell, E.tl.tl.tl.h0.cell⟩
theorem Env.cells3 {b0 b1 b2 : Nat} {a0 a1 a2 : Array Value} (E : Env w [(b0, a0), (b1, a1), (b2, a2)] W) :
    (∀ o, W.cell? ⟨b0, o, none⟩ = a0[o]?) ∧ (∀ o, W.cell? ⟨b1, o, none⟩ = a1[o]?) ∧ ∀ o, W.cell? ⟨b2, o, none⟩ = a2[o]? := ⟨E.h0.cell, E.tl.h0.cell, E.tl.tl.h0.cell⟩
theorem Env.cells2 {b0 b1 : Nat} {a0 a1 : Array Value} (E : Env w [(b0, a0), (b1, a1)] W) :
    (∀ o, W.cell? ⟨b0, o, none⟩ = a0[o]?) ∧ ∀ o, W.cell? ⟨b1, o, none⟩ = a1[o]? := ⟨E.h0.cell, E.tl.h0.cell⟩
end Go.Proofs.YtbcdeanmjhcgeaaDoor.Pg
namespace Go.Proofs.YtbcdeanmjhcgeaaDoor.Pg
set_option linter.unusedVariables false
set_option linter.unusedSimpArgs false
open Go.ChangeShapes Go.WideShapes Go.RowKit
theorem size32 : (Tryd.prog.info? 32).map (·.size) = some 121 := by kernel_rfl
theorem Blk.range {b : Nat} {st : Array Value} {w : World} (B : Blk b st w) : w.rangeAt b 0 st.toList := fun j v hv => by
  rw [Nat.zero_add, B.cell j]; simpa using hv
/-- The operation. -/
theorem load_state {op : Oper} {a : Act} {w : World} {K : Act → World → Prop} {Q : Exit → Act → World → Prop} (x : Operand) (ho : op.op = .load 32 x) (b : Nat) (hx : a.eval x = .pointer (some ⟨b, 0, none⟩)) (st : Array Value) (hs : st.size = 121) (B : Blk b st w)
    (h : K (a.put op.dst (.agg st)) w) : op.wp Tryd.prog a w K Q :=
  wp_load_mid 32 x ho b 0 hx st.toList _ B.range Tryd.underlying32 rfl (by rw [size32, Array.length_toList, hs]) (by simpa using h)
end Go.Proofs.YtbcdeanmjhcgeaaDoor.Pg
namespace Go.Proofs.YtbcdeanmjhcgeaaDoor.Pg
set_option linter.unusedVariables false
set_option linter.unusedSimpArgs false
open Go.ChangeShapes Go.WideShapes Go.RowKit
theorem flat_drop {α : Type} (f : α → List Value) (c : Nat) : ∀ (l : List α) (_ : ∀ x ∈ l, (f x).length = c) (k : Nat) (x : α), l[k]? = some x → ((l.flatMap f).drop (k * c)).take c = f x
  | [], _, k, x, h => by simp at h
  | y :: l, hf, 0, x, h => by
    simp at h; subst h
    have hy := hf y (List.mem_cons_self ..)
    rw [Nat.zero_mul, List.drop_zero, List.flatMap_cons, ← hy, List.take_left']
    rfl
  | y :: l, hf, k + 1, x, h => by
    simp at h
    have hy := hf y (List.mem_cons_self ..)
    rw [List.flatMap_cons, show (k + 1) * c = (f y).length + k * c by rw [hy, Nat.succ_mul]; omega, ← List.drop_drop, List.drop_left' rfl]
    exact flat_drop f c l (fun x hx => hf x (List.mem_cons_of_mem _ hx)) k x h
theorem flat_extract {α : Type} (f : α → List Value) (c : Nat) (l : List α) (hf : ∀ x ∈ l, (f x).length = c) (k : Nat) (x : α) (h : l[k]? = some x) : (l.flatMap f).toArray.extract (k * c) (k * c + c) = (f x).toArray := by
  apply Array.toList_inj.1
  rw [Array.toList_extract, List.extract_eq_take_drop, Nat.add_sub_cancel_left]
  exact flat_drop f c l hf k x h
theorem infoG : (Tryd.prog.info? 29).isSome = true := by kernel_rfl
theorem cellsG : Tryd.prog.cellsOf 29 = 12 := by kernel_rfl
theorem aggG (w : World) : (isAgg 29).run Tryd.prog w = .ok true w := by kernel_rfl
theorem infoC : (Tryd.prog.info? 26).isSome = true := by kernel_rfl
theorem cellsC : Tryd.prog.cellsOf 26 = 9 := by kernel_rfl
theorem aggC (w : World) : (isAgg 26).run Tryd.prog w = .ok true w := by kernel_rfl
theorem sizeGs : (Tryd.prog.info? 30).map (·.size) = some 72 := by kernel_rfl
theorem sizeCs : (Tryd.prog.info? 27).map (·.size) = some 36 := by kernel_rfl
def St.gv (s : St) : Value := .agg (s.gos.flatMap Gr.cs).toArray
def St.cv (s : St) : Value := .agg (s.chans.flatMap Ch.cs).toArray
def Ch.v (c : Ch) : Value := .agg c.cs.toArray
theorem index_go {s : St} (h : s.ok) (k : Nat) (hk : k < 6) (w : World) : (Instr.index 30 s.gv (.int .i64 k)).run Tryd.prog w = .ok (s.gos.getD k default).v w := by
  obtain ⟨i, hi⟩ := Option.isSome_iff_exists.1 infoG
  have hk' : k < s.gos.length := by rw [h.lg]; exact hk
  refine (index_many Tryd.underlying30 hi cellsG aggG _ k hk w).trans ?_
  rw [flat_extract Gr.cs 12 s.gos (fun x hx => Gr.cs_len (h.gos x hx)) k s.gos[k] (by simp), show s.gos.getD k default = s.gos[k] by simp [hk']]
  rfl
theorem index_chan {s : St} (h : s.ok) (k : Nat) (hk : k < 4) (w : World) : (Instr.index 27 s.cv (.int .i64 k)).run Tryd.prog w = .ok (s.chans.getD k default).v w := by
  obtain ⟨i, hi⟩ := Option.isSome_iff_exists.1 infoC
  have hk' : k < s.chans.length := by rw [h.lc]; exact hk
  refine (index_many Tryd.underlying27 hi cellsC aggC _ k hk w).trans ?_
  rw [flat_extract Ch.cs 9 s.chans (fun x hx => Ch.cs_len (h.chans x hx)) k s.chans[k] (by simp), show s.chans.getD k default = s.chans[k] by simp [hk']]
  rfl
theorem load_gos {s : St} (h : s.ok) {b : Nat} {W : World} (y : ∀ o, W.cell? ⟨b, o, none⟩ = s.cs.toArray[o]?) : (Instr.loadAt 30 (.pointer (some ⟨b, 48, none⟩))).run Tryd.prog W = .ok s.gv W := by
  have hl := h.lv; have ho := h.lo; have hlc := St.len_chans h; have hlg := St.len_gos h
  refine run_loadAt_mid W b 48 30 (s.gos.flatMap Gr.cs) _ ?_ Tryd.underlying30 rfl (by rw [sizeGs, hlg])
  intro j v hv
  have hj : j < 72 := by rw [← hlg]; exact (List.getElem?_eq_some_iff.1 hv).1
  rw [y]
  simp only [List.getElem?_toArray, St.cs]
  rw [List.getElem?_append_right (by simp; omega), List.getElem?_append_right (by simp; omega), List.getElem?_append_right (by simp only [List.length_map]; omega), List.getElem?_append_left (by simp only [List.length_map]; omega)]
  simp only [List.length_map, hl, ho, hlc]
  rw [show 48 + j - 8 - 4 - 36 = j by omega]
  exact hv
theorem load_gos' {s : St} (h : s.ok) {b : Nat} {W : World} (y : ∀ o, W.cell? ⟨b, o, none⟩ = s.cs.toArray[o]?) : (loadVar 30 ⟨b, 48, none⟩).run Tryd.prog W = .ok s.gv W := by
  have hl := h.lv; have ho := h.lo; have hlc := St.len_chans h; have hlg := St.len_gos h
  refine run_loadVar_mid W b 48 30 (s.gos.flatMap Gr.cs) _ ?_ Tryd.underlying30 rfl (by rw [sizeGs, hlg])
  intro j v hv
  have hj : j < 72 := by rw [← hlg]; exact (List.getElem?_eq_some_iff.1 hv).1
  rw [y]
  simp only [List.getElem?_toArray, St.cs]
  rw [List.getElem?_append_right (by simp; omega), List.getElem?_append_right (by simp; omega), List.getElem?_append_right (by simp only [List.length_map]; omega), List.getElem?_append_left (by simp only [List.length_map]; omega)]
  simp only [List.length_map, hl, ho, hlc]
  rw [show 48 + j - 8 - 4 - 36 = j by omega]
  exact hv
theorem load_chans {s : St} (h : s.ok) {b : Nat} {W : World} (y : ∀ o, W.cell? ⟨b, o, none⟩ = s.cs.toArray[o]?) : (Instr.loadAt 27 (.pointer (some ⟨b, 12, none⟩))).run Tryd.prog W = .ok s.cv W := by
  have hl := h.lv; have ho := h.lo; have hlc := St.len_chans h
  refine run_loadAt_mid W b 12 27 (s.chans.flatMap Ch.cs) _ ?_ Tryd.underlying27 rfl (by rw [sizeCs, hlc])
  intro j v hv
  have hj : j < 36 := by rw [← hlc]; exact (List.getElem?_eq_some_iff.1 hv).1
  rw [y]
  simp only [List.getElem?_toArray, St.cs]
  rw [List.getElem?_append_right (by simp; omega), List.getElem?_append_right (by simp; omega), List.getElem?_append_left (by simp only [List.length_map]; omega)]
  simp only [List.length_map, hl, ho]
  rw [show 12 + j - 8 - 4 = j by omega]
  exact hv
theorem load_chans' {s : St} (h : s.ok) {b : Nat} {W : World} (y : ∀ o, W.cell? ⟨b, o, none⟩ = s.cs.toArray[o]?) : (loadVar 27 ⟨b, 12, none⟩).run Tryd.prog W = .ok s.cv W := by
  have hl := h.lv; have ho := h.lo; have hlc := St.len_chans h
  refine run_loadVar_mid W b 12 27 (s.chans.flatMap Ch.cs) _ ?_ Tryd.underlying27 rfl (by rw [sizeCs, hlc])
  intro j v hv
  have hj : j < 36 := by rw [← hlc]; exact (List.getElem?_eq_some_iff.1 hv).1
  rw [y]
  simp only [List.getElem?_toArray, St.cs]
  rw [List.getElem?_append_right (by simp; omega), List.getElem?_append_right (by simp; omega), List.getElem?_append_left (by simp only [List.length_map]; omega)]
  simp only [List.length_map, hl, ho]
  rw [show 12 + j - 8 - 4 = j by omega]
  exact hv
/-- A load at the list of a plain region's operations, by what it gives. -/
theorem list_load {P : Program} {ops : Array Oper} {rest : List Oper} {op : Oper} {a : Act} {w : World} {Q : Exit → Act → World → Prop} (hgd : op.guard = none) (ty : TypeId) (x : Operand) (ho : op.op = .load ty x)
    (p : Value) (hx : a.eval x = p) (v : Value) (hr : (Instr.loadAt ty p).run P w = .ok v w) (h : wpList P ops Q rest (a.put op.dst v) w) : wpList P ops Q (op :: rest) a w := by
  refine wpList_plain hgd fun _ hK => ?_
  unfold Oper.wp execOp
  simp only [ho, hx, Sem.run_bind, Sem.run_pure, Result.andThen_ok, hr]
  exact hK _ _ h
end Go.Proofs.YtbcdeanmjhcgeaaDoor.Pg
