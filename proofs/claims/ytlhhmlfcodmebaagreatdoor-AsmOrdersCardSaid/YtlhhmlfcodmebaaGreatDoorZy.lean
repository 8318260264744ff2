/- Several texts of one proof, one behind the other. The text of a program, told plainly; that it is read as that program. No condition but that the program is right. | A right program's words, read. No condition but that the program is right. | A right program's text is read as that program, and is not long. The conditions: the program is right, its numbers are int64. -/
import Derived.Test.YtlhhmlfcodmebaaGreatDoorZa
import Derived.Test.YtlhhmlfcodmebaaGreatDoorZPc
import Derived.Test.YtlhhmlfcodmebaaGreatDoorZNa
import Derived.Lib.ItoaLen
namespace Go.Proofs.YtlhhmlfcodmebaaGreatDoor.Pg
set_option linter.unusedVariables false
set_option linter.unusedSimpArgs false
open Go.Proofs.YtlhhmlfcodmebaaGreatDoor.Wd (wrd num)
open Go.Lib
set_option linter.unusedVariables false
set_option linter.unusedSimpArgs false
/-- An operand's word. -/
def opw (c : UInt8) (n : Int) : List UInt8 := if c = 110 then itoa n else if c = 111 ∧ n = -1 then [95] else headOf c :: itoa n
/-- The words of an instruction's operands. -/
def opws : List UInt8 → List Int → List (List UInt8)
  | c :: cs, n :: ns => if c = 45 then opws cs ns else opw c n :: opws cs ns
  | _, _ => []
def insW (x : Ins) : List (List UInt8) := opName x.op.toNat :: opws (form x.op).data.toList x.ops
def casW (c : Cas) : List (List UInt8) := [if c.send then [111, 110, 115, 101, 110, 100] else [111, 110, 114, 101, 99, 118], 99 :: itoa c.ch, opw 111 c.reg, 64 :: itoa c.to]
def selW (s : Sel) : List (List (List UInt8)) := [[99, 104, 111, 111, 115, 101], if s.els = -1 then [95] else 64 :: itoa s.els] :: s.cases.map casW
def fnW (f : Fn) : List (List (List UInt8)) := [[102, 117, 110, 99], itoa f.params, itoa f.regs] :: (f.sels.flatMap selW ++ f.code.map insW)
def varW (v : Vr) : List (List UInt8) := [if v.atomic then [97, 116, 111, 109, 105, 99] else [118, 97, 114], itoa v.init]
/-- A program's lines, each in words. -/
def pgW (p : Pg) : List (List (List UInt8)) :=
  [[115, 99, 97, 114, 97, 98]] :: (p.vars.map varW ++ (List.replicate p.locks.toNat [[109, 117, 116, 101, 120]] ++ (p.chans.map (fun n => [[99, 104, 97, 110], itoa n]) ++ p.funcs.flatMap fnW)))
/-- Words, blanks between them. -/
def jn : List (List UInt8) → List UInt8
  | [] => []
  | [w] => w
  | w :: v :: ws => w ++ 32 :: jn (v :: ws)
def txt (p : Pg) : List UInt8 := (pgW p).flatMap fun ws => jn ws ++ [10]
/-! ## Lines and words -/
def clean (w : List UInt8) : Prop := w ≠ [] ∧ ∀ c ∈ w, c ≠ 32 ∧ c ≠ 9 ∧ c ≠ 59 ∧ c ≠ 10
theorem wrd_run : ∀ (x l w : List UInt8), (∀ c ∈ x, c ≠ 32 ∧ c ≠ 9 ∧ c ≠ 59) → wrd (x ++ l) w = wrd l (w ++ x)
  | [], l, w, _ => by simp
  | c :: x, l, w, h => by
    obtain ⟨h1, h2, h3⟩ := h c (List.mem_cons_self ..)
    rw [List.cons_append, wrd, if_neg h3, if_neg (by rintro (e | e); exact h1 e; exact h2 e), wrd_run x l (w ++ [c]) fun d hd => h d (List.mem_cons_of_mem _ hd)]
    simp
theorem wrd_jn : ∀ ws : List (List UInt8), (∀ w ∈ ws, clean w) → wrd (jn ws) [] = ws
  | [], _ => rfl
  | [w], h => by
    obtain ⟨h1, h2⟩ := h w (List.mem_cons_self ..)
    have := wrd_run w [] [] fun c hc => ⟨(h2 c hc).1, (h2 c hc).2.1, (h2 c hc).2.2.1⟩
    rw [List.append_nil] at this
    rw [jn, this, List.nil_append, wrd, if_neg h1]
  | w :: v :: ws, h => by
    obtain ⟨h1, h2⟩ := h w (List.mem_cons_self ..)
    have ih := wrd_jn (v :: ws) fun x hx => h x (List.mem_cons_of_mem _ hx)
    rw [jn, wrd_run w _ [] fun c hc => ⟨(h2 c hc).1, (h2 c hc).2.1, (h2 c hc).2.2.1⟩, List.nil_append, wrd, if_neg (by decide), if_pos (.inl rfl), if_neg h1, ih]
theorem jn_mem : ∀ (ws : List (List UInt8)) (c : UInt8), c ∈ jn ws → c = 32 ∨ ∃ w ∈ ws, c ∈ w
  | [], c, h => by cases h
  | [w], c, h => .inr ⟨w, List.mem_cons_self .., h⟩
  | w :: v :: ws, c, h => by
    rw [jn, List.mem_append, List.mem_cons] at h
    rcases h with h | h | h
    · exact .inr ⟨w, List.mem_cons_self .., h⟩
    · exact .inl h
    · rcases jn_mem (v :: ws) c h with e | ⟨x, hx, hc⟩
      · exact .inl e
      · exact .inr ⟨x, List.mem_cons_of_mem _ hx, hc⟩
theorem lns_run : ∀ (x l w : List UInt8), (∀ c ∈ x, c ≠ 10) → lns (x ++ l) w = lns l (w ++ x)
  | [], l, w, _ => by simp
  | c :: x, l, w, h => by
    rw [List.cons_append, lns, if_neg (h c (List.mem_cons_self ..)), lns_run x l (w ++ [c]) fun d hd => h d (List.mem_cons_of_mem _ hd)]
    simp
theorem lns_lines : ∀ (L : List (List UInt8)), (∀ l ∈ L, ∀ c ∈ l, c ≠ 10) → lns (L.flatMap fun l => l ++ [10]) [] = L
  | [], _ => rfl
  | l :: L, h => by
    have ih := lns_lines L fun x hx => h x (List.mem_cons_of_mem _ hx)
    rw [List.flatMap_cons, List.append_assoc, lns_run l _ [] (h l (List.mem_cons_self ..)), List.nil_append, List.singleton_append, lns, if_pos rfl, ih]
/-! ## Reading, where nothing is wrong -/
/-- Lines in words, read one behind the other. -/
def aft : List (List (List UInt8)) → Pg → Nat → Pg × Nat
  | [], p, k => (p, k)
  | ws :: L, p, k => aft L (good p k ws).1 (good p k ws).2
def fine : List (List (List UInt8)) → Pg → Nat → Prop
  | [], _, _ => True
  | ws :: L, p, k => bad k ws = 0 ∧ fine L (good p k ws).1 (good p k ws).2
theorem reads_fine : ∀ (L : List (List UInt8)) (p : Pg) (k n : Nat), fine (L.map (wrd · [])) p k → reads L p k n = (aft (L.map (wrd · [])) p k, 0, 0)
  | [], p, k, n, _ => rfl
  | l :: L, p, k, n, h => by
    rw [List.map_cons] at h ⊢
    rw [reads, if_neg (by rw [h.1]; decide), reads_fine L _ _ _ h.2]
    rfl
theorem reads_ok : ∀ (L : List (List UInt8)) (p : Pg) (k n : Nat), (reads L p k n).2.1 = 0 → fine (L.map (wrd · [])) p k ∧ (reads L p k n).1 = aft (L.map (wrd · [])) p k
  | [], p, k, n, _ => ⟨trivial, rfl⟩
  | l :: L, p, k, n, h => by
    rw [List.map_cons]
    rw [reads] at h ⊢
    by_cases hb : bad k (wrd l []) = 0
    · rw [if_neg (by rw [hb]; decide)] at h ⊢
      obtain ⟨h1, h2⟩ := reads_ok L _ _ _ h
      exact ⟨⟨hb, h1⟩, h2⟩
    · rw [if_pos hb] at h
      exact absurd h hb
theorem fine_app : ∀ (L M : List (List (List UInt8))) (p : Pg) (k : Nat), fine (L ++ M) p k ↔ fine L p k ∧ fine M (aft L p k).1 (aft L p k).2
  | [], M, p, k => by simp [fine, aft]
  | ws :: L, M, p, k => by
    rw [List.cons_append, fine, fine, aft, fine_app L M, and_assoc]
theorem aft_app : ∀ (L M : List (List (List UInt8))) (p : Pg) (k : Nat), aft (L ++ M) p k = aft M (aft L p k).1 (aft L p k).2
  | [], M, p, k => rfl
  | ws :: L, M, p, k => by rw [List.cons_append, aft, aft, aft_app L M]
/-- Lines of no words say nothing. -/
theorem fine_filter : ∀ (L : List (List (List UInt8))) (p : Pg) (k : Nat), (fine (L.filter (fun ws => !ws.isEmpty)) p k ↔ fine L p k) ∧ aft (L.filter (fun ws => !ws.isEmpty)) p k = aft L p k
  | [], p, k => ⟨Iff.rfl, rfl⟩
  | [] :: L, p, k => by
    obtain ⟨h1, h2⟩ := fine_filter L p k
    rw [List.filter_cons_of_neg (by simp)]
    refine ⟨h1.trans ?_, h2⟩
    rw [fine]
    exact ⟨fun h => ⟨rfl, h⟩, fun h => h.2⟩
  | (w :: ws) :: L, p, k => by
    obtain ⟨h1, h2⟩ := fine_filter L (good p k (w :: ws)).1 (good p k (w :: ws)).2
    rw [List.filter_cons_of_pos (by simp)]
    exact ⟨by rw [fine, fine, h1], by rw [aft, aft, h2]⟩
/-- What a text comes to. -/
theorem prs_fine {s : List UInt8} (hs : s.length ≤ 65536) (hf : fine ((lns s []).map (wrd · [])) Pg.no 0) (h0 : (aft ((lns s []).map (wrd · [])) Pg.no 0).2 ≠ 0) (hc : chk (aft ((lns s []).map (wrd · [])) Pg.no 0).1 = 0) :
    prs s = ((aft ((lns s []).map (wrd · [])) Pg.no 0).1, 0, 0) := by
  unfold prs
  rw [reads_fine _ _ _ _ hf, if_neg (by omega), if_neg (fun h => h rfl), if_neg h0, if_neg (fun h => h hc)]
theorem prs_ok {s : List UInt8} (h : (prs s).2.1 = 0) : s.length ≤ 65536 ∧ fine ((lns s []).map (wrd · [])) Pg.no 0 ∧ (aft ((lns s []).map (wrd · [])) Pg.no 0).2 ≠ 0 ∧ chk (prs s).1 = 0 ∧ (prs s).1 = (aft ((lns s []).map (wrd · [])) Pg.no 0).1 := by
  revert h
  unfold prs
  by_cases h1 : 65536 < s.length
  · rw [if_pos h1]
    intro h; cases h
  rw [if_neg h1]
  by_cases h2 : (reads (lns s []) Pg.no 0 0).2.1 = 0
  · rw [if_neg (by rw [h2]; decide)]
    obtain ⟨k1, k2⟩ := reads_ok _ _ _ _ h2
    rw [k2]
    by_cases h3 : (aft ((lns s []).map (wrd · [])) Pg.no 0).2 = 0
    · rw [if_pos h3]
      intro h; cases h
    rw [if_neg h3]
    by_cases h4 : chk (aft ((lns s []).map (wrd · [])) Pg.no 0).1 = 0
    · rw [if_neg (by rw [h4]; decide)]
      exact fun _ => ⟨by omega, k1, h3, h4, rfl⟩
    · rw [if_pos h4]
      exact fun h => absurd h h4
  · rw [if_pos h2]
    exact fun h => absurd h h2
end Go.Proofs.YtlhhmlfcodmebaaGreatDoor.Pg
namespace Go.Proofs.YtlhhmlfcodmebaaGreatDoor.Pg
set_option linter.unusedVariables false
set_option linter.unusedSimpArgs false
open Go.Proofs.YtlhhmlfcodmebaaGreatDoor.Wd (wrd num isOp ops2)
open Go.Proofs.YtlhhmlfcodmebaaGreatDoor.Num
open Go.Lib
set_option linter.unusedVariables false
set_option linter.unusedSimpArgs false
theorem badC (k : Nat) (w : List UInt8) (ws : List (List UInt8)) : bad k (w :: ws) = if kind w = 0 then 50 else if may (kind w) k = false then 53 else if ws.length ≠ (lets (kind w) (opOf w)).length then 52 else (vals (lets (kind w) (opOf w)) ws).2 := rfl
theorem goodC (p : Pg) (k : Nat) (w : List UInt8) (ws : List (List UInt8)) : good p k (w :: ws) = (taken p (kind w) (opOf w) (vals (lets (kind w) (opOf w)) ws).1, kind w) := rfl
/-- One line, where nothing is wrong. -/
theorem one_line {p : Pg} {k j op : Nat} {w : List UInt8} {ws : List (List UInt8)} {cs : List UInt8} {xs : List Int} (hk : kind w = j) (hj : j ≠ 0) (ho : opOf w = op) (hm : may j k = true) (hl : lets j op = cs) (hn : ws.length = cs.length) (hv : vals cs ws = (xs, 0)) :
    bad k (w :: ws) = 0 ∧ good p k (w :: ws) = (taken p j op xs, j) := by
  rw [badC, goodC, hk, ho, hl, hv]
  rw [if_neg hj, if_neg (by rw [hm]; decide), if_neg (by rw [hn]; exact fun h => h rfl)]
  exact ⟨rfl, rfl⟩
/-! ## Numbers -/
theorem itoa_ne (n : Int) : itoa n ≠ [] := by
  unfold itoa
  split
  · exact List.cons_ne_nil _ _
  · exact digs_ne _
theorem itoa_chars (n : Int) : ∀ c ∈ itoa n, c = 45 ∨ (48 ≤ c.toNat ∧ c.toNat ≤ 57) := by
  intro c hc
  unfold itoa at hc
  split at hc
  · rcases List.mem_cons.1 hc with h | h
    · exact .inl h
    · exact .inr (digs_all _ c h)
  · exact .inr (digs_all _ c hc)
theorem clean_num {c : UInt8} (h : c = 45 ∨ (48 ≤ c.toNat ∧ c.toNat ≤ 57)) : c ≠ 32 ∧ c ≠ 9 ∧ c ≠ 59 ∧ c ≠ 10 := by
  rcases h with rfl | h
  · decide
  · refine ⟨?_, ?_, ?_, ?_⟩ <;> (rintro rfl; revert h; decide)
theorem itoa_clean (n : Int) : clean (itoa n) := ⟨itoa_ne n, fun c hc => clean_num (itoa_chars n c hc)⟩
theorem num_itoa (n : Int) (h : I64 n) : num (itoa n) = (n, true) := by
  unfold num
  rw [parse_itoa n h.1 h.2]
  simp only [if_pos]
theorem nmb_itoa (n : Int) (h : I64 n) : nmb (itoa n) = (n, 0) := by
  unfold nmb
  rw [num_itoa n h]
  rfl
def Sm (n : Int) : Prop := 0 ≤ n ∧ n ≤ 999999999
theorem Sm.i64 {n : Int} (h : Sm n) : I64 n := ⟨by have := h.1; omega, by have := h.2; omega⟩
theorem sml_itoa (n : Int) (h : Sm n) : sml (itoa n) = (n, 0) := by
  unfold sml
  rw [num_itoa n h.i64, if_pos ⟨rfl, h.1, h.2⟩]
theorem ltr_itoa (n : Int) (h : Sm n) (c : UInt8) (b : Bool) : ltr (c :: itoa n) c b = (n, 0) := by
  unfold ltr
  rw [if_neg (by rintro ⟨_, e⟩; exact itoa_ne n (List.cons.inj e).2), if_pos (show (c :: itoa n).head? = some c from rfl)]
  exact sml_itoa n h
theorem val_ltr (c : UInt8) (w : List UInt8) (h1 : c ≠ 110) (h2 : c ≠ 78) : val c w = ltr w (headOf c) (decide (c = 111 ∨ c = 84)) := by
  unfold val
  rw [if_neg h1, if_neg h2]
theorem val_lit (c d : UInt8) (n : Int) (h : Sm n) (h1 : c ≠ 110) (h2 : c ≠ 78) (hd : headOf c = d) : val c (d :: itoa n) = (n, 0) := by
  rw [val_ltr c _ h1 h2, hd]
  exact ltr_itoa n h d _
/-! ## Operands -/
def okArg (c : UInt8) (n : Int) : Prop := (c = 45 ∧ n = 0) ∨ (c = 110 ∧ I64 n) ∨ (c ≠ 45 ∧ c ≠ 110 ∧ c ≠ 78 ∧ c ≠ 84 ∧ c ≠ 32 ∧ c ≠ 9 ∧ c ≠ 59 ∧ c ≠ 10 ∧ (Sm n ∨ (c = 111 ∧ n = -1)))
theorem val_opw (c : UInt8) (n : Int) (h : okArg c n) (h45 : c ≠ 45) : val c (opw c n) = (n, 0) := by
  rcases h with ⟨e, _⟩ | ⟨rfl, h⟩ | ⟨_, h1, h2, h3, _, _, _, _, h⟩
  · exact absurd e h45
  · exact nmb_itoa n h
  · unfold val opw
    rw [if_neg h1, if_neg h2, if_neg h1]
    by_cases hb : c = 111 ∧ n = -1
    · obtain ⟨rfl, rfl⟩ := hb
      rfl
    · rw [if_neg hb]
      exact ltr_itoa n (h.resolve_right hb) _ _
theorem headOf_clean {c : UInt8} (h : c ≠ 32 ∧ c ≠ 9 ∧ c ≠ 59 ∧ c ≠ 10) : headOf c ≠ 32 ∧ headOf c ≠ 9 ∧ headOf c ≠ 59 ∧ headOf c ≠ 10 := by
  unfold headOf
  split
  · decide
  · split
    · decide
    · split
      · decide
      · exact h
theorem opw_clean (c : UInt8) (n : Int) (h : okArg c n) (h45 : c ≠ 45) : clean (opw c n) := by
  unfold opw
  by_cases h1 : c = 110
  · rw [if_pos h1]; exact itoa_clean n
  rw [if_neg h1]
  by_cases hb : c = 111 ∧ n = -1
  · rw [if_pos hb]; exact ⟨by decide, by decide⟩
  rw [if_neg hb]
  refine ⟨List.cons_ne_nil _ _, fun d hd => ?_⟩
  rcases List.mem_cons.1 hd with rfl | hd
  · refine headOf_clean ?_
    rcases h with ⟨e, _⟩ | ⟨e, h⟩ | ⟨_, _, _, _, h4, h5, h6, h7, h⟩
    · exact absurd e h45
    · exact absurd e h1
    · exact ⟨h4, h5, h6, h7⟩
  · exact (itoa_clean n).2 d hd
def keep : List UInt8 → List Int → List Int
  | c :: cs, n :: ns => if c = 45 then keep cs ns else n :: keep cs ns
  | _, _ => []
theorem opws_all : ∀ (L : List UInt8) (ns : List Int), L.length = ns.length → (∀ p ∈ L.zip ns, okArg p.1 p.2) →
    (opws L ns).length = (L.filter (fun c => decide (c ≠ 45))).length ∧ vals (L.filter (fun c => decide (c ≠ 45))) (opws L ns) = (keep L ns, 0) ∧ spread L (keep L ns) = ns ∧ (∀ w ∈ opws L ns, clean w)
  | [], [], _, _ => ⟨rfl, rfl, rfl, fun _ h => by cases h⟩
  | c :: cs, n :: ns, hl, h => by
    obtain ⟨i1, i2, i3, i4⟩ := opws_all cs ns (by simpa using hl) fun p hp => h p (by rw [List.zip_cons_cons]; exact List.mem_cons_of_mem _ hp)
    have h0 := h (c, n) (by rw [List.zip_cons_cons]; exact List.mem_cons_self ..)
    by_cases hc : c = 45
    · subst hc
      obtain rfl : n = 0 := by
        rcases h0 with ⟨_, e⟩ | ⟨e, _⟩ | ⟨e, _⟩
        · exact e
        · exact absurd (show (45 : UInt8) = 110 from e) (by decide)
        · exact absurd rfl e
      have hf : ((45 : UInt8) :: cs).filter (fun c => decide (c ≠ 45)) = cs.filter (fun c => decide (c ≠ 45)) := by simp
      rw [hf, opws, if_pos rfl, keep, if_pos rfl, spread, if_pos rfl, i3]
      exact ⟨i1, i2, rfl, i4⟩
    · have hf : (c :: cs).filter (fun c => decide (c ≠ 45)) = c :: cs.filter (fun c => decide (c ≠ 45)) := by simp [hc]
      rw [hf, opws, if_neg hc, keep, if_neg hc, spread, if_neg hc, vals, val_opw c n h0 hc, if_pos rfl, i2]
      refine ⟨by simp [i1], rfl, by simp [i3], fun w hw => ?_⟩
      rcases List.mem_cons.1 hw with rfl | hw
      · exact opw_clean c n h0 hc
      · exact i4 w hw
/-- An instruction whose operands are right. -/
structure InsOk (x : Ins) : Prop where
  op : 0 ≤ x.op ∧ isOp x.op.toNat
  len : (form x.op).data.toList.length = 4
  args : ∀ p ∈ (form x.op).data.toList.zip x.ops, okArg p.1 p.2
theorem ops_known : ∀ op, op ≤ 65 → (1 ≤ op ∧ op ≤ 36 ∨ op ∈ ops2) → kind (opName op) = 10 ∧ opOf (opName op) = op ∧ clean (opName op) ∧ (opName op).length ≤ 6 := by
  have h : (List.range 66).all (fun op => !(decide (1 ≤ op) && decide (op ≤ 36) || ops2.contains op) || (decide (kind (opName op) = 10) && decide (opOf (opName op) = op) && !(opName op).isEmpty && (opName op).all (fun c => decide (c ≠ 32) && decide (c ≠ 9) && decide (c ≠ 59) && decide (c ≠ 10)) && decide ((opName op).length ≤ 6))) = true := by decide +kernel
  intro op h1 h2
  have h3 := List.all_eq_true.1 h op (List.mem_range.2 (by omega))
  have h4 : (decide (1 ≤ op) && decide (op ≤ 36) || ops2.contains op) = true := by
    rcases h2 with ⟨a, b⟩ | h2
    · simp [a, b]
    · simp [h2]
  rw [h4] at h3
  simp only [Bool.not_true, Bool.false_or, Bool.and_eq_true, decide_eq_true_eq, Bool.not_eq_true', List.all_eq_true] at h3
  obtain ⟨⟨⟨⟨a, b⟩, c⟩, d⟩, e⟩ := h3
  refine ⟨a, b, ⟨fun q => (by rw [q] at c; cases c), fun x hx => ?_⟩, e⟩
  obtain ⟨⟨⟨y1, y2⟩, y3⟩, y4⟩ := d x hx
  exact ⟨y1, y2, y3, y4⟩
theorem ops_le {op : Nat} (h : isOp op) : op ≤ 65 := by
  rcases h with h | h
  · omega
  · have : ∀ k ∈ ops2, k ≤ 65 := by decide
    exact this op h
theorem insOf_ops {x : Ins} {xs : List Int} (h : spread (form x.op).data.toList xs = x.ops) (h0 : 0 ≤ x.op) : insOf x.op.toNat xs = x := by
  have e : ((x.op.toNat : Nat) : Int) = x.op := by omega
  unfold insOf
  rw [e, h]
  obtain ⟨op, a, b, c, n⟩ := x
  rfl
theorem may_code {k : Nat} (h : 6 ≤ k) : may 10 k = true := by simp [may, h]
theorem rd_ins {p : Pg} {k : Nat} {x : Ins} (h : InsOk x) (hk : 6 ≤ k) : bad k (insW x) = 0 ∧ good p k (insW x) = ({ p with funcs := onLast (fun f => { f with code := f.code ++ [x] }) p.funcs }, 10) ∧ ∀ w ∈ insW x, clean w := by
  obtain ⟨k1, k2, k3, k4⟩ := ops_known x.op.toNat (ops_le h.op.2) h.op.2
  obtain ⟨a1, a2, a3, a4⟩ := opws_all (form x.op).data.toList x.ops h.len h.args
  have e : ((x.op.toNat : Nat) : Int) = x.op := by have := h.op.1; omega
  have hl : lets 10 x.op.toNat = (form x.op).data.toList.filter (fun c => decide (c ≠ 45)) := by
    unfold lets
    rw [e]
    rfl
  obtain ⟨b1, b2⟩ := one_line (p := p) (k := k) k1 (by decide) k2 (may_code hk) hl a1 a2
  refine ⟨b1, ?_, fun w hw => ?_⟩
  · rw [insW, b2]
    show (taken p 10 _ _, 10) = _
    have : taken p 10 x.op.toNat (keep (form x.op).data.toList x.ops) = { p with funcs := onLast (fun f => { f with code := f.code ++ [insOf x.op.toNat (keep (form x.op).data.toList x.ops)] }) p.funcs } := rfl
    rw [this, insOf_ops a3 h.op.1]
  · rcases List.mem_cons.1 hw with rfl | hw
    · exact k3
    · exact a4 w hw
/-! ## The other lines -/
theorem rd_scarab (p : Pg) : bad 0 [[115, 99, 97, 114, 97, 98]] = 0 ∧ good p 0 [[115, 99, 97, 114, 97, 98]] = (p, 1) := by
  have := one_line (p := p) (k := 0) (j := 1) (op := 0) (w := [115, 99, 97, 114, 97, 98]) (ws := []) (cs := []) (xs := []) (by decide) (by decide) (by decide) (by decide) rfl rfl rfl
  exact this
theorem vals_one {c : UInt8} {w : List UInt8} {n : Int} (h : val c w = (n, 0)) : vals [c] [w] = ([n], 0) := by
  rw [vals, h, if_pos rfl]
  rfl
theorem rd_var {p : Pg} {k : Nat} (v : Vr) (h : I64 v.init) (hk : 1 ≤ k ∧ k ≤ 3) : ∃ j, 1 ≤ j ∧ j ≤ 3 ∧ bad k (varW v) = 0 ∧ good p k (varW v) = ({ p with vars := p.vars ++ [v] }, j) := by
  obtain ⟨b, n⟩ := v
  have hv : vals [110] [itoa n] = ([n], 0) := vals_one (nmb_itoa n h)
  have hm2 : may 2 k = true := by simp [may, hk]
  have hm3 : may 3 k = true := by simp [may, hk]
  cases b
  · have := one_line (p := p) (k := k) (j := 2) (op := 0) (w := [118, 97, 114]) (ws := [itoa n]) (by decide) (by decide) (by decide) hm2 rfl rfl hv
    exact ⟨2, by decide, by decide, this⟩
  · have := one_line (p := p) (k := k) (j := 3) (op := 0) (w := [97, 116, 111, 109, 105, 99]) (ws := [itoa n]) (by decide) (by decide) (by decide) hm3 rfl rfl hv
    exact ⟨3, by decide, by decide, this⟩
theorem rd_lock {p : Pg} {k : Nat} (hk : 1 ≤ k ∧ k ≤ 4) : bad k [[109, 117, 116, 101, 120]] = 0 ∧ good p k [[109, 117, 116, 101, 120]] = ({ p with locks := p.locks + 1 }, 4) := by
  have hm : may 4 k = true := by simp [may, hk]
  exact one_line (p := p) (k := k) (j := 4) (op := 0) (ws := []) (cs := []) (xs := []) (by decide) (by decide) (by decide) hm rfl rfl rfl
theorem rd_chan {p : Pg} {k : Nat} {n : Int} (h : Sm n) (hk : 1 ≤ k ∧ k ≤ 5) : bad k [[99, 104, 97, 110], itoa n] = 0 ∧ good p k [[99, 104, 97, 110], itoa n] = ({ p with chans := p.chans ++ [n] }, 5) := by
  have hm : may 5 k = true := by simp [may, hk]
  exact one_line (p := p) (k := k) (j := 5) (op := 0) (ws := [itoa n]) (cs := [78]) (xs := [n]) (by decide) (by decide) (by decide) hm rfl rfl (vals_one (sml_itoa n h))
theorem rd_func {p : Pg} {k : Nat} {a b : Int} (ha : Sm a) (hb : Sm b) (hk : 1 ≤ k) : bad k [[102, 117, 110, 99], itoa a, itoa b] = 0 ∧ good p k [[102, 117, 110, 99], itoa a, itoa b] = ({ p with funcs := p.funcs ++ [⟨a, b, none, 0, [], none, 0, []⟩] }, 6) := by
  have hm : may 6 k = true := by simp [may, hk]
  have hv : vals [78, 78] [itoa a, itoa b] = ([a, b], 0) := by
    rw [vals, show val 78 (itoa a) = (a, 0) from sml_itoa a ha, if_pos rfl, vals_one (c := 78) (sml_itoa b hb)]
  exact one_line (p := p) (k := k) (j := 6) (op := 0) (ws := [itoa a, itoa b]) (cs := [78, 78]) (xs := [a, b]) (by decide) (by decide) (by decide) hm rfl rfl hv
theorem rd_choose {p : Pg} {k : Nat} {n : Int} (h : n = -1 ∨ Sm n) (hk : 6 ≤ k ∧ k ≤ 9) : bad k [[99, 104, 111, 111, 115, 101], if n = -1 then [95] else 64 :: itoa n] = 0 ∧ good p k [[99, 104, 111, 111, 115, 101], if n = -1 then [95] else 64 :: itoa n] = ({ p with funcs := onLast (fun f => { f with sels := f.sels ++ [⟨none, 0, [], n⟩] }) p.funcs }, 7) := by
  have hm : may 7 k = true := by simp [may, hk]
  have hv : val 84 (if n = -1 then [95] else 64 :: itoa n) = (n, 0) := by
    by_cases e : n = -1
    · subst e; rfl
    · rw [if_neg e]
      exact val_lit 84 64 n (h.resolve_left e) (by decide) (by decide) rfl
  exact one_line (p := p) (k := k) (j := 7) (op := 0) (cs := [84]) (xs := [n]) (by decide) (by decide) (by decide) hm rfl rfl (vals_one hv)
theorem rd_case {p : Pg} {k : Nat} (c : Cas) (h1 : Sm c.ch) (h2 : Sm c.reg ∨ (c.send = false ∧ c.reg = -1)) (h3 : Sm c.to) (hk : 7 ≤ k ∧ k ≤ 9) : ∃ j, 7 ≤ j ∧ j ≤ 9 ∧ bad k (casW c) = 0 ∧ good p k (casW c) = ({ p with funcs := onLast (fun f => { f with sels := onLast (fun s => { s with cases := s.cases ++ [c] }) f.sels }) p.funcs }, j) := by
  have hm8 : may 8 k = true := by simp [may, hk]
  have hm9 : may 9 k = true := by simp [may, hk]
  have v1 : val 99 (99 :: itoa c.ch) = (c.ch, 0) := val_lit 99 99 c.ch h1 (by decide) (by decide) rfl
  have v3 : val 116 (64 :: itoa c.to) = (c.to, 0) := val_lit 116 64 c.to h3 (by decide) (by decide) rfl
  have v2 : val 111 (opw 111 c.reg) = (c.reg, 0) := val_opw 111 c.reg (.inr (.inr ⟨by decide, by decide, by decide, by decide, by decide, by decide, by decide, by decide, by rcases h2 with h | ⟨_, h⟩; exact .inl h; exact .inr ⟨rfl, h⟩⟩)) (by decide)
  obtain ⟨sd, ch, rg, tt⟩ := c
  simp only at v1 v2 v3 h1 h2 h3
  cases sd
  · have hv : vals [99, 111, 116] [99 :: itoa ch, opw 111 rg, 64 :: itoa tt] = ([ch, rg, tt], 0) := by
      rw [vals, v1, if_pos rfl, vals, v2, if_pos rfl, vals_one v3]
    exact ⟨9, by decide, by decide, one_line (p := p) (k := k) (j := 9) (op := 0) (w := [111, 110, 114, 101, 99, 118]) (ws := [99 :: itoa ch, opw 111 rg, 64 :: itoa tt]) (by decide) (by decide) (by decide) hm9 rfl rfl hv⟩
  · have hr : Sm rg := by rcases h2 with h | ⟨h, _⟩; exact h; cases h
    have e : opw 111 rg = 114 :: itoa rg := by
      have := hr.1
      unfold opw
      rw [if_neg (by decide), if_neg (by rintro ⟨_, e⟩; omega)]
      rfl
    have v2' : val 114 (opw 111 rg) = (rg, 0) := by rw [e]; exact val_lit 114 114 rg hr (by decide) (by decide) rfl
    have hv : vals [99, 114, 116] [99 :: itoa ch, opw 111 rg, 64 :: itoa tt] = ([ch, rg, tt], 0) := by
      rw [vals, v1, if_pos rfl, vals, v2', if_pos rfl, vals_one v3]
    exact ⟨8, by decide, by decide, one_line (p := p) (k := k) (j := 8) (op := 0) (w := [111, 110, 115, 101, 110, 100]) (ws := [99 :: itoa ch, opw 111 rg, 64 :: itoa tt]) (by decide) (by decide) (by decide) hm8 rfl rfl hv⟩
/-! ## Sections -/
theorem sec_vars : ∀ (vs : List Vr) (p : Pg) (k : Nat), (∀ v ∈ vs, I64 v.init) → 1 ≤ k ∧ k ≤ 3 → fine (vs.map varW) p k ∧ ∃ j, (1 ≤ j ∧ j ≤ 3) ∧ aft (vs.map varW) p k = ({ p with vars := p.vars ++ vs }, j)
  | [], p, k, _, hk => ⟨trivial, k, hk, by simp [aft]⟩
  | v :: vs, p, k, h, hk => by
    obtain ⟨j, j1, j2, hb, hg⟩ := rd_var (p := p) v (h v (List.mem_cons_self ..)) hk
    obtain ⟨i1, i, hi, i2⟩ := sec_vars vs { p with vars := p.vars ++ [v] } j (fun x hx => h x (List.mem_cons_of_mem _ hx)) ⟨j1, j2⟩
    rw [List.map_cons, fine, aft, hg]
    exact ⟨⟨hb, i1⟩, i, hi, by rw [i2]; simp⟩
theorem sec_locks : ∀ (n : Nat) (p : Pg) (k : Nat), 1 ≤ k ∧ k ≤ 4 → fine (List.replicate n [[109, 117, 116, 101, 120]]) p k ∧ ∃ j, (1 ≤ j ∧ j ≤ 4) ∧ aft (List.replicate n [[109, 117, 116, 101, 120]]) p k = ({ p with locks := p.locks + n }, j)
  | 0, p, k, hk => ⟨trivial, k, hk, by simp [aft]⟩
  | n + 1, p, k, hk => by
    obtain ⟨hb, hg⟩ := rd_lock (p := p) hk
    obtain ⟨i1, i, hi, i2⟩ := sec_locks n { p with locks := p.locks + 1 } 4 (by decide)
    rw [List.replicate_succ, fine, aft, hg]
    refine ⟨⟨hb, i1⟩, i, hi, ?_⟩
    rw [i2]
    simp only [Prod.mk.injEq, Pg.mk.injEq, and_true, true_and]
    omega
theorem sec_chans : ∀ (l : List Int) (p : Pg) (k : Nat), (∀ n ∈ l, Sm n) → 1 ≤ k ∧ k ≤ 5 → fine (l.map fun n => [[99, 104, 97, 110], itoa n]) p k ∧ ∃ j, (1 ≤ j ∧ j ≤ 5) ∧ aft (l.map fun n => [[99, 104, 97, 110], itoa n]) p k = ({ p with chans := p.chans ++ l }, j)
  | [], p, k, _, hk => ⟨trivial, k, hk, by simp [aft]⟩
  | n :: l, p, k, h, hk => by
    obtain ⟨hb, hg⟩ := rd_chan (p := p) (h n (List.mem_cons_self ..)) hk
    obtain ⟨i1, i, hi, i2⟩ := sec_chans l { p with chans := p.chans ++ [n] } 5 (fun x hx => h x (List.mem_cons_of_mem _ hx)) (by decide)
    rw [List.map_cons, fine, aft, hg]
    exact ⟨⟨hb, i1⟩, i, hi, by rw [i2]; simp⟩
structure CasOk (c : Cas) : Prop where
  ch : Sm c.ch
  reg : Sm c.reg ∨ (c.send = false ∧ c.reg = -1)
  dst : Sm c.to
structure SelOk (s : Sel) : Prop where
  els : s.els = -1 ∨ Sm s.els
  cases : ∀ c ∈ s.cases, CasOk c
structure FnOk (f : Fn) : Prop where
  par : Sm f.params
  reg : Sm f.regs
  sels : ∀ s ∈ f.sels, SelOk s
  code : ∀ x ∈ f.code, InsOk x
structure PgOk (p : Pg) : Prop where
  vars : ∀ v ∈ p.vars, I64 v.init
  locks : 0 ≤ p.locks
  chans : ∀ n ∈ p.chans, Sm n
  funcs : ∀ f ∈ p.funcs, FnOk f
/-- The program with its last function another. -/
def lastF (p : Pg) (fs : List Fn) (f : Fn) : Pg := { p with funcs := fs ++ [f] }
theorem sec_cases : ∀ (l : List Cas) (p : Pg) (fs : List Fn) (f : Fn) (ss : List Sel) (s : Sel) (k : Nat), (∀ c ∈ l, CasOk c) → f.sels = ss ++ [s] → 7 ≤ k ∧ k ≤ 9 →
    fine (l.map casW) (lastF p fs f) k ∧ ∃ j, (7 ≤ j ∧ j ≤ 9) ∧ aft (l.map casW) (lastF p fs f) k = (lastF p fs { f with sels := ss ++ [{ s with cases := s.cases ++ l }] }, j)
  | [], p, fs, f, ss, s, k, _, hs, hk => ⟨trivial, k, hk, by
      simp only [List.append_nil, List.map_nil, aft]
      rw [show ({ f with sels := ss ++ [s] } : Fn) = f by rw [← hs]]⟩
  | c :: l, p, fs, f, ss, s, k, h, hs, hk => by
    have hc := h c (List.mem_cons_self ..)
    obtain ⟨j, j1, j2, hb, hg⟩ := rd_case (p := lastF p fs f) c hc.ch hc.reg hc.dst hk
    have e : ({ lastF p fs f with funcs := onLast (fun f => { f with sels := onLast (fun s => { s with cases := s.cases ++ [c] }) f.sels }) (lastF p fs f).funcs } : Pg) = lastF p fs { f with sels := ss ++ [{ s with cases := s.cases ++ [c] }] } := by
      unfold lastF
      simp only [onLast_snoc, hs]
    obtain ⟨i1, i, hi, i2⟩ := sec_cases l p fs { f with sels := ss ++ [{ s with cases := s.cases ++ [c] }] } ss { s with cases := s.cases ++ [c] } j (fun x hx => h x (List.mem_cons_of_mem _ hx)) rfl ⟨j1, j2⟩
    rw [List.map_cons, fine, aft, hg, e]
    exact ⟨⟨hb, i1⟩, i, hi, by rw [i2]; simp⟩
theorem sec_sels : ∀ (l : List Sel) (p : Pg) (fs : List Fn) (f : Fn) (k : Nat), (∀ s ∈ l, SelOk s) → 6 ≤ k ∧ k ≤ 9 →
    fine (l.flatMap selW) (lastF p fs f) k ∧ ∃ j, (6 ≤ j ∧ j ≤ 9) ∧ aft (l.flatMap selW) (lastF p fs f) k = (lastF p fs { f with sels := f.sels ++ l.map Sel.bare }, j)
  | [], p, fs, f, k, _, hk => ⟨trivial, k, hk, by simp [aft, lastF]⟩
  | s :: l, p, fs, f, k, h, hk => by
    have hs := h s (List.mem_cons_self ..)
    obtain ⟨hb, hg⟩ := rd_choose (p := lastF p fs f) hs.els hk
    have e : ({ lastF p fs f with funcs := onLast (fun f => { f with sels := f.sels ++ [⟨none, 0, [], s.els⟩] }) (lastF p fs f).funcs } : Pg) = lastF p fs { f with sels := f.sels ++ [⟨none, 0, [], s.els⟩] } := by
      unfold lastF
      simp only [onLast_snoc]
    obtain ⟨c1, j, hj, c2⟩ := sec_cases s.cases p fs { f with sels := f.sels ++ [⟨none, 0, [], s.els⟩] } f.sels ⟨none, 0, [], s.els⟩ 7 hs.cases rfl (by decide)
    obtain ⟨i1, i, hi, i2⟩ := sec_sels l p fs { f with sels := f.sels ++ [⟨none, 0, s.cases, s.els⟩] } j (fun x hx => h x (List.mem_cons_of_mem _ hx)) ⟨by omega, hj.2⟩
    rw [List.flatMap_cons, selW, List.cons_append, fine, aft, hg, e, fine_app, aft_app, c2]
    refine ⟨⟨hb, c1, ?_⟩, i, hi, ?_⟩
    · simpa using i1
    · simp only [List.nil_append]
      rw [i2]
      simp [Sel.bare]
theorem sec_code : ∀ (l : List Ins) (p : Pg) (fs : List Fn) (f : Fn) (k : Nat), (∀ x ∈ l, InsOk x) → 6 ≤ k ∧ k ≤ 10 →
    fine (l.map insW) (lastF p fs f) k ∧ ∃ j, (6 ≤ j ∧ j ≤ 10) ∧ aft (l.map insW) (lastF p fs f) k = (lastF p fs { f with code := f.code ++ l }, j)
  | [], p, fs, f, k, _, hk => ⟨trivial, k, hk, by simp [aft, lastF]⟩
  | x :: l, p, fs, f, k, h, hk => by
    obtain ⟨hb, hg, _⟩ := rd_ins (p := lastF p fs f) (h x (List.mem_cons_self ..)) hk.1
    have e : ({ lastF p fs f with funcs := onLast (fun f => { f with code := f.code ++ [x] }) (lastF p fs f).funcs } : Pg) = lastF p fs { f with code := f.code ++ [x] } := by
      unfold lastF
      simp only [onLast_snoc]
    obtain ⟨i1, i, hi, i2⟩ := sec_code l p fs { f with code := f.code ++ [x] } 10 (fun x hx => h x (List.mem_cons_of_mem _ hx)) (by decide)
    rw [List.map_cons, fine, aft, hg, e]
    exact ⟨⟨hb, i1⟩, i, hi, by rw [i2]; simp⟩
theorem sec_funcs : ∀ (l : List Fn) (p : Pg) (k : Nat), (∀ f ∈ l, FnOk f) → 1 ≤ k ∧ k ≤ 10 → fine (l.flatMap fnW) p k ∧ ∃ j, (1 ≤ j ∧ j ≤ 10) ∧ aft (l.flatMap fnW) p k = ({ p with funcs := p.funcs ++ l.map Fn.bare }, j)
  | [], p, k, _, hk => ⟨trivial, k, hk, by simp [aft]⟩
  | f :: l, p, k, h, hk => by
    have hf := h f (List.mem_cons_self ..)
    obtain ⟨hb, hg⟩ := rd_func (p := p) hf.par hf.reg hk.1
    have e : ({ p with funcs := p.funcs ++ [⟨f.params, f.regs, none, 0, [], none, 0, []⟩] } : Pg) = lastF p p.funcs ⟨f.params, f.regs, none, 0, [], none, 0, []⟩ := rfl
    obtain ⟨s1, j, hj, s2⟩ := sec_sels f.sels p p.funcs ⟨f.params, f.regs, none, 0, [], none, 0, []⟩ 6 hf.sels (by decide)
    obtain ⟨c1, i, hi, c2⟩ := sec_code f.code p p.funcs ⟨f.params, f.regs, none, 0, [], none, 0, f.sels.map Sel.bare⟩ j hf.code ⟨hj.1, by omega⟩
    obtain ⟨r1, m, hm, r2⟩ := sec_funcs l (lastF p p.funcs f.bare) i (fun x hx => h x (List.mem_cons_of_mem _ hx)) ⟨by omega, hi.2⟩
    simp only [List.nil_append] at s2 c2
    rw [List.flatMap_cons, fnW, List.cons_append, fine, aft, hg, e, List.append_assoc, fine_app, aft_app, s2, fine_app, aft_app, c2]
    refine ⟨⟨hb, s1, c1, r1⟩, m, hm, ?_⟩
    show aft (l.flatMap fnW) (lastF p p.funcs f.bare) i = _
    rw [r2]
    simp [lastF]
theorem pgW_read (p : Pg) (h : PgOk p) : fine (pgW p) Pg.no 0 ∧ (aft (pgW p) Pg.no 0).1 = p.bare ∧ (aft (pgW p) Pg.no 0).2 ≠ 0 := by
  obtain ⟨hb, hg⟩ := rd_scarab Pg.no
  obtain ⟨a1, ja, ha, a2⟩ := sec_vars p.vars Pg.no 1 h.vars (by decide)
  obtain ⟨b1, jb, hb', b2⟩ := sec_locks p.locks.toNat { Pg.no with vars := Pg.no.vars ++ p.vars } ja ⟨ha.1, by omega⟩
  obtain ⟨c1, jc, hc, c2⟩ := sec_chans p.chans { Pg.no with vars := Pg.no.vars ++ p.vars, locks := Pg.no.locks + p.locks.toNat } jb h.chans ⟨hb'.1, by omega⟩
  obtain ⟨d1, jd, hd, d2⟩ := sec_funcs p.funcs { Pg.no with vars := Pg.no.vars ++ p.vars, locks := Pg.no.locks + p.locks.toNat, chans := Pg.no.chans ++ p.chans } jc h.funcs ⟨hc.1, by omega⟩
  rw [pgW, fine, aft, hg, fine_app, aft_app, a2, fine_app, aft_app, b2, fine_app, aft_app, c2, d2]
  refine ⟨⟨hb, a1, b1, c1, d1⟩, ?_, by simp only; omega⟩
  have := h.locks
  simp only [Pg.no, Pg.bare, List.nil_append, Pg.mk.injEq, true_and, and_true]
  omega
end Go.Proofs.YtlhhmlfcodmebaaGreatDoor.Pg
namespace Go.Proofs.YtlhhmlfcodmebaaGreatDoor.Pg
set_option linter.unusedVariables false
set_option linter.unusedSimpArgs false
open Go.Proofs.YtlhhmlfcodmebaaGreatDoor.Wd (wrd num isOp ops2)
open Go.Proofs.YtlhhmlfcodmebaaGreatDoor.Num
open Go.Lib
set_option linter.unusedVariables false
set_option linter.unusedSimpArgs false
theorem first_none {α : Type} {g : α → Int} : ∀ {l : List α}, firstE g l = 0 → ∀ a ∈ l, g a = 0
  | [], _, a, h => by cases h
  | b :: l, h, a, ha => by
    rw [firstE] at h
    by_cases hb : g b = 0
    · rw [if_pos hb] at h
      rcases List.mem_cons.1 ha with rfl | ha
      · exact hb
      · exact first_none h a ha
    · rw [if_neg hb] at h
      exact absurd h hb
theorem fncs_none (P : Pg) : ∀ {m : Bool} {l : List Fn}, fncs P m l = 0 → ∀ f ∈ l, ∃ m', fnc P f m' = 0
  | m, [], _, f, h => by cases h
  | m, g :: l, h, f, hf => by
    rw [fncs] at h
    by_cases hb : fnc P g m = 0
    · rw [if_pos hb] at h
      rcases List.mem_cons.1 hf with rfl | hf
      · exact ⟨m, hb⟩
      · exact fncs_none P h f hf
    · rw [if_neg hb] at h
      exact absurd h hb
structure Whole (P : Pg) : Prop where
  vars : P.vars.length ≤ 8
  lock : 0 ≤ P.locks ∧ P.locks ≤ 4
  chan : P.chans.length ≤ 4
  func : 1 ≤ P.funcs.length ∧ P.funcs.length ≤ 8
  caps : ∀ n ∈ P.chans, 0 ≤ n ∧ n ≤ 4
theorem whole_of {P : Pg} (h : chk P = 0) : Whole P ∧ fncs P true P.funcs = 0 := by
  unfold chk at h
  by_cases hw : whole P = 0
  · rw [if_pos hw] at h
    refine ⟨?_, h⟩
    unfold whole at hw
    by_cases h1 : P.vars.length ≤ 8 ∧ 0 ≤ P.locks ∧ P.locks ≤ 4 ∧ P.chans.length ≤ 4 ∧ 1 ≤ P.funcs.length ∧ P.funcs.length ≤ 8
    · rw [if_pos h1] at hw
      by_cases h2 : P.chans.all (fun n => decide (0 ≤ n ∧ n ≤ 4)) = true
      · exact ⟨h1.1, ⟨h1.2.1, h1.2.2.1⟩, h1.2.2.2.1, h1.2.2.2.2, fun n hn => of_decide_eq_true (List.all_eq_true.1 h2 n hn)⟩
      · rw [if_neg h2] at hw
        exact absurd hw (by decide)
    · rw [if_neg h1] at hw
      exact absurd hw (by decide)
  · rw [if_neg hw] at h
    exact absurd h hw
structure Szs (f : Fn) : Prop where
  regs : 0 ≤ f.regs ∧ f.regs ≤ 8
  pars : 0 ≤ f.params ∧ f.params ≤ f.regs
  code : 1 ≤ f.code.length ∧ f.code.length ≤ 64
  sels : f.sels.length ≤ 4
  cases : ∀ s ∈ f.sels, 1 ≤ s.cases.length ∧ s.cases.length ≤ 4
theorem fnc_of {P : Pg} {f : Fn} {m : Bool} (h : fnc P f m = 0) : Szs f ∧ (∀ s ∈ f.sels, sel P f s = 0) ∧ (∀ x ∈ f.code, ins P f x = 0) := by
  unfold fnc at h
  by_cases h1 : szs f m = true
  · rw [if_pos h1] at h
    by_cases h2 : firstE (sel P f) f.sels = 0
    · rw [if_pos h2] at h
      by_cases h3 : firstE (ins P f) f.code = 0
      · refine ⟨?_, first_none h2, first_none h3⟩
        unfold szs at h1
        rw [Bool.and_eq_true, decide_eq_true_eq] at h1
        obtain ⟨⟨a1, a2, a3, a4, a5, a6, a7, a8⟩, b⟩ := h1
        exact ⟨⟨a1, a2⟩, ⟨a3, a4⟩, ⟨a6, a7⟩, a8, fun s hs => of_decide_eq_true (List.all_eq_true.1 b s hs)⟩
      · rw [if_neg h3] at h
        exact absurd h h3
    · rw [if_neg h2] at h
      exact absurd h h2
  · rw [if_neg h1] at h
    exact absurd h (by decide)
theorem reg_of {f : Fn} {n : Int} (h : reg f n = 0) : 0 ≤ n ∧ n < f.regs := by
  unfold reg at h
  split at h
  · assumption
  · exact absurd h (by decide)
theorem obj_of {n m : Int} (h : obj n m = 0) : 0 ≤ n ∧ n < m := by
  unfold obj at h
  split at h
  · assumption
  · exact absurd h (by decide)
theorem tgt_of {f : Fn} {n : Int} (h : tgt f n = 0) : 0 ≤ n ∧ n < f.code.length := by
  unfold tgt at h
  split at h
  · assumption
  · exact absurd h (by decide)
theorem cas_ok {P : Pg} {f : Fn} (hw : Whole P) (hs : Szs f) {c : Cas} (h : cas P f c = 0) : CasOk c ∧ c.ch ≤ 4 ∧ c.reg ≤ 8 ∧ c.to ≤ 64 := by
  have := hw.chan; have := hs.regs; have := hs.code
  unfold cas at h
  by_cases h1 : obj c.ch P.chans.length = 0
  · rw [if_pos h1] at h
    have o := obj_of h1
    by_cases h2 : (c.send = true ∨ c.reg ≠ -1) ∧ ¬ reg f c.reg = 0
    · rw [if_pos h2] at h; exact absurd h (by decide)
    rw [if_neg h2] at h
    by_cases h3 : c.send = true ∧ P.chans.getD c.ch.toNat 0 = 0
    · rw [if_pos h3] at h; exact absurd h (by decide)
    rw [if_neg h3] at h
    have t := tgt_of h
    by_cases hr : reg f c.reg = 0
    · have r := reg_of hr
      exact ⟨⟨⟨o.1, by omega⟩, .inl ⟨r.1, by omega⟩, ⟨t.1, by omega⟩⟩, by omega, by omega, by omega⟩
    · have h4 : c.send = false ∧ c.reg = -1 := by
        refine ⟨?_, ?_⟩
        · cases hc : c.send
          · rfl
          · exact absurd ⟨.inl hc, hr⟩ h2
        · by_cases e : c.reg = -1
          · exact e
          · exact absurd ⟨.inr e, hr⟩ h2
      exact ⟨⟨⟨o.1, by omega⟩, .inr h4, ⟨t.1, by omega⟩⟩, by omega, by rw [h4.2]; omega, by omega⟩
  · rw [if_neg h1] at h; exact absurd h (by decide)
theorem sel_ok {P : Pg} {f : Fn} (hw : Whole P) (hs : Szs f) {s : Sel} (h : sel P f s = 0) : SelOk s ∧ s.els ≤ 64 ∧ ∀ c ∈ s.cases, c.ch ≤ 4 ∧ c.reg ≤ 8 ∧ c.to ≤ 64 := by
  have := hs.code
  unfold sel at h
  by_cases h1 : firstE (cas P f) s.cases = 0
  · rw [if_pos h1] at h
    have hc := fun c hc => cas_ok hw hs (first_none h1 c hc)
    by_cases h2 : s.els = -1
    · exact ⟨⟨.inl h2, fun c q => (hc c q).1⟩, by omega, fun c q => (hc c q).2⟩
    · rw [if_neg h2] at h
      have t := tgt_of h
      exact ⟨⟨.inr ⟨t.1, by omega⟩, fun c q => (hc c q).1⟩, by omega, fun c q => (hc c q).2⟩
  · rw [if_neg h1] at h; exact absurd h h1
theorem opd_ok {P : Pg} {f : Fn} (hw : Whole P) (hf : ∀ g ∈ P.funcs, 0 ≤ g.params) (hs : Szs f) {x : Ins} (hx : x.ok) {c : UInt8} {n : Int} (hn : I64 n) (ha : alet c) (h : opd P f x c.toNat n = 0) (hb : c = 112 → obj x.b P.funcs.length = 0) : okArg c n := by
  have v := hw.vars; have l := hw.lock; have ch := hw.chan; have fu := hw.func; have r := hs.regs; have co := hs.code; have se := hs.sels
  have small : (c ≠ 45 ∧ c ≠ 110 ∧ c ≠ 78 ∧ c ≠ 84 ∧ c ≠ 32 ∧ c ≠ 9 ∧ c ≠ 59 ∧ c ≠ 10) → (0 ≤ n ∧ n ≤ 64 ∨ (c = 111 ∧ n = -1)) → okArg c n := by
    rintro ⟨c1, c2, c3, c4, c5, c6, c7, c8⟩ q
    refine .inr (.inr ⟨c1, c2, c3, c4, c5, c6, c7, c8, ?_⟩)
    rcases q with q | q
    · exact .inl ⟨q.1, by omega⟩
    · exact .inr q
  rcases ha with rfl | rfl | rfl | rfl | rfl | rfl | rfl | rfl | rfl | rfl | rfl | rfl
  · have h' : reg f n = 0 := h
    have := reg_of h'
    exact small (by decide) (by omega)
  · have h' : reg f n = 0 := h
    have := reg_of h'
    exact small (by decide) (by omega)
  · have h' : (if (P.funcs.getD x.b.toNat default).params = 0 ∧ n ≠ 0 ∨ 0 < (P.funcs.getD x.b.toNat default).params ∧ (n < 0 ∨ f.regs - (P.funcs.getD x.b.toNat default).params < n) then (35 : Int) else 0) = 0 := h
    have o := obj_of (hb rfl)
    have hm : 0 ≤ (P.funcs.getD x.b.toNat default).params := by
      have hlt : x.b.toNat < P.funcs.length := by omega
      rw [List.getD_eq_getElem?_getD, List.getElem?_eq_getElem hlt]
      exact hf _ (List.getElem_mem _)
    split at h'
    · exact absurd h' (by decide)
    · next hn =>
      exact small (by decide) (by omega)
  · have h' : (if n = -1 then (0 : Int) else reg f n) = 0 := h
    by_cases e : n = -1
    · exact small (by decide) (.inr ⟨rfl, e⟩)
    · rw [if_neg e] at h'
      have := reg_of h'
      exact small (by decide) (by omega)
  · have h' : obj n P.vars.length = 0 := h
    have := obj_of h'
    exact small (by decide) (by omega)
  · have h' : (if obj n P.vars.length = 0 then (if (P.vars.getD n.toNat default).atomic then (0 : Int) else 37) else 36) = 0 := h
    by_cases e : obj n P.vars.length = 0
    · have := obj_of e
      exact small (by decide) (by omega)
    · rw [if_neg e] at h'; exact absurd h' (by decide)
  · have h' : obj n P.locks = 0 := h
    have := obj_of h'
    exact small (by decide) (by omega)
  · have h' : obj n P.chans.length = 0 := h
    have := obj_of h'
    exact small (by decide) (by omega)
  · have h' : obj n f.sels.length = 0 := h
    have := obj_of h'
    exact small (by decide) (by omega)
  · have h' : obj n P.funcs.length = 0 := h
    have := obj_of h'
    exact small (by decide) (by omega)
  · have h' : tgt f n = 0 := h
    have := tgt_of h'
    exact small (by decide) (by omega)
  · exact .inr (.inl ⟨rfl, hn⟩)
theorem form_four {op : Int} (h : form op ≠ ⟨#[]⟩) : ∃ a b c d, form op = ⟨#[a, b, c, d]⟩ := by
  have hs := (form_cases op).resolve_left h
  obtain ⟨⟨l⟩, e⟩ : ∃ l : Array UInt8, form op = ⟨l⟩ := ⟨(form op).data, rfl⟩
  rw [e] at hs
  have hs' : l.length = 4 := hs
  match l, hs' with
  | [a, b, c, d], _ => exact ⟨a, b, c, d, e⟩
theorem form_112 (op : Int) : ∀ a b c d, form op = ⟨#[a, b, c, d]⟩ → (a = 112 ∨ b = 112 ∨ d = 112 → False) ∧ (c = 112 → b = 102) := by
  show (fun s : ByteArray => ∀ a b c d, s = ⟨#[a, b, c, d]⟩ → (a = 112 ∨ b = 112 ∨ d = 112 → False) ∧ (c = 112 → b = 102)) (form op)
  unfold form
  iterate 20 refine ite_P (P := fun s : ByteArray => ∀ a b c d, s = ⟨#[a, b, c, d]⟩ → (a = 112 ∨ b = 112 ∨ d = 112 → False) ∧ (c = 112 → b = 102)) (fun _ => by intro a b c d h; simp only [ByteArray.mk.injEq, Array.mk.injEq, List.cons.injEq, and_true] at h; obtain ⟨rfl, rfl, rfl, rfl⟩ := h; decide) (fun _ => ?_)
  intro a b c d h
  simp at h
theorem ins_ok {P : Pg} {f : Fn} (hw : Whole P) (hf : ∀ g ∈ P.funcs, 0 ≤ g.params) (hs : Szs f) {x : Ins} (hx : x.ok) (h : ins P f x = 0) : InsOk x := by
  unfold ins at h
  by_cases h1 : form x.op = ⟨#[]⟩
  · rw [if_pos h1] at h; exact absurd h (by decide)
  rw [if_neg h1] at h
  by_cases h2 : unused (form x.op) x = true
  · rw [if_pos h2] at h; exact absurd h (by decide)
  rw [if_neg h2] at h
  have hop : 0 ≤ x.op ∧ isOp x.op.toNat := by
    have hn := mt (form_none x.op).2 h1
    unfold loc vis at hn
    simp only [decide_eq_false_iff_not] at hn
    have hr : (1 ≤ x.op ∧ x.op ≤ 36) ∨ (40 ≤ x.op ∧ x.op ≤ 45) ∨ (50 ≤ x.op ∧ x.op ≤ 65) := by omega
    refine ⟨by omega, ?_⟩
    rcases hr with hr | hr | hr
    · exact .inl (by omega)
    · right
      have : ∀ k, k < 66 → 40 ≤ k → k ≤ 45 → k ∈ ops2 := by decide
      exact this _ (by omega) (by omega) (by omega)
    · right
      have : ∀ k, k < 66 → 50 ≤ k → k ≤ 65 → k ∈ ops2 := by decide
      exact this _ (by omega) (by omega) (by omega)
  obtain ⟨a, b, c, d, e⟩ := form_four h1
  have hal := form_alets x.op
  have h112 := form_112 x.op a b c d e
  rw [e] at h h2 hal
  have hd := first_none h
  have hu : ¬ (a.toNat = 45 ∧ x.a ≠ 0 ∨ b.toNat = 45 ∧ x.b ≠ 0 ∨ c.toNat = 45 ∧ x.c ≠ 0 ∨ d.toNat = 45 ∧ x.n ≠ 0) := fun q => h2 (decide_eq_true q)
  have hd0 : opd P f x a.toNat x.a = 0 := hd _ (List.mem_cons_self ..)
  have hd1 : opd P f x b.toNat x.b = 0 := hd (b.toNat, x.b) (List.mem_cons_of_mem _ (List.mem_cons_self ..))
  have hd2 : opd P f x c.toNat x.c = 0 := hd (c.toNat, x.c) (List.mem_cons_of_mem _ (List.mem_cons_of_mem _ (List.mem_cons_self ..)))
  have hd3 : opd P f x d.toNat x.n = 0 := hd (d.toNat, x.n) (List.mem_cons_of_mem _ (List.mem_cons_of_mem _ (List.mem_cons_of_mem _ (List.mem_cons_self ..))))
  have hala := hal a (by simp)
  have halb := hal b (by simp)
  have halc := hal c (by simp)
  have hald := hal d (by simp)
  have dash : ∀ (c : UInt8) (n : Int), c = 45 → ¬ (c.toNat = 45 ∧ n ≠ 0) → okArg c n := by
    rintro c n rfl q
    have : n = 0 := by
      by_cases e : n = 0
      · exact e
      · exact absurd ⟨by decide, e⟩ q
    exact .inl ⟨rfl, this⟩
  have hA : okArg a x.a := by
    rcases hala with q | q
    · exact dash a x.a q fun r => hu (.inl r)
    · exact opd_ok hw hf hs hx hx.2.1 q hd0 fun r => (h112.1 (.inl r)).elim
  have hB : okArg b x.b := by
    rcases halb with q | q
    · exact dash b x.b q fun r => hu (.inr (.inl r))
    · exact opd_ok hw hf hs hx hx.2.2.1 q hd1 fun r => (h112.1 (.inr (.inl r))).elim
  have hC : okArg c x.c := by
    rcases halc with q | q
    · exact dash c x.c q fun r => hu (.inr (.inr (.inl r)))
    · refine opd_ok hw hf hs hx hx.2.2.2.1 q hd2 fun r => ?_
      have hb := h112.2 r
      subst hb
      exact hd1
  have hD : okArg d x.n := by
    rcases hald with q | q
    · exact dash d x.n q fun r => hu (.inr (.inr (.inr r)))
    · exact opd_ok hw hf hs hx hx.2.2.2.2 q hd3 fun r => (h112.1 (.inr (.inr r))).elim
  have hz : ∀ p ∈ (form x.op).data.toList.zip x.ops, okArg p.1 p.2 := by
    rw [e]
    intro p hp
    have hp' : p ∈ [(a, x.a), (b, x.b), (c, x.c), (d, x.n)] := hp
    simp only [List.mem_cons, List.not_mem_nil, or_false] at hp'
    rcases hp' with rfl | rfl | rfl | rfl
    · exact hA
    · exact hB
    · exact hC
    · exact hD
  exact ⟨hop, by rw [e]; rfl, hz⟩
/-- Its numbers are int64. -/
structure Ints (P : Pg) : Prop where
  vars : ∀ v ∈ P.vars, I64 v.init
  code : ∀ f ∈ P.funcs, ∀ x ∈ f.code, x.ok
theorem Pg.In.ints {w : World} {P : Pg} (h : P.In w) : Ints P := ⟨h.inits, fun f hf x hx => (h.funcs f hf).oks x hx⟩
theorem Ints.bare {P : Pg} (h : Ints P) : Ints P.bare := ⟨h.vars, fun f hf x hx => by
  obtain ⟨g, hg, rfl⟩ := List.mem_map.1 hf
  exact h.code g hg x hx⟩
theorem pg_ok {P : Pg} (h : chk P = 0) (hi : Ints P) : PgOk P := by
  obtain ⟨hw, hf⟩ := whole_of h
  have hs := fun f hm => fnc_of (fncs_none P hf f hm).choose_spec
  have hp : ∀ g ∈ P.funcs, 0 ≤ g.params := fun g hg => (hs g hg).1.pars.1
  refine ⟨hi.vars, hw.lock.1, fun n hn => ⟨(hw.caps n hn).1, by have := (hw.caps n hn).2; omega⟩, fun f hm => ?_⟩
  obtain ⟨s1, s2, s3⟩ := hs f hm
  have := s1.regs; have := s1.pars
  exact ⟨⟨by omega, by omega⟩, ⟨by omega, by omega⟩, fun s q => (sel_ok hw s1 (s2 s q)).1, fun x q => ins_ok hw hp s1 (hi.code f hm x q) (s3 x q)⟩
/-! ## Words are clean, lines are short -/
theorem itoa_20 (n : Int) (h : I64 n) : (itoa n).length ≤ 20 := by
  unfold itoa
  split
  · rw [List.length_cons, decDigits_length]
    have h2 : nDigits n.natAbs ≤ 19 := Wd.dec_le19 _ (by have := h.1; omega)
    omega
  · have := decDigits_length n.toNat
    have h2 : nDigits n.toNat ≤ 19 := Wd.dec_le19 _ (by have := h.2; omega)
    omega
theorem itoa_pos (n : Int) (h : Sm n) : (itoa n).length ≤ 19 := by
  unfold itoa
  have := h.1
  rw [if_neg (by omega), decDigits_length]
  exact Wd.dec_le19 _ (by have := h.2; omega)
theorem opw_len (c : UInt8) (n : Int) (h : okArg c n) (h45 : c ≠ 45) : (opw c n).length ≤ 20 := by
  unfold opw
  by_cases h1 : c = 110
  · rw [if_pos h1]
    rcases h with ⟨e, _⟩ | ⟨_, h⟩ | ⟨_, e, _⟩
    · exact absurd e h45
    · exact itoa_20 n h
    · exact absurd h1 e
  rw [if_neg h1]
  by_cases h2 : c = 111 ∧ n = -1
  · rw [if_pos h2]; decide
  rw [if_neg h2]
  have hs : Sm n := by
    rcases h with ⟨e, _⟩ | ⟨e, _⟩ | ⟨_, _, _, _, _, _, _, _, h⟩
    · exact absurd e h45
    · exact absurd e h1
    · exact h.resolve_right h2
  have := itoa_pos n hs
  simp only [List.length_cons]; omega
/-- What words take, a blank behind each. -/
def tot : List (List UInt8) → Nat
  | [] => 0
  | w :: ws => w.length + 1 + tot ws
theorem jn_tot : ∀ ws : List (List UInt8), (jn ws).length + 1 ≤ tot ws + (if ws = [] then 1 else 0)
  | [] => by decide
  | [w] => by simp [jn, tot]
  | w :: v :: ws => by
    have ih := jn_tot (v :: ws)
    rw [if_neg (List.cons_ne_nil _ _)] at ih ⊢
    rw [jn, tot, List.length_append, List.length_cons]
    omega
theorem opws_tot : ∀ (L : List UInt8) (ns : List Int), (∀ p ∈ L.zip ns, okArg p.1 p.2) → tot (opws L ns) ≤ 21 * L.length
  | [], _, _ => by simp [opws, tot]
  | c :: cs, [], _ => by simp [opws, tot]
  | c :: cs, n :: ns, h => by
    have ih := opws_tot cs ns fun p hp => h p (by rw [List.zip_cons_cons]; exact List.mem_cons_of_mem _ hp)
    have h0 := h (c, n) (by rw [List.zip_cons_cons]; exact List.mem_cons_self ..)
    rw [opws, List.length_cons]
    by_cases hc : c = 45
    · rw [if_pos hc]; omega
    · rw [if_neg hc, tot]
      have := opw_len c n h0 hc
      omega
/-- A line whose words are clean, and which is short. -/
def Nice (ws : List (List UInt8)) : Prop := ws ≠ [] ∧ (∀ w ∈ ws, clean w) ∧ tot ws ≤ 91
theorem num_clean_head {c : UInt8} {n : Int} (h : c ≠ 32 ∧ c ≠ 9 ∧ c ≠ 59 ∧ c ≠ 10) : clean (c :: itoa n) := ⟨List.cons_ne_nil _ _, fun d hd => by
  rcases List.mem_cons.1 hd with rfl | hd
  · exact h
  · exact (itoa_clean n).2 d hd⟩
theorem nice_ins {x : Ins} (h : InsOk x) : Nice (insW x) := by
  obtain ⟨_, _, k3, k4⟩ := ops_known x.op.toNat (ops_le h.op.2) h.op.2
  refine ⟨List.cons_ne_nil _ _, (rd_ins (p := Pg.no) h (Nat.le_refl 6)).2.2, ?_⟩
  have := opws_tot _ _ h.args
  rw [h.len] at this
  rw [insW, tot]
  omega
theorem nice_cas {c : Cas} (h : CasOk c) : Nice (casW c) := by
  have a1 := itoa_pos _ h.ch
  have a3 := itoa_pos _ h.dst
  have ok : okArg 111 c.reg := .inr (.inr ⟨by decide, by decide, by decide, by decide, by decide, by decide, by decide, by decide, by rcases h.reg with h | ⟨_, h⟩; exact .inl h; exact .inr ⟨rfl, h⟩⟩)
  have a2 := opw_len 111 c.reg ok (by decide)
  refine ⟨List.cons_ne_nil _ _, fun w hw => ?_, ?_⟩
  · simp only [casW, List.mem_cons, List.not_mem_nil, or_false] at hw
    rcases hw with rfl | rfl | rfl | rfl
    · split <;> exact ⟨by decide, by decide⟩
    · exact num_clean_head (by decide)
    · exact opw_clean 111 c.reg ok (by decide)
    · exact num_clean_head (by decide)
  · have hk : (if c.send = true then [111, 110, 115, 101, 110, 100] else [111, 110, 114, 101, 99, 118] : List UInt8).length = 6 := by split <;> rfl
    simp only [casW, tot, List.length_cons, hk]
    omega
theorem nice_lines (p : Pg) (h : PgOk p) : ∀ ws ∈ pgW p, Nice ws := by
  intro ws hw
  simp only [pgW, List.mem_cons, List.mem_append] at hw
  rcases hw with rfl | hw | hw | hw | hw
  · exact ⟨by decide, fun w hw => by obtain rfl := List.mem_singleton.1 hw; exact ⟨by decide, by decide⟩, by decide⟩
  · obtain ⟨v, hv, rfl⟩ := List.mem_map.1 hw
    have hn := itoa_20 _ (h.vars v hv)
    refine ⟨List.cons_ne_nil _ _, fun w hw => ?_, ?_⟩
    · simp only [varW, List.mem_cons, List.not_mem_nil, or_false] at hw
      rcases hw with rfl | rfl
      · split <;> exact ⟨by decide, by decide⟩
      · exact itoa_clean _
    · have hk : (if v.atomic = true then [97, 116, 111, 109, 105, 99] else [118, 97, 114] : List UInt8).length ≤ 6 := by split <;> decide
      simp only [varW, tot]
      omega
  · obtain rfl := List.eq_of_mem_replicate hw
    exact ⟨by decide, fun w hw => by obtain rfl := List.mem_singleton.1 hw; exact ⟨by decide, by decide⟩, by decide⟩
  · obtain ⟨n, hn, rfl⟩ := List.mem_map.1 hw
    have := itoa_pos _ (h.chans n hn)
    refine ⟨List.cons_ne_nil _ _, fun w hw => ?_, ?_⟩
    · simp only [List.mem_cons, List.not_mem_nil, or_false] at hw
      rcases hw with rfl | rfl
      · exact ⟨by decide, by decide⟩
      · exact itoa_clean _
    · simp only [tot, List.length_cons, List.length_nil]
      omega
  · obtain ⟨f, hf, hw⟩ := List.mem_flatMap.1 hw
    have F := h.funcs f hf
    simp only [fnW, List.mem_cons, List.mem_append] at hw
    rcases hw with rfl | hw | hw
    · have := itoa_pos _ F.par
      have := itoa_pos _ F.reg
      refine ⟨List.cons_ne_nil _ _, fun w hw => ?_, ?_⟩
      · simp only [List.mem_cons, List.not_mem_nil, or_false] at hw
        rcases hw with rfl | rfl | rfl
        · exact ⟨by decide, by decide⟩
        · exact itoa_clean _
        · exact itoa_clean _
      · simp only [tot, List.length_cons, List.length_nil]
        omega
    · obtain ⟨s, hs, hw⟩ := List.mem_flatMap.1 hw
      have S := F.sels s hs
      simp only [selW, List.mem_cons] at hw
      rcases hw with rfl | hw
      · refine ⟨List.cons_ne_nil _ _, fun w hw => ?_, ?_⟩
        · simp only [List.mem_cons, List.not_mem_nil, or_false] at hw
          rcases hw with rfl | rfl
          · exact ⟨by decide, by decide⟩
          · split
            · exact ⟨by decide, by decide⟩
            · exact num_clean_head (by decide)
        · have : (if s.els = -1 then [95] else 64 :: itoa s.els : List UInt8).length ≤ 20 := by
            rcases S.els with e | e
            · rw [if_pos e]; decide
            · split
              · decide
              · have := itoa_pos _ e
                simp only [List.length_cons]; omega
          simp only [tot, List.length_cons, List.length_nil]
          omega
      · obtain ⟨c, hc, rfl⟩ := List.mem_map.1 hw
        exact nice_cas (S.cases c hc)
    · obtain ⟨x, hx, rfl⟩ := List.mem_map.1 hw
      exact nice_ins (F.code x hx)
theorem flat_bound {α β : Type} (f : α → List β) (n : Nat) : ∀ l : List α, (∀ a ∈ l, (f a).length ≤ n) → (l.flatMap f).length ≤ n * l.length
  | [], _ => by simp
  | a :: l, h => by
    have := h a (List.mem_cons_self ..)
    have ih := flat_bound f n l fun x hx => h x (List.mem_cons_of_mem _ hx)
    rw [List.flatMap_cons, List.length_append, List.length_cons, Nat.mul_succ]
    omega
theorem pgW_count {P : Pg} (h : chk P = 0) : (pgW P).length ≤ 697 := by
  obtain ⟨hw, hf⟩ := whole_of h
  have hs := fun f hm => fnc_of (fncs_none P hf f hm).choose_spec
  have v := hw.vars; have l := hw.lock; have c := hw.chan; have fu := hw.func
  have hF : (P.funcs.flatMap fnW).length ≤ 85 * P.funcs.length := by
    refine flat_bound fnW 85 _ fun f hf => ?_
    obtain ⟨s1, _, _⟩ := hs f hf
    have := s1.code; have := s1.sels
    have hS : (f.sels.flatMap selW).length ≤ 5 * f.sels.length := by
      refine flat_bound selW 5 _ fun s hs => ?_
      have := s1.cases s hs
      simp only [selW, List.length_cons, List.length_map]; omega
    simp only [fnW, List.length_cons, List.length_append, List.length_map]; omega
  simp only [pgW, List.length_cons, List.length_append, List.length_map, List.length_replicate]
  omega
theorem txt_len {P : Pg} (h : chk P = 0) (hi : Ints P) : (txt P).length ≤ 65536 := by
  have hn := nice_lines P (pg_ok h hi)
  have hc := pgW_count h
  have := flat_bound (fun ws => jn ws ++ [10]) 91 (pgW P) fun ws hw => by
    obtain ⟨h1, _, h3⟩ := hn ws hw
    have := jn_tot ws
    rw [if_neg h1] at this
    simp only [List.length_append, List.length_singleton]; omega
  unfold txt
  omega
theorem lns_txt {P : Pg} (h : chk P = 0) (hi : Ints P) : (lns (txt P) []) = (pgW P).map jn ∧ (lns (txt P) []).map (wrd · []) = pgW P := by
  have hn := nice_lines P (pg_ok h hi)
  have e : txt P = ((pgW P).map jn).flatMap fun l => l ++ [10] := by
    unfold txt
    rw [List.flatMap_map]
  have h1 : lns (txt P) [] = (pgW P).map jn := by
    rw [e]
    refine lns_lines _ fun l hl c hc => ?_
    obtain ⟨ws, hw, rfl⟩ := List.mem_map.1 hl
    rcases jn_mem ws c hc with rfl | ⟨w, hw2, hc2⟩
    · decide
    · exact (((hn ws hw).2.1 w hw2).2 c hc2).2.2.2
  refine ⟨h1, ?_⟩
  rw [h1, List.map_map]
  conv => rhs; rw [← List.map_id (pgW P)]
  exact List.map_congr_left fun ws hw => wrd_jn ws (hn ws hw).2.1
/-- THERE AND BACK. -/
theorem prs_txt {P : Pg} (h : chk P = 0) (hb : chk P.bare = 0) (hi : Ints P) : prs (txt P) = (P.bare, 0, 0) := by
  obtain ⟨r1, r2, r3⟩ := pgW_read P (pg_ok h hi)
  obtain ⟨_, hw⟩ := lns_txt h hi
  have := prs_fine (s := txt P) (txt_len h hi) (by rw [hw]; exact r1) (by rw [hw]; exact r3) (by rw [hw, r2]; exact hb)
  rw [this, hw, r2]
end Go.Proofs.YtlhhmlfcodmebaaGreatDoor.Pg
