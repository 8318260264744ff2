/- The text of a program, told plainly; that it is read as that program. No condition but that the program is right. -/
import Derived.Test.YtlhhmlfcodmebaaGreatDoorZa
import Derived.Test.YtlhhmlfcodmebaaGreatDoorZPc
import Derived.Lib.ItoaLen
namespace Go.Proofs.YtlhhmlfcodmebaaGreatDoor.Pg
set_option linter.unusedVariables false
set_option linter.unusedSimpArgs false
open Go.Proofs.YtlhhmlfcodmebaaGreatDoor.Wd (wrd num)
open Go.Lib
set_option linter.unusedVariables false
set_option linter.unusedSimpArgs false
/-- An operand's word. -/
def opw (c : UInt8) (n : Int) : List UInt8 := if c = 110 then itoa n else if c = 111 ∧ n = -1 then [95] else headOf c :: itoa n
/-- The words of an instruction's operands. -/
def opws : List UInt8 → List Int → List (List UInt8)
  | c :: cs, n :: ns => if c = 45 then opws cs ns else opw c n :: opws cs ns
  | _, _ => []
def insW (x : Ins) : List (List UInt8) := opName x.op.toNat :: opws (form x.op).data.toList x.ops
def casW (c : Cas) : List (List UInt8) := [if c.send then [111, 110, 115, 101, 110, 100] else [111, 110, 114, 101, 99, 118], 99 :: itoa c.ch, opw 111 c.reg, 64 :: itoa c.to]
def selW (s : Sel) : List (List (List UInt8)) := [[99, 104, 111, 111, 115, 101], if s.els = -1 then [95] else 64 :: itoa s.els] :: s.cases.map casW
def fnW (f : Fn) : List (List (List UInt8)) := [[102, 117, 110, 99], itoa f.params, itoa f.regs] :: (f.sels.flatMap selW ++ f.code.map insW)
def varW (v : Vr) : List (List UInt8) := [if v.atomic then [97, 116, 111, 109, 105, 99] else [118, 97, 114], itoa v.init]
/-- A program's lines, each in words. -/
def pgW (p : Pg) : List (List (List UInt8)) :=
  [[115, 99, 97, 114, 97, 98]] :: (p.vars.map varW ++ (List.replicate p.locks.toNat [[109, 117, 116, 101, 120]] ++ (p.chans.map (fun n => [[99, 104, 97, 110], itoa n]) ++ p.funcs.flatMap fnW)))
/-- Words, blanks between them. -/
def jn : List (List UInt8) → List UInt8
  | [] => []
  | [w] => w
  | w :: v :: ws => w ++ 32 :: jn (v :: ws)
def txt (p : Pg) : List UInt8 := (pgW p).flatMap fun ws => jn ws ++ [10]
/-! ## Lines and words -/
def clean (w : List UInt8) : Prop := w ≠ [] ∧ ∀ c ∈ w, c ≠ 32 ∧ c ≠ 9 ∧ c ≠ 59 ∧ c ≠ 10
theorem wrd_run : ∀ (x l w : List UInt8), (∀ c ∈ x, c ≠ 32 ∧ c ≠ 9 ∧ c ≠ 59) → wrd (x ++ l) w = wrd l (w ++ x)
  | [], l, w, _ => by simp
  | c :: x, l, w, h => by
    obtain ⟨h1, h2, h3⟩ := h c (List.mem_cons_self ..)
    rw [List.cons_append, wrd, if_neg h3, if_neg (by rintro (e | e); exact h1 e; exact h2 e), wrd_run x l (w ++ [c]) fun d hd => h d (List.mem_cons_of_mem _ hd)]
    simp
theorem wrd_jn : ∀ ws : List (List UInt8), (∀ w ∈ ws, clean w) → wrd (jn ws) [] = ws
  | [], _ => rfl
  | [w], h => by
    obtain ⟨h1, h2⟩ := h w (List.mem_cons_self ..)
    have := wrd_run w [] [] fun c hc => ⟨(h2 c hc).1, (h2 c hc).2.1, (h2 c hc).2.2.1⟩
    rw [List.append_nil] at this
    rw [jn, this, List.nil_append, wrd, if_neg h1]
  | w :: v :: ws, h => by
    obtain ⟨h1, h2⟩ := h w (List.mem_cons_self ..)
    have ih := wrd_jn (v :: ws) fun x hx => h x (List.mem_cons_of_mem _ hx)
    rw [jn, wrd_run w _ [] fun c hc => ⟨(h2 c hc).1, (h2 c hc).2.1, (h2 c hc).2.2.1⟩, List.nil_append, wrd, if_neg (by decide), if_pos (.inl rfl), if_neg h1, ih]
theorem jn_mem : ∀ (ws : List (List UInt8)) (c : UInt8), c ∈ jn ws → c = 32 ∨ ∃ w ∈ ws, c ∈ w
  | [], c, h => by cases h
  | [w], c, h => .inr ⟨w, List.mem_cons_self .., h⟩
  | w :: v :: ws, c, h => by
    rw [jn, List.mem_append, List.mem_cons] at h
    rcases h with h | h | h
    · exact .inr ⟨w, List.mem_cons_self .., h⟩
    · exact .inl h
    · rcases jn_mem (v :: ws) c h with e | ⟨x, hx, hc⟩
      · exact .inl e
      · exact .inr ⟨x, List.mem_cons_of_mem _ hx, hc⟩
theorem lns_run : ∀ (x l w : List UInt8), (∀ c ∈ x, c ≠ 10) → lns (x ++ l) w = lns l (w ++ x)
  | [], l, w, _ => by simp
  | c :: x, l, w, h => by
    rw [List.cons_append, lns, if_neg (h c (List.mem_cons_self ..)), lns_run x l (w ++ [c]) fun d hd => h d (List.mem_cons_of_mem _ hd)]
    simp
theorem lns_lines : ∀ (L : List (List UInt8)), (∀ l ∈ L, ∀ c ∈ l, c ≠ 10) → lns (L.flatMap fun l => l ++ [10]) [] = L
  | [], _ => rfl
  | l :: L, h => by
    have ih := lns_lines L fun x hx => h x (List.mem_cons_of_mem _ hx)
    rw [List.flatMap_cons, List.append_assoc, lns_run l _ [] (h l (List.mem_cons_self ..)), List.nil_append, List.singleton_append, lns, if_pos rfl, ih]
/-! ## Reading, where nothing is wrong -/
/-- Lines in words, read one behind the other. -/
def aft : List (List (List UInt8)) → Pg → Nat → Pg × Nat
  | [], p, k => (p, k)
  | ws :: L, p, k => aft L (good p k ws).1 (good p k ws).2
def fine : List (List (List UInt8)) → Pg → Nat → Prop
  | [], _, _ => True
  | ws :: L, p, k => bad k ws = 0 ∧ fine L (good p k ws).1 (good p k ws).2
theorem reads_fine : ∀ (L : List (List UInt8)) (p : Pg) (k n : Nat), fine (L.map (wrd · [])) p k → reads L p k n = (aft (L.map (wrd · [])) p k, 0, 0)
  | [], p, k, n, _ => rfl
  | l :: L, p, k, n, h => by
    rw [List.map_cons] at h ⊢
    rw [reads, if_neg (by rw [h.1]; decide), reads_fine L _ _ _ h.2]
    rfl
theorem reads_ok : ∀ (L : List (List UInt8)) (p : Pg) (k n : Nat), (reads L p k n).2.1 = 0 → fine (L.map (wrd · [])) p k ∧ (reads L p k n).1 = aft (L.map (wrd · [])) p k
  | [], p, k, n, _ => ⟨trivial, rfl⟩
  | l :: L, p, k, n, h => by
    rw [List.map_cons]
    rw [reads] at h ⊢
    by_cases hb : bad k (wrd l []) = 0
    · rw [if_neg (by rw [hb]; decide)] at h ⊢
      obtain ⟨h1, h2⟩ := reads_ok L _ _ _ h
      exact ⟨⟨hb, h1⟩, h2⟩
    · rw [if_pos hb] at h
      exact absurd h hb
theorem fine_app : ∀ (L M : List (List (List UInt8))) (p : Pg) (k : Nat), fine (L ++ M) p k ↔ fine L p k ∧ fine M (aft L p k).1 (aft L p k).2
  | [], M, p, k => by simp [fine, aft]
  | ws :: L, M, p, k => by
    rw [List.cons_append, fine, fine, aft, fine_app L M, and_assoc]
theorem aft_app : ∀ (L M : List (List (List UInt8))) (p : Pg) (k : Nat), aft (L ++ M) p k = aft M (aft L p k).1 (aft L p k).2
  | [], M, p, k => rfl
  | ws :: L, M, p, k => by rw [List.cons_append, aft, aft, aft_app L M]
/-- Lines of no words say nothing. -/
theorem fine_filter : ∀ (L : List (List (List UInt8))) (p : Pg) (k : Nat), (fine (L.filter (fun ws => !ws.isEmpty)) p k ↔ fine L p k) ∧ aft (L.filter (fun ws => !ws.isEmpty)) p k = aft L p k
  | [], p, k => ⟨Iff.rfl, rfl⟩
  | [] :: L, p, k => by
    obtain ⟨h1, h2⟩ := fine_filter L p k
    rw [List.filter_cons_of_neg (by simp)]
    refine ⟨h1.trans ?_, h2⟩
    rw [fine]
    exact ⟨fun h => ⟨rfl, h⟩, fun h => h.2⟩
  | (w :: ws) :: L, p, k => by
    obtain ⟨h1, h2⟩ := fine_filter L (good p k (w :: ws)).1 (good p k (w :: ws)).2
    rw [List.filter_cons_of_pos (by simp)]
    exact ⟨by rw [fine, fine, h1], by rw [aft, aft, h2]⟩
/-- What a text comes to. -/
theorem prs_fine {s : List UInt8} (hs : s.length ≤ 65536) (hf : fine ((lns s []).map (wrd · [])) Pg.no 0) (h0 : (aft ((lns s []).map (wrd · [])) Pg.no 0).2 ≠ 0) (hc : chk (aft ((lns s []).map (wrd · [])) Pg.no 0).1 = 0) :
    prs s = ((aft ((lns s []).map (wrd · [])) Pg.no 0).1, 0, 0) := by
  unfold prs
  rw [reads_fine _ _ _ _ hf, if_neg (by omega), if_neg (fun h => h rfl), if_neg h0, if_neg (fun h => h hc)]
theorem prs_ok {s : List UInt8} (h : (prs s).2.1 = 0) : s.length ≤ 65536 ∧ fine ((lns s []).map (wrd · [])) Pg.no 0 ∧ (aft ((lns s []).map (wrd · [])) Pg.no 0).2 ≠ 0 ∧ chk (prs s).1 = 0 ∧ (prs s).1 = (aft ((lns s []).map (wrd · [])) Pg.no 0).1 := by
  revert h
  unfold prs
  by_cases h1 : 65536 < s.length
  · rw [if_pos h1]
    intro h; cases h
  rw [if_neg h1]
  by_cases h2 : (reads (lns s []) Pg.no 0 0).2.1 = 0
  · rw [if_neg (by rw [h2]; decide)]
    obtain ⟨k1, k2⟩ := reads_ok _ _ _ _ h2
    rw [k2]
    by_cases h3 : (aft ((lns s []).map (wrd · [])) Pg.no 0).2 = 0
    · rw [if_pos h3]
      intro h; cases h
    rw [if_neg h3]
    by_cases h4 : chk (aft ((lns s []).map (wrd · [])) Pg.no 0).1 = 0
    · rw [if_neg (by rw [h4]; decide)]
      exact fun _ => ⟨by omega, k1, h3, h4, rfl⟩
    · rw [if_pos h4]
      exact fun h => absurd h h4
  · rw [if_pos h2]
    exact fun h => absurd h h2
end Go.Proofs.YtlhhmlfcodmebaaGreatDoor.Pg
