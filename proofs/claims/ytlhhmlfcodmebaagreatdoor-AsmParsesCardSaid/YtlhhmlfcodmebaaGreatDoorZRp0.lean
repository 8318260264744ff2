/- What the reference's Parse keeps of memory; a text cut into lines. No condition. -/
import Derived.Test.YtlhhmlfcodmebaaGreatDoorZRm
import Derived.Test.YtlhhmlfcodmebaaGreatDoorZw
import Derived.Test.YtlhhmlfcodmebaaGreatDoorZRv
import Derived.Test.YtlhhmlfcodmebaaGreatDoorZVp
import Derived.Test.YtlhhmlfcodmebaaGreatDoorZy
namespace Go.Proofs.YtlhhmlfcodmebaaGreatDoor.Pg
set_option linter.unusedVariables false
set_option linter.unusedSimpArgs false
open Go.RowKit Go.WideShapes Go.ChangeShapes
open Go.Proofs.YtlhhmlfcodmebaaGreatDoor.Wd (bt drop_at)
set_option linter.unusedVariables false
set_option linter.unusedSimpArgs false
theorem rows_in {n0 N : Nat} {p : Pg} {W : World} (R : Rws n0 p.rows W) (few : p.Few N) (hN : N ≤ 1000000) : p.In W := by
  have ho := R.own
  have row : ∀ f ∈ p.funcs, ∀ r ∈ f.rows, r ∈ p.rows := fun f hf r hr => by
    unfold Pg.rows
    refine List.mem_cons_of_mem _ (List.mem_cons_of_mem _ (List.mem_cons_of_mem _ (List.mem_flatMap.2 ⟨f, hf, hr⟩)))
  refine ⟨own_lies (ho p.varRow (List.mem_cons_self ..)) _ _ _ rfl (fun e => flat_nil _ e), own_lies (ho p.chanRow (by unfold Pg.rows; simp)) _ _ _ rfl (fun e => ?_), own_lies (ho p.funcRow (by unfold Pg.rows; simp)) _ _ _ rfl (fun e => flat_nil _ e), fun f hf => ?_, few.inits, few.chans, ?_, ?_, ?_, ?_⟩
  · have e' : p.chans.length = 0 := e
    show p.chans.map _ = []
    rw [List.eq_nil_of_length_eq_zero e']; rfl
  · have q := few.funcs f hf
    refine ⟨own_lies (ho f.codeRow (row f hf _ (List.mem_cons_self ..))) _ _ _ rfl (fun e => flat_nil _ e), own_lies (ho f.selRow (row f hf _ (by unfold Fn.rows; simp))) _ _ _ rfl (fun e => flat_nil _ e), fun s hs => ?_, q.oks, q.par, q.reg, ?_, ?_⟩
    · obtain ⟨q1, q2, q3⟩ := q.sels s hs
      refine ⟨own_lies (ho s.row (row f hf _ ?_)) _ _ _ rfl (fun e => flat_nil _ e), q1, q2, ?_⟩
      · exact List.mem_cons_of_mem _ (List.mem_cons_of_mem _ (List.mem_map.2 ⟨s, hs, rfl⟩))
      · unfold Len; omega
    · have := q.lenC; unfold Len; omega
    · have := q.lenS; unfold Len; omega
  · have := few.locks; unfold I64; omega
  · have := few.lenV; unfold Len; omega
  · have := few.lenH; unfold Len; omega
  · have := few.lenF; unfold Len; omega
/-- Between two lines. -/
structure RMid (w W : World) (s : ByteArray) (a N cnt : Nat) (p : Pg) (last : Nat) : Prop where
  rows : Rws (w.heap.size + 2) p.rows W
  few : p.Few N
  acc : Below w.heap.size w W
  z : Blk w.heap.size noCs W
  y : Blk (w.heap.size + 1) #[.slice p.va p.vars.length p.vcap, .int .i64 p.locks, .slice p.ha p.chans.length p.hcap, .slice p.fa p.funcs.length p.fcap] W
  hi : w.heap.size + 2 ≤ W.heap.size
  hN : N ≤ a
  hc : cnt ≤ a
  ha : a ≤ s.size + 1
  inv : Inv p last
  rd : Pg.reads (lns s.data.toList []) Pg.no 0 0 = Pg.reads (lns (s.data.toList.drop a) []) p.bare last cnt
theorem RMid.start (w : World) (s : ByteArray) : RMid w ((w.alloc (.cells noCs 26)).alloc (.cells noCs 26)) s 0 0 0 Pg.no 0 := by
  refine ⟨⟨fun x hx => ?_, ?_⟩, ⟨fun x h => (by cases h), fun x h => (by cases h), ⟨Int.le_refl _, Int.le_refl _⟩, Nat.le_refl _, Nat.le_refl _, Nat.le_refl _, fun x h => (by cases h)⟩, ((Below.refl _ _).alloc (Nat.le_refl _) _).alloc (by simp) _, (Blk.new _ _ _).alloc _, Blk.new' _ _ _ _ (by simp), by simp, Nat.le_refl _, Nat.le_refl _, Nat.zero_le _, Inv.no, by rw [List.drop_zero]; rfl⟩
  · have : x = Pg.no.varRow ∨ x = Pg.no.chanRow ∨ x = Pg.no.funcRow := by
      simpa [Pg.rows, Pg.no] using hx
    rcases this with rfl | rfl | rfl <;> exact World.ownsRow_nil _ _ _ _
  · show List.Nodup []
    exact List.nodup_nil
theorem RMid.below {w W V : World} {s : ByteArray} {a N cnt : Nat} {p : Pg} {last : Nat} (h : RMid w W s a N cnt p last) (b : Below W.heap.size W V) : RMid w V s a N cnt p last :=
  ⟨h.rows.below b, h.few, h.acc.trans (b.mono h.acc.size), h.z.below b, h.y.below b, Nat.le_trans h.hi b.size, h.hN, h.hc, h.ha, h.inv, h.rd⟩
theorem Blk.lowly {b n : Nat} {arr : Array Value} {W V : World} (h : Blk b arr W) (hb : Below n W V) (hl : b < n) : Blk b arr V :=
  ⟨Nat.lt_of_lt_of_le h.lt hb.size, fun o => (hb.cell (p := ⟨b, o, none⟩) hl).trans (h.cell o), fun o => (hb.frozen (p := ⟨b, o, none⟩) hl).trans (h.fr o)⟩
/-- The program written into its cell. -/
def putP (W : World) (m : Nat) (q : Pg) : World := (((W.setCell ⟨m, 0, none⟩ (.slice q.va q.vars.length q.vcap)).setCell ⟨m, 1, none⟩ (.int .i64 q.locks)).setCell ⟨m, 2, none⟩ (.slice q.ha q.chans.length q.hcap)).setCell ⟨m, 3, none⟩ (.slice q.fa q.funcs.length q.fcap)
theorem RMid.taken {w W V : World} {s : ByteArray} {a a' N cnt cnt' : Nat} {p q : Pg} {last last' : Nat} (h : RMid w W s a N cnt p last) (b : Below (w.heap.size + 2) W V) (hr : Rws (w.heap.size + 2) q.rows V) (hf : q.Few (N + 1))
    (haa : a < a') (hcc : cnt' ≤ a') (ha' : a' ≤ s.size + 1) (hI : Inv q last') (hre : Pg.reads (lns s.data.toList []) Pg.no 0 0 = Pg.reads (lns (s.data.toList.drop a') []) q.bare last' cnt') : RMid w (putP V (w.heap.size + 1) q) s a' (N + 1) cnt' q last' := by
  have hN := h.hN
  have acc : Below w.heap.size w V := h.acc.trans (b.mono (by omega))
  have hsz : (putP V (w.heap.size + 1) q).heap.size = V.heap.size := by simp [putP, World.setCell]
  have y := ((((h.y.lowly b (by omega)).set 0 (by simp) (.slice q.va q.vars.length q.vcap)).set 1 (by simp) (.int .i64 q.locks)).set 2 (by simp) (.slice q.ha q.chans.length q.hcap)).set 3 (by simp) (.slice q.fa q.funcs.length q.fcap)
  simp only [List.setIfInBounds_toArray, List.set_cons_succ, List.set_cons_zero] at y
  have z := (((((h.z.lowly b (by omega)).setOther (w.heap.size + 1) 0 (.slice q.va q.vars.length q.vcap) (by omega)).setOther (w.heap.size + 1) 1 (.int .i64 q.locks) (by omega)).setOther (w.heap.size + 1) 2 (.slice q.ha q.chans.length q.hcap) (by omega)).setOther (w.heap.size + 1) 3 (.slice q.fa q.funcs.length q.fcap) (by omega))
  have off : Off (w.heap.size + 1) q.rows := fun x hx e => by have := (hr.blk_ge hx e).1; omega
  exact ⟨(((hr.setOff off 0 _).setOff off 1 _).setOff off 2 _).setOff off 3 _, hf, (((acc.setCell (by simp only; omega) _).setCell (by simp only; omega) _).setCell (by simp only; omega) _).setCell (by simp only; omega) _, z, y, by rw [hsz]; exact Nat.le_trans h.hi b.size, by omega, hcc, ha', hI, hre⟩
/-- The first line, and what is left. -/
theorem lns_first (s : ByteArray) (a e : Nat) (ha : a < s.size) (h1 : a ≤ e) (h2 : e ≤ s.size) (h3 : ∀ j (h : j < s.size), a ≤ j → j < e → s[j] ≠ 10) (h4 : e = s.size ∨ ∃ h : e < s.size, s[e] = 10) :
    lns (s.data.toList.drop a) [] = (s.extract a e).data.toList :: lns (s.data.toList.drop (e + 1)) [] := by
  have hlen : s.data.toList.length = s.size := by rw [Array.length_toList]; rfl
  have hx : (s.extract a e).data.toList = (s.data.toList.drop a).take (e - a) := by
    rw [ByteArray.data_extract, Array.toList_extract]
  have hd : s.data.toList.drop a = (s.extract a e).data.toList ++ s.data.toList.drop e := by
    rw [hx]
    have := (List.take_append_drop (e - a) (s.data.toList.drop a)).symm
    rw [List.drop_drop, show a + (e - a) = e by omega] at this
    exact this
  have hno : ∀ c ∈ (s.extract a e).data.toList, c ≠ 10 := by
    intro c hc
    rw [hx] at hc
    obtain ⟨j, hj, rfl⟩ := List.mem_iff_getElem.1 hc
    rw [List.length_take, List.length_drop, hlen] at hj
    rw [List.getElem_take, List.getElem_drop]
    exact h3 (a + j) (by omega) (by omega) (by omega)
  rw [hd, lns_run _ _ _ hno, List.nil_append]
  rcases h4 with rfl | ⟨he, h10⟩
  · have hne : (s.extract a s.size).data.toList ≠ [] := by
      intro q
      have := congrArg List.length q
      rw [hx, List.length_take, List.length_drop, hlen] at this
      simp at this
      omega
    rw [List.drop_eq_nil_of_le (by omega), List.drop_eq_nil_of_le (by omega), lns, if_neg hne]
    rfl
  · rw [drop_at s e he, h10, lns, if_pos rfl]
theorem ext_len (s : ByteArray) (a e : Nat) (h2 : e ≤ s.size) : (s.extract a e).size ≤ 65536 ∨ 65536 < s.size := by
  rw [ByteArray.size_extract]
  omega
set_option maxHeartbeats 8000000 in
set_option maxRecDepth 100000 in
theorem leave_rparse {m : Nat} {tmps : Array Value} {a0 a1 a2 a3 v0 v1 v2 v3 e n : Value} {W : World} {R : Ending → World → Prop} (t2 : tmps[2]? = some (.pointer (some ⟨m, 0, none⟩))) (t3 : tmps[3]? = some e) (t4 : tmps[4]? = some n) (he : e ≠ undef) (hn : n ≠ undef)
    (z : Blk m #[a0, a1, a2, a3] W)
    (hR : R (.returned (.tuple #[.agg #[v0, v1, v2, v3], e, n])) ((((W.setCell ⟨m, 0, none⟩ v0).setCell ⟨m, 1, none⟩ v1).setCell ⟨m, 2, none⟩ v2).setCell ⟨m, 3, none⟩ v3)) :
    bodyPost Tryz.prog Tryz.f11 R .ret { tmps := tmps, defers := [] } ((((W.setCell ⟨m, 0, none⟩ v0).setCell ⟨m, 1, none⟩ v1).setCell ⟨m, 2, none⟩ v2).setCell ⟨m, 3, none⟩ v3) := by
  have y := ((((z.set 0 (by simp) v0).set 1 (by simp) v1).set 2 (by simp) v2).set 3 (by simp) v3).cell
  simp only [List.setIfInBounds_toArray, List.set_cons_succ, List.set_cons_zero] at y
  generalize (((W.setCell ⟨m, 0, none⟩ v0).setCell ⟨m, 1, none⟩ v1).setCell ⟨m, 2, none⟩ v2).setCell ⟨m, 3, none⟩ v3 = Wf at *
  have y0 : Wf.cell? ⟨m, 0, none⟩ = some v0 := y 0
  have y1 : Wf.cell? ⟨m, 1, none⟩ = some v1 := y 1
  have y2 : Wf.cell? ⟨m, 2, none⟩ = some v2 := y 2
  have y3 : Wf.cell? ⟨m, 3, none⟩ = some v3 := y 3
  refine bodyPost_ret (v := .tuple #[.agg #[v0, v1, v2, v3], e, n]) ?_ rfl hR
  simp [results, Tryz.results11, go_sem, y0, y1, y2, y3, t2, t3, t4, he, hn]
theorem kind_ten {l : List UInt8} (hl : l ≠ []) (h : kind l = 10) : (form (opOf l : Nat)).size = 4 ∧ opOf l ≤ 65 := by
  have h9 : fixed.length = 9 := by decide
  have h0 : idx l fixed 1 = 0 := by
    rcases idx_range l fixed 1 with q | ⟨q1, q2⟩
    · exact q
    · unfold kind at h
      rw [if_pos (by omega)] at h
      omega
  have ho : opOf l = opAt l := by unfold opOf; rw [h0]; rfl
  have hn : opAt l ≠ 0 := by
    intro q
    unfold kind at h
    simp [h0, q] at h
  rw [ho]
  refine ⟨opAt_form l hl hn, ?_⟩
  unfold opAt
  rw [if_neg hl]
  have h6 : (names.drop 1).length = 65 := by decide
  rcases idx_range l (names.drop 1) 1 with q | ⟨q1, q2⟩ <;> omega
theorem lets_alet (k op : Nat) : ∀ c ∈ lets k op, alet c ∨ c = 78 ∨ c = 84 := by
  intro c hc
  unfold lets at hc
  repeat' split at hc
  case _ => simp at hc; subst hc; exact .inl (by decide)
  case _ => simp at hc; subst hc; exact .inr (.inl rfl)
  case _ => simp at hc; subst hc; exact .inr (.inl rfl)
  case _ => simp at hc; subst hc; exact .inr (.inr rfl)
  case _ => simp at hc; rcases hc with rfl | rfl | rfl <;> exact .inl (by decide)
  case _ => simp at hc; rcases hc with rfl | rfl | rfl <;> exact .inl (by decide)
  case _ =>
    obtain ⟨h1, h2⟩ := List.mem_filter.1 hc
    exact .inl ((form_alets op c h1).resolve_left (by simpa using h2))
  case _ => cases hc
theorem lets_len (k op : Nat) : (lets k op).length ≤ 4 := by
  unfold lets
  repeat' split
  case _ => decide
  case _ => decide
  case _ => decide
  case _ => decide
  case _ => decide
  case _ => decide
  case _ =>
    refine Nat.le_trans (List.length_filter_le _ _) ?_
    rw [Array.length_toList]
    show (form op).size ≤ 4
    rcases form_cases op with h | h
    · rw [h]; decide
    · omega
  case _ => decide
theorem info_i64 : (Tryz.prog.info? 2).map (fun i => (i.zero, i.size, i.bytes)) = some (some (.int .i64 0), 1, 8) := by kernel_rfl
/-- Half way through a line's words. -/
structure VM (L : List UInt8) (wl : List (List UInt8)) (k : Nat) (vs : List Int) (xa : Option Addr) (cap : Nat) (W wr : World) : Prop where
  rows : Rws W.heap.size [⟨2, 1, .slice xa vs.length cap, vs.length, vs.map (Value.int .i64)⟩] wr
  len : vs.length = k
  acc : Below W.heap.size W wr
  i64 : ∀ x ∈ vs, I64 x
  err : (vals L wl).2 = (vals (L.drop k) (wl.drop k)).2
  out : (vals L wl).2 = 0 → (vals L wl).1 = vs ++ (vals (L.drop k) (wl.drop k)).1
theorem VM.start (L : List UInt8) (wl : List (List UInt8)) (W : World) : VM L wl 0 [] none 0 W W :=
  ⟨⟨fun x hx => by obtain rfl := List.mem_singleton.1 hx; exact World.ownsRow_nil _ _ _ _, by decide⟩, rfl, Below.refl _ _, fun _ h => (by cases h), rfl, fun _ => rfl⟩
theorem VM.bad {L : List UInt8} {wl : List (List UInt8)} {k : Nat} {vs : List Int} {xa : Option Addr} {cap : Nat} {W wr : World} {c : UInt8} {x : List UInt8} (V : VM L wl k vs xa cap W wr) (hd : L.drop k = c :: L.drop (k + 1)) (hw : wl.drop k = x :: wl.drop (k + 1)) (hv : (val c x).2 ≠ 0) : (vals L wl).2 = (val c x).2 := by
  rw [V.err, hd, hw, vals, if_neg hv]
theorem VM.next {L : List UInt8} {wl : List (List UInt8)} {k : Nat} {vs : List Int} {xa : Option Addr} {cap cap' g : Nat} {W wr W3 : World} {c : UInt8} {x : List UInt8} {n : Int} (V : VM L wl k vs xa cap W wr) (hd : L.drop k = c :: L.drop (k + 1)) (hw : wl.drop k = x :: wl.drop (k + 1)) (hv : val c x = (n, 0)) (hn : I64 n) (hb : Below W.heap.size W W3)
    (k1 : Rws W.heap.size [⟨2, 1, .slice (some ⟨g, 0, none⟩) (vs.length + 1) cap', vs.length + 1, vs.map (Value.int .i64) ++ [.int .i64 n]⟩] W3) : VM L wl (k + 1) (vs ++ [n]) (some ⟨g, 0, none⟩) cap' W W3 := by
  refine ⟨?_, by rw [List.length_append, V.len]; rfl, hb, fun y hy => ?_, ?_, fun q => ?_⟩
  · rw [List.length_append, List.length_singleton, List.map_append]
    exact k1
  · rcases List.mem_append.1 hy with h | h
    · exact V.i64 y h
    · simp at h; subst h; exact hn
  · rw [V.err, hd, hw, vals, hv, if_pos rfl]
  · rw [V.out q, hd, hw, vals, hv, if_pos rfl, List.append_assoc]
    rfl
/-- A stop with an error. -/
def RStop (w : World) (s : ByteArray) (e : Ending) (w' : World) : Prop := ∃ p' : Pg, e = .returned (.tuple #[p'.v, .int .i64 (prs s.data.toList).2.1, .int .i64 (prs s.data.toList).2.2]) ∧ p'.bare = (prs s.data.toList).1 ∧ p'.In w' ∧ Below w.heap.size w w'
theorem rstop {w : World} {s : ByteArray} (hs : s.size ≤ 65536) {e : Int} {n : Nat} (he : e ≠ 0) (h : (reads (lns s.data.toList []) Pg.no 0 0).2 = (e, n)) {W' : World} (hB : Below w.heap.size w W') :
    RStop w s (.returned (.tuple #[.agg #[.slice none 0 0, .int .i64 0, .slice none 0 0, .slice none 0 0], .int .i64 e, .int .i64 n])) W' := by
  have := prs_stop hs he h
  unfold RStop
  rw [this]
  exact ⟨Pg.no, rfl, rfl, no_in _, hB⟩
end Go.Proofs.YtlhhmlfcodmebaaGreatDoor.Pg
