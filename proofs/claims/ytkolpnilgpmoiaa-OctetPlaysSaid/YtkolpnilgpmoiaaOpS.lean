/- What came in as data, opened: ints, arrays, lists in memory, structs. No condition. -/
import Derived.Test.YtkolpnilgpmoiaaPlayL
import Derived.Deep.Slices
import Derived.DeepKeys2
import Derived.OpenShut
import Derived.SizedLaws
namespace Go.Proofs.Ytkolpnilgpmoiaa.Opn
open Go.RowKit Go.ChangeShapes Go.WideShapes Go.Deep
open Go.Proofs.Ytkolpnilgpmoiaa.Pl (I64 Lies Stp)
def Len (n : Nat) : Prop := n ≤ 140737488351232
section
variable {H : Type} {enc : TypeId × Value → H} {P : Program} {w : World} {base : Nat} {spare : Nat → Bool} {held : Bool}
/-- What is read at a type are just the cells of some y. -/
def Opens (enc : TypeId × Value → H) (P : Program) (w : World) (base : Nat) (spare : Nat → Bool) (held : Bool) (t : TypeId) {α : Type} (f : α → List Value) (R : α → Prop) : Prop :=
  ∀ (fuel : Nat) (cs : List Value) (x : DataW H × List MemPlace), DataW.trod enc P w base spare held fuel t cs = some x → (∀ n ∈ x.1.weights P t, n ≤ reachBytes) → ∃ y, cs = f y ∧ R y
theorem i64_wf {n : Int} (h : (Lit.int .i64 n).wf = true) : I64 n := by
  simp [Lit.wf, IntKind.min, IntKind.max, IntKind.signed, IntKind.bits] at h
  exact h
def ci (n : Int) : List Value := [.int .i64 n]
def cb (b : Bool) : List Value := [.bool b]
theorem opens_int {t : TypeId} (hu : P.underlying t = some (.int .i64)) : Opens enc P w base spare held t ci I64 := fun fuel cs x h _ => by
  obtain ⟨n, rfl, _, hw⟩ := DataW.trod_int hu h
  exact ⟨n, rfl, i64_wf hw⟩
theorem opens_bool {t : TypeId} (hu : P.underlying t = some .bool) : Opens enc P w base spare held t cb (fun _ => True) := fun fuel cs x h _ => by
  obtain ⟨n, rfl, _⟩ := DataW.trod_bool hu h
  exact ⟨n, rfl, trivial⟩
theorem weightsAll_mem {e : TypeId} : ∀ {l : List (DataW H)} {d : DataW H}, d ∈ l → ∀ n ∈ d.weights P e, n ∈ DataW.weightsAll P e l
  | [], _, h, _, _ => by cases h
  | x :: l, d, h, n, hn => by
    rcases List.mem_cons.1 h with rfl | h
    · simp only [DataW.weightsAll, List.mem_append]; exact .inl hn
    · simp only [DataW.weightsAll, List.mem_append]; exact .inr (weightsAll_mem h n hn)
theorem opens_arr {α : Type} [Inhabited α] {f : α → List Value} {R : α → Prop} {t e : TypeId} {n : Nat} (hu : P.underlying t = some (.array n e)) (hc : P.cellsOf t = n * P.cellsOf e) (h : Opens enc P w base spare held e f R) :
    Opens enc P w base spare held t (fun l : List α => l.flatMap f) (fun l => l.length = n ∧ ∀ y ∈ l, R y) := fun fuel cs x hx hw => by
  obtain ⟨xs, m, rfl, e1, hl, hn, hi⟩ := DataW.trod_array hu hx
  subst e1
  have hY : ∀ i, i < n → ∃ y, (cs.drop (i * P.cellsOf e)).take (P.cellsOf e) = f y ∧ R y := fun i hi' => by
    have h1 := hi i hi'
    rw [List.getElem?_eq_getElem (by omega)] at h1
    refine h m _ _ h1 fun k hk => hw k ?_
    simp only [DataW.weights, hu]
    exact weightsAll_mem (List.mem_map.2 ⟨_, List.getElem_mem _, rfl⟩) k hk
  obtain ⟨Y, hY⟩ := choose_lt hY
  refine ⟨(List.range n).map Y, ?_, by simp, ?_⟩
  · have h1 := chunks_flatten (P.cellsOf e) n cs (by rw [hl, hc])
    refine h1.symm.trans ?_
    show _ = ((List.range n).map Y).flatMap f
    rw [List.flatMap_def, List.map_map]
    congr 1
    exact List.map_congr_left fun i hi' => (hY i (by simpa using hi')).1
  · intro y hy
    obtain ⟨i, hi', rfl⟩ := List.mem_map.1 hy
    exact (hY i (by simpa using hi')).2
theorem flat_at {α : Type} {f : α → List Value} {c : Nat} : ∀ {l : List α} (_ : ∀ x ∈ l, (f x).length = c) {j : Nat} {v : Value}, (l.flatMap f)[j]? = some v → ∃ i r x, l[i]? = some x ∧ (f x)[r]? = some v ∧ j = i * c + r
  | [], _, j, v, h => by simp at h
  | y :: l, hf, j, v, h => by
    have hy := hf y (List.mem_cons_self ..)
    rw [List.flatMap_cons] at h
    by_cases hj : j < (f y).length
    · rw [List.getElem?_append_left hj] at h
      exact ⟨0, j, y, rfl, h, by omega⟩
    · rw [List.getElem?_append_right (by omega)] at h
      obtain ⟨i, r, x, h1, h2, h3⟩ := flat_at (fun x hx => hf x (List.mem_cons_of_mem _ hx)) h
      exact ⟨i + 1, r, x, by simpa using h1, h2, by rw [Nat.succ_mul]; omega⟩
/-- A list in memory: where, with what room, of what. -/
structure Ls (α : Type) where (a : Option Addr) (cap : Nat) (l : List α)
def cl {α : Type} (s : Ls α) : List Value := [.slice s.a s.l.length s.cap]
theorem opens_list {α : Type} [Inhabited α] {f : α → List Value} {R : α → Prop} {t e : TypeId} {c : Nat} (hu : P.underlying t = some (.slice e)) (hc : P.cellsOf e = c) (h0 : 0 < c) (hb : 1 ≤ P.bytesOf e) (h : Opens enc P w base spare held e f R) :
    Opens enc P w base spare held t cl (fun s : Ls α => Lies w s.a (s.l.flatMap f) ∧ (∀ y ∈ s.l, R y) ∧ Len s.l.length) := fun fuel cs x hx hw => by
  rcases open_slice hu hx with ⟨rfl, rfl⟩ | ⟨a, len, cap, m, q, D, Pl, rfl, _, hl, hm, hmm, rfl, hel⟩
  · exact ⟨⟨none, 0, []⟩, rfl, .inl rfl, by simp, by unfold Len; simp⟩
  have hnm : len ≤ m := by rw [hmm]; split <;> omega
  have hY : ∀ i, i < len → ∃ y, w.cells? base (a.add (i * c)) c = some (f y) ∧ R y := fun i hi => by
    obtain ⟨cs', h1, h2⟩ := hel i (by omega)
    rw [hc] at h1
    obtain ⟨y, rfl, hy⟩ := h q cs' _ h2 fun k hk => hw k (by
      simp only [DataW.weights, hu, List.mem_cons, List.mem_append]
      exact .inr (.inl (weightsAll_mem (List.mem_map.2 ⟨i, by simpa using hi, rfl⟩) k hk)))
    exact ⟨y, h1, hy⟩
  have hr : len ≤ reachBytes := by
    have h1 := hw ((((List.range len).map D).length + ((List.range (m - len)).map fun j => D (len + j)).length) * P.bytesOf e) (by simp [DataW.weights, hu])
    simp only [List.length_map, List.length_range] at h1
    have h2 := Nat.mul_le_mul_left (len + (m - len)) hb
    omega
  obtain ⟨Y, hY⟩ := choose_lt hY
  have hlen : ∀ x ∈ (List.range len).map Y, (f x).length = c := fun x hx => by
    obtain ⟨i, hi, rfl⟩ := List.mem_map.1 hx
    exact (World.cells?_some (hY i (by simpa using hi)).1).2.1
  refine ⟨⟨a, cap, (List.range len).map Y⟩, by simp [cl], ?_, ?_, ?_⟩
  · by_cases hn : len = 0
    · subst hn; exact .inl rfl
    · obtain ⟨b, off, spot⟩ := a
      obtain ⟨_, hl0, hc0⟩ := World.cells?_some (hY 0 (by omega)).1
      have h00 := hc0 0 h0
      rw [List.getElem?_eq_getElem (by omega)] at h00
      have hspot : spot = none := by simpa [Addr.add] using World.cell?_spot h00
      subst hspot
      have hlt : b < w.heap.size := by
        rcases Nat.lt_or_ge b w.heap.size with h | h
        · exact h
        · simp [World.cell?, Addr.add, Array.getElem?_eq_none h] at h00
      refine .inr ⟨b, off, rfl, hlt, fun j v hv => ?_⟩
      obtain ⟨i, r, y, h1, h2, rfl⟩ := flat_at hlen hv
      have hi : i < len := by have := (List.getElem?_eq_some_iff.1 h1).1; simpa using this
      obtain ⟨_, hli, hci⟩ := World.cells?_some (hY i hi).1
      have hyi : y = Y i := by simp [hi] at h1; exact h1.symm
      subst hyi
      have hrl : r < c := by rw [← hli]; exact (List.getElem?_eq_some_iff.1 h2).1
      have := hci r hrl
      rw [h2, add_plain, add_plain] at this
      rw [← Nat.add_assoc]; exact this
  · intro y hy
    obtain ⟨i, hi', rfl⟩ := List.mem_map.1 hy
    exact (hY i (by simpa using hi')).2
  · unfold Len; simp only [List.length_map, List.length_range]; unfold reachBytes at hr; omega
theorem cut (cs : List Value) (o c : Nat) : cs.drop o = (cs.drop o).take c ++ cs.drop (o + c) := by rw [← List.drop_drop, List.take_append_drop]
/-- The field of a struct. -/
theorem field {α : Type} {f : α → List Value} {R : α → Prop} {t : TypeId} {fs : Array Field} {fuel : Nat} {cs : List Value} {x : DataW H × List MemPlace} (hu : P.underlying t = some (.struct fs)) (h : DataW.trod enc P w base spare held fuel t cs = some x)
    (hw : ∀ n ∈ x.1.weights P t, n ≤ reachBytes) (i : Nat) (fl : Field) (hf : fs[i]? = some fl) (u o c : Nat) (hu' : fl.type = u) (ho : fl.offset = o) (hc : P.cellsOf u = c) (H' : Opens enc P w base spare held u f R) : ∃ y, (cs.drop o).take c = f y ∧ R y := by
  obtain ⟨xs, m, rfl, e1, hl, hn, hi⟩ := DataW.trod_struct hu h
  subst e1
  have hi' : i < xs.length := by rw [hn]; exact (Array.getElem?_eq_some_iff.1 hf).1
  have h1 := hi i fl hf
  rw [List.getElem?_eq_getElem hi', hu', ho, hc] at h1
  refine H' m _ _ h1 fun k hk => hw k ?_
  simp only [DataW.weights, hu]
  refine DataW.weights_mem_each (j := i) (t := u) (d := xs[i].1) ?_ ?_ k hk
  · rw [List.getElem?_map, Array.getElem?_toList, hf]; simp [hu']
  · rw [List.getElem?_map, List.getElem?_eq_getElem hi']; rfl
theorem struct_len {t : TypeId} {fs : Array Field} {fuel : Nat} {cs : List Value} {x : DataW H × List MemPlace} (hu : P.underlying t = some (.struct fs)) (h : DataW.trod enc P w base spare held fuel t cs = some x) : cs.length = P.cellsOf t := (DataW.trod_struct hu h).choose_spec.choose_spec.2.2.1
theorem cI : Try.prog.cellsOf 3 = 1 := by kernel_rfl
theorem cS : Try.prog.cellsOf 71 = 2 := by kernel_rfl
theorem o_stp {enc : TypeId × Value → H} {w : World} {base : Nat} {spare : Nat → Bool} {held : Bool} : Opens enc Try.prog w base spare held 71 Stp.cs (fun x => I64 x.what ∧ I64 x.n) := fun fuel cs x h hw => by
  have hl := struct_len Try.underlying71 h
  rw [cS] at hl
  obtain ⟨a0, e0, r0⟩ := field Try.underlying71 h hw 0 _ rfl 3 0 1 rfl rfl cI (opens_int Try.underlying3)
  obtain ⟨a1, e1, r1⟩ := field Try.underlying71 h hw 1 _ rfl 3 1 1 rfl rfl cI (opens_int Try.underlying3)
  refine ⟨⟨a0, a1⟩, ?_, r0, r1⟩
  rw [← List.drop_zero (l := cs), cut cs (0) 1, cut cs (0 + 1) 1]
  simp only [Nat.zero_add, Nat.reduceAdd]
  rw [show cs.drop 2 = [] from List.drop_of_length_le (by omega), e0, e1]
  rfl
instance : Inhabited Stp := ⟨⟨0, 0⟩⟩
end
theorem small_weights {H : Type} {P : Program} {ts : List TypeId} {ds : List (DataW H)} (hsz : (DataW.weightsEach P ts ds).all (· ≤ reachBytes) = true) {j : Nat} {t : TypeId} {d : DataW H} (ht : ts[j]? = some t) (hd : ds[j]? = some d) : ∀ n ∈ d.weights P t, n ≤ reachBytes := fun n hn => by
  simpa using List.all_eq_true.1 hsz n (DataW.weights_mem_each ht hd n hn)
set_option maxRecDepth 100000 in
theorem open_stps {H : Type} {enc : TypeId × Value → H} {W : World} {r : Reach} {b0 : Nat} {spare : Nat → Bool} {held : Bool} {v : Value} {d : DataW H} {p : List MemPlace} {ts : List TypeId} {ds : List (DataW H)}
    (hv : Value.okWide Try.prog W r b0 65 v) (h : DataW.Trod enc Try.prog W 0 spare held 65 v d p) (hsz : (DataW.weightsEach Try.prog ts ds).all (· ≤ reachBytes) = true) {j : Nat} (ht : ts[j]? = some 65) (hd : ds[j]? = some d) :
    ∃ (a : Option Addr) (cap : Nat) (S : List Stp), v = .slice a S.length cap ∧ Lies W a (S.flatMap Stp.cs) ∧ (∀ x ∈ S, I64 x.what ∧ I64 x.n) ∧ S.length ≤ 140737488351232 := by
  obtain ⟨a, len, cap, rfl⟩ := okWide_slice Try.underlying65 hv
  obtain ⟨fuel, hf⟩ := h
  obtain ⟨y, e, h1, h2, h3⟩ := opens_list (f := Stp.cs) Try.underlying65 cS (by omega) (of_decide_eq_true (by kernel_rfl)) o_stp fuel _ (d, p) hf (small_weights hsz ht hd)
  have e : [Value.slice a len cap] = [Value.slice y.a y.l.length y.cap] := e
  injection e with e1 _
  injection e1 with e2 e3 e4
  subst e2 e3 e4
  exact ⟨y.a, y.cap, y.l, rfl, h1, h2, h3⟩
end Go.Proofs.Ytkolpnilgpmoiaa.Opn
namespace Go.Proofs.Ytkolpnilgpmoiaa.Pl
open Go.ChangeShapes Go.WideShapes Go.RowKit Go.Proofs.Ytkolpnilgpmoiaa.Z Go.Proofs.YtkolpnilgpmoiaaW.PrintWords Go.Proofs.Ytkolpnilgpmoiaa.Bits Go.Proofs.Ytkolpnilgpmoiaa.Codec
theorem plays (a0 : Option Addr) (len0 cap0 : Nat) (z0 : List Int) (a1 : Option Addr) (cap1 : Nat) (S : List Stp) (w : World)
    (w0 : (a0 = none ∧ len0 = 0 ∧ cap0 = 0 ∧ z0 = []) ∨ ∃ x, a0 = some x ∧ len0 ≤ cap0 ∧ cap0 ≤ maxLen ∧ z0.length = cap0 ∧ (∀ i, i < z0.length → w.cell? (x.add i) = some (.int .u8 (z0.getD i 0))) ∧ ∀ n ∈ z0, (Lit.int .u8 n).wf = true)
    (y0 : len0 * 1 ≤ 140737488351232) (hS : Lies w a1 (S.flatMap Stp.cs)) (hok : ∀ x ∈ S, I64 x.what ∧ I64 x.n) (hSl : S.length ≤ 140737488351232) :
    Calls Try.prog 11 #[.slice a0 len0 cap0, .slice a1 S.length cap1] w fun e w' => e = .returned (.bool true) ∧ Below w.heap.size w w' := by
  have hn : (a0 = none → len0 = 0 ∧ cap0 = 0) ∧ cap0 ≤ maxLen := by
    rcases w0 with ⟨rfl, rfl, rfl, _⟩ | ⟨x, rfl, _, h, _⟩
    · exact ⟨fun _ => ⟨rfl, rfl⟩, Nat.zero_le _⟩
    · exact ⟨fun e => (by cases e), h⟩
  obtain ⟨l0, rfl, hr0, hm0, hw0, hc0⟩ := ReadsInt.ofRowC w0
  have hr : Kd.C (Kd.int .u8) w a0 l0.length l0 := Kd.C_of_reads (d := (0 : Int)) (h1 := fun _ => rfl) hr0
  exact plays_walk (Codec.bytes_of hw0) (by omega) w hr hc0 hn.2 hn.1 S a1 cap1 hS hSl hok
end Go.Proofs.Ytkolpnilgpmoiaa.Pl
