/- OctetPlays, walked: every play of a reader. -/
import Derived.Test.YtkolpnilgpmoiaaPlayN
namespace Go.Proofs.Ytkolpnilgpmoiaa.Pl
open Go.ChangeShapes Go.WideShapes Go.RowKit Go.Proofs.Ytkolpnilgpmoiaa.Z Go.Proofs.YtkolpnilgpmoiaaW.PrintWords Go.Proofs.Ytkolpnilgpmoiaa.Bits Go.Proofs.Ytkolpnilgpmoiaa.Codec Go.Proofs.Ytkolpnilgpmoiaa.Pure
set_option linter.unusedVariables false
set_option linter.unusedSimpArgs false
def I64 (x : Int) : Prop := -9223372036854775808 ≤ x ∧ x ≤ 9223372036854775807
def Lies (w : World) (a : Option Addr) (cs : List Value) : Prop := cs = [] ∨ ∃ b o, a = some ⟨b, o, none⟩ ∧ b < w.heap.size ∧ w.rangeAt b o cs
/-- A step of the script. -/
structure Stp where (what n : Int)
def Stp.cs (x : Stp) : List Value := [.int .i64 x.what, .int .i64 x.n]
theorem stp_at {w : World} {a : Option Addr} {l : List Stp} (h : Lies w a (l.flatMap Stp.cs)) (hl : 0 < l.length) : ∃ b o, a = some ⟨b, o, none⟩ ∧ b < w.heap.size ∧ ∀ k x, l[k]? = some x → w.cell? ⟨b, o + k * 2, none⟩ = some (.int .i64 x.what) ∧ w.cell? ⟨b, o + k * 2 + 1, none⟩ = some (.int .i64 x.n) := by
  rcases h with e | ⟨b, o, e, hb, hr⟩
  · cases l with
    | nil => simp at hl
    | cons x l => simp [Stp.cs] at e
  · refine ⟨b, o, e, hb, fun k x hx => ?_⟩
    have key : ∀ (l : List Stp) (k : Nat) (x : Stp), l[k]? = some x → (l.flatMap Stp.cs)[k * 2]? = some (.int .i64 x.what) ∧ (l.flatMap Stp.cs)[k * 2 + 1]? = some (.int .i64 x.n) := by
      intro l
      induction l with
      | nil => intro k x h; simp at h
      | cons y l ih =>
        intro k x h
        cases k with
        | zero => cases h; simp [Stp.cs]
        | succ k =>
          have := ih k x (by simpa using h)
          rw [List.flatMap_cons, show (k + 1) * 2 = k * 2 + 2 by omega]
          simpa [Stp.cs] using this
    obtain ⟨h1, h2⟩ := key l k x hx
    have q1 := hr _ _ h1
    have q2 := hr _ _ h2
    exact ⟨by simpa [Nat.add_assoc] using q1, by simpa [Nat.add_assoc] using q2⟩
theorem set_row {W : World} {k : Nat} {cur : Array Value} {T : TypeId} {fz : Nat × Nat} (h : W.heap[k]? = some (.cells cur T fz)) (i : Nat) (v : Value) : (W.setCell ⟨k, i, none⟩ v).heap[k]? = some (.cells (cur.setIfInBounds i v) T fz) := by
  simp [World.setCell, Array.getElem?_modify, h]
/-- A row that may be written over, apart from the readers. -/
def Over (w : World) (g h : Nat) (V : Value) (C : Option Addr) (n : Nat) (W : World) : Prop := 0 < n → ∃ k cur, C = some ⟨k, 0, none⟩ ∧ W.heap[k]? = some (.cells cur 5 (0, 0)) ∧ n ≤ cur.size ∧ k ≠ g ∧ k ≠ h ∧ V.ownBlock ≠ some k ∧ w.heap.size ≤ k
theorem over_of {w W : World} {g h base n d : Nat} {V : Value} {C : Option Addr} {xs : List Value} (o : W.ownsRow base 5 1 (.slice C n d) n xs) (hk : ∀ k, (Value.slice C n d).ownBlock = some k → k ≠ g ∧ k ≠ h ∧ V.ownBlock ≠ some k ∧ w.heap.size ≤ k) : Over w g h V C n W := fun hn => by
  rcases o.2 with ⟨e, h0⟩ | ⟨k, cap, cur, e, hb, hg, hc, hm, hs, ht⟩
  · omega
  · injection e with e1 e2 e3
    subst e1
    exact ⟨k, cur, rfl, hg, by omega, hk k rfl⟩
theorem own_lower {w : World} {base base' e size n : Nat} {v : Value} {xs : List Value} (h : w.ownsRow base e size v n xs) (hb : base' ≤ base) : w.ownsRow base' e size v n xs := by
  refine ⟨h.1, ?_⟩
  rcases h.2 with h2 | ⟨g, cap, cur, e, hbg, r⟩
  · exact .inl h2
  · exact .inr ⟨g, cap, cur, e, Nat.le_trans hb hbg, r⟩
variable {L : List Int} {A : Option Addr} {c : Nat}
set_option maxHeartbeats 8000000 in
set_option maxRecDepth 100000 in
theorem plays_walk (hb : Codec.bytes L) (hl : L.length ≤ 140737488351300) (w : World) (hA : Kd.C (Kd.int .u8) w A L.length L) (hc : L.length ≤ c) (hcm : c ≤ maxLen) (hAn : A = none → L.length = 0 ∧ c = 0) (S : List Stp) (SA : Option Addr) (sc : Nat) (hS : Lies w SA (S.flatMap Stp.cs)) (hSl : S.length ≤ 140737488351232) (hok : ∀ x ∈ S, I64 x.what ∧ I64 x.n) :
    Calls Try.prog 11 #[.slice A L.length c, .slice SA S.length sc] w fun e w' => e = .returned (.bool true) ∧ Below w.heap.size w w' := by
  have cO := Lib.hid (own_c hl w hA hc)
  have cN := Lib.hid (fun base v W own => newreader hl (base := base) (v := v) W own)
  replace hS := Lib.hid hS
  replace hok := Lib.hid hok
  replace hA := Lib.hid hA
  go_enter Try.func11, Try.ntmps11
  go_wp2_with (first
    | ((go_at_call 40; ((with_reducible refine (cN.out _ _ _ o1).mono ?_); rintro e w' ⟨g, B, d, rfl, hg, hgh, o2, hne, hb2⟩)); obtain ⟨w2, rfl⟩ : ∃ w2 : World, w2 = w' := ⟨_, rfl⟩)
    | ((go_at_call 14; ((with_reducible refine (cO.out).mono ?_); rintro e w' ⟨v0, rfl, o1, hb1⟩)); obtain ⟨w1, rfl⟩ : ∃ w1 : World, w1 = w' := ⟨_, rfl⟩; obtain ⟨C, cd, rfl, hcd⟩ := own_slice o1))
  have hs1 := hb1.size
  have hs2 := hb2.size
  have hgl : g < w2.heap.size := (Array.getElem?_eq_some_iff.1 hgh).1
  have P0 : Play w L A B c d g w2.heap.size 0 0 (w2.alloc (.cells #[.slice A L.length c, .int .i64 0] 69)) := by
    have hg' := (alloc_old' w2 (.cells #[.slice A L.length c, .int .i64 0] 69) g hgl).trans hgh
    have hh' := alloc_at w2 (.cells #[.slice A L.length c, .int .i64 0] 69)
    refine ⟨(hb1.trans (hb2.mono hs1)).alloc (by omega) _, ?_, ?_, ?_, ?_, ?_, ?_, ?_, fun k hk => ?_, by omega, ⟨by omega, by simp; omega⟩, ⟨by omega, by simp⟩, Nat.zero_le _, Nat.zero_le _⟩
    · simp [World.cell?, hg']
    · simp [World.cell?, hg']
    · simp [World.frozen?, hg']
    · exact (World.cell?_alloc_new _ _ _ _).trans rfl
    · exact (World.cell?_alloc_new _ _ _ _).trans rfl
    · exact World.frozen?_alloc_new _ _ _ _
    · exact own_lower (own_move o2 (fun j hj => alloc_old' _ _ _ (o2.lt j hj).2)) (by omega)
    · have := o2.lt k hk
      refine ⟨fun e => hne (e ▸ hk), by omega, by simp; omega⟩
  have O0 : Over w g w2.heap.size (.slice B L.length d) C L.length (w2.alloc (.cells #[.slice A L.length c, .int .i64 0] 69)) := by
    refine over_of (own_move o1 (fun j hj => ?_)) (fun k hk => ?_)
    · have := o1.lt j hj
      exact (alloc_old' _ _ _ (by omega)).trans (hb2.block j this.2)
    · have := o1.lt k hk
      refine ⟨by omega, by omega, fun e => ?_, this.1⟩
      have := (o2.lt k e).1
      omega
  generalize hhh : w2.heap.size = h at *
  clear o1 o2 hb2 hgh hne
  replace P0 := Lib.hid P0
  replace O0 := Lib.hid O0
  go_loopw [35] (fun i wr => ∃ j : Nat, j ≤ L.length ∧ i = .int .i64 j ∧ Play w L A B c d g h 0 0 wr ∧ Over w g h (.slice B L.length d) C L.length wr) (fun i _ => L.length - (intOf i).toNat)
  case atStart => exact ⟨0, by omega, rfl, P0.out, O0.out⟩
  case round =>
    clear P0 O0
    obtain ⟨j, hj, rfl, P, O⟩ := hrel
    by_cases hjl : j < L.length
    · obtain ⟨k, cur, rfl, hk, hks, f1, f2, f3, f4⟩ := O (by omega)
      have y : wr.cell? ⟨k, j, none⟩ = some cur[j] := by simp [World.cell?, hk, show j < cur.size by omega]
      have z : wr.frozen? ⟨k, j, none⟩ = false := by simp [World.frozen?, hk]
      have hkl : k < wr.heap.size := (Array.getElem?_eq_some_iff.1 hk).1
      replace P := Lib.hid P
      go_wp2
      go_roundw
      case rel => exact ⟨j + 1, by omega, by go_num, P.out.far k j _ f4 f1 f2 f3, fun _ => ⟨k, _, rfl, set_row hk j _, by simpa using hks, f1, f2, f3, f4⟩⟩
      case measure => simp [intOf]; omega
    · obtain rfl : j = L.length := by omega
      clear O
      replace P := Lib.hid P
      go_wp2
      go_loopw [44] (fun i wr => ∃ (j p : Nat), j ≤ S.length ∧ i = .int .i64 j ∧ Play w L A B c d g h p p wr) (fun i _ => S.length - (intOf i).toNat)
      case atStart => exact ⟨0, 0, by omega, rfl, P.out⟩
      case round =>
        clear P
        obtain ⟨j, p, hj, rfl, P⟩ := hrel
        by_cases hjl : j < S.length
        · obtain ⟨sb, so, rfl, hsb, hsc⟩ := stp_at hS.out (by omega)
          obtain ⟨s0, s1⟩ := hsc j S[j] (by simp)
          have hk := hok.out S[j] (List.getElem_mem _)
          clear hsc
          generalize S[j] = s at *
          obtain ⟨wh, n⟩ := s
          simp only at s0 s1 hk
          obtain ⟨hk1, hk2⟩ := hk
          rw [← P.acc.cell (by simpa using hsb)] at s0 s1
          have hsb' := Nat.lt_of_lt_of_le hsb P.acc.size
          have P1 : Play w L A B c d g h p p (wr.alloc (.cells #[.int .i64 wh, .int .i64 n] 71)) := P.next ((Below.refl _ _).alloc (Nat.le_refl _) _)
          have hgw := P.lg.2
          have hhw := P.lh.2
          clear P
          rcases (show wh = 0 ∨ wh = 1 ∨ wh = 2 ∨ wh = 3 ∨ (wh ≠ 0 ∧ wh ≠ 1 ∧ wh ≠ 2 ∧ wh ≠ 3) by omega) with rfl | rfl | rfl | rfl | ⟨n0, n1, n2, n3⟩
          · go_wp2_with (first
              | ((go_at_call 41; ((with_reducible refine (huint hb hl hA.out hc P2).mono ?_); rintro e w' ⟨rfl, P3⟩)))
              | ((go_at_call 34; ((with_reducible refine (guint hb hl P1).mono ?_); rintro e w' ⟨rfl, P2⟩))))
            generalize (uint L p).2.1 = p' at *
            have a0 := P3.h0
            have a1 := P3.h1
            have a2 := P3.hp
            have hw0 : IntKind.i64.wrap ((L.length : Int) - ((p' : Nat) : Int)) = (L.length : Int) - ((p' : Nat) : Int) := by simp [IntKind.wrap, IntKind.bits]; omega
            go_quiet (first
              | ((go_at_call 37; refine Calls.quiet_of_same (gat (P3.drewN _))))
              | (go_at_call 38; refine Calls.quiet_of (gleft hl (P3.drewN _)))
              | fail)
            go_wp2
            first
              | (refine ⟨⟨j + 1, _, by omega, by go_num, P3.drewN _⟩, (by first | (simp [intOf]; done) | (simp [intOf]; omega) | omega)⟩)
              | (refine ⟨?_, (by first | (simp [intOf]; done) | (simp [intOf]; omega) | omega)⟩; (repeat apply Exists.intro); exact ⟨⟨j + 1, _, by omega, by go_num, P3.drewN _⟩, rfl⟩)
          · go_wp2_with (first
              | ((go_at_call 42; ((with_reducible refine (hint hb hl hA.out hc P2).mono ?_); rintro e w' ⟨rfl, P3⟩)))
              | ((go_at_call 35; ((with_reducible refine (gint hb hl P1).mono ?_); rintro e w' ⟨rfl, P2⟩))))
            generalize (sint L p).2.1 = p' at *
            have a0 := P3.h0
            have a1 := P3.h1
            have a2 := P3.hp
            have hw0 : IntKind.i64.wrap ((L.length : Int) - ((p' : Nat) : Int)) = (L.length : Int) - ((p' : Nat) : Int) := by simp [IntKind.wrap, IntKind.bits]; omega
            go_quiet (first
              | ((go_at_call 37; refine Calls.quiet_of_same (gat (P3.drewN _))))
              | (go_at_call 38; refine Calls.quiet_of (gleft hl (P3.drewN _)))
              | fail)
            go_wp2
            first
              | (refine ⟨⟨j + 1, _, by omega, by go_num, P3.drewN _⟩, (by first | (simp [intOf]; done) | (simp [intOf]; omega) | omega)⟩)
              | (refine ⟨?_, (by first | (simp [intOf]; done) | (simp [intOf]; omega) | omega)⟩; (repeat apply Exists.intro); exact ⟨⟨j + 1, _, by omega, by go_num, P3.drewN _⟩, rfl⟩)
          · have cT := Lib.hid (gtake hl n hk2 P1)
            have hml := tkx_len P1.hp n
            have hmx : (tkx L p n).length ≤ L.length := by omega
            have cSB := Lib.hid (fun (x : Option Addr) (d1 : Nat) (y : Option Addr) (d2 : Nat) V h1 h2 h3 h4 => scarabplain_SameBytes.calls x d1 (tkx L p n) y d2 (tkx L p n) true V h1 h2 h3 h4 (same_val _ _ rfl))
            have ckA := fun V (x : Option Addr) (hx : Kd.C (Kd.int .u8) w x (tkx L p n).length (tkx L p n)) (hV : Below w.heap.size w V) => Kd.C_below hx hV
            replace ckA := Lib.hid ckA
            have ckB := Lib.hid (fun V base (x : Option Addr) (d1 : Nat) (hx : V.ownsRow base 5 1 (.slice x (tkx L p n).length d1) (tkx L p n).length (bs (tkx L p n))) => (Kd.C_of_reads (d := (0 : Int)) (h1 := fun _ => rfl) (own_reads' hx) : Kd.C (Kd.int .u8) V x (tkx L p n).length (tkx L p n)))
            have cH2 := Lib.hid (fun V (PV : Play w L A B c d g h (p + (tkx L p n).length) p V) => htake hl hA.out hc hcm hAn n hk2 PV)
            have lcell := Lib.hid (fun (V : World) (hV : V.heap[wr.heap.size]? = (wr.alloc (.cells #[.int .i64 2, .int .i64 n] 71)).heap[wr.heap.size]?) => (by rw [alloc_at] at hV; simp [World.cell?, hV] : V.cell? ⟨wr.heap.size, 1, none⟩ = some (.int .i64 n)))
            generalize tke L p n = te at *
            go_wp2_with (first
              | (go_at_call 24; go_loud (refine (cSB.out _ _ _ _ _ (ckB.out _ _ _ _ ox') dd (ckA.out _ _ ky P3.acc) ky2).mono ?_; rintro e w' ⟨rfl, hdr⟩; have P4 := P3.next hdr.below))
              | (go_at_call 43; go_loud (refine (cH2.out _ P2).mono ?_; rintro e w' ⟨y, yd, rfl, ky, ky2, P3, hfr⟩; have ox' := own_move ox (fun j hj => hfr j (hxh j hj))))
              | ((go_at_call 36; ((with_reducible refine (cT.out).mono ?_); rintro e w' ⟨v, rfl, ox, P2, hfg⟩)); have s2 := lcell.out _ (hfg _ (by simp) (by omega)); obtain ⟨vx, dx, rfl, dd⟩ := own_slice ox; have hxh : ∀ j, (Value.slice vx (tkx L p n).length dx).ownBlock = some j → j ≠ h := fun j hj => by have := (ox.lt j hj).1; have := P1.lh.2; omega))

            have O4 : Over w g h (.slice B L.length d) vx (tkx L p n).length w' := by
              refine over_of (own_move ox' (fun j hjj => hdr.below.block j ?_)) (fun k hk => ?_)
              · have h1 := (ox'.lt j hjj).2
                omega
              · have h1 := (ox.lt k hk).1
                have h2 := P1.lg.2
                have h3 := P1.lh.2
                refine ⟨by omega, by omega, fun e => ?_, by have := P1.lg.1; omega⟩
                have := (P1.sg k e).2.2
                omega
            obtain ⟨p', hp'⟩ : ∃ p', p' = p + (tkx L p n).length := ⟨_, rfl⟩
            rw [← hp'] at P4
            clear ox ox' s2 hfg hfr hxh ky P3 P2 P1 hdr cT cSB ckA ckB cH2 lcell s0 s1
            replace P4 := Lib.hid P4
            replace O4 := Lib.hid O4
            go_loopw [117] (fun i wq => ∃ i' : Nat, i' ≤ (tkx L p n).length ∧ i = .int .i64 i' ∧ Play w L A B c d g h p' p' wq ∧ Over w g h (.slice B L.length d) vx (tkx L p n).length wq) (fun i _ => (tkx L p n).length - (intOf i).toNat)
            case atStart => exact ⟨0, by omega, rfl, P4.out, O4.out⟩
            case round =>
              clear P4 O4
              obtain ⟨j', hj', rfl, P, O⟩ := hrel
              by_cases hjl' : j' < (tkx L p n).length
              · obtain ⟨k, cur, rfl, hk', hks, f1, f2, f3, f4⟩ := O (by omega)
                have y := (by simp [World.cell?, hk', show j' < cur.size by omega] : World.cell? wr ⟨k, j', none⟩ = some cur[j'])
                have z := (by simp [World.frozen?, hk'] : World.frozen? wr ⟨k, j', none⟩ = false)
                have hkl := (Array.getElem?_eq_some_iff.1 hk').1
                replace P := Lib.hid P
                go_wp2
                first
                  | (refine ⟨⟨j' + 1, by omega, by go_num, P.out.far k j' _ f4 f1 f2 f3, fun _ => ⟨k, _, rfl, set_row hk' j' _, by simpa using hks, f1, f2, f3, f4⟩⟩, (by first | (simp [intOf]; done) | (simp [intOf]; omega) | omega)⟩)
                  | (refine ⟨?_, (by first | (simp [intOf]; done) | (simp [intOf]; omega) | omega)⟩; (repeat apply Exists.intro); exact ⟨⟨j' + 1, by omega, by go_num, P.out.far k j' _ f4 f1 f2 f3, fun _ => ⟨k, _, rfl, set_row hk' j' _, by simpa using hks, f1, f2, f3, f4⟩⟩, rfl⟩)
              · obtain rfl : j' = (tkx L p n).length := by omega
                clear O
                go_wp2
                have a0 := P.h0
                have a1 := P.h1
                have a2 := P.hp
                have hw0 : IntKind.i64.wrap ((L.length : Int) - ((p' : Nat) : Int)) = (L.length : Int) - ((p' : Nat) : Int) := by simp [IntKind.wrap, IntKind.bits]; omega
                go_quiet (first
                  | ((go_at_call 37; refine Calls.quiet_of_same (gat (P.drewN _))))
                  | (go_at_call 38; refine Calls.quiet_of (gleft hl (P.drewN _)))
                  | fail)
                go_wp2
                first
                  | (refine ⟨⟨j + 1, _, by omega, by go_num, P.drewN _⟩, (by first | (simp [intOf]; done) | (simp [intOf]; omega) | omega)⟩)
                  | (refine ⟨?_, (by first | (simp [intOf]; done) | (simp [intOf]; omega) | omega)⟩; (repeat apply Exists.intro); exact ⟨⟨j + 1, _, by omega, by go_num, P.drewN _⟩, rfl⟩)
          · have cE := Lib.hid (gend hl P1)
            have cH := Lib.hid (fun m => hend hl (P1.drewN m))
            generalize (if p < L.length then (13 : Int) else 0) = ev at cE cH
            go_wp2_with (first
              | ((go_at_call 44; ((with_reducible refine (cH.out m1).mono ?_); rintro e w' ⟨rfl, m2, rfl⟩)))
              | ((go_at_call 39; ((with_reducible refine (cE.out).mono ?_); rintro e w' ⟨rfl, m1, rfl⟩))))
            have P3 := P1.drewN (m1 + m2)
            try simp only [World.drewN_drewN]
            generalize World.drewN _ (m1 + m2) = W3 at P3 ⊢
            have a0 := P3.h0
            have a1 := P3.h1
            have a2 := P3.hp
            have hw0 : IntKind.i64.wrap ((L.length : Int) - ((p : Nat) : Int)) = (L.length : Int) - ((p : Nat) : Int) := by simp [IntKind.wrap, IntKind.bits]; omega
            go_quiet (first
              | ((go_at_call 37; refine Calls.quiet_of_same (gat (P3.drewN _))))
              | (go_at_call 38; refine Calls.quiet_of (gleft hl (P3.drewN _)))
              | fail)
            go_wp2
            first
              | (refine ⟨⟨j + 1, _, by omega, by go_num, P3.drewN _⟩, (by first | (simp [intOf]; done) | (simp [intOf]; omega) | omega)⟩)
              | (refine ⟨?_, (by first | (simp [intOf]; done) | (simp [intOf]; omega) | omega)⟩; (repeat apply Exists.intro); exact ⟨⟨j + 1, _, by omega, by go_num, P3.drewN _⟩, rfl⟩)
          · have k0 : decide (wh = 0) = false := decide_eq_false n0
            have k1 : decide (wh = 1) = false := decide_eq_false n1
            have k2 : decide (wh = 2) = false := decide_eq_false n2
            have k3 : decide (wh = 3) = false := decide_eq_false n3
            have k4 : (wh == 0) = false := by simpa using n0
            have k5 : (wh == 1) = false := by simpa using n1
            have k6 : (wh == 2) = false := by simpa using n2
            have k7 : (wh == 3) = false := by simpa using n3
            go_wp2
            have a0 := P1.h0
            have a1 := P1.h1
            have a2 := P1.hp
            have hw0 : IntKind.i64.wrap ((L.length : Int) - ((p : Nat) : Int)) = (L.length : Int) - ((p : Nat) : Int) := by simp [IntKind.wrap, IntKind.bits]; omega
            go_quiet (first
              | ((go_at_call 37; refine Calls.quiet_of_same (gat (P1.drewN _))))
              | (go_at_call 38; refine Calls.quiet_of (gleft hl (P1.drewN _)))
              | fail)
            go_wp2
            first
              | (refine ⟨⟨j + 1, _, by omega, by go_num, P1.drewN _⟩, (by first | (simp [intOf]; done) | (simp [intOf]; omega) | omega)⟩)
              | (refine ⟨?_, (by first | (simp [intOf]; done) | (simp [intOf]; omega) | omega)⟩; (repeat apply Exists.intro); exact ⟨⟨j + 1, _, by omega, by go_num, P1.drewN _⟩, rfl⟩)
        · obtain rfl : j = S.length := by omega
          have a0 := P.h0
          have a1 := P.h1
          have a2 := P.hp
          have hw0 : IntKind.i64.wrap ((L.length : Int) - ((p : Nat) : Int)) = (L.length : Int) - ((p : Nat) : Int) := by simp [IntKind.wrap, IntKind.bits]; omega
          have cE := Lib.hid (fun k => gend hl (P.drewN k))
          have cH := Lib.hid (fun k => hend hl (P.drewN k))
          generalize (if p < L.length then (13 : Int) else 0) = ev at cE cH
          replace P := Lib.hid P
          go_wp2
          go_quiet (first
            | ((go_at_call 37; refine Calls.quiet_of_same (gat (P.out.drewN _))))
            | (go_at_call 38; refine Calls.quiet_of (gleft hl (P.out.drewN _)))
            | (go_at_call 39; refine Calls.quiet_of (cE.out _))
            | (go_at_call 44; refine Calls.quiet_of (cH.out _))
            | fail)
          go_wp2
          go_ret
          exact ⟨by first | rfl | simp, (P.out.drewN _).acc⟩
end Go.Proofs.Ytkolpnilgpmoiaa.Pl
