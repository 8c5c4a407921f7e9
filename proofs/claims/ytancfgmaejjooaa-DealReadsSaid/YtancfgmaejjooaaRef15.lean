/- The document's notes: a note's block. -/
import Derived.Test.YtancfgmaejjooaaRef14
import Derived.Test.YtancfgmaejjooaaRef12
set_option linter.unusedVariables false
set_option linter.unusedSimpArgs false
namespace Go.Proofs.Ytancfgmaejjooaa
open Go.RowKit

section
variable {P : Program} {ops : Array Oper} {rest : List Oper} {o : Oper} {a : Act} {Q : Exit → Act → World → Prop} {w : World}
/-- Bytes are appended to bytes of the call's own. -/
theorem wpl_appB (hgd : o.guard = none) (s x : Operand) (ho : o.op = .call { callee := .builtin .append, args := #[s, x], argTypes := #[32, 32] })
    (base : Nat) (l xs : List UInt8) (v u : Value) (hs : a.eval s = v) (hown : w.ownsRow base 5 1 v l.length (l.map B)) (hx : a.eval x = u) (hu : Rep.byte.sl w u xs) (hb : l.length + xs.length ≤ 1000000) (hbase : base ≤ w.heap.size)
    (h : ∀ A c m w', Hid (m = (l ++ xs).length) → w'.ownsRow base 5 1 (.slice A m c) (l ++ xs).length ((l ++ xs).map B) → w.grownBy w' v.ownBlock → wpList Try.prog ops Q rest (a.put o.dst (.slice A m c)) w') :
    wpList Try.prog ops Q (o :: rest) a w := by
  obtain ⟨A, c, rfl, h1, h2, h3⟩ := hu
  refine wpl_append base 5 (.int .u8 0) 1 1 hgd s x 32 ho Try.underlying32 info5 rfl (by decide) (by decide) v l.length (l.map B) hs hown A xs.length c (xs.map B) hx (by simp) (byte_src h3) (B_one _) (by omega) hbase ?_
  intro v' w' h1 h2 _
  have h1' : w'.ownsRow base 5 1 v' (l ++ xs).length ((l ++ xs).map B) := by simpa using h1
  obtain ⟨A', c', rfl⟩ := own_slice h1'
  exact h A' c' _ w' (Lib.hid rfl) h1' h2
end

/-- Within Block: the note's box, and the bytes so far. -/
structure BkS (w W : World) (n : NoteD) (rv : Value) (v : Value) (l : List UInt8) : Prop where
  ext : Ext w W
  box : RowAt W w.heap.size #[U32 n.id, U32 n.age, U32 n.seq, I n.stripe, rv] 83
  own : W.ownsRow w.heap.size 5 1 v l.length (l.map B)
theorem BkS.ext' {w W W' : World} {n : NoteD} {rv : Value} {v : Value} {l : List UInt8} (h : BkS w W n rv v l) (he : Ext W W') : BkS w W' n rv v l := ⟨Ext.trans h.ext he, h.box.ext he, own_ext h.own he⟩
theorem BkS.app {w W W' : World} {n : NoteD} {rv : Value} {v v' : Value} {l l' : List UInt8} (h : BkS w W n rv v l) (hg : W.grownBy W' v.ownBlock) (ho : W'.ownsRow w.heap.size 5 1 v' l'.length (l'.map B)) : BkS w W' n rv v' l' := by
  have hgo := own_block h.own
  refine ⟨Below.grown h.ext hg h.ext.size (fun k e => (hgo k e).1), h.box.grownO hg (fun e => ?_), ho⟩
  obtain ⟨_, cur, h1⟩ := hgo _ e
  exact h1.ne h.box (by decide) rfl

theorem four_sl (w W : World) (n : Nat) (h : W = w.alloc (.cells (fourV n) 5)) : Rep.byte.sl W (.slice (some ⟨w.heap.size, 0, none⟩) 4 4) (numB n 4) ∧ Ext w W := by
  subst h
  have hB : BytesIn (w.alloc (.cells (fourV n) 5)) w.heap.size 5 (numB n 4) := heap_new _ _ _ rfl
  have := own_bytes (hB.own (base := 0) (Nat.zero_le _) (by rw [numB_len]; unfold Fit; decide))
  rw [numB_len] at this
  exact ⟨this, Ext.alloc (Ext.refl _) _⟩
theorem lit_own (w : World) (base : Nat) (hb : base ≤ w.heap.size) (l : List UInt8) (hl : Fit l.length) : (w.alloc (.cells (l.map B).toArray 5)).ownsRow base 5 1 (.slice (some ⟨w.heap.size, 0, none⟩) l.length l.length) l.length (l.map B) := by
  have hB : BytesIn (w.alloc (.cells (l.map B).toArray 5)) w.heap.size 5 l := heap_new _ _ _ rfl
  exact hB.own hb hl
theorem lit_sl (w : World) (l : List UInt8) (hl : Fit l.length) : Rep.byte.sl (w.alloc (.cells (l.map B).toArray 5)) (.slice (some ⟨w.heap.size, 0, none⟩) l.length l.length) l := own_bytes (lit_own w 0 (Nat.zero_le _) l hl)

theorem noteB_step (n : NoteD) (k : Nat) (h : k < n.recs.length) : noteB n (k + 1) = noteB n k ++ rcB n.recs[k] := by
  unfold noteB
  rw [List.take_succ_eq_append_getElem h, List.flatMap_append]
  simp
theorem laid_pad {pre l : List UInt8} (h : Laid pre l) : l = pad pre := h.2
theorem noteBytes_pad (n : NoteD) (hn : n.recs.length ≤ 16) : noteBytes n = putN (pad (noteB n n.recs.length)) 124 (overB 0 ((pad (noteB n n.recs.length)).take 124)) 4 := by
  rw [← laid_pad (laid4 n hn)]
  rfl

theorem ref_Four' (n : Nat) (w : World) (hn : n < 4294967296) :
    Calls Try.prog 195 #[U32 n] w fun e w' => ∃ A c, e = .returned (.slice A 4 c) ∧ Rep.byte.sl w' (.slice A 4 c) (numB n 4) ∧ Ext w w' :=
  (ref_Four n w hn).mono fun e w' ⟨h1, h2⟩ => ⟨_, _, h1, (four_sl _ _ _ h2).1, (four_sl _ _ _ h2).2⟩

set_option maxRecDepth 100000 in
set_option maxHeartbeats 2000000 in
theorem ref_nBlock (n : NoteD) (rv : Value) (w : World) (h : Rep.rc.sl w rv n.recs) (hi : n.id < 4294967296) (ha : n.age < 4294967296) (hq : n.seq < 4294967296) (hst : 0 ≤ n.stripe ∧ n.stripe < 256) (hr : n.recs.length ≤ 16) :
    Calls Try.prog 173 #[n.v rv] w fun e w' => ∃ g, e = .returned (.slice (some ⟨g, 0, none⟩) 128 128) ∧ w.heap.size ≤ g ∧ BytesIn w' g 5 (noteBytes n) ∧ Ext w w' := by
  obtain ⟨A, c, rfl, h1, h2, h3⟩ := h
  unfold Cap at h2
  have hst' : (UInt8.ofNat n.stripe.toNat).toNat = n.stripe.toNat := by rw [UInt8.toNat_ofNat']; omega
  have hrl' : (UInt8.ofNat n.recs.length).toNat = n.recs.length := by rw [UInt8.toNat_ofNat']; omega
  have HB5 : Hid (#[Value.int .u8 n.stripe, Value.int .u8 (n.recs.length : Int)] = ([UInt8.ofNat n.stripe.toNat, UInt8.ofNat n.recs.length].map B).toArray) := Lib.hid (by
    have : ((n.stripe.toNat : Nat) : Int) = n.stripe := by omega
    simp only [B, List.map_cons, List.map_nil, hst', hrl', this])
  obtain ⟨hs1, hs2⟩ := hst
  clear hst' hrl'
  go_enter Try.func173, Try.ntmps173
  go_wp2_with fail
  refine (ref_Four' n.id _ hi).mono ?_
  rintro e w1 ⟨A1, c1, rfl, hsl1, he1⟩
  have S1 : BkS w w1 n (.slice A n.recs.length c) (.slice (some ⟨w.heap.size + 1, 0, none⟩) 1 1) [78] := by
    refine BkS.ext' ⟨Ext.alloc (Ext.alloc (Ext.refl _) _) _, ?_, ?_⟩ he1
    · exact (RowAt.newAt w _ _ rfl).ext (Ext.alloc (Ext.refl _) _)
    · have h9 := lit_own (w.alloc (.cells #[U32 n.id, U32 n.age, U32 n.seq, I n.stripe, .slice A n.recs.length c] 83)) w.heap.size (by simp) [78] (by unfold Fit; decide)
      rw [World.size_alloc] at h9
      exact h9
  clear he1
  have b1 := S1.box.cell 1
  have b2 := S1.box.cell 2
  have b3 := S1.box.cell 3
  have b4 := S1.box.cell 4
  simp at b1 b2 b3 b4
  go_wp2_with (at_builtin; refine wpl_appB rfl _ _ rfl w.heap.size _ (numB n.id 4) _ _ rfl S1.own rfl hsl1 (by simp [numB_len]) S1.ext.size ?_; intro A1' c1' m1 w1' Hm1 hown1 hg1; have S1' := S1.app hg1 hown1; have b1 := S1'.box.cell 1; have b2 := S1'.box.cell 2; have b3 := S1'.box.cell 3; have b4 := S1'.box.cell 4; simp at b1 b2 b3 b4)
  refine (ref_Four' n.age _ ha).mono ?_
  rintro e w2 ⟨A2, c2, rfl, hsl2, he2⟩
  have S2 := S1'.ext' he2
  clear b1 b2 b3 b4
  have b1 := S2.box.cell 1
  have b2 := S2.box.cell 2
  have b3 := S2.box.cell 3
  have b4 := S2.box.cell 4
  simp at b1 b2 b3 b4
  go_wp2_with (at_builtin; refine wpl_appB rfl _ _ rfl w.heap.size _ (numB n.age 4) _ _ rfl S2.own rfl hsl2 (by simp [numB_len]) S2.ext.size ?_; intro A2' c2' m2 w2' Hm2 hown2 hg2; have S2' := S2.app hg2 hown2; have b1 := S2'.box.cell 1; have b2 := S2'.box.cell 2; have b3 := S2'.box.cell 3; have b4 := S2'.box.cell 4; simp at b1 b2 b3 b4)
  refine (ref_Four' n.seq _ hq).mono ?_
  rintro e w3 ⟨A3, c3, rfl, hsl3, he3⟩
  have S3 := S2'.ext' he3
  clear b1 b2 b3 b4
  have b1 := S3.box.cell 1
  have b2 := S3.box.cell 2
  have b3 := S3.box.cell 3
  have b4 := S3.box.cell 4
  simp at b1 b2 b3 b4
  go_wp2_with (first
    | (at_builtin; refine wpl_appB rfl _ _ rfl w.heap.size _ (numB n.seq 4) _ _ rfl S3.own rfl hsl3 (by simp [numB_len]) S3.ext.size ?_; intro A3' c3' m3 w3' Hm3 hown3 hg3; have S3' := S3.app hg3 hown3; have b1 := S3'.box.cell 1; have b2 := S3'.box.cell 2; have b3 := S3'.box.cell 3; have b4 := S3'.box.cell 4; simp at b1 b2 b3 b4)
    | (at_builtin; refine wpl_appB rfl _ _ rfl w.heap.size _ [UInt8.ofNat n.stripe.toNat, UInt8.ofNat n.recs.length] _ _ rfl (S3'.ext' (Ext.alloc (Ext.refl _) _)).own rfl (by have := lit_sl w3' [UInt8.ofNat n.stripe.toNat, UInt8.ofNat n.recs.length] (by unfold Fit; simp); rw [← HB5.out] at this; exact this) (by simp [numB_len]) (S3'.ext' (Ext.alloc (Ext.refl _) _)).ext.size ?_; intro A4' c4' m4 w4' Hm4 hown4 hg4; have S4' := (S3'.ext' (Ext.alloc (Ext.refl _) _)).app hg4 hown4; have b4 := S4'.box.cell 4; simp at b4))
  have S0 : BkS w w4' n (.slice A n.recs.length c) (.slice A4' m4 c4') (noteB n 0) := by
    have e : noteB n 0 = [78] ++ numB n.id 4 ++ numB n.age 4 ++ numB n.seq 4 ++ [UInt8.ofNat n.stripe.toNat, UInt8.ofNat n.recs.length] := by simp [noteB]
    rw [e]
    exact S4'
  clear hsl1 S1 hsl2 S2 hsl3 S3 S1' S2' S3' S4' hown1 hown2 hown3 hown4 hg1 hg2 hg3 hg4 he2 he3 Hm1 Hm2 Hm3 Hm4 b1 b2 b3 b4 HB5
  go_loopw [3, 4] (fun v i wr => ∃ k : Nat, k ≤ n.recs.length ∧ i = .int .i64 k ∧ (∃ vA m vc, v = .slice vA m vc) ∧ BkS w wr n (.slice A n.recs.length c) v (noteB n k)) (fun _ i _ => n.recs.length - (intOf i).toNat)
  case atStart => exact ⟨0, Nat.zero_le _, rfl, ⟨_, _, _, rfl⟩, S0⟩
  case round =>
    obtain ⟨k, hk, rfl, ⟨vA, m, vc, rfl⟩, S⟩ := hrel
    clear S0
    have b4 := S.box.cell 4
    simp at b4
    by_cases hlt : k < n.recs.length
    · obtain ⟨b, off, rfl, hc⟩ := rc_at h3 (by omega)
      obtain ⟨C0, C1, C2, hsum⟩ := hc k hlt
      have hst := noteB_step n k hlt
      have hnl := noteB_len n k (by omega)
      obtain ⟨x, hx⟩ : ∃ x, x = n.recs[k] := ⟨_, rfl⟩
      rw [← hx] at C0 C1 C2 hsum hst
      have Hst := Lib.hid hst
      have Hnl := Lib.hid hnl
      obtain ⟨bb, hbb⟩ : ∃ bb, bb = x.bare := ⟨_, rfl⟩
      rw [← hbb] at C1
      have Hbb := Lib.hid hbb
      clear hc hx hst hnl h3 hbb
      cases bb
      · have hsl : Rep.byte.sl (wr.alloc (.cells #[B x.slot, .int .u8 0] 5)) (.slice (some ⟨wr.heap.size, 0, none⟩) 2 2) [x.slot, if x.bare then 1 else 0] := by
          rw [← Hbb.out]
          exact lit_sl wr [x.slot, 0] (by unfold Fit; simp)
        have k0 := S.ext.cells C0
        have k1 := S.ext.cells C1
        go_wp2_with (at_builtin; refine wpl_appB rfl _ _ rfl w.heap.size _ [x.slot, if x.bare then 1 else 0] _ _ rfl (S.ext' (Ext.alloc (Ext.refl _) _)).own rfl hsl (by rw [Hnl.out]; simp; omega) (S.ext' (Ext.alloc (Ext.refl _) _)).ext.size ?_; intro A5 c5 m5 w5 Hm5 hown5 hg5; have S5 := (S.ext' (Ext.alloc (Ext.refl _) _)).app hg5 hown5; have k2 := S5.ext.cells C2; have b5 := S5.box.cell 4; simp at b5)
        refine (ref_Four' x.sum _ hsum).mono ?_
        rintro e w6 ⟨A6, c6, rfl, hsl6, he6⟩
        have S6 := S5.ext' he6
        clear k0 k1 k2 b4 b5
        go_wp2_with (at_builtin; refine wpl_appB rfl _ _ rfl w.heap.size _ (numB x.sum 4) _ _ rfl S6.own rfl hsl6 (by rw [List.length_append, Hnl.out]; simp [numB_len]; omega) S6.ext.size ?_; intro A7 c7 m7 w7 Hm7 hown7 hg7; have S7 := S6.app hg7 hown7)
        go_roundw
        case rel =>
          refine ⟨k + 1, by omega, by go_num, ⟨_, _, _, rfl⟩, ?_⟩
          rw [Hst.out]
          unfold rcB
          rw [← List.append_assoc]
          exact S7
        case measure => simp [intOf]; omega
      · have hsl : Rep.byte.sl (wr.alloc (.cells #[B x.slot, .int .u8 1] 5)) (.slice (some ⟨wr.heap.size, 0, none⟩) 2 2) [x.slot, if x.bare then 1 else 0] := by
          rw [← Hbb.out]
          exact lit_sl wr [x.slot, 1] (by unfold Fit; simp)
        have k0 := S.ext.cells C0
        have k1 := S.ext.cells C1
        go_wp2_with (at_builtin; refine wpl_appB rfl _ _ rfl w.heap.size _ [x.slot, if x.bare then 1 else 0] _ _ rfl (S.ext' (Ext.alloc (Ext.refl _) _)).own rfl hsl (by rw [Hnl.out]; simp; omega) (S.ext' (Ext.alloc (Ext.refl _) _)).ext.size ?_; intro A5 c5 m5 w5 Hm5 hown5 hg5; have S5 := (S.ext' (Ext.alloc (Ext.refl _) _)).app hg5 hown5; have k2 := S5.ext.cells C2; have b5 := S5.box.cell 4; simp at b5)
        refine (ref_Four' x.sum _ hsum).mono ?_
        rintro e w6 ⟨A6, c6, rfl, hsl6, he6⟩
        have S6 := S5.ext' he6
        clear k0 k1 k2 b4 b5
        go_wp2_with (at_builtin; refine wpl_appB rfl _ _ rfl w.heap.size _ (numB x.sum 4) _ _ rfl S6.own rfl hsl6 (by rw [List.length_append, Hnl.out]; simp [numB_len]; omega) S6.ext.size ?_; intro A7 c7 m7 w7 Hm7 hown7 hg7; have S7 := S6.app hg7 hown7)
        go_roundw
        case rel =>
          refine ⟨k + 1, by omega, by go_num, ⟨_, _, _, rfl⟩, ?_⟩
          rw [Hst.out]
          unfold rcB
          rw [← List.append_assoc]
          exact S7
        case measure => simp [intOf]; omega
    · obtain rfl : k = n.recs.length := by omega
      have hnl := noteB_len n n.recs.length (Nat.le_refl _)
      have Hnb := Lib.hid (noteBytes_pad n hr)
      have Hnl : Hid ((noteB n n.recs.length).length ≤ 128) := Lib.hid (by rw [hnl]; omega)
      have hsl := own_bytes S.own
      clear hnl
      go_wp2_with (go_at_call 196; refine (ref_Sealed _ (noteB n n.recs.length) _ hsl Hnl.out).mono ?_; rintro e w9 ⟨g, rfl, hg, hB, he9⟩)
      go_ret
      exact ⟨g, rfl, Nat.le_trans S.ext.size hg, by rw [Hnb.out]; exact hB, Ext.trans S.ext he9⟩

end Go.Proofs.Ytancfgmaejjooaa
