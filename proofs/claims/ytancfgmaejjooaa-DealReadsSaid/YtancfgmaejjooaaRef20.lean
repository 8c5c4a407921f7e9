/- The document's deals: what stands at a place. -/
import Derived.Test.YtancfgmaejjooaaRef19
set_option linter.unusedVariables false
set_option linter.unusedSimpArgs false
namespace Go.Proofs.Ytancfgmaejjooaa
open Go.RowKit

set_option maxRecDepth 100000 in
set_option maxHeartbeats 8000000 in
theorem ref_Stands (c : Cfg) (d : Dk) (bv wv : Value) (at_ : Nat) (w : World) (h : DkAt w bv wv d) (hc : c.may = true) (hm : d.may = true) (hlen : (d.blocks.length : Int) = c.log + 1) (hat : (at_ : Int) < c.log) :
    Calls Try.prog 71 #[c.v, d.v bv wv, I at_] w fun e w' => StPost c d at_ e w' ∧ Ext w w' := by
  have h0 := h
  have hl := may_log hc
  have hbl : ∀ i, (ringB c d at_ i).length = 128 := fun i => seen_len d hm _ (by
    have := Nat.mod_lt (at_ + i) (show 0 < c.log.toNat by omega)
    omega)
  have hr0 := fun w1 (he : Ext w w1) => ref_AtRing c d bv wv at_ 0 w1 (h0.ext he) hc hm hlen (by omega) (by omega)
  have hri := fun k (hk : k < 999) w1 (he : Ext w w1) => ref_AtRing c d bv wv at_ (k + 1) w1 (h0.ext he) hc hm hlen (by omega) (by omega)
  obtain ⟨bs, hbs⟩ : ∃ bs, bs = ringB c d at_ := ⟨_, rfl⟩
  obtain ⟨n, hn⟩ : ∃ n, n = noteRef (bs 0) := ⟨_, rfl⟩
  have HP0 : Hid (∀ e w', (if (decide (n.may = true ∧ noteBytes n = bs 0 ∧ n.id = c.id) && standsTo c n bs n.recs.length) = true then ∃ sv bv pv base, e = .returned (.tuple #[.agg #[U32 n.age, U32 n.seq, I n.stripe, sv, bv, pv], I ((1 + n.recs.length : Nat) : Int)]) ∧ OwnDl base w' sv bv pv (dealTo n.stripe n.recs bs n.recs.length) else e = .returned (.tuple #[.agg zeroF, I 0])) → StPost c d at_ e w') := Lib.hid (fun e w' k => by
    unfold StPost standsRef
    rw [hn, hbs] at k
    exact k)
  rw [← hbs] at hbl hr0
  simp only [← hbs] at hri
  have Hbl := Lib.hid hbl
  have Hr0 := Lib.hid hr0
  have Hri := Lib.hid hri
  have Hn := Lib.hid hn
  have Hc := Lib.hid hc
  have hrn : n.recs.length ≤ 16 := by rw [hn]; simp [noteRef]; omega
  have hn1 : n.id < 4294967296 ∧ n.age < 4294967296 ∧ n.seq < 4294967296 := by rw [hn]; exact ⟨takeN_lt _ _ 4, takeN_lt _ _ 4, takeN_lt _ _ 4⟩
  obtain ⟨⟨A, c1, rfl, a1, a2, a3⟩, ⟨A', c1', rfl, b1, b2, b3⟩⟩ := h
  clear hbs hbl hr0 hri hn hc hm hlen hat hl a3 b3 h0
  go_enter Try.func71, Try.ntmps71
  go_wp2_with fail
  refine (Hr0.out _ (by repeat (first | exact Below.refl _ _ | assumption | refine Ext.alloc ?_ _ | refine Ext.drew ?_ | refine Ext.trans ?_ (by assumption)))).mono ?_
  rintro e w1 ⟨v, rfl, ho, he1⟩
  obtain ⟨vA, vc, rfl⟩ := own_slice ho
  have hsl := own_bytes ho
  have hz1 := he1.size
  simp only [World.size_alloc] at hz1
  obtain ⟨hc1, hf1⟩ := bcell he1
  have hE1 : Ext w w1 := (by repeat (first | exact Below.refl _ _ | assumption | refine Ext.alloc ?_ _ | refine Ext.drew ?_ | refine Ext.trans ?_ (by assumption)))
  have R0 : RowAt w1 w.heap.size c.row 24 := (((RowAt.newAt w _ _ rfl).ext (Ext.alloc (Ext.refl _) _)).ext (Ext.alloc (Ext.refl _) _)).ext he1
  have R1 : RowAt w1 (w.heap.size + 1) (d.row (.slice A d.blocks.length c1) (.slice A' d.wait.length c1')) 28 := ((RowAt.newAt (w.alloc _) _ _ (by simp)).ext (Ext.alloc (Ext.refl _) _)).ext he1
  have R2 : RowAt w1 (w.heap.size + 1 + 1) zeroF 36 := (RowAt.newAt ((w.alloc _).alloc _) _ _ (by simp)).ext he1
  go_wp2_with fail
  refine (ref_nRead _ (bs 0) _ hsl (block_full (Hbl.out 0))).mono ?_
  rintro e w2 ⟨hP, he2⟩
  rw [pad_full (Hbl.out 0)] at hP
  clear ho hsl hc1 hf1
  replace R0 := R0.ext he2
  replace R1 := R1.ext he2
  replace R2 := R2.ext he2
  replace hE1 := Ext.trans hE1 he2
  unfold RNPost at hP
  rw [← Hn.out] at hP
  have r0 := R2.cell 0
  have r1 := R2.cell 1
  have r2 := R2.cell 2
  have r3 := R2.cell 3
  have r4 := R2.cell 4
  have r5 := R2.cell 5
  have rf0 := R2.free 0
  have rf1 := R2.free 1
  have rf2 := R2.free 2
  have rf3 := R2.free 3
  have rf4 := R2.free 4
  have rf5 := R2.free 5
  simp [zeroF] at r0 r1 r2 r3 r4 r5
  have i0 := R0.cell 0
  simp at i0
  have hy0 : w.heap.size < w2.heap.size := R0.lt
  have hy1 : w.heap.size + 1 < w2.heap.size := R1.lt
  have hy2 : w.heap.size + 1 + 1 < w2.heap.size := R2.lt
  clear hz1
  by_cases hg : n.may = true ∧ noteBytes n = bs 0
  · rw [if_pos hg] at hP
    have Hg := Lib.hid hg
    clear hg
    obtain ⟨rv, rfl, hrs⟩ := hP
    by_cases hid : n.id = c.id
    · skip
      have hidI : (n.id : Int) = (c.id : Int) := by omega
      have HidE := Lib.hid hid
      clear hid
      obtain ⟨A3, c3, rfl, hr1, hr2, hr3⟩ := hrs
      go_upto_region 4 with fail
      clear hidI r0 r1 r2 r3 r4 r5 rf0 rf1 rf2 rf3 rf4 rf5 i0 hr2
      obtain ⟨w3, hw3⟩ : ∃ w3, w3 = w2.alloc (.cells #[U32 c.id, U32 n.age, U32 n.seq, I n.stripe, .slice A3 n.recs.length c3] 83) := ⟨_, rfl⟩
      have e23 : Ext w2 w3 := by rw [hw3]; exact Ext.alloc (Ext.refl _) _
      have RN : RowAt w3 w2.heap.size #[U32 c.id, U32 n.age, U32 n.seq, I n.stripe, .slice A3 n.recs.length c3] 83 := by rw [hw3]; exact RowAt.new _ _ _
      obtain ⟨nb, hnb⟩ : ∃ nb, nb = w2.heap.size := ⟨_, rfl⟩
      rw [← hw3]
      rw [← hnb] at RN ⊢
      replace R0 := R0.ext e23
      replace R1 := R1.ext e23
      replace R2 := R2.ext e23
      have hE3 := Ext.trans hE1 e23
      replace hr3 := hr3.ext e23
      clear hw3 hy0 hy1 hy2 he1 he2 hE1 e23 hnb
      have n1 := RN.cell 1
      have n2 := RN.cell 2
      have n3 := RN.cell 3
      simp at n1 n2 n3
      obtain ⟨fb, hfb⟩ : ∃ fb, fb = w3.heap.size := ⟨_, rfl⟩
      go_wp2
      have S0 : StS w3 (w3.alloc (.cells #[U32 n.age, U32 n.seq, I n.stripe, .slice none 0 0, .slice none 0 0, .slice none 0 0] 36)) fb n.age n.seq n.stripe (.slice none 0 0) (.slice none 0 0) (.slice none 0 0) (dealTo n.stripe n.recs bs 0) := by
        refine ⟨Ext.alloc (Ext.refl _) _, RowAt.newAt _ _ _ hfb, ⟨World.ownsRow_nil _ _ _ _, OwnB.nil _ _, .inl ⟨rfl, rfl⟩⟩, by omega⟩
      rw [← hfb]
      generalize w3.alloc _ = w4 at S0 ⊢
      clear hfb n1 n2 n3
      go_loopw [11] (fun i wr => ∃ k : Nat, k ≤ n.recs.length ∧ i = .int .i64 k ∧ RowKit.Hid (goodTo n.recs bs k = true) ∧ ∃ sv bv pv, StS w3 wr fb n.age n.seq n.stripe sv bv pv (dealTo n.stripe n.recs bs k)) (fun i _ => n.recs.length - (intOf i).toNat)
      case atStart => exact ⟨0, Nat.zero_le _, rfl, Lib.hid rfl, _, _, _, S0⟩
      case round =>
        obtain ⟨k, hk, rfl, Hto, sv, lv, pv, S⟩ := hrel
        clear S0
        have n4 := (RN.ext S.ext).cell 4
        simp at n4
        have g0 := (R0.ext S.ext).cell 0
        have g1 := (R0.ext S.ext).cell 1
        have g2 := (R0.ext S.ext).cell 2
        have g3 := (R0.ext S.ext).cell 3
        have g4 := (R0.ext S.ext).cell 4
        have g5 := (R0.ext S.ext).cell 5
        have d0 := (R1.ext S.ext).cell 0
        have d1 := (R1.ext S.ext).cell 1
        have d2 := (R1.ext S.ext).cell 2
        simp at g0 g1 g2 g3 g4 g5 d0 d1 d2
        by_cases hlt : k < n.recs.length
        · obtain ⟨b, off, rfl, hcr⟩ := rc_at hr3 (by omega)
          obtain ⟨C0, C1, C2, hsum⟩ := hcr k hlt
          have hra : recAt n.recs k = n.recs[k] := by unfold recAt; rw [List.getD_eq_getElem?_getD, List.getElem?_eq_getElem hlt]; rfl
          obtain ⟨r, hr⟩ : ∃ r, r = n.recs[k] := ⟨_, rfl⟩
          rw [← hr] at C0 C1 C2 hsum hra
          have Hrec := Lib.hid hra
          have q1 : IntKind.i64.wrap ((k : Int) + 1) = (k : Int) + 1 := IntWalk.i64_in _ (by omega)
          have hcall := Hri.out k (by omega) wr (Ext.trans hE3 S.ext)
          rw [show ((k + 1 : Nat) : Int) = (k : Int) + 1 by omega] at hcall
          have hbw3 : b < w3.heap.size := World.block_lt_of_cell? _ _ C0
          clear hcr hr hra hr3
          go_wp2_with fail
          refine hcall.mono ?_
          rintro e wa ⟨va, rfl, hoa, ea⟩
          obtain ⟨aA, ac, rfl⟩ := own_slice hoa
          have hsa := own_bytes hoa
          clear hcall g0 g1 g2 g3 g4 g5 d0 d1 d2 n4
          go_wp2_with fail
          refine (ref_Whole _ (bs (k + 1)) wa hsa (by rw [Hbl.out]; decide)).mono ?_
          rintro e wb ⟨rfl, hB, eb⟩
          rw [pad_full (Hbl.out _)] at hB
          obtain ⟨gb, hgb⟩ : ∃ gb, gb = wa.heap.size := ⟨_, rfl⟩
          have hga : wr.heap.size ≤ gb := by rw [hgb]; exact ea.size
          have hg3 : w3.heap.size ≤ gb := Nat.le_trans S.ext.size hga
          rw [← hgb] at hB ⊢
          have HB := Lib.hid hB
          have E10 : Ext w3 wb := Ext.trans S.ext (Ext.trans ea eb)
          have hslb : Rep.byte.sl wb (.slice (some ⟨gb, 0, none⟩) 128 128) (bs (k + 1)) := by
            have := own_bytes (hB.own (base := 0) (Nat.zero_le _) (by rw [Hbl.out]; unfold Fit; decide))
            rwa [Hbl.out] at this
          have n4 := (RN.ext E10).cell 4
          simp at n4
          have z0 := E10.cells C0
          have z1 := E10.cells C1
          have z2 := E10.cells C2
          have yc := hB.cell 0 (by rw [Hbl.out]; decide)
          obtain ⟨y, hy⟩ : ∃ y : Int, y = (((bs (k + 1)).getD 0 0).toNat : Int) := ⟨_, rfl⟩
          have hy0 : (((bs (k + 1))[0]'(by rw [Hbl.out]; decide)).toNat : Int) = y := by
            rw [hy, List.getD_eq_getElem?_getD, List.getElem?_eq_getElem (by rw [Hbl.out]; decide)]
            rfl
          replace yc : wb.cell? ⟨gb, 0, none⟩ = some (.int .u8 y) := by rw [← hy0]; exact yc
          have Hy0 : RowKit.Hid (y = (((bs (k + 1))[0]'(by rw [Hbl.out]; decide)).toNat : Int)) := Lib.hid hy0.symm
          obtain ⟨si, hsi⟩ : ∃ si : Int, si = (overB 0 (bs (k + 1)) : Int) := ⟨_, rfl⟩
          obtain ⟨ri, hri⟩ : ∃ ri : Int, ri = (r.sum : Int) := ⟨_, rfl⟩
          replace z2 : wb.cell? ⟨b, off + k * 3 + 2, none⟩ = some (.int .u32 ri) := by rw [hri]; exact z2
          have Hsum : RowKit.Hid (∀ W, Ext wb W → Calls Try.prog 124 #[.slice (some ⟨gb, 0, none⟩) 128 128] W fun e w' => e = .returned (.int .u32 si) ∧ W = w') := Lib.hid (fun W h => by rw [hsi]; exact ref_Sum _ _ _ (hslb.ext h))
          have HG0 := Lib.hid (recGood_of r (bs (k + 1)) y si ri hy hsi hri)
          have Hbadto : RowKit.Hid (recGood r (bs (k + 1)) = false → goodTo n.recs bs n.recs.length = false) := Lib.hid (fun h => goodTo_no (k := k) (by rw [Hrec.out]; exact h) hlt)
          obtain ⟨bare, hbare⟩ : ∃ x, x = r.bare := ⟨_, rfl⟩
          rw [← hbare] at z1 HG0
          have Hbare := Lib.hid hbare
          obtain ⟨z, hz⟩ : ∃ z : Int, z = (r.slot.toNat : Int) := ⟨_, rfl⟩
          replace z0 : wb.cell? ⟨b, off + k * 3, none⟩ = some (.int .u8 z) := by rw [hz]; exact z0
          replace C0 : w3.cell? ⟨b, off + k * 3, none⟩ = some (.int .u8 z) := by rw [hz]; exact C0
          have Hz := Lib.hid hz
          have hzb : 0 ≤ z ∧ z < 256 := by have := r.slot.toNat_lt; omega
          clear hB hslb hy hy0 hsi hri hbare hz hsa hoa hgb
          go_upto_region 10 with fail
          by_cases h1 : si = ri
          rotate_left
          · have Hbad : RowKit.Hid (goodTo n.recs bs n.recs.length = false) := Lib.hid (Hbadto.out (by rw [HG0.out]; simp [h1]))
            refine wp_lexi (by kernel_rfl) rfl [(0, false, []), (3, true, []), (0, false, []), (1, true, []), (0, false, []), (0, false, []), (0, false, []), (1, true, []), (0, false, []), (0, false, []), (0, false, []), (0, false, []), (1, true, []), (0, false, []), (0, false, []), (0, false, []), (0, false, []), (0, false, []), (0, false, []), (0, false, []), (1, true, []), (0, false, []), (0, false, []), (0, false, []), (0, true, [])] (by kernel_rfl) (fun _ _ v _ => v = .int .u32 si) ?_
            intro lL lT lP lQ HL HT HP HQ
            refine EWi.pure (by rw [HL.out]; rfl) (by rw [HT.out]; rfl) rfl ?_; intro w0; unfold runPlain; simp [go_sem]
            refine EWi.call (by rw [HL.out]; rfl) (by rw [HT.out]; rfl) rfl ?_ ?_
            · intro w0 h0
              unfold runOp
              simp [go_sem]
              rw [HP.out]
              refine (Hsum.out w0 h0.ext).mono ?_
              rintro e w1' ⟨rfl, rfl⟩
              exact ⟨_, rfl, Ext.refl _, rfl⟩
            intro x1 u1 x1' h1' he1' hp
            rw [HP.out] at hp
            obtain rfl : u1 = .int .u32 si := hp
            refine EWi.pure (by rw [HL.out]; rfl) (by rw [HT.out]; rfl) rfl ?_; intro w0; unfold runPlain; simp [go_sem, hlt]
            refine EWi.read (by rw [HL.out]; rfl) (by rw [HT.out]; rfl) rfl ?_; intro w0 h0; have e0 := h0.ext; have x0 := e0.cells n4; have x1 := e0.cells z2; unfold runPlain; simp [go_sem, x0, x1, hlt]; refine ⟨(by repeat (first | exact Below.refl _ _ | assumption | refine Ext.alloc ?_ _ | refine Ext.drew ?_ | refine Ext.trans ?_ (by assumption))), ?_⟩; clear e0 h0 x0 x1
            iterate 3 (refine EWi.pure (by rw [HL.out]; rfl) (by rw [HT.out]; rfl) rfl ?_; intro w0; unfold runPlain; simp [go_sem, hlt])
            refine EWi.read (by rw [HL.out]; rfl) (by rw [HT.out]; rfl) rfl ?_; intro w0 h0; have e0 := h0.ext; have x0 := e0.cells n4; have x1 := e0.cells z2; unfold runPlain; simp [go_sem, x0, x1, hlt]; refine ⟨(by repeat (first | exact Below.refl _ _ | assumption | refine Ext.alloc ?_ _ | refine Ext.drew ?_ | refine Ext.trans ?_ (by assumption))), ?_⟩; clear e0 h0 x0 x1
            refine EWi.pure (by rw [HL.out]; rfl) (by rw [HT.out]; rfl) rfl ?_; intro w0; unfold runPlain; simp [go_sem, h1]
            refine EWi.pure (by rw [HL.out]; rfl) (by rw [HT.out]; rfl) rfl ?_; intro w0; unfold runPlain; simp [go_sem, h1]
            iterate 4 (refine EWi.no (by rw [HL.out]; rfl) (by rw [HT.out]; rfl) (by simp [wantedV, upd, boolOf_undef, boolOf_bool, h1]) ?_; intro w0; simp [go_sem])
            refine EWi.pure (by rw [HL.out]; rfl) (by rw [HT.out]; rfl) rfl ?_; intro w0; unfold runPlain; simp [go_sem, h1]
            refine EWi.pure (by rw [HL.out]; rfl) (by rw [HT.out]; rfl) rfl ?_; intro w0; unfold runPlain; simp [go_sem, h1]
            iterate 7 (refine EWi.no (by rw [HL.out]; rfl) (by rw [HT.out]; rfl) (by simp [wantedV, upd, boolOf_undef, boolOf_bool, h1]) ?_; intro w0; simp [go_sem])
            refine EWi.pure (by rw [HL.out]; rfl) (by rw [HT.out]; rfl) rfl ?_; intro w0; unfold runPlain; simp [go_sem, h1]
            refine EWi.fin (by rw [HL.out]; rfl) (by rw [HT.out]; rfl) (by rw [HT.out]; rfl) ?_
            intro W hW
            rw [HQ.out]
            have eW : Ext w3 W := Ext.trans E10 hW.ext
            have r0 := (R2.ext eW).cell 0
            have r1 := (R2.ext eW).cell 1
            have r2 := (R2.ext eW).cell 2
            have r3 := (R2.ext eW).cell 3
            have r4 := (R2.ext eW).cell 4
            have r5 := (R2.ext eW).cell 5
            have rf0 := (R2.ext eW).free 0
            have rf1 := (R2.ext eW).free 1
            have rf2 := (R2.ext eW).free 2
            have rf3 := (R2.ext eW).free 3
            have rf4 := (R2.ext eW).free 4
            have rf5 := (R2.ext eW).free 5
            simp [zeroF] at r0 r1 r2 r3 r4 r5
            clear yc n4 z0 z1 z2
            go_wp2
            obtain ⟨t1, t2⟩ := res_put (R2.ext eW) (Ext.trans hE3 eW) (Nat.le_add_right _ 2) (.int .u32 0) (.int .u32 0) (.int .i64 0) (.slice none 0 0) (.slice none 0 0) (.slice none 0 0)
            refine bodyPost_ret (results_cell_tmp rfl _ _ (w.heap.size + 1 + 1) 36 _ _ _ rfl t1 Try.underlying36 rfl size36) rfl ?_
            exact ⟨HP0.out _ _ (by rw [if_neg (by simp [standsTo, Hbad.out])]; rfl), t2⟩
          by_cases h2 : y = 78
          · have Hbad : RowKit.Hid (goodTo n.recs bs n.recs.length = false) := Lib.hid (Hbadto.out (by rw [HG0.out]; simp [h2]))
            refine wp_lexi (by kernel_rfl) rfl [(0, false, []), (3, true, []), (0, false, []), (1, true, []), (0, false, []), (0, false, []), (0, false, []), (1, true, []), (0, false, []), (0, false, []), (0, false, []), (0, false, []), (1, true, []), (0, false, []), (0, false, []), (0, false, []), (0, false, []), (0, false, []), (0, false, []), (0, false, []), (1, true, []), (0, false, []), (0, false, []), (0, false, []), (0, true, [])] (by kernel_rfl) (fun _ _ v _ => v = .int .u32 si) ?_
            intro lL lT lP lQ HL HT HP HQ
            refine EWi.pure (by rw [HL.out]; rfl) (by rw [HT.out]; rfl) rfl ?_; intro w0; unfold runPlain; simp [go_sem]
            refine EWi.call (by rw [HL.out]; rfl) (by rw [HT.out]; rfl) rfl ?_ ?_
            · intro w0 h0
              unfold runOp
              simp [go_sem]
              rw [HP.out]
              refine (Hsum.out w0 h0.ext).mono ?_
              rintro e w1' ⟨rfl, rfl⟩
              exact ⟨_, rfl, Ext.refl _, rfl⟩
            intro x1 u1 x1' h1' he1' hp
            rw [HP.out] at hp
            obtain rfl : u1 = .int .u32 si := hp
            refine EWi.pure (by rw [HL.out]; rfl) (by rw [HT.out]; rfl) rfl ?_; intro w0; unfold runPlain; simp [go_sem, hlt]
            refine EWi.read (by rw [HL.out]; rfl) (by rw [HT.out]; rfl) rfl ?_; intro w0 h0; have e0 := h0.ext; have x0 := e0.cells n4; have x1 := e0.cells z2; unfold runPlain; simp [go_sem, x0, x1, hlt]; refine ⟨(by repeat (first | exact Below.refl _ _ | assumption | refine Ext.alloc ?_ _ | refine Ext.drew ?_ | refine Ext.trans ?_ (by assumption))), ?_⟩; clear e0 h0 x0 x1
            iterate 3 (refine EWi.pure (by rw [HL.out]; rfl) (by rw [HT.out]; rfl) rfl ?_; intro w0; unfold runPlain; simp [go_sem, hlt])
            refine EWi.read (by rw [HL.out]; rfl) (by rw [HT.out]; rfl) rfl ?_; intro w0 h0; have e0 := h0.ext; have x0 := e0.cells n4; have x1 := e0.cells z2; unfold runPlain; simp [go_sem, x0, x1, hlt]; refine ⟨(by repeat (first | exact Below.refl _ _ | assumption | refine Ext.alloc ?_ _ | refine Ext.drew ?_ | refine Ext.trans ?_ (by assumption))), ?_⟩; clear e0 h0 x0 x1
            refine EWi.pure (by rw [HL.out]; rfl) (by rw [HT.out]; rfl) rfl ?_; intro w0; unfold runPlain; simp [go_sem, h1, h2]
            refine EWi.pure (by rw [HL.out]; rfl) (by rw [HT.out]; rfl) rfl ?_; intro w0; unfold runPlain; simp [go_sem, h1, h2]
            refine EWi.pure (by rw [HL.out]; rfl) (by rw [HT.out]; rfl) (by simp [wantedV, upd, boolOf_undef, boolOf_bool, h1, h2]) ?_; intro w0; unfold runPlain; simp [go_sem, h1, h2]
            refine EWi.pure (by rw [HL.out]; rfl) (by rw [HT.out]; rfl) (by simp [wantedV, upd, boolOf_undef, boolOf_bool, h1, h2]) ?_; intro w0; unfold runPlain; simp [go_sem, h1, h2]
            refine EWi.read (by rw [HL.out]; rfl) (by rw [HT.out]; rfl) (by simp [wantedV, upd, boolOf_undef, boolOf_bool, h1, h2]) ?_; intro w0 h0; have e0 := h0.ext; have x0 := e0.cells yc; unfold runPlain; simp [go_sem, x0, h1, h2]; refine ⟨(by repeat (first | exact Below.refl _ _ | assumption | refine Ext.alloc ?_ _ | refine Ext.drew ?_ | refine Ext.trans ?_ (by assumption))), ?_⟩; clear e0 h0 x0
            refine EWi.pure (by rw [HL.out]; rfl) (by rw [HT.out]; rfl) (by simp [wantedV, upd, boolOf_undef, boolOf_bool, h1, h2]) ?_; intro w0; unfold runPlain; simp [go_sem, h1, h2]
            refine EWi.pure (by rw [HL.out]; rfl) (by rw [HT.out]; rfl) rfl ?_; intro w0; unfold runPlain; simp [go_sem, h1, h2]
            refine EWi.pure (by rw [HL.out]; rfl) (by rw [HT.out]; rfl) rfl ?_; intro w0; unfold runPlain; simp [go_sem, h1, h2]
            iterate 7 (refine EWi.no (by rw [HL.out]; rfl) (by rw [HT.out]; rfl) (by simp [wantedV, upd, boolOf_undef, boolOf_bool, h1, h2]) ?_; intro w0; simp [go_sem])
            refine EWi.pure (by rw [HL.out]; rfl) (by rw [HT.out]; rfl) rfl ?_; intro w0; unfold runPlain; simp [go_sem, h1, h2]
            refine EWi.fin (by rw [HL.out]; rfl) (by rw [HT.out]; rfl) (by rw [HT.out]; rfl) ?_
            intro W hW
            rw [HQ.out]
            have eW : Ext w3 W := Ext.trans E10 hW.ext
            have r0 := (R2.ext eW).cell 0
            have r1 := (R2.ext eW).cell 1
            have r2 := (R2.ext eW).cell 2
            have r3 := (R2.ext eW).cell 3
            have r4 := (R2.ext eW).cell 4
            have r5 := (R2.ext eW).cell 5
            have rf0 := (R2.ext eW).free 0
            have rf1 := (R2.ext eW).free 1
            have rf2 := (R2.ext eW).free 2
            have rf3 := (R2.ext eW).free 3
            have rf4 := (R2.ext eW).free 4
            have rf5 := (R2.ext eW).free 5
            simp [zeroF] at r0 r1 r2 r3 r4 r5
            clear yc n4 z0 z1 z2
            go_wp2
            obtain ⟨t1, t2⟩ := res_put (R2.ext eW) (Ext.trans hE3 eW) (Nat.le_add_right _ 2) (.int .u32 0) (.int .u32 0) (.int .i64 0) (.slice none 0 0) (.slice none 0 0) (.slice none 0 0)
            refine bodyPost_ret (results_cell_tmp rfl _ _ (w.heap.size + 1 + 1) 36 _ _ _ rfl t1 Try.underlying36 rfl size36) rfl ?_
            exact ⟨HP0.out _ _ (by rw [if_neg (by simp [standsTo, Hbad.out])]; rfl), t2⟩
          cases bare
          · have HG : RowKit.Hid (recGood (recAt n.recs k) (bs (k + 1)) = true) := Lib.hid (by rw [Hrec.out, HG0.out]; simp [h1, h2])
            refine wp_lexi (by kernel_rfl) rfl [(0, false, []), (3, true, []), (0, false, []), (1, true, []), (0, false, []), (0, false, []), (0, false, []), (1, true, []), (0, false, []), (0, false, []), (0, false, []), (0, false, []), (1, true, []), (0, false, []), (0, false, []), (0, false, []), (0, false, []), (0, false, []), (0, false, []), (0, false, []), (1, true, []), (0, false, []), (0, false, []), (0, false, []), (0, true, [])] (by kernel_rfl) (fun _ _ v _ => v = .int .u32 si) ?_
            intro lL lT lP lQ HL HT HP HQ
            refine EWi.pure (by rw [HL.out]; rfl) (by rw [HT.out]; rfl) rfl ?_; intro w0; unfold runPlain; simp [go_sem]
            refine EWi.call (by rw [HL.out]; rfl) (by rw [HT.out]; rfl) rfl ?_ ?_
            · intro w0 h0
              unfold runOp
              simp [go_sem]
              rw [HP.out]
              refine (Hsum.out w0 h0.ext).mono ?_
              rintro e w1' ⟨rfl, rfl⟩
              exact ⟨_, rfl, Ext.refl _, rfl⟩
            intro x1 u1 x1' h1' he1' hp
            rw [HP.out] at hp
            obtain rfl : u1 = .int .u32 si := hp
            refine EWi.pure (by rw [HL.out]; rfl) (by rw [HT.out]; rfl) rfl ?_; intro w0; unfold runPlain; simp [go_sem, hlt]
            refine EWi.read (by rw [HL.out]; rfl) (by rw [HT.out]; rfl) rfl ?_; intro w0 h0; have e0 := h0.ext; have x0 := e0.cells n4; have x1 := e0.cells z2; unfold runPlain; simp [go_sem, x0, x1, hlt]; refine ⟨(by repeat (first | exact Below.refl _ _ | assumption | refine Ext.alloc ?_ _ | refine Ext.drew ?_ | refine Ext.trans ?_ (by assumption))), ?_⟩; clear e0 h0 x0 x1
            iterate 3 (refine EWi.pure (by rw [HL.out]; rfl) (by rw [HT.out]; rfl) rfl ?_; intro w0; unfold runPlain; simp [go_sem, hlt])
            refine EWi.read (by rw [HL.out]; rfl) (by rw [HT.out]; rfl) rfl ?_; intro w0 h0; have e0 := h0.ext; have x0 := e0.cells n4; have x1 := e0.cells z2; unfold runPlain; simp [go_sem, x0, x1, hlt]; refine ⟨(by repeat (first | exact Below.refl _ _ | assumption | refine Ext.alloc ?_ _ | refine Ext.drew ?_ | refine Ext.trans ?_ (by assumption))), ?_⟩; clear e0 h0 x0 x1
            refine EWi.pure (by rw [HL.out]; rfl) (by rw [HT.out]; rfl) rfl ?_; intro w0; unfold runPlain; simp [go_sem, h1, h2]
            refine EWi.pure (by rw [HL.out]; rfl) (by rw [HT.out]; rfl) rfl ?_; intro w0; unfold runPlain; simp [go_sem, h1, h2]
            refine EWi.pure (by rw [HL.out]; rfl) (by rw [HT.out]; rfl) (by simp [wantedV, upd, boolOf_undef, boolOf_bool, h1, h2]) ?_; intro w0; unfold runPlain; simp [go_sem, h1, h2]
            refine EWi.pure (by rw [HL.out]; rfl) (by rw [HT.out]; rfl) (by simp [wantedV, upd, boolOf_undef, boolOf_bool, h1, h2]) ?_; intro w0; unfold runPlain; simp [go_sem, h1, h2]
            refine EWi.read (by rw [HL.out]; rfl) (by rw [HT.out]; rfl) (by simp [wantedV, upd, boolOf_undef, boolOf_bool, h1, h2]) ?_; intro w0 h0; have e0 := h0.ext; have x0 := e0.cells yc; unfold runPlain; simp [go_sem, x0, h1, h2]; refine ⟨(by repeat (first | exact Below.refl _ _ | assumption | refine Ext.alloc ?_ _ | refine Ext.drew ?_ | refine Ext.trans ?_ (by assumption))), ?_⟩; clear e0 h0 x0
            refine EWi.pure (by rw [HL.out]; rfl) (by rw [HT.out]; rfl) (by simp [wantedV, upd, boolOf_undef, boolOf_bool, h1, h2]) ?_; intro w0; unfold runPlain; simp [go_sem, h1, h2]
            refine EWi.pure (by rw [HL.out]; rfl) (by rw [HT.out]; rfl) rfl ?_; intro w0; unfold runPlain; simp [go_sem, h1, h2]
            refine EWi.pure (by rw [HL.out]; rfl) (by rw [HT.out]; rfl) rfl ?_; intro w0; unfold runPlain; simp [go_sem, h1, h2]
            refine EWi.pure (by rw [HL.out]; rfl) (by rw [HT.out]; rfl) (by simp [wantedV, upd, boolOf_undef, boolOf_bool, h1, h2]) ?_; intro w0; unfold runPlain; simp [go_sem, h1, h2]
            refine EWi.pure (by rw [HL.out]; rfl) (by rw [HT.out]; rfl) (by simp [wantedV, upd, boolOf_undef, boolOf_bool, h1, h2]) ?_; intro w0; unfold runPlain; simp [go_sem, h1, h2]
            iterate 4 (refine EWi.no (by rw [HL.out]; rfl) (by rw [HT.out]; rfl) (by simp [wantedV, upd, boolOf_undef, boolOf_bool, h1, h2]) ?_; intro w0; simp [go_sem])
            refine EWi.pure (by rw [HL.out]; rfl) (by rw [HT.out]; rfl) (by simp [wantedV, upd, boolOf_undef, boolOf_bool, h1, h2]) ?_; intro w0; unfold runPlain; simp [go_sem, h1, h2]
            refine EWi.pure (by rw [HL.out]; rfl) (by rw [HT.out]; rfl) rfl ?_; intro w0; unfold runPlain; simp [go_sem, h1, h2]
            refine EWi.fin (by rw [HL.out]; rfl) (by rw [HT.out]; rfl) (by rw [HT.out]; rfl) ?_
            intro W hW
            rw [HQ.out]
            have n4 := (RN.ext (Ext.trans E10 hW.ext)).cell 4
            simp at n4
            have z0 := (Ext.trans E10 hW.ext).cells C0
            have HBW := HB.out.ext hW.ext
            have y0 := HBW.cell 0 (by rw [Hbl.out]; decide)
            have yf := HBW.free 0
            replace y0 : W.cell? ⟨gb, 0, none⟩ = some (.int .u8 y) := by rw [Hy0.out]; exact y0
            go_upto_region 14 with fail
            have E13 : Ext wr W := Ext.trans (Ext.trans ea eb) hW.ext
            have HB13 : BytesIn W gb 5 (recBlock r (bs (k + 1))) := by
              unfold recBlock
              rw [← Hbare.out]
              exact HBW
            obtain ⟨W13, hW13⟩ : ∃ x, x = W := ⟨_, rfl⟩
            rw [← hW13] at E13 HB13 ⊢
            clear hW13
            have HS13 := Lib.hid (S.ext' E13)
            have E3 : Ext w3 W13 := Ext.trans S.ext E13
            have HB13' := Lib.hid HB13
            clear HB13 HBW y0 yf n4 z0 z1 z2 yc
            have n4 := (RN.ext E3).cell 4
            simp at n4
            have z0 := E3.cells C0
            have Hgood : Hid (goodTo n.recs bs (k + 1) = true) := Lib.hid (by simp only [goodTo, Hto.out, HG.out]; simp)
            have hrl : (recBlock r (bs (k + 1))).length = 128 := by unfold recBlock; split <;> simp [Hbl.out]
            have Hrl := Lib.hid hrl
            clear hrl
            by_cases q255 : z = 255
            · have p5 := HS13.out.f.cell 5
              have pf5 := HS13.out.f.free 5
              simp at p5
              go_wp2
              go_roundw
              case rel =>
                refine ⟨k + 1, by omega, by go_num, Hgood, sv, lv, .slice (some ⟨gb, 0, none⟩) 128 128, ?_⟩
                have hv : W13.ownsRow w3.heap.size 5 1 (.slice (some ⟨gb, 0, none⟩) 128 128) (recBlock r (bs (k + 1))).length ((recBlock r (bs (k + 1))).map B) := by
                  have := HB13'.out.own (base := w3.heap.size) hg3 (by rw [Hrl.out]; unfold Fit; decide)
                  rwa [Hrl.out] at this ⊢
                have := HS13.out.par hv
                have e : dealTo n.stripe n.recs bs (k + 1) = { dealTo n.stripe n.recs bs k with parity := recBlock r (bs (k + 1)) } := by
                  simp only [dealTo, addRec]
                  rw [Hrec.out, if_pos (slotIs (by rw [← Hz.out]; exact q255))]
                rw [e]
                exact this
              case measure => simp [intOf]; omega
            · have hwz : IntKind.i64.wrap z = z := IntWalk.i64_in _ (by omega)
              obtain ⟨D, hD⟩ : ∃ D, D = dealTo n.stripe n.recs bs k := ⟨_, rfl⟩
              obtain ⟨hDs, hDb, _⟩ := dealTo_most n.stripe n.recs bs k
              rw [← hD] at HS13 hDs hDb
              have HD := Lib.hid hD
              have hv13 : W13.ownsRow w3.heap.size 5 1 (.slice (some ⟨gb, 0, none⟩) 128 128) (recBlock r (bs (k + 1))).length ((recBlock r (bs (k + 1))).map B) := by
                have := HB13'.out.own (base := w3.heap.size) hg3 (by rw [Hrl.out]; unfold Fit; decide)
                rwa [Hrl.out] at this ⊢
              have Hv13 := Lib.hid hv13
              obtain ⟨dn, hdn⟩ : ∃ dn, dn = D.slots.length := ⟨_, rfl⟩
              obtain ⟨sA, sc, rfl⟩ := own_slice HS13.out.own.slots
              have s3 := HS13.out.f.cell 3
              simp at s3
              clear hD hv13 S
              go_upto_region 16 with fail
              refine wp_lexi (by kernel_rfl) rfl [(0, false, []), (0, false, []), (1, true, []), (0, false, []), (1, true, []), (0, false, []), (0, false, []), (0, false, []), (1, true, []), (0, false, []), (1, true, []), (2, true, [10]), (0, false, []), (0, false, []), (2, false, [11]), (0, false, [14])] (by kernel_rfl) (fun _ _ _ _ => True) ?_
              intro lL lT lP lQ HL HT HP HQ
              refine EWi.pure (by rw [HL.out]; rfl) (by rw [HT.out]; rfl) rfl ?_; intro w0; unfold runPlain; simp [go_sem, hlt, hwz]
              refine EWi.pure (by rw [HL.out]; rfl) (by rw [HT.out]; rfl) rfl ?_; intro w0; unfold runPlain; simp [go_sem, hlt, hwz]
              refine EWi.read (by rw [HL.out]; rfl) (by rw [HT.out]; rfl) rfl ?_; intro w0 h0; have e0 := h0.ext; have x0 := e0.cells s3; have x1 := e0.cells n4; have x2 := e0.cells z0; unfold runPlain; simp [go_sem, x0, x1, x2, hlt, hwz]; refine ⟨(by repeat (first | exact Below.refl _ _ | assumption | refine Ext.alloc ?_ _ | refine Ext.drew ?_ | refine Ext.trans ?_ (by assumption))), ?_⟩; clear e0 h0 x0 x1 x2
              refine EWi.pure (by rw [HL.out]; rfl) (by rw [HT.out]; rfl) rfl ?_; intro w0; unfold runPlain; simp [go_sem, hlt, hwz]
              refine EWi.read (by rw [HL.out]; rfl) (by rw [HT.out]; rfl) rfl ?_; intro w0 h0; have e0 := h0.ext; have x0 := e0.cells s3; have x1 := e0.cells n4; have x2 := e0.cells z0; unfold runPlain; simp [go_sem, x0, x1, x2, hlt, hwz]; refine ⟨(by repeat (first | exact Below.refl _ _ | assumption | refine Ext.alloc ?_ _ | refine Ext.drew ?_ | refine Ext.trans ?_ (by assumption))), ?_⟩; clear e0 h0 x0 x1 x2
              iterate 3 (refine EWi.pure (by rw [HL.out]; rfl) (by rw [HT.out]; rfl) rfl ?_; intro w0; unfold runPlain; simp [go_sem, hlt, hwz])
              refine EWi.read (by rw [HL.out]; rfl) (by rw [HT.out]; rfl) rfl ?_; intro w0 h0; have e0 := h0.ext; have x0 := e0.cells s3; have x1 := e0.cells n4; have x2 := e0.cells z0; unfold runPlain; simp [go_sem, x0, x1, x2, hlt, hwz]; refine ⟨(by repeat (first | exact Below.refl _ _ | assumption | refine Ext.alloc ?_ _ | refine Ext.drew ?_ | refine Ext.trans ?_ (by assumption))), ?_⟩; clear e0 h0 x0 x1 x2
              refine EWi.pure (by rw [HL.out]; rfl) (by rw [HT.out]; rfl) rfl ?_; intro w0; unfold runPlain; simp [go_sem, hlt, hwz]
              refine EWi.read (by rw [HL.out]; rfl) (by rw [HT.out]; rfl) rfl ?_
              intro w10 h10
              unfold runPlain
              simp [go_sem]
              refine ⟨Ext.alloc (Ext.refl _) _, ?_⟩
              refine EWi.write (by rw [HL.out]; rfl) (by rw [HT.out]; rfl) rfl ?_
              intro w11 h11
              have e11 : Ext (w10.alloc (.cells #[I z] 3)) w11 := h11.2 10 (by simp)
              have hr11 : RowAt w11 w10.heap.size #[I z] 3 := (RowAt.new w10 _ _).ext e11
              have S11 := HS13.out.ext' h11.ext
              refine runPlain_append w3.heap.size 3 (.int .i64 0) 1 8 _ _ 31 rfl Try.underlying31 info3 rfl (by decide) (by decide) (.slice sA D.slots.length sc) D.slots.length (D.slots.map I) (by simp [go_sem]) S11.own.slots (some ⟨w10.heap.size, 0, none⟩) 1 1 [I z] (by simp [go_sem]) rfl hr11.src (by intro u hu; simp at hu; rcases hu with rfl; rfl) (by omega) S11.ext.size ?_
              intro v' w12 hv' hg12 hb12
              obtain ⟨vA', vc', rfl⟩ := own_slice hv'
              refine EWi.pure (by rw [HL.out]; rfl) (by rw [HT.out]; rfl) rfl ?_; intro w0; unfold runPlain; simp [go_sem]
              refine EWi.pure (by rw [HL.out]; rfl) (by rw [HT.out]; rfl) rfl ?_; intro w0; unfold runPlain; simp [go_sem]
              refine EWi.write (by rw [HL.out]; rfl) (by rw [HT.out]; rfl) rfl ?_
              intro w14 h14
              have e14 : Ext w12 w14 := h14.2 11 (by simp)
              obtain ⟨hf14, S15⟩ := S11.slot hg12 hv' e14
              have s3' := hf14.cell 3
              have f3' := hf14.free 3
              simp at s3'
              unfold runPlain
              simp [go_sem, s3', f3']
              refine EWi.fin (by rw [HL.out]; rfl) (by rw [HT.out]; rfl) (by rw [HT.out]; rfl) ?_
              intro W2 hW2
              rw [HQ.out]
              have eW : Ext (w14.setCell ⟨fb, 3, none⟩ (.slice vA' (D.slots.length + 1) vc')) W2 := hW2.2 14 (by simp)
              have S16 := S15.ext' eW
              have hu2 : W2.ownsRow w3.heap.size 5 1 (.slice (some ⟨gb, 0, none⟩) 128 128) (recBlock r (bs (k + 1))).length ((recBlock r (bs (k + 1))).map B) := by
                refine own_ext (own_set (own_ext (own_grownT (own_ext Hv13.out h11.ext) hg12 (fun g e => ?_)) e14) hf14 (by decide) 3 _) eW
                obtain ⟨_, cur, h1⟩ := own_block S11.own.slots g e
                exact ⟨cur, 3, h1, by decide⟩
              obtain ⟨ps, b1', b2', b3'⟩ := S16.own.blocks
              have hpl : ps.length = D.blocks.length := by rw [← List.length_map (f := (·.1)), b1']
              obtain ⟨lA, lc, rfl⟩ := own_slice b2'
              have l4 := S16.f.cell 4
              simp at l4
              have HS16 := Lib.hid S16
              have Hu2 := Lib.hid hu2
              have Hb1 := Lib.hid b1'
              have Hb2 := Lib.hid b2'
              have Hb3 := Lib.hid b3'
              have hpl2 : ps.length ≤ 16 := by omega
              clear S16 hu2 b1' b2' b3' S15 S11 hf14 s3' f3' hv' hg12 hb12 hr11 s3 n4 z0 hwz hpl hdn
              go_wp2_with (at_builtin; refine wpl_append w3.heap.size 32 (.slice none 0 0) 1 24 rfl _ _ 25 rfl Try.underlying25 info32 rfl (by decide) (by decide) (.slice lA ps.length lc) ps.length (ps.map (·.2)) rfl (own_ext Hb2.out (Ext.alloc (Ext.refl _) _)) (some ⟨W2.heap.size, 0, none⟩) 1 1 [.slice (some ⟨gb, 0, none⟩) 128 128] rfl rfl (RowAt.new W2 _ _).src (by intro u hu; simp at hu; rcases hu with rfl; rfl) (by omega) (HS16.out.ext' (Ext.alloc (Ext.refl _) _)).ext.size ?_; intro v2 w17 hv2 hg17 hb17; obtain ⟨v2A, v2c, rfl⟩ := own_slice hv2; obtain ⟨hf17, S18⟩ := (HS16.out.ext' (Ext.alloc (Ext.refl _) _)).blk hg17 Hb1.out (own_ext Hb2.out (Ext.alloc (Ext.refl _) _)) (fun p hp => own_ext (Hb3.out p hp) (Ext.alloc (Ext.refl _) _)) (own_ext Hu2.out (Ext.alloc (Ext.refl _) _)) hv2; have l4' := hf17.cell 4; have f4' := hf17.free 4; simp at l4')
              go_roundw
              case rel =>
                refine ⟨k + 1, by omega, by go_num, Hgood, .slice vA' (D.slots.length + 1) vc', .slice v2A (ps.length + 1) v2c, pv, ?_⟩
                have e : dealTo n.stripe n.recs bs (k + 1) = { D with slots := D.slots ++ [z], blocks := D.blocks ++ [recBlock r (bs (k + 1))] } := by
                  simp only [dealTo, addRec]
                  rw [Hrec.out, if_neg (fun e => q255 (by rw [Hz.out, e]; rfl)), ← HD.out, Hz.out]
                rw [e]
                exact S18
              case measure => simp [intOf]; omega

          · by_cases h3 : y = 0
            rotate_left
            · have Hbad : RowKit.Hid (goodTo n.recs bs n.recs.length = false) := Lib.hid (Hbadto.out (by rw [HG0.out]; simp [h3]))
              have h3b : (y == 0) = false := by simpa using h3
              have h3c : (y != 0) = true := by simpa using h3
              refine wp_lexi (by kernel_rfl) rfl [(0, false, []), (3, true, []), (0, false, []), (1, true, []), (0, false, []), (0, false, []), (0, false, []), (1, true, []), (0, false, []), (0, false, []), (0, false, []), (0, false, []), (1, true, []), (0, false, []), (0, false, []), (0, false, []), (0, false, []), (0, false, []), (0, false, []), (0, false, []), (1, true, []), (0, false, []), (0, false, []), (0, false, []), (0, true, [])] (by kernel_rfl) (fun _ _ v _ => v = .int .u32 si) ?_
              intro lL lT lP lQ HL HT HP HQ
              refine EWi.pure (by rw [HL.out]; rfl) (by rw [HT.out]; rfl) rfl ?_; intro w0; unfold runPlain; simp [go_sem]
              refine EWi.call (by rw [HL.out]; rfl) (by rw [HT.out]; rfl) rfl ?_ ?_
              · intro w0 h0
                unfold runOp
                simp [go_sem]
                rw [HP.out]
                refine (Hsum.out w0 h0.ext).mono ?_
                rintro e w1' ⟨rfl, rfl⟩
                exact ⟨_, rfl, Ext.refl _, rfl⟩
              intro x1 u1 x1' h1' he1' hp
              rw [HP.out] at hp
              obtain rfl : u1 = .int .u32 si := hp
              refine EWi.pure (by rw [HL.out]; rfl) (by rw [HT.out]; rfl) rfl ?_; intro w0; unfold runPlain; simp [go_sem, hlt]
              refine EWi.read (by rw [HL.out]; rfl) (by rw [HT.out]; rfl) rfl ?_; intro w0 h0; have e0 := h0.ext; have x0 := e0.cells n4; have x1 := e0.cells z2; unfold runPlain; simp [go_sem, x0, x1, hlt]; refine ⟨(by repeat (first | exact Below.refl _ _ | assumption | refine Ext.alloc ?_ _ | refine Ext.drew ?_ | refine Ext.trans ?_ (by assumption))), ?_⟩; clear e0 h0 x0 x1
              iterate 3 (refine EWi.pure (by rw [HL.out]; rfl) (by rw [HT.out]; rfl) rfl ?_; intro w0; unfold runPlain; simp [go_sem, hlt])
              refine EWi.read (by rw [HL.out]; rfl) (by rw [HT.out]; rfl) rfl ?_; intro w0 h0; have e0 := h0.ext; have x0 := e0.cells n4; have x1 := e0.cells z2; unfold runPlain; simp [go_sem, x0, x1, hlt]; refine ⟨(by repeat (first | exact Below.refl _ _ | assumption | refine Ext.alloc ?_ _ | refine Ext.drew ?_ | refine Ext.trans ?_ (by assumption))), ?_⟩; clear e0 h0 x0 x1
              refine EWi.pure (by rw [HL.out]; rfl) (by rw [HT.out]; rfl) rfl ?_; intro w0; unfold runPlain; simp [go_sem, h1, h2, h3, h3b, h3c]
              refine EWi.pure (by rw [HL.out]; rfl) (by rw [HT.out]; rfl) rfl ?_; intro w0; unfold runPlain; simp [go_sem, h1, h2, h3, h3b, h3c]
              refine EWi.pure (by rw [HL.out]; rfl) (by rw [HT.out]; rfl) (by simp [wantedV, upd, boolOf_undef, boolOf_bool, h1, h2, h3, h3b, h3c]) ?_; intro w0; unfold runPlain; simp [go_sem, h1, h2, h3, h3b, h3c]
              refine EWi.pure (by rw [HL.out]; rfl) (by rw [HT.out]; rfl) (by simp [wantedV, upd, boolOf_undef, boolOf_bool, h1, h2, h3, h3b, h3c]) ?_; intro w0; unfold runPlain; simp [go_sem, h1, h2, h3, h3b, h3c]
              refine EWi.read (by rw [HL.out]; rfl) (by rw [HT.out]; rfl) (by simp [wantedV, upd, boolOf_undef, boolOf_bool, h1, h2, h3, h3b, h3c]) ?_; intro w0 h0; have e0 := h0.ext; have x0 := e0.cells yc; unfold runPlain; simp [go_sem, x0, h1, h2, h3, h3b, h3c]; refine ⟨(by repeat (first | exact Below.refl _ _ | assumption | refine Ext.alloc ?_ _ | refine Ext.drew ?_ | refine Ext.trans ?_ (by assumption))), ?_⟩; clear e0 h0 x0
              refine EWi.pure (by rw [HL.out]; rfl) (by rw [HT.out]; rfl) (by simp [wantedV, upd, boolOf_undef, boolOf_bool, h1, h2, h3, h3b, h3c]) ?_; intro w0; unfold runPlain; simp [go_sem, h1, h2, h3, h3b, h3c]
              refine EWi.pure (by rw [HL.out]; rfl) (by rw [HT.out]; rfl) rfl ?_; intro w0; unfold runPlain; simp [go_sem, h1, h2, h3, h3b, h3c]
              refine EWi.pure (by rw [HL.out]; rfl) (by rw [HT.out]; rfl) rfl ?_; intro w0; unfold runPlain; simp [go_sem, h1, h2, h3, h3b, h3c]
              refine EWi.pure (by rw [HL.out]; rfl) (by rw [HT.out]; rfl) (by simp [wantedV, upd, boolOf_undef, boolOf_bool, h1, h2, h3, h3b, h3c]) ?_; intro w0; unfold runPlain; simp [go_sem, h1, h2, h3, h3b, h3c]
              refine EWi.pure (by rw [HL.out]; rfl) (by rw [HT.out]; rfl) (by simp [wantedV, upd, boolOf_undef, boolOf_bool, h1, h2, h3, h3b, h3c]) ?_; intro w0; unfold runPlain; simp [go_sem, h1, h2, h3, h3b, h3c]
              refine EWi.pure (by rw [HL.out]; rfl) (by rw [HT.out]; rfl) (by simp [wantedV, upd, boolOf_undef, boolOf_bool, h1, h2, h3, h3b, h3c]) ?_; intro w0; unfold runPlain; simp [go_sem, h1, h2, h3, h3b, h3c]
              refine EWi.pure (by rw [HL.out]; rfl) (by rw [HT.out]; rfl) (by simp [wantedV, upd, boolOf_undef, boolOf_bool, h1, h2, h3, h3b, h3c]) ?_; intro w0; unfold runPlain; simp [go_sem, h1, h2, h3, h3b, h3c]
              refine EWi.read (by rw [HL.out]; rfl) (by rw [HT.out]; rfl) (by simp [wantedV, upd, boolOf_undef, boolOf_bool, h1, h2, h3, h3b, h3c]) ?_; intro w0 h0; have e0 := h0.ext; have x0 := e0.cells yc; unfold runPlain; simp [go_sem, x0, h1, h2, h3, h3b, h3c]; refine ⟨(by repeat (first | exact Below.refl _ _ | assumption | refine Ext.alloc ?_ _ | refine Ext.drew ?_ | refine Ext.trans ?_ (by assumption))), ?_⟩; clear e0 h0 x0
              refine EWi.pure (by rw [HL.out]; rfl) (by rw [HT.out]; rfl) (by simp [wantedV, upd, boolOf_undef, boolOf_bool, h1, h2, h3, h3b, h3c]) ?_; intro w0; unfold runPlain; simp [go_sem, h1, h2, h3, h3b, h3c]
              refine EWi.pure (by rw [HL.out]; rfl) (by rw [HT.out]; rfl) (by simp [wantedV, upd, boolOf_undef, boolOf_bool, h1, h2, h3, h3b, h3c]) ?_; intro w0; unfold runPlain; simp [go_sem, h1, h2, h3, h3b, h3c]
              refine EWi.pure (by rw [HL.out]; rfl) (by rw [HT.out]; rfl) rfl ?_; intro w0; unfold runPlain; simp [go_sem, h1, h2, h3, h3b, h3c]
              refine EWi.fin (by rw [HL.out]; rfl) (by rw [HT.out]; rfl) (by rw [HT.out]; rfl) ?_
              intro W hW
              rw [HQ.out]
              have eW : Ext w3 W := Ext.trans E10 hW.ext
              have r0 := (R2.ext eW).cell 0
              have r1 := (R2.ext eW).cell 1
              have r2 := (R2.ext eW).cell 2
              have r3 := (R2.ext eW).cell 3
              have r4 := (R2.ext eW).cell 4
              have r5 := (R2.ext eW).cell 5
              have rf0 := (R2.ext eW).free 0
              have rf1 := (R2.ext eW).free 1
              have rf2 := (R2.ext eW).free 2
              have rf3 := (R2.ext eW).free 3
              have rf4 := (R2.ext eW).free 4
              have rf5 := (R2.ext eW).free 5
              simp [zeroF] at r0 r1 r2 r3 r4 r5
              clear yc n4 z0 z1 z2
              go_wp2
              obtain ⟨t1, t2⟩ := res_put (R2.ext eW) (Ext.trans hE3 eW) (Nat.le_add_right _ 2) (.int .u32 0) (.int .u32 0) (.int .i64 0) (.slice none 0 0) (.slice none 0 0) (.slice none 0 0)
              refine bodyPost_ret (results_cell_tmp rfl _ _ (w.heap.size + 1 + 1) 36 _ _ _ rfl t1 Try.underlying36 rfl size36) rfl ?_
              exact ⟨HP0.out _ _ (by rw [if_neg (by simp [standsTo, Hbad.out])]; rfl), t2⟩
            · have HG : RowKit.Hid (recGood (recAt n.recs k) (bs (k + 1)) = true) := Lib.hid (by rw [Hrec.out, HG0.out]; simp [h1, h2, h3])
              refine wp_lexi (by kernel_rfl) rfl [(0, false, []), (3, true, []), (0, false, []), (1, true, []), (0, false, []), (0, false, []), (0, false, []), (1, true, []), (0, false, []), (0, false, []), (0, false, []), (0, false, []), (1, true, []), (0, false, []), (0, false, []), (0, false, []), (0, false, []), (0, false, []), (0, false, []), (0, false, []), (1, true, []), (0, false, []), (0, false, []), (0, false, []), (0, true, [])] (by kernel_rfl) (fun _ _ v _ => v = .int .u32 si) ?_
              intro lL lT lP lQ HL HT HP HQ
              refine EWi.pure (by rw [HL.out]; rfl) (by rw [HT.out]; rfl) rfl ?_; intro w0; unfold runPlain; simp [go_sem]
              refine EWi.call (by rw [HL.out]; rfl) (by rw [HT.out]; rfl) rfl ?_ ?_
              · intro w0 h0
                unfold runOp
                simp [go_sem]
                rw [HP.out]
                refine (Hsum.out w0 h0.ext).mono ?_
                rintro e w1' ⟨rfl, rfl⟩
                exact ⟨_, rfl, Ext.refl _, rfl⟩
              intro x1 u1 x1' h1' he1' hp
              rw [HP.out] at hp
              obtain rfl : u1 = .int .u32 si := hp
              refine EWi.pure (by rw [HL.out]; rfl) (by rw [HT.out]; rfl) rfl ?_; intro w0; unfold runPlain; simp [go_sem, hlt]
              refine EWi.read (by rw [HL.out]; rfl) (by rw [HT.out]; rfl) rfl ?_; intro w0 h0; have e0 := h0.ext; have x0 := e0.cells n4; have x1 := e0.cells z2; unfold runPlain; simp [go_sem, x0, x1, hlt]; refine ⟨(by repeat (first | exact Below.refl _ _ | assumption | refine Ext.alloc ?_ _ | refine Ext.drew ?_ | refine Ext.trans ?_ (by assumption))), ?_⟩; clear e0 h0 x0 x1
              iterate 3 (refine EWi.pure (by rw [HL.out]; rfl) (by rw [HT.out]; rfl) rfl ?_; intro w0; unfold runPlain; simp [go_sem, hlt])
              refine EWi.read (by rw [HL.out]; rfl) (by rw [HT.out]; rfl) rfl ?_; intro w0 h0; have e0 := h0.ext; have x0 := e0.cells n4; have x1 := e0.cells z2; unfold runPlain; simp [go_sem, x0, x1, hlt]; refine ⟨(by repeat (first | exact Below.refl _ _ | assumption | refine Ext.alloc ?_ _ | refine Ext.drew ?_ | refine Ext.trans ?_ (by assumption))), ?_⟩; clear e0 h0 x0 x1
              refine EWi.pure (by rw [HL.out]; rfl) (by rw [HT.out]; rfl) rfl ?_; intro w0; unfold runPlain; simp [go_sem, h1, h2, h3]
              refine EWi.pure (by rw [HL.out]; rfl) (by rw [HT.out]; rfl) rfl ?_; intro w0; unfold runPlain; simp [go_sem, h1, h2, h3]
              refine EWi.pure (by rw [HL.out]; rfl) (by rw [HT.out]; rfl) (by simp [wantedV, upd, boolOf_undef, boolOf_bool, h1, h2, h3]) ?_; intro w0; unfold runPlain; simp [go_sem, h1, h2, h3]
              refine EWi.pure (by rw [HL.out]; rfl) (by rw [HT.out]; rfl) (by simp [wantedV, upd, boolOf_undef, boolOf_bool, h1, h2, h3]) ?_; intro w0; unfold runPlain; simp [go_sem, h1, h2, h3]
              refine EWi.read (by rw [HL.out]; rfl) (by rw [HT.out]; rfl) (by simp [wantedV, upd, boolOf_undef, boolOf_bool, h1, h2, h3]) ?_; intro w0 h0; have e0 := h0.ext; have x0 := e0.cells yc; unfold runPlain; simp [go_sem, x0, h1, h2, h3]; refine ⟨(by repeat (first | exact Below.refl _ _ | assumption | refine Ext.alloc ?_ _ | refine Ext.drew ?_ | refine Ext.trans ?_ (by assumption))), ?_⟩; clear e0 h0 x0
              refine EWi.pure (by rw [HL.out]; rfl) (by rw [HT.out]; rfl) (by simp [wantedV, upd, boolOf_undef, boolOf_bool, h1, h2, h3]) ?_; intro w0; unfold runPlain; simp [go_sem, h1, h2, h3]
              refine EWi.pure (by rw [HL.out]; rfl) (by rw [HT.out]; rfl) rfl ?_; intro w0; unfold runPlain; simp [go_sem, h1, h2, h3]
              refine EWi.pure (by rw [HL.out]; rfl) (by rw [HT.out]; rfl) rfl ?_; intro w0; unfold runPlain; simp [go_sem, h1, h2, h3]
              refine EWi.pure (by rw [HL.out]; rfl) (by rw [HT.out]; rfl) (by simp [wantedV, upd, boolOf_undef, boolOf_bool, h1, h2, h3]) ?_; intro w0; unfold runPlain; simp [go_sem, h1, h2, h3]
              refine EWi.pure (by rw [HL.out]; rfl) (by rw [HT.out]; rfl) (by simp [wantedV, upd, boolOf_undef, boolOf_bool, h1, h2, h3]) ?_; intro w0; unfold runPlain; simp [go_sem, h1, h2, h3]
              refine EWi.pure (by rw [HL.out]; rfl) (by rw [HT.out]; rfl) (by simp [wantedV, upd, boolOf_undef, boolOf_bool, h1, h2, h3]) ?_; intro w0; unfold runPlain; simp [go_sem, h1, h2, h3]
              refine EWi.pure (by rw [HL.out]; rfl) (by rw [HT.out]; rfl) (by simp [wantedV, upd, boolOf_undef, boolOf_bool, h1, h2, h3]) ?_; intro w0; unfold runPlain; simp [go_sem, h1, h2, h3]
              refine EWi.read (by rw [HL.out]; rfl) (by rw [HT.out]; rfl) (by simp [wantedV, upd, boolOf_undef, boolOf_bool, h1, h2, h3]) ?_; intro w0 h0; have e0 := h0.ext; have x0 := e0.cells yc; unfold runPlain; simp [go_sem, x0, h1, h2, h3]; refine ⟨(by repeat (first | exact Below.refl _ _ | assumption | refine Ext.alloc ?_ _ | refine Ext.drew ?_ | refine Ext.trans ?_ (by assumption))), ?_⟩; clear e0 h0 x0
              refine EWi.pure (by rw [HL.out]; rfl) (by rw [HT.out]; rfl) (by simp [wantedV, upd, boolOf_undef, boolOf_bool, h1, h2, h3]) ?_; intro w0; unfold runPlain; simp [go_sem, h1, h2, h3]
              refine EWi.pure (by rw [HL.out]; rfl) (by rw [HT.out]; rfl) (by simp [wantedV, upd, boolOf_undef, boolOf_bool, h1, h2, h3]) ?_; intro w0; unfold runPlain; simp [go_sem, h1, h2, h3]
              refine EWi.pure (by rw [HL.out]; rfl) (by rw [HT.out]; rfl) rfl ?_; intro w0; unfold runPlain; simp [go_sem, h1, h2, h3]
              refine EWi.fin (by rw [HL.out]; rfl) (by rw [HT.out]; rfl) (by rw [HT.out]; rfl) ?_
              intro W hW
              rw [HQ.out]
              have n4 := (RN.ext (Ext.trans E10 hW.ext)).cell 4
              simp at n4
              have z0 := (Ext.trans E10 hW.ext).cells C0
              have HBW := HB.out.ext hW.ext
              have y0 := HBW.cell 0 (by rw [Hbl.out]; decide)
              have yf := HBW.free 0
              replace y0 : W.cell? ⟨gb, 0, none⟩ = some (.int .u8 y) := by rw [Hy0.out]; exact y0
              have hne1 : gb ≠ nb := by have := RN.lt; omega
              have hne2 : gb ≠ b := by omega
              go_upto_region 14 with fail
              have E13 : Ext wr (W.setCell ⟨gb, 0, none⟩ (.int .u8 78)) := (Ext.trans (Ext.trans ea eb) hW.ext).setCell hga _
              have HB13 : BytesIn (W.setCell ⟨gb, 0, none⟩ (.int .u8 78)) gb 5 (recBlock r (bs (k + 1))) := by
                have := HBW.set 0 78
                unfold recBlock
                rw [← Hbare.out]
                exact this
              obtain ⟨W13, hW13⟩ : ∃ x, x = W.setCell ⟨gb, 0, none⟩ (.int .u8 78) := ⟨_, rfl⟩
              rw [← hW13] at E13 HB13 ⊢
              clear hW13
              have HS13 := Lib.hid (S.ext' E13)
              have E3 : Ext w3 W13 := Ext.trans S.ext E13
              have HB13' := Lib.hid HB13
              clear HB13 HBW y0 yf n4 z0 z1 z2 yc
              have n4 := (RN.ext E3).cell 4
              simp at n4
              have z0 := E3.cells C0
              have Hgood : Hid (goodTo n.recs bs (k + 1) = true) := Lib.hid (by simp only [goodTo, Hto.out, HG.out]; simp)
              have hrl : (recBlock r (bs (k + 1))).length = 128 := by unfold recBlock; split <;> simp [Hbl.out]
              have Hrl := Lib.hid hrl
              clear hrl
              by_cases q255 : z = 255
              · have p5 := HS13.out.f.cell 5
                have pf5 := HS13.out.f.free 5
                simp at p5
                go_wp2
                go_roundw
                case rel =>
                  refine ⟨k + 1, by omega, by go_num, Hgood, sv, lv, .slice (some ⟨gb, 0, none⟩) 128 128, ?_⟩
                  have hv : W13.ownsRow w3.heap.size 5 1 (.slice (some ⟨gb, 0, none⟩) 128 128) (recBlock r (bs (k + 1))).length ((recBlock r (bs (k + 1))).map B) := by
                    have := HB13'.out.own (base := w3.heap.size) hg3 (by rw [Hrl.out]; unfold Fit; decide)
                    rwa [Hrl.out] at this ⊢
                  have := HS13.out.par hv
                  have e : dealTo n.stripe n.recs bs (k + 1) = { dealTo n.stripe n.recs bs k with parity := recBlock r (bs (k + 1)) } := by
                    simp only [dealTo, addRec]
                    rw [Hrec.out, if_pos (slotIs (by rw [← Hz.out]; exact q255))]
                  rw [e]
                  exact this
                case measure => simp [intOf]; omega
              · have hwz : IntKind.i64.wrap z = z := IntWalk.i64_in _ (by omega)
                obtain ⟨D, hD⟩ : ∃ D, D = dealTo n.stripe n.recs bs k := ⟨_, rfl⟩
                obtain ⟨hDs, hDb, _⟩ := dealTo_most n.stripe n.recs bs k
                rw [← hD] at HS13 hDs hDb
                have HD := Lib.hid hD
                have hv13 : W13.ownsRow w3.heap.size 5 1 (.slice (some ⟨gb, 0, none⟩) 128 128) (recBlock r (bs (k + 1))).length ((recBlock r (bs (k + 1))).map B) := by
                  have := HB13'.out.own (base := w3.heap.size) hg3 (by rw [Hrl.out]; unfold Fit; decide)
                  rwa [Hrl.out] at this ⊢
                have Hv13 := Lib.hid hv13
                obtain ⟨dn, hdn⟩ : ∃ dn, dn = D.slots.length := ⟨_, rfl⟩
                obtain ⟨sA, sc, rfl⟩ := own_slice HS13.out.own.slots
                have s3 := HS13.out.f.cell 3
                simp at s3
                clear hD hv13 S
                go_upto_region 16 with fail
                refine wp_lexi (by kernel_rfl) rfl [(0, false, []), (0, false, []), (1, true, []), (0, false, []), (1, true, []), (0, false, []), (0, false, []), (0, false, []), (1, true, []), (0, false, []), (1, true, []), (2, true, [10]), (0, false, []), (0, false, []), (2, false, [11]), (0, false, [14])] (by kernel_rfl) (fun _ _ _ _ => True) ?_
                intro lL lT lP lQ HL HT HP HQ
                refine EWi.pure (by rw [HL.out]; rfl) (by rw [HT.out]; rfl) rfl ?_; intro w0; unfold runPlain; simp [go_sem, hlt, hwz]
                refine EWi.pure (by rw [HL.out]; rfl) (by rw [HT.out]; rfl) rfl ?_; intro w0; unfold runPlain; simp [go_sem, hlt, hwz]
                refine EWi.read (by rw [HL.out]; rfl) (by rw [HT.out]; rfl) rfl ?_; intro w0 h0; have e0 := h0.ext; have x0 := e0.cells s3; have x1 := e0.cells n4; have x2 := e0.cells z0; unfold runPlain; simp [go_sem, x0, x1, x2, hlt, hwz]; refine ⟨(by repeat (first | exact Below.refl _ _ | assumption | refine Ext.alloc ?_ _ | refine Ext.drew ?_ | refine Ext.trans ?_ (by assumption))), ?_⟩; clear e0 h0 x0 x1 x2
                refine EWi.pure (by rw [HL.out]; rfl) (by rw [HT.out]; rfl) rfl ?_; intro w0; unfold runPlain; simp [go_sem, hlt, hwz]
                refine EWi.read (by rw [HL.out]; rfl) (by rw [HT.out]; rfl) rfl ?_; intro w0 h0; have e0 := h0.ext; have x0 := e0.cells s3; have x1 := e0.cells n4; have x2 := e0.cells z0; unfold runPlain; simp [go_sem, x0, x1, x2, hlt, hwz]; refine ⟨(by repeat (first | exact Below.refl _ _ | assumption | refine Ext.alloc ?_ _ | refine Ext.drew ?_ | refine Ext.trans ?_ (by assumption))), ?_⟩; clear e0 h0 x0 x1 x2
                iterate 3 (refine EWi.pure (by rw [HL.out]; rfl) (by rw [HT.out]; rfl) rfl ?_; intro w0; unfold runPlain; simp [go_sem, hlt, hwz])
                refine EWi.read (by rw [HL.out]; rfl) (by rw [HT.out]; rfl) rfl ?_; intro w0 h0; have e0 := h0.ext; have x0 := e0.cells s3; have x1 := e0.cells n4; have x2 := e0.cells z0; unfold runPlain; simp [go_sem, x0, x1, x2, hlt, hwz]; refine ⟨(by repeat (first | exact Below.refl _ _ | assumption | refine Ext.alloc ?_ _ | refine Ext.drew ?_ | refine Ext.trans ?_ (by assumption))), ?_⟩; clear e0 h0 x0 x1 x2
                refine EWi.pure (by rw [HL.out]; rfl) (by rw [HT.out]; rfl) rfl ?_; intro w0; unfold runPlain; simp [go_sem, hlt, hwz]
                refine EWi.read (by rw [HL.out]; rfl) (by rw [HT.out]; rfl) rfl ?_
                intro w10 h10
                unfold runPlain
                simp [go_sem]
                refine ⟨Ext.alloc (Ext.refl _) _, ?_⟩
                refine EWi.write (by rw [HL.out]; rfl) (by rw [HT.out]; rfl) rfl ?_
                intro w11 h11
                have e11 : Ext (w10.alloc (.cells #[I z] 3)) w11 := h11.2 10 (by simp)
                have hr11 : RowAt w11 w10.heap.size #[I z] 3 := (RowAt.new w10 _ _).ext e11
                have S11 := HS13.out.ext' h11.ext
                refine runPlain_append w3.heap.size 3 (.int .i64 0) 1 8 _ _ 31 rfl Try.underlying31 info3 rfl (by decide) (by decide) (.slice sA D.slots.length sc) D.slots.length (D.slots.map I) (by simp [go_sem]) S11.own.slots (some ⟨w10.heap.size, 0, none⟩) 1 1 [I z] (by simp [go_sem]) rfl hr11.src (by intro u hu; simp at hu; rcases hu with rfl; rfl) (by omega) S11.ext.size ?_
                intro v' w12 hv' hg12 hb12
                obtain ⟨vA', vc', rfl⟩ := own_slice hv'
                refine EWi.pure (by rw [HL.out]; rfl) (by rw [HT.out]; rfl) rfl ?_; intro w0; unfold runPlain; simp [go_sem]
                refine EWi.pure (by rw [HL.out]; rfl) (by rw [HT.out]; rfl) rfl ?_; intro w0; unfold runPlain; simp [go_sem]
                refine EWi.write (by rw [HL.out]; rfl) (by rw [HT.out]; rfl) rfl ?_
                intro w14 h14
                have e14 : Ext w12 w14 := h14.2 11 (by simp)
                obtain ⟨hf14, S15⟩ := S11.slot hg12 hv' e14
                have s3' := hf14.cell 3
                have f3' := hf14.free 3
                simp at s3'
                unfold runPlain
                simp [go_sem, s3', f3']
                refine EWi.fin (by rw [HL.out]; rfl) (by rw [HT.out]; rfl) (by rw [HT.out]; rfl) ?_
                intro W2 hW2
                rw [HQ.out]
                have eW : Ext (w14.setCell ⟨fb, 3, none⟩ (.slice vA' (D.slots.length + 1) vc')) W2 := hW2.2 14 (by simp)
                have S16 := S15.ext' eW
                have hu2 : W2.ownsRow w3.heap.size 5 1 (.slice (some ⟨gb, 0, none⟩) 128 128) (recBlock r (bs (k + 1))).length ((recBlock r (bs (k + 1))).map B) := by
                  refine own_ext (own_set (own_ext (own_grownT (own_ext Hv13.out h11.ext) hg12 (fun g e => ?_)) e14) hf14 (by decide) 3 _) eW
                  obtain ⟨_, cur, h1⟩ := own_block S11.own.slots g e
                  exact ⟨cur, 3, h1, by decide⟩
                obtain ⟨ps, b1', b2', b3'⟩ := S16.own.blocks
                have hpl : ps.length = D.blocks.length := by rw [← List.length_map (f := (·.1)), b1']
                obtain ⟨lA, lc, rfl⟩ := own_slice b2'
                have l4 := S16.f.cell 4
                simp at l4
                have HS16 := Lib.hid S16
                have Hu2 := Lib.hid hu2
                have Hb1 := Lib.hid b1'
                have Hb2 := Lib.hid b2'
                have Hb3 := Lib.hid b3'
                have hpl2 : ps.length ≤ 16 := by omega
                clear S16 hu2 b1' b2' b3' S15 S11 hf14 s3' f3' hv' hg12 hb12 hr11 s3 n4 z0 hwz hpl hdn
                go_wp2_with (at_builtin; refine wpl_append w3.heap.size 32 (.slice none 0 0) 1 24 rfl _ _ 25 rfl Try.underlying25 info32 rfl (by decide) (by decide) (.slice lA ps.length lc) ps.length (ps.map (·.2)) rfl (own_ext Hb2.out (Ext.alloc (Ext.refl _) _)) (some ⟨W2.heap.size, 0, none⟩) 1 1 [.slice (some ⟨gb, 0, none⟩) 128 128] rfl rfl (RowAt.new W2 _ _).src (by intro u hu; simp at hu; rcases hu with rfl; rfl) (by omega) (HS16.out.ext' (Ext.alloc (Ext.refl _) _)).ext.size ?_; intro v2 w17 hv2 hg17 hb17; obtain ⟨v2A, v2c, rfl⟩ := own_slice hv2; obtain ⟨hf17, S18⟩ := (HS16.out.ext' (Ext.alloc (Ext.refl _) _)).blk hg17 Hb1.out (own_ext Hb2.out (Ext.alloc (Ext.refl _) _)) (fun p hp => own_ext (Hb3.out p hp) (Ext.alloc (Ext.refl _) _)) (own_ext Hu2.out (Ext.alloc (Ext.refl _) _)) hv2; have l4' := hf17.cell 4; have f4' := hf17.free 4; simp at l4')
                go_roundw
                case rel =>
                  refine ⟨k + 1, by omega, by go_num, Hgood, .slice vA' (D.slots.length + 1) vc', .slice v2A (ps.length + 1) v2c, pv, ?_⟩
                  have e : dealTo n.stripe n.recs bs (k + 1) = { D with slots := D.slots ++ [z], blocks := D.blocks ++ [recBlock r (bs (k + 1))] } := by
                    simp only [dealTo, addRec]
                    rw [Hrec.out, if_neg (fun e => q255 (by rw [Hz.out, e]; rfl)), ← HD.out, Hz.out]
                  rw [e]
                  exact S18
                case measure => simp [intOf]; omega

        · obtain rfl : k = n.recs.length := by omega
          obtain ⟨D, hD⟩ : ∃ D, D = dealTo n.stripe n.recs bs n.recs.length := ⟨_, rfl⟩
          have hDst : D.stripe = n.stripe := by rw [hD]; exact (dealTo_most n.stripe n.recs bs _).2.2
          rw [← hD] at S
          have hmayc := ref_dlMay c D sv lv pv wr S.own.at Hc.out
          rw [show D.v sv lv pv = .agg #[I n.stripe, sv, lv, pv] by rw [← hDst]] at hmayc
          have HD := Lib.hid hD
          have q0 := S.f.cell 0
          have q1 := S.f.cell 1
          have q2 := S.f.cell 2
          have q3 := S.f.cell 3
          have q4 := S.f.cell 4
          have q5 := S.f.cell 5
          simp at q0 q1 q2 q3 q4 q5
          obtain ⟨sA, sc, rfl⟩ := own_slice S.own.slots
          obtain ⟨lps, _, hlo, _⟩ := S.own.blocks
          obtain ⟨lA, lc, rfl⟩ := own_slice hlo
          have hpv : ∃ A m c, pv = .slice A m c := by
            rcases S.own.parity with ⟨h, _⟩ | h
            · exact ⟨_, _, _, h⟩
            · obtain ⟨A, c, h⟩ := own_slice h
              exact ⟨_, _, _, h⟩
          obtain ⟨pA, pm, pc, rfl⟩ := hpv
          have Hmayc := Lib.hid hmayc
          clear hD hDst hmayc hlo
          go_wp2_with fail
          refine Hmayc.out.mono ?_
          rintro e wm ⟨rfl, em⟩
          have Sm := S.ext' em
          have Em := Sm.ext
          clear q0 q1 q2 q3 q4 q5 n4 g0 g1 g2 g3 g4 g5 d0 d1 d2
          cases hmD : D.may c
          · have HmD := Lib.hid hmD
            clear hmD
            have r0 := (R2.ext Em).cell 0
            have r1 := (R2.ext Em).cell 1
            have r2 := (R2.ext Em).cell 2
            have r3 := (R2.ext Em).cell 3
            have r4 := (R2.ext Em).cell 4
            have r5 := (R2.ext Em).cell 5
            have rf0 := (R2.ext Em).free 0
            have rf1 := (R2.ext Em).free 1
            have rf2 := (R2.ext Em).free 2
            have rf3 := (R2.ext Em).free 3
            have rf4 := (R2.ext Em).free 4
            have rf5 := (R2.ext Em).free 5
            simp [zeroF] at r0 r1 r2 r3 r4 r5
            go_wp2
            obtain ⟨t1, t2⟩ := res_put (R2.ext Em) (Ext.trans hE3 Em) (Nat.le_add_right _ 2) (.int .u32 0) (.int .u32 0) (.int .i64 0) (.slice none 0 0) (.slice none 0 0) (.slice none 0 0)
            refine bodyPost_ret (results_cell_tmp rfl _ _ (w.heap.size + 1 + 1) 36 _ _ _ rfl t1 Try.underlying36 rfl size36) rfl ?_
            exact ⟨HP0.out _ _ (by rw [if_neg (by simp [standsTo, ← HD.out, HmD.out])]; rfl), t2⟩
          · have HmD := Lib.hid hmD
            clear hmD
            have q0 := Sm.f.cell 0
            have q1 := Sm.f.cell 1
            have q2 := Sm.f.cell 2
            have q3 := Sm.f.cell 3
            have q4 := Sm.f.cell 4
            have q5 := Sm.f.cell 5
            simp at q0 q1 q2 q3 q4 q5
            have n4 := (RN.ext Em).cell 4
            simp at n4
            have qw : IntKind.i64.wrap (1 + (n.recs.length : Int)) = 1 + (n.recs.length : Int) := IntWalk.i64_in _ (by omega)
            go_upto_region 20 with fail
            have hm2 := R2.ext Em
            obtain ⟨hb, hhb⟩ : ∃ hb, hb = w.heap.size + 1 + 1 := ⟨_, rfl⟩
            rw [← hhb] at hm2 ⊢
            have hlo : w.heap.size ≤ hb := by omega
            clear hhb
            obtain ⟨row0, hrow0⟩ : ∃ r : Array Value, r = zeroF := ⟨_, rfl⟩
            rw [← hrow0] at hm2
            have Hrow0 := Lib.hid hrow0
            have hrf : ∀ W, Keeps w.heap.size [36] wm W → W.cell? ⟨nb, 4, none⟩ = some (.slice A3 n.recs.length c3) := fun W hK => by
              have := ((RN.ext Em).keeps hK (.inr (by decide))).cell 4
              simpa using this
            have Hrf := Lib.hid hrf
            clear hrow0 hrf n4
            refine wp_ssaK (by kernel_rfl) rfl w.heap.size (fun k => match k with | 5 => [36] | _ => []) (fun k => match k with | 0 => [] | 5 => [] | _ => [36]) [36] (by kernel_rfl)
              (fun k A C => match k with | 5 => ∃ cs, RowAt A hb cs 36 ∧ Only [hb] A C | _ => C = A)
              (fun i ds v w' => match i with
              | 0 => v = .agg #[U32 n.age, U32 n.seq, I n.stripe, .slice sA D.slots.length sc, .slice lA lps.length lc, .slice pA pm pc]
              | 1 => v = .pointer (some ⟨nb, 4, none⟩)
              | 2 => v = .slice A3 n.recs.length c3
              | 3 => v = I (n.recs.length : Int)
              | 4 => v = I (1 + (n.recs.length : Int))
              | 5 => RowAt w' hb #[U32 n.age, U32 n.seq, I n.stripe, .slice sA D.slots.length sc, .slice lA lps.length lc, .slice pA pm pc] 36
              | _ => v = I (1 + (n.recs.length : Int))) ?hR ?hst ?hop ?fin
            case hR =>
              intro k hk TS A C ht hK hr
              match k, hr with
              | 0, hr => have hr : C = A := hr; subst hr; exact hK
              | 1, hr => have hr : C = A := hr; subst hr; exact hK
              | 2, hr => have hr : C = A := hr; subst hr; exact hK
              | 3, hr => have hr : C = A := hr; subst hr; exact hK
              | 4, hr => have hr : C = A := hr; subst hr; exact hK
              | 5, hr =>
                obtain ⟨cs, h1, h2⟩ : ∃ cs, RowAt A hb cs 36 ∧ Only [hb] A C := hr
                exact hK.trans (h2.keeps (by simp; exact ⟨hlo, cs, 36, h1, ht 36 (by simp)⟩))
              | k + 6, hr => have hr : C = A := hr; subst hr; exact hK
            case hst =>
              intro j p hj k' o ho hne hbf vs v A' C' hK hr hΦ
              match j, hj, hne, hΦ with
              | 0, _, _, hΦ => exact hΦ
              | 1, _, _, hΦ => exact hΦ
              | 2, _, _, hΦ => exact hΦ
              | 3, _, _, hΦ => exact hΦ
              | 4, _, _, hΦ => exact hΦ
              | 5, _, hne, hΦ =>
                match k', hne, hr with
                | 0, _, hr => have hr : C' = A' := hr; subst hr; exact hΦ
                | 1, _, hr => have hr : C' = A' := hr; subst hr; exact hΦ
                | 2, _, hr => have hr : C' = A' := hr; subst hr; exact hΦ
                | 3, _, hr => have hr : C' = A' := hr; subst hr; exact hΦ
                | 4, _, hr => have hr : C' = A' := hr; subst hr; exact hΦ
                | 5, hne, _ => exact absurd rfl hne
                | k' + 6, _, hr => have hr : C' = A' := hr; subst hr; exact hΦ
              | j + 6, _, _, hΦ => exact hΦ
            case hop =>
              refine allAt ⟨?_, ?_, ?_, ?_, ?_, ?_, ?_, trivial⟩
              · intro vs w' hK hd
                have e := hK.toExt0
                have x0 := e.cells q0
                have x1 := e.cells q1
                have x2 := e.cells q2
                have x3 := e.cells q3
                have x4 := e.cells q4
                have x5 := e.cells q5
                refine plain_op rfl ?_
                unfold runOp
                simp [go_sem, look, writer, List.findIdx?, List.findIdx?.go, depsOf, Region.binds, x0, x1, x2, x3, x4, x5]
              · intro vs w' hK hd
                refine plain_op rfl ?_
                unfold runOp
                simp [go_sem, look, writer, List.findIdx?, List.findIdx?.go, depsOf, Region.binds]
              · intro vs w' hK hd
                have h1 : vs 1 = .pointer (some ⟨nb, 4, none⟩) := hd 1 _ rfl (by decide)
                have x0 := Hrf.out _ hK
                refine plain_op rfl ?_
                unfold runOp
                simp [go_sem, look, writer, List.findIdx?, List.findIdx?.go, depsOf, Region.binds, h1, x0]
              · intro vs w' hK hd
                have h2 : vs 2 = .slice A3 n.recs.length c3 := hd 2 _ rfl (by decide)
                refine plain_op rfl ?_
                unfold runOp
                simp [go_sem, look, writer, List.findIdx?, List.findIdx?.go, depsOf, Region.binds, h2]
              · intro vs w' hK hd
                have h3 : vs 3 = I (n.recs.length : Int) := hd 3 _ rfl (by decide)
                refine plain_op rfl ?_
                unfold runOp
                simp [go_sem, look, writer, List.findIdx?, List.findIdx?.go, depsOf, Region.binds, h3, qw]
              · intro vs w' hK hd
                have h0' : vs 0 = .agg #[U32 n.age, U32 n.seq, I n.stripe, .slice sA D.slots.length sc, .slice lA lps.length lc, .slice pA pm pc] := hd 0 _ rfl (by decide)
                have hr9 := hm2.ext hK.toExt0
                rw [Hrow0.out] at hr9
                have r0 := hr9.cell 0
                have r1 := hr9.cell 1
                have r2 := hr9.cell 2
                have r3 := hr9.cell 3
                have r4 := hr9.cell 4
                have r5 := hr9.cell 5
                have rf0 := hr9.free 0
                have rf1 := hr9.free 1
                have rf2 := hr9.free 2
                have rf3 := hr9.free 3
                have rf4 := hr9.free 4
                have rf5 := hr9.free 5
                simp [zeroF] at r0 r1 r2 r3 r4 r5
                refine plain_op rfl ?_
                unfold runOp
                simp [go_sem, look, writer, List.findIdx?, List.findIdx?.go, depsOf, Region.binds, h0', r0, r1, r2, r3, r4, r5, rf0, rf1, rf2, rf3, rf4, rf5]
                obtain ⟨s1, s2⟩ := set6 hr9 (U32 n.age) (U32 n.seq) (I n.stripe) (.slice sA D.slots.length sc) (.slice lA lps.length lc) (.slice pA pm pc)
                first | exact ⟨⟨_, hr9, s2⟩, s1⟩ | exact ⟨⟨⟨_, hr9⟩, s2⟩, s1⟩ | exact ⟨⟨s2, _, hr9⟩, s1⟩
              · intro vs w' hK hd
                have h4 : vs 4 = I (1 + (n.recs.length : Int)) := hd 4 _ rfl (by decide)
                refine plain_op rfl ?_
                unfold runOp
                simp [go_sem, look, writer, List.findIdx?, List.findIdx?.go, depsOf, Region.binds, h4]
            case fin =>
              intro vs w' A9 _ _ hA hKf hf
              subst hA
              simp only [fill, Act.put, List.setIfInBounds_toArray, List.set_cons_zero, List.set_cons_succ]
              have f6 : vs 6 = I (1 + (n.recs.length : Int)) := hf 6 _ rfl
              have f5 : RowAt w' hb #[U32 n.age, U32 n.seq, I n.stripe, .slice sA D.slots.length sc, .slice lA lps.length lc, .slice pA pm pc] 36 := hf 5 _ rfl
              rw [f6]
              have o9 : OwnDl w3.heap.size w' (.slice sA D.slots.length sc) (.slice lA lps.length lc) (.slice pA pm pc) D :=
                ⟨ownsRow_keepsC Sm.own.slots (.of_keeps hKf) (by decide), Sm.own.blocks.keepsC (.of_keeps hKf) (by decide), Sm.own.parity.imp id (fun k => ownsRow_keepsC k (.of_keeps hKf) (by decide))⟩
              have t2 : Ext w w' := hKf.below (Ext.trans hE3 Em)
              clear q0 q1 q2 q3 q4 q5 qw
              go_wp2
              refine bodyPost_ret (results_cell_tmp rfl _ _ hb 36 _ _ _ rfl f5 Try.underlying36 rfl size36) rfl ?_
              refine ⟨HP0.out _ _ ?_, t2⟩
              rw [if_pos (by simp [standsTo, ← HD.out, HmD.out, Hto.out, Hg.out, HidE.out])]
              refine ⟨.slice sA D.slots.length sc, .slice lA lps.length lc, .slice pA pm pc, w3.heap.size, ?_, by rw [← HD.out]; exact o9⟩
              first
              | (simp; done)
              | (rw [show ((1 + n.recs.length : Nat) : Int) = 1 + (n.recs.length : Int) by omega]; rfl)
    · have hid' : (n.id : Int) ≠ (c.id : Int) := by omega
      have Hno : Hid (¬ ((decide (n.may = true ∧ noteBytes n = bs 0 ∧ n.id = c.id) && standsTo c n bs n.recs.length) = true)) := Lib.hid (by simp [hid])
      obtain ⟨A3, c3, rfl, _⟩ := hrs
      go_wp2
      obtain ⟨t1, t2⟩ := res_put R2 hE1 (Nat.le_add_right _ 2) (.int .u32 0) (.int .u32 0) (.int .i64 0) (.slice none 0 0) (.slice none 0 0) (.slice none 0 0)
      refine bodyPost_ret (results_cell_tmp rfl _ _ (w.heap.size + 1 + 1) 36 _ _ _ rfl (t1.ext (Ext.alloc (Ext.refl _) _)) Try.underlying36 rfl size36) rfl ?_
      exact ⟨HP0.out _ _ (by rw [if_neg Hno.out]; rfl), Ext.alloc t2 _⟩
  · rw [if_neg hg] at hP
    have Hno : Hid (¬ ((decide (n.may = true ∧ noteBytes n = bs 0 ∧ n.id = c.id) && standsTo c n bs n.recs.length) = true)) := Lib.hid (by
      intro k
      simp only [Bool.and_eq_true, decide_eq_true_eq] at k
      exact hg ⟨k.1.1, k.1.2.1⟩)
    clear hg
    subst hP
    unfold zeroNote
    go_wp2
    obtain ⟨t1, t2⟩ := res_put R2 hE1 (Nat.le_add_right _ 2) (.int .u32 0) (.int .u32 0) (.int .i64 0) (.slice none 0 0) (.slice none 0 0) (.slice none 0 0)
    refine bodyPost_ret (results_cell_tmp rfl _ _ (w.heap.size + 1 + 1) 36 _ _ _ rfl (t1.ext (Ext.alloc (Ext.refl _) _)) Try.underlying36 rfl size36) rfl ?_
    exact ⟨HP0.out _ _ (by rw [if_neg Hno.out]; rfl), Ext.alloc t2 _⟩

end Go.Proofs.Ytancfgmaejjooaa
