/- The law DealReads: the walk of its code. -/
import Derived.Test.YtancfgmaejjooaaReads1
set_option linter.unusedVariables false
set_option linter.unusedSimpArgs false
namespace Go.Proofs.Ytancfgmaejjooaa
open Go.RowKit

theorem own_cells {w : World} {base : Nat} {v : Value} {n : Nat} {cs : List Value} (h : w.ownsRow base 32 1 v n cs) (hn : 0 < n) :
    ∃ g cap cur, v = .slice (some ⟨g, 0, none⟩) n cap ∧ base ≤ g ∧ RowAt w g cur 32 ∧ ∀ k (hk : k < cs.length), w.cell? ⟨g, k, none⟩ = some cs[k] := by
  obtain ⟨h1, ⟨_, h0⟩ | ⟨g, cap, cur, rfl, hb, hh, hnc, hcm, hcs, htake⟩⟩ := h
  · omega
  · refine ⟨g, cap, cur, rfl, hb, hh, fun k hk => ?_⟩
    have hr : RowAt w g cur 32 := hh
    rw [hr.cell]
    have e : (cur.toList.take (n * 1))[k]? = cs[k]? := by rw [htake]
    have hk' : k < n * 1 := by omega
    rw [List.getElem?_take_of_lt hk', List.getElem?_eq_getElem hk] at e
    simpa using e
theorem own_many {w : World} {base : Nat} {v : Value} {n : Nat} {cs : List Value} (h : w.ownsRow base 32 1 v n cs) : cs.length = n := by
  have := h.1
  simpa using this

set_option maxRecDepth 100000 in
set_option maxHeartbeats 4000000 in
theorem law_Reads (c : Cfg) (d : Dk) (bv wv : Value) (at_ : Int) (w : World) (h : DkAt w bv wv d) :
    Calls Try.prog 3 #[c.v, d.v bv wv, I at_] w fun e w' => e = .returned (.bool true) ∧ Ext w w' := by
  have h0 := h
  obtain ⟨⟨A, c1, rfl, a1, a2, a3⟩, ⟨A', c1', rfl, b1, b2, b3⟩⟩ := h
  have H0 := Lib.hid h0
  clear a3 b3 h0
  have Hgr := Lib.hid (fun w1 (he : Ext w w1) => ref_Great d _ _ w1 (H0.out.ext he))
  have Htw := Lib.hid (fun w1 (he : Ext w w1) => ref_Twin d _ _ w1 (H0.out.ext he))
  have Hrd := Lib.hid (fun w1 (he : Ext w w1) => deal_Read_any c d _ _ at_ w1 (H0.out.ext he))
  have Hrf := Lib.hid (fun w1 (he : Ext w w1) => ref_dlRead_any c d _ _ at_ w1 (H0.out.ext he))
  go_enter Try.func3, Try.ntmps3
  go_wp2_with fail
  refine (Hgr.out _ (by repeat (first | exact Below.refl _ _ | assumption | refine Ext.alloc ?_ _ | refine Ext.drew ?_ | refine Ext.trans ?_ (by assumption)))).mono ?_
  rintro e w1 ⟨⟨b, rfl, hb⟩, he1⟩
  have R0 : RowAt w1 w.heap.size c.row 24 := ((RowAt.newAt w _ _ rfl).ext (Ext.alloc (Ext.refl _) _)).ext he1
  have R1 : RowAt w1 (w.heap.size + 1) (d.row (.slice A d.blocks.length c1) (.slice A' d.wait.length c1')) 28 := (RowAt.newAt (w.alloc _) _ _ (by simp)).ext he1
  have hE1 : Ext w w1 := (by repeat (first | exact Below.refl _ _ | assumption | refine Ext.alloc ?_ _ | refine Ext.drew ?_ | refine Ext.trans ?_ (by assumption)))
  have g0 := R0.cell 0
  have g1 := R0.cell 1
  have g2 := R0.cell 2
  have g3 := R0.cell 3
  have g4 := R0.cell 4
  have g5 := R0.cell 5
  have d0 := R1.cell 0
  have d1 := R1.cell 1
  have d2 := R1.cell 2
  simp at g0 g1 g2 g3 g4 g5 d0 d1 d2
  cases b
  rotate_left
  · go_wp2
    go_ret
    exact ⟨rfl, hE1⟩
  · have hs := hb rfl
    have Hs := Lib.hid hs
    clear hb hs
    go_wp2_with fail
    refine (Htw.out _ hE1 Hs.out).mono ?_
    rintro e w2 ⟨bv', wv', rfl, hT, he2⟩
    have HT := Lib.hid hT
    obtain ⟨⟨D, f1, rfl, _, _, _⟩, ⟨D', f1', rfl, _, _, _⟩⟩ := hT
    unfold Dk.v
    clear g0 g1 g2 g3 g4 g5 d0 d1 d2
    replace R0 := R0.ext he2
    replace R1 := R1.ext he2
    replace hE1 := Ext.trans hE1 he2
    go_upto_region 4 with fail
    have R7 : RowAt (w2.alloc (.cells #[.slice D d.blocks.length f1, .slice D' d.wait.length f1', .bool d.dead] 28)) w2.heap.size (d.row (.slice D d.blocks.length f1) (.slice D' d.wait.length f1')) 28 := RowAt.newAt w2 _ _ rfl
    have he3 : Ext w2 (w2.alloc (.cells #[.slice D d.blocks.length f1, .slice D' d.wait.length f1', .bool d.dead] 28)) := Ext.alloc (Ext.refl _) _
    have hb7 : w.heap.size + 1 < w2.heap.size := R1.lt
    obtain ⟨b7, hb7'⟩ : ∃ b, b = w2.heap.size := ⟨_, rfl⟩
    rw [← hb7'] at R7 ⊢
    generalize w2.alloc _ = w3 at R7 he3 ⊢
    clear hb7' he1 he2
    replace R0 := R0.ext he3
    replace R1 := R1.ext he3
    replace hE1 := Ext.trans hE1 he3
    have HT3 := Lib.hid (HT.out.ext he3)
    have HR1 := Lib.hid R1
    have HE3 := Lib.hid hE1
    clear HT he3 hb7
    have g0 := R0.cell 0
    have g1 := R0.cell 1
    have g2 := R0.cell 2
    have g3 := R0.cell 3
    have g4 := R0.cell 4
    have g5 := R0.cell 5
    have d0 := R7.cell 0
    have d1 := R7.cell 1
    have d2 := R7.cell 2
    simp at g0 g1 g2 g3 g4 g5 d0 d1 d2
    go_wp2_with fail
    have hrd := deal_Read_any c d _ _ at_ w3 HT3.out
    unfold Dk.v at hrd
    refine hrd.mono ?_
    rintro e w4 ⟨⟨sv, xb, pv, vals, rfl, hGX⟩, he4⟩
    clear hrd g0 g1 g2 g3 g4 g5 d0 d1 d2
    have Han : Hid (∀ (e : Ending) (w' : World), AnsY c d at_ e w' → ∃ sv bv pv, e = .returned (.tuple #[.agg #[U32 (answer c d at_).age, U32 (answer c d at_).seq, I (answer c d at_).deal.stripe, sv, bv, pv], I (answer c d at_).many, I (answer c d at_).err]) ∧ DealAt w' sv bv pv (answer c d at_).deal) := Lib.hid (fun _ _ h => h)
    generalize answer c d at_ = an at hGX Han ⊢
    obtain ⟨age, seq, many, er, D0⟩ := an
    simp only at hGX Han ⊢
    obtain ⟨bs, hbs⟩ : ∃ b, b = w3.heap.size := ⟨_, rfl⟩
    rw [← hbs] at hGX
    have hbs4 : bs ≤ w4.heap.size := by rw [hbs]; exact he4.size
    have HG := Lib.hid hGX
    obtain ⟨⟨⟨S1, s1, rfl, _, _, _⟩, ⟨B1, p1, rfl, hnp, p3, _⟩, ⟨P1, q1, rfl, _, _, _⟩⟩, _, _⟩ := hGX
    go_upto_region 5 with fail
    have R8 : RowAt (w4.alloc (.cells #[U32 age, U32 seq, I D0.stripe, .slice S1 D0.slots.length s1, .slice B1 D0.blocks.length p1, .slice P1 D0.parity.length q1] 36)) w4.heap.size #[U32 age, U32 seq, I D0.stripe, .slice S1 D0.slots.length s1, .slice B1 D0.blocks.length p1, .slice P1 D0.parity.length q1] 36 := RowAt.newAt w4 _ _ rfl
    have he5 : Ext w4 (w4.alloc (.cells #[U32 age, U32 seq, I D0.stripe, .slice S1 D0.slots.length s1, .slice B1 D0.blocks.length p1, .slice P1 D0.parity.length q1] 36)) := Ext.alloc (Ext.refl _) _
    obtain ⟨b8, hb8⟩ : ∃ b, b = w4.heap.size := ⟨_, rfl⟩
    rw [← hb8] at R8 ⊢
    generalize w4.alloc _ = w5 at R8 he5 ⊢
    replace hbs4 : bs ≤ b8 := by omega
    clear hb8
    replace R0 := R0.ext (Ext.trans he4 he5)
    replace R1 := R1.ext (Ext.trans he4 he5)
    replace hE1 := Ext.trans hE1 (Ext.trans he4 he5)
    have hE3 : Ext w3 w5 := Ext.trans he4 he5
    have HG5 := Lib.hid (HG.out.ext he5)
    clear HG he4 he5
    have g0 := R0.cell 0
    have g1 := R0.cell 1
    have g2 := R0.cell 2
    have g3 := R0.cell 3
    have g4 := R0.cell 4
    have g5 := R0.cell 5
    have d0 := R1.cell 0
    have d1 := R1.cell 1
    have d2 := R1.cell 2
    simp at g0 g1 g2 g3 g4 g5 d0 d1 d2
    go_wp2_with fail
    have hrd := ref_dlRead_any c d _ _ at_ w5 (H0.out.ext hE1)
    unfold Dk.v at hrd
    refine hrd.mono ?_
    rintro e w6 ⟨hAY, he6⟩
    obtain ⟨sv, yb, pv, rfl, hY⟩ := Han.out _ _ hAY
    clear hrd g0 g1 g2 g3 g4 g5 d0 d1 d2 hAY
    have HY := Lib.hid hY
    obtain ⟨⟨S2, s2, rfl, _, _, _⟩, ⟨B2, p2, rfl, _, _, _⟩, ⟨P2, q2, rfl, _, _, _⟩⟩ := hY
    go_upto_region 6 with fail
    have R11 : RowAt (w6.alloc (.cells #[U32 age, U32 seq, I D0.stripe, .slice S2 D0.slots.length s2, .slice B2 D0.blocks.length p2, .slice P2 D0.parity.length q2] 36)) w6.heap.size #[U32 age, U32 seq, I D0.stripe, .slice S2 D0.slots.length s2, .slice B2 D0.blocks.length p2, .slice P2 D0.parity.length q2] 36 := RowAt.newAt w6 _ _ rfl
    have he7 : Ext w6 (w6.alloc (.cells #[U32 age, U32 seq, I D0.stripe, .slice S2 D0.slots.length s2, .slice B2 D0.blocks.length p2, .slice P2 D0.parity.length q2] 36)) := Ext.alloc (Ext.refl _) _
    obtain ⟨b11, hb11⟩ : ∃ b, b = w6.heap.size := ⟨_, rfl⟩
    rw [← hb11] at R11 ⊢
    generalize w6.alloc _ = w7 at R11 he7 ⊢
    clear hb11
    replace R8 := R8.ext (Ext.trans he6 he7)
    replace R1 := R1.ext (Ext.trans he6 he7)
    replace hE1 := Ext.trans hE1 (Ext.trans he6 he7)
    replace hE3 := Ext.trans hE3 (Ext.trans he6 he7)
    have HG7 := Lib.hid (HG5.out.ext (Ext.trans he6 he7))
    have HY7 := Lib.hid (HY.out.ext he7)
    clear HG5 HY he6 he7 R0
    have x0 := R8.cell 0
    have x1 := R8.cell 1
    have x2 := R8.cell 2
    have x3 := R8.cell 3
    have x4 := R8.cell 4
    have x5 := R8.cell 5
    have y0 := R11.cell 0
    have y1 := R11.cell 1
    have y2 := R11.cell 2
    have y3 := R11.cell 3
    have y4 := R11.cell 4
    have y5 := R11.cell 5
    simp at x0 x1 x2 x3 x4 x5 y0 y1 y2 y3 y4 y5
    go_wp2_with fail
    have hsm := ref_dlSame D0 _ _ _ _ _ _ w7 HG7.out.at_ HY7.out
    unfold DealD.v at hsm
    refine hsm.mono ?_
    rintro e w8 ⟨rfl, he8⟩
    clear hsm x0 x1 x2 x3 x4 x5 y0 y1 y2 y3 y4 y5
    replace R8 := R8.ext he8
    replace hE1 := Ext.trans hE1 he8
    replace hE3 := Ext.trans hE3 he8
    have HG8 := Lib.hid (HG7.out.ext he8)
    clear HG7 HY7 he8 R1 R11
    go_wp2_with fail
    have hown := HG8.out.row
    have hbyt := HG8.out.each
    have hvl := own_many hown
    obtain ⟨n, hn⟩ : ∃ n, n = D0.blocks.length := ⟨_, rfl⟩
    simp only [← hn] at R8 hown hvl hnp ⊢
    have HR7 := Lib.hid R7
    have HT := Lib.hid HT3
    clear HG8 hn R7 HT3 Han hE1
    unfold Cap at p3
    go_loopw [14] (fun i wr => ∃ k : Nat, k ≤ n ∧ i = .int .i64 k ∧ Ext w3 wr ∧ RowAt wr b8 #[U32 age, U32 seq, I D0.stripe, .slice S1 D0.slots.length s1, .slice B1 n p1, .slice P1 D0.parity.length q1] 36 ∧ wr.ownsRow bs 32 1 (.slice B1 n p1) n vals ∧ ∀ v ∈ vals, Byt bs wr v) (fun i _ => n - (intOf i).toNat)
    case atStart => exact ⟨0, Nat.zero_le _, rfl, hE3, R8, hown, hbyt⟩
    case round =>
      obtain ⟨k, hk, rfl, he, hr8, hrow, heach⟩ := hrel
      clear hE3 R8 hown hbyt
      have K8 := hr8.cell 4
      simp at K8
      by_cases hlt : k < n
      · obtain ⟨g, cap, cur, hg1, hg2, hg3, hg4⟩ := own_cells hrow (by omega)
        obtain ⟨rfl, -, rfl⟩ : B1 = some ⟨g, 0, none⟩ ∧ n = n ∧ p1 = cap := by simpa using hg1
        have hck := hg4 k (by omega)
        have hbk := heach vals[k] (List.getElem_mem (by omega))
        obtain ⟨g2, cap2, cur2, kk, hv, hb2, hr2, hc2⟩ := hbk
        rw [hv] at hck
        have hb0 := hr2.cell 0
        rw [hc2] at hb0
        have hf0 := hr2.free 0
        have HB2 := Lib.hid hb2
        have HR2 := Lib.hid hr2
        have HRow := Lib.hid hrow
        have HEach := Lib.hid heach
        have HR8 := Lib.hid hr8
        clear hg1 hg2 hg3 hg4 hv hc2 hb2 hr2 hrow heach hr8
        go_upto_region 13 with fail
        refine wp_lexi (by kernel_rfl) rfl [(0, false, []), (0, false, []), (1, true, []), (0, false, []), (0, false, []), (1, true, []), (0, false, []), (0, false, []), (1, true, []), (0, false, []), (0, false, []), (1, true, []), (0, false, []), (1, true, []), (0, false, []), (0, false, []), (2, true, []), (0, false, [16])] (by kernel_rfl) (fun _ _ _ _ => True) ?_
        intro lL lT lP lQ HL HT HP HQ
        iterate 2 (refine EWi.pure (by rw [HL.out]; rfl) (by rw [HT.out]; rfl) rfl ?_; intro w0; unfold runPlain; simp [go_sem, hlt])
        refine EWi.read (by rw [HL.out]; rfl) (by rw [HT.out]; rfl) rfl ?_; intro w0 h0; have e0 := h0.ext; have x0 := e0.cells K8; have x1 := e0.cells hck; have x2 := e0.cells hb0; unfold runPlain; simp [go_sem, x0, x1, x2, hlt]; refine ⟨(by repeat (first | exact Below.refl _ _ | assumption | refine Ext.alloc ?_ _ | refine Ext.drew ?_ | refine Ext.trans ?_ (by assumption))), ?_⟩; clear e0 h0 x0 x1 x2
        iterate 2 (refine EWi.pure (by rw [HL.out]; rfl) (by rw [HT.out]; rfl) rfl ?_; intro w0; unfold runPlain; simp [go_sem, hlt])
        refine EWi.read (by rw [HL.out]; rfl) (by rw [HT.out]; rfl) rfl ?_; intro w0 h0; have e0 := h0.ext; have x0 := e0.cells K8; have x1 := e0.cells hck; have x2 := e0.cells hb0; unfold runPlain; simp [go_sem, x0, x1, x2, hlt]; refine ⟨(by repeat (first | exact Below.refl _ _ | assumption | refine Ext.alloc ?_ _ | refine Ext.drew ?_ | refine Ext.trans ?_ (by assumption))), ?_⟩; clear e0 h0 x0 x1 x2
        iterate 2 (refine EWi.pure (by rw [HL.out]; rfl) (by rw [HT.out]; rfl) rfl ?_; intro w0; unfold runPlain; simp [go_sem, hlt])
        refine EWi.read (by rw [HL.out]; rfl) (by rw [HT.out]; rfl) rfl ?_; intro w0 h0; have e0 := h0.ext; have x0 := e0.cells K8; have x1 := e0.cells hck; have x2 := e0.cells hb0; unfold runPlain; simp [go_sem, x0, x1, x2, hlt]; refine ⟨(by repeat (first | exact Below.refl _ _ | assumption | refine Ext.alloc ?_ _ | refine Ext.drew ?_ | refine Ext.trans ?_ (by assumption))), ?_⟩; clear e0 h0 x0 x1 x2
        iterate 2 (refine EWi.pure (by rw [HL.out]; rfl) (by rw [HT.out]; rfl) rfl ?_; intro w0; unfold runPlain; simp [go_sem, hlt])
        refine EWi.read (by rw [HL.out]; rfl) (by rw [HT.out]; rfl) rfl ?_; intro w0 h0; have e0 := h0.ext; have x0 := e0.cells K8; have x1 := e0.cells hck; have x2 := e0.cells hb0; unfold runPlain; simp [go_sem, x0, x1, x2, hlt]; refine ⟨(by repeat (first | exact Below.refl _ _ | assumption | refine Ext.alloc ?_ _ | refine Ext.drew ?_ | refine Ext.trans ?_ (by assumption))), ?_⟩; clear e0 h0 x0 x1 x2
        refine EWi.pure (by rw [HL.out]; rfl) (by rw [HT.out]; rfl) rfl ?_; intro w0; unfold runPlain; simp [go_sem, hlt]
        refine EWi.read (by rw [HL.out]; rfl) (by rw [HT.out]; rfl) rfl ?_; intro w0 h0; have e0 := h0.ext; have x0 := e0.cells K8; have x1 := e0.cells hck; have x2 := e0.cells hb0; unfold runPlain; simp [go_sem, x0, x1, x2, hlt]; refine ⟨(by repeat (first | exact Below.refl _ _ | assumption | refine Ext.alloc ?_ _ | refine Ext.drew ?_ | refine Ext.trans ?_ (by assumption))), ?_⟩; clear e0 h0 x0 x1 x2
        iterate 2 (refine EWi.pure (by rw [HL.out]; rfl) (by rw [HT.out]; rfl) rfl ?_; intro w0; unfold runPlain; simp [go_sem, hlt])
        refine EWi.write (by rw [HL.out]; rfl) (by rw [HT.out]; rfl) rfl ?_
        intro w16 h16
        have e16 := h16.ext
        have hb0' := e16.cells hb0
        have hf0' := (HR2.out.ext e16).free 0
        unfold runPlain
        simp [go_sem, hb0', hf0']
        refine EWi.fin (by rw [HL.out]; rfl) (by rw [HT.out]; rfl) (by rw [HT.out]; rfl) ?_
        intro W hW
        have eW := hW.2 16 (by simp)
        rw [HQ.out]
        go_wp2
        go_roundw
        case rel =>
          refine ⟨k + 1, by omega, by go_num, Ext.trans ((Ext.trans he e16).setCell (by rw [← hbs]; exact HB2.out) _) eW, ?_, ?_, ?_⟩
          · exact (RowAt.other (HR8.out.ext e16) (p := ⟨g2, 0, none⟩) (RowAt.ne (HR2.out.ext e16) (HR8.out.ext e16) (by decide)) _).ext eW
          · exact own_ext (own_set (own_ext HRow.out e16) (HR2.out.ext e16) (by decide) 0 _) eW
          · intro v hv
            exact (((HEach.out v hv).ext e16).set g2 _).ext eW
        case measure => simp [intOf]; omega
      · obtain rfl : k = n := by omega
        have r7 := HR7.out.ext he
        have r1 := HR1.out.ext he
        have g0 := r7.cell 0
        have g1 := r7.cell 1
        have g2 := r7.cell 2
        have d0 := r1.cell 0
        have d1 := r1.cell 1
        have d2 := r1.cell 2
        simp at g0 g1 g2 d0 d1 d2
        clear r7 r1 hr8 hrow heach
        go_wp2_with fail
        have hsm := ref_dSame d _ _ _ _ wr (HT.out.ext he) (H0.out.ext (Ext.trans HE3.out he)) Hs.out
        unfold Dk.v at hsm
        refine hsm.mono ?_
        rintro e w9 ⟨rfl, he9⟩
        go_wp2
        go_ret
        exact ⟨rfl, Ext.trans HE3.out (Ext.trans he he9)⟩

end Go.Proofs.Ytancfgmaejjooaa
