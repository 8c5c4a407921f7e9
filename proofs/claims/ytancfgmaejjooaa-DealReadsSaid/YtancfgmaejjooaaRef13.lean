/- The document's devices: two that have the same data are the same. -/
import Derived.Test.YtancfgmaejjooaaRef10
import Derived.Test.YtancfgmaejjooaaOwn2
set_option linter.unusedVariables false
set_option linter.unusedSimpArgs false
namespace Go.Proofs.Ytancfgmaejjooaa
open Go.RowKit
attribute [local go_sem] str_list

theorem fit_whole {x : List UInt8} (h : x.length ≤ 60000) : Fit (whole x).length := by
  unfold whole
  split
  · rw [zeros_len]; unfold Fit; decide
  · unfold Fit; omega

set_option maxRecDepth 100000 in
set_option maxHeartbeats 2000000 in
theorem ref_dSame (d : Dk) (bv wv bv' wv' : Value) (w : World) (h : DkAt w bv wv d) (h' : DkAt w bv' wv' d) (hs : d.Small) :
    Calls Try.prog 24 #[d.v bv wv, d.v bv' wv'] w fun e w' => e = .returned (.bool true) ∧ Ext w w' := by
  obtain ⟨⟨A, c, rfl, a1, a2, a3⟩, ⟨A', c', rfl, b1, b2, b3⟩⟩ := h
  obtain ⟨⟨D, c1, rfl, d1, d2, d3⟩, ⟨D', c1', rfl, e1, e2, e3⟩⟩ := h'
  unfold Cap at a2 b2 d2 e2
  obtain ⟨s1, s2, s3, s4⟩ := hs
  have Hs3 := Lib.hid s3
  have Hs4 := Lib.hid s4
  clear s3 s4
  obtain ⟨W0, hW0⟩ : ∃ W0, W0 = (w.alloc (.cells (d.row (.slice A d.blocks.length c) (.slice A' d.wait.length c')) 28)).alloc (.cells (d.row (.slice D d.blocks.length c1) (.slice D' d.wait.length c1')) 28) := ⟨_, rfl⟩
  have hE : Ext w W0 := by rw [hW0]; exact (by repeat (first | exact Below.refl _ _ | assumption | refine Ext.alloc ?_ _ | refine Ext.drew ?_ | refine Ext.trans ?_ (by assumption)))
  have x3 := a3.ext hE
  have y3 := b3.ext hE
  have x3' := d3.ext hE
  have y3' := e3.ext hE
  have k0 : W0.cell? ⟨w.heap.size, 0, none⟩ = some (.slice A d.blocks.length c) := by rw [hW0]; simp
  have k1 : W0.cell? ⟨w.heap.size, 1, none⟩ = some (.slice A' d.wait.length c') := by rw [hW0]; simp
  have k2 : W0.cell? ⟨w.heap.size, 2, none⟩ = some (.bool d.dead) := by rw [hW0]; simp
  have m0 : W0.cell? ⟨w.heap.size + 1, 0, none⟩ = some (.slice D d.blocks.length c1) := by rw [hW0]; simp
  have m1 : W0.cell? ⟨w.heap.size + 1, 1, none⟩ = some (.slice D' d.wait.length c1') := by rw [hW0]; simp
  have m2 : W0.cell? ⟨w.heap.size + 1, 2, none⟩ = some (.bool d.dead) := by rw [hW0]; simp
  clear a3 b3 d3 e3
  go_enter Try.func24, Try.ntmps24
  go_upto_region 1 with fail
  rw [← hW0]
  clear hW0
  go_wp2
  clear k2 m2
  go_loopw [5] (fun i wr => ∃ k : Nat, k ≤ d.blocks.length ∧ i = .int .i64 k ∧ Ext W0 wr) (fun i _ => d.blocks.length - (intOf i).toNat)
  case atStart => exact ⟨0, Nat.zero_le _, rfl, Ext.refl _⟩
  case round =>
    obtain ⟨k, hk, rfl, he⟩ := hrel
    have K0 := he.cells k0
    have M0 := he.cells m0
    by_cases hlt : k < d.blocks.length
    · obtain ⟨b, off, rfl, hc⟩ := slice_at (x3.ext he) (by omega)
      obtain ⟨A2, c2, hcj, g1, g2, g3⟩ := hc k hlt
      obtain ⟨b', off', rfl, hc'⟩ := slice_at (x3'.ext he) (by omega)
      obtain ⟨A3, c3, hcj', g1', g2', g3'⟩ := hc' k hlt
      have hx60 := Hs3.out _ (List.getElem_mem hlt)
      obtain ⟨x, hx⟩ : ∃ x, x = d.blocks[k] := ⟨_, rfl⟩
      rw [← hx] at hcj g1 g3 hx60 hcj' g1' g3'
      have hfit := (show Fit x.length by unfold Fit; omega)
      have hfw := fit_whole hx60
      have Hf := Lib.hid hfit
      clear hc hc' hx x3 x3' y3 y3' hfit k0 m0 k1 m1
      go_upto_region 6 with fail
      refine wp_lexi (by kernel_rfl) rfl [(0, false, []), (1, true, []), (0, false, []), (0, false, []), (1, true, []), (3, true, []), (1, true, [5]), (0, false, []), (1, true, []), (0, false, []), (0, false, []), (1, true, []), (3, true, []), (1, true, [12]), (0, false, []), (0, true, [])] (by kernel_rfl) (fun _ w0 v w1 => w1.ownsRow w0.heap.size 5 1 v (whole x).length ((whole x).map B)) ?_
      intro lL lT lP lQ HL HT HP HQ
      refine EWi.pure (by rw [HL.out]; rfl) (by rw [HT.out]; rfl) rfl ?_; intro w0; unfold runPlain; simp [go_sem, hlt]
      refine EWi.read (by rw [HL.out]; rfl) (by rw [HT.out]; rfl) rfl ?_; intro w0 h0; have e0 := h0.ext; have x0 := e0.cells K0; have x1 := e0.cells hcj; unfold runPlain; simp [go_sem, x0, x1, hlt]; refine ⟨(by repeat (first | exact Below.refl _ _ | assumption | refine Ext.alloc ?_ _ | refine Ext.drew ?_ | refine Ext.trans ?_ (by assumption))), ?_⟩; clear e0 h0 x0 x1
      refine EWi.pure (by rw [HL.out]; rfl) (by rw [HT.out]; rfl) rfl ?_; intro w0; unfold runPlain; simp [go_sem, hlt]
      refine EWi.pure (by rw [HL.out]; rfl) (by rw [HT.out]; rfl) rfl ?_; intro w0; unfold runPlain; simp [go_sem, hlt]
      refine EWi.read (by rw [HL.out]; rfl) (by rw [HT.out]; rfl) rfl ?_; intro w0 h0; have e0 := h0.ext; have x0 := e0.cells K0; have x1 := e0.cells hcj; unfold runPlain; simp [go_sem, x0, x1, hlt]; refine ⟨(by repeat (first | exact Below.refl _ _ | assumption | refine Ext.alloc ?_ _ | refine Ext.drew ?_ | refine Ext.trans ?_ (by assumption))), ?_⟩; clear e0 h0 x0 x1
      refine EWi.call (by rw [HL.out]; rfl) (by rw [HT.out]; rfl) rfl ?_ ?_
      · intro w0 h0
        unfold runOp
        simp [go_sem]
        rw [HP.out]
        refine (ref_Full _ x w0 ⟨A2, c2, rfl, g1, g2, g3.ext h0.ext⟩ Hf.out).mono ?_
        rintro e w1 ⟨v, rfl, ho, he1⟩
        exact ⟨_, rfl, he1, ho⟩
      intro w5 u5 w5' h5 he5 hp5
      rw [HP.out] at hp5
      obtain ⟨uA, uc, rfl⟩ := own_slice hp5
      refine EWi.read (by rw [HL.out]; rfl) (by rw [HT.out]; rfl) rfl ?_
      intro w6 h6
      have e6 := h6.2 5 (by simp)
      replace e6 : Ext w5' w6 := e6
      have hs6 := conv_sl ((own_bytes hp5).ext e6)
      unfold runPlain
      simp [go_sem, hs6]
      refine ⟨Ext.refl _, ?_⟩
      refine EWi.pure (by rw [HL.out]; rfl) (by rw [HT.out]; rfl) rfl ?_; intro w0; unfold runPlain; simp [go_sem, hlt]
      refine EWi.read (by rw [HL.out]; rfl) (by rw [HT.out]; rfl) rfl ?_; intro w0 h0; have e0 := h0.ext; have x0 := e0.cells M0; have x1 := e0.cells hcj'; unfold runPlain; simp [go_sem, x0, x1, hlt]; refine ⟨(by repeat (first | exact Below.refl _ _ | assumption | refine Ext.alloc ?_ _ | refine Ext.drew ?_ | refine Ext.trans ?_ (by assumption))), ?_⟩; clear e0 h0 x0 x1
      refine EWi.pure (by rw [HL.out]; rfl) (by rw [HT.out]; rfl) rfl ?_; intro w0; unfold runPlain; simp [go_sem, hlt]
      refine EWi.pure (by rw [HL.out]; rfl) (by rw [HT.out]; rfl) rfl ?_; intro w0; unfold runPlain; simp [go_sem, hlt]
      refine EWi.read (by rw [HL.out]; rfl) (by rw [HT.out]; rfl) rfl ?_; intro w0 h0; have e0 := h0.ext; have x0 := e0.cells M0; have x1 := e0.cells hcj'; unfold runPlain; simp [go_sem, x0, x1, hlt]; refine ⟨(by repeat (first | exact Below.refl _ _ | assumption | refine Ext.alloc ?_ _ | refine Ext.drew ?_ | refine Ext.trans ?_ (by assumption))), ?_⟩; clear e0 h0 x0 x1
      refine EWi.call (by rw [HL.out]; rfl) (by rw [HT.out]; rfl) rfl ?_ ?_
      · intro w0 h0
        unfold runOp
        simp [go_sem]
        rw [HP.out]
        refine (ref_Full _ x w0 ⟨A3, c3, rfl, g1', g2', g3'.ext h0.ext⟩ Hf.out).mono ?_
        rintro e w1 ⟨v, rfl, ho, he1⟩
        exact ⟨_, rfl, he1, ho⟩
      intro w12 u12 w12' h12 he12 hp12
      rw [HP.out] at hp12
      obtain ⟨uA', uc', rfl⟩ := own_slice hp12
      refine EWi.read (by rw [HL.out]; rfl) (by rw [HT.out]; rfl) rfl ?_
      intro w13 h13
      have e13 := h13.2 12 (by simp)
      replace e13 : Ext w12' w13 := e13
      have hs13 := conv_sl ((own_bytes hp12).ext e13)
      unfold runPlain
      simp [go_sem, hs13]
      refine ⟨Ext.refl _, ?_⟩
      refine EWi.pure (by rw [HL.out]; rfl) (by rw [HT.out]; rfl) rfl ?_; intro w0; unfold runPlain; simp [go_sem]
      refine EWi.fin (by rw [HL.out]; rfl) (by rw [HT.out]; rfl) (by rw [HT.out]; rfl) ?_
      intro W hW
      rw [HQ.out]
      go_wp2
      go_roundw
      case rel => exact ⟨k + 1, by omega, by go_num, Ext.trans he hW.ext⟩
      case measure => simp [intOf]; omega
    · obtain rfl : k = d.blocks.length := by omega
      clear x3 x3' k0 m0
      replace y3 := y3.ext he
      replace y3' := y3'.ext he
      replace k1 := he.cells k1
      replace m1 := he.cells m1
      replace hE := Ext.trans hE he
      clear he
      go_wp2
      clear K0 M0
      go_loopw [6] (fun i wx => ∃ k : Nat, k ≤ d.wait.length ∧ i = .int .i64 k ∧ Ext wr wx) (fun i _ => d.wait.length - (intOf i).toNat)
      case atStart => exact ⟨0, Nat.zero_le _, rfl, Ext.refl _⟩
      case round =>
        obtain ⟨k, hk, rfl, he⟩ := hrel
        have K0 := he.cells k1
        have M0 := he.cells m1
        by_cases hlt : k < d.wait.length
        · obtain ⟨b, off, rfl, hc⟩ := wr_at (y3.ext he) (by omega)
          obtain ⟨A2, c2, hca, hcj, g1, g2, g3⟩ := hc k hlt
          obtain ⟨b', off', rfl, hc'⟩ := wr_at (y3'.ext he) (by omega)
          obtain ⟨A3, c3, hca', hcj', g1', g2', g3'⟩ := hc' k hlt
          have hx60 := Hs4.out _ (List.getElem_mem hlt)
          obtain ⟨x, hx⟩ : ∃ x, x = d.wait[k].data := ⟨_, rfl⟩
          obtain ⟨xa, hxa⟩ : ∃ x, x = d.wait[k].at_ := ⟨_, rfl⟩
          rw [← hx] at hcj g1 g3 hx60 hcj' g1' g3'
          rw [← hxa] at hca hca'
          have hfit := (show Fit x.length by unfold Fit; omega)
          have Hf := Lib.hid hfit
          clear hc hc' hx hxa y3 y3' hfit k1 m1
          go_upto_region 11 with fail
          refine wp_lexi (by kernel_rfl) rfl [(0, false, []), (1, true, []), (0, false, []), (0, false, []), (0, false, []), (1, true, []), (0, false, []), (1, true, []), (0, false, []), (0, false, []), (0, false, []), (1, true, []), (0, false, []), (0, false, []), (0, false, []), (1, true, []), (0, false, []), (0, false, []), (0, false, []), (1, true, []), (3, true, []), (1, true, [20]), (0, false, []), (1, true, []), (0, false, []), (0, false, []), (0, false, []), (1, true, []), (3, true, []), (1, true, [28]), (0, false, []), (0, false, []), (0, true, [])] (by kernel_rfl) (fun _ w0 v w1 => w1.ownsRow w0.heap.size 5 1 v (whole x).length ((whole x).map B)) ?_
          intro lL lT lP lQ HL HT HP HQ
          refine EWi.pure (by rw [HL.out]; rfl) (by rw [HT.out]; rfl) rfl ?_; intro w0; unfold runPlain; simp [go_sem, hlt]
          refine EWi.read (by rw [HL.out]; rfl) (by rw [HT.out]; rfl) rfl ?_; intro w0 h0; have e0 := h0.ext; have x0 := e0.cells K0; have x1 := e0.cells M0; have x2 := e0.cells hca; have x3 := e0.cells hca'; have x4 := e0.cells hcj; have x5 := e0.cells hcj'; unfold runPlain; simp [go_sem, x0, x1, x2, x3, x4, x5, hlt]; refine ⟨(by repeat (first | exact Below.refl _ _ | assumption | refine Ext.alloc ?_ _ | refine Ext.drew ?_ | refine Ext.trans ?_ (by assumption))), ?_⟩; clear e0 h0 x0 x1 x2 x3 x4 x5
          iterate 3 (refine EWi.pure (by rw [HL.out]; rfl) (by rw [HT.out]; rfl) rfl ?_; intro w0; unfold runPlain; simp [go_sem, hlt])
          refine EWi.read (by rw [HL.out]; rfl) (by rw [HT.out]; rfl) rfl ?_; intro w0 h0; have e0 := h0.ext; have x0 := e0.cells K0; have x1 := e0.cells M0; have x2 := e0.cells hca; have x3 := e0.cells hca'; have x4 := e0.cells hcj; have x5 := e0.cells hcj'; unfold runPlain; simp [go_sem, x0, x1, x2, x3, x4, x5, hlt]; refine ⟨(by repeat (first | exact Below.refl _ _ | assumption | refine Ext.alloc ?_ _ | refine Ext.drew ?_ | refine Ext.trans ?_ (by assumption))), ?_⟩; clear e0 h0 x0 x1 x2 x3 x4 x5
          refine EWi.pure (by rw [HL.out]; rfl) (by rw [HT.out]; rfl) rfl ?_; intro w0; unfold runPlain; simp [go_sem, hlt]
          refine EWi.read (by rw [HL.out]; rfl) (by rw [HT.out]; rfl) rfl ?_; intro w0 h0; have e0 := h0.ext; have x0 := e0.cells K0; have x1 := e0.cells M0; have x2 := e0.cells hca; have x3 := e0.cells hca'; have x4 := e0.cells hcj; have x5 := e0.cells hcj'; unfold runPlain; simp [go_sem, x0, x1, x2, x3, x4, x5, hlt]; refine ⟨(by repeat (first | exact Below.refl _ _ | assumption | refine Ext.alloc ?_ _ | refine Ext.drew ?_ | refine Ext.trans ?_ (by assumption))), ?_⟩; clear e0 h0 x0 x1 x2 x3 x4 x5
          iterate 3 (refine EWi.pure (by rw [HL.out]; rfl) (by rw [HT.out]; rfl) rfl ?_; intro w0; unfold runPlain; simp [go_sem, hlt])
          refine EWi.read (by rw [HL.out]; rfl) (by rw [HT.out]; rfl) rfl ?_; intro w0 h0; have e0 := h0.ext; have x0 := e0.cells K0; have x1 := e0.cells M0; have x2 := e0.cells hca; have x3 := e0.cells hca'; have x4 := e0.cells hcj; have x5 := e0.cells hcj'; unfold runPlain; simp [go_sem, x0, x1, x2, x3, x4, x5, hlt]; refine ⟨(by repeat (first | exact Below.refl _ _ | assumption | refine Ext.alloc ?_ _ | refine Ext.drew ?_ | refine Ext.trans ?_ (by assumption))), ?_⟩; clear e0 h0 x0 x1 x2 x3 x4 x5
          iterate 2 (refine EWi.pure (by rw [HL.out]; rfl) (by rw [HT.out]; rfl) rfl ?_; intro w0; unfold runPlain; simp [go_sem, hlt])
          refine EWi.pure (by rw [HL.out]; rfl) (by rw [HT.out]; rfl) (by simp [wantedV, upd, boolOf_undef, boolOf_bool, hlt]) ?_; intro w0; unfold runPlain; simp [go_sem, hlt]
          refine EWi.read (by rw [HL.out]; rfl) (by rw [HT.out]; rfl) (by simp [wantedV, upd, boolOf_undef, boolOf_bool, hlt]) ?_; intro w0 h0; have e0 := h0.ext; have x0 := e0.cells K0; have x1 := e0.cells M0; have x2 := e0.cells hca; have x3 := e0.cells hca'; have x4 := e0.cells hcj; have x5 := e0.cells hcj'; unfold runPlain; simp [go_sem, x0, x1, x2, x3, x4, x5, hlt]; refine ⟨(by repeat (first | exact Below.refl _ _ | assumption | refine Ext.alloc ?_ _ | refine Ext.drew ?_ | refine Ext.trans ?_ (by assumption))), ?_⟩; clear e0 h0 x0 x1 x2 x3 x4 x5
          iterate 3 (refine EWi.pure (by rw [HL.out]; rfl) (by rw [HT.out]; rfl) (by simp [wantedV, upd, boolOf_undef, boolOf_bool, hlt]) ?_; intro w0; unfold runPlain; simp [go_sem, hlt])
          refine EWi.read (by rw [HL.out]; rfl) (by rw [HT.out]; rfl) (by simp [wantedV, upd, boolOf_undef, boolOf_bool, hlt]) ?_; intro w0 h0; have e0 := h0.ext; have x0 := e0.cells K0; have x1 := e0.cells M0; have x2 := e0.cells hca; have x3 := e0.cells hca'; have x4 := e0.cells hcj; have x5 := e0.cells hcj'; unfold runPlain; simp [go_sem, x0, x1, x2, x3, x4, x5, hlt]; refine ⟨(by repeat (first | exact Below.refl _ _ | assumption | refine Ext.alloc ?_ _ | refine Ext.drew ?_ | refine Ext.trans ?_ (by assumption))), ?_⟩; clear e0 h0 x0 x1 x2 x3 x4 x5
          refine EWi.call (by rw [HL.out]; rfl) (by rw [HT.out]; rfl) (by simp [wantedV, upd, boolOf]) ?_ ?_
          · intro w0 h0
            unfold runOp
            simp [go_sem]
            rw [HP.out]
            refine (ref_Full _ x w0 ⟨A2, c2, rfl, g1, g2, g3.ext h0.ext⟩ Hf.out).mono ?_
            rintro e w1 ⟨v, rfl, ho, he1⟩
            exact ⟨_, rfl, he1, ho⟩
          intro w5 u5 w5' h5 he5 hp5
          rw [HP.out] at hp5
          obtain ⟨uA, uc, rfl⟩ := own_slice hp5
          refine EWi.read (by rw [HL.out]; rfl) (by rw [HT.out]; rfl) (by simp [wantedV, upd, boolOf]) ?_
          intro w6 h6
          have e6 := h6.2 20 (by simp)
          replace e6 : Ext w5' w6 := e6
          have hs6 := conv_sl ((own_bytes hp5).ext e6)
          unfold runPlain
          simp [go_sem, hs6]
          refine ⟨Ext.refl _, ?_⟩
          refine EWi.pure (by rw [HL.out]; rfl) (by rw [HT.out]; rfl) (by simp [wantedV, upd, boolOf_undef, boolOf_bool, hlt]) ?_; intro w0; unfold runPlain; simp [go_sem, hlt]
          refine EWi.read (by rw [HL.out]; rfl) (by rw [HT.out]; rfl) (by simp [wantedV, upd, boolOf_undef, boolOf_bool, hlt]) ?_; intro w0 h0; have e0 := h0.ext; have x0 := e0.cells K0; have x1 := e0.cells M0; have x2 := e0.cells hca; have x3 := e0.cells hca'; have x4 := e0.cells hcj; have x5 := e0.cells hcj'; unfold runPlain; simp [go_sem, x0, x1, x2, x3, x4, x5, hlt]; refine ⟨(by repeat (first | exact Below.refl _ _ | assumption | refine Ext.alloc ?_ _ | refine Ext.drew ?_ | refine Ext.trans ?_ (by assumption))), ?_⟩; clear e0 h0 x0 x1 x2 x3 x4 x5
          iterate 3 (refine EWi.pure (by rw [HL.out]; rfl) (by rw [HT.out]; rfl) (by simp [wantedV, upd, boolOf_undef, boolOf_bool, hlt]) ?_; intro w0; unfold runPlain; simp [go_sem, hlt])
          refine EWi.read (by rw [HL.out]; rfl) (by rw [HT.out]; rfl) (by simp [wantedV, upd, boolOf_undef, boolOf_bool, hlt]) ?_; intro w0 h0; have e0 := h0.ext; have x0 := e0.cells K0; have x1 := e0.cells M0; have x2 := e0.cells hca; have x3 := e0.cells hca'; have x4 := e0.cells hcj; have x5 := e0.cells hcj'; unfold runPlain; simp [go_sem, x0, x1, x2, x3, x4, x5, hlt]; refine ⟨(by repeat (first | exact Below.refl _ _ | assumption | refine Ext.alloc ?_ _ | refine Ext.drew ?_ | refine Ext.trans ?_ (by assumption))), ?_⟩; clear e0 h0 x0 x1 x2 x3 x4 x5
          refine EWi.call (by rw [HL.out]; rfl) (by rw [HT.out]; rfl) (by simp [wantedV, upd, boolOf]) ?_ ?_
          · intro w0 h0
            unfold runOp
            simp [go_sem]
            rw [HP.out]
            refine (ref_Full _ x w0 ⟨A3, c3, rfl, g1', g2', g3'.ext h0.ext⟩ Hf.out).mono ?_
            rintro e w1 ⟨v, rfl, ho, he1⟩
            exact ⟨_, rfl, he1, ho⟩
          intro w12 u12 w12' h12 he12 hp12
          rw [HP.out] at hp12
          obtain ⟨uA', uc', rfl⟩ := own_slice hp12
          refine EWi.read (by rw [HL.out]; rfl) (by rw [HT.out]; rfl) (by simp [wantedV, upd, boolOf]) ?_
          intro w13 h13
          have e13 := h13.2 28 (by simp)
          replace e13 : Ext w12' w13 := e13
          have hs13 := conv_sl ((own_bytes hp12).ext e13)
          unfold runPlain
          simp [go_sem, hs13]
          refine ⟨Ext.refl _, ?_⟩
          refine EWi.pure (by rw [HL.out]; rfl) (by rw [HT.out]; rfl) (by simp [wantedV, upd, boolOf_undef, boolOf_bool]) ?_; intro w0; unfold runPlain; simp [go_sem]
          refine EWi.pure (by rw [HL.out]; rfl) (by rw [HT.out]; rfl) rfl ?_; intro w0; unfold runPlain; simp [go_sem]
          refine EWi.fin (by rw [HL.out]; rfl) (by rw [HT.out]; rfl) (by rw [HT.out]; rfl) ?_
          intro W hW
          rw [HQ.out]
          go_wp2
          go_roundw
          case rel => exact ⟨k + 1, by omega, by go_num, Ext.trans he hW.ext⟩
          case measure => simp [intOf]; omega
        · obtain rfl : k = d.wait.length := by omega
          go_wp2
          go_ret
          exact ⟨rfl, Ext.trans hE he⟩

end Go.Proofs.Ytancfgmaejjooaa
