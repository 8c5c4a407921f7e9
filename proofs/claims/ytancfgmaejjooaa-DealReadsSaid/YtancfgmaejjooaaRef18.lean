/- The document's deals: may one be? A config's journal. -/
import Derived.Test.YtancfgmaejjooaaRef17
import Derived.Test.YtancfgmaejjooaaRef3
set_option linter.unusedVariables false
set_option linter.unusedSimpArgs false
namespace Go.Proofs.Ytancfgmaejjooaa
open Go.RowKit

theorem any_odd_step {bs : List (List UInt8)} {k : Nat} (hk : k < bs.length) (h : (bs.take k).any oddB = false) (h' : isBlock bs[k] = true) : (bs.take (k + 1)).any oddB = false := any_step hk h (by unfold oddB; rw [h']; rfl)
theorem isBlock_iff (x : List UInt8) : isBlock x = (decide (x.length = 0) || decide (x.length = 128)) := by
  unfold isBlock
  rw [Bool.eq_iff_iff]
  simp

set_option maxRecDepth 100000 in
set_option maxHeartbeats 4000000 in
theorem ref_dlMay (c : Cfg) (d : DealD) (sv bv pv : Value) (w : World) (h : DealAt w sv bv pv d) (hc : c.may = true) :
    Calls Try.prog 125 #[c.v, d.v sv bv pv] w fun e w' => e = .returned (.bool (d.may c)) ∧ Ext w w' := by
  have h0 := h
  have hl := may_log hc
  have hcr : 0 ≤ c.chunk * c.rows ∧ c.chunk * c.rows ≤ 64 := ⟨Int.mul_nonneg (by omega) (by omega), Int.mul_le_mul (c := 8) (d := 8) (by omega) (by omega) (by omega) (by omega)⟩
  have hst : ∀ w, Calls Try.prog 175 #[c.v] w fun e w' => e = .returned (I (c.chunk * c.rows)) ∧ Ext w w' := fun w => by
    have := ref_Stripes c w
    rwa [show wrap64 (c.chunk * c.rows) = c.chunk * c.rows by unfold wrap64; omega] at this
  obtain ⟨st, hst0⟩ : ∃ st, st = c.chunk * c.rows := ⟨_, rfl⟩
  obtain ⟨a, ha⟩ : ∃ a, d.blocks.any oddB = a := ⟨_, rfl⟩
  obtain ⟨s, hs⟩ : ∃ s, slotsMay c.members d.slots = s := ⟨_, rfl⟩
  have hM := deal_may_of c d a s ha hs
  have hsl := fun w1 (he : Ext w w1) => ref_slots13 c _ d.slots w1 (h0.1.ext he) ⟨hl.1, hl.2.1⟩
  rw [hs] at hsl
  rw [← hst0] at hst hM
  have Hst := Lib.hid hst
  have Hsl := Lib.hid hsl
  have HM := Lib.hid hM
  have Ha := Lib.hid ha
  obtain ⟨⟨A1, c1, rfl, a1, a2, a3⟩, ⟨A2, c2, rfl, b1, b2, b3⟩, ⟨A3, c3, rfl, d1, d2, d3⟩⟩ := h
  unfold Cap at a2 b2 d2
  obtain ⟨W0, hW0⟩ : ∃ W0, W0 = (w.alloc (.cells c.row 24)).alloc (.cells #[I d.stripe, .slice A1 d.slots.length c1, .slice A2 d.blocks.length c2, .slice A3 d.parity.length c3] 34) := ⟨_, rfl⟩
  have hE : Ext w W0 := by rw [hW0]; exact (by repeat (first | exact Below.refl _ _ | assumption | refine Ext.alloc ?_ _ | refine Ext.drew ?_ | refine Ext.trans ?_ (by assumption)))
  have y3 := b3.ext hE
  have g0 : W0.cell? ⟨w.heap.size, 0, none⟩ = some (U32 c.id) := by rw [hW0]; simp
  have g1 : W0.cell? ⟨w.heap.size, 1, none⟩ = some (I c.members) := by rw [hW0]; simp
  have g2 : W0.cell? ⟨w.heap.size, 2, none⟩ = some (I c.chunk) := by rw [hW0]; simp
  have g3 : W0.cell? ⟨w.heap.size, 3, none⟩ = some (I c.rows) := by rw [hW0]; simp
  have g4 : W0.cell? ⟨w.heap.size, 4, none⟩ = some (I c.log) := by rw [hW0]; simp
  have g5 : W0.cell? ⟨w.heap.size, 5, none⟩ = some (I c.heads) := by rw [hW0]; simp
  have k0 : W0.cell? ⟨w.heap.size + 1, 0, none⟩ = some (I d.stripe) := by rw [hW0]; simp
  have k1 : W0.cell? ⟨w.heap.size + 1, 1, none⟩ = some (.slice A1 d.slots.length c1) := by rw [hW0]; simp
  have k2 : W0.cell? ⟨w.heap.size + 1, 2, none⟩ = some (.slice A2 d.blocks.length c2) := by rw [hW0]; simp
  have k3 : W0.cell? ⟨w.heap.size + 1, 3, none⟩ = some (.slice A3 d.parity.length c3) := by rw [hW0]; simp
  obtain ⟨sp, hsp⟩ : ∃ sp, sp = d.stripe := ⟨_, rfl⟩
  rw [← hsp] at k0 HM
  have Hpar : Hid (Rep.byte.sl W0 (.slice A3 d.parity.length c3) d.parity) := Lib.hid (Rep.sl.ext (w := w) ⟨A3, c3, rfl, d1, d2, d3⟩ hE)
  clear h0 hl hcr hst hst0 ha hs hM hsl a3 b3 d3 hsp
  go_enter Try.func125, Try.ntmps125
  go_upto_region 1 with fail
  rw [← hW0]
  clear hW0
  by_cases q1 : sp < 0
  · skip
    refine wp_lexi (by kernel_rfl) rfl [(0, false, []), (1, true, []), (0, false, []), (0, false, []), (0, false, []), (1, true, []), (1, true, []), (3, true, []), (0, false, []), (0, false, []), (0, false, []), (1, true, []), (0, false, []), (1, true, []), (3, true, []), (0, false, []), (0, false, []), (0, false, []), (0, false, []), (1, true, []), (0, false, []), (0, false, []), (1, true, []), (0, false, []), (0, false, []), (0, false, []), (0, true, [])] (by kernel_rfl) (fun i _ v _ => match i with | 7 => v = I st | _ => v = .bool s) ?_
    intro lL lT lP lQ HL HT HP HQ
    refine EWi.pure (by rw [HL.out]; rfl) (by rw [HT.out]; rfl) rfl ?_; intro w0; unfold runPlain; simp [go_sem, q1]
    refine EWi.read (by rw [HL.out]; rfl) (by rw [HT.out]; rfl) rfl ?_; intro w0 h0; have e0 := h0.ext; have x0 := e0.cells g0; have x1 := e0.cells g1; have x2 := e0.cells g2; have x3 := e0.cells g3; have x4 := e0.cells g4; have x5 := e0.cells g5; have x6 := e0.cells k0; have x7 := e0.cells k1; have x8 := e0.cells k2; unfold runPlain; simp [go_sem, x0, x1, x2, x3, x4, x5, x6, x7, x8, q1]; refine ⟨(by repeat (first | exact Below.refl _ _ | assumption | refine Ext.alloc ?_ _ | refine Ext.drew ?_ | refine Ext.trans ?_ (by assumption))), ?_⟩; clear e0 h0 x0 x1 x2 x3 x4 x5 x6 x7 x8
    iterate 2 (refine EWi.pure (by rw [HL.out]; rfl) (by rw [HT.out]; rfl) rfl ?_; intro w0; unfold runPlain; simp [go_sem, q1])
    iterate 5 (refine EWi.no (by rw [HL.out]; rfl) (by rw [HT.out]; rfl) (by simp [wantedV, upd, boolOf_undef, boolOf_bool, q1]) ?_; intro w0; simp [go_sem])
    refine EWi.pure (by rw [HL.out]; rfl) (by rw [HT.out]; rfl) rfl ?_; intro w0; unfold runPlain; simp [go_sem, q1]
    refine EWi.pure (by rw [HL.out]; rfl) (by rw [HT.out]; rfl) rfl ?_; intro w0; unfold runPlain; simp [go_sem, q1]
    iterate 5 (refine EWi.no (by rw [HL.out]; rfl) (by rw [HT.out]; rfl) (by simp [wantedV, upd, boolOf_undef, boolOf_bool, q1]) ?_; intro w0; simp [go_sem])
    refine EWi.pure (by rw [HL.out]; rfl) (by rw [HT.out]; rfl) rfl ?_; intro w0; unfold runPlain; simp [go_sem, q1]
    refine EWi.pure (by rw [HL.out]; rfl) (by rw [HT.out]; rfl) rfl ?_; intro w0; unfold runPlain; simp [go_sem, q1]
    iterate 7 (refine EWi.no (by rw [HL.out]; rfl) (by rw [HT.out]; rfl) (by simp [wantedV, upd, boolOf_undef, boolOf_bool, q1]) ?_; intro w0; simp [go_sem])
    refine EWi.pure (by rw [HL.out]; rfl) (by rw [HT.out]; rfl) rfl ?_; intro w0; unfold runPlain; simp [go_sem, q1]
    refine EWi.fin (by rw [HL.out]; rfl) (by rw [HT.out]; rfl) (by rw [HT.out]; rfl) ?_
    intro W hW
    rw [HQ.out]
    go_wp2
    go_ret
    refine ⟨?_, Ext.trans hE hW.ext⟩
    have e9 : d.may c = false := by
      rw [HM.out]
      simp [show ¬ 0 ≤ sp by omega]
    rw [e9]
    rfl
  by_cases q2 : st ≤ sp
  · skip
    refine wp_lexi (by kernel_rfl) rfl [(0, false, []), (1, true, []), (0, false, []), (0, false, []), (0, false, []), (1, true, []), (1, true, []), (3, true, []), (0, false, []), (0, false, []), (0, false, []), (1, true, []), (0, false, []), (1, true, []), (3, true, []), (0, false, []), (0, false, []), (0, false, []), (0, false, []), (1, true, []), (0, false, []), (0, false, []), (1, true, []), (0, false, []), (0, false, []), (0, false, []), (0, true, [])] (by kernel_rfl) (fun i _ v _ => match i with | 7 => v = I st | _ => v = .bool s) ?_
    intro lL lT lP lQ HL HT HP HQ
    refine EWi.pure (by rw [HL.out]; rfl) (by rw [HT.out]; rfl) rfl ?_; intro w0; unfold runPlain; simp [go_sem, q1]
    refine EWi.read (by rw [HL.out]; rfl) (by rw [HT.out]; rfl) rfl ?_; intro w0 h0; have e0 := h0.ext; have x0 := e0.cells g0; have x1 := e0.cells g1; have x2 := e0.cells g2; have x3 := e0.cells g3; have x4 := e0.cells g4; have x5 := e0.cells g5; have x6 := e0.cells k0; have x7 := e0.cells k1; have x8 := e0.cells k2; unfold runPlain; simp [go_sem, x0, x1, x2, x3, x4, x5, x6, x7, x8, q1]; refine ⟨(by repeat (first | exact Below.refl _ _ | assumption | refine Ext.alloc ?_ _ | refine Ext.drew ?_ | refine Ext.trans ?_ (by assumption))), ?_⟩; clear e0 h0 x0 x1 x2 x3 x4 x5 x6 x7 x8
    iterate 2 (refine EWi.pure (by rw [HL.out]; rfl) (by rw [HT.out]; rfl) rfl ?_; intro w0; unfold runPlain; simp [go_sem, q1])
    refine EWi.pure (by rw [HL.out]; rfl) (by rw [HT.out]; rfl) (by simp [wantedV, upd, boolOf_undef, boolOf_bool, q1]) ?_; intro w0; unfold runPlain; simp [go_sem, q1]
    refine EWi.read (by rw [HL.out]; rfl) (by rw [HT.out]; rfl) (by simp [wantedV, upd, boolOf_undef, boolOf_bool, q1]) ?_; intro w0 h0; have e0 := h0.ext; have x0 := e0.cells g0; have x1 := e0.cells g1; have x2 := e0.cells g2; have x3 := e0.cells g3; have x4 := e0.cells g4; have x5 := e0.cells g5; have x6 := e0.cells k0; have x7 := e0.cells k1; have x8 := e0.cells k2; unfold runPlain; simp [go_sem, x0, x1, x2, x3, x4, x5, x6, x7, x8, q1]; refine ⟨(by repeat (first | exact Below.refl _ _ | assumption | refine Ext.alloc ?_ _ | refine Ext.drew ?_ | refine Ext.trans ?_ (by assumption))), ?_⟩; clear e0 h0 x0 x1 x2 x3 x4 x5 x6 x7 x8
    refine EWi.read (by rw [HL.out]; rfl) (by rw [HT.out]; rfl) (by simp [wantedV, upd, boolOf_undef, boolOf_bool, q1]) ?_; intro w0 h0; have e0 := h0.ext; have x0 := e0.cells g0; have x1 := e0.cells g1; have x2 := e0.cells g2; have x3 := e0.cells g3; have x4 := e0.cells g4; have x5 := e0.cells g5; have x6 := e0.cells k0; have x7 := e0.cells k1; have x8 := e0.cells k2; unfold runPlain; simp [go_sem, x0, x1, x2, x3, x4, x5, x6, x7, x8, q1]; refine ⟨(by repeat (first | exact Below.refl _ _ | assumption | refine Ext.alloc ?_ _ | refine Ext.drew ?_ | refine Ext.trans ?_ (by assumption))), ?_⟩; clear e0 h0 x0 x1 x2 x3 x4 x5 x6 x7 x8
    refine EWi.call (by rw [HL.out]; rfl) (by rw [HT.out]; rfl) (by simp [wantedV, upd, boolOf_bool, q1]) ?_ ?_
    · intro w0 h0
      unfold runOp
      simp [go_sem]
      rw [HP.out]
      refine (Hst.out w0).mono ?_
      rintro e w1 ⟨rfl, he⟩
      exact ⟨_, rfl, he, rfl⟩
    intro w7 v7 w7' h7 he7 hp
    rw [HP.out] at hp
    obtain rfl : v7 = I st := hp
    refine EWi.pure (by rw [HL.out]; rfl) (by rw [HT.out]; rfl) (by simp [wantedV, upd, boolOf_undef, boolOf_bool, q1, q2]) ?_; intro w0; unfold runPlain; simp [go_sem, q1, q2]
    refine EWi.pure (by rw [HL.out]; rfl) (by rw [HT.out]; rfl) rfl ?_; intro w0; unfold runPlain; simp [go_sem, q1, q2]
    refine EWi.pure (by rw [HL.out]; rfl) (by rw [HT.out]; rfl) rfl ?_; intro w0; unfold runPlain; simp [go_sem, q1, q2]
    iterate 5 (refine EWi.no (by rw [HL.out]; rfl) (by rw [HT.out]; rfl) (by simp [wantedV, upd, boolOf_undef, boolOf_bool, q1, q2]) ?_; intro w0; simp [go_sem])
    refine EWi.pure (by rw [HL.out]; rfl) (by rw [HT.out]; rfl) rfl ?_; intro w0; unfold runPlain; simp [go_sem, q1, q2]
    refine EWi.pure (by rw [HL.out]; rfl) (by rw [HT.out]; rfl) rfl ?_; intro w0; unfold runPlain; simp [go_sem, q1, q2]
    iterate 7 (refine EWi.no (by rw [HL.out]; rfl) (by rw [HT.out]; rfl) (by simp [wantedV, upd, boolOf_undef, boolOf_bool, q1, q2]) ?_; intro w0; simp [go_sem])
    refine EWi.pure (by rw [HL.out]; rfl) (by rw [HT.out]; rfl) rfl ?_; intro w0; unfold runPlain; simp [go_sem, q1, q2]
    refine EWi.fin (by rw [HL.out]; rfl) (by rw [HT.out]; rfl) (by rw [HT.out]; rfl) ?_
    intro W hW
    rw [HQ.out]
    go_wp2
    go_ret
    refine ⟨?_, Ext.trans hE hW.ext⟩
    have e9 : d.may c = false := by
      rw [HM.out]
      simp [show ¬ sp < st by omega]
    rw [e9]
    rfl
  cases s
  · skip
    refine wp_lexi (by kernel_rfl) rfl [(0, false, []), (1, true, []), (0, false, []), (0, false, []), (0, false, []), (1, true, []), (1, true, []), (3, true, []), (0, false, []), (0, false, []), (0, false, []), (1, true, []), (0, false, []), (1, true, []), (3, true, []), (0, false, []), (0, false, []), (0, false, []), (0, false, []), (1, true, []), (0, false, []), (0, false, []), (1, true, []), (0, false, []), (0, false, []), (0, false, []), (0, true, [])] (by kernel_rfl) (fun i _ v _ => match i with | 7 => v = I st | _ => v = .bool false) ?_
    intro lL lT lP lQ HL HT HP HQ
    refine EWi.pure (by rw [HL.out]; rfl) (by rw [HT.out]; rfl) rfl ?_; intro w0; unfold runPlain; simp [go_sem, q1]
    refine EWi.read (by rw [HL.out]; rfl) (by rw [HT.out]; rfl) rfl ?_; intro w0 h0; have e0 := h0.ext; have x0 := e0.cells g0; have x1 := e0.cells g1; have x2 := e0.cells g2; have x3 := e0.cells g3; have x4 := e0.cells g4; have x5 := e0.cells g5; have x6 := e0.cells k0; have x7 := e0.cells k1; have x8 := e0.cells k2; unfold runPlain; simp [go_sem, x0, x1, x2, x3, x4, x5, x6, x7, x8, q1]; refine ⟨(by repeat (first | exact Below.refl _ _ | assumption | refine Ext.alloc ?_ _ | refine Ext.drew ?_ | refine Ext.trans ?_ (by assumption))), ?_⟩; clear e0 h0 x0 x1 x2 x3 x4 x5 x6 x7 x8
    iterate 2 (refine EWi.pure (by rw [HL.out]; rfl) (by rw [HT.out]; rfl) rfl ?_; intro w0; unfold runPlain; simp [go_sem, q1])
    refine EWi.pure (by rw [HL.out]; rfl) (by rw [HT.out]; rfl) (by simp [wantedV, upd, boolOf_undef, boolOf_bool, q1]) ?_; intro w0; unfold runPlain; simp [go_sem, q1]
    refine EWi.read (by rw [HL.out]; rfl) (by rw [HT.out]; rfl) (by simp [wantedV, upd, boolOf_undef, boolOf_bool, q1]) ?_; intro w0 h0; have e0 := h0.ext; have x0 := e0.cells g0; have x1 := e0.cells g1; have x2 := e0.cells g2; have x3 := e0.cells g3; have x4 := e0.cells g4; have x5 := e0.cells g5; have x6 := e0.cells k0; have x7 := e0.cells k1; have x8 := e0.cells k2; unfold runPlain; simp [go_sem, x0, x1, x2, x3, x4, x5, x6, x7, x8, q1]; refine ⟨(by repeat (first | exact Below.refl _ _ | assumption | refine Ext.alloc ?_ _ | refine Ext.drew ?_ | refine Ext.trans ?_ (by assumption))), ?_⟩; clear e0 h0 x0 x1 x2 x3 x4 x5 x6 x7 x8
    refine EWi.read (by rw [HL.out]; rfl) (by rw [HT.out]; rfl) (by simp [wantedV, upd, boolOf_undef, boolOf_bool, q1]) ?_; intro w0 h0; have e0 := h0.ext; have x0 := e0.cells g0; have x1 := e0.cells g1; have x2 := e0.cells g2; have x3 := e0.cells g3; have x4 := e0.cells g4; have x5 := e0.cells g5; have x6 := e0.cells k0; have x7 := e0.cells k1; have x8 := e0.cells k2; unfold runPlain; simp [go_sem, x0, x1, x2, x3, x4, x5, x6, x7, x8, q1]; refine ⟨(by repeat (first | exact Below.refl _ _ | assumption | refine Ext.alloc ?_ _ | refine Ext.drew ?_ | refine Ext.trans ?_ (by assumption))), ?_⟩; clear e0 h0 x0 x1 x2 x3 x4 x5 x6 x7 x8
    refine EWi.call (by rw [HL.out]; rfl) (by rw [HT.out]; rfl) (by simp [wantedV, upd, boolOf_bool, q1]) ?_ ?_
    · intro w0 h0
      unfold runOp
      simp [go_sem]
      rw [HP.out]
      refine (Hst.out w0).mono ?_
      rintro e w1 ⟨rfl, he⟩
      exact ⟨_, rfl, he, rfl⟩
    intro w7 v7 w7' h7 he7 hp
    rw [HP.out] at hp
    obtain rfl : v7 = I st := hp
    refine EWi.pure (by rw [HL.out]; rfl) (by rw [HT.out]; rfl) (by simp [wantedV, upd, boolOf_undef, boolOf_bool, q1, q2]) ?_; intro w0; unfold runPlain; simp [go_sem, q1, q2]
    refine EWi.pure (by rw [HL.out]; rfl) (by rw [HT.out]; rfl) rfl ?_; intro w0; unfold runPlain; simp [go_sem, q1, q2]
    refine EWi.pure (by rw [HL.out]; rfl) (by rw [HT.out]; rfl) rfl ?_; intro w0; unfold runPlain; simp [go_sem, q1, q2]
    refine EWi.read (by rw [HL.out]; rfl) (by rw [HT.out]; rfl) (by simp [wantedV, upd, boolOf_undef, boolOf_bool, q1, q2]) ?_; intro w0 h0; have e0 := h0.ext; have x0 := e0.cells g0; have x1 := e0.cells g1; have x2 := e0.cells g2; have x3 := e0.cells g3; have x4 := e0.cells g4; have x5 := e0.cells g5; have x6 := e0.cells k0; have x7 := e0.cells k1; have x8 := e0.cells k2; unfold runPlain; simp [go_sem, x0, x1, x2, x3, x4, x5, x6, x7, x8, q1, q2]; refine ⟨(by repeat (first | exact Below.refl _ _ | assumption | refine Ext.alloc ?_ _ | refine Ext.drew ?_ | refine Ext.trans ?_ (by assumption))), ?_⟩; clear e0 h0 x0 x1 x2 x3 x4 x5 x6 x7 x8
    refine EWi.pure (by rw [HL.out]; rfl) (by rw [HT.out]; rfl) (by simp [wantedV, upd, boolOf_undef, boolOf_bool, q1, q2]) ?_; intro w0; unfold runPlain; simp [go_sem, q1, q2]
    refine EWi.read (by rw [HL.out]; rfl) (by rw [HT.out]; rfl) (by simp [wantedV, upd, boolOf_undef, boolOf_bool, q1, q2]) ?_; intro w0 h0; have e0 := h0.ext; have x0 := e0.cells g0; have x1 := e0.cells g1; have x2 := e0.cells g2; have x3 := e0.cells g3; have x4 := e0.cells g4; have x5 := e0.cells g5; have x6 := e0.cells k0; have x7 := e0.cells k1; have x8 := e0.cells k2; unfold runPlain; simp [go_sem, x0, x1, x2, x3, x4, x5, x6, x7, x8, q1, q2]; refine ⟨(by repeat (first | exact Below.refl _ _ | assumption | refine Ext.alloc ?_ _ | refine Ext.drew ?_ | refine Ext.trans ?_ (by assumption))), ?_⟩; clear e0 h0 x0 x1 x2 x3 x4 x5 x6 x7 x8
    refine EWi.call (by rw [HL.out]; rfl) (by rw [HT.out]; rfl) (by simp [wantedV, upd, boolOf_bool, q1, q2]) ?_ ?_
    · intro w0 h0
      unfold runOp
      simp [go_sem]
      rw [HP.out]
      refine (Hsl.out w0 (Ext.trans hE h0.ext)).mono ?_
      rintro e w1 ⟨rfl, he⟩
      exact ⟨_, rfl, he, rfl⟩
    intro w14 v14 w14' h14 he14 hp
    rw [HP.out] at hp
    obtain rfl : v14 = .bool false := hp
    refine EWi.pure (by rw [HL.out]; rfl) (by rw [HT.out]; rfl) (by simp [wantedV, upd, boolOf_undef, boolOf_bool, q1, q2]) ?_; intro w0; unfold runPlain; simp [go_sem, q1, q2]
    refine EWi.pure (by rw [HL.out]; rfl) (by rw [HT.out]; rfl) rfl ?_; intro w0; unfold runPlain; simp [go_sem, q1, q2]
    refine EWi.pure (by rw [HL.out]; rfl) (by rw [HT.out]; rfl) rfl ?_; intro w0; unfold runPlain; simp [go_sem, q1, q2]
    iterate 7 (refine EWi.no (by rw [HL.out]; rfl) (by rw [HT.out]; rfl) (by simp [wantedV, upd, boolOf_undef, boolOf_bool, q1, q2]) ?_; intro w0; simp [go_sem])
    refine EWi.pure (by rw [HL.out]; rfl) (by rw [HT.out]; rfl) rfl ?_; intro w0; unfold runPlain; simp [go_sem, q1, q2]
    refine EWi.fin (by rw [HL.out]; rfl) (by rw [HT.out]; rfl) (by rw [HT.out]; rfl) ?_
    intro W hW
    rw [HQ.out]
    go_wp2
    go_ret
    refine ⟨?_, Ext.trans hE hW.ext⟩
    have e9 : d.may c = false := by
      rw [HM.out]
      simp
    rw [e9]
    rfl
  by_cases q3 : d.blocks.length = d.slots.length
  rotate_left
  · have q4 : ¬ ((d.blocks.length : Int) = (d.slots.length : Int)) := by omega
    refine wp_lexi (by kernel_rfl) rfl [(0, false, []), (1, true, []), (0, false, []), (0, false, []), (0, false, []), (1, true, []), (1, true, []), (3, true, []), (0, false, []), (0, false, []), (0, false, []), (1, true, []), (0, false, []), (1, true, []), (3, true, []), (0, false, []), (0, false, []), (0, false, []), (0, false, []), (1, true, []), (0, false, []), (0, false, []), (1, true, []), (0, false, []), (0, false, []), (0, false, []), (0, true, [])] (by kernel_rfl) (fun i _ v _ => match i with | 7 => v = I st | _ => v = .bool true) ?_
    intro lL lT lP lQ HL HT HP HQ
    refine EWi.pure (by rw [HL.out]; rfl) (by rw [HT.out]; rfl) rfl ?_; intro w0; unfold runPlain; simp [go_sem, q1]
    refine EWi.read (by rw [HL.out]; rfl) (by rw [HT.out]; rfl) rfl ?_; intro w0 h0; have e0 := h0.ext; have x0 := e0.cells g0; have x1 := e0.cells g1; have x2 := e0.cells g2; have x3 := e0.cells g3; have x4 := e0.cells g4; have x5 := e0.cells g5; have x6 := e0.cells k0; have x7 := e0.cells k1; have x8 := e0.cells k2; unfold runPlain; simp [go_sem, x0, x1, x2, x3, x4, x5, x6, x7, x8, q1]; refine ⟨(by repeat (first | exact Below.refl _ _ | assumption | refine Ext.alloc ?_ _ | refine Ext.drew ?_ | refine Ext.trans ?_ (by assumption))), ?_⟩; clear e0 h0 x0 x1 x2 x3 x4 x5 x6 x7 x8
    iterate 2 (refine EWi.pure (by rw [HL.out]; rfl) (by rw [HT.out]; rfl) rfl ?_; intro w0; unfold runPlain; simp [go_sem, q1])
    refine EWi.pure (by rw [HL.out]; rfl) (by rw [HT.out]; rfl) (by simp [wantedV, upd, boolOf_undef, boolOf_bool, q1]) ?_; intro w0; unfold runPlain; simp [go_sem, q1]
    refine EWi.read (by rw [HL.out]; rfl) (by rw [HT.out]; rfl) (by simp [wantedV, upd, boolOf_undef, boolOf_bool, q1]) ?_; intro w0 h0; have e0 := h0.ext; have x0 := e0.cells g0; have x1 := e0.cells g1; have x2 := e0.cells g2; have x3 := e0.cells g3; have x4 := e0.cells g4; have x5 := e0.cells g5; have x6 := e0.cells k0; have x7 := e0.cells k1; have x8 := e0.cells k2; unfold runPlain; simp [go_sem, x0, x1, x2, x3, x4, x5, x6, x7, x8, q1]; refine ⟨(by repeat (first | exact Below.refl _ _ | assumption | refine Ext.alloc ?_ _ | refine Ext.drew ?_ | refine Ext.trans ?_ (by assumption))), ?_⟩; clear e0 h0 x0 x1 x2 x3 x4 x5 x6 x7 x8
    refine EWi.read (by rw [HL.out]; rfl) (by rw [HT.out]; rfl) (by simp [wantedV, upd, boolOf_undef, boolOf_bool, q1]) ?_; intro w0 h0; have e0 := h0.ext; have x0 := e0.cells g0; have x1 := e0.cells g1; have x2 := e0.cells g2; have x3 := e0.cells g3; have x4 := e0.cells g4; have x5 := e0.cells g5; have x6 := e0.cells k0; have x7 := e0.cells k1; have x8 := e0.cells k2; unfold runPlain; simp [go_sem, x0, x1, x2, x3, x4, x5, x6, x7, x8, q1]; refine ⟨(by repeat (first | exact Below.refl _ _ | assumption | refine Ext.alloc ?_ _ | refine Ext.drew ?_ | refine Ext.trans ?_ (by assumption))), ?_⟩; clear e0 h0 x0 x1 x2 x3 x4 x5 x6 x7 x8
    refine EWi.call (by rw [HL.out]; rfl) (by rw [HT.out]; rfl) (by simp [wantedV, upd, boolOf_bool, q1]) ?_ ?_
    · intro w0 h0
      unfold runOp
      simp [go_sem]
      rw [HP.out]
      refine (Hst.out w0).mono ?_
      rintro e w1 ⟨rfl, he⟩
      exact ⟨_, rfl, he, rfl⟩
    intro w7 v7 w7' h7 he7 hp
    rw [HP.out] at hp
    obtain rfl : v7 = I st := hp
    refine EWi.pure (by rw [HL.out]; rfl) (by rw [HT.out]; rfl) (by simp [wantedV, upd, boolOf_undef, boolOf_bool, q1, q2]) ?_; intro w0; unfold runPlain; simp [go_sem, q1, q2]
    refine EWi.pure (by rw [HL.out]; rfl) (by rw [HT.out]; rfl) rfl ?_; intro w0; unfold runPlain; simp [go_sem, q1, q2]
    refine EWi.pure (by rw [HL.out]; rfl) (by rw [HT.out]; rfl) rfl ?_; intro w0; unfold runPlain; simp [go_sem, q1, q2]
    refine EWi.read (by rw [HL.out]; rfl) (by rw [HT.out]; rfl) (by simp [wantedV, upd, boolOf_undef, boolOf_bool, q1, q2]) ?_; intro w0 h0; have e0 := h0.ext; have x0 := e0.cells g0; have x1 := e0.cells g1; have x2 := e0.cells g2; have x3 := e0.cells g3; have x4 := e0.cells g4; have x5 := e0.cells g5; have x6 := e0.cells k0; have x7 := e0.cells k1; have x8 := e0.cells k2; unfold runPlain; simp [go_sem, x0, x1, x2, x3, x4, x5, x6, x7, x8, q1, q2]; refine ⟨(by repeat (first | exact Below.refl _ _ | assumption | refine Ext.alloc ?_ _ | refine Ext.drew ?_ | refine Ext.trans ?_ (by assumption))), ?_⟩; clear e0 h0 x0 x1 x2 x3 x4 x5 x6 x7 x8
    refine EWi.pure (by rw [HL.out]; rfl) (by rw [HT.out]; rfl) (by simp [wantedV, upd, boolOf_undef, boolOf_bool, q1, q2]) ?_; intro w0; unfold runPlain; simp [go_sem, q1, q2]
    refine EWi.read (by rw [HL.out]; rfl) (by rw [HT.out]; rfl) (by simp [wantedV, upd, boolOf_undef, boolOf_bool, q1, q2]) ?_; intro w0 h0; have e0 := h0.ext; have x0 := e0.cells g0; have x1 := e0.cells g1; have x2 := e0.cells g2; have x3 := e0.cells g3; have x4 := e0.cells g4; have x5 := e0.cells g5; have x6 := e0.cells k0; have x7 := e0.cells k1; have x8 := e0.cells k2; unfold runPlain; simp [go_sem, x0, x1, x2, x3, x4, x5, x6, x7, x8, q1, q2]; refine ⟨(by repeat (first | exact Below.refl _ _ | assumption | refine Ext.alloc ?_ _ | refine Ext.drew ?_ | refine Ext.trans ?_ (by assumption))), ?_⟩; clear e0 h0 x0 x1 x2 x3 x4 x5 x6 x7 x8
    refine EWi.call (by rw [HL.out]; rfl) (by rw [HT.out]; rfl) (by simp [wantedV, upd, boolOf_bool, q1, q2]) ?_ ?_
    · intro w0 h0
      unfold runOp
      simp [go_sem]
      rw [HP.out]
      refine (Hsl.out w0 (Ext.trans hE h0.ext)).mono ?_
      rintro e w1 ⟨rfl, he⟩
      exact ⟨_, rfl, he, rfl⟩
    intro w14 v14 w14' h14 he14 hp
    rw [HP.out] at hp
    obtain rfl : v14 = .bool true := hp
    refine EWi.pure (by rw [HL.out]; rfl) (by rw [HT.out]; rfl) (by simp [wantedV, upd, boolOf_undef, boolOf_bool, q1, q2, q3, q4]) ?_; intro w0; unfold runPlain; simp [go_sem, q1, q2, q3, q4]
    refine EWi.pure (by rw [HL.out]; rfl) (by rw [HT.out]; rfl) rfl ?_; intro w0; unfold runPlain; simp [go_sem, q1, q2, q3, q4]
    refine EWi.pure (by rw [HL.out]; rfl) (by rw [HT.out]; rfl) rfl ?_; intro w0; unfold runPlain; simp [go_sem, q1, q2, q3, q4]
    refine EWi.pure (by rw [HL.out]; rfl) (by rw [HT.out]; rfl) (by simp [wantedV, upd, boolOf_undef, boolOf_bool, q1, q2, q3, q4]) ?_; intro w0; unfold runPlain; simp [go_sem, q1, q2, q3, q4]
    refine EWi.read (by rw [HL.out]; rfl) (by rw [HT.out]; rfl) (by simp [wantedV, upd, boolOf_undef, boolOf_bool, q1, q2, q3, q4]) ?_; intro w0 h0; have e0 := h0.ext; have x0 := e0.cells g0; have x1 := e0.cells g1; have x2 := e0.cells g2; have x3 := e0.cells g3; have x4 := e0.cells g4; have x5 := e0.cells g5; have x6 := e0.cells k0; have x7 := e0.cells k1; have x8 := e0.cells k2; unfold runPlain; simp [go_sem, x0, x1, x2, x3, x4, x5, x6, x7, x8, q1, q2, q3, q4]; refine ⟨(by repeat (first | exact Below.refl _ _ | assumption | refine Ext.alloc ?_ _ | refine Ext.drew ?_ | refine Ext.trans ?_ (by assumption))), ?_⟩; clear e0 h0 x0 x1 x2 x3 x4 x5 x6 x7 x8
    refine EWi.pure (by rw [HL.out]; rfl) (by rw [HT.out]; rfl) (by simp [wantedV, upd, boolOf_undef, boolOf_bool, q1, q2, q3, q4]) ?_; intro w0; unfold runPlain; simp [go_sem, q1, q2, q3, q4]
    refine EWi.pure (by rw [HL.out]; rfl) (by rw [HT.out]; rfl) (by simp [wantedV, upd, boolOf_undef, boolOf_bool, q1, q2, q3, q4]) ?_; intro w0; unfold runPlain; simp [go_sem, q1, q2, q3, q4]
    refine EWi.read (by rw [HL.out]; rfl) (by rw [HT.out]; rfl) (by simp [wantedV, upd, boolOf_undef, boolOf_bool, q1, q2, q3, q4]) ?_; intro w0 h0; have e0 := h0.ext; have x0 := e0.cells g0; have x1 := e0.cells g1; have x2 := e0.cells g2; have x3 := e0.cells g3; have x4 := e0.cells g4; have x5 := e0.cells g5; have x6 := e0.cells k0; have x7 := e0.cells k1; have x8 := e0.cells k2; unfold runPlain; simp [go_sem, x0, x1, x2, x3, x4, x5, x6, x7, x8, q1, q2, q3, q4]; refine ⟨(by repeat (first | exact Below.refl _ _ | assumption | refine Ext.alloc ?_ _ | refine Ext.drew ?_ | refine Ext.trans ?_ (by assumption))), ?_⟩; clear e0 h0 x0 x1 x2 x3 x4 x5 x6 x7 x8
    refine EWi.pure (by rw [HL.out]; rfl) (by rw [HT.out]; rfl) (by simp [wantedV, upd, boolOf_undef, boolOf_bool, q1, q2, q3, q4]) ?_; intro w0; unfold runPlain; simp [go_sem, q1, q2, q3, q4]
    refine EWi.pure (by rw [HL.out]; rfl) (by rw [HT.out]; rfl) (by simp [wantedV, upd, boolOf_undef, boolOf_bool, q1, q2, q3, q4]) ?_; intro w0; unfold runPlain; simp [go_sem, q1, q2, q3, q4]
    refine EWi.pure (by rw [HL.out]; rfl) (by rw [HT.out]; rfl) rfl ?_; intro w0; unfold runPlain; simp [go_sem, q1, q2, q3, q4]
    refine EWi.fin (by rw [HL.out]; rfl) (by rw [HT.out]; rfl) (by rw [HT.out]; rfl) ?_
    intro W hW
    rw [HQ.out]
    go_wp2
    go_ret
    refine ⟨?_, Ext.trans hE hW.ext⟩
    have e9 : d.may c = false := by
      rw [HM.out]
      simp [q3]
    rw [e9]
    rfl
  have HM2 : Hid (d.may c = (!a && isBlock d.parity)) := Lib.hid (by
    rw [HM.out, isBlock_iff]
    simp [show 0 ≤ sp by omega, show sp < st by omega, q3])
  refine wp_lexi (by kernel_rfl) rfl [(0, false, []), (1, true, []), (0, false, []), (0, false, []), (0, false, []), (1, true, []), (1, true, []), (3, true, []), (0, false, []), (0, false, []), (0, false, []), (1, true, []), (0, false, []), (1, true, []), (3, true, []), (0, false, []), (0, false, []), (0, false, []), (0, false, []), (1, true, []), (0, false, []), (0, false, []), (1, true, []), (0, false, []), (0, false, []), (0, false, []), (0, true, [])] (by kernel_rfl) (fun i _ v _ => match i with | 7 => v = I st | _ => v = .bool true) ?_
  intro lL lT lP lQ HL HT HP HQ
  refine EWi.pure (by rw [HL.out]; rfl) (by rw [HT.out]; rfl) rfl ?_; intro w0; unfold runPlain; simp [go_sem, q1]
  refine EWi.read (by rw [HL.out]; rfl) (by rw [HT.out]; rfl) rfl ?_; intro w0 h0; have e0 := h0.ext; have x0 := e0.cells g0; have x1 := e0.cells g1; have x2 := e0.cells g2; have x3 := e0.cells g3; have x4 := e0.cells g4; have x5 := e0.cells g5; have x6 := e0.cells k0; have x7 := e0.cells k1; have x8 := e0.cells k2; unfold runPlain; simp [go_sem, x0, x1, x2, x3, x4, x5, x6, x7, x8, q1]; refine ⟨(by repeat (first | exact Below.refl _ _ | assumption | refine Ext.alloc ?_ _ | refine Ext.drew ?_ | refine Ext.trans ?_ (by assumption))), ?_⟩; clear e0 h0 x0 x1 x2 x3 x4 x5 x6 x7 x8
  iterate 2 (refine EWi.pure (by rw [HL.out]; rfl) (by rw [HT.out]; rfl) rfl ?_; intro w0; unfold runPlain; simp [go_sem, q1])
  refine EWi.pure (by rw [HL.out]; rfl) (by rw [HT.out]; rfl) (by simp [wantedV, upd, boolOf_undef, boolOf_bool, q1]) ?_; intro w0; unfold runPlain; simp [go_sem, q1]
  refine EWi.read (by rw [HL.out]; rfl) (by rw [HT.out]; rfl) (by simp [wantedV, upd, boolOf_undef, boolOf_bool, q1]) ?_; intro w0 h0; have e0 := h0.ext; have x0 := e0.cells g0; have x1 := e0.cells g1; have x2 := e0.cells g2; have x3 := e0.cells g3; have x4 := e0.cells g4; have x5 := e0.cells g5; have x6 := e0.cells k0; have x7 := e0.cells k1; have x8 := e0.cells k2; unfold runPlain; simp [go_sem, x0, x1, x2, x3, x4, x5, x6, x7, x8, q1]; refine ⟨(by repeat (first | exact Below.refl _ _ | assumption | refine Ext.alloc ?_ _ | refine Ext.drew ?_ | refine Ext.trans ?_ (by assumption))), ?_⟩; clear e0 h0 x0 x1 x2 x3 x4 x5 x6 x7 x8
  refine EWi.read (by rw [HL.out]; rfl) (by rw [HT.out]; rfl) (by simp [wantedV, upd, boolOf_undef, boolOf_bool, q1]) ?_; intro w0 h0; have e0 := h0.ext; have x0 := e0.cells g0; have x1 := e0.cells g1; have x2 := e0.cells g2; have x3 := e0.cells g3; have x4 := e0.cells g4; have x5 := e0.cells g5; have x6 := e0.cells k0; have x7 := e0.cells k1; have x8 := e0.cells k2; unfold runPlain; simp [go_sem, x0, x1, x2, x3, x4, x5, x6, x7, x8, q1]; refine ⟨(by repeat (first | exact Below.refl _ _ | assumption | refine Ext.alloc ?_ _ | refine Ext.drew ?_ | refine Ext.trans ?_ (by assumption))), ?_⟩; clear e0 h0 x0 x1 x2 x3 x4 x5 x6 x7 x8
  refine EWi.call (by rw [HL.out]; rfl) (by rw [HT.out]; rfl) (by simp [wantedV, upd, boolOf_bool, q1]) ?_ ?_
  · intro w0 h0
    unfold runOp
    simp [go_sem]
    rw [HP.out]
    refine (Hst.out w0).mono ?_
    rintro e w1 ⟨rfl, he⟩
    exact ⟨_, rfl, he, rfl⟩
  intro w7 v7 w7' h7 he7 hp
  rw [HP.out] at hp
  obtain rfl : v7 = I st := hp
  refine EWi.pure (by rw [HL.out]; rfl) (by rw [HT.out]; rfl) (by simp [wantedV, upd, boolOf_undef, boolOf_bool, q1, q2]) ?_; intro w0; unfold runPlain; simp [go_sem, q1, q2]
  refine EWi.pure (by rw [HL.out]; rfl) (by rw [HT.out]; rfl) rfl ?_; intro w0; unfold runPlain; simp [go_sem, q1, q2]
  refine EWi.pure (by rw [HL.out]; rfl) (by rw [HT.out]; rfl) rfl ?_; intro w0; unfold runPlain; simp [go_sem, q1, q2]
  refine EWi.read (by rw [HL.out]; rfl) (by rw [HT.out]; rfl) (by simp [wantedV, upd, boolOf_undef, boolOf_bool, q1, q2]) ?_; intro w0 h0; have e0 := h0.ext; have x0 := e0.cells g0; have x1 := e0.cells g1; have x2 := e0.cells g2; have x3 := e0.cells g3; have x4 := e0.cells g4; have x5 := e0.cells g5; have x6 := e0.cells k0; have x7 := e0.cells k1; have x8 := e0.cells k2; unfold runPlain; simp [go_sem, x0, x1, x2, x3, x4, x5, x6, x7, x8, q1, q2]; refine ⟨(by repeat (first | exact Below.refl _ _ | assumption | refine Ext.alloc ?_ _ | refine Ext.drew ?_ | refine Ext.trans ?_ (by assumption))), ?_⟩; clear e0 h0 x0 x1 x2 x3 x4 x5 x6 x7 x8
  refine EWi.pure (by rw [HL.out]; rfl) (by rw [HT.out]; rfl) (by simp [wantedV, upd, boolOf_undef, boolOf_bool, q1, q2]) ?_; intro w0; unfold runPlain; simp [go_sem, q1, q2]
  refine EWi.read (by rw [HL.out]; rfl) (by rw [HT.out]; rfl) (by simp [wantedV, upd, boolOf_undef, boolOf_bool, q1, q2]) ?_; intro w0 h0; have e0 := h0.ext; have x0 := e0.cells g0; have x1 := e0.cells g1; have x2 := e0.cells g2; have x3 := e0.cells g3; have x4 := e0.cells g4; have x5 := e0.cells g5; have x6 := e0.cells k0; have x7 := e0.cells k1; have x8 := e0.cells k2; unfold runPlain; simp [go_sem, x0, x1, x2, x3, x4, x5, x6, x7, x8, q1, q2]; refine ⟨(by repeat (first | exact Below.refl _ _ | assumption | refine Ext.alloc ?_ _ | refine Ext.drew ?_ | refine Ext.trans ?_ (by assumption))), ?_⟩; clear e0 h0 x0 x1 x2 x3 x4 x5 x6 x7 x8
  refine EWi.call (by rw [HL.out]; rfl) (by rw [HT.out]; rfl) (by simp [wantedV, upd, boolOf_bool, q1, q2]) ?_ ?_
  · intro w0 h0
    unfold runOp
    simp [go_sem]
    rw [HP.out]
    refine (Hsl.out w0 (Ext.trans hE h0.ext)).mono ?_
    rintro e w1 ⟨rfl, he⟩
    exact ⟨_, rfl, he, rfl⟩
  intro w14 v14 w14' h14 he14 hp
  rw [HP.out] at hp
  obtain rfl : v14 = .bool true := hp
  refine EWi.pure (by rw [HL.out]; rfl) (by rw [HT.out]; rfl) (by simp [wantedV, upd, boolOf_undef, boolOf_bool, q1, q2, q3]) ?_; intro w0; unfold runPlain; simp [go_sem, q1, q2, q3]
  refine EWi.pure (by rw [HL.out]; rfl) (by rw [HT.out]; rfl) rfl ?_; intro w0; unfold runPlain; simp [go_sem, q1, q2, q3]
  refine EWi.pure (by rw [HL.out]; rfl) (by rw [HT.out]; rfl) rfl ?_; intro w0; unfold runPlain; simp [go_sem, q1, q2, q3]
  refine EWi.pure (by rw [HL.out]; rfl) (by rw [HT.out]; rfl) (by simp [wantedV, upd, boolOf_undef, boolOf_bool, q1, q2, q3]) ?_; intro w0; unfold runPlain; simp [go_sem, q1, q2, q3]
  refine EWi.read (by rw [HL.out]; rfl) (by rw [HT.out]; rfl) (by simp [wantedV, upd, boolOf_undef, boolOf_bool, q1, q2, q3]) ?_; intro w0 h0; have e0 := h0.ext; have x0 := e0.cells g0; have x1 := e0.cells g1; have x2 := e0.cells g2; have x3 := e0.cells g3; have x4 := e0.cells g4; have x5 := e0.cells g5; have x6 := e0.cells k0; have x7 := e0.cells k1; have x8 := e0.cells k2; unfold runPlain; simp [go_sem, x0, x1, x2, x3, x4, x5, x6, x7, x8, q1, q2, q3]; refine ⟨(by repeat (first | exact Below.refl _ _ | assumption | refine Ext.alloc ?_ _ | refine Ext.drew ?_ | refine Ext.trans ?_ (by assumption))), ?_⟩; clear e0 h0 x0 x1 x2 x3 x4 x5 x6 x7 x8
  refine EWi.pure (by rw [HL.out]; rfl) (by rw [HT.out]; rfl) (by simp [wantedV, upd, boolOf_undef, boolOf_bool, q1, q2, q3]) ?_; intro w0; unfold runPlain; simp [go_sem, q1, q2, q3]
  refine EWi.pure (by rw [HL.out]; rfl) (by rw [HT.out]; rfl) (by simp [wantedV, upd, boolOf_undef, boolOf_bool, q1, q2, q3]) ?_; intro w0; unfold runPlain; simp [go_sem, q1, q2, q3]
  refine EWi.read (by rw [HL.out]; rfl) (by rw [HT.out]; rfl) (by simp [wantedV, upd, boolOf_undef, boolOf_bool, q1, q2, q3]) ?_; intro w0 h0; have e0 := h0.ext; have x0 := e0.cells g0; have x1 := e0.cells g1; have x2 := e0.cells g2; have x3 := e0.cells g3; have x4 := e0.cells g4; have x5 := e0.cells g5; have x6 := e0.cells k0; have x7 := e0.cells k1; have x8 := e0.cells k2; unfold runPlain; simp [go_sem, x0, x1, x2, x3, x4, x5, x6, x7, x8, q1, q2, q3]; refine ⟨(by repeat (first | exact Below.refl _ _ | assumption | refine Ext.alloc ?_ _ | refine Ext.drew ?_ | refine Ext.trans ?_ (by assumption))), ?_⟩; clear e0 h0 x0 x1 x2 x3 x4 x5 x6 x7 x8
  refine EWi.pure (by rw [HL.out]; rfl) (by rw [HT.out]; rfl) (by simp [wantedV, upd, boolOf_undef, boolOf_bool, q1, q2, q3]) ?_; intro w0; unfold runPlain; simp [go_sem, q1, q2, q3]
  refine EWi.pure (by rw [HL.out]; rfl) (by rw [HT.out]; rfl) (by simp [wantedV, upd, boolOf_undef, boolOf_bool, q1, q2, q3]) ?_; intro w0; unfold runPlain; simp [go_sem, q1, q2, q3]
  refine EWi.pure (by rw [HL.out]; rfl) (by rw [HT.out]; rfl) rfl ?_; intro w0; unfold runPlain; simp [go_sem, q1, q2, q3]
  refine EWi.fin (by rw [HL.out]; rfl) (by rw [HT.out]; rfl) (by rw [HT.out]; rfl) ?_
  intro W hW
  rw [HQ.out]
  replace k2 := hW.ext.cells k2
  replace k3 := hW.ext.cells k3
  replace y3 := y3.ext hW.ext
  have Hpar' := Lib.hid (Hpar.out.ext hW.ext)
  replace hE := Ext.trans hE hW.ext
  clear g0 g1 g2 g3 g4 g5 k0 k1 q1 q2 q3
  go_wp2
  go_loop [5] (fun i => ∃ k : Nat, k ≤ d.blocks.length ∧ i = .int .i64 k ∧ Hid ((d.blocks.take k).any oddB = false)) (fun i => d.blocks.length - (intOf i).toNat)
  case atStart => exact ⟨0, Nat.zero_le _, rfl, Lib.hid (by simp)⟩
  case round =>
    obtain ⟨k, hk, rfl, HA⟩ := hrel
    by_cases hlt : k < d.blocks.length
    · obtain ⟨b, off, rfl, hc⟩ := slice_at y3 (by omega)
      obtain ⟨A5, c5, hcj, g1, g2, g3⟩ := hc k hlt
      have HS := Lib.hid (any_odd_step hlt HA.out)
      have HN : Hid (isBlock d.blocks[k] = false → a = true) := Lib.hid (fun h => by rw [← Ha.out]; exact any_no hlt (by unfold oddB; rw [h]; rfl))
      obtain ⟨x, hx⟩ : ∃ x, x = d.blocks[k] := ⟨_, rfl⟩
      rw [← hx] at hcj g1 g3 HS HN
      have hcall := ref_Block _ x W ⟨A5, c5, rfl, g1, g2, g3⟩
      cases hb : isBlock x
      · rw [hb] at hcall
        have Hb := Lib.hid hb
        clear hc hx y3 hb
        go_wp2_with (go_at_call 126; refine hcall.mono ?_; rintro e w2 ⟨rfl, rfl⟩)
        go_ret
        exact ⟨by rw [HM2.out, HN.out Hb.out]; rfl, hE⟩
      · rw [hb] at hcall
        have Hb := Lib.hid hb
        clear hc hx y3 hb
        go_wp2_with (go_at_call 126; refine hcall.mono ?_; rintro e w2 ⟨rfl, rfl⟩)
        go_round
        case rel => exact ⟨k + 1, by omega, by go_num, Lib.hid (HS.out Hb.out)⟩
        case measure => simp [intOf]; omega
    · obtain rfl : k = d.blocks.length := by omega
      have HA2 : Hid (a = false) := Lib.hid (Ha.out.symm.trans (any_done HA.out))
      go_wp2_with (go_at_call 126; refine (ref_Block _ d.parity _ Hpar'.out).mono ?_; rintro e w2 ⟨rfl, rfl⟩)
      go_ret
      exact ⟨by rw [HM2.out, HA2.out]; rfl, hE⟩

set_option maxRecDepth 100000 in
set_option maxHeartbeats 1000000 in
theorem ref_isJournal (c : Cfg) (d : Dk) (bv wv : Value) (w : World) (h : DkAt w bv wv d) (hc : c.may = true) :
    Calls Try.prog 70 #[c.v, d.v bv wv] w fun e w' => e = .returned (.bool (d.may && decide ((d.blocks.length : Int) = c.log + 1))) ∧ Ext w w' := by
  have h0 := h
  have hl := may_log hc
  have hj : ∀ w, Calls Try.prog 120 #[c.v] w fun e w' => e = .returned (I (1 + c.log)) ∧ Ext w w' := fun w => by
    have := ref_Journal c w
    rwa [show wrap64 (1 + c.log) = 1 + c.log by unfold wrap64; omega] at this
  have Hj := Lib.hid hj
  obtain ⟨m, hm⟩ : ∃ m, m = d.may := ⟨_, rfl⟩
  have hmay := fun w1 (he : Ext w w1) => ref_dMay d bv wv w1 (h0.ext he)
  rw [← hm] at hmay ⊢
  have Hmay := Lib.hid hmay
  obtain ⟨⟨A, c1, rfl, a1, a2, a3⟩, ⟨A', c1', rfl, b1, b2, b3⟩⟩ := h
  obtain ⟨W0, hW0⟩ : ∃ W0, W0 = (w.alloc (.cells c.row 24)).alloc (.cells (d.row (.slice A d.blocks.length c1) (.slice A' d.wait.length c1')) 28) := ⟨_, rfl⟩
  have hE : Ext w W0 := by rw [hW0]; exact (by repeat (first | exact Below.refl _ _ | assumption | refine Ext.alloc ?_ _ | refine Ext.drew ?_ | refine Ext.trans ?_ (by assumption)))
  have g0 : W0.cell? ⟨w.heap.size, 0, none⟩ = some (U32 c.id) := by rw [hW0]; simp
  have g1 : W0.cell? ⟨w.heap.size, 1, none⟩ = some (I c.members) := by rw [hW0]; simp
  have g2 : W0.cell? ⟨w.heap.size, 2, none⟩ = some (I c.chunk) := by rw [hW0]; simp
  have g3 : W0.cell? ⟨w.heap.size, 3, none⟩ = some (I c.rows) := by rw [hW0]; simp
  have g4 : W0.cell? ⟨w.heap.size, 4, none⟩ = some (I c.log) := by rw [hW0]; simp
  have g5 : W0.cell? ⟨w.heap.size, 5, none⟩ = some (I c.heads) := by rw [hW0]; simp
  have k0 : W0.cell? ⟨w.heap.size + 1, 0, none⟩ = some (.slice A d.blocks.length c1) := by rw [hW0]; simp
  have k1 : W0.cell? ⟨w.heap.size + 1, 1, none⟩ = some (.slice A' d.wait.length c1') := by rw [hW0]; simp
  have k2 : W0.cell? ⟨w.heap.size + 1, 2, none⟩ = some (.bool d.dead) := by rw [hW0]; simp
  have Hlog : Hid ((decide ((d.blocks.length : Int) = c.log + 1)) = ((d.blocks.length : Int) == 1 + c.log)) := Lib.hid (by rw [Bool.eq_iff_iff]; simp; omega)
  clear h0 hl hj hm hmay a3 b3
  go_enter Try.func70, Try.ntmps70
  go_upto_region 1 with fail
  rw [← hW0]
  clear hW0
  cases m
  · skip
    refine wp_lexi (by kernel_rfl) rfl [(1, true, []), (3, true, []), (0, false, []), (0, false, []), (1, true, []), (0, false, []), (1, true, []), (3, true, []), (0, false, []), (0, false, []), (0, false, []), (0, true, [])] (by kernel_rfl) (fun i _ v _ => match i with | 1 => v = .bool false | _ => v = I (1 + c.log)) ?_
    intro lL lT lP lQ HL HT HP HQ
    refine EWi.read (by rw [HL.out]; rfl) (by rw [HT.out]; rfl) rfl ?_; intro w0 h0; have e0 := h0.ext; have x0 := e0.cells k0; have x1 := e0.cells k1; have x2 := e0.cells k2; unfold runPlain; simp [go_sem, x0, x1, x2]; refine ⟨(by repeat (first | exact Below.refl _ _ | assumption | refine Ext.alloc ?_ _ | refine Ext.drew ?_ | refine Ext.trans ?_ (by assumption))), ?_⟩; clear e0 h0 x0 x1 x2
    refine EWi.call (by rw [HL.out]; rfl) (by rw [HT.out]; rfl) rfl ?_ ?_
    · intro w0 h0
      unfold runOp
      simp [go_sem]
      rw [HP.out]
      refine (Hmay.out w0 (Ext.trans hE h0.ext)).mono ?_
      rintro e w1 ⟨rfl, he⟩
      exact ⟨_, rfl, he, rfl⟩
    intro w2 v2 w2' h2 he2 hp
    rw [HP.out] at hp
    obtain rfl : v2 = .bool false := hp
    refine EWi.pure (by rw [HL.out]; rfl) (by rw [HT.out]; rfl) rfl ?_; intro w0; unfold runPlain; simp [go_sem]
    iterate 6 (refine EWi.no (by rw [HL.out]; rfl) (by rw [HT.out]; rfl) (by simp [wantedV, upd, boolOf_undef, boolOf_bool]) ?_; intro w0; simp [go_sem])
    refine EWi.pure (by rw [HL.out]; rfl) (by rw [HT.out]; rfl) rfl ?_; intro w0; unfold runPlain; simp [go_sem]
    refine EWi.pure (by rw [HL.out]; rfl) (by rw [HT.out]; rfl) rfl ?_; intro w0; unfold runPlain; simp [go_sem]
    refine EWi.fin (by rw [HL.out]; rfl) (by rw [HT.out]; rfl) (by rw [HT.out]; rfl) ?_
    intro W hW
    rw [HQ.out]
    go_wp2
    go_ret
    exact ⟨rfl, Ext.trans hE hW.ext⟩
  · skip
    refine wp_lexi (by kernel_rfl) rfl [(1, true, []), (3, true, []), (0, false, []), (0, false, []), (1, true, []), (0, false, []), (1, true, []), (3, true, []), (0, false, []), (0, false, []), (0, false, []), (0, true, [])] (by kernel_rfl) (fun i _ v _ => match i with | 1 => v = .bool true | _ => v = I (1 + c.log)) ?_
    intro lL lT lP lQ HL HT HP HQ
    refine EWi.read (by rw [HL.out]; rfl) (by rw [HT.out]; rfl) rfl ?_; intro w0 h0; have e0 := h0.ext; have x0 := e0.cells k0; have x1 := e0.cells k1; have x2 := e0.cells k2; unfold runPlain; simp [go_sem, x0, x1, x2]; refine ⟨(by repeat (first | exact Below.refl _ _ | assumption | refine Ext.alloc ?_ _ | refine Ext.drew ?_ | refine Ext.trans ?_ (by assumption))), ?_⟩; clear e0 h0 x0 x1 x2
    refine EWi.call (by rw [HL.out]; rfl) (by rw [HT.out]; rfl) rfl ?_ ?_
    · intro w0 h0
      unfold runOp
      simp [go_sem]
      rw [HP.out]
      refine (Hmay.out w0 (Ext.trans hE h0.ext)).mono ?_
      rintro e w1 ⟨rfl, he⟩
      exact ⟨_, rfl, he, rfl⟩
    intro w2 v2 w2' h2 he2 hp
    rw [HP.out] at hp
    obtain rfl : v2 = .bool true := hp
    refine EWi.pure (by rw [HL.out]; rfl) (by rw [HT.out]; rfl) rfl ?_; intro w0; unfold runPlain; simp [go_sem]
    refine EWi.pure (by rw [HL.out]; rfl) (by rw [HT.out]; rfl) (by simp [wantedV, upd, boolOf_undef, boolOf_bool]) ?_; intro w0; unfold runPlain; simp [go_sem]
    refine EWi.read (by rw [HL.out]; rfl) (by rw [HT.out]; rfl) (by simp [wantedV, upd, boolOf_undef, boolOf_bool]) ?_; intro w0 h0; have e0 := h0.ext; have x0 := e0.cells k0; have x1 := e0.cells g0; have x2 := e0.cells g1; have x3 := e0.cells g2; have x4 := e0.cells g3; have x5 := e0.cells g4; have x6 := e0.cells g5; unfold runPlain; simp [go_sem, x0, x1, x2, x3, x4, x5, x6]; refine ⟨(by repeat (first | exact Below.refl _ _ | assumption | refine Ext.alloc ?_ _ | refine Ext.drew ?_ | refine Ext.trans ?_ (by assumption))), ?_⟩; clear e0 h0 x0 x1 x2 x3 x4 x5 x6
    refine EWi.pure (by rw [HL.out]; rfl) (by rw [HT.out]; rfl) (by simp [wantedV, upd, boolOf_undef, boolOf_bool]) ?_; intro w0; unfold runPlain; simp [go_sem]
    refine EWi.read (by rw [HL.out]; rfl) (by rw [HT.out]; rfl) (by simp [wantedV, upd, boolOf_undef, boolOf_bool]) ?_; intro w0 h0; have e0 := h0.ext; have x0 := e0.cells k0; have x1 := e0.cells g0; have x2 := e0.cells g1; have x3 := e0.cells g2; have x4 := e0.cells g3; have x5 := e0.cells g4; have x6 := e0.cells g5; unfold runPlain; simp [go_sem, x0, x1, x2, x3, x4, x5, x6]; refine ⟨(by repeat (first | exact Below.refl _ _ | assumption | refine Ext.alloc ?_ _ | refine Ext.drew ?_ | refine Ext.trans ?_ (by assumption))), ?_⟩; clear e0 h0 x0 x1 x2 x3 x4 x5 x6
    refine EWi.call (by rw [HL.out]; rfl) (by rw [HT.out]; rfl) (by simp [wantedV, upd, boolOf_bool]) ?_ ?_
    · intro w0 h0
      unfold runOp
      simp [go_sem]
      rw [HP.out]
      refine (Hj.out w0).mono ?_
      rintro e w1 ⟨rfl, he⟩
      exact ⟨_, rfl, he, rfl⟩
    intro w7 v7 w7' h7 he7 hp
    rw [HP.out] at hp
    obtain rfl : v7 = I (1 + c.log) := hp
    refine EWi.pure (by rw [HL.out]; rfl) (by rw [HT.out]; rfl) (by simp [wantedV, upd, boolOf_undef, boolOf_bool]) ?_; intro w0; unfold runPlain; simp [go_sem]
    refine EWi.pure (by rw [HL.out]; rfl) (by rw [HT.out]; rfl) rfl ?_; intro w0; unfold runPlain; simp [go_sem]
    refine EWi.pure (by rw [HL.out]; rfl) (by rw [HT.out]; rfl) rfl ?_; intro w0; unfold runPlain; simp [go_sem]
    refine EWi.fin (by rw [HL.out]; rfl) (by rw [HT.out]; rfl) (by rw [HT.out]; rfl) ?_
    intro W hW
    rw [HQ.out]
    go_wp2
    go_ret
    exact ⟨by rw [Hlog.out]; rfl, Ext.trans hE hW.ext⟩

end Go.Proofs.Ytancfgmaejjooaa
