/- The document's configs: which may be. -/
import Derived.Test.YtancfgmaejjooaaRef2
import Derived.Test.YtancfgmaejjooaaLex
import Derived.Test.YtancfgmaejjooaaDeal2
set_option linter.unusedVariables false
set_option linter.unusedSimpArgs false
namespace Go.Proofs.Ytancfgmaejjooaa
open Go.RowKit

set_option maxRecDepth 100000 in
set_option maxHeartbeats 1000000 in
theorem ref_cMay (c : Cfg) (w : World) : Calls Try.prog 69 #[c.v] w fun e w' => e = .returned (.bool c.may) ∧ Ext w w' := by
  have hpl : c.plain = (inB (c.members, 3, 16) && inB (c.chunk, 1, 8) && inB (c.rows, 1, 8) && inB (c.heads, 2, 8)) := by unfold Cfg.plain; simp [Bool.and_assoc]
  have hmm : c.may = (c.plain && inB (c.log, (c.members + 1) * (c.heads + 1), 255)) := by unfold Cfg.may; simp
  cases h1 : inB (c.members, 3, 16)
  · have Hf : Hid (c.may = false) := Lib.hid (by rw [hmm, hpl, h1]; simp)
    clear hmm hpl
    go_enter Try.func69, Try.ntmps69
    go_wp2_with (go_at_call 117; refine (ref_in _ _ _ _).mono ?_; rintro e w2 ⟨rfl, rfl⟩)
    go_ret
    exact ⟨by rw [Hf.out]; rfl, (by repeat (first | exact Below.refl _ _ | assumption | refine Ext.alloc ?_ _ | refine Ext.drew ?_ | refine Ext.trans ?_ (by assumption)))⟩
  cases h2 : inB (c.chunk, 1, 8)
  · have Hf : Hid (c.may = false) := Lib.hid (by rw [hmm, hpl, h2]; simp)
    clear hmm hpl
    go_enter Try.func69, Try.ntmps69
    go_wp2_with (go_at_call 117; refine (ref_in _ _ _ _).mono ?_; rintro e w2 ⟨rfl, rfl⟩)
    go_ret
    exact ⟨by rw [Hf.out]; rfl, (by repeat (first | exact Below.refl _ _ | assumption | refine Ext.alloc ?_ _ | refine Ext.drew ?_ | refine Ext.trans ?_ (by assumption)))⟩
  cases h3 : inB (c.rows, 1, 8)
  · have Hf : Hid (c.may = false) := Lib.hid (by rw [hmm, hpl, h3]; simp)
    clear hmm hpl
    go_enter Try.func69, Try.ntmps69
    go_wp2_with (go_at_call 117; refine (ref_in _ _ _ _).mono ?_; rintro e w2 ⟨rfl, rfl⟩)
    go_ret
    exact ⟨by rw [Hf.out]; rfl, (by repeat (first | exact Below.refl _ _ | assumption | refine Ext.alloc ?_ _ | refine Ext.drew ?_ | refine Ext.trans ?_ (by assumption)))⟩
  cases h4 : inB (c.heads, 2, 8)
  · have Hf : Hid (c.may = false) := Lib.hid (by rw [hmm, hpl, h4]; simp)
    clear hmm hpl
    go_enter Try.func69, Try.ntmps69
    go_wp2_with (go_at_call 117; refine (ref_in _ _ _ _).mono ?_; rintro e w2 ⟨rfl, rfl⟩)
    go_ret
    exact ⟨by rw [Hf.out]; rfl, (by repeat (first | exact Below.refl _ _ | assumption | refine Ext.alloc ?_ _ | refine Ext.drew ?_ | refine Ext.trans ?_ (by assumption)))⟩
  have hb : 3 ≤ c.members ∧ c.members ≤ 16 ∧ 2 ≤ c.heads ∧ c.heads ≤ 8 := by
    have h1' := h1
    have h4' := h4
    simp [inB] at h1' h4'
    omega
  obtain ⟨m1, m2, m3, m4⟩ := hb
  have hneed : ∀ w, Calls Try.prog 118 #[c.v] w fun e w' => e = .returned (I (c.members + 1)) ∧ Ext w w' := fun w => by
    have := ref_Need c w
    rwa [show wrap64 (c.members + 1) = c.members + 1 by unfold wrap64; omega] at this
  have q1 : IntKind.i64.wrap ((c.members + 1) * (c.heads + 1)) = (c.members + 1) * (c.heads + 1) := by
    have a : 0 ≤ (c.members + 1) * (c.heads + 1) := Int.mul_nonneg (by omega) (by omega)
    have b : (c.members + 1) * (c.heads + 1) ≤ 17 * 9 := Int.mul_le_mul (by omega) (by omega) (by omega) (by omega)
    exact IntWalk.i64_in _ (by omega)
  have Hmm : Hid (c.may = inB (c.log, (c.members + 1) * (c.heads + 1), 255)) := Lib.hid (by rw [hmm, hpl, h1, h2, h3, h4]; simp)
  have Hneed := Lib.hid hneed
  clear hmm hpl hneed
  go_enter Try.func69, Try.ntmps69
  go_upto_region 3 with (go_at_call 117; refine (ref_in _ _ _ _).mono ?_; rintro e w2 ⟨rfl, rfl⟩)
  obtain ⟨W0, hW0⟩ : ∃ W0, W0 = w.alloc (.cells c.row 24) := ⟨_, rfl⟩
  have k0 : W0.cell? ⟨w.heap.size, 0, none⟩ = some (U32 c.id) := by rw [hW0]; simp
  have k1 : W0.cell? ⟨w.heap.size, 1, none⟩ = some (I c.members) := by rw [hW0]; simp
  have k2 : W0.cell? ⟨w.heap.size, 2, none⟩ = some (I c.chunk) := by rw [hW0]; simp
  have k3 : W0.cell? ⟨w.heap.size, 3, none⟩ = some (I c.rows) := by rw [hW0]; simp
  have k4 : W0.cell? ⟨w.heap.size, 4, none⟩ = some (I c.log) := by rw [hW0]; simp
  have k5 : W0.cell? ⟨w.heap.size, 5, none⟩ = some (I c.heads) := by rw [hW0]; simp
  have hE0 : Ext w W0 := by rw [hW0]; exact (by repeat (first | exact Below.refl _ _ | assumption | refine Ext.alloc ?_ _ | refine Ext.drew ?_ | refine Ext.trans ?_ (by assumption)))
  have q2 : IntKind.i64.wrap (c.heads + 1) = c.heads + 1 := IntWalk.i64_in _ (by omega)
  rw [← hW0]
  clear hW0
  refine wp_lexi (by kernel_rfl) rfl [(0, false, []), (1, true, []), (1, true, []), (3, true, []), (0, false, []), (1, true, []), (0, false, []), (0, false, []), (3, true, []), (0, false, []), (0, true, [3, 8])] (by kernel_rfl) (fun i _ v _ => match i with | 3 => v = I (c.members + 1) | _ => v = .bool (inB (c.log, (c.members + 1) * (c.heads + 1), 255))) ?_
  intro lL lT lP lQ HL HT HP HQ
  repeat (first
    | (refine EWi.pure (by rw [HL.out]; rfl) (by rw [HT.out]; rfl) rfl ?_; intro w0; unfold runPlain; simp [go_sem]; with_reducible change EWi _ _ _ _ _ _ _ _ _ _)
    | (refine EWi.read (by rw [HL.out]; rfl) (by rw [HT.out]; rfl) rfl ?_; intro w0 h0; have e0 := h0.ext; have x0 := e0.cells k0; have x1 := e0.cells k1; have x2 := e0.cells k2; have x3 := e0.cells k3; have x4 := e0.cells k4; have x5 := e0.cells k5; unfold runPlain; simp [go_sem, x0, x1, x2, x3, x4, x5]; refine ⟨(by repeat (first | exact Below.refl _ _ | assumption | refine Ext.alloc ?_ _ | refine Ext.drew ?_ | refine Ext.trans ?_ (by assumption))), ?_⟩; with_reducible change EWi _ _ _ _ _ _ _ _ _ _; clear e0 h0 x0 x1 x2 x3 x4 x5))
  refine EWi.call (by rw [HL.out]; rfl) (by rw [HT.out]; rfl) rfl ?_ ?_
  · intro w0 h0
    unfold runOp
    simp [go_sem]
    rw [HP.out]
    refine (Hneed.out _).mono ?_
    rintro e w1 ⟨rfl, he⟩
    exact ⟨_, rfl, he, rfl⟩
  intro w0 v w1 h0 he hp
  rw [HP.out] at hp
  obtain rfl : v = I (c.members + 1) := hp
  repeat (first
    | (refine EWi.pure (by rw [HL.out]; rfl) (by rw [HT.out]; rfl) rfl ?_; intro w0; unfold runPlain; simp [go_sem, q1, q2]; with_reducible change EWi _ _ _ _ _ _ _ _ _ _)
    | (refine EWi.read (by rw [HL.out]; rfl) (by rw [HT.out]; rfl) rfl ?_; intro w0 h0; have e0 := h0.ext; have x0 := e0.cells k0; have x1 := e0.cells k1; have x2 := e0.cells k2; have x3 := e0.cells k3; have x4 := e0.cells k4; have x5 := e0.cells k5; unfold runPlain; simp [go_sem, x0, x1, x2, x3, x4, x5, q1, q2]; refine ⟨(by repeat (first | exact Below.refl _ _ | assumption | refine Ext.alloc ?_ _ | refine Ext.drew ?_ | refine Ext.trans ?_ (by assumption))), ?_⟩; with_reducible change EWi _ _ _ _ _ _ _ _ _ _; clear e0 h0 x0 x1 x2 x3 x4 x5))
  refine EWi.call (by rw [HL.out]; rfl) (by rw [HT.out]; rfl) rfl ?_ ?_
  · intro w0 h0
    unfold runOp
    simp [go_sem]
    rw [HP.out]
    refine (ref_in _ _ _ _).mono ?_
    rintro e w1 ⟨rfl, rfl⟩
    exact ⟨_, rfl, Ext.refl _, rfl⟩
  intro w0' v w1' h0' he' hp
  rw [HP.out] at hp
  obtain rfl : v = .bool (inB (c.log, (c.members + 1) * (c.heads + 1), 255)) := hp
  repeat (first
    | (refine EWi.pure (by rw [HL.out]; rfl) (by rw [HT.out]; rfl) rfl ?_; intro w0; unfold runPlain; simp [go_sem]; with_reducible change EWi _ _ _ _ _ _ _ _ _ _)
    | (refine EWi.read (by rw [HL.out]; rfl) (by rw [HT.out]; rfl) rfl ?_; intro w0 h0; have e0 := h0.ext; unfold runPlain; simp [go_sem]; refine ⟨(by repeat (first | exact Below.refl _ _ | assumption | refine Ext.alloc ?_ _ | refine Ext.drew ?_ | refine Ext.trans ?_ (by assumption))), ?_⟩; with_reducible change EWi _ _ _ _ _ _ _ _ _ _; clear e0 h0))
  refine EWi.fin (by rw [HL.out]; rfl) (by rw [HT.out]; rfl) (by rw [HT.out]; rfl) ?_
  intro W hW
  rw [HQ.out]
  go_wp2
  go_ret
  exact ⟨by rw [Hmm.out]; rfl, Ext.trans hE0 hW.ext⟩

end Go.Proofs.Ytancfgmaejjooaa
