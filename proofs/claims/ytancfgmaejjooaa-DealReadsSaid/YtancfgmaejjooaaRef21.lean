/- The document's deals: two that have the same data are the same. -/
import Derived.Test.YtancfgmaejjooaaRef9
import Derived.Test.YtancfgmaejjooaaDeal1
set_option linter.unusedVariables false
set_option linter.unusedSimpArgs false
namespace Go.Proofs.Ytancfgmaejjooaa
open Go.RowKit
attribute [local go_sem] str_list

theorem sameB_self (x : List UInt8) : sameB x x = true := by
  unfold sameB
  split <;> simp

set_option maxRecDepth 100000 in
set_option maxHeartbeats 2000000 in
theorem ref_dlSame (d : DealD) (sv bv pv sv' bv' pv' : Value) (w : World) (h : DealAt w sv bv pv d) (h' : DealAt w sv' bv' pv' d) :
    Calls Try.prog 23 #[d.v sv bv pv, d.v sv' bv' pv'] w fun e w' => e = .returned (.bool true) ∧ Ext w w' := by
  have Hc1 := Lib.hid (fun w1 (he : Ext w w1) => conv_sl (h.2.2.ext he))
  have Hc2 := Lib.hid (fun w1 (he : Ext w w1) => conv_sl (h'.2.2.ext he))
  obtain ⟨⟨A1, c1, rfl, a1, a2, a3⟩, ⟨A2, c2, rfl, b1, b2, b3⟩, ⟨A3, c3, rfl, d1, d2, d3⟩⟩ := h
  obtain ⟨⟨D1, e1, rfl, f1, f2, f3⟩, ⟨D2, e2, rfl, g1, g2, g3⟩, ⟨D3, e3, rfl, h1, h2, h3⟩⟩ := h'
  unfold Cap at a2 b2 d2 f2 g2 h2
  obtain ⟨W0, hW0⟩ : ∃ W0, W0 = (w.alloc (.cells #[I d.stripe, .slice A1 d.slots.length c1, .slice A2 d.blocks.length c2, .slice A3 d.parity.length c3] 34)).alloc (.cells #[I d.stripe, .slice D1 d.slots.length e1, .slice D2 d.blocks.length e2, .slice D3 d.parity.length e3] 34) := ⟨_, rfl⟩
  have hE : Ext w W0 := by rw [hW0]; exact (by repeat (first | exact Below.refl _ _ | assumption | refine Ext.alloc ?_ _ | refine Ext.drew ?_ | refine Ext.trans ?_ (by assumption)))
  have x3 := a3.ext hE
  have y3 := b3.ext hE
  have x3' := f3.ext hE
  have y3' := g3.ext hE
  have k0 : W0.cell? ⟨w.heap.size, 0, none⟩ = some (I d.stripe) := by rw [hW0]; simp
  have k1 : W0.cell? ⟨w.heap.size, 1, none⟩ = some (.slice A1 d.slots.length c1) := by rw [hW0]; simp
  have k2 : W0.cell? ⟨w.heap.size, 2, none⟩ = some (.slice A2 d.blocks.length c2) := by rw [hW0]; simp
  have k3 : W0.cell? ⟨w.heap.size, 3, none⟩ = some (.slice A3 d.parity.length c3) := by rw [hW0]; simp
  have m0 : W0.cell? ⟨w.heap.size + 1, 0, none⟩ = some (I d.stripe) := by rw [hW0]; simp
  have m1 : W0.cell? ⟨w.heap.size + 1, 1, none⟩ = some (.slice D1 d.slots.length e1) := by rw [hW0]; simp
  have m2 : W0.cell? ⟨w.heap.size + 1, 2, none⟩ = some (.slice D2 d.blocks.length e2) := by rw [hW0]; simp
  have m3 : W0.cell? ⟨w.heap.size + 1, 3, none⟩ = some (.slice D3 d.parity.length e3) := by rw [hW0]; simp
  have s1 := Hc1.out _ hE
  have s2 := Hc2.out _ hE
  clear a3 b3 f3 g3 d3 h3
  go_enter Try.func23, Try.ntmps23
  go_upto_region 1 with fail
  rw [← hW0]
  clear hW0
  go_wp2
  clear s1 s2 k3 m3 k0 m0
  go_loopw [5] (fun i wr => ∃ k : Nat, k ≤ d.slots.length ∧ i = .int .i64 k ∧ Ext W0 wr) (fun i _ => d.slots.length - (intOf i).toNat)
  case atStart => exact ⟨0, Nat.zero_le _, rfl, Ext.refl _⟩
  case round =>
    obtain ⟨k, hk, rfl, he⟩ := hrel
    have K1 := he.cells k1
    have M1 := he.cells m1
    by_cases hlt : k < d.slots.length
    · obtain ⟨b, off, rfl, hc⟩ := int_at (x3.ext he) (by omega)
      have hck := hc k hlt
      obtain ⟨b', off', rfl, hc'⟩ := int_at (x3'.ext he) (by omega)
      have hck' := hc' k hlt
      obtain ⟨x, hx⟩ : ∃ x, x = d.slots[k] := ⟨_, rfl⟩
      rw [← hx] at hck hck'
      clear hc hc' hx x3 x3' y3 y3' k1 m1
      go_upto_region 6 with fail
      refine wp_lexi (by kernel_rfl) rfl [(0, false, []), (1, true, []), (0, false, []), (0, false, []), (1, true, []), (0, false, []), (1, true, []), (0, false, []), (0, false, []), (1, true, []), (0, false, []), (0, true, [])] (by kernel_rfl) (fun _ _ _ _ => True) ?_
      intro lL lT lP lQ HL HT HP HQ
      refine EWi.pure (by rw [HL.out]; rfl) (by rw [HT.out]; rfl) rfl ?_; intro w0; unfold runPlain; simp [go_sem, hlt]
      refine EWi.read (by rw [HL.out]; rfl) (by rw [HT.out]; rfl) rfl ?_; intro w0 h0; have e0 := h0.ext; have x0 := e0.cells K1; have x1 := e0.cells M1; have x2 := e0.cells hck; have x3 := e0.cells hck'; unfold runPlain; simp [go_sem, x0, x1, x2, x3, hlt]; refine ⟨(by repeat (first | exact Below.refl _ _ | assumption | refine Ext.alloc ?_ _ | refine Ext.drew ?_ | refine Ext.trans ?_ (by assumption))), ?_⟩; clear e0 h0 x0 x1 x2 x3
      refine EWi.pure (by rw [HL.out]; rfl) (by rw [HT.out]; rfl) rfl ?_; intro w0; unfold runPlain; simp [go_sem, hlt]
      refine EWi.pure (by rw [HL.out]; rfl) (by rw [HT.out]; rfl) rfl ?_; intro w0; unfold runPlain; simp [go_sem, hlt]
      refine EWi.read (by rw [HL.out]; rfl) (by rw [HT.out]; rfl) rfl ?_; intro w0 h0; have e0 := h0.ext; have x0 := e0.cells K1; have x1 := e0.cells M1; have x2 := e0.cells hck; have x3 := e0.cells hck'; unfold runPlain; simp [go_sem, x0, x1, x2, x3, hlt]; refine ⟨(by repeat (first | exact Below.refl _ _ | assumption | refine Ext.alloc ?_ _ | refine Ext.drew ?_ | refine Ext.trans ?_ (by assumption))), ?_⟩; clear e0 h0 x0 x1 x2 x3
      refine EWi.pure (by rw [HL.out]; rfl) (by rw [HT.out]; rfl) rfl ?_; intro w0; unfold runPlain; simp [go_sem, hlt]
      refine EWi.read (by rw [HL.out]; rfl) (by rw [HT.out]; rfl) rfl ?_; intro w0 h0; have e0 := h0.ext; have x0 := e0.cells K1; have x1 := e0.cells M1; have x2 := e0.cells hck; have x3 := e0.cells hck'; unfold runPlain; simp [go_sem, x0, x1, x2, x3, hlt]; refine ⟨(by repeat (first | exact Below.refl _ _ | assumption | refine Ext.alloc ?_ _ | refine Ext.drew ?_ | refine Ext.trans ?_ (by assumption))), ?_⟩; clear e0 h0 x0 x1 x2 x3
      refine EWi.pure (by rw [HL.out]; rfl) (by rw [HT.out]; rfl) rfl ?_; intro w0; unfold runPlain; simp [go_sem, hlt]
      refine EWi.pure (by rw [HL.out]; rfl) (by rw [HT.out]; rfl) rfl ?_; intro w0; unfold runPlain; simp [go_sem, hlt]
      refine EWi.read (by rw [HL.out]; rfl) (by rw [HT.out]; rfl) rfl ?_; intro w0 h0; have e0 := h0.ext; have x0 := e0.cells K1; have x1 := e0.cells M1; have x2 := e0.cells hck; have x3 := e0.cells hck'; unfold runPlain; simp [go_sem, x0, x1, x2, x3, hlt]; refine ⟨(by repeat (first | exact Below.refl _ _ | assumption | refine Ext.alloc ?_ _ | refine Ext.drew ?_ | refine Ext.trans ?_ (by assumption))), ?_⟩; clear e0 h0 x0 x1 x2 x3
      refine EWi.pure (by rw [HL.out]; rfl) (by rw [HT.out]; rfl) rfl ?_; intro w0; unfold runPlain; simp [go_sem, hlt]
      refine EWi.fin (by rw [HL.out]; rfl) (by rw [HT.out]; rfl) (by rw [HT.out]; rfl) ?_
      intro W hW
      rw [HQ.out]
      go_wp2
      go_roundw
      case rel => exact ⟨k + 1, by omega, by go_num, Ext.trans he hW.ext⟩
      case measure => simp [intOf]; omega
    · obtain rfl : k = d.slots.length := by omega
      clear x3 x3' k1 m1
      replace y3 := y3.ext he
      replace y3' := y3'.ext he
      replace k2 := he.cells k2
      replace m2 := he.cells m2
      replace hE := Ext.trans hE he
      clear he
      go_wp2
      clear K1 M1
      go_loopw [6] (fun i wx => ∃ k : Nat, k ≤ d.blocks.length ∧ i = .int .i64 k ∧ Ext wr wx) (fun i _ => d.blocks.length - (intOf i).toNat)
      case atStart => exact ⟨0, Nat.zero_le _, rfl, Ext.refl _⟩
      case round =>
        obtain ⟨k, hk, rfl, he⟩ := hrel
        have K2 := he.cells k2
        have M2 := he.cells m2
        by_cases hlt : k < d.blocks.length
        · obtain ⟨b, off, rfl, hc⟩ := slice_at (y3.ext he) (by omega)
          obtain ⟨A5, c5, hcj, q1, q2, q3⟩ := hc k hlt
          obtain ⟨b', off', rfl, hc'⟩ := slice_at (y3'.ext he) (by omega)
          obtain ⟨A6, c6, hcj', q1', q2', q3'⟩ := hc' k hlt
          obtain ⟨x, hx⟩ : ∃ x, x = d.blocks[k] := ⟨_, rfl⟩
          rw [← hx] at hcj hcj' q1 q3 q1' q3'
          clear hc hc' hx y3 y3' k2 m2
          go_upto_region 11 with fail
          refine wp_lexi (by kernel_rfl) rfl [(0, false, []), (1, true, []), (0, false, []), (0, false, []), (1, true, []), (0, false, []), (1, true, []), (0, false, []), (0, false, []), (1, true, []), (3, true, []), (0, false, []), (0, true, [])] (by kernel_rfl) (fun _ _ v _ => v = .bool true) ?_
          intro lL lT lP lQ HL HT HP HQ
          refine EWi.pure (by rw [HL.out]; rfl) (by rw [HT.out]; rfl) rfl ?_; intro w0; unfold runPlain; simp [go_sem, hlt]
          refine EWi.read (by rw [HL.out]; rfl) (by rw [HT.out]; rfl) rfl ?_; intro w0 h0; have e0 := h0.ext; have x0 := e0.cells K2; have x1 := e0.cells M2; have x2 := e0.cells hcj; have x3 := e0.cells hcj'; unfold runPlain; simp [go_sem, x0, x1, x2, x3, hlt]; refine ⟨(by repeat (first | exact Below.refl _ _ | assumption | refine Ext.alloc ?_ _ | refine Ext.drew ?_ | refine Ext.trans ?_ (by assumption))), ?_⟩; clear e0 h0 x0 x1 x2 x3
          refine EWi.pure (by rw [HL.out]; rfl) (by rw [HT.out]; rfl) rfl ?_; intro w0; unfold runPlain; simp [go_sem, hlt]
          refine EWi.pure (by rw [HL.out]; rfl) (by rw [HT.out]; rfl) rfl ?_; intro w0; unfold runPlain; simp [go_sem, hlt]
          refine EWi.read (by rw [HL.out]; rfl) (by rw [HT.out]; rfl) rfl ?_; intro w0 h0; have e0 := h0.ext; have x0 := e0.cells K2; have x1 := e0.cells M2; have x2 := e0.cells hcj; have x3 := e0.cells hcj'; unfold runPlain; simp [go_sem, x0, x1, x2, x3, hlt]; refine ⟨(by repeat (first | exact Below.refl _ _ | assumption | refine Ext.alloc ?_ _ | refine Ext.drew ?_ | refine Ext.trans ?_ (by assumption))), ?_⟩; clear e0 h0 x0 x1 x2 x3
          refine EWi.pure (by rw [HL.out]; rfl) (by rw [HT.out]; rfl) rfl ?_; intro w0; unfold runPlain; simp [go_sem, hlt]
          refine EWi.read (by rw [HL.out]; rfl) (by rw [HT.out]; rfl) rfl ?_; intro w0 h0; have e0 := h0.ext; have x0 := e0.cells K2; have x1 := e0.cells M2; have x2 := e0.cells hcj; have x3 := e0.cells hcj'; unfold runPlain; simp [go_sem, x0, x1, x2, x3, hlt]; refine ⟨(by repeat (first | exact Below.refl _ _ | assumption | refine Ext.alloc ?_ _ | refine Ext.drew ?_ | refine Ext.trans ?_ (by assumption))), ?_⟩; clear e0 h0 x0 x1 x2 x3
          refine EWi.pure (by rw [HL.out]; rfl) (by rw [HT.out]; rfl) rfl ?_; intro w0; unfold runPlain; simp [go_sem, hlt]
          refine EWi.pure (by rw [HL.out]; rfl) (by rw [HT.out]; rfl) rfl ?_; intro w0; unfold runPlain; simp [go_sem, hlt]
          refine EWi.read (by rw [HL.out]; rfl) (by rw [HT.out]; rfl) rfl ?_; intro w0 h0; have e0 := h0.ext; have x0 := e0.cells K2; have x1 := e0.cells M2; have x2 := e0.cells hcj; have x3 := e0.cells hcj'; unfold runPlain; simp [go_sem, x0, x1, x2, x3, hlt]; refine ⟨(by repeat (first | exact Below.refl _ _ | assumption | refine Ext.alloc ?_ _ | refine Ext.drew ?_ | refine Ext.trans ?_ (by assumption))), ?_⟩; clear e0 h0 x0 x1 x2 x3
          refine EWi.call (by rw [HL.out]; rfl) (by rw [HT.out]; rfl) rfl ?_ ?_
          · intro w0 h0
            unfold runOp
            simp [go_sem]
            rw [HP.out]
            refine (ref_Same02 _ _ x x w0 ⟨A5, c5, rfl, q1, q2, q3.ext h0.ext⟩ ⟨A6, c6, rfl, q1', q2', q3'.ext h0.ext⟩).mono ?_
            rintro e w1 ⟨rfl, he1⟩
            exact ⟨_, rfl, he1, by rw [sameB_self]⟩
          intro w10 u10 w10' h10 he10 hp
          rw [HP.out] at hp
          obtain rfl : u10 = .bool true := hp
          refine EWi.pure (by rw [HL.out]; rfl) (by rw [HT.out]; rfl) rfl ?_; intro w0; unfold runPlain; simp [go_sem]
          refine EWi.fin (by rw [HL.out]; rfl) (by rw [HT.out]; rfl) (by rw [HT.out]; rfl) ?_
          intro W hW
          rw [HQ.out]
          go_wp2
          go_roundw
          case rel => exact ⟨k + 1, by omega, by go_num, Ext.trans he hW.ext⟩
          case measure => simp [intOf]; omega
        · obtain rfl : k = d.blocks.length := by omega
          go_wp2
          go_ret
          exact ⟨rfl, Ext.trans hE he⟩

end Go.Proofs.Ytancfgmaejjooaa
