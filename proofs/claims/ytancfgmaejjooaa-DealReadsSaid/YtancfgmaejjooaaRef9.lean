/- The document's blocks and devices held against each other; which device is great. -/
import Derived.Test.YtancfgmaejjooaaRef8
import Derived.Test.YtancfgmaejjooaaStr
set_option linter.unusedVariables false
set_option linter.unusedSimpArgs false
namespace Go.Proofs.Ytancfgmaejjooaa
open Go.RowKit

theorem str_list (a : List UInt8) : (strOf a).toList = a := by simp [strOf, ByteArray.toList_eq]
attribute [local go_sem] str_list

def sameB (x y : List UInt8) : Bool := if isBlock x && isBlock y then (pad x == pad y) else (x == y)
theorem isBlock_le {l : List UInt8} (h : isBlock l = true) : l.length ≤ 128 := by
  unfold isBlock at h
  simp only [Bool.or_eq_true, beq_iff_eq] at h
  omega

set_option maxRecDepth 100000 in
set_option maxHeartbeats 1000000 in
theorem ref_Same02 (u v : Value) (x y : List UInt8) (w : World) (hx : Rep.byte.sl w u x) (hy : Rep.byte.sl w v y) :
    Calls Try.prog 72 #[u, v] w fun e w' => e = .returned (.bool (sameB x y)) ∧ Ext w w' := by
  have hx0 := hx
  have hy0 := hy
  have Hc1 := Lib.hid (conv_sl hx)
  have Hc2 := Lib.hid (conv_sl hy)
  obtain ⟨A, c, rfl, a1, a2, a3⟩ := hx
  obtain ⟨A', c', rfl, b1, b2, b3⟩ := hy
  cases hb1 : isBlock x
  · have Hs : Hid (sameB x y = (x == y)) := Lib.hid (by unfold sameB; rw [hb1]; simp)
    have hb := ref_Block _ x w hx0
    rw [hb1] at hb
    have q1 := Hc1.out
    have q2 := Hc2.out
    clear hb1
    go_enter Try.func72, Try.ntmps72
    go_wp2_with (go_at_call 126; refine hb.mono ?_; rintro e w2 ⟨rfl, rfl⟩)
    go_ret
    exact ⟨by rw [Hs.out]; rfl, Ext.refl _⟩
  cases hb2 : isBlock y
  · have Hs : Hid (sameB x y = (x == y)) := Lib.hid (by unfold sameB; rw [hb1, hb2]; simp)
    have hb := ref_Block _ x w hx0
    have hb' := ref_Block _ y w hy0
    rw [hb1] at hb
    rw [hb2] at hb'
    have q1 := Hc1.out
    have q2 := Hc2.out
    clear hb1 hb2
    go_enter Try.func72, Try.ntmps72
    go_wp2_with fail
    refine hb.mono ?_
    rintro e w2 ⟨rfl, rfl⟩
    go_wp2_with fail
    refine hb'.mono ?_
    rintro e w2 ⟨rfl, rfl⟩
    go_wp2
    go_ret
    exact ⟨by rw [Hs.out]; rfl, Ext.refl _⟩
  have Hs : Hid (sameB x y = (pad x == pad y)) := Lib.hid (by unfold sameB; rw [hb1, hb2]; simp)
  have hb := ref_Block _ x w hx0
  have hb' := ref_Block _ y w hy0
  rw [hb1] at hb
  rw [hb2] at hb'
  have hl1 := isBlock_le hb1
  have hl2 := isBlock_le hb2
  have hp1 := pad_len hl1
  have hp2 := pad_len hl2
  clear hb1 hb2
  go_enter Try.func72, Try.ntmps72
  go_wp2_with fail
  refine hb.mono ?_
  rintro e w2 ⟨rfl, rfl⟩
  go_wp2_with fail
  refine hb'.mono ?_
  rintro e w2 ⟨rfl, rfl⟩
  go_upto_region 3 with fail
  clear hb hb'
  refine wp_lexi (by kernel_rfl) rfl [(0, false, []), (3, true, []), (1, true, [1]), (0, false, []), (3, true, []), (1, true, [4]), (0, false, []), (0, false, []), (0, true, [])] (by kernel_rfl) (fun i w0 v w1 => match i with | 1 => ∃ g, v = .slice (some ⟨g, 0, none⟩) 128 128 ∧ BytesIn w1 g 5 (pad x) | _ => ∃ g, v = .slice (some ⟨g, 0, none⟩) 128 128 ∧ BytesIn w1 g 5 (pad y)) ?_
  intro lL lT lP lQ HL HT HP HQ
  repeat (first
    | (refine EWi.pure (by rw [HL.out]; rfl) (by rw [HT.out]; rfl) rfl ?_; intro w0; unfold runPlain; simp [go_sem]; with_reducible change EWi _ _ _ _ _ _ _ _ _ _)
    | (refine EWi.read (by rw [HL.out]; rfl) (by rw [HT.out]; rfl) rfl ?_; intro w0 h0; have e0 := h0.ext; unfold runPlain; simp [go_sem]; refine ⟨(by repeat (first | exact Below.refl _ _ | assumption | refine Ext.alloc ?_ _ | refine Ext.drew ?_ | refine Ext.trans ?_ (by assumption))), ?_⟩; with_reducible change EWi _ _ _ _ _ _ _ _ _ _; clear e0 h0))
  refine EWi.call (by rw [HL.out]; rfl) (by rw [HT.out]; rfl) rfl ?_ ?_
  · intro w0 h0
    unfold runOp
    simp [go_sem]
    rw [HP.out]
    refine (ref_Whole _ x w0 (hx0.ext h0.ext) hl1).mono ?_
    rintro e w1 ⟨rfl, hB, he⟩
    exact ⟨_, rfl, he, _, rfl, hB⟩
  intro w1 v w1' h1 he1 hp
  rw [HP.out] at hp
  obtain ⟨g, rfl, hB⟩ := hp
  have hs1 : Rep.byte.sl w1' (.slice (some ⟨g, 0, none⟩) 128 128) (pad x) := by
    have := own_bytes (hB.own (base := 0) (Nat.zero_le _) (by rw [hp1]; unfold Fit; decide))
    rwa [hp1] at this
  refine EWi.read (by rw [HL.out]; rfl) (by rw [HT.out]; rfl) rfl ?_
  intro w2 h2
  have e2 : Ext w1' w2 := h2.2 1 (by simp)
  unfold runPlain
  simp [go_sem, conv_sl (hs1.ext e2)]
  refine ⟨Ext.refl _, ?_⟩
  repeat (first
    | (refine EWi.pure (by rw [HL.out]; rfl) (by rw [HT.out]; rfl) rfl ?_; intro w0; unfold runPlain; simp [go_sem]; with_reducible change EWi _ _ _ _ _ _ _ _ _ _)
    | (refine EWi.read (by rw [HL.out]; rfl) (by rw [HT.out]; rfl) rfl ?_; intro w0 h0; have e0 := h0.ext; unfold runPlain; simp [go_sem]; refine ⟨(by repeat (first | exact Below.refl _ _ | assumption | refine Ext.alloc ?_ _ | refine Ext.drew ?_ | refine Ext.trans ?_ (by assumption))), ?_⟩; with_reducible change EWi _ _ _ _ _ _ _ _ _ _; clear e0 h0))
  refine EWi.call (by rw [HL.out]; rfl) (by rw [HT.out]; rfl) rfl ?_ ?_
  · intro w0 h0
    unfold runOp
    simp [go_sem]
    rw [HP.out]
    refine (ref_Whole _ y w0 (hy0.ext h0.ext) hl2).mono ?_
    rintro e w1 ⟨rfl, hB, he⟩
    exact ⟨_, rfl, he, _, rfl, hB⟩
  intro w3 v w3' h3 he3 hp
  rw [HP.out] at hp
  obtain ⟨g', rfl, hB'⟩ := hp
  have hs2 : Rep.byte.sl w3' (.slice (some ⟨g', 0, none⟩) 128 128) (pad y) := by
    have := own_bytes (hB'.own (base := 0) (Nat.zero_le _) (by rw [hp2]; unfold Fit; decide))
    rwa [hp2] at this
  refine EWi.read (by rw [HL.out]; rfl) (by rw [HT.out]; rfl) rfl ?_
  intro w4 h4
  have e4 : Ext w3' w4 := h4.2 4 (by simp)
  unfold runPlain
  simp [go_sem, conv_sl (hs2.ext e4)]
  refine ⟨Ext.refl _, ?_⟩
  repeat (first
    | (refine EWi.pure (by rw [HL.out]; rfl) (by rw [HT.out]; rfl) rfl ?_; intro w0; unfold runPlain; simp [go_sem]; with_reducible change EWi _ _ _ _ _ _ _ _ _ _)
    | (refine EWi.read (by rw [HL.out]; rfl) (by rw [HT.out]; rfl) rfl ?_; intro w0 h0; have e0 := h0.ext; unfold runPlain; simp [go_sem]; refine ⟨(by repeat (first | exact Below.refl _ _ | assumption | refine Ext.alloc ?_ _ | refine Ext.drew ?_ | refine Ext.trans ?_ (by assumption))), ?_⟩; with_reducible change EWi _ _ _ _ _ _ _ _ _ _; clear e0 h0))
  refine EWi.fin (by rw [HL.out]; rfl) (by rw [HT.out]; rfl) (by rw [HT.out]; rfl) ?_
  intro W hW
  rw [HQ.out]
  go_wp2
  go_ret
  exact ⟨by rw [Hs.out]; rfl, hW.ext⟩

end Go.Proofs.Ytancfgmaejjooaa
