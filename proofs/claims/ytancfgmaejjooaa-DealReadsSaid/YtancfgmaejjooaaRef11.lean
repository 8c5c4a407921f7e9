/- The document's devices: which may be; two that have the same data. -/
import Derived.Test.YtancfgmaejjooaaRef10
set_option linter.unusedVariables false
set_option linter.unusedSimpArgs false
namespace Go.Proofs.Ytancfgmaejjooaa
open Go.RowKit

def okB (dead : Bool) (x : List UInt8) : Bool := isBlock x && !(dead && decide (0 < x.length))
theorem may_ref (d : Dk) : d.may = (decide (1 ≤ d.blocks.length) && decide (d.blocks.length ≤ 256) && decide (d.wait.length ≤ 1024) && !(d.dead && decide (0 < d.wait.length)) && d.blocks.all (okB d.dead) && d.wait.all (waitOk d.blocks.length)) := by
  unfold Dk.may okB
  cases hd : d.dead
  · simp
  · rw [Bool.eq_iff_iff]
    simp only [Bool.and_eq_true, decide_eq_true_eq, List.all_eq_true, Bool.not_eq_true', Bool.or_eq_true, Bool.true_and, decide_eq_false_iff_not, List.isEmpty_iff]
    constructor
    · rintro ⟨⟨⟨⟨⟨h1, h2⟩, h3⟩, h4⟩, h5⟩, h6 | ⟨h6, h7⟩⟩
      · cases h6
      · exact ⟨⟨⟨⟨⟨h1, h2⟩, h3⟩, by rw [h6]; simp⟩, fun x hx => ⟨h4 x hx, by rw [h7 x hx]; simp⟩⟩, h5⟩
    · rintro ⟨⟨⟨⟨⟨h1, h2⟩, h3⟩, h6⟩, h4⟩, h5⟩
      exact ⟨⟨⟨⟨⟨h1, h2⟩, h3⟩, fun x hx => (h4 x hx).1⟩, h5⟩, .inr ⟨List.eq_nil_of_length_eq_zero (by omega), fun x hx => List.eq_nil_of_length_eq_zero (by have := (h4 x hx).2; omega)⟩⟩
theorem all_step {α : Type} {p : α → Bool} {l : List α} {k : Nat} (hk : k < l.length) (h : (l.take k).all p = true) (h' : p l[k] = true) : (l.take (k + 1)).all p = true := by
  rw [List.take_succ_eq_append_getElem hk, List.all_append, h]
  simp [h']
theorem may_first {d : Dk} (h : d.blocks.length < 1 ∨ 256 < d.blocks.length ∨ 1024 < d.wait.length ∨ (d.dead = true ∧ 0 < d.wait.length)) : d.may = false := by
  rw [may_ref]
  rcases h with h | h | h | ⟨h, h'⟩
  · simp [show ¬ 1 ≤ d.blocks.length by omega]
  · simp [show ¬ d.blocks.length ≤ 256 by omega]
  · simp [show ¬ d.wait.length ≤ 1024 by omega]
  · simp [h, h']
theorem may_block {d : Dk} {k : Nat} (hk : k < d.blocks.length) (h : okB d.dead d.blocks[k] = false) : d.may = false := by
  rw [may_ref, all_no hk h]
  simp
theorem may_wait {d : Dk} {k : Nat} (hk : k < d.wait.length) (h : waitOk d.blocks.length d.wait[k] = false) : d.may = false := by
  rw [may_ref, all_no hk h]
  simp

set_option maxRecDepth 100000 in
set_option maxHeartbeats 1000000 in
theorem ref_dMay (d : Dk) (bv wv : Value) (w : World) (h : DkAt w bv wv d) :
    Calls Try.prog 119 #[d.v bv wv] w fun e w' => e = .returned (.bool d.may) ∧ Ext w w' := by
  obtain ⟨⟨A, c, rfl, a1, a2, a3⟩, ⟨A', c', rfl, b1, b2, b3⟩⟩ := h
  obtain ⟨W0, hW0⟩ : ∃ W0, W0 = w.alloc (.cells (d.row (.slice A d.blocks.length c) (.slice A' d.wait.length c')) 28) := ⟨_, rfl⟩
  have hE : Ext w W0 := by rw [hW0]; exact Ext.alloc (Ext.refl _) _
  have x3 := a3.ext hE
  have y3 := b3.ext hE
  have k0 : W0.cell? ⟨w.heap.size, 0, none⟩ = some (.slice A d.blocks.length c) := by rw [hW0]; simp
  have k1 : W0.cell? ⟨w.heap.size, 1, none⟩ = some (.slice A' d.wait.length c') := by rw [hW0]; simp
  have k2 : W0.cell? ⟨w.heap.size, 2, none⟩ = some (.bool d.dead) := by rw [hW0]; simp
  have HF := Lib.hid (@may_first d)
  unfold Cap at a2 b2
  clear a3 b3
  go_enter Try.func119, Try.ntmps119
  go_upto_region 1 with fail
  rw [← hW0]
  clear hW0
  have HB : Hid (∀ (k : Nat) (hk : k < d.blocks.length), okB d.dead d.blocks[k] = false → d.may = false) := Lib.hid (fun k hk h => may_block hk h)
  have HWt : Hid (∀ (k : Nat) (hk : k < d.wait.length), waitOk d.blocks.length d.wait[k] = false → d.may = false) := Lib.hid (fun k hk h => may_wait hk h)
  have HR := Lib.hid (may_ref d)
  obtain ⟨dd, hdd⟩ : ∃ dd, dd = d.dead := ⟨_, rfl⟩
  by_cases hfirst : (d.blocks.length < 1 ∨ 256 < d.blocks.length ∨ 1024 < d.wait.length ∨ (dd = true ∧ 0 < d.wait.length))
  · have HN : Hid (d.may = false) := Lib.hid (HF.out (by rw [← hdd]; exact hfirst))
    rw [← hdd] at k2
    clear hdd
    rcases hfirst with h | h | h | ⟨rfl, h⟩
    all_goals
      go_wp2
      all_goals first
        | (go_ret
           exact ⟨by rw [HN.out]; rfl, hE⟩)
        | (exfalso; omega)
  simp only [not_or, not_and, Nat.not_lt, Nat.le_zero] at hfirst
  obtain ⟨f1, f2, f3, f4⟩ := hfirst
  have HR' : Hid (d.may = (d.blocks.all (okB d.dead) && d.wait.all (waitOk d.blocks.length))) := Lib.hid (by
    rw [HR.out]
    have : (d.dead && decide (0 < d.wait.length)) = false := by
      rw [← hdd]
      cases dd
      · rfl
      · simp [f4 rfl]
    rw [this]
    simp [f1, f2, f3])
  have HD := Lib.hid hdd
  rw [← hdd] at k2
  clear hdd HF HR
  cases dd
  all_goals
    try have f5 : ¬ 0 < d.wait.length := by have := f4 rfl; omega
    clear f4
    go_wp2
    go_loop [3] (fun i => ∃ k : Nat, k ≤ d.blocks.length ∧ i = .int .i64 k ∧ Hid ((d.blocks.take k).all (okB d.dead) = true)) (fun i => d.blocks.length - (intOf i).toNat)
    case atStart => exact ⟨0, Nat.zero_le _, rfl, Lib.hid (by simp)⟩
    case round =>
      obtain ⟨k, hk, rfl, HA⟩ := hrel
      by_cases hlt : k < d.blocks.length
      · obtain ⟨b, off, rfl, hc⟩ := slice_at x3 (by omega)
        obtain ⟨A2, c2, hcj, g1, g2, g3⟩ := hc k hlt
        have HS := Lib.hid (all_step hlt HA.out)
        have HN := Lib.hid (HB.out k hlt)
        obtain ⟨x, hx⟩ : ∃ x, x = d.blocks[k] := ⟨_, rfl⟩
        rw [← hx] at hcj g1 g3 HS HN
        have hcall := ref_Sized _ x W0 ⟨A2, c2, rfl, g1, g2, g3⟩
        cases hb : isBlock x
        · rw [hb] at hcall
          have Hb := Lib.hid hb
          clear hc hx x3 y3 hb
          go_wp2_with (go_at_call 170; refine hcall.mono ?_; rintro e w2 ⟨rfl, rfl⟩)
          go_ret
          exact ⟨by rw [HN.out (by unfold okB; rw [Hb.out]; rfl)]; rfl, hE⟩
        · rw [hb] at hcall
          have Hb := Lib.hid hb
          by_cases h0 : 0 < x.length
          · clear hc hx x3 y3 hb
            go_wp2_with (go_at_call 170; refine hcall.mono ?_; rintro e w2 ⟨rfl, rfl⟩)
            first
              | (go_ret
                 exact ⟨by rw [HN.out (by unfold okB; rw [Hb.out, ← HD.out]; simp [h0])]; rfl, hE⟩)
              | (go_round
                 case rel => exact ⟨k + 1, by omega, by go_num, Lib.hid (HS.out (by unfold okB; rw [Hb.out, ← HD.out]; simp))⟩
                 case measure => simp [intOf]; omega)
          · clear hc hx x3 y3 hb
            go_wp2_with (go_at_call 170; refine hcall.mono ?_; rintro e w2 ⟨rfl, rfl⟩)
            go_round
            case rel => exact ⟨k + 1, by omega, by go_num, Lib.hid (HS.out (by unfold okB; rw [Hb.out, ← HD.out]; simp [h0]))⟩
            case measure => simp [intOf]; omega
      · obtain rfl : k = d.blocks.length := by omega
        have HA' := HA.out
        rw [List.take_length] at HA'
        rw [HA', Bool.true_and] at HR'
        have HR9 := Lib.hid HR'.out
        clear HA' HA HB HR'
        clear x3
        try clear f5
        go_wp2
        go_loopw [4] (fun i wr => ∃ k : Nat, k ≤ d.wait.length ∧ i = .int .i64 k ∧ Hid ((d.wait.take k).all (waitOk d.blocks.length) = true) ∧ Ext W0 wr) (fun i _ => d.wait.length - (intOf i).toNat)
        case atStart => exact ⟨0, Nat.zero_le _, rfl, Lib.hid (by simp), Ext.refl _⟩
        case round =>
          obtain ⟨k, hk, rfl, HA, he⟩ := hrel
          replace k0 := he.cells k0
          replace k1 := he.cells k1
          clear k2
          by_cases hlt : k < d.wait.length
          · obtain ⟨b, off, rfl, hc⟩ := wr_at (y3.ext he) (by omega)
            obtain ⟨A2, c2, hc0, hcj, g1, g2, g3⟩ := hc k hlt
            have HS := Lib.hid (all_step hlt HA.out)
            have HN := Lib.hid (HWt.out k hlt)
            obtain ⟨x, hx⟩ : ∃ x, x = d.wait[k] := ⟨_, rfl⟩
            rw [← hx] at hc0 hcj g1 g3 HS HN
            have hcall := fun w1 (he : Ext wr w1) => ref_Sized _ x.data w1 (Rep.sl.ext (w := wr) ⟨A2, c2, rfl, g1, g2, g3⟩ he)
            have Hw : Hid (waitOk d.blocks.length x = (decide (0 ≤ x.at_) && decide (x.at_ < d.blocks.length) && isBlock x.data)) := Lib.hid rfl
            obtain ⟨xa, hxa⟩ : ∃ xa, xa = x.at_ := ⟨_, rfl⟩
            rw [← hxa] at hc0 Hw
            obtain ⟨ib, hib⟩ : ∃ ib, ib = isBlock x.data := ⟨_, rfl⟩
            rw [← hib] at Hw
            simp only [← hib] at hcall
            have Hcall := Lib.hid hcall
            clear hc hx y3 hcall hxa hib
            go_upto_region 11 with fail
            by_cases q1 : xa < 0
            · skip
              refine wp_lexi (by kernel_rfl) rfl [(0, false, []), (1, true, []), (0, false, []), (0, false, []), (0, false, []), (1, true, []), (0, false, []), (0, false, []), (0, false, []), (1, true, []), (0, false, []), (0, false, []), (0, false, []), (1, true, []), (0, false, []), (1, true, []), (0, false, []), (0, false, []), (0, false, []), (0, false, []), (0, false, []), (1, true, []), (0, false, []), (0, false, []), (0, false, []), (1, true, []), (3, true, []), (0, false, []), (0, false, []), (0, true, [])] (by kernel_rfl) (fun _ _ v _ => v = .bool ib) ?_
              intro lL lT lP lQ HL HT HP HQ
              refine EWi.pure (by rw [HL.out]; rfl) (by rw [HT.out]; rfl) rfl ?_; intro w0; unfold runPlain; simp [go_sem, q1, hlt]
              refine EWi.read (by rw [HL.out]; rfl) (by rw [HT.out]; rfl) rfl ?_; intro w0 h0; have e0 := h0.ext; have x0 := e0.cells k0; have x1 := e0.cells k1; have x2 := e0.cells hc0; have x3 := e0.cells hcj; unfold runPlain; simp [go_sem, x0, x1, x2, x3, q1, hlt]; refine ⟨(by repeat (first | exact Below.refl _ _ | assumption | refine Ext.alloc ?_ _ | refine Ext.drew ?_ | refine Ext.trans ?_ (by assumption))), ?_⟩; clear e0 h0 x0 x1 x2 x3
              iterate 3 (refine EWi.pure (by rw [HL.out]; rfl) (by rw [HT.out]; rfl) rfl ?_; intro w0; unfold runPlain; simp [go_sem, q1, hlt])
              refine EWi.read (by rw [HL.out]; rfl) (by rw [HT.out]; rfl) rfl ?_; intro w0 h0; have e0 := h0.ext; have x0 := e0.cells k0; have x1 := e0.cells k1; have x2 := e0.cells hc0; have x3 := e0.cells hcj; unfold runPlain; simp [go_sem, x0, x1, x2, x3, q1, hlt]; refine ⟨(by repeat (first | exact Below.refl _ _ | assumption | refine Ext.alloc ?_ _ | refine Ext.drew ?_ | refine Ext.trans ?_ (by assumption))), ?_⟩; clear e0 h0 x0 x1 x2 x3
              iterate 2 (refine EWi.pure (by rw [HL.out]; rfl) (by rw [HT.out]; rfl) rfl ?_; intro w0; unfold runPlain; simp [go_sem, q1, hlt])
              iterate 10 (refine EWi.no (by rw [HL.out]; rfl) (by rw [HT.out]; rfl) (by simp [wantedV, upd, boolOf_undef, boolOf_bool, q1, hlt]) ?_; intro w0; simp [go_sem])
              refine EWi.pure (by rw [HL.out]; rfl) (by rw [HT.out]; rfl) rfl ?_; intro w0; unfold runPlain; simp [go_sem, q1, hlt]
              refine EWi.pure (by rw [HL.out]; rfl) (by rw [HT.out]; rfl) rfl ?_; intro w0; unfold runPlain; simp [go_sem, q1, hlt]
              iterate 8 (refine EWi.no (by rw [HL.out]; rfl) (by rw [HT.out]; rfl) (by simp [wantedV, upd, boolOf_undef, boolOf_bool, q1, hlt]) ?_; intro w0; simp [go_sem])
              refine EWi.pure (by rw [HL.out]; rfl) (by rw [HT.out]; rfl) rfl ?_; intro w0; unfold runPlain; simp [go_sem, q1, hlt]
              refine EWi.fin (by rw [HL.out]; rfl) (by rw [HT.out]; rfl) (by rw [HT.out]; rfl) ?_
              intro W hW
              rw [HQ.out]
              go_wp2
              go_ret
              exact ⟨by rw [HN.out (by rw [Hw.out]; simp; omega)]; rfl, Ext.trans hE (Ext.trans he hW.ext)⟩
            · by_cases q2 : (d.blocks.length : Int) ≤ xa
              · skip
                refine wp_lexi (by kernel_rfl) rfl [(0, false, []), (1, true, []), (0, false, []), (0, false, []), (0, false, []), (1, true, []), (0, false, []), (0, false, []), (0, false, []), (1, true, []), (0, false, []), (0, false, []), (0, false, []), (1, true, []), (0, false, []), (1, true, []), (0, false, []), (0, false, []), (0, false, []), (0, false, []), (0, false, []), (1, true, []), (0, false, []), (0, false, []), (0, false, []), (1, true, []), (3, true, []), (0, false, []), (0, false, []), (0, true, [])] (by kernel_rfl) (fun _ _ v _ => v = .bool ib) ?_
                intro lL lT lP lQ HL HT HP HQ
                refine EWi.pure (by rw [HL.out]; rfl) (by rw [HT.out]; rfl) rfl ?_; intro w0; unfold runPlain; simp [go_sem, q1, q2, hlt]
                refine EWi.read (by rw [HL.out]; rfl) (by rw [HT.out]; rfl) rfl ?_; intro w0 h0; have e0 := h0.ext; have x0 := e0.cells k0; have x1 := e0.cells k1; have x2 := e0.cells hc0; have x3 := e0.cells hcj; unfold runPlain; simp [go_sem, x0, x1, x2, x3, q1, q2, hlt]; refine ⟨(by repeat (first | exact Below.refl _ _ | assumption | refine Ext.alloc ?_ _ | refine Ext.drew ?_ | refine Ext.trans ?_ (by assumption))), ?_⟩; clear e0 h0 x0 x1 x2 x3
                iterate 3 (refine EWi.pure (by rw [HL.out]; rfl) (by rw [HT.out]; rfl) rfl ?_; intro w0; unfold runPlain; simp [go_sem, q1, q2, hlt])
                refine EWi.read (by rw [HL.out]; rfl) (by rw [HT.out]; rfl) rfl ?_; intro w0 h0; have e0 := h0.ext; have x0 := e0.cells k0; have x1 := e0.cells k1; have x2 := e0.cells hc0; have x3 := e0.cells hcj; unfold runPlain; simp [go_sem, x0, x1, x2, x3, q1, q2, hlt]; refine ⟨(by repeat (first | exact Below.refl _ _ | assumption | refine Ext.alloc ?_ _ | refine Ext.drew ?_ | refine Ext.trans ?_ (by assumption))), ?_⟩; clear e0 h0 x0 x1 x2 x3
                iterate 2 (refine EWi.pure (by rw [HL.out]; rfl) (by rw [HT.out]; rfl) rfl ?_; intro w0; unfold runPlain; simp [go_sem, q1, q2, hlt])
                refine EWi.pure (by rw [HL.out]; rfl) (by rw [HT.out]; rfl) (by simp [wantedV, upd, boolOf_undef, boolOf_bool, q1, q2, hlt]) ?_; intro w0; unfold runPlain; simp [go_sem, q1, q2, hlt]
                refine EWi.read (by rw [HL.out]; rfl) (by rw [HT.out]; rfl) (by simp [wantedV, upd, boolOf_undef, boolOf_bool, q1, q2, hlt]) ?_; intro w0 h0; have e0 := h0.ext; have x0 := e0.cells k0; have x1 := e0.cells k1; have x2 := e0.cells hc0; have x3 := e0.cells hcj; unfold runPlain; simp [go_sem, x0, x1, x2, x3, q1, q2, hlt]; refine ⟨(by repeat (first | exact Below.refl _ _ | assumption | refine Ext.alloc ?_ _ | refine Ext.drew ?_ | refine Ext.trans ?_ (by assumption))), ?_⟩; clear e0 h0 x0 x1 x2 x3
                refine EWi.pure (by rw [HL.out]; rfl) (by rw [HT.out]; rfl) (by simp [wantedV, upd, boolOf_undef, boolOf_bool, q1, q2, hlt]) ?_; intro w0; unfold runPlain; simp [go_sem, q1, q2, hlt]
                refine EWi.pure (by rw [HL.out]; rfl) (by rw [HT.out]; rfl) (by simp [wantedV, upd, boolOf_undef, boolOf_bool, q1, q2, hlt]) ?_; intro w0; unfold runPlain; simp [go_sem, q1, q2, hlt]
                refine EWi.pure (by rw [HL.out]; rfl) (by rw [HT.out]; rfl) (by simp [wantedV, upd, boolOf_undef, boolOf_bool, q1, q2, hlt]) ?_; intro w0; unfold runPlain; simp [go_sem, q1, q2, hlt]
                refine EWi.read (by rw [HL.out]; rfl) (by rw [HT.out]; rfl) (by simp [wantedV, upd, boolOf_undef, boolOf_bool, q1, q2, hlt]) ?_; intro w0 h0; have e0 := h0.ext; have x0 := e0.cells k0; have x1 := e0.cells k1; have x2 := e0.cells hc0; have x3 := e0.cells hcj; unfold runPlain; simp [go_sem, x0, x1, x2, x3, q1, q2, hlt]; refine ⟨(by repeat (first | exact Below.refl _ _ | assumption | refine Ext.alloc ?_ _ | refine Ext.drew ?_ | refine Ext.trans ?_ (by assumption))), ?_⟩; clear e0 h0 x0 x1 x2 x3
                refine EWi.pure (by rw [HL.out]; rfl) (by rw [HT.out]; rfl) (by simp [wantedV, upd, boolOf_undef, boolOf_bool, q1, q2, hlt]) ?_; intro w0; unfold runPlain; simp [go_sem, q1, q2, hlt]
                refine EWi.read (by rw [HL.out]; rfl) (by rw [HT.out]; rfl) (by simp [wantedV, upd, boolOf_undef, boolOf_bool, q1, q2, hlt]) ?_; intro w0 h0; have e0 := h0.ext; have x0 := e0.cells k0; have x1 := e0.cells k1; have x2 := e0.cells hc0; have x3 := e0.cells hcj; unfold runPlain; simp [go_sem, x0, x1, x2, x3, q1, q2, hlt]; refine ⟨(by repeat (first | exact Below.refl _ _ | assumption | refine Ext.alloc ?_ _ | refine Ext.drew ?_ | refine Ext.trans ?_ (by assumption))), ?_⟩; clear e0 h0 x0 x1 x2 x3
                refine EWi.pure (by rw [HL.out]; rfl) (by rw [HT.out]; rfl) (by simp [wantedV, upd, boolOf_undef, boolOf_bool, q1, q2, hlt]) ?_; intro w0; unfold runPlain; simp [go_sem, q1, q2, hlt]
                refine EWi.pure (by rw [HL.out]; rfl) (by rw [HT.out]; rfl) (by simp [wantedV, upd, boolOf_undef, boolOf_bool, q1, q2, hlt]) ?_; intro w0; unfold runPlain; simp [go_sem, q1, q2, hlt]
                refine EWi.pure (by rw [HL.out]; rfl) (by rw [HT.out]; rfl) rfl ?_; intro w0; unfold runPlain; simp [go_sem, q1, q2, hlt]
                refine EWi.pure (by rw [HL.out]; rfl) (by rw [HT.out]; rfl) rfl ?_; intro w0; unfold runPlain; simp [go_sem, q1, q2, hlt]
                iterate 8 (refine EWi.no (by rw [HL.out]; rfl) (by rw [HT.out]; rfl) (by simp [wantedV, upd, boolOf_undef, boolOf_bool, q1, q2, hlt]) ?_; intro w0; simp [go_sem])
                refine EWi.pure (by rw [HL.out]; rfl) (by rw [HT.out]; rfl) rfl ?_; intro w0; unfold runPlain; simp [go_sem, q1, q2, hlt]
                refine EWi.fin (by rw [HL.out]; rfl) (by rw [HT.out]; rfl) (by rw [HT.out]; rfl) ?_
                intro W hW
                rw [HQ.out]
                go_wp2
                go_ret
                exact ⟨by rw [HN.out (by rw [Hw.out]; simp; omega)]; rfl, Ext.trans hE (Ext.trans he hW.ext)⟩
              · skip
                refine wp_lexi (by kernel_rfl) rfl [(0, false, []), (1, true, []), (0, false, []), (0, false, []), (0, false, []), (1, true, []), (0, false, []), (0, false, []), (0, false, []), (1, true, []), (0, false, []), (0, false, []), (0, false, []), (1, true, []), (0, false, []), (1, true, []), (0, false, []), (0, false, []), (0, false, []), (0, false, []), (0, false, []), (1, true, []), (0, false, []), (0, false, []), (0, false, []), (1, true, []), (3, true, []), (0, false, []), (0, false, []), (0, true, [])] (by kernel_rfl) (fun _ _ v _ => v = .bool ib) ?_
                intro lL lT lP lQ HL HT HP HQ
                refine EWi.pure (by rw [HL.out]; rfl) (by rw [HT.out]; rfl) rfl ?_; intro w0; unfold runPlain; simp [go_sem, q1, q2, hlt]
                refine EWi.read (by rw [HL.out]; rfl) (by rw [HT.out]; rfl) rfl ?_; intro w0 h0; have e0 := h0.ext; have x0 := e0.cells k0; have x1 := e0.cells k1; have x2 := e0.cells hc0; have x3 := e0.cells hcj; unfold runPlain; simp [go_sem, x0, x1, x2, x3, q1, q2, hlt]; refine ⟨(by repeat (first | exact Below.refl _ _ | assumption | refine Ext.alloc ?_ _ | refine Ext.drew ?_ | refine Ext.trans ?_ (by assumption))), ?_⟩; clear e0 h0 x0 x1 x2 x3
                iterate 3 (refine EWi.pure (by rw [HL.out]; rfl) (by rw [HT.out]; rfl) rfl ?_; intro w0; unfold runPlain; simp [go_sem, q1, q2, hlt])
                refine EWi.read (by rw [HL.out]; rfl) (by rw [HT.out]; rfl) rfl ?_; intro w0 h0; have e0 := h0.ext; have x0 := e0.cells k0; have x1 := e0.cells k1; have x2 := e0.cells hc0; have x3 := e0.cells hcj; unfold runPlain; simp [go_sem, x0, x1, x2, x3, q1, q2, hlt]; refine ⟨(by repeat (first | exact Below.refl _ _ | assumption | refine Ext.alloc ?_ _ | refine Ext.drew ?_ | refine Ext.trans ?_ (by assumption))), ?_⟩; clear e0 h0 x0 x1 x2 x3
                iterate 2 (refine EWi.pure (by rw [HL.out]; rfl) (by rw [HT.out]; rfl) rfl ?_; intro w0; unfold runPlain; simp [go_sem, q1, q2, hlt])
                refine EWi.pure (by rw [HL.out]; rfl) (by rw [HT.out]; rfl) (by simp [wantedV, upd, boolOf_undef, boolOf_bool, q1, q2, hlt]) ?_; intro w0; unfold runPlain; simp [go_sem, q1, q2, hlt]
                refine EWi.read (by rw [HL.out]; rfl) (by rw [HT.out]; rfl) (by simp [wantedV, upd, boolOf_undef, boolOf_bool, q1, q2, hlt]) ?_; intro w0 h0; have e0 := h0.ext; have x0 := e0.cells k0; have x1 := e0.cells k1; have x2 := e0.cells hc0; have x3 := e0.cells hcj; unfold runPlain; simp [go_sem, x0, x1, x2, x3, q1, q2, hlt]; refine ⟨(by repeat (first | exact Below.refl _ _ | assumption | refine Ext.alloc ?_ _ | refine Ext.drew ?_ | refine Ext.trans ?_ (by assumption))), ?_⟩; clear e0 h0 x0 x1 x2 x3
                refine EWi.pure (by rw [HL.out]; rfl) (by rw [HT.out]; rfl) (by simp [wantedV, upd, boolOf_undef, boolOf_bool, q1, q2, hlt]) ?_; intro w0; unfold runPlain; simp [go_sem, q1, q2, hlt]
                refine EWi.pure (by rw [HL.out]; rfl) (by rw [HT.out]; rfl) (by simp [wantedV, upd, boolOf_undef, boolOf_bool, q1, q2, hlt]) ?_; intro w0; unfold runPlain; simp [go_sem, q1, q2, hlt]
                refine EWi.pure (by rw [HL.out]; rfl) (by rw [HT.out]; rfl) (by simp [wantedV, upd, boolOf_undef, boolOf_bool, q1, q2, hlt]) ?_; intro w0; unfold runPlain; simp [go_sem, q1, q2, hlt]
                refine EWi.read (by rw [HL.out]; rfl) (by rw [HT.out]; rfl) (by simp [wantedV, upd, boolOf_undef, boolOf_bool, q1, q2, hlt]) ?_; intro w0 h0; have e0 := h0.ext; have x0 := e0.cells k0; have x1 := e0.cells k1; have x2 := e0.cells hc0; have x3 := e0.cells hcj; unfold runPlain; simp [go_sem, x0, x1, x2, x3, q1, q2, hlt]; refine ⟨(by repeat (first | exact Below.refl _ _ | assumption | refine Ext.alloc ?_ _ | refine Ext.drew ?_ | refine Ext.trans ?_ (by assumption))), ?_⟩; clear e0 h0 x0 x1 x2 x3
                refine EWi.pure (by rw [HL.out]; rfl) (by rw [HT.out]; rfl) (by simp [wantedV, upd, boolOf_undef, boolOf_bool, q1, q2, hlt]) ?_; intro w0; unfold runPlain; simp [go_sem, q1, q2, hlt]
                refine EWi.read (by rw [HL.out]; rfl) (by rw [HT.out]; rfl) (by simp [wantedV, upd, boolOf_undef, boolOf_bool, q1, q2, hlt]) ?_; intro w0 h0; have e0 := h0.ext; have x0 := e0.cells k0; have x1 := e0.cells k1; have x2 := e0.cells hc0; have x3 := e0.cells hcj; unfold runPlain; simp [go_sem, x0, x1, x2, x3, q1, q2, hlt]; refine ⟨(by repeat (first | exact Below.refl _ _ | assumption | refine Ext.alloc ?_ _ | refine Ext.drew ?_ | refine Ext.trans ?_ (by assumption))), ?_⟩; clear e0 h0 x0 x1 x2 x3
                refine EWi.pure (by rw [HL.out]; rfl) (by rw [HT.out]; rfl) (by simp [wantedV, upd, boolOf_undef, boolOf_bool, q1, q2, hlt]) ?_; intro w0; unfold runPlain; simp [go_sem, q1, q2, hlt]
                refine EWi.pure (by rw [HL.out]; rfl) (by rw [HT.out]; rfl) (by simp [wantedV, upd, boolOf_undef, boolOf_bool, q1, q2, hlt]) ?_; intro w0; unfold runPlain; simp [go_sem, q1, q2, hlt]
                refine EWi.pure (by rw [HL.out]; rfl) (by rw [HT.out]; rfl) rfl ?_; intro w0; unfold runPlain; simp [go_sem, q1, q2, hlt]
                refine EWi.pure (by rw [HL.out]; rfl) (by rw [HT.out]; rfl) rfl ?_; intro w0; unfold runPlain; simp [go_sem, q1, q2, hlt]
                refine EWi.pure (by rw [HL.out]; rfl) (by rw [HT.out]; rfl) (by simp [wantedV, upd, boolOf_undef, boolOf_bool, q1, q2, hlt]) ?_; intro w0; unfold runPlain; simp [go_sem, q1, q2, hlt]
                refine EWi.read (by rw [HL.out]; rfl) (by rw [HT.out]; rfl) (by simp [wantedV, upd, boolOf_undef, boolOf_bool, q1, q2, hlt]) ?_; intro w0 h0; have e0 := h0.ext; have x0 := e0.cells k0; have x1 := e0.cells k1; have x2 := e0.cells hc0; have x3 := e0.cells hcj; unfold runPlain; simp [go_sem, x0, x1, x2, x3, q1, q2, hlt]; refine ⟨(by repeat (first | exact Below.refl _ _ | assumption | refine Ext.alloc ?_ _ | refine Ext.drew ?_ | refine Ext.trans ?_ (by assumption))), ?_⟩; clear e0 h0 x0 x1 x2 x3
                refine EWi.pure (by rw [HL.out]; rfl) (by rw [HT.out]; rfl) (by simp [wantedV, upd, boolOf_undef, boolOf_bool, q1, q2, hlt]) ?_; intro w0; unfold runPlain; simp [go_sem, q1, q2, hlt]
                refine EWi.pure (by rw [HL.out]; rfl) (by rw [HT.out]; rfl) (by simp [wantedV, upd, boolOf_undef, boolOf_bool, q1, q2, hlt]) ?_; intro w0; unfold runPlain; simp [go_sem, q1, q2, hlt]
                refine EWi.pure (by rw [HL.out]; rfl) (by rw [HT.out]; rfl) (by simp [wantedV, upd, boolOf_undef, boolOf_bool, q1, q2, hlt]) ?_; intro w0; unfold runPlain; simp [go_sem, q1, q2, hlt]
                refine EWi.read (by rw [HL.out]; rfl) (by rw [HT.out]; rfl) (by simp [wantedV, upd, boolOf_undef, boolOf_bool, q1, q2, hlt]) ?_; intro w0 h0; have e0 := h0.ext; have x0 := e0.cells k0; have x1 := e0.cells k1; have x2 := e0.cells hc0; have x3 := e0.cells hcj; unfold runPlain; simp [go_sem, x0, x1, x2, x3, q1, q2, hlt]; refine ⟨(by repeat (first | exact Below.refl _ _ | assumption | refine Ext.alloc ?_ _ | refine Ext.drew ?_ | refine Ext.trans ?_ (by assumption))), ?_⟩; clear e0 h0 x0 x1 x2 x3
                refine EWi.call (by rw [HL.out]; rfl) (by rw [HT.out]; rfl) (by simp [wantedV, upd, boolOf]) ?_ ?_
                · intro w0 h0
                  unfold runOp
                  simp [go_sem]
                  rw [HP.out]
                  refine (Hcall.out w0 h0.ext).mono ?_
                  rintro e w1 ⟨rfl, rfl⟩
                  exact ⟨_, rfl, Ext.refl _, rfl⟩
                intro w0 v w1 h0 he1 hp
                rw [HP.out] at hp
                obtain rfl : v = .bool ib := hp
                repeat (first
                  | (refine EWi.pure (by rw [HL.out]; rfl) (by rw [HT.out]; rfl) rfl ?_; intro w0; unfold runPlain; simp [go_sem, q1]; with_reducible change EWi _ _ _ _ _ _ _ _ _ _)
                  | (refine EWi.read (by rw [HL.out]; rfl) (by rw [HT.out]; rfl) rfl ?_; intro w0 h0; have e0 := h0.ext; unfold runPlain; simp [go_sem, q1]; refine ⟨(by repeat (first | exact Below.refl _ _ | assumption | refine Ext.alloc ?_ _ | refine Ext.drew ?_ | refine Ext.trans ?_ (by assumption))), ?_⟩; with_reducible change EWi _ _ _ _ _ _ _ _ _ _; clear e0 h0)
                  | (refine EWi.no (by rw [HL.out]; rfl) (by rw [HT.out]; rfl) (by simp [wantedV, upd, boolOf, q1]; done) ?_; intro w0; simp [go_sem]; with_reducible change EWi _ _ _ _ _ _ _ _ _ _)
                  | (refine EWi.pure (by rw [HL.out]; rfl) (by rw [HT.out]; rfl) (by simp [wantedV, upd, boolOf, q1]; done) ?_; intro w0; unfold runPlain; simp [go_sem, q1]; with_reducible change EWi _ _ _ _ _ _ _ _ _ _)
                  | (refine EWi.read (by rw [HL.out]; rfl) (by rw [HT.out]; rfl) (by simp [wantedV, upd, boolOf, q1]; done) ?_; intro w0 h0; have e0 := h0.ext; unfold runPlain; simp [go_sem, q1]; refine ⟨(by repeat (first | exact Below.refl _ _ | assumption | refine Ext.alloc ?_ _ | refine Ext.drew ?_ | refine Ext.trans ?_ (by assumption))), ?_⟩; with_reducible change EWi _ _ _ _ _ _ _ _ _ _; clear e0 h0))
                refine EWi.fin (by rw [HL.out]; rfl) (by rw [HT.out]; rfl) (by rw [HT.out]; rfl) ?_
                intro W hW
                rw [HQ.out]
                cases ib
                · go_wp2
                  go_ret
                  exact ⟨by rw [HN.out (by rw [Hw.out]; simp)]; rfl, Ext.trans hE (Ext.trans he hW.ext)⟩
                · go_wp2
                  go_roundw
                  case rel => exact ⟨k + 1, by omega, by go_num, Lib.hid (HS.out (by rw [Hw.out]; simp; omega)), Ext.trans he hW.ext⟩
                  case measure => simp [intOf]; omega
          · obtain rfl : k = d.wait.length := by omega
            have HA' := HA.out
            rw [List.take_length] at HA'
            have HR8 : Hid (d.may = true) := Lib.hid (HR9.out.trans HA')
            clear HA' HA
            go_wp2
            go_ret
            exact ⟨by rw [HR8.out]; rfl, Ext.trans hE he⟩

end Go.Proofs.Ytancfgmaejjooaa
