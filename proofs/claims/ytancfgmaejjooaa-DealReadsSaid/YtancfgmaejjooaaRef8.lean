/- The document's devices: what is seen at a place; at a ring's place. -/
import Derived.Test.YtancfgmaejjooaaRef7
import Derived.Test.YtancfgmaejjooaaDeal2
set_option linter.unusedVariables false
set_option linter.unusedSimpArgs false
namespace Go.Proofs.Ytancfgmaejjooaa
open Go.RowKit

theorem seen_step {at_ : Int} {ws : List Wr} {b : List UInt8} {k : Nat} (h : k < ws.length) : seenIn at_ (ws.take (k + 1)) b = if ws[k].at_ = at_ then whole ws[k].data else seenIn at_ (ws.take k) b := by
  unfold seenIn
  rw [List.take_succ_eq_append_getElem h, List.foldl_append]
  rfl
theorem may_blocks {d : Dk} (h : d.may = true) : d.blocks.length ≤ 256 ∧ d.wait.length ≤ 1024 ∧ (∀ b ∈ d.blocks, isBlock b = true) ∧ ∀ x ∈ d.wait, isBlock x.data = true := by
  simp only [Dk.may, Bool.and_eq_true, List.all_eq_true, decide_eq_true_eq, waitOk] at h
  exact ⟨h.1.1.1.1.2, h.1.1.1.2, h.1.1.2, fun x hx => (h.1.2 x hx).2⟩

set_option maxRecDepth 100000 in
set_option maxHeartbeats 1000000 in
theorem ref_Seen (d : Dk) (bv wv : Value) (at_ : Nat) (w : World) (h : DkAt w bv wv d) (hm : d.may = true) (hat : at_ < d.blocks.length) :
    Calls Try.prog 138 #[d.v bv wv, I at_] w fun e w' => ∃ v, e = .returned v ∧ w'.ownsRow w.heap.size 5 1 v 128 ((d.seen at_).map B) ∧ Ext w w' := by
  have h0 := h
  obtain ⟨mb1, mb2, mb3, mb4⟩ := may_blocks hm
  have hseen : d.seen at_ = seenIn at_ d.wait (whole d.blocks[at_]) := by
    unfold Dk.seen
    rw [List.getD_eq_getElem?_getD, List.getElem?_eq_getElem hat]
    rfl
  have hbl := whole_len (mb3 _ (List.getElem_mem hat))
  have hcall := fun w1 he => ref_Lies d bv wv at_ w1 (h0.ext he) hat (isBlock_fit (mb3 _ (List.getElem_mem hat)))
  obtain ⟨l0, hl0⟩ : ∃ l, l = whole d.blocks[at_] := ⟨_, rfl⟩
  rw [← hl0] at hbl hseen
  simp only [← hl0] at hcall
  obtain ⟨⟨A, c, rfl, a1, a2, a3⟩, ⟨A', c', rfl, b1, b2, b3⟩⟩ := h
  have Hs := Lib.hid hseen
  have Hb := Lib.hid mb4
  have Hcall := Lib.hid hcall
  have Hbl := Lib.hid hbl
  clear hseen hl0 mb3 mb4 hcall a3 hbl
  unfold Cap at b2
  go_enter Try.func138, Try.ntmps138
  go_wp2_with fail
  refine (Hcall.out _ (by repeat (first | exact Below.refl _ _ | assumption | refine Ext.alloc ?_ _ | refine Ext.drew ?_ | refine Ext.trans ?_ (by assumption)))).mono ?_
  rintro e w1 ⟨v, rfl, ho, he1⟩
  rw [Hbl.out] at ho
  obtain ⟨hc1, hf1⟩ := bcell he1
  have hz1 := he1.size
  simp only [World.size_alloc] at hz1
  have hE1 : Ext w w1 := (by repeat (first | exact Below.refl _ _ | assumption | refine Ext.alloc ?_ _ | refine Ext.drew ?_ | refine Ext.trans ?_ (by assumption)))
  have hrow : RowAt w1 w.heap.size (d.row (.slice A d.blocks.length c) (.slice A' d.wait.length c')) 28 := RowAt.ext (RowAt.new _ _ _) he1
  go_wp2
  clear hc1 hf1
  go_loopw [5, 6] (fun o i wr => ∃ k : Nat, k ≤ d.wait.length ∧ i = .int .i64 k ∧ wr.ownsRow w.heap.size 5 1 o 128 ((seenIn at_ (d.wait.take k) l0).map B) ∧ RowAt wr w.heap.size (d.row (.slice A d.blocks.length c) (.slice A' d.wait.length c')) 28 ∧ Ext w wr) (fun _ i _ => d.wait.length - (intOf i).toNat)
  case atStart => exact ⟨0, Nat.zero_le _, rfl, own_lower (base' := w.heap.size) ho (by simp), hrow, hE1⟩
  case round =>
    obtain ⟨k, hk, rfl, hown, hr, he⟩ := hrel
    clear ho he1 hE1 hrow hz1
    have k1 := hr.cell 1
    simp at k1
    by_cases hlt : k < d.wait.length
    · obtain ⟨b, off, rfl, hc⟩ := wr_at (b3.ext he) (by omega)
      obtain ⟨A2, c2, hc0, hcj, g1, g2, g3⟩ := hc k hlt
      have hst := seen_step (at_ := at_) (b := l0) hlt
      have hbk := Hb.out _ (List.getElem_mem hlt)
      have hwl := whole_len hbk
      have hfit := isBlock_fit hbk
      obtain ⟨x, hx⟩ : ∃ x, x = d.wait[k] := ⟨_, rfl⟩
      rw [← hx] at hc0 hcj g1 g3 hst hwl hfit
      have Hst := Lib.hid hst
      have Hwl := Lib.hid hwl
      have Hfit := Lib.hid hfit
      have Hown := Lib.hid hown
      have Hr := Lib.hid hr
      clear hc hx hst hbk hwl hfit hown hr
      by_cases hq : x.at_ = (at_ : Int)
      · have Hq := Lib.hid hq
        rw [hq] at hc0
        clear hq
        go_wp2_with (go_at_call 73; refine (ref_Full _ x.data _ ⟨A2, c2, rfl, g1, g2, g3⟩ Hfit.out).mono ?_; rintro e w2 ⟨v', rfl, ho', he2⟩)
        rw [Hwl.out] at ho'
        go_roundw
        case rel =>
          refine ⟨k + 1, by omega, by go_num, ?_, Hr.out.ext he2, Ext.trans he he2⟩
          rw [Hst.out, if_pos Hq.out]
          exact own_lower (base' := w.heap.size) ho' he.size
        case measure => simp [intOf]; omega
      · go_wp2
        go_roundw
        case rel =>
          refine ⟨k + 1, by omega, by go_num, ?_, Hr.out, he⟩
          rw [Hst.out, if_neg hq]
          exact Hown.out
        case measure => simp [intOf]; omega
    · obtain rfl : k = d.wait.length := by omega
      rw [List.take_length] at hown
      go_wp2
      go_ret
      exact ⟨_, rfl, by rw [Hs.out]; exact hown, he⟩

set_option maxRecDepth 100000 in
set_option maxHeartbeats 1000000 in
theorem ref_AtRing (c : Cfg) (d : Dk) (bv wv : Value) (at_ i : Nat) (w : World) (h : DkAt w bv wv d) (hc : c.may = true) (hm : d.may = true) (hlen : (d.blocks.length : Int) = c.log + 1) (hat : at_ < 1000) (hi : i < 1000) :
    Calls Try.prog 122 #[c.v, d.v bv wv, I at_, I i] w fun e w' => ∃ v, e = .returned v ∧ w'.ownsRow w.heap.size 5 1 v 128 ((ringB c d at_ i).map B) ∧ Ext w w' := by
  have h0 := h
  have hl := may_log hc
  obtain ⟨n, hn⟩ : ∃ n : Nat, c.log = n := ⟨c.log.toNat, by omega⟩
  have hnn : c.log.toNat = n := by omega
  obtain ⟨p, hp⟩ : ∃ p, p = (at_ + i) % n := ⟨_, rfl⟩
  have hpn : p < n := by rw [hp]; exact Nat.mod_lt _ (by omega)
  have HB : Hid (ringB c d at_ i = d.seen (1 + p)) := Lib.hid (by unfold ringB; rw [hnn, hp])
  have hcall := fun w1 (he : Ext w w1) => ref_Seen d bv wv (1 + p) w1 (h0.ext he) hm (by omega)
  rw [show ((1 + p : Nat) : Int) = 1 + (p : Int) by omega] at hcall
  have q1 : IntKind.i64.wrap ((at_ : Int) + (i : Int)) = (at_ : Int) + (i : Int) := IntWalk.i64_in _ (by omega)
  have q2 : Int.tmod ((at_ : Int) + (i : Int)) (n : Int) = (p : Int) := by rw [Int.tmod_eq_emod_of_nonneg (by omega), hp]; simp
  have q3 : IntKind.i64.wrap (1 + (p : Int)) = 1 + (p : Int) := IntWalk.i64_in _ (by omega)
  have Hcall := Lib.hid hcall
  have hnp : n ≠ 0 := by omega
  obtain ⟨⟨A, c1, rfl, a1, a2, a3⟩, ⟨A', c', rfl, b1, b2, b3⟩⟩ := h
  have Hn := Lib.hid hn
  clear hcall hp hnn hl hlen hc hm a3 b3 hn
  go_enter Try.func122, Try.ntmps122
  go_upto_region 1 with fail
  obtain ⟨W0, hW0⟩ : ∃ W0, W0 = (w.alloc (.cells c.row 24)).alloc (.cells (d.row (.slice A d.blocks.length c1) (.slice A' d.wait.length c')) 28) := ⟨_, rfl⟩
  have k4 : W0.cell? ⟨w.heap.size, 4, none⟩ = some (I (n : Int)) := by rw [hW0]; simp [Hn.out]
  have d0 : W0.cell? ⟨w.heap.size + 1, 0, none⟩ = some (.slice A d.blocks.length c1) := by rw [hW0]; simp
  have d1 : W0.cell? ⟨w.heap.size + 1, 1, none⟩ = some (.slice A' d.wait.length c') := by rw [hW0]; simp
  have d2 : W0.cell? ⟨w.heap.size + 1, 2, none⟩ = some (.bool d.dead) := by rw [hW0]; simp
  have hE0 : Ext w W0 := by rw [hW0]; exact (by repeat (first | exact Below.refl _ _ | assumption | refine Ext.alloc ?_ _ | refine Ext.drew ?_ | refine Ext.trans ?_ (by assumption)))
  rw [← hW0]
  clear hW0
  refine wp_lexi (by kernel_rfl) rfl [(1, true, []), (0, false, []), (0, false, []), (0, false, []), (0, false, []), (1, true, []), (0, false, []), (0, false, []), (3, true, []), (0, false, []), (0, true, [8])] (by kernel_rfl) (fun _ w0 v w1 => w1.ownsRow w0.heap.size 5 1 v 128 ((ringB c d at_ i).map B)) ?_
  intro lL lT lP lQ HL HT HP HQ
  repeat (first
    | (refine EWi.pure (by rw [HL.out]; rfl) (by rw [HT.out]; rfl) rfl ?_; intro w0; unfold runPlain; simp [go_sem, q1, q2, q3, hnp]; with_reducible change EWi _ _ _ _ _ _ _ _ _ _)
    | (refine EWi.read (by rw [HL.out]; rfl) (by rw [HT.out]; rfl) rfl ?_; intro w0 h0; have e0 := h0.ext; have x0 := e0.cells k4; have x1 := e0.cells d0; have x2 := e0.cells d1; have x3 := e0.cells d2; unfold runPlain; simp [go_sem, x0, x1, x2, x3, q1, q2, q3, hnp]; refine ⟨(by repeat (first | exact Below.refl _ _ | assumption | refine Ext.alloc ?_ _ | refine Ext.drew ?_ | refine Ext.trans ?_ (by assumption))), ?_⟩; with_reducible change EWi _ _ _ _ _ _ _ _ _ _; clear e0 h0 x0 x1 x2 x3))

  refine EWi.call (by rw [HL.out]; rfl) (by rw [HT.out]; rfl) rfl ?_ ?_
  · intro w0 h0
    have e0 := h0.ext
    rw [HP.out]
    unfold runOp
    simp [go_sem]
    refine (Hcall.out w0 (Ext.trans hE0 e0)).mono ?_
    rintro e w1 ⟨v, rfl, ho, he⟩
    exact ⟨v, rfl, he, by rw [HB.out]; exact ho⟩
  intro w0 v w1 h0 he hp
  rw [HP.out] at hp
  repeat (first
    | (refine EWi.pure (by rw [HL.out]; rfl) (by rw [HT.out]; rfl) rfl ?_; intro w0; unfold runPlain; simp [go_sem]; with_reducible change EWi _ _ _ _ _ _ _ _ _ _)
    | (refine EWi.read (by rw [HL.out]; rfl) (by rw [HT.out]; rfl) rfl ?_; intro w0 h0; have e0 := h0.ext; unfold runPlain; simp [go_sem]; refine ⟨(by repeat (first | exact Below.refl _ _ | assumption | refine Ext.alloc ?_ _ | refine Ext.drew ?_ | refine Ext.trans ?_ (by assumption))), ?_⟩; with_reducible change EWi _ _ _ _ _ _ _ _ _ _; clear e0 h0))
  refine EWi.fin (by rw [HL.out]; rfl) (by rw [HT.out]; rfl) (by rw [HT.out]; rfl) ?_
  intro W hW
  rw [HQ.out]
  have hE1 : Ext w1 W := hW.2 8 (by simp)
  have ho := ownsRow_keepsC hp (n0 := 0) (TS := []) (.of_ext hE1) (by simp)
  go_wp2
  go_ret
  exact ⟨_, rfl, own_lower (base' := w.heap.size) ho (Ext.trans hE0 h0.ext).size, Ext.trans hE0 hW.ext⟩

end Go.Proofs.Ytancfgmaejjooaa
