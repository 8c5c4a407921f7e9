/- The document's deals: may slots be a deal's? -/
import Derived.Test.YtancfgmaejjooaaRef11
import Derived.Test.YtancfgmaejjooaaDeal1
set_option linter.unusedVariables false
set_option linter.unusedSimpArgs false
namespace Go.Proofs.Ytancfgmaejjooaa
open Go.RowKit

set_option maxRecDepth 100000 in
set_option maxHeartbeats 2000000 in
theorem ref_slots13 (c : Cfg) (v : Value) (l : List Int) (w : World) (h : Rep.int.sl w v l) (hm : 3 ≤ c.members ∧ c.members ≤ 16) :
    Calls Try.prog 176 #[c.v, v] w fun e w' => e = .returned (.bool (slotsMay c.members l)) ∧ Ext w w' := by
  obtain ⟨A, cp, rfl, h1, h2, h3⟩ := h
  unfold Cap at h2
  obtain ⟨W0, hW0⟩ : ∃ W0, W0 = w.alloc (.cells c.row 24) := ⟨_, rfl⟩
  have hE : Ext w W0 := by rw [hW0]; exact (by repeat (first | exact Below.refl _ _ | assumption | refine Ext.alloc ?_ _ | refine Ext.drew ?_ | refine Ext.trans ?_ (by assumption)))
  have x3 := h3.ext hE
  have k1 : W0.cell? ⟨w.heap.size, 1, none⟩ = some (I c.members) := by rw [hW0]; simp
  have q : IntKind.i64.wrap (c.members - 2) = c.members - 2 := IntWalk.i64_in _ (by omega)
  clear h3
  go_enter Try.func176, Try.ntmps176
  go_upto_region 1 with fail
  rw [← hW0]
  clear hW0
  go_wp2
  go_loopw [5] (fun i wr => ∃ k : Nat, k ≤ l.length ∧ i = .int .i64 k ∧ Hid (slotsTo c.members l k = true) ∧ Ext W0 wr) (fun i _ => l.length - (intOf i).toNat)
  case atStart => exact ⟨0, Nat.zero_le _, rfl, Lib.hid rfl, Ext.refl _⟩
  case round =>
    obtain ⟨k, hk, rfl, HT0, he⟩ := hrel
    by_cases hlt : k < l.length
    · have K1 := he.cells k1
      obtain ⟨b, off, rfl, hc⟩ := int_at (x3.ext he) (by omega)
      have hck := hc k hlt
      have HS : Hid (slotOk c.members l k = true → slotsTo c.members l (k + 1) = true) := Lib.hid (fun h => by simp only [slotsTo, HT0.out, h]; rfl)
      have HN : Hid (slotOk c.members l k = false → slotsMay c.members l = false) := Lib.hid (fun h => slotsMay_no hlt h)
      have hge := slots_ge c.members l k (by omega) HT0.out
      obtain ⟨x, hx⟩ : ∃ x, x = l[k] := ⟨_, rfl⟩
      rw [← hx] at hck
      rcases Nat.eq_zero_or_pos k with h0 | h0
      · subst h0
        have hcy := hck
        have HO : Hid (slotOk c.members l 0 = (decide (-1 < x) && decide (x ≤ c.members - 2))) := Lib.hid (by
          unfold slotOk
          simp [prevI, hx]
          rw [List.getElem?_eq_getElem hlt]
          simp)
        replace hck : wr.cell? ⟨b, off, none⟩ = some (I x) := by simpa using hck
        replace hcy : wr.cell? ⟨b, off, none⟩ = some (I x) := hck
        clear hc hx x3 hge k1
        go_upto_region 4 with fail
        by_cases q1 : x < 0
        · skip
          refine wp_lexi (by kernel_rfl) rfl [(0, false, []), (0, false, []), (0, false, []), (1, true, []), (0, false, []), (0, false, []), (0, false, []), (0, false, []), (0, false, []), (1, true, []), (0, false, []), (1, true, []), (0, false, []), (0, false, []), (0, false, []), (0, false, []), (0, false, []), (0, false, []), (0, false, []), (0, false, []), (0, false, []), (0, false, []), (1, true, []), (0, false, []), (0, false, []), (0, false, []), (0, false, []), (1, true, []), (0, false, []), (0, false, []), (0, false, []), (0, true, [])] (by kernel_rfl) (fun _ _ _ _ => True) ?_
          intro lL lT lP lQ HL HT HP HQ
          iterate 3 (refine EWi.pure (by rw [HL.out]; rfl) (by rw [HT.out]; rfl) rfl ?_; intro w0; unfold runPlain; simp [go_sem, hlt, q1, q])
          refine EWi.read (by rw [HL.out]; rfl) (by rw [HT.out]; rfl) rfl ?_; intro w0 h0; have e0 := h0.ext; have x0 := e0.cells K1; have x1 := e0.cells hck; have x2 := e0.cells hcy; unfold runPlain; simp [go_sem, x0, x1, x2, hlt, q1, q]; refine ⟨(by repeat (first | exact Below.refl _ _ | assumption | refine Ext.alloc ?_ _ | refine Ext.drew ?_ | refine Ext.trans ?_ (by assumption))), ?_⟩; clear e0 h0 x0 x1 x2
          iterate 2 (refine EWi.pure (by rw [HL.out]; rfl) (by rw [HT.out]; rfl) rfl ?_; intro w0; unfold runPlain; simp [go_sem, hlt, q1, q])
          iterate 8 (refine EWi.no (by rw [HL.out]; rfl) (by rw [HT.out]; rfl) (by simp [wantedV, upd, boolOf_undef, boolOf_bool, hlt, q1, q]) ?_; intro w0; simp [go_sem])
          iterate 2 (refine EWi.pure (by rw [HL.out]; rfl) (by rw [HT.out]; rfl) rfl ?_; intro w0; unfold runPlain; simp [go_sem, hlt, q1, q])
          iterate 14 (refine EWi.no (by rw [HL.out]; rfl) (by rw [HT.out]; rfl) (by simp [wantedV, upd, boolOf_undef, boolOf_bool, hlt, q1, q]) ?_; intro w0; simp [go_sem])
          refine EWi.pure (by rw [HL.out]; rfl) (by rw [HT.out]; rfl) rfl ?_; intro w0; unfold runPlain; simp [go_sem, hlt, q1, q]
          refine EWi.fin (by rw [HL.out]; rfl) (by rw [HT.out]; rfl) (by rw [HT.out]; rfl) ?_
          intro W hW
          rw [HQ.out]
          go_wp2
          go_ret
          exact ⟨by rw [HN.out (by rw [HO.out]; simp; omega)]; rfl, Ext.trans hE (Ext.trans he hW.ext)⟩
        · by_cases q2 : c.members - 2 < x
          · skip
            refine wp_lexi (by kernel_rfl) rfl [(0, false, []), (0, false, []), (0, false, []), (1, true, []), (0, false, []), (0, false, []), (0, false, []), (0, false, []), (0, false, []), (1, true, []), (0, false, []), (1, true, []), (0, false, []), (0, false, []), (0, false, []), (0, false, []), (0, false, []), (0, false, []), (0, false, []), (0, false, []), (0, false, []), (0, false, []), (1, true, []), (0, false, []), (0, false, []), (0, false, []), (0, false, []), (1, true, []), (0, false, []), (0, false, []), (0, false, []), (0, true, [])] (by kernel_rfl) (fun _ _ _ _ => True) ?_
            intro lL lT lP lQ HL HT HP HQ
            iterate 3 (refine EWi.pure (by rw [HL.out]; rfl) (by rw [HT.out]; rfl) rfl ?_; intro w0; unfold runPlain; simp [go_sem, hlt, q1, q2, q])
            refine EWi.read (by rw [HL.out]; rfl) (by rw [HT.out]; rfl) rfl ?_; intro w0 h0; have e0 := h0.ext; have x0 := e0.cells K1; have x1 := e0.cells hck; have x2 := e0.cells hcy; unfold runPlain; simp [go_sem, x0, x1, x2, hlt, q1, q2, q]; refine ⟨(by repeat (first | exact Below.refl _ _ | assumption | refine Ext.alloc ?_ _ | refine Ext.drew ?_ | refine Ext.trans ?_ (by assumption))), ?_⟩; clear e0 h0 x0 x1 x2
            iterate 2 (refine EWi.pure (by rw [HL.out]; rfl) (by rw [HT.out]; rfl) rfl ?_; intro w0; unfold runPlain; simp [go_sem, hlt, q1, q2, q])
            iterate 3 (refine EWi.pure (by rw [HL.out]; rfl) (by rw [HT.out]; rfl) (by simp [wantedV, upd, boolOf_undef, boolOf_bool, hlt, q1, q2, q]) ?_; intro w0; unfold runPlain; simp [go_sem, hlt, q1, q2, q])
            refine EWi.read (by rw [HL.out]; rfl) (by rw [HT.out]; rfl) (by simp [wantedV, upd, boolOf_undef, boolOf_bool, hlt, q1, q2, q]) ?_; intro w0 h0; have e0 := h0.ext; have x0 := e0.cells K1; have x1 := e0.cells hck; have x2 := e0.cells hcy; unfold runPlain; simp [go_sem, x0, x1, x2, hlt, q1, q2, q]; refine ⟨(by repeat (first | exact Below.refl _ _ | assumption | refine Ext.alloc ?_ _ | refine Ext.drew ?_ | refine Ext.trans ?_ (by assumption))), ?_⟩; clear e0 h0 x0 x1 x2
            refine EWi.pure (by rw [HL.out]; rfl) (by rw [HT.out]; rfl) (by simp [wantedV, upd, boolOf_undef, boolOf_bool, hlt, q1, q2, q]) ?_; intro w0; unfold runPlain; simp [go_sem, hlt, q1, q2, q]
            refine EWi.read (by rw [HL.out]; rfl) (by rw [HT.out]; rfl) (by simp [wantedV, upd, boolOf_undef, boolOf_bool, hlt, q1, q2, q]) ?_; intro w0 h0; have e0 := h0.ext; have x0 := e0.cells K1; have x1 := e0.cells hck; have x2 := e0.cells hcy; unfold runPlain; simp [go_sem, x0, x1, x2, hlt, q1, q2, q]; refine ⟨(by repeat (first | exact Below.refl _ _ | assumption | refine Ext.alloc ?_ _ | refine Ext.drew ?_ | refine Ext.trans ?_ (by assumption))), ?_⟩; clear e0 h0 x0 x1 x2
            iterate 2 (refine EWi.pure (by rw [HL.out]; rfl) (by rw [HT.out]; rfl) (by simp [wantedV, upd, boolOf_undef, boolOf_bool, hlt, q1, q2, q]) ?_; intro w0; unfold runPlain; simp [go_sem, hlt, q1, q2, q])
            iterate 2 (refine EWi.pure (by rw [HL.out]; rfl) (by rw [HT.out]; rfl) rfl ?_; intro w0; unfold runPlain; simp [go_sem, hlt, q1, q2, q])
            iterate 14 (refine EWi.no (by rw [HL.out]; rfl) (by rw [HT.out]; rfl) (by simp [wantedV, upd, boolOf_undef, boolOf_bool, hlt, q1, q2, q]) ?_; intro w0; simp [go_sem])
            refine EWi.pure (by rw [HL.out]; rfl) (by rw [HT.out]; rfl) rfl ?_; intro w0; unfold runPlain; simp [go_sem, hlt, q1, q2, q]
            refine EWi.fin (by rw [HL.out]; rfl) (by rw [HT.out]; rfl) (by rw [HT.out]; rfl) ?_
            intro W hW
            rw [HQ.out]
            go_wp2
            go_ret
            exact ⟨by rw [HN.out (by rw [HO.out]; simp; omega)]; rfl, Ext.trans hE (Ext.trans he hW.ext)⟩
          · skip
            refine wp_lexi (by kernel_rfl) rfl [(0, false, []), (0, false, []), (0, false, []), (1, true, []), (0, false, []), (0, false, []), (0, false, []), (0, false, []), (0, false, []), (1, true, []), (0, false, []), (1, true, []), (0, false, []), (0, false, []), (0, false, []), (0, false, []), (0, false, []), (0, false, []), (0, false, []), (0, false, []), (0, false, []), (0, false, []), (1, true, []), (0, false, []), (0, false, []), (0, false, []), (0, false, []), (1, true, []), (0, false, []), (0, false, []), (0, false, []), (0, true, [])] (by kernel_rfl) (fun _ _ _ _ => True) ?_
            intro lL lT lP lQ HL HT HP HQ
            iterate 3 (refine EWi.pure (by rw [HL.out]; rfl) (by rw [HT.out]; rfl) rfl ?_; intro w0; unfold runPlain; simp [go_sem, hlt, q1, q2, q])
            refine EWi.read (by rw [HL.out]; rfl) (by rw [HT.out]; rfl) rfl ?_; intro w0 h0; have e0 := h0.ext; have x0 := e0.cells K1; have x1 := e0.cells hck; have x2 := e0.cells hcy; unfold runPlain; simp [go_sem, x0, x1, x2, hlt, q1, q2, q]; refine ⟨(by repeat (first | exact Below.refl _ _ | assumption | refine Ext.alloc ?_ _ | refine Ext.drew ?_ | refine Ext.trans ?_ (by assumption))), ?_⟩; clear e0 h0 x0 x1 x2
            iterate 2 (refine EWi.pure (by rw [HL.out]; rfl) (by rw [HT.out]; rfl) rfl ?_; intro w0; unfold runPlain; simp [go_sem, hlt, q1, q2, q])
            iterate 3 (refine EWi.pure (by rw [HL.out]; rfl) (by rw [HT.out]; rfl) (by simp [wantedV, upd, boolOf_undef, boolOf_bool, hlt, q1, q2, q]) ?_; intro w0; unfold runPlain; simp [go_sem, hlt, q1, q2, q])
            refine EWi.read (by rw [HL.out]; rfl) (by rw [HT.out]; rfl) (by simp [wantedV, upd, boolOf_undef, boolOf_bool, hlt, q1, q2, q]) ?_; intro w0 h0; have e0 := h0.ext; have x0 := e0.cells K1; have x1 := e0.cells hck; have x2 := e0.cells hcy; unfold runPlain; simp [go_sem, x0, x1, x2, hlt, q1, q2, q]; refine ⟨(by repeat (first | exact Below.refl _ _ | assumption | refine Ext.alloc ?_ _ | refine Ext.drew ?_ | refine Ext.trans ?_ (by assumption))), ?_⟩; clear e0 h0 x0 x1 x2
            refine EWi.pure (by rw [HL.out]; rfl) (by rw [HT.out]; rfl) (by simp [wantedV, upd, boolOf_undef, boolOf_bool, hlt, q1, q2, q]) ?_; intro w0; unfold runPlain; simp [go_sem, hlt, q1, q2, q]
            refine EWi.read (by rw [HL.out]; rfl) (by rw [HT.out]; rfl) (by simp [wantedV, upd, boolOf_undef, boolOf_bool, hlt, q1, q2, q]) ?_; intro w0 h0; have e0 := h0.ext; have x0 := e0.cells K1; have x1 := e0.cells hck; have x2 := e0.cells hcy; unfold runPlain; simp [go_sem, x0, x1, x2, hlt, q1, q2, q]; refine ⟨(by repeat (first | exact Below.refl _ _ | assumption | refine Ext.alloc ?_ _ | refine Ext.drew ?_ | refine Ext.trans ?_ (by assumption))), ?_⟩; clear e0 h0 x0 x1 x2
            iterate 2 (refine EWi.pure (by rw [HL.out]; rfl) (by rw [HT.out]; rfl) (by simp [wantedV, upd, boolOf_undef, boolOf_bool, hlt, q1, q2, q]) ?_; intro w0; unfold runPlain; simp [go_sem, hlt, q1, q2, q])
            iterate 2 (refine EWi.pure (by rw [HL.out]; rfl) (by rw [HT.out]; rfl) rfl ?_; intro w0; unfold runPlain; simp [go_sem, hlt, q1, q2, q])
            iterate 3 (refine EWi.pure (by rw [HL.out]; rfl) (by rw [HT.out]; rfl) (by simp [wantedV, upd, boolOf_undef, boolOf_bool, hlt, q1, q2, q]) ?_; intro w0; unfold runPlain; simp [go_sem, hlt, q1, q2, q])
            iterate 10 (refine EWi.no (by rw [HL.out]; rfl) (by rw [HT.out]; rfl) (by simp [wantedV, upd, boolOf_undef, boolOf_bool, hlt, q1, q2, q]) ?_; intro w0; simp [go_sem])
            refine EWi.pure (by rw [HL.out]; rfl) (by rw [HT.out]; rfl) (by simp [wantedV, upd, boolOf_undef, boolOf_bool, hlt, q1, q2, q]) ?_; intro w0; unfold runPlain; simp [go_sem, hlt, q1, q2, q]
            refine EWi.pure (by rw [HL.out]; rfl) (by rw [HT.out]; rfl) rfl ?_; intro w0; unfold runPlain; simp [go_sem, hlt, q1, q2, q]
            refine EWi.fin (by rw [HL.out]; rfl) (by rw [HT.out]; rfl) (by rw [HT.out]; rfl) ?_
            intro W hW
            rw [HQ.out]
            go_wp2
            go_roundw
            case rel => exact ⟨1, by omega, by go_num, Lib.hid (HS.out (by rw [HO.out]; simp; omega)), Ext.trans he hW.ext⟩
            case measure => simp [intOf]; omega
      · obtain ⟨j, rfl⟩ : ∃ j, k = j + 1 := ⟨k - 1, by omega⟩
        have hcy := hc j (by omega)
        obtain ⟨y, hy⟩ : ∃ y, y = l[j] := ⟨_, rfl⟩
        rw [← hy] at hcy
        have hpy : prevI l (j + 1) = y := by
          show l.getD j 0 = y
          rw [List.getD_eq_getElem?_getD, List.getElem?_eq_getElem (by omega), hy]
          rfl
        rw [hpy] at hge
        have hy0 : 0 ≤ y := by omega
        have HO : Hid (slotOk c.members l (j + 1) = (decide (y < x) && decide (x ≤ c.members - 2))) := Lib.hid (by
          unfold slotOk
          rw [hpy]
          have : prevI l (j + 1 + 1) = x := by
            show l.getD (j + 1) 0 = x
            rw [List.getD_eq_getElem?_getD, List.getElem?_eq_getElem hlt, hx]
            rfl
          rw [this])
        have q3 : IntKind.i64.wrap ((j : Int) + 1 - 1) = (j : Int) := by rw [show (j : Int) + 1 - 1 = (j : Int) by omega]; exact IntWalk.i64_in _ (by omega)
        have q5 : IntKind.i64.wrap (j : Int) = (j : Int) := IntWalk.i64_in _ (by omega)
        have hltj : j < l.length := by omega
        have hlt1 : (j : Int) + 1 < (l.length : Int) := by omega
        have hlt2 : 0 ≤ (j : Int) + 1 := by omega
        have hlt3 : ((j : Int) + 1).toNat = j + 1 := by omega
        clear hc hx hy x3 hge k1 hpy
        go_upto_region 4 with fail
        by_cases q1 : x < 0
        · skip
          refine wp_lexi (by kernel_rfl) rfl [(0, false, []), (0, false, []), (0, false, []), (1, true, []), (0, false, []), (0, false, []), (0, false, []), (0, false, []), (0, false, []), (1, true, []), (0, false, []), (1, true, []), (0, false, []), (0, false, []), (0, false, []), (0, false, []), (0, false, []), (0, false, []), (0, false, []), (0, false, []), (0, false, []), (0, false, []), (1, true, []), (0, false, []), (0, false, []), (0, false, []), (0, false, []), (1, true, []), (0, false, []), (0, false, []), (0, false, []), (0, true, [])] (by kernel_rfl) (fun _ _ _ _ => True) ?_
          intro lL lT lP lQ HL HT HP HQ
          iterate 3 (refine EWi.pure (by rw [HL.out]; rfl) (by rw [HT.out]; rfl) rfl ?_; intro w0; unfold runPlain; simp [go_sem, hlt, hlt1, hlt2, hlt3, q1, q])
          refine EWi.read (by rw [HL.out]; rfl) (by rw [HT.out]; rfl) rfl ?_; intro w0 h0; have e0 := h0.ext; have x0 := e0.cells K1; have x1 := e0.cells hck; have x2 := e0.cells hcy; unfold runPlain; simp [go_sem, x0, x1, x2, hlt, hlt1, hlt2, hlt3, q1, q]; refine ⟨(by repeat (first | exact Below.refl _ _ | assumption | refine Ext.alloc ?_ _ | refine Ext.drew ?_ | refine Ext.trans ?_ (by assumption))), ?_⟩; clear e0 h0 x0 x1 x2
          iterate 2 (refine EWi.pure (by rw [HL.out]; rfl) (by rw [HT.out]; rfl) rfl ?_; intro w0; unfold runPlain; simp [go_sem, hlt, hlt1, hlt2, hlt3, q1, q])
          iterate 8 (refine EWi.no (by rw [HL.out]; rfl) (by rw [HT.out]; rfl) (by simp [wantedV, upd, boolOf_undef, boolOf_bool, hlt, hlt1, hlt2, hlt3, q1, q]) ?_; intro w0; simp [go_sem])
          iterate 2 (refine EWi.pure (by rw [HL.out]; rfl) (by rw [HT.out]; rfl) rfl ?_; intro w0; unfold runPlain; simp [go_sem, hlt, hlt1, hlt2, hlt3, q1, q])
          iterate 14 (refine EWi.no (by rw [HL.out]; rfl) (by rw [HT.out]; rfl) (by simp [wantedV, upd, boolOf_undef, boolOf_bool, hlt, hlt1, hlt2, hlt3, q1, q]) ?_; intro w0; simp [go_sem])
          refine EWi.pure (by rw [HL.out]; rfl) (by rw [HT.out]; rfl) rfl ?_; intro w0; unfold runPlain; simp [go_sem, hlt, hlt1, hlt2, hlt3, q1, q]
          refine EWi.fin (by rw [HL.out]; rfl) (by rw [HT.out]; rfl) (by rw [HT.out]; rfl) ?_
          intro W hW
          rw [HQ.out]
          go_wp2
          go_ret
          exact ⟨by rw [HN.out (by rw [HO.out]; simp; omega)]; rfl, Ext.trans hE (Ext.trans he hW.ext)⟩
        · by_cases q2 : c.members - 2 < x
          · skip
            refine wp_lexi (by kernel_rfl) rfl [(0, false, []), (0, false, []), (0, false, []), (1, true, []), (0, false, []), (0, false, []), (0, false, []), (0, false, []), (0, false, []), (1, true, []), (0, false, []), (1, true, []), (0, false, []), (0, false, []), (0, false, []), (0, false, []), (0, false, []), (0, false, []), (0, false, []), (0, false, []), (0, false, []), (0, false, []), (1, true, []), (0, false, []), (0, false, []), (0, false, []), (0, false, []), (1, true, []), (0, false, []), (0, false, []), (0, false, []), (0, true, [])] (by kernel_rfl) (fun _ _ _ _ => True) ?_
            intro lL lT lP lQ HL HT HP HQ
            iterate 3 (refine EWi.pure (by rw [HL.out]; rfl) (by rw [HT.out]; rfl) rfl ?_; intro w0; unfold runPlain; simp [go_sem, hlt, hlt1, hlt2, hlt3, q1, q2, q])
            refine EWi.read (by rw [HL.out]; rfl) (by rw [HT.out]; rfl) rfl ?_; intro w0 h0; have e0 := h0.ext; have x0 := e0.cells K1; have x1 := e0.cells hck; have x2 := e0.cells hcy; unfold runPlain; simp [go_sem, x0, x1, x2, hlt, hlt1, hlt2, hlt3, q1, q2, q]; refine ⟨(by repeat (first | exact Below.refl _ _ | assumption | refine Ext.alloc ?_ _ | refine Ext.drew ?_ | refine Ext.trans ?_ (by assumption))), ?_⟩; clear e0 h0 x0 x1 x2
            iterate 2 (refine EWi.pure (by rw [HL.out]; rfl) (by rw [HT.out]; rfl) rfl ?_; intro w0; unfold runPlain; simp [go_sem, hlt, hlt1, hlt2, hlt3, q1, q2, q])
            iterate 3 (refine EWi.pure (by rw [HL.out]; rfl) (by rw [HT.out]; rfl) (by simp [wantedV, upd, boolOf_undef, boolOf_bool, hlt, hlt1, hlt2, hlt3, q1, q2, q]) ?_; intro w0; unfold runPlain; simp [go_sem, hlt, hlt1, hlt2, hlt3, q1, q2, q])
            refine EWi.read (by rw [HL.out]; rfl) (by rw [HT.out]; rfl) (by simp [wantedV, upd, boolOf_undef, boolOf_bool, hlt, hlt1, hlt2, hlt3, q1, q2, q]) ?_; intro w0 h0; have e0 := h0.ext; have x0 := e0.cells K1; have x1 := e0.cells hck; have x2 := e0.cells hcy; unfold runPlain; simp [go_sem, x0, x1, x2, hlt, hlt1, hlt2, hlt3, q1, q2, q]; refine ⟨(by repeat (first | exact Below.refl _ _ | assumption | refine Ext.alloc ?_ _ | refine Ext.drew ?_ | refine Ext.trans ?_ (by assumption))), ?_⟩; clear e0 h0 x0 x1 x2
            refine EWi.pure (by rw [HL.out]; rfl) (by rw [HT.out]; rfl) (by simp [wantedV, upd, boolOf_undef, boolOf_bool, hlt, hlt1, hlt2, hlt3, q1, q2, q]) ?_; intro w0; unfold runPlain; simp [go_sem, hlt, hlt1, hlt2, hlt3, q1, q2, q]
            refine EWi.read (by rw [HL.out]; rfl) (by rw [HT.out]; rfl) (by simp [wantedV, upd, boolOf_undef, boolOf_bool, hlt, hlt1, hlt2, hlt3, q1, q2, q]) ?_; intro w0 h0; have e0 := h0.ext; have x0 := e0.cells K1; have x1 := e0.cells hck; have x2 := e0.cells hcy; unfold runPlain; simp [go_sem, x0, x1, x2, hlt, hlt1, hlt2, hlt3, q1, q2, q]; refine ⟨(by repeat (first | exact Below.refl _ _ | assumption | refine Ext.alloc ?_ _ | refine Ext.drew ?_ | refine Ext.trans ?_ (by assumption))), ?_⟩; clear e0 h0 x0 x1 x2
            iterate 2 (refine EWi.pure (by rw [HL.out]; rfl) (by rw [HT.out]; rfl) (by simp [wantedV, upd, boolOf_undef, boolOf_bool, hlt, hlt1, hlt2, hlt3, q1, q2, q]) ?_; intro w0; unfold runPlain; simp [go_sem, hlt, hlt1, hlt2, hlt3, q1, q2, q])
            iterate 2 (refine EWi.pure (by rw [HL.out]; rfl) (by rw [HT.out]; rfl) rfl ?_; intro w0; unfold runPlain; simp [go_sem, hlt, hlt1, hlt2, hlt3, q1, q2, q])
            iterate 14 (refine EWi.no (by rw [HL.out]; rfl) (by rw [HT.out]; rfl) (by simp [wantedV, upd, boolOf_undef, boolOf_bool, hlt, hlt1, hlt2, hlt3, q1, q2, q]) ?_; intro w0; simp [go_sem])
            refine EWi.pure (by rw [HL.out]; rfl) (by rw [HT.out]; rfl) rfl ?_; intro w0; unfold runPlain; simp [go_sem, hlt, hlt1, hlt2, hlt3, q1, q2, q]
            refine EWi.fin (by rw [HL.out]; rfl) (by rw [HT.out]; rfl) (by rw [HT.out]; rfl) ?_
            intro W hW
            rw [HQ.out]
            go_wp2
            go_ret
            exact ⟨by rw [HN.out (by rw [HO.out]; simp; omega)]; rfl, Ext.trans hE (Ext.trans he hW.ext)⟩
          · by_cases q4 : x ≤ y
            · skip
              refine wp_lexi (by kernel_rfl) rfl [(0, false, []), (0, false, []), (0, false, []), (1, true, []), (0, false, []), (0, false, []), (0, false, []), (0, false, []), (0, false, []), (1, true, []), (0, false, []), (1, true, []), (0, false, []), (0, false, []), (0, false, []), (0, false, []), (0, false, []), (0, false, []), (0, false, []), (0, false, []), (0, false, []), (0, false, []), (1, true, []), (0, false, []), (0, false, []), (0, false, []), (0, false, []), (1, true, []), (0, false, []), (0, false, []), (0, false, []), (0, true, [])] (by kernel_rfl) (fun _ _ _ _ => True) ?_
              intro lL lT lP lQ HL HT HP HQ
              iterate 3 (refine EWi.pure (by rw [HL.out]; rfl) (by rw [HT.out]; rfl) rfl ?_; intro w0; unfold runPlain; simp [go_sem, hlt, hlt1, hlt2, hlt3, q1, q2, q, q3, q5, q4, hltj])
              refine EWi.read (by rw [HL.out]; rfl) (by rw [HT.out]; rfl) rfl ?_; intro w0 h0; have e0 := h0.ext; have x0 := e0.cells K1; have x1 := e0.cells hck; have x2 := e0.cells hcy; unfold runPlain; simp [go_sem, x0, x1, x2, hlt, hlt1, hlt2, hlt3, q1, q2, q, q3, q5, q4, hltj]; refine ⟨(by repeat (first | exact Below.refl _ _ | assumption | refine Ext.alloc ?_ _ | refine Ext.drew ?_ | refine Ext.trans ?_ (by assumption))), ?_⟩; clear e0 h0 x0 x1 x2
              iterate 2 (refine EWi.pure (by rw [HL.out]; rfl) (by rw [HT.out]; rfl) rfl ?_; intro w0; unfold runPlain; simp [go_sem, hlt, hlt1, hlt2, hlt3, q1, q2, q, q3, q5, q4, hltj])
              iterate 3 (refine EWi.pure (by rw [HL.out]; rfl) (by rw [HT.out]; rfl) (by simp [wantedV, upd, boolOf_undef, boolOf_bool, hlt, hlt1, hlt2, hlt3, q1, q2, q, q3, q5, q4, hltj]) ?_; intro w0; unfold runPlain; simp [go_sem, hlt, hlt1, hlt2, hlt3, q1, q2, q, q3, q5, q4, hltj])
              refine EWi.read (by rw [HL.out]; rfl) (by rw [HT.out]; rfl) (by simp [wantedV, upd, boolOf_undef, boolOf_bool, hlt, hlt1, hlt2, hlt3, q1, q2, q, q3, q5, q4, hltj]) ?_; intro w0 h0; have e0 := h0.ext; have x0 := e0.cells K1; have x1 := e0.cells hck; have x2 := e0.cells hcy; unfold runPlain; simp [go_sem, x0, x1, x2, hlt, hlt1, hlt2, hlt3, q1, q2, q, q3, q5, q4, hltj]; refine ⟨(by repeat (first | exact Below.refl _ _ | assumption | refine Ext.alloc ?_ _ | refine Ext.drew ?_ | refine Ext.trans ?_ (by assumption))), ?_⟩; clear e0 h0 x0 x1 x2
              refine EWi.pure (by rw [HL.out]; rfl) (by rw [HT.out]; rfl) (by simp [wantedV, upd, boolOf_undef, boolOf_bool, hlt, hlt1, hlt2, hlt3, q1, q2, q, q3, q5, q4, hltj]) ?_; intro w0; unfold runPlain; simp [go_sem, hlt, hlt1, hlt2, hlt3, q1, q2, q, q3, q5, q4, hltj]
              refine EWi.read (by rw [HL.out]; rfl) (by rw [HT.out]; rfl) (by simp [wantedV, upd, boolOf_undef, boolOf_bool, hlt, hlt1, hlt2, hlt3, q1, q2, q, q3, q5, q4, hltj]) ?_; intro w0 h0; have e0 := h0.ext; have x0 := e0.cells K1; have x1 := e0.cells hck; have x2 := e0.cells hcy; unfold runPlain; simp [go_sem, x0, x1, x2, hlt, hlt1, hlt2, hlt3, q1, q2, q, q3, q5, q4, hltj]; refine ⟨(by repeat (first | exact Below.refl _ _ | assumption | refine Ext.alloc ?_ _ | refine Ext.drew ?_ | refine Ext.trans ?_ (by assumption))), ?_⟩; clear e0 h0 x0 x1 x2
              iterate 2 (refine EWi.pure (by rw [HL.out]; rfl) (by rw [HT.out]; rfl) (by simp [wantedV, upd, boolOf_undef, boolOf_bool, hlt, hlt1, hlt2, hlt3, q1, q2, q, q3, q5, q4, hltj]) ?_; intro w0; unfold runPlain; simp [go_sem, hlt, hlt1, hlt2, hlt3, q1, q2, q, q3, q5, q4, hltj])
              iterate 2 (refine EWi.pure (by rw [HL.out]; rfl) (by rw [HT.out]; rfl) rfl ?_; intro w0; unfold runPlain; simp [go_sem, hlt, hlt1, hlt2, hlt3, q1, q2, q, q3, q5, q4, hltj])
              iterate 3 (refine EWi.pure (by rw [HL.out]; rfl) (by rw [HT.out]; rfl) (by simp [wantedV, upd, boolOf_undef, boolOf_bool, hlt, hlt1, hlt2, hlt3, q1, q2, q, q3, q5, q4, hltj]) ?_; intro w0; unfold runPlain; simp [go_sem, hlt, hlt1, hlt2, hlt3, q1, q2, q, q3, q5, q4, hltj])
              iterate 3 (refine EWi.pure (by rw [HL.out]; rfl) (by rw [HT.out]; rfl) (by simp [wantedV, upd, boolOf_undef, boolOf_bool, hlt, hlt1, hlt2, hlt3, q1, q2, q, q3, q5, q4, hltj]) ?_; intro w0; unfold runPlain; simp [go_sem, hlt, hlt1, hlt2, hlt3, q1, q2, q, q3, q5, q4, hltj])
              refine EWi.read (by rw [HL.out]; rfl) (by rw [HT.out]; rfl) (by simp [wantedV, upd, boolOf_undef, boolOf_bool, hlt, hlt1, hlt2, hlt3, q1, q2, q, q3, q5, q4, hltj]) ?_; intro w0 h0; have e0 := h0.ext; have x0 := e0.cells K1; have x1 := e0.cells hck; have x2 := e0.cells hcy; unfold runPlain; simp [go_sem, x0, x1, x2, hlt, hlt1, hlt2, hlt3, q1, q2, q, q3, q5, q4, hltj]; refine ⟨(by repeat (first | exact Below.refl _ _ | assumption | refine Ext.alloc ?_ _ | refine Ext.drew ?_ | refine Ext.trans ?_ (by assumption))), ?_⟩; clear e0 h0 x0 x1 x2
              iterate 4 (refine EWi.pure (by rw [HL.out]; rfl) (by rw [HT.out]; rfl) (by simp [wantedV, upd, boolOf_undef, boolOf_bool, hlt, hlt1, hlt2, hlt3, q1, q2, q, q3, q5, q4, hltj]) ?_; intro w0; unfold runPlain; simp [go_sem, hlt, hlt1, hlt2, hlt3, q1, q2, q, q3, q5, q4, hltj])
              refine EWi.read (by rw [HL.out]; rfl) (by rw [HT.out]; rfl) (by simp [wantedV, upd, boolOf_undef, boolOf_bool, hlt, hlt1, hlt2, hlt3, q1, q2, q, q3, q5, q4, hltj]) ?_; intro w0 h0; have e0 := h0.ext; have x0 := e0.cells K1; have x1 := e0.cells hck; have x2 := e0.cells hcy; unfold runPlain; simp [go_sem, x0, x1, x2, hlt, hlt1, hlt2, hlt3, q1, q2, q, q3, q5, q4, hltj]; refine ⟨(by repeat (first | exact Below.refl _ _ | assumption | refine Ext.alloc ?_ _ | refine Ext.drew ?_ | refine Ext.trans ?_ (by assumption))), ?_⟩; clear e0 h0 x0 x1 x2
              refine EWi.pure (by rw [HL.out]; rfl) (by rw [HT.out]; rfl) (by simp [wantedV, upd, boolOf_undef, boolOf_bool, hlt, hlt1, hlt2, hlt3, q1, q2, q, q3, q5, q4, hltj]) ?_; intro w0; unfold runPlain; simp [go_sem, hlt, hlt1, hlt2, hlt3, q1, q2, q, q3, q5, q4, hltj]
              refine EWi.pure (by rw [HL.out]; rfl) (by rw [HT.out]; rfl) (by simp [wantedV, upd, boolOf_undef, boolOf_bool, hlt, hlt1, hlt2, hlt3, q1, q2, q, q3, q5, q4, hltj]) ?_; intro w0; unfold runPlain; simp [go_sem, hlt, hlt1, hlt2, hlt3, q1, q2, q, q3, q5, q4, hltj]
              refine EWi.pure (by rw [HL.out]; rfl) (by rw [HT.out]; rfl) rfl ?_; intro w0; unfold runPlain; simp [go_sem, hlt, hlt1, hlt2, hlt3, q1, q2, q, q3, q5, q4, hltj]
              refine EWi.fin (by rw [HL.out]; rfl) (by rw [HT.out]; rfl) (by rw [HT.out]; rfl) ?_
              intro W hW
              rw [HQ.out]
              go_wp2
              go_ret
              exact ⟨by rw [HN.out (by rw [HO.out]; simp; omega)]; rfl, Ext.trans hE (Ext.trans he hW.ext)⟩
            · skip
              refine wp_lexi (by kernel_rfl) rfl [(0, false, []), (0, false, []), (0, false, []), (1, true, []), (0, false, []), (0, false, []), (0, false, []), (0, false, []), (0, false, []), (1, true, []), (0, false, []), (1, true, []), (0, false, []), (0, false, []), (0, false, []), (0, false, []), (0, false, []), (0, false, []), (0, false, []), (0, false, []), (0, false, []), (0, false, []), (1, true, []), (0, false, []), (0, false, []), (0, false, []), (0, false, []), (1, true, []), (0, false, []), (0, false, []), (0, false, []), (0, true, [])] (by kernel_rfl) (fun _ _ _ _ => True) ?_
              intro lL lT lP lQ HL HT HP HQ
              iterate 3 (refine EWi.pure (by rw [HL.out]; rfl) (by rw [HT.out]; rfl) rfl ?_; intro w0; unfold runPlain; simp [go_sem, hlt, hlt1, hlt2, hlt3, q1, q2, q, q3, q5, q4, hltj])
              refine EWi.read (by rw [HL.out]; rfl) (by rw [HT.out]; rfl) rfl ?_; intro w0 h0; have e0 := h0.ext; have x0 := e0.cells K1; have x1 := e0.cells hck; have x2 := e0.cells hcy; unfold runPlain; simp [go_sem, x0, x1, x2, hlt, hlt1, hlt2, hlt3, q1, q2, q, q3, q5, q4, hltj]; refine ⟨(by repeat (first | exact Below.refl _ _ | assumption | refine Ext.alloc ?_ _ | refine Ext.drew ?_ | refine Ext.trans ?_ (by assumption))), ?_⟩; clear e0 h0 x0 x1 x2
              iterate 2 (refine EWi.pure (by rw [HL.out]; rfl) (by rw [HT.out]; rfl) rfl ?_; intro w0; unfold runPlain; simp [go_sem, hlt, hlt1, hlt2, hlt3, q1, q2, q, q3, q5, q4, hltj])
              iterate 3 (refine EWi.pure (by rw [HL.out]; rfl) (by rw [HT.out]; rfl) (by simp [wantedV, upd, boolOf_undef, boolOf_bool, hlt, hlt1, hlt2, hlt3, q1, q2, q, q3, q5, q4, hltj]) ?_; intro w0; unfold runPlain; simp [go_sem, hlt, hlt1, hlt2, hlt3, q1, q2, q, q3, q5, q4, hltj])
              refine EWi.read (by rw [HL.out]; rfl) (by rw [HT.out]; rfl) (by simp [wantedV, upd, boolOf_undef, boolOf_bool, hlt, hlt1, hlt2, hlt3, q1, q2, q, q3, q5, q4, hltj]) ?_; intro w0 h0; have e0 := h0.ext; have x0 := e0.cells K1; have x1 := e0.cells hck; have x2 := e0.cells hcy; unfold runPlain; simp [go_sem, x0, x1, x2, hlt, hlt1, hlt2, hlt3, q1, q2, q, q3, q5, q4, hltj]; refine ⟨(by repeat (first | exact Below.refl _ _ | assumption | refine Ext.alloc ?_ _ | refine Ext.drew ?_ | refine Ext.trans ?_ (by assumption))), ?_⟩; clear e0 h0 x0 x1 x2
              refine EWi.pure (by rw [HL.out]; rfl) (by rw [HT.out]; rfl) (by simp [wantedV, upd, boolOf_undef, boolOf_bool, hlt, hlt1, hlt2, hlt3, q1, q2, q, q3, q5, q4, hltj]) ?_; intro w0; unfold runPlain; simp [go_sem, hlt, hlt1, hlt2, hlt3, q1, q2, q, q3, q5, q4, hltj]
              refine EWi.read (by rw [HL.out]; rfl) (by rw [HT.out]; rfl) (by simp [wantedV, upd, boolOf_undef, boolOf_bool, hlt, hlt1, hlt2, hlt3, q1, q2, q, q3, q5, q4, hltj]) ?_; intro w0 h0; have e0 := h0.ext; have x0 := e0.cells K1; have x1 := e0.cells hck; have x2 := e0.cells hcy; unfold runPlain; simp [go_sem, x0, x1, x2, hlt, hlt1, hlt2, hlt3, q1, q2, q, q3, q5, q4, hltj]; refine ⟨(by repeat (first | exact Below.refl _ _ | assumption | refine Ext.alloc ?_ _ | refine Ext.drew ?_ | refine Ext.trans ?_ (by assumption))), ?_⟩; clear e0 h0 x0 x1 x2
              iterate 2 (refine EWi.pure (by rw [HL.out]; rfl) (by rw [HT.out]; rfl) (by simp [wantedV, upd, boolOf_undef, boolOf_bool, hlt, hlt1, hlt2, hlt3, q1, q2, q, q3, q5, q4, hltj]) ?_; intro w0; unfold runPlain; simp [go_sem, hlt, hlt1, hlt2, hlt3, q1, q2, q, q3, q5, q4, hltj])
              iterate 2 (refine EWi.pure (by rw [HL.out]; rfl) (by rw [HT.out]; rfl) rfl ?_; intro w0; unfold runPlain; simp [go_sem, hlt, hlt1, hlt2, hlt3, q1, q2, q, q3, q5, q4, hltj])
              iterate 3 (refine EWi.pure (by rw [HL.out]; rfl) (by rw [HT.out]; rfl) (by simp [wantedV, upd, boolOf_undef, boolOf_bool, hlt, hlt1, hlt2, hlt3, q1, q2, q, q3, q5, q4, hltj]) ?_; intro w0; unfold runPlain; simp [go_sem, hlt, hlt1, hlt2, hlt3, q1, q2, q, q3, q5, q4, hltj])
              iterate 3 (refine EWi.pure (by rw [HL.out]; rfl) (by rw [HT.out]; rfl) (by simp [wantedV, upd, boolOf_undef, boolOf_bool, hlt, hlt1, hlt2, hlt3, q1, q2, q, q3, q5, q4, hltj]) ?_; intro w0; unfold runPlain; simp [go_sem, hlt, hlt1, hlt2, hlt3, q1, q2, q, q3, q5, q4, hltj])
              refine EWi.read (by rw [HL.out]; rfl) (by rw [HT.out]; rfl) (by simp [wantedV, upd, boolOf_undef, boolOf_bool, hlt, hlt1, hlt2, hlt3, q1, q2, q, q3, q5, q4, hltj]) ?_; intro w0 h0; have e0 := h0.ext; have x0 := e0.cells K1; have x1 := e0.cells hck; have x2 := e0.cells hcy; unfold runPlain; simp [go_sem, x0, x1, x2, hlt, hlt1, hlt2, hlt3, q1, q2, q, q3, q5, q4, hltj]; refine ⟨(by repeat (first | exact Below.refl _ _ | assumption | refine Ext.alloc ?_ _ | refine Ext.drew ?_ | refine Ext.trans ?_ (by assumption))), ?_⟩; clear e0 h0 x0 x1 x2
              iterate 4 (refine EWi.pure (by rw [HL.out]; rfl) (by rw [HT.out]; rfl) (by simp [wantedV, upd, boolOf_undef, boolOf_bool, hlt, hlt1, hlt2, hlt3, q1, q2, q, q3, q5, q4, hltj]) ?_; intro w0; unfold runPlain; simp [go_sem, hlt, hlt1, hlt2, hlt3, q1, q2, q, q3, q5, q4, hltj])
              refine EWi.read (by rw [HL.out]; rfl) (by rw [HT.out]; rfl) (by simp [wantedV, upd, boolOf_undef, boolOf_bool, hlt, hlt1, hlt2, hlt3, q1, q2, q, q3, q5, q4, hltj]) ?_; intro w0 h0; have e0 := h0.ext; have x0 := e0.cells K1; have x1 := e0.cells hck; have x2 := e0.cells hcy; unfold runPlain; simp [go_sem, x0, x1, x2, hlt, hlt1, hlt2, hlt3, q1, q2, q, q3, q5, q4, hltj]; refine ⟨(by repeat (first | exact Below.refl _ _ | assumption | refine Ext.alloc ?_ _ | refine Ext.drew ?_ | refine Ext.trans ?_ (by assumption))), ?_⟩; clear e0 h0 x0 x1 x2
              refine EWi.pure (by rw [HL.out]; rfl) (by rw [HT.out]; rfl) (by simp [wantedV, upd, boolOf_undef, boolOf_bool, hlt, hlt1, hlt2, hlt3, q1, q2, q, q3, q5, q4, hltj]) ?_; intro w0; unfold runPlain; simp [go_sem, hlt, hlt1, hlt2, hlt3, q1, q2, q, q3, q5, q4, hltj]
              refine EWi.pure (by rw [HL.out]; rfl) (by rw [HT.out]; rfl) (by simp [wantedV, upd, boolOf_undef, boolOf_bool, hlt, hlt1, hlt2, hlt3, q1, q2, q, q3, q5, q4, hltj]) ?_; intro w0; unfold runPlain; simp [go_sem, hlt, hlt1, hlt2, hlt3, q1, q2, q, q3, q5, q4, hltj]
              refine EWi.pure (by rw [HL.out]; rfl) (by rw [HT.out]; rfl) rfl ?_; intro w0; unfold runPlain; simp [go_sem, hlt, hlt1, hlt2, hlt3, q1, q2, q, q3, q5, q4, hltj]
              refine EWi.fin (by rw [HL.out]; rfl) (by rw [HT.out]; rfl) (by rw [HT.out]; rfl) ?_
              intro W hW
              rw [HQ.out]
              go_wp2
              go_roundw
              case rel => exact ⟨j + 1 + 1, by omega, by go_num, Lib.hid (HS.out (by rw [HO.out]; simp; omega)), Ext.trans he hW.ext⟩
              case measure => simp [intOf]; omega
    · obtain rfl : k = l.length := by omega
      go_wp2
      go_ret
      refine ⟨ret_bool ?_, Ext.trans hE he⟩
      unfold slotsMay
      rw [HT0.out]
      simp
      omega

end Go.Proofs.Ytancfgmaejjooaa
