/- The document's deals: one is read. -/
import Derived.Test.YtancfgmaejjooaaRef20
set_option linter.unusedVariables false
set_option linter.unusedSimpArgs false
namespace Go.Proofs.Ytancfgmaejjooaa
open Go.RowKit

theorem results_cell_tmp2 {fn : Func} {p q q' : Tmp} (h : fn.results = #[.cell p 36, .tmp q, .tmp q']) (tmps : Array Value) (w : World) (g : Nat) (cs : Array Value) (hcs : cs.size = 6)
    (hp : tmps.getD p undef = ptr g) (hg : RowAt w g cs 36) : (results fn tmps).run Try.prog w = .ok (.tuple #[.agg cs, tmps.getD q undef, tmps.getD q' undef]) w := by
  have hp' : tmps[p]?.getD undef = ptr g := by simpa using hp
  have hl := run_loadVar_row w g 36 36 cs (0, 0) _ hg Try.underlying36 rfl (by rw [size36, hcs])
  simp [results, h, hp', asAddr, hl]

/-- What the document's Read answers. -/
def RReadPost (c : Cfg) (d : Dk) (at_ : Int) (e : Ending) (w' : World) : Prop :=
  if askErr c d at_ ≠ 0 then e = .returned (.tuple #[.agg zeroF, I 0, I (askErr c d at_)])
  else if standsRef c d at_.toNat = true then ∃ sv bv pv, e = .returned (.tuple #[.agg #[U32 (noteRef (ringB c d at_.toNat 0)).age, U32 (noteRef (ringB c d at_.toNat 0)).seq, I (noteRef (ringB c d at_.toNat 0)).stripe, sv, bv, pv], I ((1 + (noteRef (ringB c d at_.toNat 0)).recs.length : Nat) : Int), I 0]) ∧
    DealAt w' sv bv pv (dealTo (noteRef (ringB c d at_.toNat 0)).stripe (noteRef (ringB c d at_.toNat 0)).recs (ringB c d at_.toNat) (noteRef (ringB c d at_.toNat 0)).recs.length)
  else e = .returned (.tuple #[.agg zeroF, I 0, I 130])

theorem deal_set6 {w : World} {sv bv pv : Value} {d : DealD} {w0 : World} (h : DealAt w0 sv bv pv d) (h0 : Ext w0 w) {b : Nat} (hb : w0.heap.size ≤ b) (v0 v1 v2 v3 v4 v5 : Value) :
    DealAt ((((((w.setCell ⟨b, 0, none⟩ v0).setCell ⟨b, 1, none⟩ v1).setCell ⟨b, 2, none⟩ v2).setCell ⟨b, 3, none⟩ v3).setCell ⟨b, 4, none⟩ v4).setCell ⟨b, 5, none⟩ v5) sv bv pv d :=
  h.ext ((((((h0.setCell hb _).setCell hb _).setCell hb _).setCell hb _).setCell hb _).setCell hb _)

set_option maxRecDepth 100000 in
set_option maxHeartbeats 4000000 in
theorem ref_dlRead (c : Cfg) (d : Dk) (bv wv : Value) (at_ : Int) (w : World) (h : DkAt w bv wv d) :
    Calls Try.prog 22 #[c.v, d.v bv wv, I at_] w fun e w' => RReadPost c d at_ e w' ∧ Ext w w' := by
  have h0 := h
  have Hmay := Lib.hid (fun w1 => ref_cMay c w1)
  obtain ⟨⟨A, c1, rfl, a1, a2, a3⟩, ⟨A', c1', rfl, b1, b2, b3⟩⟩ := h
  have H0 := Lib.hid h0
  clear a3 b3 h0
  have fin : ∀ (k : Int) (e : Ending) (w' : World), askErr c d at_ = k → k ≠ 0 → e = .returned (.tuple #[.agg zeroF, I 0, I k]) → RReadPost c d at_ e w' := fun k e w' h1 h2 h3 => by
    unfold RReadPost
    rw [if_pos (by rw [h1]; exact h2), h1]
    exact h3
  have HF := Lib.hid fin
  clear fin
  cases hcm : c.may
  · have Hcm := Lib.hid hcm
    have He : Hid (askErr c d at_ = 8) := Lib.hid (by unfold askErr; rw [if_neg (by rw [hcm]; simp)])
    clear hcm
    go_enter Try.func22, Try.ntmps22
    go_wp2_with fail
    refine (Hmay.out _).mono ?_
    rintro e w1 ⟨rfl, he1⟩
    rw [Hcm.out]
    have R2 : RowAt w1 (w.heap.size + 1 + 1) zeroF 36 := (RowAt.newAt ((w.alloc _).alloc _) _ _ (by simp)).ext he1
    have hE1 : Ext w w1 := (by repeat (first | exact Below.refl _ _ | assumption | refine Ext.alloc ?_ _ | refine Ext.drew ?_ | refine Ext.trans ?_ (by assumption)))
    have r0 := R2.cell 0
    have r1 := R2.cell 1
    have r2 := R2.cell 2
    have r3 := R2.cell 3
    have r4 := R2.cell 4
    have r5 := R2.cell 5
    have rf0 := R2.free 0
    have rf1 := R2.free 1
    have rf2 := R2.free 2
    have rf3 := R2.free 3
    have rf4 := R2.free 4
    have rf5 := R2.free 5
    simp [zeroF] at r0 r1 r2 r3 r4 r5
    go_wp2
    obtain ⟨t1, t2⟩ := res_put R2 hE1 (Nat.le_add_right _ 2) (.int .u32 0) (.int .u32 0) (.int .i64 0) (.slice none 0 0) (.slice none 0 0) (.slice none 0 0)
    refine bodyPost_ret (results_cell_tmp2 rfl _ _ _ _ rfl rfl t1) rfl ?_
    exact ⟨HF.out 8 _ _ He.out (by decide) rfl, t2⟩
  · have hl := may_log hcm
    have Hcm := Lib.hid hcm
    have Hj := Lib.hid (fun w1 (he : Ext w w1) => ref_isJournal c d _ _ w1 (H0.out.ext he) hcm)
    obtain ⟨jb, hjb⟩ : ∃ j, j = (d.may && decide ((d.blocks.length : Int) = c.log + 1)) := ⟨_, rfl⟩
    simp only [← hjb] at Hj
    have Hjb := Lib.hid hjb
    clear hcm hjb
    go_enter Try.func22, Try.ntmps22
    go_wp2_with fail
    refine (Hmay.out _).mono ?_
    rintro e w1 ⟨rfl, he1⟩
    rw [Hcm.out]
    have R0 : RowAt w1 w.heap.size c.row 24 := (((RowAt.newAt w _ _ rfl).ext (Ext.alloc (Ext.refl _) _)).ext (Ext.alloc (Ext.refl _) _)).ext he1
    have R1 : RowAt w1 (w.heap.size + 1) (d.row (.slice A d.blocks.length c1) (.slice A' d.wait.length c1')) 28 := ((RowAt.newAt (w.alloc _) _ _ (by simp)).ext (Ext.alloc (Ext.refl _) _)).ext he1
    have R2 : RowAt w1 (w.heap.size + 1 + 1) zeroF 36 := (RowAt.newAt ((w.alloc _).alloc _) _ _ (by simp)).ext he1
    have hE1 : Ext w w1 := (by repeat (first | exact Below.refl _ _ | assumption | refine Ext.alloc ?_ _ | refine Ext.drew ?_ | refine Ext.trans ?_ (by assumption)))
    have g0 := R0.cell 0
    have g1 := R0.cell 1
    have g2 := R0.cell 2
    have g3 := R0.cell 3
    have g4 := R0.cell 4
    have g5 := R0.cell 5
    have d0 := R1.cell 0
    have d1 := R1.cell 1
    have d2 := R1.cell 2
    simp at g0 g1 g2 g3 g4 g5 d0 d1 d2
    go_wp2_with fail
    refine (Hj.out _ hE1).mono ?_
    rintro e w2 ⟨rfl, he2⟩
    clear g0 g1 g2 g3 g4 g5 d0 d1 d2
    replace R0 := R0.ext he2
    replace R1 := R1.ext he2
    replace R2 := R2.ext he2
    replace hE1 := Ext.trans hE1 he2
    have g0 := R0.cell 0
    have g1 := R0.cell 1
    have g2 := R0.cell 2
    have g3 := R0.cell 3
    have g4 := R0.cell 4
    have g5 := R0.cell 5
    have d0 := R1.cell 0
    have d1 := R1.cell 1
    have d2 := R1.cell 2
    have r0 := R2.cell 0
    have r1 := R2.cell 1
    have r2 := R2.cell 2
    have r3 := R2.cell 3
    have r4 := R2.cell 4
    have r5 := R2.cell 5
    have rf0 := R2.free 0
    have rf1 := R2.free 1
    have rf2 := R2.free 2
    have rf3 := R2.free 3
    have rf4 := R2.free 4
    have rf5 := R2.free 5
    simp [zeroF] at g0 g1 g2 g3 g4 g5 d0 d1 d2 r0 r1 r2 r3 r4 r5
    clear he1 he2
    cases jb
    · have He : Hid (askErr c d at_ = 8) := Lib.hid (by
        unfold askErr
        rw [if_neg]
        rintro ⟨_, h1, h2⟩
        have := Hjb.out
        rw [h1] at this
        simp [h2] at this)
      go_wp2
      obtain ⟨t1, t2⟩ := res_put R2 hE1 (Nat.le_add_right _ 2) (.int .u32 0) (.int .u32 0) (.int .i64 0) (.slice none 0 0) (.slice none 0 0) (.slice none 0 0)
      refine bodyPost_ret (results_cell_tmp2 rfl _ _ _ _ rfl rfl t1) rfl ?_
      exact ⟨HF.out 8 _ _ He.out (by decide) rfl, t2⟩
    · have hgood : d.may = true ∧ (d.blocks.length : Int) = c.log + 1 := by
        have := Hjb.out
        simpa using this.symm
      have HGd := Lib.hid hgood
      clear hgood
      by_cases hin : 0 ≤ at_ ∧ at_ < c.log
      rotate_left
      · have He : Hid (askErr c d at_ = 2) := Lib.hid (by unfold askErr; rw [if_pos ⟨Hcm.out, HGd.out.1, HGd.out.2⟩, if_neg hin])
        have hor : at_ < 0 ∨ (0 ≤ at_ ∧ c.log ≤ at_) := by omega
        clear hin
        rcases hor with hor | ⟨hor, hor'⟩
        all_goals
          go_wp2
          obtain ⟨t1, t2⟩ := res_put R2 hE1 (Nat.le_add_right _ 2) (.int .u32 0) (.int .u32 0) (.int .i64 0) (.slice none 0 0) (.slice none 0 0) (.slice none 0 0)
          refine bodyPost_ret (results_cell_tmp2 rfl _ _ _ _ rfl rfl t1) rfl ?_
          exact ⟨HF.out 2 _ _ He.out (by decide) rfl, t2⟩
      · obtain ⟨hi1, hi2⟩ := hin
        cases hdd : d.dead
        rotate_left
        · have He : Hid (askErr c d at_ = 40) := Lib.hid (by unfold askErr; rw [if_pos ⟨Hcm.out, HGd.out.1, HGd.out.2⟩, if_pos ⟨hi1, hi2⟩, if_pos hdd])
          rw [hdd] at d2
          clear hdd
          go_wp2
          obtain ⟨t1, t2⟩ := res_put R2 hE1 (Nat.le_add_right _ 2) (.int .u32 0) (.int .u32 0) (.int .i64 0) (.slice none 0 0) (.slice none 0 0) (.slice none 0 0)
          refine bodyPost_ret (results_cell_tmp2 rfl _ _ _ _ rfl rfl t1) rfl ?_
          exact ⟨HF.out 40 _ _ He.out (by decide) rfl, t2⟩
        · have He : Hid (askErr c d at_ = 0) := Lib.hid (by unfold askErr; rw [if_pos ⟨Hcm.out, HGd.out.1, HGd.out.2⟩, if_pos ⟨hi1, hi2⟩, if_neg (by rw [hdd]; simp)])
          obtain ⟨a, rfl⟩ : ∃ a : Nat, at_ = a := ⟨at_.toNat, by omega⟩
          have hst := ref_Stands c d (.slice A d.blocks.length c1) (.slice A' d.wait.length c1') a w2 (H0.out.ext hE1) Hcm.out HGd.out.1 HGd.out.2 hi2
          unfold Dk.v at hst
          rw [hdd] at d2 hst
          have Hst := Lib.hid hst
          have hy2 : w.heap.size + 1 + 1 < w2.heap.size := R2.lt
          clear hdd hst
          go_wp2_with fail
          refine Hst.out.mono ?_
          rintro e w3 ⟨hP, he3⟩
          unfold StPost at hP
          clear g0 g1 g2 g3 g4 g5 d0 d1 d2 r0 r1 r2 r3 r4 r5 rf0 rf1 rf2 rf3 rf4 rf5
          replace R2 := R2.ext he3
          replace hE1 := Ext.trans hE1 he3
          have hy3 : w.heap.size + 1 + 1 < w3.heap.size := R2.lt
          have r0 := R2.cell 0
          have r1 := R2.cell 1
          have r2 := R2.cell 2
          have r3 := R2.cell 3
          have r4 := R2.cell 4
          have r5 := R2.cell 5
          have rf0 := R2.free 0
          have rf1 := R2.free 1
          have rf2 := R2.free 2
          have rf3 := R2.free 3
          have rf4 := R2.free 4
          have rf5 := R2.free 5
          simp [zeroF] at r0 r1 r2 r3 r4 r5
          obtain ⟨n, hn⟩ : ∃ n, n = noteRef (ringB c d a 0) := ⟨_, rfl⟩
          rw [← hn] at hP
          have Hn := Lib.hid hn
          clear hn
          by_cases hs : standsRef c d a = true
          · rw [if_pos hs] at hP
            have Hs := Lib.hid hs
            clear hs
            obtain ⟨sv, lv, pv, bs0, rfl, hOD⟩ := hP
            have hDA := hOD.at
            obtain ⟨⟨B1, e1, rfl, _, _, _⟩, ⟨B2, e2, rfl, _, _, _⟩, ⟨B3, e3, rfl, _, _, _⟩⟩ := hDA
            obtain ⟨mn, hmn⟩ : ∃ mn : Nat, mn = 1 + n.recs.length := ⟨_, rfl⟩
            rw [← hmn]
            have hmn1 : ¬ mn = 0 := by omega
            have hmn2 : ((mn : Int) == 0) = false := by simpa using hmn1
            have Hmn := Lib.hid hmn
            clear hmn
            go_wp2
            obtain ⟨t1, t2⟩ := res_put R2 hE1 (Nat.le_add_right _ 2) (U32 n.age) (U32 n.seq) (I n.stripe) (.slice B1 (dealTo n.stripe n.recs (ringB c d a) n.recs.length).slots.length e1) (.slice B2 (dealTo n.stripe n.recs (ringB c d a) n.recs.length).blocks.length e2) (.slice B3 (dealTo n.stripe n.recs (ringB c d a) n.recs.length).parity.length e3)
            refine bodyPost_ret (results_cell_tmp2 rfl _ _ _ _ rfl rfl (t1.ext (Ext.alloc (Ext.refl _) _))) rfl ?_
            refine ⟨?_, Ext.alloc t2 _⟩
            unfold RReadPost
            rw [if_neg (by rw [He.out]; simp), Int.toNat_natCast, if_pos Hs.out, ← Hn.out]
            refine ⟨_, _, _, ?_, ((hOD.set6 R2 _ _ _ _ _ _).ext (Ext.alloc (Ext.refl _) _)).at⟩
            rw [← Hmn.out]
            rfl
          · rw [if_neg hs] at hP
            have Hs := Lib.hid hs
            clear hs
            subst hP
            unfold zeroF
            go_wp2
            obtain ⟨t1, t2⟩ := res_put R2 hE1 (Nat.le_add_right _ 2) (.int .u32 0) (.int .u32 0) (.int .i64 0) (.slice none 0 0) (.slice none 0 0) (.slice none 0 0)
            refine bodyPost_ret (results_cell_tmp2 rfl _ _ _ _ rfl rfl (t1.ext (Ext.alloc (Ext.refl _) _))) rfl ?_
            refine ⟨?_, Ext.alloc t2 _⟩
            unfold RReadPost
            rw [if_neg (by rw [He.out]; simp), Int.toNat_natCast, if_neg Hs.out]
            rfl

end Go.Proofs.Ytancfgmaejjooaa
