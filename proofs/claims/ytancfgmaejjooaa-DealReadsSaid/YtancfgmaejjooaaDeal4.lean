/- Deals: one is read, of a journal and a place that may be. -/
import Derived.Test.YtancfgmaejjooaaDeal3
import Derived.Test.YtancfgmaejjooaaOwn
import Derived.Test.YtancfgmaejjooaaSteps
import Derived.Sort.CutIn
import Derived.Stop.RegionWithIn
set_option linter.unusedVariables false
set_option linter.unusedSimpArgs false
namespace Go.Proofs.Ytancfgmaejjooaa
open Go.RowKit
attribute [local go_sem] Oper.semAt_some

theorem ask_good {c : Cfg} {d : Dk} {at_ : Int} (h : askErr c d at_ = 0) : c.may = true ∧ d.may = true ∧ (d.blocks.length : Int) = c.log + 1 ∧ 0 ≤ at_ ∧ at_ < c.log ∧ d.dead = false := by
  unfold askErr at h
  split at h
  · rename_i h1
    split at h
    · rename_i h2
      split at h
      · cases h
      · rename_i h3
        exact ⟨h1.1, h1.2.1, h1.2.2, h2.1, h2.2, by simpa using h3⟩
    · cases h
  · cases h

attribute [local go_sem] wrap_small
theorem slotNe {x : UInt8} {zi : Int} (hz : zi = (x.toNat : Int)) (h : ¬ (x.toNat : Int) = 255) : x ≠ 255 := fun e => h (by rw [e]; rfl)
theorem zi_bounds {x : UInt8} {zi : Int} (hz : zi = (x.toNat : Int)) : 0 ≤ zi ∧ zi < 256 := by have := x.toNat_lt; omega
theorem kbound {k i : Nat} {log m ch ro : Int} (h : i < log.toNat) (h2 : i = k + 1) (h3 : 3 ≤ m ∧ m ≤ 16 ∧ 3 * m + 3 ≤ log ∧ log ≤ 255 ∧ 1 ≤ ch ∧ ch ≤ 8 ∧ 1 ≤ ro ∧ ro ≤ 8) : k < 255 := by omega
theorem slot255 {x : UInt8} (h : (x.toNat : Int) = 255) : x = 255 := by rw [← UInt8.toNat_inj]; have : (255 : UInt8).toNat = 255 := rfl; omega

set_option maxRecDepth 100000 in
set_option maxHeartbeats 4000000 in
theorem deal_Read_good (c : Cfg) (d : Dk) (bv wv : Value) (at_ : Nat) (w : World) (h : DkAt w bv wv d) (hk : askErr c d at_ = 0) :
    Calls Try.prog 21 #[c.v, d.v bv wv, I at_] w fun e w' => DReadPost c d at_ w.heap.size e w' ∧ Ext w w' := by
  have h0 := h
  obtain ⟨⟨A, c1, rfl, a1, a2, a3⟩, ⟨A', c', rfl, b1, b2, b3⟩⟩ := h
  refine calls_marks Try.func21 rfl ?_
  simp only [Try.ntmps21, List.size_toArray, List.length_cons, List.length_nil, Nat.reduceAdd, Nat.reduceSub, Array.replicate_succ, Array.replicate_zero, List.push_toArray, List.append_toArray, List.nil_append, List.cons_append]
  have Hk := Lib.hid hk
  clear hk a3 b3
  go_wp2_with fail
  refine (deal_asked c d _ _ at_ _ (h0.ext (by repeat (first | exact Below.refl _ _ | assumption | refine Ext.alloc ?_ _ | refine Ext.drew ?_ | refine Ext.trans ?_ (by assumption))))).mono ?_
  rintro e w1 ⟨hp, he1⟩
  rcases hp with ⟨_, rfl⟩ | ⟨hp, _⟩
  rotate_left
  · exact absurd Hk.out hp
  have hE1 : Ext w w1 := (by repeat (first | exact Below.refl _ _ | assumption | refine Ext.alloc ?_ _ | refine Ext.drew ?_ | refine Ext.trans ?_ (by assumption)))
  have hz1 := he1.size
  simp only [World.size_alloc] at hz1
  have hrE : RowAt w1 (w.heap.size + 1 + 1 + 1 + 1) #[I 0] 37 := (RowAt.newAt ((((w.alloc _).alloc _).alloc _).alloc _) _ _ (by simp)).ext he1
  have hrM : RowAt w1 (w.heap.size + 1 + 1 + 1) #[I 0] 3 := ((RowAt.newAt (((w.alloc _).alloc _).alloc _) _ _ (by simp)).ext (Ext.alloc (Ext.refl _) _)).ext he1
  have hrF : RowAt w1 (w.heap.size + 1 + 1) zeroF 36 := (((RowAt.newAt ((w.alloc _).alloc _) _ _ (by simp)).ext (Ext.alloc (Ext.refl _) _)).ext (Ext.alloc (Ext.refl _) _)).ext he1
  have hrH : RowAt w1 w.heap.size c.row 24 := (((((RowAt.newAt w _ _ rfl).ext (Ext.alloc (Ext.refl _) _)).ext (Ext.alloc (Ext.refl _) _)).ext (Ext.alloc (Ext.refl _) _)).ext (Ext.alloc (Ext.refl _) _)).ext he1
  obtain ⟨hc1, hf1⟩ := bcell he1
  have hy1 : w.heap.size < w1.heap.size := by omega
  have hy2 : w.heap.size + 1 < w1.heap.size := by omega
  go_wp2_with fail
  refine (deal_ring c d _ _ _ _ _ _ _ _).mono ?_
  rintro e W5 ⟨rfl, hW5⟩
  have hE5 : Ext w1 W5 := by rw [hW5]; exact (by repeat (first | exact Below.refl _ _ | assumption | refine Ext.alloc ?_ _ | refine Ext.drew ?_ | refine Ext.trans ?_ (by assumption)))
  have hR5 : RdS w W5 c d at_ (.slice A d.blocks.length c1) (.slice A' d.wait.length c') (w.heap.size + 1 + 1) (w.heap.size + 1 + 1 + 1) (w.heap.size + 1 + 1 + 1 + 1) w1.heap.size (w1.heap.size + 1) (w1.heap.size + 1 + 1) (w1.heap.size + 1 + 1 + 1) zeroF noteZero 0 0 := by
    refine ⟨Ext.trans hE1 hE5, hrH.ext hE5, hrF.ext hE5, hrM.ext hE5, hrE.ext hE5, ?_, ⟨?_, ?_, ?_⟩, by omega, by omega, by omega, by omega, by omega, by omega⟩
    all_goals rw [hW5]
    · exact (((RowAt.newAt w1 _ _ rfl).ext (Ext.alloc (Ext.refl _) _)).ext (Ext.alloc (Ext.refl _) _)).ext (Ext.alloc (Ext.refl _) _)
    · exact ((RowAt.newAt (w1.alloc _) _ _ (by simp)).ext (Ext.alloc (Ext.refl _) _)).ext (Ext.alloc (Ext.refl _) _)
    · exact (RowAt.newAt ((w1.alloc _).alloc _) _ _ (by simp)).ext (Ext.alloc (Ext.refl _) _)
    · exact RowAt.newAt (((w1.alloc _).alloc _).alloc _) _ _ (by simp)
  clear hW5 hrE hrM hrF hrH hc1 hf1
  go_upto_region 6 with fail
  obtain ⟨eb, heb⟩ : ∃ eb, eb = w.heap.size + 1 + 1 + 1 + 1 := ⟨_, rfl⟩
  obtain ⟨mb, hmb⟩ : ∃ mb, mb = w.heap.size + 1 + 1 + 1 := ⟨_, rfl⟩
  obtain ⟨fb, hfb⟩ : ∃ fb, fb = w.heap.size + 1 + 1 := ⟨_, rfl⟩
  obtain ⟨ab, hab⟩ : ∃ ab, ab = w1.heap.size + 1 + 1 + 1 := ⟨_, rfl⟩
  obtain ⟨db, hdb⟩ : ∃ db, db = w1.heap.size + 1 + 1 := ⟨_, rfl⟩
  obtain ⟨cb, hcb⟩ : ∃ cb, cb = w1.heap.size + 1 := ⟨_, rfl⟩
  obtain ⟨nb, hnb⟩ : ∃ nb, nb = w1.heap.size := ⟨_, rfl⟩
  rw [← heb, ← hmb, ← hfb, ← hab, ← hdb, ← hcb, ← hnb] at hR5 ⊢
  clear heb hmb hfb hab hdb hcb hnb hE5 hE1 he1 hz1 hy1 hy2
  obtain ⟨hm, hd, hlen, _, hat, hdead⟩ := ask_good Hk.out
  have hl := may_log hm
  have hbl : ∀ i, (ringB c d at_ i).length = 128 := fun i => seen_len d hd _ (by
    have := Nat.mod_lt (at_ + i) (show 0 < c.log.toNat by omega)
    omega)
  have Hbl := Lib.hid hbl
  have Hm := Lib.hid hm
  have Hl := Lib.hid hl
  have hlo := hR5.lo
  apply wp_rangeF (ring_iter c d at_ (.slice A d.blocks.length c1) (.slice A' d.wait.length c') cb db ab [36, 3, 37, 83, 5, 32] w W5 h0 hR5.ext hm hd hdead hlen hat) hR5.ext.size rfl (enters_of Try.func115 (by kernel_rfl) rfl) (fun _ => rfl)
    (fun _ _ _ _ ⟨h1, h2, h3, h4⟩ hk => ⟨h1, h2, ownsRow_keepsC h3 hk (by simp), h4⟩) (DI w c d at_ (.slice A d.blocks.length c1) (.slice A' d.wait.length c') fb mb eb nb cb db ab) (DX w c d at_ (.slice A d.blocks.length c1) (.slice A' d.wait.length c') fb mb eb nb cb db ab)
    (DI.holds _ _ _ _ _ _ _ _ _ _ _ _ _ _ hR5.ext.size) (fun e => DX.holds _ _ _ _ _ _ _ _ _ _ _ _ _ _ _ hR5.ext.size) (fun _ _ h => h.reads) (by unfold DI; exact hR5)
  case hassign =>
    intro l x W K hz hK
    gi_wp2
    exact hK
  case hbody =>
    rintro l pre x W hI ⟨hx, hxl, hown, hne⟩
    have hsz := hR5.ext.size
    clear hm hd hlen hat hdead hl hbl
    rcases Nat.eq_zero_or_pos pre.length with hp0 | hp0
    · have hx0 : x.i = 0 := by omega
      unfold DI at hI
      rw [hp0] at hI
      simp only at hI
      have hR : RdS w W c d at_ (.slice A d.blocks.length c1) (.slice A' d.wait.length c') fb mb eb nb cb db ab zeroF noteZero 0 0 := hI
      rw [hx0] at hown ⊢
      gi_wp2
      refine ⟨trivial, rfl, CallsIn.inRound l (callsIn_wide.2 ((note_Read x.v (ringB c d at_ 0) _ (own_bytes hown) (block_full (Hbl.out 0))).mono ?_))⟩
      rintro e W1 ⟨hP, hE1⟩
      have hR1 := hR.keepsC (.of_ext (n0 := w.heap.size) (TS := []) hE1) (Nat.le_refl _) (by simp)
      have k0 := hR1.h.cell 0
      have n0 := hR1.n.cell 0
      have n1 := hR1.n.cell 1
      have n2 := hR1.n.cell 2
      have n3 := hR1.n.cell 3
      have n4 := hR1.n.cell 4
      have n0' := hR1.n.free 0
      have n1' := hR1.n.free 1
      have n2' := hR1.n.free 2
      have n3' := hR1.n.free 3
      have n4' := hR1.n.free 4
      have e0 := hR1.e.cell 0
      have e0' := hR1.e.free 0
      have m0 := hR1.m.cell 0
      have m0' := hR1.m.free 0
      have q0 := hR1.f.cell 0
      have q1 := hR1.f.cell 1
      have q2 := hR1.f.cell 2
      have q3 := hR1.f.cell 3
      have q4 := hR1.f.cell 4
      have q5 := hR1.f.cell 5
      have q0' := hR1.f.free 0
      have q1' := hR1.f.free 1
      have q2' := hR1.f.free 2
      have q3' := hR1.f.free 3
      have q4' := hR1.f.free 4
      have q5' := hR1.f.free 5
      simp [zeroF, noteZero] at k0 n0 n1 n2 n3 n4 e0 m0 q0 q1 q2 q3 q4 q5
      have x1 : fb ≠ eb := hR1.f.ne hR1.e (by decide)
      have x2 : fb ≠ mb := hR1.f.ne hR1.m (by decide)
      have x3 : fb ≠ nb := hR1.f.ne hR1.n (by decide)
      have x4 : eb ≠ mb := hR1.e.ne hR1.m (by decide)
      have x5 : eb ≠ nb := hR1.e.ne hR1.n (by decide)
      have x6 : mb ≠ nb := hR1.m.ne hR1.n (by decide)
      have x7 : w.heap.size ≠ nb := hR1.h.ne hR1.n (by decide)
      have x8 : w.heap.size ≠ eb := hR1.h.ne hR1.e (by decide)
      have hwf := whole_full (Hbl.out 0)
      unfold ReadPost at hP
      rw [hwf] at hP
      have Hwf := Lib.hid hwf
      clear hwf
      by_cases hg : noteGood (ringB c d at_ 0)
      · have Hg := Lib.hid hg
        unfold noteGood at hg
        rw [if_pos hg] at hP
        obtain ⟨n, hn⟩ : ∃ n, n = noteOf (ringB c d at_ 0) := ⟨_, rfl⟩
        rw [← hn] at hP
        obtain ⟨rv, rfl, hrl, hro⟩ := hP
        have Hn : Hid (noteAt c d at_ = n) := Lib.hid hn.symm
        clear hg hn
        obtain ⟨rA, rn, rc, rfl⟩ : ∃ A n c, rv = .slice A n c := by
          rcases hro.2 with ⟨rfl, _⟩ | ⟨g, cap, cur, rfl, _⟩ <;> exact ⟨_, _, _, rfl⟩
        by_cases hid : n.id = c.id
        · gi_wp2
          obtain ⟨W2, hW2, hR2, hK2⟩ := hR1.noteE (U32 c.id) (U32 n.age) (U32 n.seq) (I n.stripe) (.slice rA rn rc) 0
          obtain ⟨W3, hW3, hR3, hK3⟩ := hR2.found (U32 n.age) (U32 n.seq) (I n.stripe) (.slice none 0 0) (.slice none 0 0) (.slice none 0 0)
          rw [← hW2, ← hW3]
          have hK := hK2.trans hK3
          refine ⟨(Keeps.of_ext hE1).trans (hK.more (by simp)), ?_⟩
          unfold DI
          rw [List.length_append, hp0]
          simp only [List.length_singleton, Nat.zero_add]
          rw [← hid, ← Hn.out] at hR3
          rw [← Hn.out] at hid
          refine ⟨Hg.out, hid, Nat.zero_le _, rfl, .slice none 0 0, .slice none 0 0, .slice none 0 0, .slice rA rn rc, [], none, hR3, ?_, ?_, by simp, by simp, by simp [Value.ownBlock]⟩
          · exact ⟨World.ownsRow_nil _ _ _ _, World.ownsRow_nil _ _ _ _, rfl, fun j hj => absurd hj (by simp), .inl ⟨rfl, rfl, rfl⟩⟩
          · have := ownsRow_keepsC (own_lower (base' := w.heap.size) hro hR.ext.size) (.of_keeps hK) (by simp)
            rw [show (noteAt c d at_).recs.length = countOf (ringB c d at_ 0) by simp [noteAt, noteOf], show (noteAt c d at_).recs.flatMap rcCells = recCells (ringB c d at_ 0) (countOf (ringB c d at_ 0)) by simp [noteAt, noteOf, recCells, List.flatMap_map]]
            exact this
        · have hid' : (n.id : Int) ≠ (c.id : Int) := by omega
          gi_wp2
          · obtain ⟨W2, hW2, hR2, hK2⟩ := hR1.noteE (U32 n.id) (U32 n.age) (U32 n.seq) (I n.stripe) (.slice rA rn rc) 0
            obtain ⟨W3, hW3, hR3, hK3⟩ := hR2.fin3 (.int .u32 0) (.int .u32 0) (.int .i64 0) (.slice none 0 0) (.slice none 0 0) (.slice none 0 0) 0 130
            rw [← hW2, ← hW3]
            exact ⟨(Keeps.of_ext hE1).trans ((hK2.trans hK3).more (by simp)), .inl ⟨rfl, fun h => hid (by have := h.2.1; rwa [Hn.out] at this), _, hR3⟩⟩
      · have Hg := Lib.hid hg
        unfold noteGood at hg
        rw [if_neg hg] at hP
        subst hP
        clear hg
        gi_wp2
        obtain ⟨W2, hW2, hR2, hK2⟩ := hR1.noteE (.int .u32 0) (.int .u32 0) (.int .u32 0) (.int .i64 0) (.slice none 0 0) 90
        obtain ⟨W3, hW3, hR3, hK3⟩ := hR2.fin3 (.int .u32 0) (.int .u32 0) (.int .i64 0) (.slice none 0 0) (.slice none 0 0) (.slice none 0 0) 0 130
        rw [← hW2, ← hW3]
        exact ⟨(Keeps.of_ext hE1).trans ((hK2.trans hK3).more (by simp)), .inl ⟨rfl, fun h => Hg.out h.1, _, hR3⟩⟩
    · obtain ⟨k, hk⟩ : ∃ k, pre.length = k + 1 := ⟨pre.length - 1, by omega⟩
      unfold DI at hI
      rw [hk] at hI
      simp only at hI
      obtain ⟨hgood, hid, hle, hto, sv, lv, pv, rv, xs, pa, hR, hO, hrv, hin, hpa, hsv⟩ := hI
      have hxk : x.i = k + 1 := by omega
      have hrl := recs_own hrv
      obtain ⟨rA, rc, rfl⟩ := own_slice hrv
      obtain ⟨sA, sc, rfl⟩ := own_slice hO.slots
      obtain ⟨lA, lc, rfl⟩ := own_slice hO.blocks
      have n4 := hR.n.cell 4
      simp at n4
      have Hxl := Lib.hid hxl
      have Hgood := Lib.hid hgood
      have Hto := Lib.hid hto
      have Hidd := Lib.hid hid
      have Hin := Lib.hid hin
      have Hpa := Lib.hid hpa
      have Hsv := Lib.hid hsv
      rw [hxk] at hown ⊢
      clear hgood hto hid hxl hin hpa hsv
      have Hxk := Lib.hid hxk
      have Hx := Lib.hid hx
      have Hk := Lib.hid hk
      clear hxk hx hk hp0
      obtain ⟨m, hm⟩ : ∃ m, m = (noteAt c d at_).recs.length := ⟨_, rfl⟩
      rw [← hm] at n4
      have HM := Lib.hid hm
      clear hm
      by_cases hq : k < m
      · obtain ⟨rb, ro, rfl, hcr⟩ := rc_at (by obtain ⟨A, c, e, _, _, h⟩ := hrl; cases e; exact h : Rep.rc.row W rA (noteAt c d at_).recs) (by have := HM.out; omega)
        have hkr : k < (noteAt c d at_).recs.length := by have := HM.out; omega
        obtain ⟨r0, r1, r2, rlt⟩ := hcr k hkr
        obtain ⟨r, hr⟩ : ∃ r, r = (noteAt c d at_).recs[k] := ⟨_, rfl⟩
        rw [← hr] at r0 r1 r2 rlt
        have Hr : Hid (recAt (noteAt c d at_).recs k = r) := Lib.hid (by unfold recAt; rw [List.getD_eq_getElem?_getD, List.getElem?_eq_getElem hkr, hr]; rfl)
        obtain ⟨y, hy⟩ : ∃ y, y = (ringB c d at_ (k + 1)).getD 0 0 := ⟨_, rfl⟩
        have hkb : k < 255 := by have h1 := Hxl.out; have h2 := Hl.out; have h3 := Hxk.out; omega
        have Hy := Lib.hid hy
        clear hcr hr hy hkr hle
        have hdec : ((m : Int) < (k : Int) + 1) = False := eq_false (dec_no hq)
        gi_upto_region 15 with fail
        obtain ⟨t13, ht13⟩ : ∃ t, t = W.heap.size := ⟨_, rfl⟩
        obtain ⟨W1, hW1⟩ : ∃ W1, W1 = W.alloc (.cells #[Value.int .u8 (r.slot.toNat : Int), .bool r.bare, U32 r.sum] 121) := ⟨_, rfl⟩
        have hE1 : Ext W W1 := by rw [hW1]; exact Ext.alloc (Ext.refl _) _
        have hT : RowAt W1 t13 #[Value.int .u8 (r.slot.toNat : Int), .bool r.bare, U32 r.sum] 121 := by rw [hW1]; exact RowAt.newAt _ _ _ ht13
        rw [← hW1, ← ht13]
        have hR1 := hR.keepsC (.of_ext (n0 := w.heap.size) (TS := []) hE1) (Nat.le_refl _) (by simp)
        have hO1 := hO.keepsC (.of_ext (n0 := w.heap.size) (TS := []) hE1) (by simp)
        have hrv1 := ownsRow_keepsC hrv (n0 := 0) (TS := []) (.of_ext hE1) (by simp)
        have hown1 := ownsRow_keepsC hown (n0 := 0) (TS := []) (.of_ext hE1) (by simp)
        have hxW : x.g < t13 := by
          obtain ⟨_, _, _, ⟨_, hcur⟩, _⟩ := own_head hown (Hbl.out _)
          have := hcur.lt
          omega
        have ht1 : t13 < W1.heap.size := hT.lt
        have hs1 : Rep.byte.sl W1 x.v (ringB c d at_ (k + 1)) := own_bytes hown1
        have HS := Lib.hid hs1
        have Hfit : RowKit.Hid (Fit (ringB c d at_ (k + 1)).length) := Lib.hid (by rw [Hbl.out]; unfold Fit; decide)
        obtain ⟨p0, _, _, _, _⟩ := own_head hown1 (Hbl.out _)
        rw [← Hy.out] at p0
        have T0 := hT.cell 0
        have T1 := hT.cell 1
        have T2 := hT.cell 2
        simp at T0 T1 T2
        obtain ⟨s1, hs⟩ : ∃ s, s = overB 0 (ringB c d at_ (k + 1)) := ⟨_, rfl⟩
        have HSum := Lib.hid hs
        have hcall : ∀ W2, Ext W1 W2 → Calls Try.prog 68 #[x.v] W2 fun e w' => e = .returned (U32 s1) ∧ Ext W2 w' := fun W2 h => by rw [hs]; exact poly_Sum _ _ _ (hs1.ext h) Hfit.out
        have Hcall := Lib.hid hcall
        have Hne := Lib.hid hne
        have Hq := Lib.hid hq
        have Ht13 := Lib.hid ht13
        clear ht13 hW1 hs1 hs hcall r0 r1 r2 n4 hdec hR hO hrv hrl hown hne hxW
        obtain ⟨yi, hyi⟩ : ∃ yi : Int, yi = (y.toNat : Int) := ⟨_, rfl⟩
        obtain ⟨bare, hbare⟩ : ∃ b, b = r.bare := ⟨_, rfl⟩
        obtain ⟨si, hsi⟩ : ∃ si : Int, si = (s1 : Int) := ⟨_, rfl⟩
        obtain ⟨ri, hri⟩ : ∃ ri : Int, ri = (r.sum : Int) := ⟨_, rfl⟩
        rw [← hbare] at T1
        replace T2 : W1.cell? ⟨t13, 2, none⟩ = some (.int .u32 ri) := by rw [hri]; exact T2
        replace Hcall : RowKit.Hid (∀ W2, Ext W1 W2 → Calls Try.prog 68 #[x.v] W2 fun e w' => e = .returned (.int .u32 si) ∧ Ext W2 w') := by rw [hsi]; exact Hcall
        replace p0 : W1.cell? ⟨x.g, 0, none⟩ = some (.int .u8 yi) := by rw [hyi]; exact p0
        have Hyi := Lib.hid hyi
        have Hbare := Lib.hid hbare
        have Hsi := Lib.hid hsi
        have Hri := Lib.hid hri
        clear hyi hbare hsi hri
        refine wpIn_ssaK_round (by kernel_rfl) rfl 0 (fun _ => []) (fun _ => []) [] (by kernel_rfl) (fun _ A C => Ext A C)
          (fun i vs v _ => match i with
            | 0 => v = x.v
            | 1 => v = .int .u32 si
            | 2 => v = .pointer (some ⟨t13, 2, none⟩)
            | 3 => v = .int .u32 ri
            | 4 => v = .bool (si != ri)
            | 5 => v = .bool (si != ri)
            | 6 => (si != ri) = false → v = x.v
            | 7 => (si != ri) = false → v = .pointer (some ⟨x.g, 0, none⟩)
            | 8 => (si != ri) = false → v = .int .u8 yi
            | 9 => (si != ri) = false → v = .bool (yi == 78)
            | 10 => v = .bool ((si != ri) || (yi == 78))
            | 11 => v = .bool ((si != ri) || (yi == 78))
            | 12 => ((si != ri) || (yi == 78)) = false → v = .pointer (some ⟨t13, 1, none⟩)
            | 13 => ((si != ri) || (yi == 78)) = false → v = .bool bare
            | 14 => (((si != ri) || (yi == 78)) = false → v = .bool bare) ∧ (((si != ri) || (yi == 78)) = true → v = undef)
            | 15 => bare = true → ((si != ri) || (yi == 78)) = false → v = x.v
            | 16 => bare = true → ((si != ri) || (yi == 78)) = false → v = .pointer (some ⟨x.g, 0, none⟩)
            | 17 => bare = true → ((si != ri) || (yi == 78)) = false → v = .int .u8 yi
            | 18 => bare = true → ((si != ri) || (yi == 78)) = false → v = .bool (yi != 0)
            | 19 => ((si != ri) || (yi == 78)) = false → v = .bool (bare && (yi != 0))
            | _ => v = .bool (((si != ri) || (yi == 78)) || (bare && (yi != 0)))) ?hR ?hst ?hop ?fin
        case hR =>
          intro k hk TS A C ht hK hr
          exact hK.ext hr
        case hst =>
          intro j p hj k o ho hne hb vs v A C hK hr hΦ
          exact hΦ
        case hop =>
          refine allAt ⟨?_, ?_, ?_, ?_, ?_, ?_, ?_, ?_, ?_, ?_, ?_, ?_, ?_, ?_, ?_, ?_, ?_, ?_, ?_, ?_, ?_, trivial⟩
          · intro vs w' hK hd
            refine plain_op rfl ?_
            unfold runOp
            simp [go_sem, look, writer, List.findIdx?, List.findIdx?.go, depsOf, Region.binds]
            exact Ext.refl _
          · intro vs w' hK hd
            have h0 : vs 0 = x.v := hd 0 _ rfl (by decide)
            refine plain_op rfl ?_
            unfold runOp
            simp [go_sem, look, writer, List.findIdx?, List.findIdx?.go, depsOf, Region.binds, h0]
            refine (Hcall.out w' hK.toExt).mono ?_
            rintro e w2 ⟨rfl, hE2⟩
            exact ⟨rfl, hE2⟩
          · intro vs w' hK hd
            refine plain_op rfl ?_
            unfold runOp
            simp [go_sem, look, writer, List.findIdx?, List.findIdx?.go, depsOf, Region.binds]
            exact Ext.refl _
          · intro vs w' hK hd
            have h2 : vs 2 = .pointer (some ⟨t13, 2, none⟩) := hd 2 _ rfl (by decide)
            have k2 := hK.toExt.cells T2
            refine plain_op rfl ?_
            unfold runOp
            simp [go_sem, look, writer, List.findIdx?, List.findIdx?.go, depsOf, Region.binds, h2, k2]
            exact Ext.refl _
          · intro vs w' hK hd
            have h1 : vs 1 = .int .u32 si := hd 1 _ rfl (by decide)
            have h3 : vs 3 = .int .u32 ri := hd 3 _ rfl (by decide)
            refine plain_op rfl ?_
            unfold runOp
            simp [go_sem, look, writer, List.findIdx?, List.findIdx?.go, depsOf, Region.binds, h1, h3]
            exact Ext.refl _
          · intro vs w' hK hd
            have h4 : vs 4 = .bool (si != ri) := hd 4 _ rfl (by decide)
            refine plain_op rfl ?_
            unfold runOp
            simp [go_sem, look, writer, List.findIdx?, List.findIdx?.go, depsOf, Region.binds, h4]
            exact Ext.refl _
          · intro vs w' hK hd
            have h5 : vs 5 = .bool (si != ri) := hd 5 _ rfl (by decide)
            refine guard_op rfl h5 (fun hb => ?_) (fun hb => ⟨Ext.refl _, fun h => absurd h hb⟩)
            · unfold runOp
              simp [go_sem, look, writer, List.findIdx?, List.findIdx?.go, depsOf, Region.binds]
              first | exact Ext.refl _ | exact ⟨Ext.refl _, fun _ => rfl⟩
          · intro vs w' hK hd
            have h5 : vs 5 = .bool (si != ri) := hd 5 _ rfl (by decide)
            have h6 : (si != ri) = false → vs 6 = x.v := hd 6 _ rfl (by decide)
            refine guard_op rfl h5 (fun hb => ?_) (fun hb => ⟨Ext.refl _, fun h => absurd h hb⟩)
            · unfold runOp
              simp [go_sem, look, writer, List.findIdx?, List.findIdx?.go, depsOf, Region.binds, h6 hb]
              first | exact Ext.refl _ | exact ⟨Ext.refl _, fun _ => rfl⟩
          · intro vs w' hK hd
            have h5 : vs 5 = .bool (si != ri) := hd 5 _ rfl (by decide)
            have h7 : (si != ri) = false → vs 7 = .pointer (some ⟨x.g, 0, none⟩) := hd 7 _ rfl (by decide)
            have k0 := hK.toExt.cells p0
            refine guard_op rfl h5 (fun hb => ?_) (fun hb => ⟨Ext.refl _, fun h => absurd h hb⟩)
            · unfold runOp
              simp [go_sem, look, writer, List.findIdx?, List.findIdx?.go, depsOf, Region.binds, h7 hb, k0]
              first | exact Ext.refl _ | exact ⟨Ext.refl _, fun _ => rfl⟩
          · intro vs w' hK hd
            have h5 : vs 5 = .bool (si != ri) := hd 5 _ rfl (by decide)
            have h8 : (si != ri) = false → vs 8 = .int .u8 yi := hd 8 _ rfl (by decide)
            refine guard_op rfl h5 (fun hb => ?_) (fun hb => ⟨Ext.refl _, fun h => absurd h hb⟩)
            · unfold runOp
              simp [go_sem, look, writer, List.findIdx?, List.findIdx?.go, depsOf, Region.binds, h8 hb]
              first | exact Ext.refl _ | exact ⟨Ext.refl _, fun _ => rfl⟩
          · intro vs w' hK hd
            have h5 : vs 5 = .bool (si != ri) := hd 5 _ rfl (by decide)
            have h9 : (si != ri) = false → vs 9 = .bool (yi == 78) := hd 9 _ rfl (by decide)
            refine plain_op rfl ?_
            unfold runOp
            cases hb : (si != ri)
            · rw [hb] at h5
              have h9' := h9 hb
              simp [go_sem, look, writer, List.findIdx?, List.findIdx?.go, depsOf, Region.binds, h5, h9']
              exact Ext.refl _
            · rw [hb] at h5
              simp [go_sem, look, writer, List.findIdx?, List.findIdx?.go, depsOf, Region.binds, h5]
              exact Ext.refl _
          · intro vs w' hK hd
            have h10 : vs 10 = .bool ((si != ri) || (yi == 78)) := hd 10 _ rfl (by decide)
            refine plain_op rfl ?_
            unfold runOp
            simp [go_sem, look, writer, List.findIdx?, List.findIdx?.go, depsOf, Region.binds, h10]
            exact Ext.refl _
          · intro vs w' hK hd
            have h11 : vs 11 = .bool ((si != ri) || (yi == 78)) := hd 11 _ rfl (by decide)
            refine guard_op rfl h11 (fun hb => ?_) (fun hb => ⟨Ext.refl _, fun h => absurd h hb⟩)
            · unfold runOp
              simp [go_sem, look, writer, List.findIdx?, List.findIdx?.go, depsOf, Region.binds]
              first | exact Ext.refl _ | exact ⟨Ext.refl _, fun _ => rfl⟩
          · intro vs w' hK hd
            have h11 : vs 11 = .bool ((si != ri) || (yi == 78)) := hd 11 _ rfl (by decide)
            have h12 : ((si != ri) || (yi == 78)) = false → vs 12 = .pointer (some ⟨t13, 1, none⟩) := hd 12 _ rfl (by decide)
            have k1 := hK.toExt.cells T1
            refine guard_op rfl h11 (fun hb => ?_) (fun hb => ⟨Ext.refl _, fun h => absurd h hb⟩)
            · unfold runOp
              simp [go_sem, look, writer, List.findIdx?, List.findIdx?.go, depsOf, Region.binds, h12 hb, k1]
              first | exact Ext.refl _ | exact ⟨Ext.refl _, fun _ => rfl⟩
          · intro vs w' hK hd
            have h11 : vs 11 = .bool ((si != ri) || (yi == 78)) := hd 11 _ rfl (by decide)
            have h13 : ((si != ri) || (yi == 78)) = false → vs 13 = .bool bare := hd 13 _ rfl (by decide)
            refine guard_op rfl h11 (fun hb => ?_) (fun hb => ⟨Ext.refl _, fun h => absurd h hb, fun _ => rfl⟩)
            · unfold runOp
              simp [go_sem, look, writer, List.findIdx?, List.findIdx?.go, depsOf, Region.binds, h13 hb]
              refine ⟨Ext.refl _, fun h => ?_⟩
              simp at hb
              rcases h with h | h
              · exact absurd hb.1 h
              · exact absurd h hb.2
          · intro vs w' hK hd
            have h14 : (((si != ri) || (yi == 78)) = false → vs 14 = .bool bare) ∧ (((si != ri) || (yi == 78)) = true → vs 14 = undef) := hd 14 _ rfl (by decide)
            cases hc : ((si != ri) || (yi == 78))
            · refine guard_op rfl (h14.1 hc) (fun hb => ?_) (fun hb => ⟨Ext.refl _, fun h _ => absurd h hb⟩)
              unfold runOp
              simp [go_sem, look, writer, List.findIdx?, List.findIdx?.go, depsOf, Region.binds]
              first | exact Ext.refl _ | exact ⟨Ext.refl _, fun _ _ => rfl⟩
            · exact guard_no rfl (h14.2 hc) ⟨Ext.refl _, fun _ h => by first | cases h | exact absurd (hc.symm.trans h) (by decide)⟩
          · intro vs w' hK hd
            have h14 : (((si != ri) || (yi == 78)) = false → vs 14 = .bool bare) ∧ (((si != ri) || (yi == 78)) = true → vs 14 = undef) := hd 14 _ rfl (by decide)
            have h15 : bare = true → ((si != ri) || (yi == 78)) = false → vs 15 = x.v := hd 15 _ rfl (by decide)
            cases hc : ((si != ri) || (yi == 78))
            · refine guard_op rfl (h14.1 hc) (fun hb => ?_) (fun hb => ⟨Ext.refl _, fun h _ => absurd h hb⟩)
              unfold runOp
              simp [go_sem, look, writer, List.findIdx?, List.findIdx?.go, depsOf, Region.binds, h15 hb hc]
              first | exact Ext.refl _ | exact ⟨Ext.refl _, fun _ _ => rfl⟩
            · exact guard_no rfl (h14.2 hc) ⟨Ext.refl _, fun _ h => by first | cases h | exact absurd (hc.symm.trans h) (by decide)⟩
          · intro vs w' hK hd
            have h14 : (((si != ri) || (yi == 78)) = false → vs 14 = .bool bare) ∧ (((si != ri) || (yi == 78)) = true → vs 14 = undef) := hd 14 _ rfl (by decide)
            have h16 : bare = true → ((si != ri) || (yi == 78)) = false → vs 16 = .pointer (some ⟨x.g, 0, none⟩) := hd 16 _ rfl (by decide)
            have k0 := hK.toExt.cells p0
            cases hc : ((si != ri) || (yi == 78))
            · refine guard_op rfl (h14.1 hc) (fun hb => ?_) (fun hb => ⟨Ext.refl _, fun h _ => absurd h hb⟩)
              unfold runOp
              simp [go_sem, look, writer, List.findIdx?, List.findIdx?.go, depsOf, Region.binds, h16 hb hc, k0]
              first | exact Ext.refl _ | exact ⟨Ext.refl _, fun _ _ => rfl⟩
            · exact guard_no rfl (h14.2 hc) ⟨Ext.refl _, fun _ h => by first | cases h | exact absurd (hc.symm.trans h) (by decide)⟩
          · intro vs w' hK hd
            have h14 : (((si != ri) || (yi == 78)) = false → vs 14 = .bool bare) ∧ (((si != ri) || (yi == 78)) = true → vs 14 = undef) := hd 14 _ rfl (by decide)
            have h17 : bare = true → ((si != ri) || (yi == 78)) = false → vs 17 = .int .u8 yi := hd 17 _ rfl (by decide)
            cases hc : ((si != ri) || (yi == 78))
            · refine guard_op rfl (h14.1 hc) (fun hb => ?_) (fun hb => ⟨Ext.refl _, fun h _ => absurd h hb⟩)
              unfold runOp
              simp [go_sem, look, writer, List.findIdx?, List.findIdx?.go, depsOf, Region.binds, h17 hb hc]
              first | exact Ext.refl _ | exact ⟨Ext.refl _, fun _ _ => rfl⟩
            · exact guard_no rfl (h14.2 hc) ⟨Ext.refl _, fun _ h => by first | cases h | exact absurd (hc.symm.trans h) (by decide)⟩
          · intro vs w' hK hd
            have h11 : vs 11 = .bool ((si != ri) || (yi == 78)) := hd 11 _ rfl (by decide)
            have h14 : (((si != ri) || (yi == 78)) = false → vs 14 = .bool bare) ∧ (((si != ri) || (yi == 78)) = true → vs 14 = undef) := hd 14 _ rfl (by decide)
            have h18 : bare = true → ((si != ri) || (yi == 78)) = false → vs 18 = .bool (yi != 0) := hd 18 _ rfl (by decide)
            refine guard_op rfl h11 (fun hb => ?_) (fun hb => ⟨Ext.refl _, fun h => absurd h hb⟩)
            have h14' := h14.1 hb
            unfold runOp
            cases bare
            · simp [go_sem, look, writer, List.findIdx?, List.findIdx?.go, depsOf, Region.binds, h14']
              first | exact Ext.refl _ | exact ⟨Ext.refl _, fun _ => rfl⟩
            · have h18' := h18 rfl hb
              simp [go_sem, look, writer, List.findIdx?, List.findIdx?.go, depsOf, Region.binds, h14', h18']
              first | exact Ext.refl _ | exact ⟨Ext.refl _, fun _ => rfl⟩
          · intro vs w' hK hd
            have h11 : vs 11 = .bool ((si != ri) || (yi == 78)) := hd 11 _ rfl (by decide)
            have h19 : ((si != ri) || (yi == 78)) = false → vs 19 = .bool (bare && (yi != 0)) := hd 19 _ rfl (by decide)
            refine plain_op rfl ?_
            unfold runOp
            cases hb : ((si != ri) || (yi == 78))
            · rw [hb] at h11
              have h19' := h19 hb
              simp [go_sem, look, writer, List.findIdx?, List.findIdx?.go, depsOf, Region.binds, h11, h19']
              exact Ext.refl _
            · rw [hb] at h11
              simp [go_sem, look, writer, List.findIdx?, List.findIdx?.go, depsOf, Region.binds, h11]
              exact Ext.refl _
        case fin =>
          intro vs w' A _ _ hA hKf hf
          subst hA
          simp only [fill, Act.put, List.setIfInBounds_toArray, List.set_cons_zero, List.set_cons_succ]
          have h20 : vs 20 = .bool (((si != ri) || (yi == 78)) || (bare && (yi != 0))) := hf 20 _ rfl
          have hE2 : Ext W1 w' := hKf.toExt
          have hR2 := hR1.keepsC (.of_ext (n0 := w.heap.size) (TS := []) hE2) (Nat.le_refl _) (by simp)
          have hO2 := hO1.keepsC (.of_ext (n0 := w.heap.size) (TS := []) hE2) (by simp)
          have hrv2 := ownsRow_keepsC hrv1 (n0 := 0) (TS := []) (.of_ext hE2) (by simp)
          have hown2 := ownsRow_keepsC hown1 (n0 := 0) (TS := []) (.of_ext hE2) (by simp)
          have hT2 := hT.ext hE2
          have T0' := hE2.cells T0
          have T1' := hE2.cells T1
          have hrg : recGood r (ringB c d at_ (k + 1)) = !(((si != ri) || (yi == 78)) || (bare && (yi != 0))) := recGood_eq r _ y s1 yi si ri bare Hy.out HSum.out Hyi.out Hsi.out Hri.out Hbare.out
          have Hrg := Lib.hid hrg
          clear hrg hR1 hO1 hrv1 hown1 T0 T1 T2 p0 hf hKf
          cases hG : (((si != ri) || (yi == 78)) || (bare && (yi != 0)))
          · rw [hG] at h20
            have HG := Lib.hid hG
            clear hG
            obtain ⟨p0', p1', hgb, ⟨gcur, hgr⟩, hset⟩ := own_head hown2 (Hbl.out _)
            rw [← Hy.out] at p0'
            cases bare
            · have hR3 := hR2
              have hO3 := hO2
              have hrv3 := hrv2
              have hT3 := hT2
              have hown3 : w'.ownsRow w.heap.size 5 1 x.v 128 ((recBlock r (ringB c d at_ (k + 1))).map B) := by
                unfold recBlock
                rw [if_neg (by rw [← Hbare.out]; decide)]
                exact hown2
              have hK3 : Keeps w.heap.size [36, 3, 37, 83, 5, 32] W w' := Keeps.of_ext (Ext.trans hE1 hE2)
              clear hset hgr hgb p0' p1' hown2 hR2 hO2 hrv2 hT2 hT T0'
              have w0 := (hT3.cell 0)
              simp at w0
              have hsb := own_block hO3.slots
              by_cases hsl : (r.slot.toNat : Int) = 255
              · have hrow := hR3.f
                have q5 := hR3.f.cell 5
                have q5' := hR3.f.free 5
                simp at q5
                have Hsl := Lib.hid hsl
                have hsl2 : (Value.int .u8 (r.slot.toNat : Int)) = .int .u8 255 := by rw [hsl]
                rw [hsl2] at w0
                clear hsl hsl2
                gi_wp2
                obtain ⟨hKp, hDp⟩ := DI.par (x := x) Hgood.out Hidd.out (by rw [← HM.out]; exact Hq.out) Hto.out Hr.out (by rw [Hrg.out, HG.out]; rfl) (slot255 Hsl.out) Hk.out hR3 hO3 hrv3 Hin.out Hsv.out hown3
                exact ⟨hK3.trans (hKp.more (by simp)), hDp⟩
              · have Hsl := Lib.hid hsl
                gi_upto_region 21 with fail
                obtain ⟨hfs, hfl⟩ := dealTo_few (noteAt c d at_).stripe (noteAt c d at_).recs (ringB c d at_) k
                have hsw := Hsv.out
                obtain ⟨zi, hzi⟩ : ∃ zi : Int, zi = (r.slot.toNat : Int) := ⟨_, rfl⟩
                have hzb : 0 ≤ zi ∧ zi < 256 := zi_bounds hzi
                generalize hDD : dealTo (noteAt c d at_).stripe (noteAt c d at_).recs (ringB c d at_) k = D at hO3 hR3 hfs hfl hsw
                obtain ⟨sv, hsv0⟩ : ∃ v, v = Value.slice sA D.slots.length sc := ⟨_, rfl⟩
                obtain ⟨lv, hlv0⟩ : ∃ v, v = Value.slice lA D.blocks.length lc := ⟨_, rfl⟩
                rw [← hsv0] at hR3 hO3 hsw
                rw [← hlv0] at hR3 hO3
                rw [← hzi] at w0
                have Hzi := Lib.hid hzi
                have HDD := Lib.hid hDD
                have hkk := kbound Hxl.out Hxk.out Hl.out
                clear hsv0 hlv0 hzi hDD hsb hsl
                have hsb := own_block hO3.slots
                have hlb := own_block hO3.blocks
                have hlo3 := hR3.lo
                have hwz := hR3.ext.size
                have hfz := hR3.f.lt
                have hmz := hR3.m.lt
                have haz := hR3.ring.2.2.lt
                have hsf : ∀ g, sv.ownBlock = some g → g < w'.heap.size ∧ g ≠ fb ∧ lv.ownBlock ≠ some g := fun g hg => by
                  obtain ⟨_, cur, h⟩ := hsb g hg
                  refine ⟨h.lt, h.ne hR3.f (by decide), fun e => ?_⟩
                  obtain ⟨_, cur', h'⟩ := hlb g e
                  exact h.ne h' (by decide) rfl
                have hlf : ∀ g, lv.ownBlock = some g → g < w'.heap.size ∧ g ≠ fb ∧ g ≠ mb ∧ g ≠ ab := fun g hg => by
                  obtain ⟨_, cur, h⟩ := hlb g hg
                  exact ⟨h.lt, h.ne hR3.f (by decide), h.ne hR3.m (by decide), h.ne hR3.ring.2.2 (by decide)⟩
                have hfm : fb ≠ mb := hR3.f.ne hR3.m (by decide)
                have hfa : fb ≠ ab := hR3.f.ne hR3.ring.2.2 (by decide)
                obtain ⟨rowN, hrowN⟩ : ∃ f : Value → Value → Array Value, f = fun a b => #[U32 (noteAt c d at_).age, U32 (noteAt c d at_).seq, I (noteAt c d at_).stripe, a, b, pv] := ⟨_, rfl⟩
                refine wpIn_ssaK_round (by kernel_rfl) rfl w.heap.size (fun k => match k with | 7 => [3] | 13 => [32] | 16 => [36] | 19 => [36] | _ => [])
                  (fun k => match k with | 0 => [] | 1 => [] | 2 => [] | 3 => [] | 4 => [] | 5 => [] | 6 => [] | 7 => [] | 8 => [3] | 9 => [3] | 10 => [3] | 11 => [3] | 12 => [3] | 13 => [3] | 14 => [3, 32] | 15 => [3, 32] | 16 => [3, 32] | _ => [3, 32, 36]) [3, 32, 36] (by kernel_rfl)
                  (R21 sv.ownBlock lv.ownBlock fb)
                  (fun i ds v w9 => match i with
                  | 0 => v = .pointer (some ⟨fb, 2, none⟩)
                  | 1 => v = .pointer (some ⟨fb, 3, none⟩)
                  | 2 => v = sv
                  | 3 => v = .pointer (some ⟨t13, 0, none⟩)
                  | 4 => v = .int .u8 zi
                  | 5 => v = I zi
                  | 6 => ∃ b, v = .slice (some ⟨b, 0, none⟩) 1 1 ∧ w'.heap.size ≤ b ∧ RowAt w9 b #[I zi] 3
                  | 7 => (∀ g, v.ownBlock = some g → sv.ownBlock = some g ∨ w'.heap.size ≤ g) ∧ (∃ g n cap, v = .slice (some ⟨g, 0, none⟩) n cap) ∧ w9.ownsRow w.heap.size 3 1 v (D.slots.length + 1) (D.slots.map I ++ [I zi]) ∧ RowAt w9 mb #[I 0] 3 ∧ RowAt w9 ab #[I at_] 3
                  | 8 => v = .pointer (some ⟨fb, 2, none⟩)
                  | 9 => v = .pointer (some ⟨fb, 4, none⟩)
                  | 10 => v = lv
                  | 11 => v = x.v
                  | 12 => ∃ b, v = .slice (some ⟨b, 0, none⟩) 1 1 ∧ w'.heap.size ≤ b ∧ RowAt w9 b #[x.v] 32
                  | 13 => (∀ g, v.ownBlock = some g → lv.ownBlock = some g ∨ w'.heap.size ≤ g) ∧ (∃ g n cap, v = .slice (some ⟨g, 0, none⟩) n cap) ∧ w9.ownsRow w.heap.size 32 1 v (D.blocks.length + 1) (xs.map RX.v ++ [x.v])
                  | 14 => v = .pointer (some ⟨fb, 2, none⟩)
                  | 15 => v = .pointer (some ⟨fb, 3, none⟩)
                  | 16 => ∃ u, RowAt w9 fb (rowN (ds 7) u) 36
                  | 17 => v = .pointer (some ⟨fb, 2, none⟩)
                  | 18 => v = .pointer (some ⟨fb, 4, none⟩)
                  | _ => RowAt w9 fb (rowN (ds 7) (ds 13)) 36) ?hR ?hst ?hop ?fin
                case hR =>
                  intro k' hk' TS A' C' ht hK hr
                  obtain ⟨o, ho, h⟩ := hr.out
                  refine hK.grownO ho ?_
                  rcases h with rfl | ⟨rfl, rfl⟩ | ⟨rfl, rfl⟩ | ⟨rfl, hh⟩
                  · intro g e
                    cases e
                  · intro g e
                    obtain ⟨h1, cur, h2⟩ := hsb g e
                    exact ⟨h1, .inr ⟨_, _, _, h2, ht 3 (by simp)⟩⟩
                  · intro g e
                    obtain ⟨h1, cur, h2⟩ := hlb g e
                    exact ⟨h1, .inr ⟨_, _, _, h2, ht 32 (by simp)⟩⟩
                  · intro g e
                    cases e
                    refine ⟨hlo3.1, .inr ⟨_, _, _, hR3.f, ?_⟩⟩
                    rcases hh with rfl | rfl
                    · exact ht 36 (by simp)
                    · exact ht 36 (by simp)
                case hst =>
                  intro j p hj k' o ho hne hb vs v A' C' hK hr hΦ
                  obtain ⟨o', ho', h⟩ := hr.out
                  match j, hj, hne, hΦ with
                  | 0, hj, hne, hΦ => exact hΦ
                  | 1, hj, hne, hΦ => exact hΦ
                  | 2, hj, hne, hΦ => exact hΦ
                  | 3, hj, hne, hΦ => exact hΦ
                  | 4, hj, hne, hΦ => exact hΦ
                  | 5, hj, hne, hΦ => exact hΦ
                  | 6, hj, hne, hΦ =>
                    obtain ⟨b, h1, h2, h3⟩ := hΦ
                    refine ⟨b, h1, h2, h3.grownO ho' ?_⟩
                    rcases h with rfl | ⟨rfl, _⟩ | ⟨rfl, _⟩ | ⟨rfl, _⟩
                    · simp
                    · exact fun e => by have := (hsf _ e).1; omega
                    · exact fun e => by have := (hlf _ e).1; omega
                    · exact fun e => by cases e; omega
                  | 7, hj, hne, hΦ =>
                    obtain ⟨h1, h2, h3, h4, h5⟩ := hΦ
                    refine ⟨h1, h2, own_grown h3 ho' ?_, h4.grownO ho' ?_, h5.grownO ho' ?_⟩
                    · rcases h with rfl | ⟨rfl, h7⟩ | ⟨rfl, _⟩ | ⟨rfl, _⟩
                      · simp
                      · exact absurd h7 hne
                      · intro g hg e
                        rcases h1 g hg with h1 | h1
                        · exact (hsf g h1).2.2 e
                        · have := (hlf g e).1
                          omega
                      · intro g hg e
                        cases e
                        rcases h1 fb hg with h1 | h1
                        · exact (hsf fb h1).2.1 rfl
                        · omega
                    · rcases h with rfl | ⟨rfl, _⟩ | ⟨rfl, _⟩ | ⟨rfl, _⟩
                      · simp
                      · exact fun e => (hsw _ e).1 rfl
                      · exact fun e => (hlf _ e).2.2.1 rfl
                      · exact fun e => hfm (Option.some.inj e)
                    · rcases h with rfl | ⟨rfl, _⟩ | ⟨rfl, _⟩ | ⟨rfl, _⟩
                      · simp
                      · exact fun e => (hsw _ e).2 rfl
                      · exact fun e => (hlf _ e).2.2.2 rfl
                      · exact fun e => hfa (Option.some.inj e)
                  | 8, hj, hne, hΦ => exact hΦ
                  | 9, hj, hne, hΦ => exact hΦ
                  | 10, hj, hne, hΦ => exact hΦ
                  | 11, hj, hne, hΦ => exact hΦ
                  | 12, hj, hne, hΦ =>
                    obtain ⟨b, h1, h2, h3⟩ := hΦ
                    refine ⟨b, h1, h2, h3.grownO ho' ?_⟩
                    rcases h with rfl | ⟨rfl, _⟩ | ⟨rfl, _⟩ | ⟨rfl, _⟩
                    · simp
                    · exact fun e => by have := (hsf _ e).1; omega
                    · exact fun e => by have := (hlf _ e).1; omega
                    · exact fun e => by cases e; omega
                  | 13, hj, hne, hΦ =>
                    obtain ⟨h1, h2, h3⟩ := hΦ
                    refine ⟨h1, h2, own_grown h3 ho' ?_⟩
                    rcases h with rfl | ⟨rfl, _⟩ | ⟨rfl, h13⟩ | ⟨rfl, _⟩
                    · simp
                    · intro g hg e
                      rcases h1 g hg with h1 | h1
                      · exact (hsf g e).2.2 h1
                      · have := (hsf g e).1
                        omega
                    · exact absurd h13 hne
                    · intro g hg e
                      cases e
                      rcases h1 fb hg with h1 | h1
                      · exact (hlf fb h1).2.1 rfl
                      · omega
                  | 14, hj, hne, hΦ => exact hΦ
                  | 15, hj, hne, hΦ => exact hΦ
                  | 16, hj, hne, hΦ =>
                    obtain ⟨u, h1⟩ := hΦ
                    rcases h with rfl | ⟨rfl, _⟩ | ⟨rfl, _⟩ | ⟨_, rfl | rfl⟩
                    · exact ⟨u, h1.grownO ho' (by simp)⟩
                    · exact ⟨u, h1.grownO ho' (fun e => (hsf _ e).2.1 rfl)⟩
                    · exact ⟨u, h1.grownO ho' (fun e => (hlf _ e).2.1 rfl)⟩
                    · exact absurd rfl hne
                    · obtain ⟨v', rfl⟩ := hr
                      have := h1.set 4 v'
                      rw [hrowN] at this ⊢
                      simp at this
                      exact ⟨v', this⟩
                  | 17, hj, hne, hΦ => exact hΦ
                  | 18, hj, hne, hΦ => exact hΦ
                  | 19, hj, hne, hΦ =>
                    have hΦ : RowAt A' fb (rowN (vs 7) (vs 13)) 36 := hΦ
                    show RowAt C' fb (rowN (vs 7) (vs 13)) 36
                    refine hΦ.grownO ho' ?_
                    rcases h with rfl | ⟨rfl, _⟩ | ⟨rfl, _⟩ | ⟨rfl, rfl | rfl⟩
                    · simp
                    · exact fun e => (hsf _ e).2.1 rfl
                    · exact fun e => (hlf _ e).2.1 rfl
                    · cases hj
                      cases hb
                    · exact absurd rfl hne
                  | n + 20, hj, _, _ => exact absurd (List.getElem?_eq_some_iff.1 hj).1 (by simp)
                case hop =>
                  refine allAt ⟨?_, ?_, ?_, ?_, ?_, ?_, ?_, ?_, ?_, ?_, ?_, ?_, ?_, ?_, ?_, ?_, ?_, ?_, ?_, ?_, trivial⟩
                  · intro vs w9 hK hd
                    refine plain_op rfl ?_
                    unfold runOp
                    simp [go_sem, look, writer, List.findIdx?, List.findIdx?.go, depsOf, Region.binds]
                    exact Ext.refl _
                  · intro vs w9 hK hd
                    have h0 : vs 0 = .pointer (some ⟨fb, 2, none⟩) := hd 0 _ rfl (by decide)
                    refine plain_op rfl ?_
                    unfold runOp
                    simp [go_sem, look, writer, List.findIdx?, List.findIdx?.go, depsOf, Region.binds, h0]
                    exact Ext.refl _
                  · intro vs w9 hK hd
                    have h1 : vs 1 = .pointer (some ⟨fb, 3, none⟩) := hd 1 _ rfl (by decide)
                    have kc := (hR3.f.keeps (TS := []) hK (.inr (by simp))).cell 3
                    simp at kc
                    refine plain_op rfl ?_
                    unfold runOp
                    simp [go_sem, look, writer, List.findIdx?, List.findIdx?.go, depsOf, Region.binds, h1, kc]
                    exact Ext.refl _
                  · intro vs w9 hK hd
                    refine plain_op rfl ?_
                    unfold runOp
                    simp [go_sem, look, writer, List.findIdx?, List.findIdx?.go, depsOf, Region.binds]
                    exact Ext.refl _
                  · intro vs w9 hK hd
                    have h3 : vs 3 = .pointer (some ⟨t13, 0, none⟩) := hd 3 _ rfl (by decide)
                    have kc := (hT3.keeps (TS := []) hK (.inr (by simp))).cell 0
                    simp [← Hzi.out] at kc
                    refine plain_op rfl ?_
                    unfold runOp
                    simp [go_sem, look, writer, List.findIdx?, List.findIdx?.go, depsOf, Region.binds, h3, kc]
                    exact Ext.refl _
                  · intro vs w9 hK hd
                    have h4 : vs 4 = .int .u8 zi := hd 4 _ rfl (by decide)
                    have hw : IntKind.i64.wrap zi = zi := IntWalk.i64_in _ (by omega)
                    refine plain_op rfl ?_
                    unfold runOp
                    simp [go_sem, look, writer, List.findIdx?, List.findIdx?.go, depsOf, Region.binds, h4, hw]
                    exact Ext.refl _
                  · intro vs w9 hK hd
                    have h5 : vs 5 = I zi := hd 5 _ rfl (by decide)
                    have hz := hK.size
                    refine plain_op rfl ?_
                    unfold runOp
                    simp [go_sem, look, writer, List.findIdx?, List.findIdx?.go, depsOf, Region.binds, h5]
                    exact ⟨(Ext.refl _).alloc _, hz, RowAt.new _ _ _⟩
                  · intro vs w9 hK hd
                    have h2 : vs 2 = sv := hd 2 _ rfl (by decide)
                    obtain ⟨b, h6, hb6, hr6⟩ : ∃ b, vs 6 = .slice (some ⟨b, 0, none⟩) 1 1 ∧ w'.heap.size ≤ b ∧ RowAt w9 b #[I zi] 3 := hd 6 _ rfl (by decide)
                    have hownw := ownsRow_keepsC hO3.slots (n0 := w.heap.size) (TS := []) (.of_keeps hK) (by simp)
                    have hz := hK.size
                    have hm' := hR3.m.keeps (TS := []) hK (.inr (by simp))
                    have ha' := hR3.ring.2.2.keeps (TS := []) hK (.inr (by simp))
                    refine plain_op rfl ?_
                    refine runOp_append w.heap.size 3 (.int .i64 0) 1 8 _ _ 31 rfl Try.underlying31 info3 rfl (by decide) (by decide) sv D.slots.length (D.slots.map I) ?_ hownw (some ⟨b, 0, none⟩) 1 1 [I zi] ?_ rfl hr6.src ?_ (by omega) (by omega) ?_
                    · simp [look, writer, List.findIdx?, List.findIdx?.go, depsOf, Region.binds, h2]
                    · simp [look, writer, List.findIdx?, List.findIdx?.go, depsOf, Region.binds, h6]
                    · intro u hu
                      simp at hu
                      rcases hu with rfl
                      rfl
                    · intro v' w'' h1 h2 h3
                      refine ⟨h2, ?_, ?_, h1, hm'.grownO h2 (fun e => (hsw _ e).1 rfl), ha'.grownO h2 (fun e => (hsw _ e).2 rfl)⟩
                      · intro g hg
                        rcases h3 with h3 | h3
                        · rw [h3] at hg
                          exact .inl hg
                        · rw [h3] at hg
                          cases hg
                          exact .inr hz
                      · obtain ⟨_, ⟨_, h4⟩ | ⟨g, cap, _, h4, _⟩⟩ := h1
                        · omega
                        · exact ⟨g, _, cap, h4⟩
                  · intro vs w9 hK hd
                    refine plain_op rfl ?_
                    unfold runOp
                    simp [go_sem, look, writer, List.findIdx?, List.findIdx?.go, depsOf, Region.binds]
                    exact Ext.refl _
                  · intro vs w9 hK hd
                    have h8 : vs 8 = .pointer (some ⟨fb, 2, none⟩) := hd 8 _ rfl (by decide)
                    refine plain_op rfl ?_
                    unfold runOp
                    simp [go_sem, look, writer, List.findIdx?, List.findIdx?.go, depsOf, Region.binds, h8]
                    exact Ext.refl _
                  · intro vs w9 hK hd
                    have h9 : vs 9 = .pointer (some ⟨fb, 4, none⟩) := hd 9 _ rfl (by decide)
                    have kc := (hR3.f.keeps (TS := [3]) hK (.inr (by simp))).cell 4
                    simp at kc
                    refine plain_op rfl ?_
                    unfold runOp
                    simp [go_sem, look, writer, List.findIdx?, List.findIdx?.go, depsOf, Region.binds, h9, kc]
                    exact Ext.refl _
                  · intro vs w9 hK hd
                    refine plain_op rfl ?_
                    unfold runOp
                    simp [go_sem, look, writer, List.findIdx?, List.findIdx?.go, depsOf, Region.binds]
                    exact Ext.refl _
                  · intro vs w9 hK hd
                    have h11 : vs 11 = x.v := hd 11 _ rfl (by decide)
                    have hz := hK.size
                    refine plain_op rfl ?_
                    unfold runOp
                    simp [go_sem, look, writer, List.findIdx?, List.findIdx?.go, depsOf, Region.binds, h11]
                    exact ⟨(Ext.refl _).alloc _, hz, RowAt.new _ _ _⟩
                  · intro vs w9 hK hd
                    have h10 : vs 10 = lv := hd 10 _ rfl (by decide)
                    obtain ⟨b, h12, hb12, hr12⟩ : ∃ b, vs 12 = .slice (some ⟨b, 0, none⟩) 1 1 ∧ w'.heap.size ≤ b ∧ RowAt w9 b #[x.v] 32 := hd 12 _ rfl (by decide)
                    have hownw := ownsRow_keepsC hO3.blocks (n0 := w.heap.size) (TS := [3]) (.of_keeps hK) (by simp)
                    have hz := hK.size
                    refine plain_op rfl ?_
                    refine runOp_append w.heap.size 32 (.slice none 0 0) 1 24 _ _ 25 rfl Try.underlying25 info32 rfl (by decide) (by decide) lv D.blocks.length (xs.map RX.v) ?_ hownw (some ⟨b, 0, none⟩) 1 1 [x.v] ?_ rfl hr12.src ?_ (by omega) (by omega) ?_
                    · simp [look, writer, List.findIdx?, List.findIdx?.go, depsOf, Region.binds, h10]
                    · simp [look, writer, List.findIdx?, List.findIdx?.go, depsOf, Region.binds, h12]
                    · intro u hu
                      simp at hu
                      rcases hu with rfl
                      rfl
                    · intro v' w'' h1 h2 h3
                      refine ⟨h2, ?_, ?_, h1⟩
                      · intro g hg
                        rcases h3 with h3 | h3
                        · rw [h3] at hg
                          exact .inl hg
                        · rw [h3] at hg
                          cases hg
                          exact .inr hz
                      · obtain ⟨_, ⟨_, h4⟩ | ⟨g, cap, _, h4, _⟩⟩ := h1
                        · omega
                        · exact ⟨g, _, cap, h4⟩
                  · intro vs w9 hK hd
                    refine plain_op rfl ?_
                    unfold runOp
                    simp [go_sem, look, writer, List.findIdx?, List.findIdx?.go, depsOf, Region.binds]
                    exact Ext.refl _
                  · intro vs w9 hK hd
                    have h14 : vs 14 = .pointer (some ⟨fb, 2, none⟩) := hd 14 _ rfl (by decide)
                    refine plain_op rfl ?_
                    unfold runOp
                    simp [go_sem, look, writer, List.findIdx?, List.findIdx?.go, depsOf, Region.binds, h14]
                    exact Ext.refl _
                  · intro vs w9 hK hd
                    have h15 : vs 15 = .pointer (some ⟨fb, 3, none⟩) := hd 15 _ rfl (by decide)
                    obtain ⟨_, ⟨g, n7, cap, h7⟩, _⟩ := hd 7 _ rfl (by decide)
                    have kn := hR3.f.keeps (TS := [3, 32]) hK (.inr (by simp))
                    have kc := kn.cell 3
                    have kf := kn.free 3
                    simp at kc
                    have kset := kn.set 3 (vs 7)
                    simp at kset
                    refine plain_op rfl ?_
                    unfold runOp
                    simp [go_sem, look, writer, List.findIdx?, List.findIdx?.go, depsOf, Region.binds, h15, h7, kc, kf, mask]
                    exact ⟨⟨_, rfl⟩, lv, by rw [hrowN]; rw [h7] at kset; exact kset⟩
                  · intro vs w9 hK hd
                    refine plain_op rfl ?_
                    unfold runOp
                    simp [go_sem, look, writer, List.findIdx?, List.findIdx?.go, depsOf, Region.binds]
                    exact Ext.refl _
                  · intro vs w9 hK hd
                    have h17 : vs 17 = .pointer (some ⟨fb, 2, none⟩) := hd 17 _ rfl (by decide)
                    refine plain_op rfl ?_
                    unfold runOp
                    simp [go_sem, look, writer, List.findIdx?, List.findIdx?.go, depsOf, Region.binds, h17]
                    exact Ext.refl _
                  · intro vs w9 hK hd
                    have h18 : vs 18 = .pointer (some ⟨fb, 4, none⟩) := hd 18 _ rfl (by decide)
                    obtain ⟨_, ⟨g, n13, cap, h13⟩, _⟩ := hd 13 _ rfl (by decide)
                    obtain ⟨u, h16⟩ : ∃ u, RowAt w9 fb (rowN (vs 7) u) 36 := hd 16 _ rfl (by decide)
                    rw [hrowN] at h16
                    have kc := h16.cell 4
                    have kf := h16.free 4
                    simp at kc
                    have kset := h16.set 4 (vs 13)
                    simp at kset
                    refine plain_op rfl ?_
                    unfold runOp
                    simp [go_sem, look, writer, List.findIdx?, List.findIdx?.go, depsOf, Region.binds, h18, h13, kc, kf, mask]
                    exact ⟨⟨_, rfl⟩, by rw [hrowN]; rw [h13] at kset; exact kset⟩
                case fin =>
                  intro vs w9 A' _ _ hA hKf hf
                  subst hA
                  simp only [fill, Act.put, List.setIfInBounds_toArray, List.set_cons_zero, List.set_cons_succ]
                  obtain ⟨f1, f2, f3, f4, f5⟩ := hf 7 _ rfl
                  obtain ⟨e1, e2, e3⟩ := hf 13 _ rfl
                  have h19 : RowAt w9 fb (rowN (vs 7) (vs 13)) 36 := hf 19 _ rfl
                  rw [hrowN] at h19
                  have hRf : RdS w w9 c d at_ (.slice A d.blocks.length c1) (.slice A' d.wait.length c') fb mb eb nb cb db ab #[U32 (noteAt c d at_).age, U32 (noteAt c d at_).seq, I (noteAt c d at_).stripe, vs 7, vs 13, pv] _ 0 0 :=
                    ⟨hKf.below hR3.ext, hR3.h.keeps hKf (.inr (by simp)), h19, f4, hR3.e.keeps hKf (.inr (by simp)), hR3.n.keeps hKf (.inr (by simp)), ⟨hR3.ring.1.keeps hKf (.inr (by simp)), hR3.ring.2.1.keeps hKf (.inr (by simp)), f5⟩, hR3.lo⟩
                  gi_wp2
                  refine ⟨hK3.trans (hKf.more (by simp)), DI.slot (x := x) (W := w') Hgood.out Hidd.out (by rw [← HM.out]; exact Hq.out) Hto.out Hr.out (by rw [Hrg.out, HG.out]; rfl) (slotNe Hzi.out Hsl.out) Hk.out hRf (by rw [HDD.out]; exact hO3) (hKf.more (by simp)) ?_ ?_ hrv3 Hin.out Hpa.out ?_ hown3⟩
                  · rw [HDD.out, ← Hzi.out]
                    exact f3
                  · rw [HDD.out]
                    exact e3
                  · intro g hg
                    rcases f1 g hg with h | h
                    · exact hsw g h
                    · exact ⟨by omega, by omega⟩
            · gi_upto_region 19 with fail
              obtain ⟨W3, hW3⟩ : ∃ W3, W3 = w'.setCell ⟨x.g, 0, none⟩ (.int .u8 78) := ⟨_, rfl⟩
              have ho3 : Only [x.g] w' W3 := by rw [hW3]; exact Only.set _ _ _ _
              have hown3 : W3.ownsRow w.heap.size 5 1 x.v 128 ((recBlock r (ringB c d at_ (k + 1))).map B) := by
                unfold recBlock
                rw [if_pos Hbare.out.symm, hW3]
                exact hset 78
              rw [← hW3]
              have hR3 := hR2.other ho3 hgr (by decide) hgb
              have hO3 := hO2.byte hgr ho3 (fun y hy => Hne.out y (Hin.out y hy)) (fun y hy => Hne.out y (Hpa.out y hy))
              have hrv3 := own_only hrv2 ho3 (own_type hrv2 hgr (by decide))
              have hT3 := ho3.row hT2 (by simp; exact hT2.ne hgr (by decide))
              have hK3 : Keeps w.heap.size [36, 3, 37, 83, 5, 32] W W3 := (Keeps.of_ext (Ext.trans hE1 hE2)).trans (ho3.keeps (by simp; exact ⟨hgb, _, _, hgr, by decide⟩))
              clear hW3 ho3 hset hgr hgb p0' p1' hown2 hR2 hO2 hrv2 hT2 hT T0'
              have w0 := (hT3.cell 0)
              simp at w0
              have hsb := own_block hO3.slots
              by_cases hsl : (r.slot.toNat : Int) = 255
              · have hrow := hR3.f
                have q5 := hR3.f.cell 5
                have q5' := hR3.f.free 5
                simp at q5
                have Hsl := Lib.hid hsl
                have hsl2 : (Value.int .u8 (r.slot.toNat : Int)) = .int .u8 255 := by rw [hsl]
                rw [hsl2] at w0
                clear hsl hsl2
                gi_wp2
                obtain ⟨hKp, hDp⟩ := DI.par (x := x) Hgood.out Hidd.out (by rw [← HM.out]; exact Hq.out) Hto.out Hr.out (by rw [Hrg.out, HG.out]; rfl) (slot255 Hsl.out) Hk.out hR3 hO3 hrv3 Hin.out Hsv.out hown3
                exact ⟨hK3.trans (hKp.more (by simp)), hDp⟩
              · have Hsl := Lib.hid hsl
                gi_upto_region 21 with fail
                obtain ⟨hfs, hfl⟩ := dealTo_few (noteAt c d at_).stripe (noteAt c d at_).recs (ringB c d at_) k
                have hsw := Hsv.out
                obtain ⟨zi, hzi⟩ : ∃ zi : Int, zi = (r.slot.toNat : Int) := ⟨_, rfl⟩
                have hzb : 0 ≤ zi ∧ zi < 256 := zi_bounds hzi
                generalize hDD : dealTo (noteAt c d at_).stripe (noteAt c d at_).recs (ringB c d at_) k = D at hO3 hR3 hfs hfl hsw
                obtain ⟨sv, hsv0⟩ : ∃ v, v = Value.slice sA D.slots.length sc := ⟨_, rfl⟩
                obtain ⟨lv, hlv0⟩ : ∃ v, v = Value.slice lA D.blocks.length lc := ⟨_, rfl⟩
                rw [← hsv0] at hR3 hO3 hsw
                rw [← hlv0] at hR3 hO3
                rw [← hzi] at w0
                have Hzi := Lib.hid hzi
                have HDD := Lib.hid hDD
                have hkk := kbound Hxl.out Hxk.out Hl.out
                clear hsv0 hlv0 hzi hDD hsb hsl
                have hsb := own_block hO3.slots
                have hlb := own_block hO3.blocks
                have hlo3 := hR3.lo
                have hwz := hR3.ext.size
                have hfz := hR3.f.lt
                have hmz := hR3.m.lt
                have haz := hR3.ring.2.2.lt
                have hsf : ∀ g, sv.ownBlock = some g → g < W3.heap.size ∧ g ≠ fb ∧ lv.ownBlock ≠ some g := fun g hg => by
                  obtain ⟨_, cur, h⟩ := hsb g hg
                  refine ⟨h.lt, h.ne hR3.f (by decide), fun e => ?_⟩
                  obtain ⟨_, cur', h'⟩ := hlb g e
                  exact h.ne h' (by decide) rfl
                have hlf : ∀ g, lv.ownBlock = some g → g < W3.heap.size ∧ g ≠ fb ∧ g ≠ mb ∧ g ≠ ab := fun g hg => by
                  obtain ⟨_, cur, h⟩ := hlb g hg
                  exact ⟨h.lt, h.ne hR3.f (by decide), h.ne hR3.m (by decide), h.ne hR3.ring.2.2 (by decide)⟩
                have hfm : fb ≠ mb := hR3.f.ne hR3.m (by decide)
                have hfa : fb ≠ ab := hR3.f.ne hR3.ring.2.2 (by decide)
                obtain ⟨rowN, hrowN⟩ : ∃ f : Value → Value → Array Value, f = fun a b => #[U32 (noteAt c d at_).age, U32 (noteAt c d at_).seq, I (noteAt c d at_).stripe, a, b, pv] := ⟨_, rfl⟩
                refine wpIn_ssaK_round (by kernel_rfl) rfl w.heap.size (fun k => match k with | 7 => [3] | 13 => [32] | 16 => [36] | 19 => [36] | _ => [])
                  (fun k => match k with | 0 => [] | 1 => [] | 2 => [] | 3 => [] | 4 => [] | 5 => [] | 6 => [] | 7 => [] | 8 => [3] | 9 => [3] | 10 => [3] | 11 => [3] | 12 => [3] | 13 => [3] | 14 => [3, 32] | 15 => [3, 32] | 16 => [3, 32] | _ => [3, 32, 36]) [3, 32, 36] (by kernel_rfl)
                  (R21 sv.ownBlock lv.ownBlock fb)
                  (fun i ds v w' => match i with
                  | 0 => v = .pointer (some ⟨fb, 2, none⟩)
                  | 1 => v = .pointer (some ⟨fb, 3, none⟩)
                  | 2 => v = sv
                  | 3 => v = .pointer (some ⟨t13, 0, none⟩)
                  | 4 => v = .int .u8 zi
                  | 5 => v = I zi
                  | 6 => ∃ b, v = .slice (some ⟨b, 0, none⟩) 1 1 ∧ W3.heap.size ≤ b ∧ RowAt w' b #[I zi] 3
                  | 7 => (∀ g, v.ownBlock = some g → sv.ownBlock = some g ∨ W3.heap.size ≤ g) ∧ (∃ g n cap, v = .slice (some ⟨g, 0, none⟩) n cap) ∧ w'.ownsRow w.heap.size 3 1 v (D.slots.length + 1) (D.slots.map I ++ [I zi]) ∧ RowAt w' mb #[I 0] 3 ∧ RowAt w' ab #[I at_] 3
                  | 8 => v = .pointer (some ⟨fb, 2, none⟩)
                  | 9 => v = .pointer (some ⟨fb, 4, none⟩)
                  | 10 => v = lv
                  | 11 => v = x.v
                  | 12 => ∃ b, v = .slice (some ⟨b, 0, none⟩) 1 1 ∧ W3.heap.size ≤ b ∧ RowAt w' b #[x.v] 32
                  | 13 => (∀ g, v.ownBlock = some g → lv.ownBlock = some g ∨ W3.heap.size ≤ g) ∧ (∃ g n cap, v = .slice (some ⟨g, 0, none⟩) n cap) ∧ w'.ownsRow w.heap.size 32 1 v (D.blocks.length + 1) (xs.map RX.v ++ [x.v])
                  | 14 => v = .pointer (some ⟨fb, 2, none⟩)
                  | 15 => v = .pointer (some ⟨fb, 3, none⟩)
                  | 16 => ∃ u, RowAt w' fb (rowN (ds 7) u) 36
                  | 17 => v = .pointer (some ⟨fb, 2, none⟩)
                  | 18 => v = .pointer (some ⟨fb, 4, none⟩)
                  | _ => RowAt w' fb (rowN (ds 7) (ds 13)) 36) ?hR ?hst ?hop ?fin
                case hR =>
                  intro k' hk' TS A' C' ht hK hr
                  obtain ⟨o, ho, h⟩ := hr.out
                  refine hK.grownO ho ?_
                  rcases h with rfl | ⟨rfl, rfl⟩ | ⟨rfl, rfl⟩ | ⟨rfl, hh⟩
                  · intro g e
                    cases e
                  · intro g e
                    obtain ⟨h1, cur, h2⟩ := hsb g e
                    exact ⟨h1, .inr ⟨_, _, _, h2, ht 3 (by simp)⟩⟩
                  · intro g e
                    obtain ⟨h1, cur, h2⟩ := hlb g e
                    exact ⟨h1, .inr ⟨_, _, _, h2, ht 32 (by simp)⟩⟩
                  · intro g e
                    cases e
                    refine ⟨hlo3.1, .inr ⟨_, _, _, hR3.f, ?_⟩⟩
                    rcases hh with rfl | rfl
                    · exact ht 36 (by simp)
                    · exact ht 36 (by simp)
                case hst =>
                  intro j p hj k' o ho hne hb vs v A' C' hK hr hΦ
                  obtain ⟨o', ho', h⟩ := hr.out
                  match j, hj, hne, hΦ with
                  | 0, hj, hne, hΦ => exact hΦ
                  | 1, hj, hne, hΦ => exact hΦ
                  | 2, hj, hne, hΦ => exact hΦ
                  | 3, hj, hne, hΦ => exact hΦ
                  | 4, hj, hne, hΦ => exact hΦ
                  | 5, hj, hne, hΦ => exact hΦ
                  | 6, hj, hne, hΦ =>
                    obtain ⟨b, h1, h2, h3⟩ := hΦ
                    refine ⟨b, h1, h2, h3.grownO ho' ?_⟩
                    rcases h with rfl | ⟨rfl, _⟩ | ⟨rfl, _⟩ | ⟨rfl, _⟩
                    · simp
                    · exact fun e => by have := (hsf _ e).1; omega
                    · exact fun e => by have := (hlf _ e).1; omega
                    · exact fun e => by cases e; omega
                  | 7, hj, hne, hΦ =>
                    obtain ⟨h1, h2, h3, h4, h5⟩ := hΦ
                    refine ⟨h1, h2, own_grown h3 ho' ?_, h4.grownO ho' ?_, h5.grownO ho' ?_⟩
                    · rcases h with rfl | ⟨rfl, h7⟩ | ⟨rfl, _⟩ | ⟨rfl, _⟩
                      · simp
                      · exact absurd h7 hne
                      · intro g hg e
                        rcases h1 g hg with h1 | h1
                        · exact (hsf g h1).2.2 e
                        · have := (hlf g e).1
                          omega
                      · intro g hg e
                        cases e
                        rcases h1 fb hg with h1 | h1
                        · exact (hsf fb h1).2.1 rfl
                        · omega
                    · rcases h with rfl | ⟨rfl, _⟩ | ⟨rfl, _⟩ | ⟨rfl, _⟩
                      · simp
                      · exact fun e => (hsw _ e).1 rfl
                      · exact fun e => (hlf _ e).2.2.1 rfl
                      · exact fun e => hfm (Option.some.inj e)
                    · rcases h with rfl | ⟨rfl, _⟩ | ⟨rfl, _⟩ | ⟨rfl, _⟩
                      · simp
                      · exact fun e => (hsw _ e).2 rfl
                      · exact fun e => (hlf _ e).2.2.2 rfl
                      · exact fun e => hfa (Option.some.inj e)
                  | 8, hj, hne, hΦ => exact hΦ
                  | 9, hj, hne, hΦ => exact hΦ
                  | 10, hj, hne, hΦ => exact hΦ
                  | 11, hj, hne, hΦ => exact hΦ
                  | 12, hj, hne, hΦ =>
                    obtain ⟨b, h1, h2, h3⟩ := hΦ
                    refine ⟨b, h1, h2, h3.grownO ho' ?_⟩
                    rcases h with rfl | ⟨rfl, _⟩ | ⟨rfl, _⟩ | ⟨rfl, _⟩
                    · simp
                    · exact fun e => by have := (hsf _ e).1; omega
                    · exact fun e => by have := (hlf _ e).1; omega
                    · exact fun e => by cases e; omega
                  | 13, hj, hne, hΦ =>
                    obtain ⟨h1, h2, h3⟩ := hΦ
                    refine ⟨h1, h2, own_grown h3 ho' ?_⟩
                    rcases h with rfl | ⟨rfl, _⟩ | ⟨rfl, h13⟩ | ⟨rfl, _⟩
                    · simp
                    · intro g hg e
                      rcases h1 g hg with h1 | h1
                      · exact (hsf g e).2.2 h1
                      · have := (hsf g e).1
                        omega
                    · exact absurd h13 hne
                    · intro g hg e
                      cases e
                      rcases h1 fb hg with h1 | h1
                      · exact (hlf fb h1).2.1 rfl
                      · omega
                  | 14, hj, hne, hΦ => exact hΦ
                  | 15, hj, hne, hΦ => exact hΦ
                  | 16, hj, hne, hΦ =>
                    obtain ⟨u, h1⟩ := hΦ
                    rcases h with rfl | ⟨rfl, _⟩ | ⟨rfl, _⟩ | ⟨_, rfl | rfl⟩
                    · exact ⟨u, h1.grownO ho' (by simp)⟩
                    · exact ⟨u, h1.grownO ho' (fun e => (hsf _ e).2.1 rfl)⟩
                    · exact ⟨u, h1.grownO ho' (fun e => (hlf _ e).2.1 rfl)⟩
                    · exact absurd rfl hne
                    · obtain ⟨v', rfl⟩ := hr
                      have := h1.set 4 v'
                      rw [hrowN] at this ⊢
                      simp at this
                      exact ⟨v', this⟩
                  | 17, hj, hne, hΦ => exact hΦ
                  | 18, hj, hne, hΦ => exact hΦ
                  | 19, hj, hne, hΦ =>
                    have hΦ : RowAt A' fb (rowN (vs 7) (vs 13)) 36 := hΦ
                    show RowAt C' fb (rowN (vs 7) (vs 13)) 36
                    refine hΦ.grownO ho' ?_
                    rcases h with rfl | ⟨rfl, _⟩ | ⟨rfl, _⟩ | ⟨rfl, rfl | rfl⟩
                    · simp
                    · exact fun e => (hsf _ e).2.1 rfl
                    · exact fun e => (hlf _ e).2.1 rfl
                    · cases hj
                      cases hb
                    · exact absurd rfl hne
                  | n + 20, hj, _, _ => exact absurd (List.getElem?_eq_some_iff.1 hj).1 (by simp)
                case hop =>
                  refine allAt ⟨?_, ?_, ?_, ?_, ?_, ?_, ?_, ?_, ?_, ?_, ?_, ?_, ?_, ?_, ?_, ?_, ?_, ?_, ?_, ?_, trivial⟩
                  · intro vs w' hK hd
                    refine plain_op rfl ?_
                    unfold runOp
                    simp [go_sem, look, writer, List.findIdx?, List.findIdx?.go, depsOf, Region.binds]
                    exact Ext.refl _
                  · intro vs w' hK hd
                    have h0 : vs 0 = .pointer (some ⟨fb, 2, none⟩) := hd 0 _ rfl (by decide)
                    refine plain_op rfl ?_
                    unfold runOp
                    simp [go_sem, look, writer, List.findIdx?, List.findIdx?.go, depsOf, Region.binds, h0]
                    exact Ext.refl _
                  · intro vs w' hK hd
                    have h1 : vs 1 = .pointer (some ⟨fb, 3, none⟩) := hd 1 _ rfl (by decide)
                    have kc := (hR3.f.keeps (TS := []) hK (.inr (by simp))).cell 3
                    simp at kc
                    refine plain_op rfl ?_
                    unfold runOp
                    simp [go_sem, look, writer, List.findIdx?, List.findIdx?.go, depsOf, Region.binds, h1, kc]
                    exact Ext.refl _
                  · intro vs w' hK hd
                    refine plain_op rfl ?_
                    unfold runOp
                    simp [go_sem, look, writer, List.findIdx?, List.findIdx?.go, depsOf, Region.binds]
                    exact Ext.refl _
                  · intro vs w' hK hd
                    have h3 : vs 3 = .pointer (some ⟨t13, 0, none⟩) := hd 3 _ rfl (by decide)
                    have kc := (hT3.keeps (TS := []) hK (.inr (by simp))).cell 0
                    simp [← Hzi.out] at kc
                    refine plain_op rfl ?_
                    unfold runOp
                    simp [go_sem, look, writer, List.findIdx?, List.findIdx?.go, depsOf, Region.binds, h3, kc]
                    exact Ext.refl _
                  · intro vs w' hK hd
                    have h4 : vs 4 = .int .u8 zi := hd 4 _ rfl (by decide)
                    have hw : IntKind.i64.wrap zi = zi := IntWalk.i64_in _ (by omega)
                    refine plain_op rfl ?_
                    unfold runOp
                    simp [go_sem, look, writer, List.findIdx?, List.findIdx?.go, depsOf, Region.binds, h4, hw]
                    exact Ext.refl _
                  · intro vs w' hK hd
                    have h5 : vs 5 = I zi := hd 5 _ rfl (by decide)
                    have hz := hK.size
                    refine plain_op rfl ?_
                    unfold runOp
                    simp [go_sem, look, writer, List.findIdx?, List.findIdx?.go, depsOf, Region.binds, h5]
                    exact ⟨(Ext.refl _).alloc _, hz, RowAt.new _ _ _⟩
                  · intro vs w' hK hd
                    have h2 : vs 2 = sv := hd 2 _ rfl (by decide)
                    obtain ⟨b, h6, hb6, hr6⟩ : ∃ b, vs 6 = .slice (some ⟨b, 0, none⟩) 1 1 ∧ W3.heap.size ≤ b ∧ RowAt w' b #[I zi] 3 := hd 6 _ rfl (by decide)
                    have hownw := ownsRow_keepsC hO3.slots (n0 := w.heap.size) (TS := []) (.of_keeps hK) (by simp)
                    have hz := hK.size
                    have hm' := hR3.m.keeps (TS := []) hK (.inr (by simp))
                    have ha' := hR3.ring.2.2.keeps (TS := []) hK (.inr (by simp))
                    refine plain_op rfl ?_
                    refine runOp_append w.heap.size 3 (.int .i64 0) 1 8 _ _ 31 rfl Try.underlying31 info3 rfl (by decide) (by decide) sv D.slots.length (D.slots.map I) ?_ hownw (some ⟨b, 0, none⟩) 1 1 [I zi] ?_ rfl hr6.src ?_ (by omega) (by omega) ?_
                    · simp [look, writer, List.findIdx?, List.findIdx?.go, depsOf, Region.binds, h2]
                    · simp [look, writer, List.findIdx?, List.findIdx?.go, depsOf, Region.binds, h6]
                    · intro u hu
                      simp at hu
                      rcases hu with rfl
                      rfl
                    · intro v' w'' h1 h2 h3
                      refine ⟨h2, ?_, ?_, h1, hm'.grownO h2 (fun e => (hsw _ e).1 rfl), ha'.grownO h2 (fun e => (hsw _ e).2 rfl)⟩
                      · intro g hg
                        rcases h3 with h3 | h3
                        · rw [h3] at hg
                          exact .inl hg
                        · rw [h3] at hg
                          cases hg
                          exact .inr hz
                      · obtain ⟨_, ⟨_, h4⟩ | ⟨g, cap, _, h4, _⟩⟩ := h1
                        · omega
                        · exact ⟨g, _, cap, h4⟩
                  · intro vs w' hK hd
                    refine plain_op rfl ?_
                    unfold runOp
                    simp [go_sem, look, writer, List.findIdx?, List.findIdx?.go, depsOf, Region.binds]
                    exact Ext.refl _
                  · intro vs w' hK hd
                    have h8 : vs 8 = .pointer (some ⟨fb, 2, none⟩) := hd 8 _ rfl (by decide)
                    refine plain_op rfl ?_
                    unfold runOp
                    simp [go_sem, look, writer, List.findIdx?, List.findIdx?.go, depsOf, Region.binds, h8]
                    exact Ext.refl _
                  · intro vs w' hK hd
                    have h9 : vs 9 = .pointer (some ⟨fb, 4, none⟩) := hd 9 _ rfl (by decide)
                    have kc := (hR3.f.keeps (TS := [3]) hK (.inr (by simp))).cell 4
                    simp at kc
                    refine plain_op rfl ?_
                    unfold runOp
                    simp [go_sem, look, writer, List.findIdx?, List.findIdx?.go, depsOf, Region.binds, h9, kc]
                    exact Ext.refl _
                  · intro vs w' hK hd
                    refine plain_op rfl ?_
                    unfold runOp
                    simp [go_sem, look, writer, List.findIdx?, List.findIdx?.go, depsOf, Region.binds]
                    exact Ext.refl _
                  · intro vs w' hK hd
                    have h11 : vs 11 = x.v := hd 11 _ rfl (by decide)
                    have hz := hK.size
                    refine plain_op rfl ?_
                    unfold runOp
                    simp [go_sem, look, writer, List.findIdx?, List.findIdx?.go, depsOf, Region.binds, h11]
                    exact ⟨(Ext.refl _).alloc _, hz, RowAt.new _ _ _⟩
                  · intro vs w' hK hd
                    have h10 : vs 10 = lv := hd 10 _ rfl (by decide)
                    obtain ⟨b, h12, hb12, hr12⟩ : ∃ b, vs 12 = .slice (some ⟨b, 0, none⟩) 1 1 ∧ W3.heap.size ≤ b ∧ RowAt w' b #[x.v] 32 := hd 12 _ rfl (by decide)
                    have hownw := ownsRow_keepsC hO3.blocks (n0 := w.heap.size) (TS := [3]) (.of_keeps hK) (by simp)
                    have hz := hK.size
                    refine plain_op rfl ?_
                    refine runOp_append w.heap.size 32 (.slice none 0 0) 1 24 _ _ 25 rfl Try.underlying25 info32 rfl (by decide) (by decide) lv D.blocks.length (xs.map RX.v) ?_ hownw (some ⟨b, 0, none⟩) 1 1 [x.v] ?_ rfl hr12.src ?_ (by omega) (by omega) ?_
                    · simp [look, writer, List.findIdx?, List.findIdx?.go, depsOf, Region.binds, h10]
                    · simp [look, writer, List.findIdx?, List.findIdx?.go, depsOf, Region.binds, h12]
                    · intro u hu
                      simp at hu
                      rcases hu with rfl
                      rfl
                    · intro v' w'' h1 h2 h3
                      refine ⟨h2, ?_, ?_, h1⟩
                      · intro g hg
                        rcases h3 with h3 | h3
                        · rw [h3] at hg
                          exact .inl hg
                        · rw [h3] at hg
                          cases hg
                          exact .inr hz
                      · obtain ⟨_, ⟨_, h4⟩ | ⟨g, cap, _, h4, _⟩⟩ := h1
                        · omega
                        · exact ⟨g, _, cap, h4⟩
                  · intro vs w' hK hd
                    refine plain_op rfl ?_
                    unfold runOp
                    simp [go_sem, look, writer, List.findIdx?, List.findIdx?.go, depsOf, Region.binds]
                    exact Ext.refl _
                  · intro vs w' hK hd
                    have h14 : vs 14 = .pointer (some ⟨fb, 2, none⟩) := hd 14 _ rfl (by decide)
                    refine plain_op rfl ?_
                    unfold runOp
                    simp [go_sem, look, writer, List.findIdx?, List.findIdx?.go, depsOf, Region.binds, h14]
                    exact Ext.refl _
                  · intro vs w' hK hd
                    have h15 : vs 15 = .pointer (some ⟨fb, 3, none⟩) := hd 15 _ rfl (by decide)
                    obtain ⟨_, ⟨g, n7, cap, h7⟩, _⟩ := hd 7 _ rfl (by decide)
                    have kn := hR3.f.keeps (TS := [3, 32]) hK (.inr (by simp))
                    have kc := kn.cell 3
                    have kf := kn.free 3
                    simp at kc
                    have kset := kn.set 3 (vs 7)
                    simp at kset
                    refine plain_op rfl ?_
                    unfold runOp
                    simp [go_sem, look, writer, List.findIdx?, List.findIdx?.go, depsOf, Region.binds, h15, h7, kc, kf, mask]
                    exact ⟨⟨_, rfl⟩, lv, by rw [hrowN]; rw [h7] at kset; exact kset⟩
                  · intro vs w' hK hd
                    refine plain_op rfl ?_
                    unfold runOp
                    simp [go_sem, look, writer, List.findIdx?, List.findIdx?.go, depsOf, Region.binds]
                    exact Ext.refl _
                  · intro vs w' hK hd
                    have h17 : vs 17 = .pointer (some ⟨fb, 2, none⟩) := hd 17 _ rfl (by decide)
                    refine plain_op rfl ?_
                    unfold runOp
                    simp [go_sem, look, writer, List.findIdx?, List.findIdx?.go, depsOf, Region.binds, h17]
                    exact Ext.refl _
                  · intro vs w' hK hd
                    have h18 : vs 18 = .pointer (some ⟨fb, 4, none⟩) := hd 18 _ rfl (by decide)
                    obtain ⟨_, ⟨g, n13, cap, h13⟩, _⟩ := hd 13 _ rfl (by decide)
                    obtain ⟨u, h16⟩ : ∃ u, RowAt w' fb (rowN (vs 7) u) 36 := hd 16 _ rfl (by decide)
                    rw [hrowN] at h16
                    have kc := h16.cell 4
                    have kf := h16.free 4
                    simp at kc
                    have kset := h16.set 4 (vs 13)
                    simp at kset
                    refine plain_op rfl ?_
                    unfold runOp
                    simp [go_sem, look, writer, List.findIdx?, List.findIdx?.go, depsOf, Region.binds, h18, h13, kc, kf, mask]
                    exact ⟨⟨_, rfl⟩, by rw [hrowN]; rw [h13] at kset; exact kset⟩
                case fin =>
                  intro vs w' A' _ _ hA hKf hf
                  subst hA
                  simp only [fill, Act.put, List.setIfInBounds_toArray, List.set_cons_zero, List.set_cons_succ]
                  obtain ⟨f1, f2, f3, f4, f5⟩ := hf 7 _ rfl
                  obtain ⟨e1, e2, e3⟩ := hf 13 _ rfl
                  have h19 : RowAt w' fb (rowN (vs 7) (vs 13)) 36 := hf 19 _ rfl
                  rw [hrowN] at h19
                  have hRf : RdS w w' c d at_ (.slice A d.blocks.length c1) (.slice A' d.wait.length c') fb mb eb nb cb db ab #[U32 (noteAt c d at_).age, U32 (noteAt c d at_).seq, I (noteAt c d at_).stripe, vs 7, vs 13, pv] _ 0 0 :=
                    ⟨hKf.below hR3.ext, hR3.h.keeps hKf (.inr (by simp)), h19, f4, hR3.e.keeps hKf (.inr (by simp)), hR3.n.keeps hKf (.inr (by simp)), ⟨hR3.ring.1.keeps hKf (.inr (by simp)), hR3.ring.2.1.keeps hKf (.inr (by simp)), f5⟩, hR3.lo⟩
                  gi_wp2
                  refine ⟨hK3.trans (hKf.more (by simp)), DI.slot (x := x) (W := W3) Hgood.out Hidd.out (by rw [← HM.out]; exact Hq.out) Hto.out Hr.out (by rw [Hrg.out, HG.out]; rfl) (slotNe Hzi.out Hsl.out) Hk.out hRf (by rw [HDD.out]; exact hO3) (hKf.more (by simp)) ?_ ?_ hrv3 Hin.out Hpa.out ?_ hown3⟩
                  · rw [HDD.out, ← Hzi.out]
                    exact f3
                  · rw [HDD.out]
                    exact e3
                  · intro g hg
                    rcases f1 g hg with h | h
                    · exact hsw g h
                    · exact ⟨by omega, by omega⟩
          · rw [hG] at h20
            have HG := Lib.hid hG
            clear hG
            have q0 := hR2.f.cell 0
            have q1 := hR2.f.cell 1
            have q2 := hR2.f.cell 2
            have q3 := hR2.f.cell 3
            have q4 := hR2.f.cell 4
            have q5 := hR2.f.cell 5
            have q0' := hR2.f.free 0
            have q1' := hR2.f.free 1
            have q2' := hR2.f.free 2
            have q3' := hR2.f.free 3
            have q4' := hR2.f.free 4
            have q5' := hR2.f.free 5
            have e0 := hR2.e.cell 0
            have e0' := hR2.e.free 0
            have m0 := hR2.m.cell 0
            have m0' := hR2.m.free 0
            simp at q0 q1 q2 q3 q4 q5 e0 m0
            have x1 : fb ≠ eb := hR2.f.ne hR2.e (by decide)
            have x2 : fb ≠ mb := hR2.f.ne hR2.m (by decide)
            have x4 : eb ≠ mb := hR2.e.ne hR2.m (by decide)
            gi_wp2
            obtain ⟨W3, hW3, hR3, hK3⟩ := hR2.fin3 (.int .u32 0) (.int .u32 0) (.int .i64 0) (.slice none 0 0) (.slice none 0 0) (.slice none 0 0) 0 130
            rw [← hW3]
            refine ⟨(Keeps.of_ext (Ext.trans hE1 hE2)).trans (hK3.more (by simp)), .inl ⟨rfl, ?_, _, hR3⟩⟩
            rintro ⟨_, _, h3⟩
            have hno := goodTo_no (rs := (noteAt c d at_).recs) (bs := ringB c d at_) (k := k) (by rw [Hr.out, Hrg.out, HG.out]; rfl) (j := lastRec c d at_) (lt_last HM.out Hq.out (by rw [← Hxk.out]; exact Hxl.out))
            simp [standsTo, hno] at h3
      · have hkm : k = m := by have := HM.out; omega
        clear hq
        subst hkm
        have Hle := Lib.hid hle
        clear hle
        gi_wp2
        have hD : DI1 w c d at_ (.slice A d.blocks.length c1) (.slice A' d.wait.length c') fb mb eb nb cb db ab pre k W := ⟨Hgood.out, Hidd.out, Hle.out, Hto.out, _, _, _, _, _, _, hR, hO, hrv, Hin.out, Hpa.out, Hsv.out⟩
        have hkr := HM.out
        refine ⟨Keeps.refl _ _ _, .inr ⟨rfl, pre, by rw [hkr] at hD; exact hD, ?_⟩⟩
        have h1 := Hxl.out
        have h2 := Hxk.out
        omega
  case hdone =>
    rintro ys W hys hI hK
    obtain ⟨kk, hkk0⟩ : ∃ kk, ys.length = kk + 1 := ⟨ys.length - 1, by have := Hl.out; omega⟩
    unfold DI at hI
    rw [hkk0] at hI
    have hD : DI1 w c d at_ (.slice A d.blocks.length c1) (.slice A' d.wait.length c') fb mb eb nb cb db ab ys kk W := hI
    have hkk : kk = lastRec c d at_ := by
      have h1 := hD.le
      unfold lastRec
      omega
    clear hI hys hkk0 hm hd hlen hat hdead hl hbl
    have hl5 := hR5.ext.size
    obtain ⟨hgood, hid, hle, hto, sv, lv, pv, rv, xs, pa, hR, hO, hrv, hin, hpa, hsv⟩ := hD
    obtain ⟨hd1, hd2, hd3⟩ := dealTo_len (noteAt c d at_).stripe (noteAt c d at_).recs (ringB c d at_) Hbl.out kk
    have hDA := hO.at hd1 hd2
    obtain ⟨sA, sc, rfl⟩ := own_slice hO.slots
    obtain ⟨lA, lc, rfl⟩ := own_slice hO.blocks
    obtain ⟨rA, rc, rfl⟩ := own_slice hrv
    obtain ⟨pA, pc, rfl, _, _, _⟩ := hDA.2.2
    have hchk := deal_Check c _ _ _ _ W hDA
    simp only [DealD.v, hd3] at hchk
    generalize hDD : dealTo (noteAt c d at_).stripe (noteAt c d at_).recs (ringB c d at_) kk = D at hO hDA hd1 hd2 hd3 hchk hR hsv
    have HDD := Lib.hid hDD
    have Hchk := Lib.hid hchk
    have k0 := hR.h.cell 0
    have k1 := hR.h.cell 1
    have k2 := hR.h.cell 2
    have k3 := hR.h.cell 3
    have k4 := hR.h.cell 4
    have k5 := hR.h.cell 5
    have q2 := hR.f.cell 2
    have q3 := hR.f.cell 3
    have q4 := hR.f.cell 4
    have q5 := hR.f.cell 5
    simp at k0 k1 k2 k3 k4 k5 q2 q3 q4 q5
    have Hgood := Lib.hid hgood
    have Hsv := Lib.hid hsv
    have Hidd := Lib.hid hid
    have Hto := Lib.hid hto
    have Hkk := Lib.hid hkk
    clear hgood hid hle hto hin hpa hsv hDD hchk hd1 hd2 hd3 hDA hkk
    go_wp2_with fail
    refine Hchk.out.mono ?_
    rintro e W6 ⟨rfl, hE6⟩
    have hR6 := hR.keepsC (.of_ext (n0 := w.heap.size) (TS := []) hE6) (Nat.le_refl _) (by simp)
    have hO6 := hO.keepsC (.of_ext (n0 := w.heap.size) (TS := []) hE6) (by simp)
    have hK6 := (hE6.block _ (lt_of_block hK)).trans hK
    have n4 := hR6.n.cell 4
    have q0 := hR6.f.cell 0
    have q1 := hR6.f.cell 1
    have q2 := hR6.f.cell 2
    have q3 := hR6.f.cell 3
    have q4 := hR6.f.cell 4
    have q5 := hR6.f.cell 5
    have q0' := hR6.f.free 0
    have q1' := hR6.f.free 1
    have q2' := hR6.f.free 2
    have q3' := hR6.f.free 3
    have q4' := hR6.f.free 4
    have q5' := hR6.f.free 5
    have e0 := hR6.e.cell 0
    have e0' := hR6.e.free 0
    have m0 := hR6.m.cell 0
    have m0' := hR6.m.free 0
    simp at n4 q0 q1 q2 q3 q4 q5 e0 m0
    have x1 : fb ≠ eb := hR6.f.ne hR6.e (by decide)
    have x2 : fb ≠ mb := hR6.f.ne hR6.m (by decide)
    have x3 : fb ≠ nb := hR6.f.ne hR6.n (by decide)
    have x4 : eb ≠ mb := hR6.e.ne hR6.m (by decide)
    have x5 : nb ≠ mb := hR6.n.ne hR6.m (by decide)
    have x6 : nb ≠ eb := hR6.n.ne hR6.e (by decide)
    cases hmay : D.may c
    · have He : RowKit.Hid (dealErr c D = 8) := Lib.hid (by unfold dealErr; rw [if_neg (by rw [hmay]; simp)])
      rw [He.out]
      have Hmay := Lib.hid hmay
      clear hmay
      go_wp2_with fail
      obtain ⟨W9, hW9, hR9, hK9⟩ := hR6.fin3 (.int .u32 0) (.int .u32 0) (.int .i64 0) (.slice none 0 0) (.slice none 0 0) (.slice none 0 0) 0 130
      rw [← hW9]
      have hD9 : W9.heap[W5.heap.size]? = some (.deferred (some [])) := (hK9.same _ (lt_of_block hK6) (.inr (fun c t fr e => by rw [hK6] at e; cases e))).trans hK6
      have hkc : ∀ B, B ≤ W5.heap.size → KeepsC B [] W9 (W9.putObj W5.heap.size (.deferred none)) := fun B h => .putObj h hD9 (fun _ _ _ e => by cases e)
      have hR10 := hR9.keepsC (hkc w.heap.size hl5) (Nat.le_refl _) (by simp)
      refine marks_ret1 hD9 (results_found rfl _ _ _ _ _ _ _ _ rfl rfl rfl rfl hR10.f hR10.m hR10.e) ⟨ask_zero Hk.out (.inr ⟨fun h => ?_, rfl⟩), hR10.ext⟩
      have h3 := h.2.2
      rw [← Hkk.out] at h3
      simp [standsTo, HDD.out, Hmay.out] at h3
    · have He : RowKit.Hid (dealErr c D = 0) := Lib.hid (by unfold dealErr; rw [if_pos ⟨Hm.out, hmay⟩])
      rw [He.out]
      have Hmay := Lib.hid hmay
      clear hmay
      go_upto_region 24 with fail
      go_region
      obtain ⟨W9, hW9, g1, g2, g3, g4⟩ := put3 hR6.f hR6.m hR6.e (U32 (noteAt c d at_).age) (U32 (noteAt c d at_).seq) (I (noteAt c d at_).stripe) (.slice sA D.slots.length sc) (.slice lA D.blocks.length lc) (.slice pA D.parity.length pc) (.int .i64 (wrap64 (1 + ((noteAt c d at_).recs.length : Int)))) (.int .i64 0)
      rw [← hW9]
      have hn9 : RowAt W9 nb _ 83 := g4.row hR6.n (by simp [Ne.symm x3, x5, x6])
      obtain ⟨hR9, hK9⟩ := hR6.only g4 (by simp) g1 g2 g3 hn9
      have hO9 := hO6.fin hR6.f hR6.m hR6.e g4 (fun g hg => (Hsv.out g hg).1)
      have hdr : Ext W9 W9.drew := Ext.drew (Ext.refl _)
      have hD9 : W9.heap[W5.heap.size]? = some (.deferred (some [])) := (hK9.same _ (lt_of_block hK6) (.inr (fun c t fr e => by rw [hK6] at e; cases e))).trans hK6
      have hD10 : W9.drew.heap[W5.heap.size]? = some (.deferred (some [])) := (hdr.block _ (lt_of_block hD9)).trans hD9
      have hkc : ∀ B, B ≤ W5.heap.size → KeepsC B [] W9.drew (W9.drew.putObj W5.heap.size (.deferred none)) := fun B h => .putObj h hD10 (fun _ _ _ e => by cases e)
      have hR10 := (hR9.keepsC (.of_ext (n0 := w.heap.size) (TS := []) hdr) (Nat.le_refl _) (by simp)).keepsC (hkc w.heap.size hl5) (Nat.le_refl _) (by simp)
      have hO10 := (hO9.keepsC (.of_ext (n0 := w.heap.size) (TS := []) hdr) (by simp)).putObj (hkc w.heap.size hl5)
      clear q0 q1 q2 q3 q4 q5 q0' q1' q2' q3' q4' q5' e0 e0' m0 m0' n4 k0 k1 k2 k3 k4 k5
      go_wp2_with fail
      refine marks_ret1 hD10 (results_found rfl _ _ _ _ _ _ _ _ rfl rfl rfl rfl hR10.f hR10.m hR10.e) ⟨ask_zero Hk.out (.inl ⟨⟨Hgood.out, Hidd.out, ?_⟩, .slice sA D.slots.length sc, .slice lA D.blocks.length lc, .slice pA D.parity.length pc, xs, pa, ?_, ?_⟩), hR10.ext⟩
      · rw [← Hkk.out]
        simp only [standsTo, Hto.out, HDD.out, Hmay.out]
        rfl
      · rw [good_few Hgood.out]
      · rw [← Hkk.out, HDD.out]
        exact hO10
  case hstop =>
    rintro e pre W _ hX hK
    clear hm hd hlen hat hdead hl hbl
    rcases hX with ⟨rfl, hno, nrow, hR9⟩ | ⟨rfl, pre', hD, hlt⟩
    · go_wp2_with fail
      have hkc : ∀ B, B ≤ W5.heap.size → KeepsC B [] W (W.putObj W5.heap.size (.deferred none)) := fun B h => .putObj h hK (fun _ _ _ e => by cases e)
      have hR10 := hR9.keepsC (hkc w.heap.size hR5.ext.size) (Nat.le_refl _) (by simp)
      exact marks_ret1 hK (results_found rfl _ _ _ _ _ _ _ _ rfl rfl rfl rfl hR10.f hR10.m hR10.e) ⟨ask_zero Hk.out (.inr ⟨hno, rfl⟩), hR10.ext⟩
    · obtain ⟨kk, hkk0⟩ : ∃ kk, kk = (noteAt c d at_).recs.length := ⟨_, rfl⟩
      have hkk : kk = lastRec c d at_ := by
        unfold lastRec
        omega
      rw [← hkk0] at hD
      clear hlt hkk0
      have hl5 := hR5.ext.size
      obtain ⟨hgood, hid, hle, hto, sv, lv, pv, rv, xs, pa, hR, hO, hrv, hin, hpa, hsv⟩ := hD
      obtain ⟨hd1, hd2, hd3⟩ := dealTo_len (noteAt c d at_).stripe (noteAt c d at_).recs (ringB c d at_) Hbl.out kk
      have hDA := hO.at hd1 hd2
      obtain ⟨sA, sc, rfl⟩ := own_slice hO.slots
      obtain ⟨lA, lc, rfl⟩ := own_slice hO.blocks
      obtain ⟨rA, rc, rfl⟩ := own_slice hrv
      obtain ⟨pA, pc, rfl, _, _, _⟩ := hDA.2.2
      have hchk := deal_Check c _ _ _ _ W hDA
      simp only [DealD.v, hd3] at hchk
      generalize hDD : dealTo (noteAt c d at_).stripe (noteAt c d at_).recs (ringB c d at_) kk = D at hO hDA hd1 hd2 hd3 hchk hR hsv
      have HDD := Lib.hid hDD
      have Hchk := Lib.hid hchk
      have k0 := hR.h.cell 0
      have k1 := hR.h.cell 1
      have k2 := hR.h.cell 2
      have k3 := hR.h.cell 3
      have k4 := hR.h.cell 4
      have k5 := hR.h.cell 5
      have q2 := hR.f.cell 2
      have q3 := hR.f.cell 3
      have q4 := hR.f.cell 4
      have q5 := hR.f.cell 5
      simp at k0 k1 k2 k3 k4 k5 q2 q3 q4 q5
      have Hgood := Lib.hid hgood
      have Hsv := Lib.hid hsv
      have Hidd := Lib.hid hid
      have Hto := Lib.hid hto
      have Hkk := Lib.hid hkk
      clear hgood hid hle hto hin hpa hsv hDD hchk hd1 hd2 hd3 hDA hkk
      go_wp2_with fail
      refine Hchk.out.mono ?_
      rintro e W6 ⟨rfl, hE6⟩
      have hR6 := hR.keepsC (.of_ext (n0 := w.heap.size) (TS := []) hE6) (Nat.le_refl _) (by simp)
      have hO6 := hO.keepsC (.of_ext (n0 := w.heap.size) (TS := []) hE6) (by simp)
      have hK6 := (hE6.block _ (lt_of_block hK)).trans hK
      have n4 := hR6.n.cell 4
      have q0 := hR6.f.cell 0
      have q1 := hR6.f.cell 1
      have q2 := hR6.f.cell 2
      have q3 := hR6.f.cell 3
      have q4 := hR6.f.cell 4
      have q5 := hR6.f.cell 5
      have q0' := hR6.f.free 0
      have q1' := hR6.f.free 1
      have q2' := hR6.f.free 2
      have q3' := hR6.f.free 3
      have q4' := hR6.f.free 4
      have q5' := hR6.f.free 5
      have e0 := hR6.e.cell 0
      have e0' := hR6.e.free 0
      have m0 := hR6.m.cell 0
      have m0' := hR6.m.free 0
      simp at n4 q0 q1 q2 q3 q4 q5 e0 m0
      have x1 : fb ≠ eb := hR6.f.ne hR6.e (by decide)
      have x2 : fb ≠ mb := hR6.f.ne hR6.m (by decide)
      have x3 : fb ≠ nb := hR6.f.ne hR6.n (by decide)
      have x4 : eb ≠ mb := hR6.e.ne hR6.m (by decide)
      have x5 : nb ≠ mb := hR6.n.ne hR6.m (by decide)
      have x6 : nb ≠ eb := hR6.n.ne hR6.e (by decide)
      cases hmay : D.may c
      · have He : RowKit.Hid (dealErr c D = 8) := Lib.hid (by unfold dealErr; rw [if_neg (by rw [hmay]; simp)])
        rw [He.out]
        have Hmay := Lib.hid hmay
        clear hmay
        go_wp2_with fail
        obtain ⟨W9, hW9, hR9, hK9⟩ := hR6.fin3 (.int .u32 0) (.int .u32 0) (.int .i64 0) (.slice none 0 0) (.slice none 0 0) (.slice none 0 0) 0 130
        rw [← hW9]
        have hD9 : W9.heap[W5.heap.size]? = some (.deferred (some [])) := (hK9.same _ (lt_of_block hK6) (.inr (fun c t fr e => by rw [hK6] at e; cases e))).trans hK6
        have hkc : ∀ B, B ≤ W5.heap.size → KeepsC B [] W9 (W9.putObj W5.heap.size (.deferred none)) := fun B h => .putObj h hD9 (fun _ _ _ e => by cases e)
        have hR10 := hR9.keepsC (hkc w.heap.size hl5) (Nat.le_refl _) (by simp)
        refine marks_ret1 hD9 (results_found rfl _ _ _ _ _ _ _ _ rfl rfl rfl rfl hR10.f hR10.m hR10.e) ⟨ask_zero Hk.out (.inr ⟨fun h => ?_, rfl⟩), hR10.ext⟩
        have h3 := h.2.2
        rw [← Hkk.out] at h3
        simp [standsTo, HDD.out, Hmay.out] at h3
      · have He : RowKit.Hid (dealErr c D = 0) := Lib.hid (by unfold dealErr; rw [if_pos ⟨Hm.out, hmay⟩])
        rw [He.out]
        have Hmay := Lib.hid hmay
        clear hmay
        go_upto_region 24 with fail
        go_region
        obtain ⟨W9, hW9, g1, g2, g3, g4⟩ := put3 hR6.f hR6.m hR6.e (U32 (noteAt c d at_).age) (U32 (noteAt c d at_).seq) (I (noteAt c d at_).stripe) (.slice sA D.slots.length sc) (.slice lA D.blocks.length lc) (.slice pA D.parity.length pc) (.int .i64 (wrap64 (1 + ((noteAt c d at_).recs.length : Int)))) (.int .i64 0)
        rw [← hW9]
        have hn9 : RowAt W9 nb _ 83 := g4.row hR6.n (by simp [Ne.symm x3, x5, x6])
        obtain ⟨hR9, hK9⟩ := hR6.only g4 (by simp) g1 g2 g3 hn9
        have hO9 := hO6.fin hR6.f hR6.m hR6.e g4 (fun g hg => (Hsv.out g hg).1)
        have hdr : Ext W9 W9.drew := Ext.drew (Ext.refl _)
        have hD9 : W9.heap[W5.heap.size]? = some (.deferred (some [])) := (hK9.same _ (lt_of_block hK6) (.inr (fun c t fr e => by rw [hK6] at e; cases e))).trans hK6
        have hD10 : W9.drew.heap[W5.heap.size]? = some (.deferred (some [])) := (hdr.block _ (lt_of_block hD9)).trans hD9
        have hkc : ∀ B, B ≤ W5.heap.size → KeepsC B [] W9.drew (W9.drew.putObj W5.heap.size (.deferred none)) := fun B h => .putObj h hD10 (fun _ _ _ e => by cases e)
        have hR10 := (hR9.keepsC (.of_ext (n0 := w.heap.size) (TS := []) hdr) (Nat.le_refl _) (by simp)).keepsC (hkc w.heap.size hl5) (Nat.le_refl _) (by simp)
        have hO10 := (hO9.keepsC (.of_ext (n0 := w.heap.size) (TS := []) hdr) (by simp)).putObj (hkc w.heap.size hl5)
        clear q0 q1 q2 q3 q4 q5 q0' q1' q2' q3' q4' q5' e0 e0' m0 m0' n4 k0 k1 k2 k3 k4 k5
        go_wp2_with fail
        refine marks_ret1 hD10 (results_found rfl _ _ _ _ _ _ _ _ rfl rfl rfl rfl hR10.f hR10.m hR10.e) ⟨ask_zero Hk.out (.inl ⟨⟨Hgood.out, Hidd.out, ?_⟩, .slice sA D.slots.length sc, .slice lA D.blocks.length lc, .slice pA D.parity.length pc, xs, pa, ?_, ?_⟩), hR10.ext⟩
        · rw [← Hkk.out]
          simp only [standsTo, Hto.out, HDD.out, Hmay.out]
          rfl
        · rw [good_few Hgood.out]
        · rw [← Hkk.out, HDD.out]
          exact hO10

end Go.Proofs.Ytancfgmaejjooaa
