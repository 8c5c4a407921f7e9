/- The document's notes: one is read. -/
import Derived.Test.YtancfgmaejjooaaRef15
set_option linter.unusedVariables false
set_option linter.unusedSimpArgs false
namespace Go.Proofs.Ytancfgmaejjooaa
open Go.RowKit
attribute [local go_sem] str_list

def zeroNote : Array Value := #[U32 0, U32 0, U32 0, I 0, .slice none 0 0]
def RNPost (ps : List UInt8) (e : Ending) (w' : World) : Prop :=
  if (noteRef ps).may = true ∧ noteBytes (noteRef ps) = ps then ∃ rv, e = .returned (.tuple #[(noteRef ps).v rv, I 0]) ∧ Rep.rc.sl w' rv (noteRef ps).recs
  else e = .returned (.tuple #[.agg zeroNote, I 90])

/-- Within Read: the result's box, the bytes, the note's box, its records. -/
structure RnS (w W : World) (ps : List UInt8) (g nb : Nat) (v : Value) (k : Nat) : Prop where
  ext : Ext w W
  zero : RowAt W w.heap.size zeroNote 83
  bytes : BytesIn W g 5 ps
  box : RowAt W nb #[U32 (noteRef ps).id, U32 (noteRef ps).age, U32 (noteRef ps).seq, I (noteRef ps).stripe, v] 83
  own : W.ownsRow w.heap.size 121 3 v k (recCells ps k)
  lo : w.heap.size < nb
theorem RnS.ext' {w W W' : World} {ps : List UInt8} {g nb : Nat} {v : Value} {k : Nat} (h : RnS w W ps g nb v k) (he : Ext W W') : RnS w W' ps g nb v k :=
  ⟨Ext.trans h.ext he, h.zero.ext he, h.bytes.ext he, h.box.ext he, own_ext h.own he, h.lo⟩

theorem getB {l : List UInt8} {j : Nat} (h : j < l.length) : takeN l j 1 = l[j].toNat := by
  rw [takeN_one, List.getD_eq_getElem?_getD, List.getElem?_eq_getElem h]
  rfl

set_option maxRecDepth 100000 in
set_option maxHeartbeats 2000000 in
theorem ref_nRead (v : Value) (xs : List UInt8) (w : World) (h : Rep.byte.sl w v xs) (hb : isBlock xs = true) :
    Calls Try.prog 121 #[v] w fun e w' => RNPost (pad xs) e w' ∧ Ext w w' := by
  have h0 := h
  have hl := isBlock_le hb
  have hcb := ref_Block v xs (w.alloc (.cells zeroNote 83)) (h.ext (Ext.alloc (Ext.refl _) _))
  rw [hb] at hcb
  have hcw := ref_Whole v xs (w.alloc (.cells zeroNote 83)) (h.ext (Ext.alloc (Ext.refl _) _)) hl
  have hpl := pad_len hl
  obtain ⟨ps, hps⟩ : ∃ ps, ps = pad xs := ⟨_, rfl⟩
  rw [← hps] at hcw hpl ⊢
  obtain ⟨A, c, rfl, h1, h2, h3⟩ := h
  clear h0 hps h3 hb
  go_enter Try.func121, Try.ntmps121
  go_wp2_with (go_at_call 126; refine hcb.mono ?_; rintro e w2 ⟨rfl, rfl⟩)
  refine hcw.mono ?_
  rintro e w1 ⟨rfl, hB, he1⟩
  have hsl : Rep.byte.sl w1 (.slice (some ⟨w.heap.size + 1, 0, none⟩) 128 128) ps := by
    have := own_bytes (hB.own (base := 0) (Nat.zero_le _) (by rw [hpl]; unfold Fit; decide))
    rw [hpl] at this
    simpa using this
  have hz : RowAt w1 w.heap.size zeroNote 83 := (RowAt.newAt w _ _ rfl).ext he1
  have hB' : BytesIn w1 (w.heap.size + 1) 5 ps := by simpa using hB
  have hE1 : Ext w w1 := (by repeat (first | exact Below.refl _ _ | assumption | refine Ext.alloc ?_ _ | refine Ext.drew ?_ | refine Ext.trans ?_ (by assumption)))
  clear hcb hcw hB
  go_upto_region 4 with fail
  have hc13 := hB'.cell 13 (by omega)
  have hg13 : takeN ps 13 1 = (ps[13]'(by omega)).toNat := getB (by omega)
  obtain ⟨y, hy⟩ : ∃ y : Int, y = ((ps[13]'(by omega)).toNat : Int) := ⟨_, rfl⟩
  have hyb : 0 ≤ y ∧ y < 256 := by have := (ps[13]'(by omega)).toNat_lt; omega
  replace hc13 : w1.cell? ⟨w.heap.size + 1, 13, none⟩ = some (.int .u8 y) := by rw [hy]; exact hc13
  have Hy : Hid (y = (takeN ps 13 1 : Int)) := Lib.hid (by rw [hy, hg13])
  have hz1 := hE1.size
  have hB1 := Lib.hid hB'
  clear hy hg13 hB'
  refine wp_lexi (by kernel_rfl) rfl [(0, false, []), (3, true, []), (0, false, []), (3, true, []), (0, false, []), (3, true, []), (0, false, []), (0, false, []), (1, true, []), (0, false, []), (0, false, []), (1, true, []), (2, true, [11]), (0, false, [12])] (by kernel_rfl) (fun i _ v _ => match i with | 1 => v = U32 (takeN ps 1 4) | 3 => v = U32 (takeN ps 5 4) | _ => v = U32 (takeN ps 9 4)) ?_
  intro lL lT lP lQ HL HT HP HQ
  refine EWi.pure (by rw [HL.out]; rfl) (by rw [HT.out]; rfl) rfl ?_; intro w0; unfold runPlain; simp [go_sem]
  refine EWi.call (by rw [HL.out]; rfl) (by rw [HT.out]; rfl) rfl ?_ ?_
  · intro w0 h0
    unfold runOp
    simp [go_sem]
    rw [HP.out]
    refine (ref_Number _ ps 1 w0 (hsl.ext h0.ext) (by omega) (by decide)).mono ?_
    rintro e w1' ⟨rfl, he⟩
    refine ⟨_, rfl, he, ?_⟩
    show U32 _ = U32 _
    rw [pad_full hpl]
  intro q1 v q1' h1 he1 hp
  rw [HP.out] at hp
  obtain rfl : v = U32 (takeN ps 1 4) := hp
  refine EWi.pure (by rw [HL.out]; rfl) (by rw [HT.out]; rfl) rfl ?_; intro w0; unfold runPlain; simp [go_sem]
  refine EWi.call (by rw [HL.out]; rfl) (by rw [HT.out]; rfl) rfl ?_ ?_
  · intro w0 h0
    unfold runOp
    simp [go_sem]
    rw [HP.out]
    refine (ref_Number _ ps 5 w0 (hsl.ext h0.ext) (by omega) (by decide)).mono ?_
    rintro e w1' ⟨rfl, he⟩
    refine ⟨_, rfl, he, ?_⟩
    show U32 _ = U32 _
    rw [pad_full hpl]
  intro q3 v q3' h3 he3 hp
  rw [HP.out] at hp
  obtain rfl : v = U32 (takeN ps 5 4) := hp
  refine EWi.pure (by rw [HL.out]; rfl) (by rw [HT.out]; rfl) rfl ?_; intro w0; unfold runPlain; simp [go_sem]
  refine EWi.call (by rw [HL.out]; rfl) (by rw [HT.out]; rfl) rfl ?_ ?_
  · intro w0 h0
    unfold runOp
    simp [go_sem]
    rw [HP.out]
    refine (ref_Number _ ps 9 w0 (hsl.ext h0.ext) (by omega) (by decide)).mono ?_
    rintro e w1' ⟨rfl, he⟩
    refine ⟨_, rfl, he, ?_⟩
    show U32 _ = U32 _
    rw [pad_full hpl]
  intro q5 v q5' h5 he5 hp
  rw [HP.out] at hp
  obtain rfl : v = U32 (takeN ps 9 4) := hp
  have hwy : IntKind.i64.wrap y = y := IntWalk.i64_in _ (by omega)
  refine EWi.pure (by rw [HL.out]; rfl) (by rw [HT.out]; rfl) rfl ?_; intro w0; unfold runPlain; simp [go_sem, hwy]
  refine EWi.pure (by rw [HL.out]; rfl) (by rw [HT.out]; rfl) rfl ?_; intro w0; unfold runPlain; simp [go_sem, hwy]
  refine EWi.read (by rw [HL.out]; rfl) (by rw [HT.out]; rfl) rfl ?_; intro w0 h0; have e0 := h0.ext; have x0 := e0.cells hc13; unfold runPlain; simp [go_sem, x0, hwy]; refine ⟨(by repeat (first | exact Below.refl _ _ | assumption | refine Ext.alloc ?_ _ | refine Ext.drew ?_ | refine Ext.trans ?_ (by assumption))), ?_⟩; clear e0 h0 x0
  refine EWi.pure (by rw [HL.out]; rfl) (by rw [HT.out]; rfl) rfl ?_; intro w0; unfold runPlain; simp [go_sem, hwy]
  refine EWi.pure (by rw [HL.out]; rfl) (by rw [HT.out]; rfl) rfl ?_; intro w0; unfold runPlain; simp [go_sem, hwy]
  refine EWi.read (by rw [HL.out]; rfl) (by rw [HT.out]; rfl) rfl ?_
  intro w11 h11
  unfold runPlain
  simp [go_sem]
  refine ⟨Ext.alloc (Ext.refl _) _, ?_⟩
  refine EWi.write (by rw [HL.out]; rfl) (by rw [HT.out]; rfl) rfl ?_
  intro w12 h12
  have e12 : Ext (w11.alloc (.cells zeroNote 83)) w12 := h12.2 11 (by simp)
  have hr12 : RowAt w12 w11.heap.size zeroNote 83 := (RowAt.new w11 _ _).ext e12
  have k0 := hr12.cell 0
  have k1 := hr12.cell 1
  have k2 := hr12.cell 2
  have k3 := hr12.cell 3
  have k4 := hr12.cell 4
  have f0 := hr12.free 0
  have f1 := hr12.free 1
  have f2 := hr12.free 2
  have f3 := hr12.free 3
  have f4 := hr12.free 4
  simp [zeroNote] at k0 k1 k2 k3 k4
  unfold runPlain
  simp [go_sem, k0, k1, k2, k3, k4, f0, f1, f2, f3, f4]
  refine EWi.fin (by rw [HL.out]; rfl) (by rw [HT.out]; rfl) (by rw [HT.out]; rfl) ?_
  intro W hW
  rw [HQ.out]
  have eW := hW.2 12 (by simp)
  obtain ⟨g1, g2, g3⟩ := row_set5 hr12 (U32 (takeN ps 1 4)) (U32 (takeN ps 5 4)) (U32 (takeN ps 9 4)) (I y) (.slice none 0 0)
  have hE11 : Ext w w11 := Ext.trans hE1 h11.ext
  have hE12 : Ext w w12 := Ext.trans (Ext.trans hE11 (Ext.alloc (Ext.refl _) _)) e12
  have hS : RnS w W ps (w.heap.size + 1) w11.heap.size (.slice none 0 0) 0 := by
    have hn1 : w.heap.size < w11.heap.size := by have := hz.lt; have := h11.ext.size; omega
    refine ⟨Ext.trans (Below.grown hE12 g2 hE12.size (fun k e => by have := Option.some.inj e; omega)) eW, ?_, ?_, ?_, World.ownsRow_nil _ _ _ _, hn1⟩
    · exact (((hz.ext h11.ext).ext (Ext.trans (Ext.alloc (Ext.refl _) _) e12)).grownO g2 (fun e => by have := Option.some.inj e; omega)).ext eW
    · refine BytesIn.ext ?_ eW
      have h9 : BytesIn w12 (w.heap.size + 1) 5 ps := (hB1.out.ext h11.ext).ext (Ext.trans (Ext.alloc (Ext.refl _) _) e12)
      exact (g2.block _ h9.lt (fun e => by
        have := Option.some.inj e
        have := (hB1.out.ext h11.ext).lt
        omega)).trans h9
    · have := g1.ext eW
      rw [Hy.out] at this
      exact this
  clear hsl hz hE1 hc13 hyb Hy hz1 hB1 k0 k1 k2 k3 k4 f0 f1 f2 f3 f4 g1 g2 g3 eW
  obtain ⟨nb, hnb⟩ : ∃ nb, nb = w11.heap.size := ⟨_, rfl⟩
  obtain ⟨g, hg⟩ : ∃ g, g = w.heap.size + 1 := ⟨_, rfl⟩
  rw [← hnb, ← hg] at hS ⊢
  have hc14 : takeN ps 14 1 = (ps[14]'(by omega)).toNat := getB (by omega)
  obtain ⟨cn, hcn⟩ : ∃ cn, cn = takeN ps 14 1 := ⟨_, rfl⟩
  have hcb : cn < 256 := by rw [hcn, hc14]; exact (ps[14]'(by omega)).toNat_lt
  have HC : Hid ((ps[14]'(by omega)).toNat = cn) := Lib.hid (by rw [hcn, hc14])
  have Hcn := Lib.hid hcn
  clear hnb hg hc14 hcn
  go_wp2
  go_loopw [6] (fun i wr => ∃ k : Nat, k ≤ 16 ∧ k ≤ cn ∧ i = .int .i64 k ∧ ∃ v, RnS w wr ps g nb v k) (fun i _ => 16 - (intOf i).toNat)
  case atStart => exact ⟨0, by omega, by omega, rfl, _, hS⟩
  case round =>
    obtain ⟨k, hk, hkc, rfl, v, S⟩ := hrel
    clear hS
    have c14 := S.bytes.cell 14 (by omega)
    replace c14 : wr.cell? ⟨g, 14, none⟩ = some (.int .u8 (cn : Int)) := by rw [← HC.out]; exact c14
    have S0 := Lib.hid S
    by_cases hboth : k < cn ∧ k < 16
    · obtain ⟨hlt, hlt16⟩ := hboth
      · obtain ⟨vA, vc, rfl⟩ := own_slice S.own
        have b4 := S.box.cell 4
        simp at b4
        have s0 := S.bytes.cell (15 + 6 * k) (by omega)
        have s1 := S.bytes.cell (16 + 6 * k) (by omega)
        have hrec : rcCells (recOf ps k) = [B (ps[15 + 6 * k]'(by omega)), .bool ((ps[16 + 6 * k]'(by omega)).toNat == 1), U32 (takeN ps (17 + 6 * k) 4)] := by
          unfold rcCells recOf
          rw [getB (by omega), getB (by omega), UInt8.ofNat_toNat]
        obtain ⟨y0, hy0⟩ : ∃ y : Int, y = ((ps[15 + 6 * k]'(by omega)).toNat : Int) := ⟨_, rfl⟩
        obtain ⟨y1, hy1⟩ : ∃ y : Int, y = ((ps[16 + 6 * k]'(by omega)).toNat : Int) := ⟨_, rfl⟩
        obtain ⟨y2, hy2⟩ : ∃ y, y = takeN ps (17 + 6 * k) 4 := ⟨_, rfl⟩
        replace s0 : wr.cell? ⟨g, 15 + 6 * k, none⟩ = some (.int .u8 y0) := by rw [hy0]; exact s0
        replace s1 : wr.cell? ⟨g, 16 + 6 * k, none⟩ = some (.int .u8 y1) := by rw [hy1]; exact s1
        have Hrec : Hid (rcCells (recOf ps k) = [.int .u8 y0, .bool (y1 == 1), U32 y2]) := Lib.hid (by
          have e1 : ((ps[16 + 6 * k]'(by omega)).toNat == 1) = (y1 == 1) := by
            rw [Bool.eq_iff_iff, beq_iff_eq, beq_iff_eq]
            omega
          rw [hrec, e1, hy0, hy2])
        have Hy2 := Lib.hid hy2
        have q1 : IntKind.i64.wrap (6 * (k : Int)) = 6 * (k : Int) := IntWalk.i64_in _ (by omega)
        have q2 : IntKind.i64.wrap (15 + 6 * (k : Int)) = 15 + 6 * (k : Int) := IntWalk.i64_in _ (by omega)
        have q3 : IntKind.i64.wrap (16 + 6 * (k : Int)) = 16 + 6 * (k : Int) := IntWalk.i64_in _ (by omega)
        have q4 : IntKind.i64.wrap (17 + 6 * (k : Int)) = 17 + 6 * (k : Int) := IntWalk.i64_in _ (by omega)
        have t1 : (15 + 6 * (k : Int)).toNat = 15 + 6 * k := by omega
        have t2 : (16 + 6 * (k : Int)).toNat = 16 + 6 * k := by omega
        have i1 : 0 ≤ 15 + 6 * (k : Int) ∧ 15 + 6 * (k : Int) < 128 := by omega
        have i2 : 0 ≤ 16 + 6 * (k : Int) ∧ 16 + 6 * (k : Int) < 128 := by omega
        have hbs := S.ext.size
        have hsl : Rep.byte.sl wr (.slice (some ⟨g, 0, none⟩) 128 128) ps := by
          have := own_bytes (S.bytes.own (base := 0) (Nat.zero_le _) (by rw [hpl]; unfold Fit; decide))
          rwa [hpl] at this
        clear hrec hy0 hy1 hy2 S
        go_upto_region 8 with fail
        refine wp_lexi (by kernel_rfl) rfl [(0, false, []), (1, true, []), (0, false, []), (0, false, []), (0, false, []), (0, false, []), (0, false, []), (1, true, []), (0, false, []), (0, false, []), (0, false, []), (0, false, []), (0, false, []), (1, true, []), (0, false, []), (0, false, []), (0, false, []), (0, false, []), (0, false, []), (3, true, []), (0, false, []), (1, true, [19]), (2, true, [21]), (0, false, []), (2, false, [22]), (0, false, [24])] (by kernel_rfl) (fun _ _ v _ => v = U32 y2) ?_
        intro lL lT lP lQ HL HT HP HQ
        refine EWi.pure (by rw [HL.out]; rfl) (by rw [HT.out]; rfl) rfl ?_; intro w0; unfold runPlain; simp [go_sem, q1, q2, q3, q4, t1, t2, i1.1, i1.2, i2.1, i2.2]
        refine EWi.read (by rw [HL.out]; rfl) (by rw [HT.out]; rfl) rfl ?_; intro w0 h0; have e0 := h0.ext; have x0 := e0.cells b4; have x1 := e0.cells s0; have x2 := e0.cells s1; unfold runPlain; simp [go_sem, x0, x1, x2, q1, q2, q3, q4, t1, t2, i1.1, i1.2, i2.1, i2.2]; refine ⟨(by repeat (first | exact Below.refl _ _ | assumption | refine Ext.alloc ?_ _ | refine Ext.drew ?_ | refine Ext.trans ?_ (by assumption))), ?_⟩; clear e0 h0 x0 x1 x2
        iterate 5 (refine EWi.pure (by rw [HL.out]; rfl) (by rw [HT.out]; rfl) rfl ?_; intro w0; unfold runPlain; simp [go_sem, q1, q2, q3, q4, t1, t2, i1.1, i1.2, i2.1, i2.2])
        refine EWi.read (by rw [HL.out]; rfl) (by rw [HT.out]; rfl) rfl ?_; intro w0 h0; have e0 := h0.ext; have x0 := e0.cells b4; have x1 := e0.cells s0; have x2 := e0.cells s1; unfold runPlain; simp [go_sem, x0, x1, x2, q1, q2, q3, q4, t1, t2, i1.1, i1.2, i2.1, i2.2]; refine ⟨(by repeat (first | exact Below.refl _ _ | assumption | refine Ext.alloc ?_ _ | refine Ext.drew ?_ | refine Ext.trans ?_ (by assumption))), ?_⟩; clear e0 h0 x0 x1 x2
        iterate 5 (refine EWi.pure (by rw [HL.out]; rfl) (by rw [HT.out]; rfl) rfl ?_; intro w0; unfold runPlain; simp [go_sem, q1, q2, q3, q4, t1, t2, i1.1, i1.2, i2.1, i2.2])
        refine EWi.read (by rw [HL.out]; rfl) (by rw [HT.out]; rfl) rfl ?_; intro w0 h0; have e0 := h0.ext; have x0 := e0.cells b4; have x1 := e0.cells s0; have x2 := e0.cells s1; unfold runPlain; simp [go_sem, x0, x1, x2, q1, q2, q3, q4, t1, t2, i1.1, i1.2, i2.1, i2.2]; refine ⟨(by repeat (first | exact Below.refl _ _ | assumption | refine Ext.alloc ?_ _ | refine Ext.drew ?_ | refine Ext.trans ?_ (by assumption))), ?_⟩; clear e0 h0 x0 x1 x2
        iterate 5 (refine EWi.pure (by rw [HL.out]; rfl) (by rw [HT.out]; rfl) rfl ?_; intro w0; unfold runPlain; simp [go_sem, q1, q2, q3, q4, t1, t2, i1.1, i1.2, i2.1, i2.2])
        refine EWi.call (by rw [HL.out]; rfl) (by rw [HT.out]; rfl) rfl ?_ ?_
        · intro w0 h0
          unfold runOp
          simp [go_sem, q4]
          rw [HP.out]
          have hnum := ref_Number _ ps (17 + 6 * k) w0 (hsl.ext h0.ext) (by omega) (by omega)
          rw [show ((17 + 6 * k : Nat) : Int) = 17 + 6 * (k : Int) by omega, pad_full hpl, ← Hy2.out] at hnum
          refine hnum.mono ?_
          rintro e w1' ⟨rfl, he⟩
          exact ⟨_, rfl, he, rfl⟩
        intro w19 v w19' h19 he19 hp
        rw [HP.out] at hp
        obtain rfl : v = U32 y2 := hp
        refine EWi.pure (by rw [HL.out]; rfl) (by rw [HT.out]; rfl) rfl ?_; intro w0; unfold runPlain; simp [go_sem]
        refine EWi.read (by rw [HL.out]; rfl) (by rw [HT.out]; rfl) rfl ?_
        intro w21 h21
        unfold runPlain
        simp [go_sem]
        refine ⟨Ext.alloc (Ext.refl _) _, ?_⟩
        refine EWi.write (by rw [HL.out]; rfl) (by rw [HT.out]; rfl) rfl ?_
        intro w22 h22
        have e22 : Ext (w21.alloc (.cells #[.int .u8 y0, .bool (y1 == 1), U32 y2] 121)) w22 := h22.2 21 (by simp)
        have hr22 : RowAt w22 w21.heap.size #[.int .u8 y0, .bool (y1 == 1), U32 y2] 121 := (RowAt.new w21 _ _).ext e22
        have S22 := S0.out.ext' h22.ext
        refine runPlain_append w.heap.size 121 (.agg #[.int .u8 0, .bool false, .int .u32 0]) 3 8 _ _ 81 rfl Try.underlying81 info121 rfl (by decide) (by decide) (.slice vA k vc) k (recCells ps k) (by simp [go_sem]) S22.own (some ⟨w21.heap.size, 0, none⟩) 1 1 [.int .u8 y0, .bool (y1 == 1), U32 y2] (by simp [go_sem]) rfl hr22.src (by intro u hu; simp at hu; rcases hu with rfl | rfl | rfl <;> rfl) (by omega) S22.ext.size ?_
        intro v' w23 hv' hg23 hb23
        obtain ⟨vA', vc', rfl⟩ := own_slice hv'
        have hgo : ∀ g, (Value.slice vA k vc).ownBlock = some g → w.heap.size ≤ g ∧ ∃ cur, RowAt w22 g cur 121 := own_block S22.own
        have hne : ∀ {b : Nat} {cs : Array Value} {t : TypeId}, RowAt w22 b cs t → t ≠ 121 → (Value.slice vA k vc).ownBlock ≠ some b := fun hr ht e => by
          obtain ⟨_, cur, h1⟩ := hgo _ e
          exact h1.ne hr (Ne.symm ht) rfl
        have hrk : recCells ps (k + 1) = recCells ps k ++ [.int .u8 y0, .bool (y1 == 1), U32 y2] := by
          unfold recCells
          rw [List.range_succ, List.flatMap_append]
          simp [Hrec.out]
        have E23 : Ext w w23 := Below.grown S22.ext hg23 S22.ext.size (fun k e => (hgo k e).1)
        have z23 := S22.zero.grownO hg23 (hne S22.zero (by decide))
        have by23 : BytesIn w23 g 5 ps := (hg23.block _ S22.bytes.lt (Ne.symm (hne (show RowAt w22 g _ 5 from S22.bytes) (by decide)))).trans S22.bytes
        have bx23 := S22.box.grownO hg23 (hne S22.box (by decide))
        refine EWi.pure (by rw [HL.out]; rfl) (by rw [HT.out]; rfl) rfl ?_; intro w0; unfold runPlain; simp [go_sem]
        refine EWi.write (by rw [HL.out]; rfl) (by rw [HT.out]; rfl) rfl ?_
        intro w24 h24
        have e24 : Ext w23 w24 := h24.2 22 (by simp)
        have bx24 := bx23.ext e24
        have k4 := bx24.cell 4
        have f4 := bx24.free 4
        simp at k4
        unfold runPlain
        simp [go_sem, k4, f4]
        refine EWi.fin (by rw [HL.out]; rfl) (by rw [HT.out]; rfl) (by rw [HT.out]; rfl) ?_
        intro W hW
        have eW : Ext (w24.setCell ⟨nb, 4, none⟩ (.slice vA' (k + 1) vc')) W := hW.2 24 (by simp)
        rw [HQ.out]
        have hlo := S22.lo
        have hS : RnS w W ps g nb (.slice vA' (k + 1) vc') (k + 1) := by
          refine RnS.ext' (W := w24.setCell ⟨nb, 4, none⟩ (.slice vA' (k + 1) vc')) ⟨(Ext.trans E23 e24).setCell (Nat.le_of_lt hlo) _, ?_, ?_, ?_, ?_, hlo⟩ eW
          · exact (z23.ext e24).other (by show nb ≠ w.heap.size; omega) _
          · exact (by23.ext e24).other (by show nb ≠ g; exact (bx24.ne (show RowAt w24 g _ 5 from by23.ext e24) (by decide))) _
          · have := bx24.set 4 (.slice vA' (k + 1) vc')
            simpa using this
          · rw [hrk]
            exact own_set (own_ext hv' e24) bx24 (by decide) 4 _
        go_wp2
        go_roundw
        case rel => exact ⟨k + 1, by omega, by omega, by go_num, _, hS⟩
        case measure => simp [intOf]; omega
    have hfin : (¬ k < cn ∧ k = min cn 16) ∨ (k < cn ∧ ¬ k < 16 ∧ k = min cn 16) := by omega
    have HRe : Hid ((noteRef ps).recs = (List.range k).map (recOf ps)) := Lib.hid (by
      show (List.range (min (takeN ps 14 1) 16)).map (recOf ps) = _
      rw [← Hcn.out, show min cn 16 = k by omega])
    obtain ⟨vA, vc, rfl⟩ := own_slice S.own
    have HR : Hid (Rep.rc.sl wr (.slice vA k vc) (noteRef ps).recs) := Lib.hid (by rw [HRe.out]; exact recs_sl S.own)
    have b0 := S.box.cell 0
    have b1 := S.box.cell 1
    have b2 := S.box.cell 2
    have b3 := S.box.cell 3
    have b4 := S.box.cell 4
    simp at b0 b1 b2 b3 b4
    have hsl : Rep.byte.sl wr (.slice (some ⟨g, 0, none⟩) 128 128) ps := by
      have := own_bytes (S.bytes.own (base := 0) (Nat.zero_le _) (by rw [hpl]; unfold Fit; decide))
      rwa [hpl] at this
    replace hfin : (¬ k < cn) ∨ (k < cn ∧ ¬ k < 16) := by omega
    clear hboth
    have hgo : Hid (∀ x : Nat, x = x) := Lib.hid (fun _ => rfl)
    rcases hfin with hlt | ⟨hlt, h16⟩
    all_goals
      go_upto_region 9 with fail
      clear hlt c14
      try clear h16
      obtain ⟨nid, hnid⟩ : ∃ x, x = (noteRef ps).id := ⟨_, rfl⟩
      cases hm : (noteRef ps).may
      · have Hm := Lib.hid hm
        clear hm hnid
        refine wp_lexi (by kernel_rfl) rfl [(1, true, []), (3, true, []), (0, false, []), (0, false, []), (1, true, []), (3, true, []), (1, true, [5]), (0, false, []), (1, true, []), (0, false, []), (0, false, []), (0, true, [])] (by kernel_rfl) (fun _ _ v _ => v = .bool false) ?_
        intro lL lT lP lQ HL HT HP HQ
        refine EWi.read (by rw [HL.out]; rfl) (by rw [HT.out]; rfl) rfl ?_; intro w0 h0; have e0 := h0.ext; have x0 := e0.cells b0; have x1 := e0.cells b1; have x2 := e0.cells b2; have x3 := e0.cells b3; have x4 := e0.cells b4; unfold runPlain; simp [go_sem, x0, x1, x2, x3, x4]; refine ⟨(by repeat (first | exact Below.refl _ _ | assumption | refine Ext.alloc ?_ _ | refine Ext.drew ?_ | refine Ext.trans ?_ (by assumption))), ?_⟩; clear e0 h0 x0 x1 x2 x3 x4
        refine EWi.call (by rw [HL.out]; rfl) (by rw [HT.out]; rfl) rfl ?_ ?_
        · intro w0 h0
          unfold runOp
          simp [go_sem]
          rw [HP.out]
          refine (ref_nMay (noteRef ps) _ w0 (HR.out.ext h0.ext)).mono ?_
          rintro e w1' ⟨rfl, he⟩
          exact ⟨_, rfl, he, by show Value.bool _ = _; rw [Hm.out]⟩
        intro w1' u w1'' h1' he1' hp
        rw [HP.out] at hp
        obtain rfl : u = .bool false := hp
        refine EWi.pure (by rw [HL.out]; rfl) (by rw [HT.out]; rfl) rfl ?_; intro w0; unfold runPlain; simp [go_sem]
        refine EWi.pure (by rw [HL.out]; rfl) (by rw [HT.out]; rfl) rfl ?_; intro w0; unfold runPlain; simp [go_sem]
        iterate 6 (refine EWi.no (by rw [HL.out]; rfl) (by rw [HT.out]; rfl) (by simp [wantedV, upd, boolOf_undef, boolOf_bool]) ?_; intro w0; simp [go_sem])
        refine EWi.pure (by rw [HL.out]; rfl) (by rw [HT.out]; rfl) rfl ?_; intro w0; unfold runPlain; simp [go_sem]
        refine EWi.fin (by rw [HL.out]; rfl) (by rw [HT.out]; rfl) (by rw [HT.out]; rfl) ?_
        intro W hW
        rw [HQ.out]
        have z := RowAt.ext S.zero hW.ext
        have z0 := z.cell 0
        have z1 := z.cell 1
        have z2 := z.cell 2
        have z3 := z.cell 3
        have z4 := z.cell 4
        have zf0 := z.free 0
        have zf1 := z.free 1
        have zf2 := z.free 2
        have zf3 := z.free 3
        have zf4 := z.free 4
        simp [zeroNote] at z0 z1 z2 z3 z4
        go_wp2
        obtain ⟨g1, g2, g3⟩ := row_set5 z (U32 0) (U32 0) (U32 0) (I 0) (.slice none 0 0)
        refine bodyPost_ret (results_cell_tmp rfl _ _ w.heap.size 83 _ _ _ rfl g1 Try.underlying83 rfl size83) rfl ?_
        refine ⟨?_, Below.grown (Ext.trans S.ext hW.ext) g2 (Ext.trans S.ext hW.ext).size (fun k e => by have := Option.some.inj e; omega)⟩
        unfold RNPost
        rw [if_neg (fun h => by rw [Hm.out] at h; cases h.1)]
        rfl
      · have Hm := Lib.hid hm
        clear hm hnid
        have HN : Hid ((noteRef ps).id < 4294967296 ∧ (noteRef ps).age < 4294967296 ∧ (noteRef ps).seq < 4294967296 ∧ (0 ≤ (noteRef ps).stripe ∧ (noteRef ps).stripe < 256) ∧ (noteRef ps).recs.length ≤ 16) := Lib.hid (by
          refine ⟨takeN_lt _ _ 4, takeN_lt _ _ 4, takeN_lt _ _ 4, ?_, ?_⟩
          · have := takeN_lt ps 13 1
            show (0 : Int) ≤ (takeN ps 13 1 : Int) ∧ (takeN ps 13 1 : Int) < 256
            omega
          · simp [noteRef]
            omega)
        refine wp_lexi (by kernel_rfl) rfl [(1, true, []), (3, true, []), (0, false, []), (0, false, []), (1, true, []), (3, true, []), (1, true, [5]), (0, false, []), (1, true, []), (0, false, []), (0, false, []), (0, true, [])] (by kernel_rfl) (fun i _ v w1 => match i with | 1 => v = .bool true | _ => ∃ g', v = .slice (some ⟨g', 0, none⟩) 128 128 ∧ BytesIn w1 g' 5 (noteBytes (noteRef ps))) ?_
        intro lL lT lP lQ HL HT HP HQ
        refine EWi.read (by rw [HL.out]; rfl) (by rw [HT.out]; rfl) rfl ?_; intro w0 h0; have e0 := h0.ext; have x0 := e0.cells b0; have x1 := e0.cells b1; have x2 := e0.cells b2; have x3 := e0.cells b3; have x4 := e0.cells b4; unfold runPlain; simp [go_sem, x0, x1, x2, x3, x4]; refine ⟨(by repeat (first | exact Below.refl _ _ | assumption | refine Ext.alloc ?_ _ | refine Ext.drew ?_ | refine Ext.trans ?_ (by assumption))), ?_⟩; clear e0 h0 x0 x1 x2 x3 x4
        refine EWi.call (by rw [HL.out]; rfl) (by rw [HT.out]; rfl) rfl ?_ ?_
        · intro w0 h0
          unfold runOp
          simp [go_sem]
          rw [HP.out]
          refine (ref_nMay (noteRef ps) _ w0 (HR.out.ext h0.ext)).mono ?_
          rintro e w1' ⟨rfl, he⟩
          exact ⟨_, rfl, he, by show Value.bool _ = _; rw [Hm.out]⟩
        intro w1' u w1'' h1' he1' hp
        rw [HP.out] at hp
        obtain rfl : u = .bool true := hp
        refine EWi.pure (by rw [HL.out]; rfl) (by rw [HT.out]; rfl) rfl ?_; intro w0; unfold runPlain; simp [go_sem]
        refine EWi.pure (by rw [HL.out]; rfl) (by rw [HT.out]; rfl) rfl ?_; intro w0; unfold runPlain; simp [go_sem]
        refine EWi.read (by rw [HL.out]; rfl) (by rw [HT.out]; rfl) (by simp [wantedV, upd, boolOf_undef, boolOf_bool]) ?_; intro w0 h0; have e0 := h0.ext; have x0 := e0.cells b0; have x1 := e0.cells b1; have x2 := e0.cells b2; have x3 := e0.cells b3; have x4 := e0.cells b4; unfold runPlain; simp [go_sem, x0, x1, x2, x3, x4]; refine ⟨(by repeat (first | exact Below.refl _ _ | assumption | refine Ext.alloc ?_ _ | refine Ext.drew ?_ | refine Ext.trans ?_ (by assumption))), ?_⟩; clear e0 h0 x0 x1 x2 x3 x4
        refine EWi.call (by rw [HL.out]; rfl) (by rw [HT.out]; rfl) (by simp [wantedV, upd, boolOf]) ?_ ?_
        · intro w0 h0
          unfold runOp
          simp [go_sem]
          rw [HP.out]
          refine (ref_nBlock (noteRef ps) _ w0 (HR.out.ext h0.ext) HN.out.1 HN.out.2.1 HN.out.2.2.1 HN.out.2.2.2.1 HN.out.2.2.2.2).mono ?_
          rintro e w1' ⟨g', rfl, _, hB, he⟩
          exact ⟨_, rfl, he, g', rfl, hB⟩
        intro w5 u w5' h5 he5 hp
        rw [HP.out] at hp
        obtain ⟨g', rfl, hB5⟩ := hp
        have hs5 : Rep.byte.sl w5' (.slice (some ⟨g', 0, none⟩) 128 128) (noteBytes (noteRef ps)) := by
          have := own_bytes (hB5.own (base := 0) (Nat.zero_le _) (by rw [noteBytes_len]; unfold Fit; decide))
          rwa [noteBytes_len] at this
        refine EWi.read (by rw [HL.out]; rfl) (by rw [HT.out]; rfl) (by simp [wantedV, upd, boolOf]) ?_
        intro w6 h6
        have e6 : Ext w5' w6 := h6.2 5 (by simp)
        unfold runPlain
        simp [go_sem, conv_sl (hs5.ext e6)]
        refine ⟨Ext.refl _, ?_⟩
        refine EWi.pure (by rw [HL.out]; rfl) (by rw [HT.out]; rfl) (by simp [wantedV, upd, boolOf_undef, boolOf_bool]) ?_; intro w0; unfold runPlain; simp [go_sem]
        refine EWi.read (by rw [HL.out]; rfl) (by rw [HT.out]; rfl) (by simp [wantedV, upd, boolOf]) ?_
        intro w8 h8
        unfold runPlain
        simp [go_sem, conv_sl (hsl.ext h8.ext)]
        refine ⟨Ext.refl _, ?_⟩
        by_cases heq : noteBytes (noteRef ps) = ps
        · have Heq := Lib.hid heq
          have hq : (noteBytes (noteRef ps) == ps) = true := by rw [heq]; simp
          clear heq
          refine EWi.pure (by rw [HL.out]; rfl) (by rw [HT.out]; rfl) (by simp [wantedV, upd, boolOf_undef, boolOf_bool, hq]) ?_; intro w0; unfold runPlain; simp [go_sem, hq]
          refine EWi.pure (by rw [HL.out]; rfl) (by rw [HT.out]; rfl) rfl ?_; intro w0; unfold runPlain; simp [go_sem, hq]
          refine EWi.fin (by rw [HL.out]; rfl) (by rw [HT.out]; rfl) (by rw [HT.out]; rfl) ?_
          intro W hW
          rw [HQ.out]
          clear hq
          have z := RowAt.ext S.zero hW.ext
          have bx := RowAt.ext S.box hW.ext
          have z0 := z.cell 0
          have z1 := z.cell 1
          have z2 := z.cell 2
          have z3 := z.cell 3
          have z4 := z.cell 4
          have zf0 := z.free 0
          have zf1 := z.free 1
          have zf2 := z.free 2
          have zf3 := z.free 3
          have zf4 := z.free 4
          have b0' := bx.cell 0
          have b1' := bx.cell 1
          have b2' := bx.cell 2
          have b3' := bx.cell 3
          have b4' := bx.cell 4
          simp [zeroNote] at z0 z1 z2 z3 z4 b0' b1' b2' b3' b4'
          go_wp2
          obtain ⟨g1, g2, g3⟩ := row_set5 z (U32 (noteRef ps).id) (U32 (noteRef ps).age) (U32 (noteRef ps).seq) (I (noteRef ps).stripe) (.slice vA k vc)
          refine bodyPost_ret (results_cell_tmp rfl _ _ w.heap.size 83 _ _ _ rfl g1 Try.underlying83 rfl size83) rfl ?_
          refine ⟨?_, Below.grown (Ext.trans S.ext hW.ext) g2 (Ext.trans S.ext hW.ext).size (fun k e => by have := Option.some.inj e; omega)⟩
          unfold RNPost
          rw [if_pos ⟨Hm.out, Heq.out⟩]
          refine ⟨_, rfl, ?_⟩
          have hso := own_grownT (own_ext S.own hW.ext) g2 (fun g e => by have := Option.some.inj e; subst this; exact ⟨_, 83, z, by decide⟩)
          have := recs_sl hso
          rw [← HRe.out] at this
          exact this
        · have Heq := Lib.hid heq
          have hq : (noteBytes (noteRef ps) == ps) = false := by simpa using heq
          clear heq
          refine EWi.pure (by rw [HL.out]; rfl) (by rw [HT.out]; rfl) (by simp [wantedV, upd, boolOf_undef, boolOf_bool, hq]) ?_; intro w0; unfold runPlain; simp [go_sem, hq]
          refine EWi.pure (by rw [HL.out]; rfl) (by rw [HT.out]; rfl) rfl ?_; intro w0; unfold runPlain; simp [go_sem, hq]
          refine EWi.fin (by rw [HL.out]; rfl) (by rw [HT.out]; rfl) (by rw [HT.out]; rfl) ?_
          intro W hW
          rw [HQ.out]
          clear hq
          have z := RowAt.ext S.zero hW.ext
          have z0 := z.cell 0
          have z1 := z.cell 1
          have z2 := z.cell 2
          have z3 := z.cell 3
          have z4 := z.cell 4
          have zf0 := z.free 0
          have zf1 := z.free 1
          have zf2 := z.free 2
          have zf3 := z.free 3
          have zf4 := z.free 4
          simp [zeroNote] at z0 z1 z2 z3 z4
          go_wp2
          obtain ⟨g1, g2, g3⟩ := row_set5 z (U32 0) (U32 0) (U32 0) (I 0) (.slice none 0 0)
          refine bodyPost_ret (results_cell_tmp rfl _ _ w.heap.size 83 _ _ _ rfl g1 Try.underlying83 rfl size83) rfl ?_
          refine ⟨?_, Below.grown (Ext.trans S.ext hW.ext) g2 (Ext.trans S.ext hW.ext).size (fun k e => by have := Option.some.inj e; omega)⟩
          unfold RNPost
          rw [if_neg (fun h => Heq.out h.2)]
          rfl

end Go.Proofs.Ytancfgmaejjooaa
