/- The document's devices: one in new memory. -/
import Derived.Test.YtancfgmaejjooaaRef10
import Derived.Test.YtancfgmaejjooaaOwn2
set_option linter.unusedVariables false
set_option linter.unusedSimpArgs false
namespace Go.Proofs.Ytancfgmaejjooaa
open Go.RowKit

/-- Within Twin: the box of what came in, the two rows of what is made. -/
structure TwS (w W : World) (d : Dk) (bv wv : Value) (zb ob : Nat) (o1 o2 : Value) : Prop where
  ext : Ext w W
  box : RowAt W w.heap.size (d.row bv wv) 28
  zero : RowAt W zb #[.slice none 0 0, .slice none 0 0, .bool false] 28
  out : RowAt W ob #[o1, o2, .bool d.dead] 28
  lo : w.heap.size < zb ∧ w.heap.size < ob ∧ zb ≠ ob
theorem TwS.ext' {w W W' : World} {d : Dk} {bv wv : Value} {zb ob : Nat} {o1 o2 : Value} (h : TwS w W d bv wv zb ob o1 o2) (he : Ext W W') : TwS w W' d bv wv zb ob o1 o2 :=
  ⟨Ext.trans h.ext he, h.box.ext he, h.zero.ext he, h.out.ext he, h.lo⟩
theorem TwS.grown {w W W' : World} {d : Dk} {bv wv : Value} {zb ob : Nat} {o1 o2 : Value} (h : TwS w W d bv wv zb ob o1 o2) {o : Option Nat} (hg : W.grownBy W' o) (ho : ∀ g, o = some g → w.heap.size ≤ g ∧ ∃ cur t, RowAt W g cur t ∧ t ≠ 28) : TwS w W' d bv wv zb ob o1 o2 := by
  have hn : ∀ {b : Nat} {cs : Array Value}, RowAt W b cs 28 → o ≠ some b := fun hr e => by
    obtain ⟨_, cur, t, h1, h2⟩ := ho _ e
    exact h1.ne hr h2 rfl
  exact ⟨Below.grown h.ext hg h.ext.size (fun k e => (ho k e).1), h.box.grownO hg (hn h.box), h.zero.grownO hg (hn h.zero), h.out.grownO hg (hn h.out), h.lo⟩
theorem TwS.set {w W : World} {d : Dk} {bv wv : Value} {zb ob : Nat} {o1 o2 : Value} (h : TwS w W d bv wv zb ob o1 o2) :
    (∀ v, TwS w (W.setCell ⟨ob, 0, none⟩ v) d bv wv zb ob v o2) ∧ (∀ v, TwS w (W.setCell ⟨ob, 1, none⟩ v) d bv wv zb ob o1 v) := by
  have hb : ob ≠ w.heap.size := by have := h.lo.2.1; omega
  have hz : ob ≠ zb := Ne.symm h.lo.2.2
  refine ⟨fun v => ⟨h.ext.setCell (Nat.le_of_lt h.lo.2.1) v, h.box.other hb v, h.zero.other hz v, ?_, h.lo⟩, fun v => ⟨h.ext.setCell (Nat.le_of_lt h.lo.2.1) v, h.box.other hb v, h.zero.other hz v, ?_, h.lo⟩⟩
  · have := h.out.set 0 v
    simpa using this
  · have := h.out.set 1 v
    simpa using this
theorem own_set {w : World} {base : Nat} {e : TypeId} {size : Nat} {v : Value} {n : Nat} {cs : List Value} (h : w.ownsRow base e size v n cs) {g : Nat} {cur : Array Value} {t : TypeId} (hr : RowAt w g cur t) (ht : t ≠ e) (j : Nat) (u : Value) : (w.setCell ⟨g, j, none⟩ u).ownsRow base e size v n cs :=
  own_grownT h (o := some g) ⟨rfl, rfl, rfl, by simp [World.setCell], fun k _ hk => heap_setCell_other _ _ _ _ (fun e => hk (by rw [e]))⟩ (fun g' e => by cases e; exact ⟨cur, t, hr, ht⟩)
theorem OwnB.set {base : Nat} {w : World} {v : Value} {bs : List (List UInt8)} (h : OwnB base w v bs) {g : Nat} {cur : Array Value} {t : TypeId} (hr : RowAt w g cur t) (ht : t ≠ 32 ∧ t ≠ 5) (j : Nat) (u : Value) : OwnB base (w.setCell ⟨g, j, none⟩ u) v bs := by
  obtain ⟨ps, h1, h2, h3⟩ := h
  exact ⟨ps, h1, own_set h2 hr ht.1 j u, fun p hp => own_set (h3 p hp) hr ht.2 j u⟩
theorem OwnW.set {base : Nat} {w : World} {v : Value} {ws : List Wr} (h : OwnW base w v ws) {g : Nat} {cur : Array Value} {t : TypeId} (hr : RowAt w g cur t) (ht : t ≠ 114 ∧ t ≠ 5) (j : Nat) (u : Value) : OwnW base (w.setCell ⟨g, j, none⟩ u) v ws := by
  obtain ⟨ps, h1, h2, h3⟩ := h
  exact ⟨ps, h1, own_set h2 hr ht.1 j u, fun p hp => own_set (h3 p hp) hr ht.2 j u⟩
theorem OwnB.grownT {base : Nat} {w w' : World} {v : Value} {bs : List (List UInt8)} (h : OwnB base w v bs) {o : Option Nat} (hg : w.grownBy w' o) (hr : ∀ g, o = some g → ∃ cur t, RowAt w g cur t ∧ t ≠ 32 ∧ t ≠ 5) : OwnB base w' v bs := by
  obtain ⟨ps, h1, h2, h3⟩ := h
  exact ⟨ps, h1, own_grownT h2 hg (fun g e => by obtain ⟨cur, t, a, b, _⟩ := hr g e; exact ⟨cur, t, a, b⟩), fun p hp => own_grownT (h3 p hp) hg (fun g e => by obtain ⟨cur, t, a, _, b⟩ := hr g e; exact ⟨cur, t, a, b⟩)⟩

theorem own_ext {w w' : World} {base : Nat} {e : TypeId} {size : Nat} {v : Value} {n : Nat} {cs : List Value} (h : w.ownsRow base e size v n cs) (he : Ext w w') : w'.ownsRow base e size v n cs := ownsRow_keepsC h (n0 := 0) (TS := []) (.of_ext he) (by simp)
theorem size28 : (Try.prog.info? 28).map (·.size) = some 3 := by kernel_rfl
theorem results_disk {fn : Func} {p : Tmp} (h : fn.results = #[.cell p 28]) (tmps : Array Value) (w : World) (g : Nat) (cs : Array Value) (hcs : cs.size = 3)
    (hp : tmps.getD p undef = ptr g) (hg : RowAt w g cs 28) : (results fn tmps).run Try.prog w = .ok (.agg cs) w := by
  have hp' : tmps[p]?.getD undef = ptr g := by simpa using hp
  have hl := run_loadVar_row w g 28 28 cs (0, 0) _ hg Try.underlying28 rfl (by rw [size28, hcs])
  simp [results, h, hp', asAddr, hl]
theorem small_fit {n : Nat} (h : n ≤ 60000) : Fit n := by unfold Fit; omega

set_option maxRecDepth 100000 in
set_option maxHeartbeats 2000000 in
theorem ref_Twin (d : Dk) (bv wv : Value) (w : World) (h : DkAt w bv wv d) (hs : d.Small) :
    Calls Try.prog 20 #[d.v bv wv] w fun e w' => ∃ bv' wv', e = .returned (d.v bv' wv') ∧ DkAt w' bv' wv' d ∧ Ext w w' := by
  obtain ⟨⟨A, c, rfl, a1, a2, a3⟩, ⟨A', c', rfl, b1, b2, b3⟩⟩ := h
  unfold Cap at a2 b2
  obtain ⟨s1, s2, s3, s4⟩ := hs
  have Hs3 := Lib.hid s3
  have Hs4 := Lib.hid s4
  clear s3 s4
  go_enter Try.func20, Try.ntmps20
  go_wp2
  have hT : TwS w (((w.alloc (Obj.cells #[Value.slice A d.blocks.length c, Value.slice A' d.wait.length c', Value.bool d.dead] 28)).alloc (Obj.cells #[Value.slice none 0 0, Value.slice none 0 0, Value.bool false] 28)).alloc
      (Obj.cells #[Value.slice none 0 0, Value.slice none 0 0, Value.bool d.dead] 28)) d (.slice A d.blocks.length c) (.slice A' d.wait.length c') (w.heap.size + 1) (w.heap.size + 1 + 1) (.slice none 0 0) (.slice none 0 0) := by
    refine ⟨(by repeat (first | exact Below.refl _ _ | assumption | refine Ext.alloc ?_ _ | refine Ext.drew ?_ | refine Ext.trans ?_ (by assumption))), ?_, ?_, ?_, by omega, by omega, by omega⟩
    · exact ((RowAt.newAt w _ _ rfl).ext (Ext.alloc (Ext.refl _) _)).ext (Ext.alloc (Ext.refl _) _)
    · exact (RowAt.newAt (w.alloc _) _ _ (by simp)).ext (Ext.alloc (Ext.refl _) _)
    · exact RowAt.newAt ((w.alloc _).alloc _) _ _ (by simp)
  obtain ⟨zb, hzb⟩ : ∃ zb, zb = w.heap.size + 1 := ⟨_, rfl⟩
  obtain ⟨ob, hob⟩ : ∃ ob, ob = w.heap.size + 1 + 1 := ⟨_, rfl⟩
  rw [← hob, ← hzb] at hT ⊢
  clear hob hzb
  generalize ((w.alloc _).alloc _).alloc _ = W0 at hT ⊢
  go_loopw [4] (fun i wr => ∃ k : Nat, k ≤ d.blocks.length ∧ i = .int .i64 k ∧ ∃ v, TwS w wr d (.slice A d.blocks.length c) (.slice A' d.wait.length c') zb ob v (.slice none 0 0) ∧ OwnB w.heap.size wr v (d.blocks.take k)) (fun i _ => d.blocks.length - (intOf i).toNat)
  case atStart => exact ⟨0, Nat.zero_le _, rfl, _, hT, OwnB.nil _ _⟩
  case round =>
    obtain ⟨k, hk, rfl, v, hS, hO⟩ := hrel
    clear hT
    have k0 := hS.box.cell 0
    simp at k0
    by_cases hlt : k < d.blocks.length
    · have hszk : (d.blocks.take k).length = k := by simp; omega
      obtain ⟨ps, e1, e2, e3⟩ := hO
      have hps : ps.length = k := by rw [← hszk, ← e1]; simp
      rw [hps] at e2
      obtain ⟨vA, vc, rfl⟩ := own_slice e2
      have o0 := hS.out.cell 0
      have f0 := hS.out.free 0
      simp at o0
      obtain ⟨b, off, rfl, hc⟩ := slice_at (a3.ext hS.ext) (by omega)
      obtain ⟨A2, c2, hcj, g1, g2, g3⟩ := hc k hlt
      have hx60 := Hs3.out _ (List.getElem_mem hlt)
      obtain ⟨x, hx⟩ : ∃ x, x = d.blocks[k] := ⟨_, rfl⟩
      rw [← hx] at hcj g1 g3 hx60
      have Hx := Lib.hid hx
      have HS := Lib.hid hS
      have hbs := hS.ext.size
      have he1 := Lib.hid e1
      have he2 := Lib.hid e2
      have he3 := Lib.hid e3
      have hsz := Lib.hid hszk
      have hp := Lib.hid hps
      clear hc hx hS e1 e2 e3 hszk hps
      go_upto_region 6 with fail
      refine wp_lexi (by kernel_rfl) rfl [(0, false, []), (1, true, []), (0, false, []), (0, false, []), (1, true, []), (0, false, []), (0, false, []), (1, true, []), (1, true, []), (1, true, [8]), (2, true, [9]), (0, false, []), (2, false, [10]), (0, false, [12])] (by kernel_rfl) (fun _ _ _ _ => True) ?_
      intro lL lT lP lQ HL HT HP HQ
      refine EWi.pure (by rw [HL.out]; rfl) (by rw [HT.out]; rfl) rfl ?_; intro w0; unfold runPlain; simp [go_sem, hlt]
      refine EWi.read (by rw [HL.out]; rfl) (by rw [HT.out]; rfl) rfl ?_; intro w0 h0; have e0 := h0.ext; have x0 := e0.cells o0; have x1 := e0.cells k0; have x2 := e0.cells hcj; unfold runPlain; simp [go_sem, x0, x1, x2, hlt]; refine ⟨(by repeat (first | exact Below.refl _ _ | assumption | refine Ext.alloc ?_ _ | refine Ext.drew ?_ | refine Ext.trans ?_ (by assumption))), ?_⟩; clear e0 h0 x0 x1 x2
      refine EWi.pure (by rw [HL.out]; rfl) (by rw [HT.out]; rfl) rfl ?_; intro w0; unfold runPlain; simp [go_sem, hlt]
      refine EWi.pure (by rw [HL.out]; rfl) (by rw [HT.out]; rfl) rfl ?_; intro w0; unfold runPlain; simp [go_sem, hlt]
      refine EWi.read (by rw [HL.out]; rfl) (by rw [HT.out]; rfl) rfl ?_; intro w0 h0; have e0 := h0.ext; have x0 := e0.cells o0; have x1 := e0.cells k0; have x2 := e0.cells hcj; unfold runPlain; simp [go_sem, x0, x1, x2, hlt]; refine ⟨(by repeat (first | exact Below.refl _ _ | assumption | refine Ext.alloc ?_ _ | refine Ext.drew ?_ | refine Ext.trans ?_ (by assumption))), ?_⟩; clear e0 h0 x0 x1 x2
      refine EWi.pure (by rw [HL.out]; rfl) (by rw [HT.out]; rfl) rfl ?_; intro w0; unfold runPlain; simp [go_sem, hlt]
      refine EWi.pure (by rw [HL.out]; rfl) (by rw [HT.out]; rfl) rfl ?_; intro w0; unfold runPlain; simp [go_sem, hlt]
      refine EWi.read (by rw [HL.out]; rfl) (by rw [HT.out]; rfl) rfl ?_; intro w0 h0; have e0 := h0.ext; have x0 := e0.cells o0; have x1 := e0.cells k0; have x2 := e0.cells hcj; unfold runPlain; simp [go_sem, x0, x1, x2, hlt]; refine ⟨(by repeat (first | exact Below.refl _ _ | assumption | refine Ext.alloc ?_ _ | refine Ext.drew ?_ | refine Ext.trans ?_ (by assumption))), ?_⟩; clear e0 h0 x0 x1 x2
      refine EWi.read (by rw [HL.out]; rfl) (by rw [HT.out]; rfl) rfl ?_
      intro w0 h0
      refine runPlain_append w.heap.size 5 (.int .u8 0) 1 1 _ _ 32 rfl Try.underlying32 info5 rfl (by decide) (by decide) (.slice none 0 0) 0 [] (by simp [go_sem]) (World.ownsRow_nil _ _ _ _) A2 x.length c2 (x.map B) (by simp [go_sem]) (by simp) (byte_src (g3.ext h0.ext)) (B_one _) (by omega) (Nat.le_trans hbs h0.ext.size) ?_
      intro u w8 hu hg8 _
      have e8 : Ext w0 w8 := grown_ext (by simpa [Value.ownBlock] using hg8)
      rw [Nat.zero_add, List.nil_append] at hu
      obtain ⟨uA, uc, rfl⟩ := own_slice hu
      refine ⟨e8, ?_⟩
      refine EWi.read (by rw [HL.out]; rfl) (by rw [HT.out]; rfl) rfl ?_
      intro w9 h9
      have e9 := h9.2 8 (by simp)
      replace e9 : Ext w8 w9 := e9
      unfold runPlain
      simp [go_sem]
      refine ⟨Ext.alloc (Ext.refl _) _, ?_⟩
      refine EWi.write (by rw [HL.out]; rfl) (by rw [HT.out]; rfl) rfl ?_
      intro w10 h10
      have e10 := h10.2 9 (by simp)
      replace e10 : Ext (w9.alloc (.cells #[.slice uA x.length uc] 32)) w10 := e10
      have hr9 : RowAt w10 w9.heap.size #[.slice uA x.length uc] 32 := (RowAt.new w9 _ _).ext e10
      have hu10 : w10.ownsRow w.heap.size 5 1 (.slice uA x.length uc) x.length (x.map B) := own_ext (own_ext hu e9) (Ext.trans (Ext.alloc (Ext.refl _) _) e10)
      have ho10 := own_ext he2.out h10.ext
      refine runPlain_append w.heap.size 32 (.slice none 0 0) 1 24 _ _ 25 rfl Try.underlying25 info32 rfl (by decide) (by decide) (.slice vA k vc) k (ps.map (·.2)) (by simp [go_sem]) ho10 (some ⟨w9.heap.size, 0, none⟩) 1 1 [.slice uA x.length uc] (by simp [go_sem]) rfl hr9.src (by intro u hu; simp at hu; rcases hu with rfl; rfl) (by omega) (Nat.le_trans hbs h10.ext.size) ?_
      intro v' w11 hv' hg11 hb11
      obtain ⟨vA', vc', rfl⟩ := own_slice hv'
      have hgo : ∀ g, (Value.slice vA k vc).ownBlock = some g → w.heap.size ≤ g ∧ ∃ cur, RowAt w10 g cur 32 := own_block ho10
      have hS11 := (HS.out.ext' h10.ext).grown hg11 (fun g hg => ⟨(hgo g hg).1, by obtain ⟨cur, h⟩ := (hgo g hg).2; exact ⟨cur, 32, h, by decide⟩⟩)
      have hB11 : OwnB w.heap.size w11 (.slice vA' (k + 1) vc') (d.blocks.take k ++ [x]) :=
        OwnB.snoc (w0 := w10) he1.out (fun p hp => own_ext (he3.out p hp) h10.ext) hu10 (by rw [hp.out]; exact hv') (fun u n l h => own_grownT h hg11 (fun g hg => by obtain ⟨cur, h⟩ := (hgo g hg).2; exact ⟨cur, 32, h, by decide⟩))
      refine EWi.pure (by rw [HL.out]; rfl) (by rw [HT.out]; rfl) rfl ?_; intro w0; unfold runPlain; simp [go_sem]
      refine EWi.write (by rw [HL.out]; rfl) (by rw [HT.out]; rfl) rfl ?_
      intro w12 h12
      have e12 := h12.2 10 (by simp)
      replace e12 : Ext w11 w12 := e12
      have hS12 := hS11.ext' e12
      have o0' := hS12.out.cell 0
      have f0' := hS12.out.free 0
      simp at o0'
      unfold runPlain
      simp [go_sem, o0', f0']
      refine EWi.fin (by rw [HL.out]; rfl) (by rw [HT.out]; rfl) (by rw [HT.out]; rfl) ?_
      intro W hW
      have eW := hW.2 12 (by simp)
      replace eW : Ext (w12.setCell ⟨ob, 0, none⟩ (.slice vA' (k + 1) vc')) W := eW
      rw [HQ.out]
      have hS13 := (hS12.set.1 (.slice vA' (k + 1) vc')).ext' eW
      have hB13 := ((hB11.ext e12).set hS12.out (by decide) 0 (.slice vA' (k + 1) vc')).ext eW
      go_wp2
      go_roundw
      case rel =>
        refine ⟨k + 1, by omega, by go_num, _, hS13, ?_⟩
        rw [List.take_succ_eq_append_getElem hlt, ← Hx.out]
        exact hB13
      case measure => simp [intOf]; omega
    · obtain rfl : k = d.blocks.length := by omega
      rw [List.take_length] at hO
      have hcap1 : ∃ A1 c1, v = .slice A1 d.blocks.length c1 := by
        obtain ⟨ps, e1, e2, e3⟩ := hO
        have hps : ps.length = d.blocks.length := by rw [← e1]; simp
        rw [hps] at e2
        exact own_slice e2
      obtain ⟨vA, vc, rfl⟩ := hcap1
      clear k0
      have k0 := hS.box.cell 0
      simp at k0
      go_wp2
      clear k0
      go_loopw [6] (fun i wr => ∃ k : Nat, k ≤ d.wait.length ∧ i = .int .i64 k ∧ ∃ v, TwS w wr d (.slice A d.blocks.length c) (.slice A' d.wait.length c') zb ob (.slice vA d.blocks.length vc) v ∧ OwnB w.heap.size wr (.slice vA d.blocks.length vc) d.blocks ∧ OwnW w.heap.size wr v (d.wait.take k)) (fun i _ => d.wait.length - (intOf i).toNat)
      case atStart => exact ⟨0, Nat.zero_le _, rfl, _, hS, hO, OwnW.nil _ _⟩
      case round =>
        obtain ⟨k, hk, rfl, v, hS, hOB, hO⟩ := hrel
        have k1 := hS.box.cell 1
        simp at k1
        by_cases hlt : k < d.wait.length
        · have hszk : (d.wait.take k).length = k := by simp; omega
          obtain ⟨ps, e1, e2, e3⟩ := hO
          have hps : ps.length = k := by rw [← hszk, ← e1]; simp
          rw [hps] at e2
          obtain ⟨wA, wc, rfl⟩ := own_slice e2
          have o0 := hS.out.cell 1
          have f0 := hS.out.free 1
          simp at o0
          obtain ⟨b, off, rfl, hc⟩ := wr_at (b3.ext hS.ext) (by omega)
          obtain ⟨A2, c2, hc0, hcj, g1, g2, g3⟩ := hc k hlt
          have hx60 := Hs4.out _ (List.getElem_mem hlt)
          obtain ⟨x, hx⟩ : ∃ x, x = d.wait[k] := ⟨_, rfl⟩
          rw [← hx] at hc0 hcj g1 g3 hx60
          have Hx := Lib.hid hx
          have HS := Lib.hid hS
          have HOB := Lib.hid hOB
          have hbs := hS.ext.size
          have he1 := Lib.hid e1
          have he2 := Lib.hid e2
          have he3 := Lib.hid e3
          have hsz := Lib.hid hszk
          have hp := Lib.hid hps
          clear hc hx hS e1 e2 e3 hszk hps hOB
          go_upto_region 11 with fail
          refine wp_lexi (by kernel_rfl) rfl [(0, false, []), (1, true, []), (0, false, []), (1, true, []), (0, false, []), (0, false, []), (0, false, []), (1, true, []), (0, false, []), (0, false, []), (1, true, []), (0, false, []), (0, false, []), (0, false, []), (1, true, []), (1, true, []), (0, false, []), (1, true, [15]), (2, true, [17]), (0, false, []), (2, false, [18]), (0, false, [20])] (by kernel_rfl) (fun _ _ _ _ => True) ?_
          intro lL lT lP lQ HL HT HP HQ
          refine EWi.pure (by rw [HL.out]; rfl) (by rw [HT.out]; rfl) rfl ?_; intro w0; unfold runPlain; simp [go_sem, hlt]
          refine EWi.read (by rw [HL.out]; rfl) (by rw [HT.out]; rfl) rfl ?_; intro w0 h0; have e0 := h0.ext; have x0 := e0.cells o0; have x1 := e0.cells k1; have x2 := e0.cells hc0; have x3 := e0.cells hcj; unfold runPlain; simp [go_sem, x0, x1, x2, x3, hlt]; refine ⟨(by repeat (first | exact Below.refl _ _ | assumption | refine Ext.alloc ?_ _ | refine Ext.drew ?_ | refine Ext.trans ?_ (by assumption))), ?_⟩; clear e0 h0 x0 x1 x2 x3
          refine EWi.pure (by rw [HL.out]; rfl) (by rw [HT.out]; rfl) rfl ?_; intro w0; unfold runPlain; simp [go_sem, hlt]
          refine EWi.read (by rw [HL.out]; rfl) (by rw [HT.out]; rfl) rfl ?_; intro w0 h0; have e0 := h0.ext; have x0 := e0.cells o0; have x1 := e0.cells k1; have x2 := e0.cells hc0; have x3 := e0.cells hcj; unfold runPlain; simp [go_sem, x0, x1, x2, x3, hlt]; refine ⟨(by repeat (first | exact Below.refl _ _ | assumption | refine Ext.alloc ?_ _ | refine Ext.drew ?_ | refine Ext.trans ?_ (by assumption))), ?_⟩; clear e0 h0 x0 x1 x2 x3
          iterate 3 (refine EWi.pure (by rw [HL.out]; rfl) (by rw [HT.out]; rfl) rfl ?_; intro w0; unfold runPlain; simp [go_sem, hlt])
          refine EWi.read (by rw [HL.out]; rfl) (by rw [HT.out]; rfl) rfl ?_; intro w0 h0; have e0 := h0.ext; have x0 := e0.cells o0; have x1 := e0.cells k1; have x2 := e0.cells hc0; have x3 := e0.cells hcj; unfold runPlain; simp [go_sem, x0, x1, x2, x3, hlt]; refine ⟨(by repeat (first | exact Below.refl _ _ | assumption | refine Ext.alloc ?_ _ | refine Ext.drew ?_ | refine Ext.trans ?_ (by assumption))), ?_⟩; clear e0 h0 x0 x1 x2 x3
          refine EWi.pure (by rw [HL.out]; rfl) (by rw [HT.out]; rfl) rfl ?_; intro w0; unfold runPlain; simp [go_sem, hlt]
          refine EWi.pure (by rw [HL.out]; rfl) (by rw [HT.out]; rfl) rfl ?_; intro w0; unfold runPlain; simp [go_sem, hlt]
          refine EWi.read (by rw [HL.out]; rfl) (by rw [HT.out]; rfl) rfl ?_; intro w0 h0; have e0 := h0.ext; have x0 := e0.cells o0; have x1 := e0.cells k1; have x2 := e0.cells hc0; have x3 := e0.cells hcj; unfold runPlain; simp [go_sem, x0, x1, x2, x3, hlt]; refine ⟨(by repeat (first | exact Below.refl _ _ | assumption | refine Ext.alloc ?_ _ | refine Ext.drew ?_ | refine Ext.trans ?_ (by assumption))), ?_⟩; clear e0 h0 x0 x1 x2 x3
          iterate 3 (refine EWi.pure (by rw [HL.out]; rfl) (by rw [HT.out]; rfl) rfl ?_; intro w0; unfold runPlain; simp [go_sem, hlt])
          refine EWi.read (by rw [HL.out]; rfl) (by rw [HT.out]; rfl) rfl ?_; intro w0 h0; have e0 := h0.ext; have x0 := e0.cells o0; have x1 := e0.cells k1; have x2 := e0.cells hc0; have x3 := e0.cells hcj; unfold runPlain; simp [go_sem, x0, x1, x2, x3, hlt]; refine ⟨(by repeat (first | exact Below.refl _ _ | assumption | refine Ext.alloc ?_ _ | refine Ext.drew ?_ | refine Ext.trans ?_ (by assumption))), ?_⟩; clear e0 h0 x0 x1 x2 x3
          refine EWi.read (by rw [HL.out]; rfl) (by rw [HT.out]; rfl) rfl ?_
          intro w0 h0
          refine runPlain_append w.heap.size 5 (.int .u8 0) 1 1 _ _ 32 rfl Try.underlying32 info5 rfl (by decide) (by decide) (.slice none 0 0) 0 [] (by simp [go_sem]) (World.ownsRow_nil _ _ _ _) A2 x.data.length c2 (x.data.map B) (by simp [go_sem]) (by simp) (byte_src (g3.ext h0.ext)) (B_one _) (by omega) (Nat.le_trans hbs h0.ext.size) ?_
          intro u w8 hu hg8 _
          have e8 : Ext w0 w8 := grown_ext (by simpa [Value.ownBlock] using hg8)
          rw [Nat.zero_add, List.nil_append] at hu
          obtain ⟨uA, uc, rfl⟩ := own_slice hu
          refine ⟨e8, ?_⟩
          refine EWi.pure (by rw [HL.out]; rfl) (by rw [HT.out]; rfl) rfl ?_; intro w0; unfold runPlain; simp [go_sem]
          refine EWi.read (by rw [HL.out]; rfl) (by rw [HT.out]; rfl) rfl ?_
          intro w9 h9
          have e9 := h9.2 15 (by simp)
          replace e9 : Ext w8 w9 := e9
          unfold runPlain
          simp [go_sem]
          refine ⟨Ext.alloc (Ext.refl _) _, ?_⟩
          refine EWi.write (by rw [HL.out]; rfl) (by rw [HT.out]; rfl) rfl ?_
          intro w10 h10
          have e10 := h10.2 17 (by simp)
          replace e10 : Ext (w9.alloc (.cells #[I x.at_, .slice uA x.data.length uc] 114)) w10 := e10
          have hr9 : RowAt w10 w9.heap.size #[I x.at_, .slice uA x.data.length uc] 114 := (RowAt.new w9 _ _).ext e10
          have hu10 : w10.ownsRow w.heap.size 5 1 (.slice uA x.data.length uc) x.data.length (x.data.map B) := own_ext (own_ext hu e9) (Ext.trans (Ext.alloc (Ext.refl _) _) e10)
          have ho10 := own_ext he2.out h10.ext
          refine runPlain_append w.heap.size 114 (.agg #[.int .i64 0, .slice none 0 0]) 2 32 _ _ 26 rfl Try.underlying26 info114 rfl (by decide) (by decide) (.slice wA k wc) k (ps.flatMap wpair) (by simp [go_sem]) ho10 (some ⟨w9.heap.size, 0, none⟩) 1 1 [I x.at_, .slice uA x.data.length uc] (by simp [go_sem]) rfl hr9.src (by intro u hu; simp at hu; rcases hu with rfl | rfl <;> rfl) (by omega) (Nat.le_trans hbs h10.ext.size) ?_
          intro v' w11 hv' hg11 hb11
          obtain ⟨vA', vc', rfl⟩ := own_slice hv'
          have hgo : ∀ g, (Value.slice wA k wc).ownBlock = some g → w.heap.size ≤ g ∧ ∃ cur, RowAt w10 g cur 114 := own_block ho10
          have hS11 := (HS.out.ext' h10.ext).grown hg11 (fun g hg => ⟨(hgo g hg).1, by obtain ⟨cur, h⟩ := (hgo g hg).2; exact ⟨cur, 114, h, by decide⟩⟩)
          have hOB11 := (HOB.out.ext h10.ext).grownT hg11 (fun g hg => by obtain ⟨cur, h⟩ := (hgo g hg).2; exact ⟨cur, 114, h, by decide, by decide⟩)
          have hB11 : OwnW w.heap.size w11 (.slice vA' (k + 1) vc') (d.wait.take k ++ [x]) :=
            OwnW.snoc (w0 := w10) he1.out (fun p hp => own_ext (he3.out p hp) h10.ext) hu10 (by rw [hp.out]; exact hv') (fun u n l h => own_grownT h hg11 (fun g hg => by obtain ⟨cur, h⟩ := (hgo g hg).2; exact ⟨cur, 114, h, by decide⟩))
          refine EWi.pure (by rw [HL.out]; rfl) (by rw [HT.out]; rfl) rfl ?_; intro w0; unfold runPlain; simp [go_sem]
          refine EWi.write (by rw [HL.out]; rfl) (by rw [HT.out]; rfl) rfl ?_
          intro w12 h12
          have e12 := h12.2 18 (by simp)
          replace e12 : Ext w11 w12 := e12
          have hS12 := hS11.ext' e12
          have o0' := hS12.out.cell 1
          have f0' := hS12.out.free 1
          simp at o0'
          unfold runPlain
          simp [go_sem, o0', f0']
          refine EWi.fin (by rw [HL.out]; rfl) (by rw [HT.out]; rfl) (by rw [HT.out]; rfl) ?_
          intro W hW
          have eW := hW.2 20 (by simp)
          replace eW : Ext (w12.setCell ⟨ob, 1, none⟩ (.slice vA' (k + 1) vc')) W := eW
          rw [HQ.out]
          have hS13 := (hS12.set.2 (.slice vA' (k + 1) vc')).ext' eW
          have hB13 := ((hB11.ext e12).set hS12.out (by decide) 1 (.slice vA' (k + 1) vc')).ext eW
          have hOB13 := ((hOB11.ext e12).set hS12.out (by decide) 1 (.slice vA' (k + 1) vc')).ext eW
          go_wp2
          go_roundw
          case rel =>
            refine ⟨k + 1, by omega, by go_num, _, hS13, hOB13, ?_⟩
            rw [List.take_succ_eq_append_getElem hlt, ← Hx.out]
            exact hB13
          case measure => simp [intOf]; omega
        · obtain rfl : k = d.wait.length := by omega
          rw [List.take_length] at hO
          have hcap1 : ∃ A1 c1, v = .slice A1 d.wait.length c1 := by
            obtain ⟨ps, e1, e2, e3⟩ := hO
            have hps : ps.length = d.wait.length := by rw [← e1]; simp
            rw [hps] at e2
            exact own_slice e2
          obtain ⟨wA, wc, rfl⟩ := hcap1
          have o0 := hS.out.cell 0
          have o1 := hS.out.cell 1
          have o2 := hS.out.cell 2
          have z0 := hS.zero.cell 0
          have z1 := hS.zero.cell 1
          have z2 := hS.zero.cell 2
          have zf0 := hS.zero.free 0
          have zf1 := hS.zero.free 1
          have zf2 := hS.zero.free 2
          simp at o0 o1 o2 z0 z1 z2
          go_wp2
          have t0 := hS.zero.set 0 (.slice vA d.blocks.length vc)
          simp at t0
          have t1 := t0.set 1 (.slice wA d.wait.length wc)
          simp at t1
          have t2 := t1.set 2 (.bool d.dead)
          simp at t2
          refine bodyPost_ret (results_disk rfl _ _ zb _ rfl rfl t2) rfl ?_
          have hzw : w.heap.size ≤ zb := Nat.le_of_lt hS.lo.1
          exact ⟨_, _, rfl, ⟨(((hOB.set hS.zero (by decide) 0 _).set t0 (by decide) 1 _).set t1 (by decide) 2 _).sl, (((hO.set hS.zero (by decide) 0 _).set t0 (by decide) 1 _).set t1 (by decide) 2 _).sl⟩, ((hS.ext.setCell hzw _).setCell hzw _).setCell hzw _⟩

end Go.Proofs.Ytancfgmaejjooaa
