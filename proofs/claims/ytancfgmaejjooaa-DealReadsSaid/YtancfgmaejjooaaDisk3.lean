/- Devices: what is read at a good place. -/
import Derived.Test.YtancfgmaejjooaaDisk2
import Derived.Test.YtancfgmaejjooaaNote5
import Derived.Laws.EntriesVeiled
set_option linter.unusedVariables false
set_option linter.unusedSimpArgs false
namespace Go.Proofs.Ytancfgmaejjooaa
open Go.RowKit
attribute [local go_sem] Oper.semAt_some

theorem results_block {fn : Func} {p q : Tmp} (h : fn.results = #[.cell p 32, .cell q 37]) (tmps : Array Value) (w : World) (g g' : Nat) (v v' : Value)
    (hp : tmps.getD p undef = .pointer (some ⟨g, 0, none⟩)) (hq : tmps.getD q undef = .pointer (some ⟨g', 0, none⟩)) (hg : RowAt w g #[v] 32) (hg' : RowAt w g' #[v'] 37) :
    (results fn tmps).run Try.prog w = .ok (.tuple #[v, v']) w := by
  have hp' : tmps[p]?.getD undef = .pointer (some ⟨g, 0, none⟩) := by simpa using hp
  have hq' : tmps[q]?.getD undef = .pointer (some ⟨g', 0, none⟩) := by simpa using hq
  have c1 := hg.cell 0
  have c2 := hg'.cell 0
  simp at c1 c2
  simp [results, h, hp', hq', asAddr, go_sem, c1, c2, loadVar, run_underlying Try.underlying32, run_underlying Try.underlying37]

/-- Within disk.Read: the boxes of its words, and the block that lasts. -/
structure RdD (w W : World) (at_ : Nat) (b3 b4 b5 : Nat) (v : Value) (l : List UInt8) (r4 r5 : Value) : Prop where
  ext : Ext w W
  h3 : RowAt W b3 #[I at_] 3
  h4 : RowAt W b4 #[r4] 32
  h5 : RowAt W b5 #[r5] 37
  own : W.ownsRow w.heap.size 5 1 v 128 (l.map B)
  lo : w.heap.size ≤ b4 ∧ w.heap.size ≤ b5 ∧ b4 ≠ b5
theorem RdD.keepsC {w W W' : World} {at_ b3 b4 b5 : Nat} {v : Value} {l : List UInt8} {r4 r5 : Value} (h : RdD w W at_ b3 b4 b5 v l r4 r5) {n0 : Nat} {TS : List TypeId} (hk : KeepsC n0 TS W W') (hn : w.heap.size ≤ n0) (ht : 3 ∉ TS ∧ 32 ∉ TS ∧ 37 ∉ TS ∧ 5 ∉ TS) : RdD w W' at_ b3 b4 b5 v l r4 r5 :=
  ⟨hk.below h.ext hn, h.h3.keepsC hk (.inr ht.1), h.h4.keepsC hk (.inr ht.2.1), h.h5.keepsC hk (.inr ht.2.2.1), ownsRow_keepsC h.own hk ht.2.2.2, h.lo⟩

theorem RdD.put {w W : World} {at_ b3 b4 b5 : Nat} {v : Value} {l : List UInt8} {r4 r5 : Value} (h : RdD w W at_ b3 b4 b5 v l r4 r5) {v' : Value} {l' : List UInt8} (ho : W.ownsRow w.heap.size 5 1 v' 128 (l'.map B)) (u : Value) :
    RdD w ((W.setCell ⟨b4, 0, none⟩ v').setCell ⟨b5, 0, none⟩ u) at_ b3 b4 b5 v' l' v' u ∧ Keeps w.heap.size [32, 37] W ((W.setCell ⟨b4, 0, none⟩ v').setCell ⟨b5, 0, none⟩ u) := by
  have a4 := h.h4.set 0 v'
  have a5 := h.h5.other (p := ⟨b4, 0, none⟩) h.lo.2.2 v'
  have a6 := a5.set 0 u
  have a7 := a4.other (p := ⟨b5, 0, none⟩) (Ne.symm h.lo.2.2) u
  simp at a6 a7
  have hK : Keeps w.heap.size [32, 37] W ((W.setCell ⟨b4, 0, none⟩ v').setCell ⟨b5, 0, none⟩ u) := (Keeps.of_setCell h.lo.1 h.h4 (by simp) v').trans (Keeps.of_setCell h.lo.2.1 a5 (by simp) u)
  exact ⟨⟨hK.below h.ext, h.h3.keeps hK (.inr (by simp)), a7, a6, ownsRow_keepsC ho (.of_keeps hK) (by simp), h.lo⟩, hK⟩

/-- Between two rounds: none of those behind has the place. -/
def DkI (w : World) (ws : List Wr) (at_ : Nat) (b3 b4 b5 : Nat) (v : Value) (l : List UInt8) (pre : List WX) (W : World) : Prop :=
  RdD w W at_ b3 b4 b5 v l (.slice none 0 0) (I 0) ∧ ∀ j (hj : j < ws.length), ws.length ≤ j + pre.length → ws[j].at_ ≠ at_
def DkX (w : World) (at_ : Nat) (b3 b4 b5 : Nat) (l : List UInt8) (c : Code) (pre : List WX) (W : World) : Prop :=
  c = .ret ∧ ∃ v, RdD w W at_ b3 b4 b5 v l v (I 0)

set_option maxRecDepth 100000 in
set_option maxHeartbeats 400000 in
theorem slices_Backward (A : Option Addr) (n c : Nat) (w : World) :
    Calls Try.prog 96 #[.slice A n c] w fun e w' => e = .returned (.func (.func 148) #[] #[.pointer (some ⟨w.heap.size, 0, none⟩)]) ∧ w' = w.alloc (.cells #[.slice A n c] 26) := by
  go_enter Try.func96, Try.ntmps96
  go_wp2
  go_ret
  exact ⟨rfl, rfl⟩

set_option maxRecDepth 100000 in
set_option maxHeartbeats 1000000 in
theorem disk_Read (d : Dk) (bv wv : Value) (at_ : Nat) (w : World) (h : DkAt w bv wv d) (hm : d.may = true) (hd : d.dead = false) (hat : at_ < d.blocks.length) :
    Calls Try.prog 42 #[d.v bv wv, I at_] w fun e w' => ∃ v, e = .returned (.tuple #[v, I 0]) ∧ w'.ownsRow w.heap.size 5 1 v 128 ((d.seen at_).map B) ∧ Ext w w' := by
  have h0 := h
  obtain ⟨⟨A, c, rfl, a1, a2, a3⟩, ⟨A', c', rfl, b1, b2, b3⟩⟩ := h
  have hws : ∀ j (hj : j < d.wait.length), isBlock d.wait[j].data = true := by
    intro j hj
    have := hm
    simp only [Dk.may, Bool.and_eq_true, List.all_eq_true] at this
    have := this.1.2 _ (List.getElem_mem hj)
    simp only [waitOk, Bool.and_eq_true] at this
    exact this.2
  have hseen : d.seen at_ = seenIn at_ d.wait (whole d.blocks[at_]) := by
    unfold Dk.seen
    rw [List.getD_eq_getElem?_getD, List.getElem?_eq_getElem hat]
    rfl
  have Hlast := fun w1 (he : Ext w w1) => disk_Lasting d _ _ at_ w1 (h0.ext he) hm hd hat
  have HL := Lib.hid Hlast
  have Hws := Lib.hid hws
  obtain ⟨l0, hl0⟩ : ∃ l, l = whole d.blocks[at_] := ⟨_, rfl⟩
  rw [← hl0] at HL hseen
  have Hs := Lib.hid hseen
  clear hseen hl0 Hlast hws hm hd hat a3
  refine calls_marks Try.func42 rfl ?_
  simp only [Try.ntmps42, List.size_toArray, List.length_cons, List.length_nil, Nat.reduceAdd, Nat.reduceSub, Array.replicate_succ, Array.replicate_zero, List.push_toArray, List.append_toArray, List.nil_append, List.cons_append]
  go_wp2_with fail
  refine (HL.out _ (by repeat (first | exact Below.refl _ _ | assumption | refine Ext.alloc ?_ _ | refine Ext.drew ?_ | refine Ext.trans ?_ (by assumption)))).mono ?_
  rintro e w1 ⟨v, rfl, ho, he1⟩
  obtain ⟨vA, vn, vc, rfl⟩ : ∃ A n c, v = .slice A n c := by
    rcases ho.2 with ⟨rfl, _⟩ | ⟨g, cap, cur, rfl, _⟩ <;> exact ⟨_, _, _, rfl⟩
  have hE1 : Ext w w1 := (by repeat (first | exact Below.refl _ _ | assumption | refine Ext.alloc ?_ _ | refine Ext.drew ?_ | refine Ext.trans ?_ (by assumption)))
  have hz1 := he1.size
  simp only [World.size_alloc] at hz1
  obtain ⟨wa, hwa⟩ : ∃ wa, wa = (((w.alloc (.cells #[Value.slice A d.blocks.length c, Value.slice A' d.wait.length c', Value.bool d.dead] 28)).alloc (.cells #[I at_] 3)).alloc (.cells #[.slice none 0 0] 32)).alloc (.cells #[.int .i64 0] 37) := ⟨_, rfl⟩
  obtain ⟨hc1, hf1⟩ := bcell he1
  have hR1 : RdD w w1 at_ (w.heap.size + 1) (w.heap.size + 1 + 1) (w.heap.size + 1 + 1 + 1) (.slice vA vn vc) l0 (.slice none 0 0) (I 0) := by
    refine ⟨hE1, RowAt.ext ?_ he1, RowAt.ext ?_ he1, RowAt.ext ?_ he1, own_lower ho (by simp; omega), by omega, by omega, by omega⟩
    · exact ((RowAt.newAt (w.alloc _) _ _ (by simp)).ext (Ext.alloc (Ext.refl _) _)).ext (Ext.alloc (Ext.refl _) _)
    · exact (RowAt.newAt ((w.alloc _).alloc _) _ _ (by simp)).ext (Ext.alloc (Ext.refl _) _)
    · exact RowAt.newAt (((w.alloc _).alloc _).alloc _) _ _ (by simp)
  clear hwa wa
  go_wp2_with fail
  refine (slices_Backward _ _ _ _).mono ?_
  rintro e w2 ⟨rfl, hw2⟩
  have hE2 : Ext w1 w2 := by rw [hw2]; exact Ext.alloc (Ext.refl _) _
  have hbx : Box w2 w1.heap.size 26 (.slice A' d.wait.length c') := by rw [hw2]; exact Box.new _ _ _ _ rfl
  have hR2 := hR1.keepsC (.of_ext (n0 := w.heap.size) (TS := []) hE2) (Nat.le_refl _) (by simp)
  clear hw2 hc1 hf1 hR1
  go_upto_region 5 with fail
  apply wp_rangeB (backward_iter w1.heap.size (.slice A' d.wait.length c') d.wait [32, 37] w w2 ⟨A', c', rfl, b1, b2, b3⟩ (Ext.trans hE1 hE2) hbx (by simp)) (Ext.trans hE1 hE2).size rfl (enters_of Try.func148 (by kernel_rfl) rfl) (fun _ => rfl)
    (fun _ _ _ _ h _ => h) (DkI w d.wait at_ (w.heap.size + 1) (w.heap.size + 1 + 1) (w.heap.size + 1 + 1 + 1) (.slice vA vn vc) l0) (DkX w at_ (w.heap.size + 1) (w.heap.size + 1 + 1) (w.heap.size + 1 + 1 + 1) (d.seen at_))
    (fun _ _ _ h hk => ⟨h.1.keepsC hk (Ext.trans hE1 hE2).size (by simp), h.2⟩) (fun _ _ _ _ h hk => by obtain ⟨hc, v, h⟩ := h; exact ⟨hc, v, h.keepsC hk (Ext.trans hE1 hE2).size (by simp)⟩) ⟨hR2, fun j hj h => by simp at h; omega⟩
    (fun x b9 W => RowAt W b9 #[I x.at_, x.sl] 114) (fun x b A B h hk => h.keepsC hk (.inr (by simp)))
  case hassign =>
    intro l x W K hz hK
    gi_wp2
    obtain ⟨b9, hb9⟩ : ∃ b, b = W.heap.size := ⟨_, rfl⟩
    rw [← hb9]
    exact hK b9 _ (Ext.alloc (Ext.refl _) _) (RowAt.newAt _ _ _ hb9)
  case hbody =>
    rintro l pre x b9 W ⟨hR, hno⟩ ⟨hx, r, hr, hxa, hsl⟩ hrow
    have k0 := hrow.cell 0
    have k1 := hrow.cell 1
    have k3 := hR.h3.cell 0
    simp at k0 k1 k3
    have hi : x.i < d.wait.length := (List.getElem?_eq_some_iff.1 hr).1
    have hr' : d.wait[x.i] = r := (List.getElem?_eq_some_iff.1 hr).2
    have hfit : Fit r.data.length := isBlock_fit (by rw [← hr']; exact Hws.out _ hi)
    have hrl := Hws.out _ hi
    rw [hr'] at hrl
    have hlen := whole_len hrl
    have Hr := Lib.hid hr'
    have Hno := Lib.hid hno
    have Hfit := Lib.hid hfit
    have Hlen := Lib.hid hlen
    have Hxa := Lib.hid hxa
    clear hr' hr hno hfit hrl hlen hxa
    by_cases hq : x.at_ = (at_ : Int)
    · gi_wp2
      refine ⟨trivial, rfl, CallsIn.inRound l (callsIn_wide.2 ((disk_block _ r.data _ (hsl.ext hR.ext) Hfit.out).mono ?_))⟩
      rintro e W1 ⟨v', rfl, ho', he1⟩
      rw [Hlen.out] at ho'
      have hR1 := hR.keepsC (.of_ext (n0 := w.heap.size) (TS := []) he1) (Nat.le_refl _) (by simp)
      have k4 := hR1.h4.cell 0
      have k5 := hR1.h5.cell 0
      have f4 := hR1.h4.free 0
      have f5 := hR1.h5.free 0
      simp at k4 k5
      obtain ⟨vA, vn, vc, rfl⟩ : ∃ A n c, v' = .slice A n c := by
        rcases ho'.2 with ⟨rfl, _⟩ | ⟨g, cap, cur, rfl, _⟩ <;> exact ⟨_, _, _, rfl⟩
      have ho9 := ho'
      replace ho9 := own_lower (base' := w.heap.size) ho9 hR.ext.size
      have hlo := hR.lo
      obtain ⟨hR9, hK9⟩ := hR1.put ho9 (I 0)
      gi_wp2
      refine ⟨(Keeps.of_ext he1).trans hK9, rfl, .slice vA vn vc, ?_⟩
      have hs9 : d.seen at_ = whole r.data := by
        rw [Hs.out, seen_last _ _ _ x.i hi (by rw [Hr.out, ← Hxa.out, hq]) (fun j hj hlt => Hno.out j hj (by omega)), Hr.out]
      rw [hs9]
      exact hR9
    · gi_wp2
      refine ⟨Keeps.refl _ _ _, hR, fun j hj h => ?_⟩
      simp only [List.length_append, List.length_singleton] at h
      rcases Nat.lt_or_ge x.i j with h' | h'
      · exact Hno.out j hj (by omega)
      · obtain rfl : j = x.i := by omega
        rw [Hr.out, ← Hxa.out]
        exact hq
  case hdone =>
    rintro ys W hys ⟨hR, hno⟩ hK
    have hs9 : d.seen at_ = l0 := by
      rw [Hs.out]
      refine seen_none _ _ _ (fun y hy => ?_)
      obtain ⟨j, hj, rfl⟩ := List.getElem_of_mem hy
      exact hno j hj (by omega)
    obtain ⟨hR9, hK9⟩ := hR.put hR.own (I 0)
    have Hs9 := Lib.hid hs9
    have k4 := hR.h4.cell 0
    have k5 := hR.h5.cell 0
    have f4 := hR.h4.free 0
    have f5 := hR.h5.free 0
    simp at k4 k5
    clear hno hs9
    go_wp2_with fail
    have hlt := lt_of_block hK
    have hK' := (hK9.same _ hlt (.inr (fun c t fr e => by rw [hK] at e; cases e))).trans hK
    generalize ((W.setCell _ _).setCell _ _) = W9 at hR9 hK9 hK' ⊢
    have hkc : ∀ B, B ≤ w2.heap.size → KeepsC B [] W9 (W9.putObj w2.heap.size (.deferred none)) := fun B h => .putObj h hK' (fun _ _ _ e => by cases e)
    have hR10 := hR9.keepsC (hkc w.heap.size (Ext.trans hE1 hE2).size) (Nat.le_refl _) (by simp)
    refine marks_ret1 hK' (results_block rfl _ _ _ _ _ _ rfl rfl hR10.h4 hR10.h5) ⟨_, rfl, ?_, hR10.ext⟩
    rw [Hs9.out]
    exact hR10.own
  case hstop =>
    rintro c pre W _ ⟨rfl, v', hR9⟩ hK'
    go_wp2_with fail
    have hkc : ∀ B, B ≤ w2.heap.size → KeepsC B [] W (W.putObj w2.heap.size (.deferred none)) := fun B h => .putObj h hK' (fun _ _ _ e => by cases e)
    have hR10 := hR9.keepsC (hkc w.heap.size (Ext.trans hE1 hE2).size) (Nat.le_refl _) (by simp)
    exact marks_ret1 hK' (results_block rfl _ _ _ _ _ _ rfl rfl hR10.h4 hR10.h5) ⟨_, rfl, hR10.own, hR10.ext⟩

end Go.Proofs.Ytancfgmaejjooaa
