/- The law DealReads: the program's and the document's reading agree; what the program has read, in the call's own memory. -/
import Derived.Test.YtancfgmaejjooaaDeal4
import Derived.Test.YtancfgmaejjooaaRef22
import Derived.Test.YtancfgmaejjooaaRef21
import Derived.Test.YtancfgmaejjooaaRef13
import Derived.Test.YtancfgmaejjooaaRef12
set_option linter.unusedVariables false
set_option linter.unusedSimpArgs false
namespace Go.Proofs.Ytancfgmaejjooaa
open Go.RowKit

theorem read_both (c : Cfg) (d : Dk) (n : Nat) (hc : c.may = true) : (readsTo c d n (lastRec c d n) ↔ standsRef c d n = true) ∧ (readsTo c d n (lastRec c d n) → noteRef (ringB c d n 0) = noteAt c d n ∧ lastRec c d n = (noteAt c d n).recs.length) := by
  obtain ⟨g1, g2⟩ := noteRef_good (ringB c d n 0)
  unfold readsTo standsRef
  by_cases hg : noteGood (ringB c d n 0)
  · have e := g2 hg
    obtain ⟨f1, f2⟩ := stands_few c hc (noteAt c d n) hg.1 (ringB c d n)
    have hl : lastRec c d n = min (noteAt c d n).recs.length (c.log.toNat - 1) := rfl
    rw [← hl] at f1 f2
    rw [e]
    have hm : (noteOf (ringB c d n 0)).may = true ∧ noteBytes (noteOf (ringB c d n 0)) = ringB c d n 0 := hg
    refine ⟨?_, fun h => ⟨rfl, f2 (f1 ▸ h.2.2)⟩⟩
    simp only [Bool.and_eq_true, decide_eq_true_eq]
    constructor
    · rintro ⟨_, h2, h3⟩
      exact ⟨⟨hm.1, hm.2, h2⟩, f1 ▸ h3⟩
    · rintro ⟨⟨_, _, h2⟩, h3⟩
      exact ⟨hg, h2, f1.trans h3⟩
  · refine ⟨⟨fun h => absurd h.1 hg, fun h => ?_⟩, fun h => absurd h.1 hg⟩
    simp only [Bool.and_eq_true, decide_eq_true_eq] at h
    exact absurd (g1.2 ⟨h.1.1, h.1.2.1⟩) hg

/-- A block of the call's own: its first byte can be read and written. -/
def Byt (base : Nat) (W : World) (v : Value) : Prop := ∃ g cap cur k, v = .slice (some ⟨g, 0, none⟩) 128 cap ∧ base ≤ g ∧ RowAt W g cur 5 ∧ cur[0]? = some (.int .u8 k)
theorem Byt.ext {base : Nat} {W W' : World} {v : Value} (h : Byt base W v) (he : Ext W W') : Byt base W' v := by
  obtain ⟨g, cap, cur, k, h1, h2, h3, h4⟩ := h
  exact ⟨g, cap, cur, k, h1, h2, h3.ext he, h4⟩
theorem Byt.set {base : Nat} {W : World} {v : Value} (h : Byt base W v) (g' : Nat) (k' : Int) : Byt base (W.setCell ⟨g', 0, none⟩ (.int .u8 k')) v := by
  obtain ⟨g, cap, cur, k, h1, h2, h3, h4⟩ := h
  by_cases e : g' = g
  · subst e
    have h5 := h3.set 0 (.int .u8 k')
    have h6 : 0 < cur.size := (Array.getElem?_eq_some_iff.1 h4).1
    exact ⟨g', cap, _, k', h1, h2, h5, by rw [Array.getElem?_setIfInBounds_self_of_lt h6]⟩
  · exact ⟨g, cap, cur, k, h1, h2, h3.other (p := ⟨g', 0, none⟩) e _, h4⟩
theorem byt_of {base : Nat} {W : World} {v : Value} {l : List UInt8} (h : W.ownsRow base 5 1 v 128 (l.map B)) : Byt base W v := by
  obtain ⟨h1, ⟨_, h0⟩ | ⟨g, cap, cur, rfl, hb, hh, hnc, hcm, hcs, htake⟩⟩ := h
  · omega
  · have hl : 0 < l.length := by have : l.length = 128 * 1 := by simpa using h1
                                 omega
    refine ⟨g, cap, cur, (l[0].toNat : Int), rfl, hb, hh, ?_⟩
    have e : (cur.toList.take (128 * 1))[0]? = (l.map B)[0]? := by rw [htake]
    rw [List.getElem?_take_of_lt (by decide)] at e
    simp [List.getElem?_eq_getElem hl] at e
    simpa using e

/-- What the program has read: as a deal, and its blocks. -/
structure GotX (base : Nat) (W : World) (sv bv pv : Value) (D : DealD) (vals : List Value) : Prop where
  at_ : DealAt W sv bv pv D
  row : W.ownsRow base 32 1 bv D.blocks.length vals
  each : ∀ v ∈ vals, Byt base W v
theorem GotX.ext {base : Nat} {W W' : World} {sv bv pv : Value} {D : DealD} {vals : List Value} (h : GotX base W sv bv pv D vals) (he : Ext W W') : GotX base W' sv bv pv D vals :=
  ⟨h.at_.ext he, own_ext h.row he, fun v hv => (h.each v hv).ext he⟩

def zeroD : DealD := ⟨0, [], [], []⟩
theorem zeroD_at (W : World) : DealAt W (.slice none 0 0) (.slice none 0 0) (.slice none 0 0) zeroD :=
  ⟨⟨none, 0, rfl, Nat.le_refl _, by unfold Cap; omega, .inl rfl⟩, ⟨none, 0, rfl, Nat.le_refl _, by unfold Cap; omega, .inl rfl⟩, ⟨none, 0, rfl, Nat.le_refl _, by unfold Cap; omega, .inl rfl⟩⟩
theorem zeroD_got (base : Nat) (W : World) : GotX base W (.slice none 0 0) (.slice none 0 0) (.slice none 0 0) zeroD [] := ⟨zeroD_at W, World.ownsRow_nil _ _ _ _, by simp⟩

/-- One answer for both. -/
structure Answer (c : Cfg) (d : Dk) (at_ : Int) where
  age : Nat
  seq : Nat
  many : Int
  err : Int
  deal : DealD
open Classical in
noncomputable def answer (c : Cfg) (d : Dk) (at_ : Int) : Answer c d at_ :=
  if askErr c d at_ ≠ 0 then ⟨0, 0, 0, askErr c d at_, zeroD⟩
  else if standsRef c d at_.toNat = true then ⟨(noteAt c d at_.toNat).age, (noteAt c d at_.toNat).seq, ((1 + (noteAt c d at_.toNat).recs.length : Nat) : Int), 0, dealTo (noteAt c d at_.toNat).stripe (noteAt c d at_.toNat).recs (ringB c d at_.toNat) (noteAt c d at_.toNat).recs.length⟩
  else ⟨0, 0, 0, 130, zeroD⟩

def AnsX (c : Cfg) (d : Dk) (at_ : Int) (base : Nat) (e : Ending) (w' : World) : Prop :=
  ∃ sv bv pv vals, e = .returned (.tuple #[.agg #[U32 (answer c d at_).age, U32 (answer c d at_).seq, I (answer c d at_).deal.stripe, sv, bv, pv], I (answer c d at_).many, I (answer c d at_).err]) ∧ GotX base w' sv bv pv (answer c d at_).deal vals
def AnsY (c : Cfg) (d : Dk) (at_ : Int) (e : Ending) (w' : World) : Prop :=
  ∃ sv bv pv, e = .returned (.tuple #[.agg #[U32 (answer c d at_).age, U32 (answer c d at_).seq, I (answer c d at_).deal.stripe, sv, bv, pv], I (answer c d at_).many, I (answer c d at_).err]) ∧ DealAt w' sv bv pv (answer c d at_).deal

theorem ansY_of {c : Cfg} {d : Dk} {at_ : Int} {e : Ending} {w' : World} (h : RReadPost c d at_ e w') : AnsY c d at_ e w' := by
  unfold RReadPost at h
  unfold AnsY answer
  by_cases h1 : askErr c d at_ ≠ 0
  · rw [if_pos h1] at h ⊢
    exact ⟨_, _, _, h, zeroD_at w'⟩
  · rw [if_neg h1] at h ⊢
    by_cases h2 : standsRef c d at_.toNat = true
    · rw [if_pos h2] at h ⊢
      have hc := (ask_good (by simpa using h1)).1
      obtain ⟨g1, g2⟩ := read_both c d at_.toNat hc
      obtain ⟨e1, e2⟩ := g2 (g1.2 h2)
      rw [e1] at h
      obtain ⟨sv, bv, pv, h3, h4⟩ := h
      have hs := (dealTo_most (noteAt c d at_.toNat).stripe (noteAt c d at_.toNat).recs (ringB c d at_.toNat) (noteAt c d at_.toNat).recs.length).2.2
      refine ⟨sv, bv, pv, ?_, h4⟩
      simp only [hs]
      exact h3
    · rw [if_neg h2] at h ⊢
      exact ⟨_, _, _, h, zeroD_at w'⟩

theorem dealTo_128 (s : Int) (rs : List Rc) (bs : Nat → List UInt8) (hb : ∀ i, (bs i).length = 128) : ∀ k, (∀ b ∈ (dealTo s rs bs k).blocks, b.length = 128) ∧ ((dealTo s rs bs k).parity.length = 0 ∨ (dealTo s rs bs k).parity.length = 128)
  | 0 => by simp [dealTo]
  | k + 1 => by
    obtain ⟨h1, h2⟩ := dealTo_128 s rs bs hb k
    have hr : (recBlock (recAt rs k) (bs (k + 1))).length = 128 := by unfold recBlock; split <;> simp [hb]
    simp only [dealTo, addRec]
    split
    · exact ⟨h1, .inr hr⟩
    · refine ⟨fun b hb' => ?_, h2⟩
      simp at hb'
      rcases hb' with hb' | rfl
      · exact h1 b hb'
      · exact hr

theorem ansX_of {c : Cfg} {d : Dk} {at_ : Int} {base : Nat} {e : Ending} {w' : World} (h : DReadPost c d at_ base e w') : AnsX c d at_ base e w' := by
  unfold DReadPost at h
  unfold AnsX answer
  by_cases h1 : askErr c d at_ ≠ 0
  · rw [if_pos h1] at h ⊢
    exact ⟨_, _, _, _, h, zeroD_got base w'⟩
  · rw [if_neg h1] at h ⊢
    obtain ⟨hc, hd, hlen, _, hlt, _⟩ := ask_good (by simpa using h1)
    obtain ⟨g1, g2⟩ := read_both c d at_.toNat hc
    by_cases h2 : standsRef c d at_.toNat = true
    · rw [if_pos h2]
      rcases h with ⟨_, sv, bv, pv, xs, pa, h3, h4⟩ | ⟨h3, _⟩
      · obtain ⟨_, e2⟩ := g2 (g1.2 h2)
        rw [e2] at h4
        have hs := (dealTo_most (noteAt c d at_.toNat).stripe (noteAt c d at_.toNat).recs (ringB c d at_.toNat) (noteAt c d at_.toNat).recs.length).2.2
        have hl := may_log hc
        have hbl : ∀ i, (ringB c d at_.toNat i).length = 128 := fun i => seen_len d hd _ (by
          have := Nat.mod_lt (at_.toNat + i) (show 0 < c.log.toNat by omega)
          omega)
        obtain ⟨k1, k2⟩ := dealTo_128 (noteAt c d at_.toNat).stripe (noteAt c d at_.toNat).recs (ringB c d at_.toNat) hbl (noteAt c d at_.toNat).recs.length
        refine ⟨sv, bv, pv, xs.map RX.v, ?_, h4.at k1 k2, h4.blocks, fun v hv => ?_⟩
        · simp only [hs]
          exact h3
        · obtain ⟨x, hx, rfl⟩ := List.mem_map.1 hv
          obtain ⟨j, hj, rfl⟩ := List.getElem_of_mem hx
          exact byt_of (h4.each j hj (by rw [← h4.many]; exact hj))
      · exact absurd (g1.2 h2) h3
    · rw [if_neg h2]
      rcases h with ⟨h3, _⟩ | ⟨_, h3⟩
      · exact absurd (g1.1 h3) h2
      · exact ⟨_, _, _, _, h3, zeroD_got base w'⟩

theorem deal_Read_any (c : Cfg) (d : Dk) (bv wv : Value) (at_ : Int) (w : World) (h : DkAt w bv wv d) :
    Calls Try.prog 21 #[c.v, d.v bv wv, I at_] w fun e w' => AnsX c d at_ w.heap.size e w' ∧ Ext w w' := by
  by_cases hk : askErr c d at_ = 0
  · obtain ⟨a, rfl⟩ : ∃ a : Nat, at_ = a := ⟨at_.toNat, by have := (ask_good hk).2.2.2.1; omega⟩
    exact (deal_Read_good c d bv wv a w h hk).mono fun e w' ⟨h1, h2⟩ => ⟨ansX_of h1, h2⟩
  · exact (deal_Read_wrong c d bv wv at_ w h hk).mono fun e w' ⟨h1, h2⟩ => ⟨ansX_of h1, h2⟩
theorem ref_dlRead_any (c : Cfg) (d : Dk) (bv wv : Value) (at_ : Int) (w : World) (h : DkAt w bv wv d) :
    Calls Try.prog 22 #[c.v, d.v bv wv, I at_] w fun e w' => AnsY c d at_ e w' ∧ Ext w w' :=
  (ref_dlRead c d bv wv at_ w h).mono fun e w' ⟨h1, h2⟩ => ⟨ansY_of h1, h2⟩

end Go.Proofs.Ytancfgmaejjooaa
