/- The document's deals: what stands at a place; how it lies in memory between two records. -/
import Derived.Test.YtancfgmaejjooaaRef16
import Derived.Test.YtancfgmaejjooaaRef18
set_option linter.unusedVariables false
set_option linter.unusedSimpArgs false
namespace Go.Proofs.Ytancfgmaejjooaa
open Go.RowKit

/-- A deal in the call's own memory. -/
structure OwnDl (base : Nat) (w : World) (sv bv pv : Value) (d : DealD) : Prop where
  slots : w.ownsRow base 3 1 sv d.slots.length (d.slots.map I)
  blocks : OwnB base w bv d.blocks
  parity : (pv = .slice none 0 0 ∧ d.parity = []) ∨ w.ownsRow base 5 1 pv d.parity.length (d.parity.map B)
theorem OwnDl.ext {base : Nat} {w w' : World} {sv bv pv : Value} {d : DealD} (h : OwnDl base w sv bv pv d) (he : Ext w w') : OwnDl base w' sv bv pv d :=
  ⟨own_ext h.slots he, h.blocks.ext he, h.parity.imp id (fun h => own_ext h he)⟩
theorem OwnDl.at {base : Nat} {w : World} {sv bv pv : Value} {d : DealD} (h : OwnDl base w sv bv pv d) : DealAt w sv bv pv d := by
  refine ⟨own_sl1 rfl h.slots d.slots rfl (fun j hj hc => by show _ = _; simp), h.blocks.sl, ?_⟩
  rcases h.parity with ⟨rfl, h0⟩ | h
  · rw [h0]
    exact ⟨none, 0, rfl, Nat.le_refl _, by unfold Cap; omega, .inl rfl⟩
  · exact own_bytes h

structure StS (w1 W : World) (fb : Nat) (a q : Nat) (s : Int) (sv bv pv : Value) (d : DealD) : Prop where
  ext : Ext w1 W
  f : RowAt W fb #[U32 a, U32 q, I s, sv, bv, pv] 36
  own : OwnDl w1.heap.size W sv bv pv d
  lo : w1.heap.size ≤ fb
theorem StS.ext' {w1 W W' : World} {fb a q : Nat} {s : Int} {sv bv pv : Value} {d : DealD} (h : StS w1 W fb a q s sv bv pv d) (he : Ext W W') : StS w1 W' fb a q s sv bv pv d :=
  ⟨Ext.trans h.ext he, h.f.ext he, h.own.ext he, h.lo⟩

/-- The parity is put in. -/
theorem StS.par {w1 W : World} {fb a q : Nat} {s : Int} {sv bv pv v : Value} {d : DealD} {l : List UInt8} (h : StS w1 W fb a q s sv bv pv d) (hv : W.ownsRow w1.heap.size 5 1 v l.length (l.map B)) :
    StS w1 (W.setCell ⟨fb, 5, none⟩ v) fb a q s sv bv v { d with parity := l } := by
  refine ⟨h.ext.setCell h.lo _, ?_, ⟨own_set h.own.slots h.f (by decide) 5 _, h.own.blocks.set h.f (by decide) 5 _, .inr (own_set hv h.f (by decide) 5 _)⟩, h.lo⟩
  have := h.f.set 5 v
  simpa using this
/-- A slot is put in: the list has grown, it is stored. -/
theorem StS.slot {w1 W W' W2 : World} {fb a q : Nat} {s : Int} {sv bv pv v : Value} {d : DealD} {x : Int} (h : StS w1 W fb a q s sv bv pv d) (hg : W.grownBy W' sv.ownBlock) (hv : W'.ownsRow w1.heap.size 3 1 v (d.slots.length + 1) (d.slots.map I ++ [I x])) (he : Ext W' W2) :
    RowAt W2 fb #[U32 a, U32 q, I s, sv, bv, pv] 36 ∧ StS w1 (W2.setCell ⟨fb, 3, none⟩ v) fb a q s v bv pv { d with slots := d.slots ++ [x] } := by
  have hgo := own_block h.own.slots
  have hf : RowAt W2 fb #[U32 a, U32 q, I s, sv, bv, pv] 36 := (h.f.grownO hg (fun e => by
    obtain ⟨_, cur, h1⟩ := hgo _ e
    exact h1.ne h.f (by decide) rfl)).ext he
  have hr : ∀ t : TypeId, t ≠ 3 → ∀ g, sv.ownBlock = some g → ∃ cur t', RowAt W g cur t' ∧ t' ≠ t := fun t ht g e => by
    obtain ⟨_, cur, h1⟩ := hgo _ e
    exact ⟨cur, 3, h1, Ne.symm ht⟩
  have hb : OwnB w1.heap.size W2 bv d.blocks := (h.own.blocks.grownT hg (fun g e => by
    obtain ⟨_, cur, h1⟩ := hgo _ e
    exact ⟨cur, 3, h1, by decide, by decide⟩)).ext he
  have hp : (pv = .slice none 0 0 ∧ d.parity = []) ∨ W2.ownsRow w1.heap.size 5 1 pv d.parity.length (d.parity.map B) := h.own.parity.imp id (fun k => own_ext (own_grownT k hg (hr 5 (by decide))) he)
  have hE : Ext w1 W2 := Ext.trans (Below.grown h.ext hg h.ext.size (fun k e => (hgo k e).1)) he
  refine ⟨hf, hE.setCell h.lo _, ?_, ⟨?_, hb.set hf (by decide) 3 _, hp.imp id (fun k => own_set k hf (by decide) 3 _)⟩, h.lo⟩
  · have := hf.set 3 v
    simpa using this
  · have := own_set (own_ext hv he) hf (by decide) 3 v
    simpa using this
/-- A block is put in. -/
theorem StS.blk {w1 W W' : World} {fb a q : Nat} {s : Int} {sv bv pv v u : Value} {d : DealD} {l : List UInt8} {ps : List (List UInt8 × Value)} (h : StS w1 W fb a q s sv bv pv d) (hg : W.grownBy W' bv.ownBlock)
    (e : ps.map (·.1) = d.blocks) (ho : W.ownsRow w1.heap.size 32 1 bv ps.length (ps.map (·.2))) (hp : ∀ p ∈ ps, W.ownsRow w1.heap.size 5 1 p.2 p.1.length (p.1.map B)) (hu : W.ownsRow w1.heap.size 5 1 u l.length (l.map B))
    (hv : W'.ownsRow w1.heap.size 32 1 v (ps.length + 1) (ps.map (·.2) ++ [u])) :
    RowAt W' fb #[U32 a, U32 q, I s, sv, bv, pv] 36 ∧ StS w1 (W'.setCell ⟨fb, 4, none⟩ v) fb a q s sv v pv { d with blocks := d.blocks ++ [l] } := by
  have hgo := own_block ho
  have hf : RowAt W' fb #[U32 a, U32 q, I s, sv, bv, pv] 36 := h.f.grownO hg (fun e => by
    obtain ⟨_, cur, h1⟩ := hgo _ e
    exact h1.ne h.f (by decide) rfl)
  have hr : ∀ t : TypeId, t ≠ 32 → ∀ g, bv.ownBlock = some g → ∃ cur t', RowAt W g cur t' ∧ t' ≠ t := fun t ht g e => by
    obtain ⟨_, cur, h1⟩ := hgo _ e
    exact ⟨cur, 32, h1, Ne.symm ht⟩
  have hE : Ext w1 W' := Below.grown h.ext hg h.ext.size (fun k e => (hgo k e).1)
  refine ⟨hf, hE.setCell h.lo _, ?_, ⟨own_set (own_grownT h.own.slots hg (hr 3 (by decide))) hf (by decide) 4 _, ?_, h.own.parity.imp id (fun k => own_set (own_grownT k hg (hr 5 (by decide))) hf (by decide) 4 _)⟩, h.lo⟩
  · have := hf.set 4 v
    simpa using this
  · exact (OwnB.snoc (w0 := W) e hp hu hv (fun u n l k => own_grownT k hg (hr 5 (by decide)))).set hf (by decide) 4 _

theorem recGood_of (r : Rc) (b : List UInt8) (y : Int) (si ri : Int) (hy : y = ((b.getD 0 0).toNat : Int)) (hs : si = (overB 0 b : Int)) (hr : ri = (r.sum : Int)) :
    recGood r b = (decide (si = ri) && decide (y ≠ 78) && (!r.bare || decide (y = 0))) := by
  unfold recGood
  have e1 : (overB 0 b == r.sum) = decide (si = ri) := by rw [Bool.eq_iff_iff]; simp; omega
  have e2 : (b.getD 0 0 != 78) = decide (y ≠ 78) := by
    rw [Bool.eq_iff_iff]
    simp only [bne_iff_ne, decide_eq_true_eq]
    rw [hy]
    constructor
    · intro h e
      refine h ?_
      rw [← UInt8.toNat_inj]
      have : (78 : UInt8).toNat = 78 := rfl
      omega
    · intro h e
      rw [e] at h
      exact h rfl
  have e3 : (b.getD 0 0 == 0) = decide (y = 0) := by
    rw [Bool.eq_iff_iff]
    simp only [beq_iff_eq, decide_eq_true_eq]
    rw [hy]
    constructor
    · intro e
      rw [e]
      rfl
    · intro e
      rw [← UInt8.toNat_inj]
      have : (0 : UInt8).toNat = 0 := rfl
      omega
  rw [e1, e2, e3]

/-- What Stands answers. -/
def standsRef (c : Cfg) (d : Dk) (at_ : Nat) : Bool :=
  decide ((noteRef (ringB c d at_ 0)).may = true ∧ noteBytes (noteRef (ringB c d at_ 0)) = ringB c d at_ 0 ∧ (noteRef (ringB c d at_ 0)).id = c.id) && standsTo c (noteRef (ringB c d at_ 0)) (ringB c d at_) (noteRef (ringB c d at_ 0)).recs.length
def StPost (c : Cfg) (d : Dk) (at_ : Nat) (e : Ending) (w' : World) : Prop :=
  if standsRef c d at_ = true then ∃ sv bv pv base, e = .returned (.tuple #[.agg #[U32 (noteRef (ringB c d at_ 0)).age, U32 (noteRef (ringB c d at_ 0)).seq, I (noteRef (ringB c d at_ 0)).stripe, sv, bv, pv], I ((1 + (noteRef (ringB c d at_ 0)).recs.length : Nat) : Int)]) ∧
    OwnDl base w' sv bv pv (dealTo (noteRef (ringB c d at_ 0)).stripe (noteRef (ringB c d at_ 0)).recs (ringB c d at_) (noteRef (ringB c d at_ 0)).recs.length)
  else e = .returned (.tuple #[.agg zeroF, I 0])

theorem slotIs {x : UInt8} (h : (x.toNat : Int) = 255) : x = 255 := by rw [← UInt8.toNat_inj]; have : (255 : UInt8).toNat = 255 := rfl; omega
theorem goodTo_le {rs : List Rc} {bs : Nat → List UInt8} {k j : Nat} (h : goodTo rs bs k = true) (hj : j < k) : recGood (recAt rs j) (bs (j + 1)) = true := by
  induction k with
  | zero => omega
  | succ k ih =>
    simp only [goodTo, Bool.and_eq_true] at h
    by_cases e : j = k
    · subst e; exact h.2
    · exact ih h.1 (by omega)
theorem dealTo_most (s : Int) (rs : List Rc) (bs : Nat → List UInt8) : ∀ k, (dealTo s rs bs k).slots.length ≤ k ∧ (dealTo s rs bs k).blocks.length ≤ k ∧ (dealTo s rs bs k).stripe = s
  | 0 => by simp [dealTo]
  | k + 1 => by
    have ih := dealTo_most s rs bs k
    simp only [dealTo, addRec]
    split
    · exact ⟨by simp; omega, by simp; omega, ih.2.2⟩
    · exact ⟨by simp; omega, by simp; omega, ih.2.2⟩
theorem OwnDl.set {base : Nat} {w : World} {sv bv pv : Value} {d : DealD} (h : OwnDl base w sv bv pv d) {g : Nat} {cur : Array Value} (hr : RowAt w g cur 36) (j : Nat) (u : Value) : OwnDl base (w.setCell ⟨g, j, none⟩ u) sv bv pv d :=
  ⟨own_set h.slots hr (by decide) j u, h.blocks.set hr (by decide) j u, h.parity.imp id (fun k => own_set k hr (by decide) j u)⟩
theorem OwnDl.set6 {base : Nat} {w : World} {sv bv pv : Value} {d : DealD} (h : OwnDl base w sv bv pv d) {b : Nat} {cur : Array Value} (hr : RowAt w b cur 36) (v0 v1 v2 v3 v4 v5 : Value) :
    OwnDl base ((((((w.setCell ⟨b, 0, none⟩ v0).setCell ⟨b, 1, none⟩ v1).setCell ⟨b, 2, none⟩ v2).setCell ⟨b, 3, none⟩ v3).setCell ⟨b, 4, none⟩ v4).setCell ⟨b, 5, none⟩ v5) sv bv pv d := by
  have h0 := hr.set 0 v0
  have h1 := h0.set 1 v1
  have h2 := h1.set 2 v2
  have h3 := h2.set 3 v3
  have h4 := h3.set 4 v4
  exact (((((h.set hr 0 v0).set h0 1 v1).set h1 2 v2).set h2 3 v3).set h3 4 v4).set h4 5 v5
theorem Keeps.toExt0 {n0 : Nat} {A B : World} (h : Keeps n0 [] A B) : Ext A B := ⟨h.os, h.tape, h.output, h.size, fun k hk => h.same k hk (.inr (by simp))⟩
/-- The result's box is written. -/
theorem res_put {w W : World} {b : Nat} {a0 a1 a2 a3 a4 a5 : Value} (h : RowAt W b #[a0, a1, a2, a3, a4, a5] 36) (hE : Ext w W) (hb : w.heap.size ≤ b) (v0 v1 v2 v3 v4 v5 : Value) :
    RowAt ((((((W.setCell ⟨b, 0, none⟩ v0).setCell ⟨b, 1, none⟩ v1).setCell ⟨b, 2, none⟩ v2).setCell ⟨b, 3, none⟩ v3).setCell ⟨b, 4, none⟩ v4).setCell ⟨b, 5, none⟩ v5) b #[v0, v1, v2, v3, v4, v5] 36 ∧
    Ext w ((((((W.setCell ⟨b, 0, none⟩ v0).setCell ⟨b, 1, none⟩ v1).setCell ⟨b, 2, none⟩ v2).setCell ⟨b, 3, none⟩ v3).setCell ⟨b, 4, none⟩ v4).setCell ⟨b, 5, none⟩ v5) :=
  ⟨(set6 h v0 v1 v2 v3 v4 v5).1, (((((hE.setCell hb _).setCell hb _).setCell hb _).setCell hb _).setCell hb _).setCell hb _⟩

end Go.Proofs.Ytancfgmaejjooaa
