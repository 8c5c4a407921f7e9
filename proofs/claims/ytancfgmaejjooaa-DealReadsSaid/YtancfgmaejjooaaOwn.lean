/- A block's first byte, read and written. -/
import Derived.Test.YtancfgmaejjooaaDeal3
set_option linter.unusedVariables false
set_option linter.unusedSimpArgs false
namespace Go.Proofs.Ytancfgmaejjooaa
open Go.RowKit

theorem own_head {w : World} {base : Nat} {x : RX} {l : List UInt8} (h : w.ownsRow base 5 1 x.v 128 (l.map B)) (hl : l.length = 128) :
    w.cell? ⟨x.g, 0, none⟩ = some (B (l.getD 0 0)) ∧ w.frozen? ⟨x.g, 0, none⟩ = false ∧ base ≤ x.g ∧ (∃ cur, RowAt w x.g cur 5) ∧ ∀ z : UInt8, (w.setCell ⟨x.g, 0, none⟩ (B z)).ownsRow base 5 1 x.v 128 ((l.set 0 z).map B) := by
  obtain ⟨h1, ⟨h2, _⟩ | ⟨g, cap, cur, hv, hb, hh, hnc, hcm, hcs, ht⟩⟩ := h
  · cases h2
  · injection hv with e1 e2 e3
    injection e1 with e1
    injection e1 with e1
    have hrow : RowAt w x.g cur 5 := by rw [e1]; exact hh
    have hc0 : cur[0]? = some (B (l.getD 0 0)) := by
      have := congrArg (fun t : List Value => t[0]?) ht
      simp only [List.getElem?_take, Nat.mul_one, show 0 < 128 by decide, if_true, List.getElem?_map] at this
      rw [← Array.getElem?_toList, this, List.getD_eq_getElem?_getD, List.getElem?_eq_getElem (by omega)]
      rfl
    refine ⟨by rw [hrow.cell, hc0], hrow.free 0, by omega, ⟨cur, hrow⟩, fun z => ⟨by simp [hl], .inr ⟨x.g, x.cap, cur.setIfInBounds 0 (B z), rfl, by omega, hrow.set 0 (B z), by omega, by omega, by simp; omega, ?_⟩⟩⟩
    rw [Array.toList_setIfInBounds, List.take_set, ht, List.map_set]

theorem own_only {w w' : World} {base : Nat} {e : TypeId} {size : Nat} {v : Value} {n : Nat} {cs : List Value} (h : w.ownsRow base e size v n cs) {bs : List Nat} (ho : Only bs w w') (hne : ∀ g, v.ownBlock = some g → g ∉ bs) : w'.ownsRow base e size v n cs := by
  obtain ⟨h1, h2⟩ := h
  refine ⟨h1, h2.imp id ?_⟩
  rintro ⟨g, cap, cur, rfl, hb, hh, hrest⟩
  exact ⟨g, cap, cur, rfl, hb, ho.row (cs := cur) hh (hne g rfl), hrest⟩

theorem own_type {w : World} {base : Nat} {e : TypeId} {size : Nat} {v : Value} {n : Nat} {cs : List Value} (h : w.ownsRow base e size v n cs) {g : Nat} {cur : Array Value} {t : TypeId} (hr : RowAt w g cur t) (ht : e ≠ t) : ∀ b, v.ownBlock = some b → b ∉ [g] := by
  intro b hb hm
  obtain ⟨_, cur', h'⟩ := own_block h b hb
  have : b = g := by simpa using hm
  subst this
  exact h'.ne hr ht rfl

/-- A byte of a block that is none of the deal's is written. -/
theorem OwnD.byte {base : Nat} {w w' : World} {sv bv pv : Value} {xs : List RX} {pa : Option RX} {d : DealD} (h : OwnD base w sv bv pv xs pa d) {g : Nat} {cur : Array Value} (hr : RowAt w g cur 5) (ho : Only [g] w w')
    (hx : ∀ y ∈ xs, y.g ≠ g) (hp : ∀ y, pa = some y → y.g ≠ g) : OwnD base w' sv bv pv xs pa d :=
  ⟨own_only h.slots ho (own_type h.slots hr (by decide)), own_only h.blocks ho (own_type h.blocks hr (by decide)), h.many,
    fun j hj hj' => own_only (h.each j hj hj') ho (fun b hb hm => hx _ (List.getElem_mem hj) (by simp [Value.ownBlock] at hb hm; omega)),
    h.parity.imp id (fun ⟨y, h1, h2, h3⟩ => ⟨y, h1, h2, own_only h3 ho (fun b hb hm => hp y h1 (by simp [Value.ownBlock] at hb hm; omega))⟩)⟩

/-- A word of another type is written. -/
theorem OwnD.word {base : Nat} {w w' : World} {sv bv pv : Value} {xs : List RX} {pa : Option RX} {d : DealD} (h : OwnD base w sv bv pv xs pa d) {g : Nat} {cur : Array Value} {t : TypeId} (hr : RowAt w g cur t) (ht : t ≠ 3 ∧ t ≠ 32 ∧ t ≠ 5) (ho : Only [g] w w') : OwnD base w' sv bv pv xs pa d :=
  ⟨own_only h.slots ho (own_type h.slots hr (Ne.symm ht.1)), own_only h.blocks ho (own_type h.blocks hr (Ne.symm ht.2.1)), h.many,
    fun j hj hj' => own_only (h.each j hj hj') ho (own_type (h.each j hj hj') hr (Ne.symm ht.2.2)),
    h.parity.imp id (fun ⟨y, h1, h2, h3⟩ => ⟨y, h1, h2, own_only h3 ho (own_type h3 hr (Ne.symm ht.2.2))⟩)⟩

theorem goodTo_no {rs : List Rc} {bs : Nat → List UInt8} {k : Nat} (h : recGood (recAt rs k) (bs (k + 1)) = false) : ∀ {j}, k < j → goodTo rs bs j = false
  | 0, hj => by omega
  | j + 1, hj => by
    simp only [goodTo]
    rcases Nat.lt_or_ge k j with h' | h'
    · rw [goodTo_no h h']; rfl
    · obtain rfl : k = j := by omega
      rw [h]; simp

theorem recGood_eq (r : Rc) (l : List UInt8) (y : UInt8) (s1 : Nat) (yi si ri : Int) (bare : Bool) (h1 : y = l.getD 0 0) (h2 : s1 = overB 0 l) (h3 : yi = (y.toNat : Int)) (h4 : si = (s1 : Int)) (h5 : ri = (r.sum : Int)) (h6 : bare = r.bare) :
    recGood r l = !(((si != ri) || (yi == 78)) || (bare && (yi != 0))) := by
  have e1 : ∀ a b : Nat, ((a : Int) != (b : Int)) = !(a == b) := by intro a b; rw [Bool.eq_iff_iff]; simp; omega
  have e2 : ((y.toNat : Int) == 78) = (y == 78) := by rw [Bool.eq_iff_iff]; simp [← UInt8.toNat_inj]; try omega
  have e3 : ((y.toNat : Int) != 0) = !(y == 0) := by rw [Bool.eq_iff_iff]; simp [← UInt8.toNat_inj]; try omega
  rw [h3, h4, h5, h6, e1, e2, e3]
  unfold recGood
  rw [← h1, ← h2]
  cases (s1 == r.sum) <;> cases hq1 : (y == 78) <;> cases r.bare <;> cases hq2 : (y == 0) <;> simp [bne, hq1, hq2]

theorem lt_last {k m n L : Nat} (hm : m = n) (h : k < m) (h' : k + 1 < L) : k < min n (L - 1) := by omega

end Go.Proofs.Ytancfgmaejjooaa
