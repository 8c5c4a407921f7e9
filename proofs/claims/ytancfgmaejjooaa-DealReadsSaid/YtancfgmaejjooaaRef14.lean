/- The document's notes: which may be. -/
import Derived.Test.YtancfgmaejjooaaRef8
import Derived.Test.YtancfgmaejjooaaNote5
set_option linter.unusedVariables false
set_option linter.unusedSimpArgs false
namespace Go.Proofs.Ytancfgmaejjooaa
open Go.RowKit

def slotAt (rs : List Rc) (j : Nat) : Int := (rs.getD j ⟨0, false, 0⟩).slot.toNat
def refOk (rs : List Rc) (k : Nat) : Bool := (k == 0 || decide (slotAt rs (k - 1) < slotAt rs k)) && (decide (slotAt rs k ≤ 14) || (slotAt rs k == 255 && k != 0))
def refTo (rs : List Rc) : Nat → Bool
  | 0 => true
  | k + 1 => refTo rs k && refOk rs k
theorem refTo_le {rs : List Rc} {k j : Nat} (h : refTo rs k = true) (hj : j < k) : refOk rs j = true := by
  induction k with
  | zero => omega
  | succ k ih =>
    simp only [refTo, Bool.and_eq_true] at h
    by_cases e : j = k
    · subst e; exact h.2
    · exact ih h.1 (by omega)
theorem refTo_no {rs : List Rc} {k j : Nat} (hj : j < k) (h : refOk rs j = false) : refTo rs k = false := by
  cases hk : refTo rs k
  · rfl
  · rw [refTo_le hk hj] at h; cases h
theorem slotAt_lt (rs : List Rc) (j : Nat) : 0 ≤ slotAt rs j ∧ slotAt rs j < 256 := by
  unfold slotAt
  have := (rs.getD j ⟨0, false, 0⟩).slot.toNat_lt
  omega
theorem recLast_at (rs : List Rc) (j : Nat) : recLast rs (j + 1) = slotAt rs j := rfl
theorem recOk_ref {rs : List Rc} {k : Nat} (h : recOk rs k = true) : refOk rs k = true := by
  rw [recOk_iff] at h
  unfold refOk
  rw [recLast_at] at h
  have hb := slotAt_lt rs k
  match k, h, hb with
  | 0, h, hb =>
    simp
    simp only [recLast] at h
    omega
  | k + 1, h, hb =>
    rw [recLast_at] at h
    simp
    omega
theorem refOk_rec {rs : List Rc} {k : Nat} (hk : k < rs.length) (h : refTo rs rs.length = true) : recOk rs k = true := by
  have h1 := refTo_le h hk
  rw [recOk_iff, recLast_at]
  unfold refOk at h1
  have hb := slotAt_lt rs k
  have h2 : k + 1 < rs.length → slotAt rs k < slotAt rs (k + 1) := by
    intro hlt
    have := refTo_le h hlt
    unfold refOk at this
    simp at this
    exact this.1
  have h3 : k + 1 < rs.length → slotAt rs (k + 1) < 256 := fun _ => (slotAt_lt rs (k + 1)).2
  match k, hk, h1, hb, h2, h3 with
  | 0, hk, h1, hb, h2, h3 =>
    simp at h1
    simp only [recLast]
    omega
  | k + 1, hk, h1, hb, h2, h3 =>
    rw [recLast_at]
    simp at h1
    refine ⟨h1.1, ?_⟩
    rcases h1.2 with h1 | h1
    · exact .inr h1
    · refine .inl ⟨h1, by omega, ?_⟩
      rcases Nat.lt_or_ge (k + 1 + 1) rs.length with h4 | h4
      · have := h2 h4
        have := h3 h4
        omega
      · omega
theorem okTo_all (n : NoteD) : ∀ k, okTo n k = true ↔ (n.head = true ∧ ∀ j, j < k → recOk n.recs j = true)
  | 0 => by simp [okTo]
  | k + 1 => by
    simp only [okTo, Bool.and_eq_true, okTo_all n k]
    constructor
    · rintro ⟨⟨h1, h2⟩, h3⟩
      refine ⟨h1, fun j hj => ?_⟩
      by_cases e : j = k
      · subst e; exact h3
      · exact h2 j (by omega)
    · rintro ⟨h1, h2⟩
      exact ⟨⟨h1, fun j hj => h2 j (by omega)⟩, h2 k (by omega)⟩
theorem refTo_of {rs : List Rc} : ∀ k, (∀ j, j < k → refOk rs j = true) → refTo rs k = true
  | 0, _ => rfl
  | k + 1, h => by
    simp only [refTo, Bool.and_eq_true]
    exact ⟨refTo_of k (fun j hj => h j (by omega)), h k (by omega)⟩
/-- The program's and the document's notes that may be are the same. -/
theorem may_note (n : NoteD) : n.may = (n.head && refTo n.recs n.recs.length) := by
  rw [Bool.eq_iff_iff, Bool.and_eq_true]
  unfold NoteD.may
  rw [okTo_all]
  constructor
  · rintro ⟨h1, h2⟩
    exact ⟨h1, refTo_of _ fun j hj => recOk_ref (h2 j hj)⟩
  · rintro ⟨h1, h2⟩
    exact ⟨h1, fun j hj => refOk_rec hj h2⟩

set_option maxRecDepth 100000 in
set_option maxHeartbeats 1000000 in
theorem ref_slots11 (v : Value) (rs : List Rc) (w : World) (h : Rep.rc.sl w v rs) :
    Calls Try.prog 194 #[v] w fun e w' => e = .returned (.bool (refTo rs rs.length)) ∧ w = w' := by
  obtain ⟨A, c, rfl, h1, h2, h3⟩ := h
  unfold Cap at h2
  go_enter Try.func194, Try.ntmps194
  go_wp2
  go_loop [3, 4] (fun i _ => ∃ k : Nat, k ≤ rs.length ∧ i = .int .i64 k ∧ Hid (refTo rs k = true)) (fun i _ => rs.length - (intOf i).toNat)
  case atStart => exact ⟨0, Nat.zero_le _, rfl, Lib.hid rfl⟩
  case round =>
    obtain ⟨k, hk, rfl, HA⟩ := hrel
    by_cases hlt : k < rs.length
    · obtain ⟨b, off, rfl, hc⟩ := rc_at h3 (by omega)
      obtain ⟨c0, c1, c2, _⟩ := hc k hlt
      obtain ⟨x, hx⟩ : ∃ x : Int, x = slotAt rs k := ⟨_, rfl⟩
      have hxb := slotAt_lt rs k
      rw [← hx] at hxb
      replace c0 : w.cell? ⟨b, off + k * 3, none⟩ = some (.int .u8 x) := by
        rw [c0, hx]
        unfold slotAt
        rw [List.getD_eq_getElem?_getD, List.getElem?_eq_getElem hlt]
        rfl
      have HN := Lib.hid (refTo_no (rs := rs) (k := rs.length) hlt)
      have HS : Hid (refOk rs k = true → refTo rs (k + 1) = true) := Lib.hid (fun h => by simp only [refTo, HA.out, h]; rfl)
      rcases Nat.eq_zero_or_pos k with h0 | h0
      · subst h0
        replace c0 : w.cell? ⟨b, off, none⟩ = some (.int .u8 x) := by simpa using c0
        have HR : Hid (refOk rs 0 = decide (x ≤ 14)) := Lib.hid (by unfold refOk; rw [← hx]; simp)
        clear hc hx h3 c1 c2
        go_wp2
        all_goals first
          | (go_ret
             exact ⟨by rw [HN.out (by rw [HR.out]; simp; omega)]; rfl, rfl⟩)
          | (go_round
             case rel => exact ⟨1, by omega, by go_num, Lib.hid (HS.out (by rw [HR.out]; simp; omega))⟩
             case measure => simp [intOf]; omega)
      · obtain ⟨j, rfl⟩ : ∃ j, k = j + 1 := ⟨k - 1, by omega⟩
        obtain ⟨d0, _, _, _⟩ := hc j (by omega)
        obtain ⟨y, hy⟩ : ∃ y : Int, y = slotAt rs j := ⟨_, rfl⟩
        have hyb := slotAt_lt rs j
        rw [← hy] at hyb
        replace d0 : w.cell? ⟨b, off + j * 3, none⟩ = some (.int .u8 y) := by
          rw [d0, hy]
          unfold slotAt
          rw [List.getD_eq_getElem?_getD, List.getElem?_eq_getElem (by omega)]
          rfl
        have HR : Hid (refOk rs (j + 1) = (decide (y < x) && (decide (x ≤ 14) || x == 255))) := Lib.hid (by unfold refOk; rw [← hx, hy]; simp)
        clear hc hx hy h3 c1 c2
        go_wp2
        all_goals first
          | (go_ret
             exact ⟨by rw [HN.out (by rw [HR.out]; simp; omega)]; rfl, rfl⟩)
          | (go_round
             case rel => exact ⟨j + 1 + 1, by omega, by go_num, Lib.hid (HS.out (by rw [HR.out]; simp; omega))⟩
             case measure => simp [intOf]; omega)
    · obtain rfl : k = rs.length := by omega
      go_wp2
      go_ret
      exact ⟨by rw [HA.out]; rfl, rfl⟩

set_option maxRecDepth 100000 in
set_option maxHeartbeats 1000000 in
theorem ref_nMay (n : NoteD) (rv : Value) (w : World) (h : Rep.rc.sl w rv n.recs) :
    Calls Try.prog 172 #[n.v rv] w fun e w' => e = .returned (.bool n.may) ∧ Ext w w' := by
  have h0 := h
  obtain ⟨A, c, rfl, h1, h2, h3⟩ := h
  obtain ⟨s, hs⟩ : ∃ s, s = refTo n.recs n.recs.length := ⟨_, rfl⟩
  have hm := may_note n
  have hcall := fun w1 (he : Ext w w1) => ref_slots11 _ n.recs w1 (h0.ext he)
  rw [← hs] at hm
  simp only [← hs] at hcall
  have Hm := Lib.hid hm
  have Hcall := Lib.hid hcall
  have Hh : Hid (n.head = true ↔ _) := Lib.hid (head_iff n)
  clear hs hm hcall h3
  unfold Cap at h2
  cases s
  all_goals
    go_enter Try.func172, Try.ntmps172
    go_wp2_with (go_at_call 194; refine (Hcall.out _ (by repeat (first | exact Below.refl _ _ | assumption | refine Ext.alloc ?_ _ | refine Ext.drew ?_ | refine Ext.trans ?_ (by assumption)))).mono ?_; rintro e w2 ⟨rfl, rfl⟩)
    all_goals
      go_ret
      refine ⟨ret_bool ?_, (by repeat (first | exact Below.refl _ _ | assumption | refine Ext.alloc ?_ _ | refine Ext.drew ?_ | refine Ext.trans ?_ (by assumption)))⟩
      rw [Hm.out, Bool.eq_iff_iff, Bool.and_eq_true, Hh.out]
      simp
      try omega

end Go.Proofs.Ytancfgmaejjooaa
