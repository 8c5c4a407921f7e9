/- Places in a ring; a deal's slots. -/
import Derived.Test.YtancfgmaejjooaaRows
import Derived.Test.YtancfgmaejjooaaBase
import Derived.Test.YtancfgmaejjooaaShape
import Derived.Test.YtancfgmaejjooaaLaw13
set_option linter.unusedVariables false
set_option linter.unusedSimpArgs false
namespace Go.Proofs.Ytancfgmaejjooaa
open Go.RowKit

def ringHas (r at_ : Int) : Bool := decide (1 ≤ r) && decide (r ≤ 255) && decide (0 ≤ at_) && decide (at_ < r)

set_option maxRecDepth 100000 in
set_option maxHeartbeats 400000 in
theorem ring_has (r at_ : Int) (w : World) :
    Calls Try.prog 146 #[I r, I at_] w fun e w' => e = .returned (.bool (ringHas r at_)) ∧ w = w' := by
  go_enter Try.func146, Try.ntmps146
  go_wp2
  all_goals
    go_ret
    exact ⟨ret_bool (by unfold ringHas; rw [Bool.eq_iff_iff]; simp; omega), rfl⟩

def lastOf (b : Int) : Int := max (b - 1) 0
@[local go_sem ↓] theorem max0 (P : Program) (x : Int) (w : World) : Sem.run P (Builtin.max_ #[3, 3] 3 #[Value.int .i64 (x - 1), Value.int .i64 0]) w = .ok (Value.int .i64 (lastOf x)) w := by
  unfold lastOf
  rcases Int.lt_or_le 0 (x - 1) with h | h
  · rw [Int.max_eq_left (by omega)]
    simp [go_sem, Builtin.max_, Builtin.max2]
    omega
  · rw [Int.max_eq_right h]
    simp [go_sem, Builtin.max_, Builtin.max2]
    omega

set_option maxRecDepth 100000 in
set_option maxHeartbeats 400000 in
theorem ring_tell (r a b : Int) (w : World) (h1 : 1 ≤ r) (h2 : r ≤ 255) (h3 : 0 ≤ a) (h4 : a < r) (h5 : 0 ≤ b) (h6 : b ≤ r) :
    Calls Try.prog 94 #[I r, .int .u8 0, I a, I b] w fun e w' => e = .returned (.tuple #[I ((a + b) % r), I 0]) ∧ w = w' := by
  have g1 : ringHas r a = true := by unfold ringHas; simp; omega
  have g2 : ringHas r (lastOf b) = true := by unfold ringHas lastOf; simp; omega
  have hm : IntKind.i64.wrap (a + b) = a + b := IntWalk.i64_in _ (by omega)
  have ht : Int.tmod (a + b) r = (a + b) % r := Int.tmod_eq_emod_of_nonneg (by omega)
  go_enter Try.func94, Try.ntmps94
  go_wp2_with (first
    | (go_at_call 146; refine (ring_has _ _ _).mono ?_; rintro e w' ⟨rfl, rfl⟩))
  go_ret2
  exact ⟨rfl, rfl⟩

set_option maxRecDepth 100000 in
set_option maxHeartbeats 400000 in
theorem dial_On (r a b : Int) (w : World) (h1 : 1 ≤ r) (h2 : r ≤ 255) (h3 : 0 ≤ a) (h4 : a < r) (h5 : 0 ≤ b) (h6 : b ≤ r) :
    Calls Try.prog 41 #[I r, I a, I b] w fun e w' => e = .returned (.tuple #[I ((a + b) % r), I 0]) ∧ w = w' := by
  go_enter Try.func41, Try.ntmps41
  go_wp2_with (first
    | (go_at_call 94; refine (ring_tell _ _ _ _ h1 h2 h3 h4 h5 h6).mono ?_; rintro e w' ⟨rfl, rfl⟩))
  go_ret2
  exact ⟨rfl, rfl⟩

/-! ### Slots -/
theorem slotsTo_no {m : Int} {l : List Int} {j : Nat} : ∀ {k}, k ≤ l.length → j < k → slotOk m l j = false → slotsTo m l k = false
  | 0, _, h, _ => by omega
  | k + 1, hk, h, hs => by
    simp only [slotsTo]
    rcases Nat.lt_or_ge j k with h' | h'
    · rw [slotsTo_no (by omega) h' hs]; rfl
    · obtain rfl : j = k := by omega
      rw [hs]; simp
theorem slotsMay_no {m : Int} {l : List Int} {j : Nat} (h : j < l.length) (hs : slotOk m l j = false) : slotsMay m l = false := by
  unfold slotsMay
  rw [slotsTo_no (Nat.le_refl _) h hs]
  rfl

set_option maxRecDepth 100000 in
set_option maxHeartbeats 400000 in
theorem deal_slots (c : Cfg) (v : Value) (l : List Int) (w : World) (h : Rep.int.sl w v l) (hm : 3 ≤ c.members ∧ c.members ≤ 16) :
    Calls Try.prog 93 #[c.v, v] w fun e w' => e = .returned (.bool (slotsMay c.members l)) ∧ Ext w w' := by
  obtain ⟨A, cp, rfl, h1, h2, h3⟩ := h
  have hx := h3.ext (Ext.alloc (Ext.refl w) (.cells #[U32 c.id, I c.members, I c.chunk, I c.rows, I c.log, I c.heads] 24))
  have q : IntKind.i64.wrap (c.members - 2) = c.members - 2 := IntWalk.i64_in _ (by omega)
  unfold Cap at h2
  go_enter Try.func93, Try.ntmps93
  go_wp2
  go_loop [5, 7, 10] (fun t5 _ t10 => ∃ k : Nat, k ≤ l.length ∧ t10 = .int .i64 k ∧ Hid (slotsTo c.members l k = true) ∧ ∃ p, Hid (p = prevI l k) ∧ t5 = I p) (fun _ _ i => l.length - (intOf i).toNat)
  case atStart => exact ⟨0, Nat.zero_le _, rfl, Lib.hid rfl, -1, Lib.hid rfl, rfl⟩
  case round =>
    obtain ⟨k, hk, rfl, hto, p, hp, rfl⟩ := hrel
    by_cases hlt : k < l.length
    · obtain ⟨b, off, rfl, hc⟩ := int_at hx (by omega)
      have hck := hc k hlt
      obtain ⟨x, hxx⟩ : ∃ x, x = l[k] := ⟨_, rfl⟩
      rw [← hxx] at hck
      have hs : Hid (slotOk c.members l k = (decide (p < x) && decide (x ≤ c.members - 2))) := Lib.hid (by
        unfold slotOk
        rw [hp.out, hxx]
        simp [prevI, hlt])
      have hp1 : Hid (x = prevI l (k + 1)) := Lib.hid (by rw [hxx]; simp [prevI, hlt])
      clear hc hxx hx h3
      go_wp2
      · go_ret
        exact ⟨ret_bool (slotsMay_no hlt (by rw [hs.out]; simp; omega)).symm, (by repeat (first | exact Below.refl _ _ | assumption | refine Ext.alloc ?_ _ | refine Ext.drew ?_ | refine Ext.trans ?_ (by assumption)))⟩
      · go_round
        case rel =>
          refine ⟨k + 1, by omega, by go_num, Lib.hid ?_, x, hp1, rfl⟩
          simp only [slotsTo, hto.out, hs.out]
          simp
          omega
        case measure => simp [intOf]; omega
      · go_ret
        exact ⟨ret_bool (slotsMay_no hlt (by rw [hs.out]; simp; omega)).symm, (by repeat (first | exact Below.refl _ _ | assumption | refine Ext.alloc ?_ _ | refine Ext.drew ?_ | refine Ext.trans ?_ (by assumption)))⟩
    · obtain rfl : k = l.length := by omega
      go_wp2
      go_ret
      refine ⟨ret_bool ?_, (by repeat (first | exact Below.refl _ _ | assumption | refine Ext.alloc ?_ _ | refine Ext.drew ?_ | refine Ext.trans ?_ (by assumption)))⟩
      unfold slotsMay
      rw [hto.out]
      simp

end Go.Proofs.Ytancfgmaejjooaa
