/- The document's devices: which are great. -/
import Derived.Test.YtancfgmaejjooaaRef9
set_option linter.unusedVariables false
set_option linter.unusedSimpArgs false
namespace Go.Proofs.Ytancfgmaejjooaa
open Go.RowKit

def cap100 (x : Nat) : Nat := min x 100000
@[local go_sem ↓] theorem min100 (P : Program) (x : Nat) (w : World) : Sem.run P (Builtin.min_ #[3, 3] 3 #[Value.int .i64 (x : Int), Value.int .i64 100000]) w = .ok (Value.int .i64 (cap100 x : Int)) w := by
  unfold cap100
  rcases Nat.lt_or_ge x 100000 with h | h
  · rw [Nat.min_eq_left (by omega)]
    simp [go_sem, Builtin.min_, Builtin.min2]
    omega
  · rw [Nat.min_eq_right h]
    simp [go_sem, Builtin.min_, Builtin.min2]
    omega

/-- A device that statements go through. -/
structure Dk.Small (d : Dk) : Prop where
  blocks : d.blocks.length ≤ 300
  wait : d.wait.length ≤ 1100
  each : ∀ x ∈ d.blocks, x.length ≤ 60000
  data : ∀ x ∈ d.wait, x.data.length ≤ 60000
def GreatPost (d : Dk) (e : Ending) : Prop := ∃ b, e = .returned (.bool b) ∧ (b = false → d.Small)

theorem wrap64_in (x : Int) (h : 0 ≤ x ∧ x ≤ 4611686018427387904) : wrap64 x = x := by unfold wrap64; omega
theorem wsum (n z : Nat) (h : n ≤ 1000000000) (hz : z ≤ 1000000) : wrap64 ((n : Int) + wrap64 (8 + (z : Int))) = ((n + (8 + z) : Nat) : Int) := by
  rw [wrap64_in (8 + (z : Int)) (by omega), wrap64_in _ (by omega)]
  omega
theorem nb400 {k n : Nat} (h : k ≤ 400) (hn : n ≤ k * 100008) : n ≤ 40003200 := Nat.le_trans hn (Nat.mul_le_mul_right 100008 h)
theorem nb1200 {k n : Nat} (h : k ≤ 1200) (hn : n ≤ 40003200 + k * 100008) : n ≤ 160012800 := Nat.le_trans hn (Nat.add_le_add_left (Nat.mul_le_mul_right 100008 h) 40003200)
/-- What was summed up. -/
def SumTo (ls : List Nat) (k : Nat) (n : Nat) : Prop := ∀ j (h : j < ls.length), j < k → cap100 ls[j] ≤ n
theorem SumTo.step {ls : List Nat} {k n : Nat} (h : SumTo ls k n) (hk : k < ls.length) {x : Nat} (hx : x = ls[k]) : SumTo ls (k + 1) (n + (8 + cap100 x)) := by
  intro j hj hjk
  rcases Nat.lt_or_ge j k with h1 | h1
  · have := h j hj h1; omega
  · obtain rfl : j = k := by omega
    rw [hx]
    omega
theorem SumTo.more {ls : List Nat} {k n n' : Nat} (h : SumTo ls k n) (hn : n ≤ n') : SumTo ls k n' := fun j hj hjk => Nat.le_trans (h j hj hjk) hn
theorem SumTo.all {ls : List Nat} {k n : Nat} (h : SumTo ls k n) (hk : ls.length ≤ k) (hn : n ≤ 60000) : ∀ x ∈ ls, x ≤ 60000 := by
  intro x hx
  obtain ⟨j, hj, rfl⟩ := List.getElem_of_mem hx
  have := h j hj (by omega)
  unfold cap100 at this
  omega

set_option maxRecDepth 100000 in
set_option maxHeartbeats 1000000 in
theorem ref_Great (d : Dk) (bv wv : Value) (w : World) (h : DkAt w bv wv d) :
    Calls Try.prog 19 #[d.v bv wv] w fun e w' => GreatPost d e ∧ Ext w w' := by
  obtain ⟨⟨A, c, rfl, a1, a2, a3⟩, ⟨A', c', rfl, b1, b2, b3⟩⟩ := h
  have hE : Ext w (w.alloc (.cells (d.row (.slice A d.blocks.length c) (.slice A' d.wait.length c')) 28)) := Ext.alloc (Ext.refl _) _
  have x3 := a3.ext hE
  have y3 := b3.ext hE
  have Hx : Hid (∀ j (hj : j < (d.blocks.map List.length).length), ∃ x, d.blocks[j]? = some x ∧ x.length = (d.blocks.map List.length)[j]) := Lib.hid (fun j hj => by simp at hj; exact ⟨d.blocks[j], by simp [hj], by simp⟩)
  unfold Cap at a2 b2
  clear a3 b3
  go_enter Try.func19, Try.ntmps19
  go_wp2
  go_loop [3, 4] (fun t i => ∃ k n : Nat, k ≤ 400 ∧ k ≤ d.blocks.length ∧ i = .int .i64 k ∧ t = I n ∧ n ≤ k * 100008 ∧ Hid (SumTo (d.blocks.map List.length) k n)) (fun _ i => 400 - (intOf i).toNat)
  case atStart => exact ⟨0, 0, by omega, by omega, rfl, rfl, by omega, Lib.hid (fun j _ h => by omega)⟩
  case round =>
    obtain ⟨k, n, hk4, hk, rfl, rfl, hn, HS⟩ := hrel
    have hnb := nb400 hk4 hn
    by_cases hlt : k < d.blocks.length
    · by_cases h4 : k < 400
      · obtain ⟨b, off, rfl, hc⟩ := slice_at x3 (by omega)
        obtain ⟨A2, c2, hcj, g1, g2, g3⟩ := hc k hlt
        obtain ⟨x, hx⟩ : ∃ x, x = d.blocks[k] := ⟨_, rfl⟩
        rw [← hx] at hcj g1 g3
        have HN := Lib.hid (HS.out.step (x := x.length) (by simpa using hlt) (by simp [hx]))
        have hcl : cap100 x.length ≤ 100000 := by unfold cap100; omega
        obtain ⟨z, hz⟩ : ∃ z, z = cap100 x.length := ⟨_, rfl⟩
        have Hz := Lib.hid hz
        rw [← hz] at hcl
        have Hw : Hid (wrap64 ((n : Int) + wrap64 (8 + (z : Int))) = ((n + (8 + z) : Nat) : Int)) := Lib.hid (wsum n z (Nat.le_trans hnb (by decide)) (Nat.le_trans hcl (by decide)))
        clear hc hx x3 y3 hz
        go_wp2
        rw [← Hz.out]
        go_round
        case rel => exact ⟨k + 1, n + (8 + z), by omega, by omega, by go_num, congrArg I Hw.out, by omega, by rw [Hz.out]; exact HN⟩
        case measure => simp [intOf]; omega
      · have H4 := Lib.hid h4
        obtain rfl : k = 400 := by omega
        clear x3
        go_wp2
        go_loop [3, 5] (fun t i => ∃ k m : Nat, n ≤ m ∧ k ≤ 1200 ∧ k ≤ d.wait.length ∧ i = .int .i64 k ∧ t = I m ∧ m ≤ 40003200 + k * 100008 ∧ Hid (SumTo (d.wait.map fun x => x.data.length) k m)) (fun _ i => 1200 - (intOf i).toNat)
        case atStart => exact ⟨0, n, Nat.le_refl _, by omega, by omega, rfl, rfl, Nat.le_trans hnb (by decide), Lib.hid (fun j _ h => by omega)⟩
        case round =>
          obtain ⟨k, m, hnm, hk4, hk, rfl, rfl, hm, HT⟩ := hrel
          have hmb := nb1200 hk4 hm
          by_cases hlt : k < d.wait.length
          · by_cases h4 : k < 1200
            · obtain ⟨b, off, rfl, hc⟩ := wr_at y3 (by omega)
              obtain ⟨A2, c2, hc0, hcj, g1, g2, g3⟩ := hc k hlt
              obtain ⟨x, hx⟩ : ∃ x, x = d.wait[k].data := ⟨_, rfl⟩
              rw [← hx] at hcj g1 g3
              have HN := Lib.hid (HT.out.step (x := x.length) (by simpa using hlt) (by simp [hx]))
              have hcl : cap100 x.length ≤ 100000 := by unfold cap100; omega
              obtain ⟨z, hz⟩ : ∃ z, z = cap100 x.length := ⟨_, rfl⟩
              have Hz := Lib.hid hz
              rw [← hz] at hcl
              have Hw : Hid (wrap64 ((m : Int) + wrap64 (8 + (z : Int))) = ((m + (8 + z) : Nat) : Int)) := Lib.hid (wsum m z (Nat.le_trans hmb (by decide)) (Nat.le_trans hcl (by decide)))
              clear hc hx y3 hz
              go_wp2
              rw [← Hz.out]
              go_round
              case rel => exact ⟨k + 1, m + (8 + z), by omega, by omega, by omega, by go_num, congrArg I Hw.out, by omega, by rw [Hz.out]; exact HN⟩
              case measure => simp [intOf]; omega
            · obtain rfl : k = 1200 := by omega
              have h11 : ((1100 : Int) < (d.wait.length : Int)) := by omega
              go_wp2
              all_goals
                go_ret
                exact ⟨⟨_, rfl, fun hb => by first | (cases hb; done) | (simp at hb; omega)⟩, hE⟩
          · obtain rfl : k = d.wait.length := by omega
            go_wp2
            all_goals
              go_ret
              exact ⟨⟨_, rfl, fun hb => by first | (cases hb; done) | (simp at hb; omega)⟩, hE⟩
    · obtain rfl : k = d.blocks.length := by omega
      clear x3
      go_wp2
      go_loop [3, 5] (fun t i => ∃ k m : Nat, n ≤ m ∧ k ≤ 1200 ∧ k ≤ d.wait.length ∧ i = .int .i64 k ∧ t = I m ∧ m ≤ 40003200 + k * 100008 ∧ Hid (SumTo (d.wait.map fun x => x.data.length) k m)) (fun _ i => 1200 - (intOf i).toNat)
      case atStart => exact ⟨0, n, Nat.le_refl _, by omega, by omega, rfl, rfl, Nat.le_trans hnb (by decide), Lib.hid (fun j _ h => by omega)⟩
      case round =>
        obtain ⟨k, m, hnm, hk4, hk, rfl, rfl, hm, HT⟩ := hrel
        have hmb := nb1200 hk4 hm
        by_cases hlt : k < d.wait.length
        · by_cases h4 : k < 1200
          · obtain ⟨b, off, rfl, hc⟩ := wr_at y3 (by omega)
            obtain ⟨A2, c2, hc0, hcj, g1, g2, g3⟩ := hc k hlt
            obtain ⟨x, hx⟩ : ∃ x, x = d.wait[k].data := ⟨_, rfl⟩
            rw [← hx] at hcj g1 g3
            have HN := Lib.hid (HT.out.step (x := x.length) (by simpa using hlt) (by simp [hx]))
            have hcl : cap100 x.length ≤ 100000 := by unfold cap100; omega
            obtain ⟨z, hz⟩ : ∃ z, z = cap100 x.length := ⟨_, rfl⟩
            have Hz := Lib.hid hz
            rw [← hz] at hcl
            have Hw : Hid (wrap64 ((m : Int) + wrap64 (8 + (z : Int))) = ((m + (8 + z) : Nat) : Int)) := Lib.hid (wsum m z (Nat.le_trans hmb (by decide)) (Nat.le_trans hcl (by decide)))
            clear hc hx y3 hz
            go_wp2
            rw [← Hz.out]
            go_round
            case rel => exact ⟨k + 1, m + (8 + z), by omega, by omega, by omega, by go_num, congrArg I Hw.out, by omega, by rw [Hz.out]; exact HN⟩
            case measure => simp [intOf]; omega
          · obtain rfl : k = 1200 := by omega
            have h11 : ((1100 : Int) < (d.wait.length : Int)) := by omega
            go_wp2
            all_goals
              go_ret
              exact ⟨⟨_, rfl, fun hb => by first | (cases hb; done) | (simp at hb; omega)⟩, hE⟩
        · obtain rfl : k = d.wait.length := by omega
          go_wp2
          all_goals
            go_ret
            exact ⟨⟨_, rfl, fun hb => by first | (cases hb; done) | exact ⟨by simp at hb; omega, by simp at hb; omega, fun x hx => (HS.out.more hnm).all (by simp) (by simp at hb; omega) _ (List.mem_map_of_mem hx), fun x hx => HT.out.all (by simp) (by simp at hb; omega) _ (List.mem_map.2 ⟨x, hx, rfl⟩)⟩⟩, hE⟩

end Go.Proofs.Ytancfgmaejjooaa
