/- The document's bytes: a block whole; numbers in it; a block with its sum at its end. -/
import Derived.Test.YtancfgmaejjooaaRef1
import Derived.Test.YtancfgmaejjooaaRef5
set_option linter.unusedVariables false
set_option linter.unusedSimpArgs false
namespace Go.Proofs.Ytancfgmaejjooaa
open Go.RowKit

def pad (l : List UInt8) : List UInt8 := l ++ List.replicate (128 - l.length) 0
theorem pad_laid {l : List UInt8} (h : l.length ≤ 128) : Laid l (pad l) := ⟨h, rfl⟩
theorem pad_len {l : List UInt8} (h : l.length ≤ 128) : (pad l).length = 128 := (pad_laid h).len
theorem pad_step {l : List UInt8} {k : Nat} (h : k < l.length) (hl : l.length ≤ 128) : (pad (l.take k)).set k l[k] = pad (l.take (k + 1)) := by
  have := laid_set (pad_laid (l := l.take k) (by simp; omega)) (by simp; omega) l[k]
  rw [List.length_take, Nat.min_eq_left (by omega), ← List.take_succ_eq_append_getElem h] at this
  exact this.2
theorem pad_full {l : List UInt8} (h : l.length = 128) : pad l = l := by
  unfold pad
  rw [h]
  simp
theorem pad_whole {l : List UInt8} (h : isBlock l = true) : pad l = whole l := by
  unfold whole
  split
  · rename_i h0
    rw [List.eq_nil_of_length_eq_zero h0]
    rfl
  · rename_i h0
    unfold isBlock at h
    simp [h0] at h
    exact pad_full h
theorem pad_nil : pad [] = zeros := rfl

set_option maxRecDepth 100000 in
set_option maxHeartbeats 400000 in
theorem ref_Whole (v : Value) (xs : List UInt8) (w : World) (h : Rep.byte.sl w v xs) (hn : xs.length ≤ 128) :
    Calls Try.prog 123 #[v] w fun e w' => e = .returned (.slice (some ⟨w.heap.size, 0, none⟩) 128 128) ∧ BytesIn w' w.heap.size 5 (pad xs) ∧ Ext w w' := by
  obtain ⟨A, c, rfl, h1, h2, h3⟩ := h
  unfold Cap at h2
  have hm := run_make128
  go_enter Try.func123, Try.ntmps123
  go_wp2
  have hW : BytesIn (w.alloc (.cells zeros5 5)) w.heap.size 5 (pad []) := by
    unfold BytesIn
    rw [heap_alloc_new, pad_nil, ← zeros5_row]
  have eW : Ext w (w.alloc (.cells zeros5 5)) := Ext.alloc (Ext.refl _) _
  go_loopw [4] (fun i wr => ∃ k : Nat, k ≤ xs.length ∧ i = .int .i64 k ∧ BytesIn wr w.heap.size 5 (pad (xs.take k)) ∧ Ext w wr) (fun i _ => xs.length - (intOf i).toNat)
  case atStart => exact ⟨0, Nat.zero_le _, rfl, hW, eW⟩
  case round =>
    obtain ⟨k, hk, rfl, hB, he⟩ := hrel
    clear hm hW eW
    by_cases hlt : k < xs.length
    · obtain ⟨b, off, rfl, hc⟩ := byte_at (h3.ext he) (by omega)
      have hck := hc k hlt
      have hp : (pad (xs.take k)).length = 128 := pad_len (by simp; omega)
      have hcell := hB.cell k (by omega)
      have hf := hB.free k
      have hst := pad_step hlt hn
      obtain ⟨y, hy⟩ : ∃ y, y = (pad (xs.take k))[k]'(by omega) := ⟨_, rfl⟩
      rw [← hy] at hcell
      obtain ⟨x, hx⟩ : ∃ x, x = xs[k] := ⟨_, rfl⟩
      rw [← hx] at hck hst
      have Hst := Lib.hid hst
      have HB := Lib.hid hB
      clear hc hB hy hx hst hp h3
      go_wp2
      go_roundw
      case rel => exact ⟨k + 1, by omega, by go_num, by have := HB.out.set k x; rwa [Hst.out] at this, he.setCell (by simp) _⟩
      case measure => simp [intOf]; omega
    · obtain rfl : k = xs.length := by omega
      rw [List.take_length] at hB
      go_wp2
      go_ret
      exact ⟨rfl, hB, he⟩

/-! ### A number that stands in a block -/
theorem takeN_rev (l : List UInt8) (at_ : Nat) : ∀ k, takeN l at_ (k + 1) = (l.getD at_ 0).toNat + 256 * takeN l (at_ + 1) k
  | 0 => by simp [takeN]
  | k + 1 => by
    have ih := takeN_rev l at_ k
    simp only [takeN] at ih ⊢
    rw [ih, Nat.mul_add, Nat.pow_succ]
    have : (l.getD (at_ + 1 + k) 0) = l.getD (at_ + (k + 1)) 0 := by congr 1; omega
    rw [this]
    have e : (l.getD (at_ + (k + 1)) 0).toNat * (256 ^ k * 256) = 256 * ((l.getD (at_ + (k + 1)) 0).toNat * 256 ^ k) := by
      rw [← Nat.mul_assoc, Nat.mul_comm]
    omega

set_option maxRecDepth 100000 in
set_option maxHeartbeats 1000000 in
theorem ref_At (v : Value) (xs : List UInt8) (at_ many : Nat) (w : World) (h : Rep.byte.sl w v xs) (hn : xs.length ≤ 128) (hm : many ≤ 4) (ha : at_ + many ≤ 128) :
    Calls Try.prog 193 #[v, I at_, I many] w fun e w' => e = .returned (I (takeN (pad xs) at_ many : Nat)) ∧ Ext w w' := by
  have hcall := ref_Whole v xs w h hn
  obtain ⟨A, c, rfl, h1, h2, h3⟩ := h
  have hpl := pad_len hn
  obtain ⟨ps, hps⟩ : ∃ ps, ps = pad xs := ⟨_, rfl⟩
  rw [← hps] at hpl hcall ⊢
  clear hps h3
  go_enter Try.func193, Try.ntmps193
  go_wp2_with fail
  refine hcall.mono ?_
  rintro e w1 ⟨rfl, hB, he1⟩
  go_wp2
  go_loop [8, 9] (fun n i => ∃ k m : Nat, k ≤ many ∧ i = .int .i64 ((k : Int) - 1) ∧ Hid (m = takeN ps (at_ + k) (many - k)) ∧ n = I m) (fun _ i => (intOf i + 1).toNat)
  case atStart => exact ⟨many, 0, Nat.le_refl _, rfl, Lib.hid (by simp [takeN]), rfl⟩
  case round =>
    obtain ⟨k, m, hk, rfl, Hm, rfl⟩ := hrel
    rcases Nat.eq_zero_or_pos k with h0 | h0
    · subst h0
      go_wp2
      go_ret
      exact ⟨by have := Hm.out; simp at this; rw [this]; rfl, he1⟩
    · obtain ⟨j, rfl⟩ : ∃ j, k = j + 1 := ⟨k - 1, by omega⟩
      have e1 : (((j + 1 : Nat) : Int) - 1) = (j : Int) := by omega
      rw [e1]
      have hml : m < 256 ^ (many - (j + 1)) := by rw [Hm.out]; exact takeN_lt _ _ _
      have hml2 : m < 16777216 := Nat.lt_of_lt_of_le hml (by
        have : 256 ^ (many - (j + 1)) ≤ 256 ^ 3 := Nat.pow_le_pow_right (by decide) (by omega)
        exact this)
      have hcell := hB.cell (at_ + j) (by omega)
      obtain ⟨y, hy⟩ : ∃ y, y = ps[at_ + j]'(by omega) := ⟨_, rfl⟩
      rw [← hy] at hcell
      have hyl := y.toNat_lt
      have Hnew : Hid (m * 256 + y.toNat = takeN ps (at_ + j) (many - j)) := Lib.hid (by
        have : many - j = (many - (j + 1)) + 1 := by omega
        rw [this, takeN_rev, Nat.add_assoc at_ j 1, ← Hm.out, hy]
        rw [List.getD_eq_getElem?_getD, List.getElem?_eq_getElem (by omega)]
        simp only [Option.getD_some]
        omega)
      have q2 : IntKind.i64.wrap ((j : Int) - 1) = (j : Int) - 1 := IntWalk.i64_in _ (by omega)
      obtain ⟨yi, hyi⟩ : ∃ yi : Int, yi = (y.toNat : Int) := ⟨_, rfl⟩
      replace hcell : w1.cell? ⟨w.heap.size, at_ + j, none⟩ = some (.int .u8 yi) := by rw [hyi]; exact hcell
      have hyb : 0 ≤ yi ∧ yi < 256 := by omega
      have Hyi := Lib.hid hyi
      clear hy hml hyl hyi e1
      go_wp2
      go_round
      case rel => exact ⟨j, m * 256 + y.toNat, by omega, by go_num, Hnew, by rw [Hyi.out]; go_num⟩
      case measure => simp [intOf]

end Go.Proofs.Ytancfgmaejjooaa
