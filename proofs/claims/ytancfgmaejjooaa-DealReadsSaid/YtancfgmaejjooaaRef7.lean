/- The document's bytes: a number is put into a block; its four bytes; a block with its sum at its end; what is seen on a device. -/
import Derived.Test.YtancfgmaejjooaaRef6
import Derived.Test.YtancfgmaejjooaaLex
set_option linter.unusedVariables false
set_option linter.unusedSimpArgs false
namespace Go.Proofs.Ytancfgmaejjooaa
open Go.RowKit

theorem div_pow (n k : Nat) : n / 256 ^ k / 256 = n / 256 ^ (k + 1) := by rw [Nat.div_div_eq_div_mul, Nat.pow_succ]

set_option maxRecDepth 100000 in
set_option maxHeartbeats 1000000 in
theorem ref_put (v : Value) (xs : List UInt8) (at_ many n : Nat) (w : World) (h : Rep.byte.sl w v xs) (hn : xs.length ≤ 128) (hm : many ≤ 4) (ha : at_ + many ≤ 128) (hl : n < 4294967296) :
    Calls Try.prog 201 #[v, I at_, I many, I n] w fun e w' => e = .returned (.slice (some ⟨w.heap.size, 0, none⟩) 128 128) ∧ BytesIn w' w.heap.size 5 (putN (pad xs) at_ n many) ∧ Ext w w' := by
  have hcall := ref_Whole v xs w h hn
  obtain ⟨A, c, rfl, h1, h2, h3⟩ := h
  have hpl := pad_len hn
  obtain ⟨ps, hps⟩ : ∃ ps, ps = pad xs := ⟨_, rfl⟩
  rw [← hps] at hpl hcall ⊢
  clear hps h3
  go_enter Try.func201, Try.ntmps201
  go_wp2_with fail
  refine hcall.mono ?_
  rintro e w1 ⟨rfl, hB, he1⟩
  go_wp2
  go_loopw [3, 10] (fun t i wr => ∃ k m : Nat, k ≤ many ∧ i = .int .i64 k ∧ t = I m ∧ Hid (m = n / 256 ^ k) ∧ BytesIn wr w.heap.size 5 (putN ps at_ n k) ∧ Ext w wr) (fun _ i _ => many - (intOf i).toNat)
  case atStart => exact ⟨0, n, by omega, rfl, rfl, Lib.hid (by simp), hB, he1⟩
  case round =>
    obtain ⟨k, m, hk, rfl, rfl, Hm, hBk, he⟩ := hrel
    clear hB he1 hcall
    by_cases hlt : k < many
    · have hml : m < 4294967296 := by rw [Hm.out]; exact Nat.lt_of_le_of_lt (Nat.div_le_self _ _) hl
      have hcell := hBk.cell (at_ + k) (by rw [putN_len]; omega)
      have hf := hBk.free (at_ + k)
      obtain ⟨y, hy⟩ : ∃ y, y = (putN ps at_ n k)[at_ + k]'(by rw [putN_len]; omega) := ⟨_, rfl⟩
      rw [← hy] at hcell
      obtain ⟨x, hx⟩ : ∃ x, x = UInt8.ofNat (n / 256 ^ k) := ⟨_, rfl⟩
      have q1 : (m : Int) % 256 = (x.toNat : Int) := by rw [hx, ← Hm.out, UInt8.toNat_ofNat']; simp
      have q2 : (m : Int) / 256 = ((m / 256 : Nat) : Int) := by simp
      have HB := Lib.hid hBk
      have Hx := Lib.hid hx
      obtain ⟨xi, hxi⟩ : ∃ xi : Int, xi = (x.toNat : Int) := ⟨_, rfl⟩
      have hxb : 0 ≤ xi ∧ xi < 256 := by have := x.toNat_lt; omega
      obtain ⟨m', hm'⟩ : ∃ m', m' = m / 256 := ⟨_, rfl⟩
      rw [← hxi] at q1
      rw [← hm'] at q2
      have Hm' : Hid (m' = n / 256 ^ (k + 1)) := Lib.hid (by rw [hm', Hm.out, div_pow])
      have Hxi := Lib.hid hxi
      clear hBk hy hx hxi hm'
      go_wp2
      go_roundw
      case rel =>
        refine ⟨k + 1, m', by omega, by go_num, rfl, Hm', ?_, he.setCell (by simp) _⟩
        have := HB.out.set (at_ + k) x
        rw [Hxi.out]
        rw [Hx.out] at this ⊢
        exact this
      case measure => simp [intOf]; omega
    · obtain rfl : k = many := by omega
      go_wp2
      go_ret
      exact ⟨rfl, hBk, he⟩

set_option maxRecDepth 100000 in
set_option maxHeartbeats 400000 in
theorem ref_Number (v : Value) (xs : List UInt8) (at_ : Nat) (w : World) (h : Rep.byte.sl w v xs) (hn : xs.length ≤ 128) (ha : at_ + 4 ≤ 128) :
    Calls Try.prog 171 #[v, I at_] w fun e w' => e = .returned (U32 (takeN (pad xs) at_ 4)) ∧ Ext w w' := by
  have hcall := ref_At v xs at_ 4 w h hn (by decide) ha
  have hb : takeN (pad xs) at_ 4 < 4294967296 := takeN_lt _ _ _
  obtain ⟨m, hm⟩ : ∃ m, m = takeN (pad xs) at_ 4 := ⟨_, rfl⟩
  rw [← hm] at hcall hb ⊢
  obtain ⟨A, c, rfl, h1, h2, h3⟩ := h
  clear hm h3
  go_enter Try.func171, Try.ntmps171
  go_wp2_with fail
  refine hcall.mono ?_
  rintro e w1 ⟨rfl, he1⟩
  go_wp2
  go_ret
  exact ⟨rfl, he1⟩

/-- A number's four bytes, as cells. -/
def fourV (n : Nat) : Array Value := ((numB n 4).map B).toArray
theorem four_lit (n : Nat) : fourV n = #[B (UInt8.ofNat n), B (UInt8.ofNat (n / 256)), B (UInt8.ofNat (n / 65536)), B (UInt8.ofNat (n / 16777216))] := by
  simp [fourV, numB, List.range_succ]
theorem four_at (n k : Nat) : ((UInt8.ofNat (n / k)).toNat : Int) = (n : Int) / k % 256 := by rw [UInt8.toNat_ofNat']; simp

set_option maxRecDepth 100000 in
set_option maxHeartbeats 400000 in
theorem ref_Four (n : Nat) (w : World) (hn : n < 4294967296) :
    Calls Try.prog 195 #[U32 n] w fun e w' => e = .returned (.slice (some ⟨w.heap.size, 0, none⟩) 4 4) ∧ w' = w.alloc (.cells (fourV n) 5) := by
  have e0 := four_at n 1
  have e1 := four_at n 256
  have e2 := four_at n 65536
  have e3 := four_at n 16777216
  simp only [Nat.div_one] at e0
  have hl := four_lit n
  have d3 : (n : Int) / 16777216 < 256 := by omega
  have Hl := Lib.hid hl
  have Hn : Hid (fourV n = #[.int .u8 ((n : Int) % 256), .int .u8 ((n : Int) / 256 % 256), .int .u8 ((n : Int) / 65536 % 256), .int .u8 ((n : Int) / 16777216)]) := Lib.hid (by
    have : (n : Int) / 16777216 % 256 = (n : Int) / 16777216 := by omega
    rw [Hl.out]
    show #[Value.int .u8 ((UInt8.ofNat n).toNat : Int), Value.int .u8 ((UInt8.ofNat (n / 256)).toNat : Int), Value.int .u8 ((UInt8.ofNat (n / 65536)).toNat : Int), Value.int .u8 ((UInt8.ofNat (n / 16777216)).toNat : Int)] = _
    rw [e0, e1, e2, e3]
    simp [this])
  clear e0 e1 e2 e3 hl Hl
  go_enter Try.func195, Try.ntmps195
  go_wp2
  go_ret
  refine ⟨rfl, ?_⟩
  rw [Hn.out]

set_option maxRecDepth 100000 in
set_option maxHeartbeats 400000 in
theorem ref_Sealed (v : Value) (xs : List UInt8) (w : World) (h : Rep.byte.sl w v xs) (hn : xs.length ≤ 128) :
    Calls Try.prog 196 #[v] w fun e w' => ∃ g, e = .returned (.slice (some ⟨g, 0, none⟩) 128 128) ∧ w.heap.size ≤ g ∧ BytesIn w' g 5 (putN (pad xs) 124 (overB 0 ((pad xs).take 124)) 4) ∧ Ext w w' := by
  have hcall := ref_Whole v xs w h hn
  have hpl := pad_len hn
  obtain ⟨ps, hps⟩ : ∃ ps, ps = pad xs := ⟨_, rfl⟩
  rw [← hps] at hcall hpl ⊢
  obtain ⟨A, c, rfl, h1, h2, h3⟩ := h
  have hsl : overB 0 (ps.take 124) < 4294967296 := overB_lt _ (by decide)
  obtain ⟨s, hs⟩ : ∃ s, s = overB 0 (ps.take 124) := ⟨_, rfl⟩
  rw [← hs] at hsl ⊢
  have Hs := Lib.hid hs
  clear hps h3 hs
  go_enter Try.func196, Try.ntmps196
  go_wp2_with fail
  refine hcall.mono ?_
  rintro e w1 ⟨rfl, hB, he1⟩
  have hb1 : Rep.byte.sl w1 (.slice (some ⟨w.heap.size, 0, none⟩) 128 128) ps := by
    have := own_bytes (hB.own (base := 0) (Nat.zero_le _) (by rw [hpl]; unfold Fit; decide))
    rwa [hpl] at this
  have hb2 : Rep.byte.sl w1 (.slice (some ⟨w.heap.size, 0, none⟩) 124 128) (ps.take 124) := by
    refine ⟨some ⟨w.heap.size, 0, none⟩, 128, by simp [hpl], by simp; omega, by unfold Cap; omega, .inr ⟨w.heap.size, 0, rfl, fun j hj => ?_⟩⟩
    have hj2 : j < 124 := by simp at hj; omega
    refine ⟨[B (ps.take 124)[j]], rfl, fun t ht => ?_⟩
    have ht' : t = 0 := by simpa using ht
    subst ht'
    have := hB.cell j (by omega)
    simpa [Rep.byte] using this
  clear hcall
  go_wp2_with fail
  refine (ref_Sum _ _ _ hb2).mono ?_
  rintro e w2 ⟨rfl, rfl⟩
  rw [← Hs.out]
  go_wp2_with fail
  refine (ref_put _ ps 124 4 s _ hb1 (by omega) (by decide) (by decide) hsl).mono ?_
  rintro e w2 ⟨rfl, hB2, he2⟩
  rw [pad_full hpl] at hB2
  go_wp2
  go_ret
  exact ⟨_, rfl, he1.size, hB2, Ext.trans he1 he2⟩

end Go.Proofs.Ytancfgmaejjooaa
