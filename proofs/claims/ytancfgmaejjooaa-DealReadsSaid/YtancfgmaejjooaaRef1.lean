/- The document's sums, bit by bit. -/
import Derived.Test.YtancfgmaejjooaaRows
import Derived.Test.YtancfgmaejjooaaBase
import Derived.Test.YtancfgmaejjooaaPoly
import Derived.Test.YtancfgmaejjooaaLaw13
set_option linter.unusedVariables false
set_option linter.unusedSimpArgs false
namespace Go.Proofs.Ytancfgmaejjooaa
open Go.RowKit

theorem ones_xor (n s : Nat) (h : s < 2 ^ n) : (2 ^ n - 1) ^^^ s = 2 ^ n - 1 - s := by
  apply Nat.eq_of_testBit_eq
  intro i
  have e : 2 ^ n - 1 - s = 2 ^ n - (s + 1) := by omega
  rw [Nat.testBit_xor, Nat.testBit_two_pow_sub_one, e, Nat.testBit_two_pow_sub_succ h]
  by_cases hi : i < n
  · simp [hi]
  · have : s.testBit i = false := Nat.testBit_lt_two_pow (Nat.lt_of_lt_of_le h (Nat.pow_le_pow_right (by decide) (by omega)))
    simp [hi, this]
theorem xor_twice (c s : Nat) : c ^^^ (c ^^^ s) = s := by rw [← Nat.xor_assoc, Nat.xor_self, Nat.zero_xor]
theorem notB_of (n c s : Nat) (hc : c = 2 ^ n - 1) (h : s ≤ c) : c ^^^ s = c - s := by
  subst hc
  have := Nat.two_pow_pos n
  exact ones_xor n s (by omega)
theorem notB_eq (s : Nat) : notB s = 4294967295 ^^^ s := by unfold notB; rfl
theorem c32 : (4294967295 : Nat) = 2 ^ 32 - 1 := by decide
theorem notB_sub {s : Nat} (h : s < 4294967296) : notB s = 4294967295 - s := by
  rw [notB_eq]
  generalize hc : (4294967295 : Nat) = cc
  exact notB_of 32 cc s (hc.symm.trans c32) (by omega)
theorem notB_notB (s : Nat) : notB (notB s) = s := by
  rw [notB_eq, notB_eq]
  generalize (4294967295 : Nat) = cc
  exact xor_twice cc s
theorem bitStep_lt {n : Nat} (h : n < 4294967296) : bitStep n < 4294967296 := by
  unfold bitStep
  exact xor_lt (by omega) (by split <;> decide)
theorem bitN_lt {n : Nat} (h : n < 4294967296) : ∀ k, bitN k n < 4294967296
  | 0 => h
  | k + 1 => bitStep_lt (bitN_lt h k)

set_option maxRecDepth 100000 in
set_option maxHeartbeats 400000 in
theorem ref_With (s : Nat) (x : UInt8) (w : World) (hs : s < 4294967296) :
    Calls Try.prog 197 #[.int .u32 (s : Int), .int .u8 (x.toNat : Int)] w fun e w' => e = .returned (.int .u32 ((notB (stepB (notB s) x) : Nat) : Int)) ∧ w = w' := by
  obtain ⟨a, ha⟩ : ∃ a, a = notB s := ⟨_, rfl⟩
  have hal : a < 4294967296 := by rw [ha]; exact notB_lt hs
  have has : (4294967295 : Int) - (s : Int) = (a : Int) := by have := notB_sub hs; omega
  have hx := x.toNat_lt
  obtain ⟨xn, hxn⟩ : ∃ xn, xn = x.toNat := ⟨_, rfl⟩
  rw [← hxn] at hx ⊢
  obtain ⟨n0, hn0⟩ : ∃ n0, n0 = a ^^^ xn := ⟨_, rfl⟩
  have hn0l : n0 < 4294967296 := by rw [hn0]; exact xor_lt hal (by omega)
  have hxor : bits .xor .u32 (a : Int) (xn : Int) = (n0 : Int) := by rw [hn0]; exact u32_xor a xn hal (by omega)
  have hw1 : IntKind.u32.wrap ((4294967295 : Int) - (s : Int)) = (a : Int) := by rw [has]; exact IntWalk.u32_in _ (by omega)
  have hw2 : IntKind.u32.wrap (xn : Int) = (xn : Int) := IntWalk.u32_in _ (by omega)
  have Hn0 := Lib.hid hn0
  have Ha := Lib.hid ha
  have Hxn := Lib.hid hxn
  clear hn0 ha hxn has
  go_enter Try.func197, Try.ntmps197
  go_wp2
  go_loop [5, 6, 7] (fun n i _ => ∃ k m : Nat, k ≤ 8 ∧ i = .int .i64 k ∧ Hid (m = bitN k n0) ∧ n = .int .u32 m) (fun _ i _ => 8 - (intOf i).toNat)
  case atStart => exact ⟨0, n0, by omega, rfl, Lib.hid rfl, rfl⟩
  case round =>
    obtain ⟨k, m, hk, rfl, hm, rfl⟩ := hrel
    have hml : m < 4294967296 := by rw [hm.out]; exact bitN_lt hn0l k
    clear hw1 hw2 hxor
    by_cases hlt : k < 8
    · have q1 : Int.tmod (m : Int) 2 = ((m % 2 : Nat) : Int) := by rw [Int.tmod_eq_emod_of_nonneg (by omega)]; simp
      have q2 : Int.tdiv (m : Int) 2 = ((m / 2 : Nat) : Int) := by rw [Int.tdiv_eq_ediv_of_nonneg (by omega)]; simp
      obtain ⟨h, hh⟩ : ∃ h, h = m / 2 := ⟨_, rfl⟩
      have hx3 : bits .xor .u32 (h : Int) 2197175160 = ((h ^^^ 2197175160 : Nat) : Int) := u32_xor h 2197175160 (by omega) (by decide)
      have hxl : h ^^^ 2197175160 < 4294967296 := xor_lt (by omega) (by decide)
      obtain ⟨g, hg⟩ : ∃ g, g = h ^^^ 2197175160 := ⟨_, rfl⟩
      rw [← hg] at hx3 hxl
      rw [← hh] at q2
      have Hh := Lib.hid hh
      have Hg := Lib.hid hg
      have hhl : h < 4294967296 := by omega
      clear hh hg
      rcases Nat.mod_two_eq_zero_or_one m with h01 | h01
      · have H01 := Lib.hid h01
        rw [h01] at q1
        clear h01
        go_wp2
        go_round
        case rel =>
          refine ⟨k + 1, h, by omega, by go_num, Lib.hid ?_, rfl⟩
          show h = bitStep (bitN k n0)
          rw [← hm.out]
          unfold bitStep
          rw [if_neg (by rw [H01.out]; decide), Hh.out, Nat.xor_zero]
        case measure => simp [intOf]; omega
      · have H01 := Lib.hid h01
        rw [h01] at q1
        clear h01
        go_wp2
        go_round
        case rel =>
          refine ⟨k + 1, g, by omega, by go_num, Lib.hid ?_, rfl⟩
          show g = bitStep (bitN k n0)
          rw [← hm.out]
          unfold bitStep
          rw [if_pos H01.out, Hg.out, Hh.out]
        case measure => simp [intOf]; omega
    · obtain rfl : k = 8 := by omega
      have hsub := notB_sub hml
      have hw3 : IntKind.u32.wrap ((4294967295 : Int) - (m : Int)) = ((notB m : Nat) : Int) := by
        rw [hsub, show (4294967295 : Int) - (m : Int) = ((4294967295 - m : Nat) : Int) by omega]
        exact IntWalk.u32_in _ (by omega)
      have Hsub := Lib.hid hsub
      obtain ⟨r, hr⟩ : ∃ r, r = notB m := ⟨_, rfl⟩
      rw [← hr] at hw3
      have HR := Lib.hid hr
      clear hsub hr
      go_wp2
      go_ret
      refine ⟨ret_int ?_, rfl⟩
      rw [HR.out, hm.out, Hn0.out, Hxn.out, bit8, Ha.out]

theorem fold_take {s : Nat} {l : List UInt8} {k : Nat} (h : k < l.length) : (l.take (k + 1)).foldl stepB s = stepB ((l.take k).foldl stepB s) l[k] := by
  rw [List.take_succ_eq_append_getElem h, List.foldl_append]
  rfl

set_option maxRecDepth 100000 in
set_option maxHeartbeats 400000 in
theorem ref_Over (s : Nat) (v : Value) (xs : List UInt8) (w : World) (hs : s < 4294967296) (h : Rep.byte.sl w v xs) :
    Calls Try.prog 174 #[.int .u32 (s : Int), v] w fun e w' => e = .returned (.int .u32 ((overB s xs : Nat) : Int)) ∧ w = w' := by
  obtain ⟨A, c, rfl, h1, h2, h3⟩ := h
  unfold Cap at h2
  go_enter Try.func174, Try.ntmps174
  go_wp2
  go_loop [0, 5] (fun t i => ∃ k m : Nat, k ≤ xs.length ∧ i = .int .i64 k ∧ Hid (m = notB ((xs.take k).foldl stepB (notB s))) ∧ t = .int .u32 m) (fun _ i => xs.length - (intOf i).toNat)
  case atStart => exact ⟨0, s, by omega, rfl, Lib.hid (by simp [notB_notB]), rfl⟩
  case round =>
    obtain ⟨k, m, hk, rfl, hm, rfl⟩ := hrel
    have hml : m < 4294967296 := by rw [hm.out]; exact notB_lt (fold_lt _ (notB_lt hs))
    by_cases hlt : k < xs.length
    · obtain ⟨b, off, rfl, hc⟩ := byte_at h3 (by omega)
      have hck := hc k hlt
      obtain ⟨x, hx⟩ : ∃ x, x = xs[k] := ⟨_, rfl⟩
      rw [← hx] at hck
      have hnew : notB (stepB (notB m) x) = notB ((xs.take (k + 1)).foldl stepB (notB s)) := by
        rw [hm.out, notB_notB, fold_take hlt, hx]
      have Hnew := Lib.hid hnew
      clear hc hx hnew h3
      go_wp2_with (go_at_call 197; refine (ref_With m x _ hml).mono ?_; rintro e w2 ⟨rfl, rfl⟩)
      go_round
      case rel => exact ⟨k + 1, _, by omega, by go_num, Lib.hid Hnew.out, rfl⟩
      case measure => simp [intOf]; omega
    · obtain rfl : k = xs.length := by omega
      have hm2 := hm.out
      rw [List.take_length] at hm2
      have Hm2 := Lib.hid hm2
      clear hm2
      go_wp2
      go_ret
      exact ⟨by rw [Hm2.out]; rfl, rfl⟩

set_option maxRecDepth 100000 in
set_option maxHeartbeats 400000 in
theorem ref_Sum (v : Value) (xs : List UInt8) (w : World) (h : Rep.byte.sl w v xs) :
    Calls Try.prog 124 #[v] w fun e w' => e = .returned (.int .u32 ((overB 0 xs : Nat) : Int)) ∧ w = w' := by
  have hc := ref_Over 0 v xs w (by decide) h
  obtain ⟨A, c, rfl, h1, h2, h3⟩ := h
  go_enter Try.func124, Try.ntmps124
  go_wp2_with (go_at_call 174; refine hc.mono ?_; rintro e w2 ⟨rfl, rfl⟩)
  go_ret
  exact ⟨rfl, rfl⟩

end Go.Proofs.Ytancfgmaejjooaa
