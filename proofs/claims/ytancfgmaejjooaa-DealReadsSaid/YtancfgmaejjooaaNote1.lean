/- Notes: numbers put side by side into a block. -/
import Derived.Test.YtancfgmaejjooaaRows
import Derived.Test.YtancfgmaejjooaaBase
import Derived.Test.YtancfgmaejjooaaPack
set_option linter.unusedVariables false
set_option linter.unusedSimpArgs false
namespace Go.Proofs.Ytancfgmaejjooaa
open Go.RowKit

/-- Numbers of a size, side by side, the first so many. -/
def putL (l : List UInt8) (at_ size : Nat) (ns : List Nat) : Nat → List UInt8
  | 0 => l
  | k + 1 => putN (putL l at_ size ns k) (at_ + k * size) (ns.getD k 0) size

theorem putL_len (l : List UInt8) (at_ size : Nat) (ns : List Nat) (k : Nat) : (putL l at_ size ns k).length = l.length := by
  induction k with
  | zero => rfl
  | succ k ih => simp [putL, putN_len, ih]

theorem whole_full {l : List UInt8} (h : l.length = 128) : whole l = l := by unfold whole; rw [if_neg (by omega)]
theorem block_full {l : List UInt8} (h : l.length = 128) : isBlock l = true := by unfold isBlock; simp [h]

theorem bytesIn_sl {w : World} {g : Nat} {t : TypeId} {l : List UInt8} (h : BytesIn w g t l) (hl : l.length = 128) : Rep.byte.sl w (.slice (some ⟨g, 0, none⟩) 128 128) l := by
  have h2 := own_bytes (h.own (Nat.zero_le _) (by unfold Fit; omega))
  rw [hl] at h2
  exact h2

/-- A block that the call has made. -/
def Made (w0 w : World) (v : Value) (l : List UInt8) : Prop := ∃ g, v = .slice (some ⟨g, 0, none⟩) 128 128 ∧ w0.heap.size ≤ g ∧ BytesIn w g 210 l

theorem Made.sl {w0 w : World} {v : Value} {l : List UInt8} (h : Made w0 w v l) (hl : l.length = 128) : Rep.byte.sl w v l := by
  obtain ⟨g, rfl, _, hB⟩ := h
  exact bytesIn_sl hB hl

set_option maxRecDepth 100000 in
set_option maxHeartbeats 400000 in
theorem note_put (v : Value) (xs : List UInt8) (at_ size : Nat) (b : Nat) (ns : List Nat) (w : World) (h : Rep.byte.sl w v xs) (hb : isBlock xs = true)
    (hns : ∀ j (hj : j < ns.length), w.cell? ⟨b, j, none⟩ = some (I ns[j])) (hlt : ∀ n ∈ ns, n < 256 ^ size) (h1 : 1 ≤ size) (h2 : size ≤ 4) (hn : 1 ≤ ns.length) (h3 : at_ + ns.length * size ≤ 128) :
    Calls Try.prog 140 #[v, I at_, I size, .slice (some ⟨b, 0, none⟩) ns.length ns.length] w fun e w' => ∃ v', e = .returned v' ∧ Made w w' v' (putL (whole xs) at_ size ns ns.length) ∧ Ext w w' := by
  have hnn : ns.length ≤ 128 := by have := Nat.mul_le_mul_left ns.length h1; omega
  have Hs := Lib.hid hns
  have Hlt := Lib.hid hlt
  have H3 := Lib.hid h3
  clear hns hlt h3
  go_enter Try.func140, Try.ntmps140
  go_wp2
  go_loopw [0, 9, 10, 13] (fun t _ _ i wr => ∃ k : Nat, ∃ l, k ≤ ns.length ∧ i = .int .i64 k ∧ Ext w wr ∧ Rep.byte.sl wr t l ∧ Hid (isBlock l = true) ∧ Hid (whole l = putL (whole xs) at_ size ns k) ∧ Hid (0 < k → Made w wr t (putL (whole xs) at_ size ns k))) (fun _ _ _ i _ => ns.length - (intOf i).toNat)
  case atStart => exact ⟨0, xs, Nat.zero_le _, rfl, Ext.refl _, h, Lib.hid hb, Lib.hid rfl, Lib.hid (fun h => absurd h (by omega))⟩
  case round =>
    obtain ⟨k, l, hk, rfl, he, hsl, hbl, hwl, hmade⟩ := hrel
    by_cases hlt' : k < ns.length
    · have hc := he.cells (Hs.out k hlt')
      obtain ⟨n, hnk⟩ : ∃ n, n = ns[k] := ⟨_, rfl⟩
      rw [← hnk] at hc
      have Hn : Hid (n < 256 ^ size) := Lib.hid (hnk ▸ Hlt.out _ (List.getElem_mem hlt'))
      have Hnk := Lib.hid hnk
      have hmul : (k + 1) * size ≤ ns.length * size := Nat.mul_le_mul_right _ hlt'
      rw [Nat.add_mul] at hmul
      have hat : at_ + k * size + size ≤ 128 := by have := H3.out; omega
      obtain ⟨ks, hks⟩ : ∃ ks, ks = k * size := ⟨_, rfl⟩
      have q1 : (k : Int) * (size : Int) = (ks : Int) := by rw [hks]; simp
      rw [← hks] at hat
      have Hks := Lib.hid hks
      clear hmul hnk hks
      go_wp2_with fail
      refine (pack_Put _ l (at_ + ks) size n _ hsl hbl.out h1 h2 hat Hn.out).mono ?_
      rintro e w1 ⟨g, rfl, hg, hB, he1⟩
      have hz := he.size
      go_wp2
      go_roundw
      case rel =>
        have hnew : putN (whole l) (at_ + ks) n size = putL (whole xs) at_ size ns (k + 1) := by
          rw [hwl.out, Hks.out, Hnk.out]
          simp only [putL, List.getD_eq_getElem?_getD, List.getElem?_eq_getElem hlt', Option.getD_some]
        rw [hnew] at hB
        have hlen : (putL (whole xs) at_ size ns (k + 1)).length = 128 := by rw [putL_len, whole_len hb]
        exact ⟨k + 1, _, by omega, by go_num, Ext.trans he he1, bytesIn_sl hB hlen, Lib.hid (block_full hlen), Lib.hid (whole_full hlen), Lib.hid (fun _ => ⟨g, rfl, by omega, hB⟩)⟩
      case measure => simp [intOf]; omega
    · obtain rfl : k = ns.length := by omega
      go_wp2
      go_ret
      exact ⟨_, rfl, hmade.out (by omega), he⟩

end Go.Proofs.Ytancfgmaejjooaa
