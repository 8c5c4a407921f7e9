/- The places of a note's records, as an iterator. -/
import Derived.Test.YtancfgmaejjooaaRows
import Derived.Test.YtancfgmaejjooaaBase
import Derived.Test.YtancfgmaejjooaaRange
set_option linter.unusedVariables false
set_option linter.unusedSimpArgs false
namespace Go.Proofs.Ytancfgmaejjooaa
open Go.RowKit

abbrev placeV (i : Nat) : Array Value := #[I (i : Int), I (15 + 6 * (i : Int))]

theorem KeepsC.cell {n0 : Nat} {TS : List TypeId} {A B : World} (h : KeepsC n0 TS A B) {b o : Nat} {v : Value} (hv : A.cell? ⟨b, o, none⟩ = some v) (hc : b < n0 ∨ ∃ c t fr, A.heap[b]? = some (.cells c t fr) ∧ t ∉ TS) : B.cell? ⟨b, o, none⟩ = some v := by
  rw [World.cell?_of_block (w := A) (h.same b (World.block_lt_of_cell? A _ hv) hc)]
  exact hv

/-- A box: a block of one cell. -/
abbrev Box (w : World) (b : Nat) (t : TypeId) (v : Value) : Prop := w.heap[b]? = some (.cells #[v] t (0, 0))
theorem Box.cell {w : World} {b : Nat} {t : TypeId} {v : Value} (h : Box w b t v) : w.cell? ⟨b, 0, none⟩ = some v := by simp [World.cell?, h]
theorem Box.free {w : World} {b : Nat} {t : TypeId} {v : Value} (h : Box w b t v) : w.frozen? ⟨b, 0, none⟩ = false := by simp [World.frozen?, h]
theorem Box.lt {w : World} {b : Nat} {t : TypeId} {v : Value} (h : Box w b t v) : b < w.heap.size := by
  rcases Nat.lt_or_ge b w.heap.size with h' | h'
  · exact h'
  · unfold Box at h
    simp [Array.getElem?_eq_none h'] at h
theorem Box.ext {w w' : World} {b : Nat} {t : TypeId} {v : Value} (h : Box w b t v) (he : Ext w w') : Box w' b t v := (he.block b h.lt).trans h
theorem Box.keepsC {w w' : World} {b : Nat} {t : TypeId} {v : Value} {n0 : Nat} {TS : List TypeId} (h : Box w b t v) (he : KeepsC n0 TS w w') (hc : b < n0 ∨ t ∉ TS) : Box w' b t v :=
  (he.same b h.lt (hc.imp id fun ht => ⟨_, t, _, h, ht⟩)).trans h
theorem Box.keeps {w w' : World} {b : Nat} {t : TypeId} {v : Value} {n0 : Nat} {TS : List TypeId} (h : Box w b t v) (he : Keeps n0 TS w w') (hc : b < n0 ∨ t ∉ TS) : Box w' b t v := h.keepsC (.of_keeps he) hc
theorem Box.new (w : World) (t : TypeId) (v : Value) (b : Nat) (h : b = w.heap.size) : Box (w.alloc (.cells #[v] t)) b t v := heap_new w _ b h

set_option maxRecDepth 100000 in
set_option maxHeartbeats 400000 in
theorem places_iter (bx many : Nat) (n0 : Nat) (TS : List TypeId) (w : World) (hm : many < 1000000) (hb : Box w bx 3 (I (many : Int))) (hbx : bx < n0 ∨ 3 ∉ TS) :
    IterG Try.prog 152 #[.pointer (some ⟨bx, 0, none⟩)] placeV (fun pre i _ => i = pre.length ∧ i < many) (fun xs => xs = List.range many) (fun pre => pre = List.range pre.length ∧ pre.length ≤ many) n0 TS [] w := by
  intro l J Jx W hW hJ hJx hY h0
  have Hbx := Lib.hid hbx
  have HJ := Lib.hid hJ
  have HY := Lib.hid hY
  have hbW := hb.ext hW
  clear hbx hJ hJx hY hb
  refine (callsIn_wide (n := 0)).1 (callsIn_of_wp Try.func152 rfl trivial ?_ rfl)
  simp only [Try.ntmps152, List.size_toArray, List.length_cons, List.length_nil, Nat.reduceAdd, Nat.reduceSub, Array.replicate_succ, Array.replicate_zero, List.push_toArray, List.append_toArray, List.nil_append, List.cons_append]
  gi_wp2
  gi_loopw [3] (fun i wr => ∃ k : Nat, k ≤ many ∧ i = .int .i64 k ∧ J (List.range k) wr ∧ Hid (Box wr bx 3 (I (many : Int)))) (fun i _ => many - (intOf i).toNat)
  case atStart => exact ⟨0, Nat.zero_le _, rfl, h0, Lib.hid hbW⟩
  case round =>
    obtain ⟨k, hk, rfl, hJk, HB⟩ := hrel
    have hc := HB.out.cell
    by_cases hlt : k < many
    · obtain ⟨fn, tmps, assign, body, hy, hR⟩ := HY.out (List.range k) k wr hJk ⟨by simp, hlt⟩
      dsimp only [placeV] at hy
      gi_wp2
      refine ⟨rfl, hR.mono ?_⟩
      rintro e W' ⟨b, rfl, hkp, hif⟩
      have hB' := HB.out.keepsC hkp Hbx.out
      cases b
      · rw [if_neg (by simp)] at hif
        gi_wp2
        go_end0
        exact ⟨⟨_, rfl⟩, .inr ⟨_, ⟨by simp [List.range_succ], by simp; omega⟩, hif⟩⟩
      · rw [if_pos rfl, ← List.range_succ] at hif
        gi_wp2
        go_roundw
        case rel => exact ⟨k + 1, by omega, by go_num, hif, Lib.hid hB'⟩
        case measure => simp [intOf]; omega
    · obtain rfl : k = many := by omega
      gi_wp2
      refine ⟨fun _ _ => trivial, ?_⟩
      gi_wp2
      go_end0
      exact ⟨⟨_, rfl⟩, .inl ⟨_, rfl, hJk⟩⟩

end Go.Proofs.Ytancfgmaejjooaa
