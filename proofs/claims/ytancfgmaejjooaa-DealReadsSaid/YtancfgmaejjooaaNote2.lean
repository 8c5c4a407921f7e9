/- Notes: may one be? -/
import Derived.Test.YtancfgmaejjooaaRows
import Derived.Test.YtancfgmaejjooaaBase
import Derived.Test.YtancfgmaejjooaaShape
import Derived.Deep.DeepCutAuto
set_option linter.unusedVariables false
set_option linter.unusedSimpArgs false
namespace Go.Proofs.Ytancfgmaejjooaa
open Go.RowKit

structure Rc where
  slot : UInt8
  bare : Bool
  sum : Nat

def Rep.rc : Rep Rc where
  size := 3
  K _ x cs := cs = [B x.slot, Value.bool x.bare, U32 x.sum] ∧ x.sum < 4294967296
  len h := by rw [h.1]; rfl
  ext h _ := h

theorem rc_at {w : World} {A : Option Addr} {xs : List Rc} (h : Rep.rc.row w A xs) (hn : 0 < xs.length) :
    ∃ b off, A = some ⟨b, off, none⟩ ∧ ∀ j (h : j < xs.length), w.cell? ⟨b, off + j * 3, none⟩ = some (B xs[j].slot) ∧ w.cell? ⟨b, off + j * 3 + 1, none⟩ = some (Value.bool xs[j].bare) ∧ w.cell? ⟨b, off + j * 3 + 2, none⟩ = some (U32 xs[j].sum) ∧ xs[j].sum < 4294967296 := by
  obtain ⟨b, off, rfl, hg⟩ := h.get hn
  refine ⟨b, off, rfl, fun j hj => ?_⟩
  obtain ⟨cs, ⟨rfl, hs⟩, hc⟩ := hg j hj
  have h0 := hc 0 (by simp)
  have h1 := hc 1 (by simp)
  have h2 := hc 2 (by simp)
  exact ⟨by simpa [Rep.rc] using h0, by simpa [Rep.rc, Nat.add_assoc] using h1, by simpa [Rep.rc, Nat.add_assoc] using h2, hs⟩

structure NoteD where
  id : Nat
  age : Nat
  seq : Nat
  stripe : Int
  recs : List Rc

abbrev NoteD.v (n : NoteD) (rv : Value) : Value := .agg #[U32 n.id, U32 n.age, U32 n.seq, I n.stripe, rv]

def NoteD.head (n : NoteD) : Bool := decide (1 ≤ n.recs.length) && decide (n.recs.length ≤ 16) && decide (1 ≤ n.age) && decide (n.age ≤ 2147483648) && decide (1 ≤ n.seq) && decide (n.seq ≤ 2147483648) && decide (0 ≤ n.stripe) && decide (n.stripe < 64)
def recLast (l : List Rc) : Nat → Int
  | 0 => -1
  | k + 1 => (l.getD k ⟨0, false, 0⟩).slot.toNat
def recOk (l : List Rc) (k : Nat) : Bool :=
  decide (recLast l k < recLast l (k + 1)) && ((decide (recLast l (k + 1) = 255) && decide (0 < k) && decide (k = l.length - 1)) || decide (recLast l (k + 1) ≤ 14))
def okTo (n : NoteD) : Nat → Bool
  | 0 => n.head
  | k + 1 => okTo n k && recOk n.recs k
def NoteD.may (n : NoteD) : Bool := okTo n n.recs.length
def NoteD.err (n : NoteD) : Int := if n.may then 0 else 8

theorem head_iff (n : NoteD) : n.head = true ↔ (1 ≤ n.recs.length ∧ n.recs.length ≤ 16 ∧ 1 ≤ n.age ∧ n.age ≤ 2147483648 ∧ 1 ≤ n.seq ∧ n.seq ≤ 2147483648 ∧ 0 ≤ n.stripe ∧ n.stripe < 64) := by
  unfold NoteD.head
  simp
  omega
theorem recOk_iff (l : List Rc) (k : Nat) : recOk l k = true ↔ (recLast l k < recLast l (k + 1) ∧ (recLast l (k + 1) = 255 ∧ 0 < k ∧ k = l.length - 1 ∨ recLast l (k + 1) ≤ 14)) := by
  unfold recOk
  simp
  omega

set_option maxRecDepth 100000 in
set_option maxHeartbeats 400000 in
theorem note_Check (n : NoteD) (rv : Value) (w : World) (h : Rep.rc.sl w rv n.recs) (hn : Fit n.recs.length) :
    Calls Try.prog 139 #[n.v rv] w fun e w' => e = .returned (I n.err) ∧ Ext w w' := by
  obtain ⟨A, c, rfl, h1, h2, h3⟩ := h
  unfold Fit at hn
  go_enter Try.func139, Try.ntmps139
  go_upto_region 2 with fail
  go_cut [4] (fun t wx => t = .bool n.head ∧ wx = w.alloc (.cells #[U32 n.id, U32 n.age, U32 n.seq, I n.stripe, .slice A n.recs.length c] 83))
  case first =>
    go_wp2_with fail
    all_goals (go_meet; refine ⟨?_, rfl⟩)
    all_goals (refine congrArg Value.bool ?_; rw [Bool.eq_iff_iff, head_iff]; constructor <;> intro hh <;> simp at hh ⊢ <;> omega)
  case rest =>
    obtain ⟨rfl, rfl⟩ := hcut
    go_wp2
    have hl0 : Hid (okTo n 0 = n.head) := Lib.hid rfl
    go_loopw [3, 4, 5, 6, 7, 8, 52] (fun t3 t4 _ _ _ _ i wr => ∃ k : Nat, ∃ last : Int, ∃ ok : Bool, k ≤ n.recs.length ∧ i = .int .i64 k ∧ Hid (last = recLast n.recs k) ∧ t3 = .int .i64 last ∧ Hid (ok = okTo n k) ∧ t4 = .bool ok ∧ Ext (w.alloc (.cells #[U32 n.id, U32 n.age, U32 n.seq, I n.stripe, .slice A n.recs.length c] 83)) wr) (fun _ _ _ _ _ _ i _ => n.recs.length - (intOf i).toNat)
    case atStart => exact ⟨0, -1, n.head, Nat.zero_le _, rfl, Lib.hid rfl, rfl, Lib.hid rfl, rfl, Ext.refl _⟩
    case round =>
      obtain ⟨k, last, ok, hk, rfl, hlast, rfl, hok, rfl, he⟩ := hrel
      have hb4 : wr.cell? ⟨w.heap.size, 4, none⟩ = some (.slice A n.recs.length c) := he.cells (by simp)
      have hsz := he.size
      simp only [World.size_alloc] at hsz
      have hsz0 : w.heap.size < wr.heap.size := by omega
      clear hsz
      have hsz := he.size
      simp only [World.size_alloc] at hsz
      by_cases hlt : k < n.recs.length
      · obtain ⟨b, off, rfl, hc⟩ := rc_at (h3.ext (Ext.trans (Ext.alloc (Ext.refl w) _) he)) (by omega)
        obtain ⟨c0, c1, c2, _⟩ := hc k hlt
        obtain ⟨x, hx⟩ : ∃ x, x = n.recs[k] := ⟨_, rfl⟩
        rw [← hx] at c0 c1 c2
        have hx1 : recLast n.recs (k + 1) = (x.slot.toNat : Int) := by simp [recLast, hlt, hx]
        have Hx1 := Lib.hid hx1
        have hxl := x.slot.toNat_lt
        clear hc hx hx1 h3
        cases ok
        all_goals go_wp2
        all_goals go_roundw
        all_goals first
          | (simp [intOf]; omega)
          | (refine ⟨k + 1, _, _, by omega, by go_num, ?_, rfl, ?_, rfl, (by repeat (first | exact Below.refl _ _ | assumption | refine Ext.alloc ?_ _ | refine Ext.drew ?_ | refine Ext.trans ?_ (by assumption)))⟩
             · refine Lib.hid ?_
               have hx9 := Hx1.out
               omega
             · refine Lib.hid ?_
               show _ = (okTo n k && recOk n.recs k)
               rw [← hok.out, Bool.eq_iff_iff, Bool.and_eq_true, recOk_iff, Hx1.out, ← hlast.out]
               constructor <;> intro hh <;> simp at hh ⊢ <;> omega)
      · obtain rfl : k = n.recs.length := by omega
        have hfin : Hid (n.err = if ok then 0 else 8) := Lib.hid (by unfold NoteD.err NoteD.may; rw [← hok.out])
        cases ok
        all_goals
          go_wp2
          go_ret
          exact ⟨ret_int (by rw [hfin.out]; rfl), (by repeat (first | exact Below.refl _ _ | assumption | refine Ext.alloc ?_ _ | refine Ext.drew ?_ | refine Ext.trans ?_ (by assumption)))⟩

end Go.Proofs.Ytancfgmaejjooaa
