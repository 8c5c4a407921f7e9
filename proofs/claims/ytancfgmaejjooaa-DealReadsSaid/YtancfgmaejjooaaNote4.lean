/- Notes: the reader of a block's numbers; a note that may not be. -/
import Derived.Test.YtancfgmaejjooaaRows
import Derived.Test.YtancfgmaejjooaaBase
import Derived.Test.YtancfgmaejjooaaPack
import Derived.Test.YtancfgmaejjooaaNote2
import Derived.Test.YtancfgmaejjooaaRange
import Derived.Test.YtancfgmaejjooaaSsa
set_option linter.unusedVariables false
set_option linter.unusedSimpArgs false
namespace Go.Proofs.Ytancfgmaejjooaa
open Go.RowKit

set_option maxRecDepth 100000 in
set_option maxHeartbeats 400000 in
theorem note_Write_no (n : NoteD) (rv : Value) (w : World) (h : Rep.rc.sl w rv n.recs) (hm : n.may = false) (hn : Fit n.recs.length) :
    Calls Try.prog 87 #[n.v rv] w fun e w' => e = .returned (.tuple #[.slice none 0 0, I 8]) ∧ Ext w w' := by
  have he0 : Hid (n.err = 8) := Lib.hid (by unfold NoteD.err; rw [hm]; rfl)
  refine calls_marks Try.func87 rfl ?_
  simp only [Try.ntmps87, List.size_toArray, List.length_cons, List.length_nil, Nat.reduceAdd, Nat.reduceSub, Array.replicate_succ, Array.replicate_zero, List.push_toArray, List.append_toArray, List.nil_append, List.cons_append]
  obtain ⟨A, c, rfl, h1, h2, h3⟩ := h
  go_wp2_with fail
  refine (note_Check n _ _ (Rep.sl.ext ⟨A, c, rfl, h1, h2, h3⟩ (Ext.alloc (Ext.refl _) _)) hn).mono ?_
  rintro e1 w1 ⟨rfl, he1⟩
  obtain ⟨hc1, hf1⟩ := bcell he1
  have hz1 := he1.size
  try simp only [World.size_alloc] at hz1
  rw [he0.out]
  go_wp2
  exact marks_ret (results_tmp2 rfl _ _ _) ⟨rfl, (by repeat (first | exact Below.refl _ _ | assumption | refine Ext.alloc ?_ _ | refine Ext.drew ?_ | refine Ext.trans ?_ (by assumption)))⟩

set_option maxRecDepth 100000 in
set_option maxHeartbeats 400000 in
theorem reader_next (rb : Nat) (bv : Value) (xs : List UInt8) (at_ size : Nat) (w : World) (hr : RowAt w rb #[bv, I at_] 163) (h : Rep.byte.sl w bv xs) (hb : isBlock xs = true) (h1 : 1 ≤ size) (h2 : size ≤ 4) (h3 : at_ + size ≤ 128) :
    Calls Try.prog 99 #[.pointer (some ⟨rb, 0, none⟩), I size] w fun e w' => e = .returned (I (takeN (whole xs) at_ size)) ∧ RowAt w' rb #[bv, I ((at_ + size : Nat) : Int)] 163 ∧ w.grownBy w' (some rb) := by
  have hs := h
  obtain ⟨A, c, rfl, _, _, _⟩ := h
  have k0 : w.cell? ⟨rb, 0, none⟩ = some (.slice A xs.length c) := by rw [cell_of_row _ _ _ _ _ _ hr]; rfl
  have k1 : w.cell? ⟨rb, 1, none⟩ = some (I at_) := by rw [cell_of_row _ _ _ _ _ _ hr]; rfl
  go_enter Try.func99, Try.ntmps99
  go_wp2
  go_region_with (go_at_call 98; refine (pack_Take _ xs at_ size _ (hs.ext (by exact Ext.drew (Ext.refl _))) hb h1 h2 h3).mono ?_; rintro e w1 ⟨rfl, he1⟩; have hew : Ext w w1 := Ext.trans (Ext.drew (Ext.refl _)) he1; have hr1 := hr.ext hew; have m1 : w1.cell? ⟨rb, 1, none⟩ = some (I at_) := hew.cells k1; have m2 : w1.frozen? ⟨rb, 1, none⟩ = false := frozen_of_row _ _ _ _ _ hr1)
  all_goals
    go_wp2
    go_ret
    refine ⟨rfl, ?_, ?_⟩
    · unfold RowAt
      rw [heap_setCell_same _ _ _ _ _ _ hr1]
      rfl
    · exact ⟨hew.os, hew.tape, hew.output, by simp [World.setCell]; exact hew.size, fun k hk hne => (heap_setCell_other _ _ _ _ (fun e => hne (by simp [e]))).trans (hew.block k hk)⟩

end Go.Proofs.Ytancfgmaejjooaa
