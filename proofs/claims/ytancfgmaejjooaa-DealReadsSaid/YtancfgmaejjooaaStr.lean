/- Strings made of bytes, and held against each other. -/
import Derived.Test.YtancfgmaejjooaaRows
import Derived.Test.YtancfgmaejjooaaBase
import Derived.Laws.IdiomStrings
import Derived.Laws.BytesString
set_option linter.unusedVariables false
set_option linter.unusedSimpArgs false
namespace Go.Proofs.Ytancfgmaejjooaa
open Go.RowKit

/-- The string of some bytes. -/
def strOf (l : List UInt8) : ByteArray := ⟨l.toArray⟩
theorem strOf_inj {a b : List UInt8} : strOf a = strOf b ↔ a = b := by
  unfold strOf
  constructor
  · intro h
    have := congrArg (fun x : ByteArray => x.data.toList) h
    simpa using this
  · rintro rfl; rfl

theorem conv_sl {w : World} {v : Value} {l : List UInt8} (h : Rep.byte.sl w v l) : (convert 32 9 v).run Try.prog w = .ok (.string (strOf l)) w := by
  obtain ⟨A, c, rfl, h1, h2, h3⟩ := h
  rcases Nat.eq_zero_or_pos l.length with h0 | h0
  · have hl := List.eq_nil_of_length_eq_zero h0
    subst hl
    cases A with
    | none =>
      rw [List.length_nil, run_convert_bytes_string w 32 9 5 none 0 c Try.underlying32 Try.underlying5 Try.underlying9]
      simp [go_sem, strOf, Conv.bytesToString, loadCells, loadCellsFrom]
      rfl
    | some a =>
      have := run_convert_bytes_back (P := Try.prog) w 32 9 5 a c [] Try.underlying32 Try.underlying5 Try.underlying9 (by simp)
      exact this
  · obtain ⟨b, off, rfl, hc⟩ := byte_at h3 h0
    exact run_convert_bytes_back (P := Try.prog) w 32 9 5 ⟨b, off, none⟩ c l Try.underlying32 Try.underlying5 Try.underlying9 (fun j hj => by rw [add_lit]; exact hc j hj)

theorem str_ne (a b : List UInt8) (w : World) : (binOp .neq 9 (.string (strOf a)) (.string (strOf b))).run Try.prog w = .ok (.bool (!decide (a = b))) w := by
  by_cases h : a = b
  · subst h
    simp [go_sem]
  · have := fun e => h (strOf_inj.1 e)
    simp [go_sem, this, h, strOf, ByteArray.toList_eq]

end Go.Proofs.Ytancfgmaejjooaa
