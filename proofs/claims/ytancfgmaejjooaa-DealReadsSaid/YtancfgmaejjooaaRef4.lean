/- The document's blocks: which may be. -/
import Derived.Test.YtancfgmaejjooaaRef2
set_option linter.unusedVariables false
set_option linter.unusedSimpArgs false
namespace Go.Proofs.Ytancfgmaejjooaa
open Go.RowKit

theorem block_cast (x : List UInt8) : (((x.length : Int) == 0) || ((x.length : Int) == 128)) = isBlock x := by
  rw [Bool.eq_iff_iff]
  unfold isBlock
  simp only [Bool.or_eq_true, beq_iff_eq]
  omega
set_option maxRecDepth 100000 in
set_option maxHeartbeats 400000 in
theorem ref_Block (u : Value) (x : List UInt8) (w : World) (h : Rep.byte.sl w u x) :
    Calls Try.prog 126 #[u] w fun e w' => e = .returned (.bool (isBlock x)) ∧ w = w' := by
  obtain ⟨A, c, rfl, h1, h2, h3⟩ := h
  go_enter Try.func126, Try.ntmps126
  go_wp2
  all_goals
    go_ret
    exact ⟨ret_bool (by first | (exact block_cast x) | (subst x; rfl)), rfl⟩
set_option maxRecDepth 100000 in
set_option maxHeartbeats 400000 in
theorem ref_Sized (u : Value) (x : List UInt8) (w : World) (h : Rep.byte.sl w u x) :
    Calls Try.prog 170 #[u] w fun e w' => e = .returned (.bool (isBlock x)) ∧ w = w' := by
  obtain ⟨A, c, rfl, h1, h2, h3⟩ := h
  go_enter Try.func170, Try.ntmps170
  go_wp2
  all_goals
    go_ret
    exact ⟨ret_bool (by first | (exact block_cast x) | (subst x; rfl)), rfl⟩

end Go.Proofs.Ytancfgmaejjooaa
