/- The document's configs, and its blocks. -/
import Derived.Test.YtancfgmaejjooaaRows
import Derived.Test.YtancfgmaejjooaaBase
import Derived.Test.YtancfgmaejjooaaShape
import Derived.Test.YtancfgmaejjooaaDisk
set_option linter.unusedVariables false
set_option linter.unusedSimpArgs false
namespace Go.Proofs.Ytancfgmaejjooaa
open Go.RowKit

set_option maxRecDepth 100000 in
set_option maxHeartbeats 400000 in
theorem ref_in (n a b : Int) (w : World) : Calls Try.prog 117 #[I n, I a, I b] w fun e w' => e = .returned (.bool (inB (n, a, b))) ∧ w = w' := by
  go_enter Try.func117, Try.ntmps117
  go_wp2
  all_goals
    go_ret
    exact ⟨ret_bool (by unfold inB; rw [Bool.eq_iff_iff]; simp; try omega), rfl⟩

set_option maxRecDepth 100000 in
set_option maxHeartbeats 400000 in
theorem ref_Need (c : Cfg) (w : World) : Calls Try.prog 118 #[c.v] w fun e w' => e = .returned (I (wrap64 (c.members + 1))) ∧ Ext w w' := by
  go_enter Try.func118, Try.ntmps118
  go_wp2
  go_ret
  exact ⟨rfl, (by repeat (first | exact Below.refl _ _ | assumption | refine Ext.alloc ?_ _ | refine Ext.drew ?_ | refine Ext.trans ?_ (by assumption)))⟩

set_option maxRecDepth 100000 in
set_option maxHeartbeats 400000 in
theorem ref_Journal (c : Cfg) (w : World) : Calls Try.prog 120 #[c.v] w fun e w' => e = .returned (I (wrap64 (1 + c.log))) ∧ Ext w w' := by
  go_enter Try.func120, Try.ntmps120
  go_wp2
  go_ret
  exact ⟨rfl, (by repeat (first | exact Below.refl _ _ | assumption | refine Ext.alloc ?_ _ | refine Ext.drew ?_ | refine Ext.trans ?_ (by assumption)))⟩

set_option maxRecDepth 100000 in
set_option maxHeartbeats 400000 in
theorem ref_Stripes (c : Cfg) (w : World) : Calls Try.prog 175 #[c.v] w fun e w' => e = .returned (I (wrap64 (c.chunk * c.rows))) ∧ Ext w w' := by
  go_enter Try.func175, Try.ntmps175
  go_wp2
  go_ret
  exact ⟨rfl, (by repeat (first | exact Below.refl _ _ | assumption | refine Ext.alloc ?_ _ | refine Ext.drew ?_ | refine Ext.trans ?_ (by assumption)))⟩


end Go.Proofs.Ytancfgmaejjooaa
