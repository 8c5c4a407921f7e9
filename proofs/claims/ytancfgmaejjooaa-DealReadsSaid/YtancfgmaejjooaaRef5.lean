/- The document's blocks, whole. -/
import Derived.Test.YtancfgmaejjooaaRef4
set_option linter.unusedVariables false
set_option linter.unusedSimpArgs false
namespace Go.Proofs.Ytancfgmaejjooaa
open Go.RowKit

set_option maxRecDepth 100000 in
set_option maxHeartbeats 400000 in
theorem ref_Full (v : Value) (xs : List UInt8) (w : World) (h : Rep.byte.sl w v xs) (hn : Fit xs.length) :
    Calls Try.prog 73 #[v] w fun e w' => ∃ v', e = .returned v' ∧ w'.ownsRow w.heap.size 5 1 v' (whole xs).length ((whole xs).map B) ∧ Ext w w' := by
  obtain ⟨A, c, rfl, h1, h2, h3⟩ := h
  by_cases hx : xs.length = 0
  · have hx' : xs = [] := List.eq_nil_of_length_eq_zero hx
    subst hx'
    have hm := run_make128
    go_enter Try.func73, Try.ntmps73
    go_wp2
    go_ret
    exact ⟨_, rfl, own_zeros w _ (Nat.le_refl _), (Below.refl _ w).alloc (Nat.le_refl _) _⟩
  · have hx2 : ((xs.length : Int) == 0) = false := by simpa using hx
    have hs := byte_src h3
    go_enter Try.func73, Try.ntmps73
    go_wp2_with (at_builtin; refine wpl_append w.heap.size 5 _ 1 1 rfl _ _ 32 rfl Try.underlying32 info5 rfl (by decide) (by decide) (.slice none 0 0) 0 [] rfl (World.ownsRow_nil _ _ _ _) A xs.length c (xs.map B) rfl (by simp) hs (B_one _) (by unfold Fit at hn; omega) (Nat.le_refl _) ?_; intro v' w' hown hg hat)
    go_ret
    refine ⟨_, rfl, ?_, grown_ext (by simpa [Value.ownBlock] using hg)⟩
    unfold whole
    rw [if_neg hx]
    simpa using hown

set_option maxRecDepth 100000 in
set_option maxHeartbeats 400000 in
theorem ref_Lies (d : Dk) (bv wv : Value) (at_ : Nat) (w : World) (h : DkAt w bv wv d) (hat : at_ < d.blocks.length) (hfit : Fit d.blocks[at_].length) :
    Calls Try.prog 186 #[d.v bv wv, I at_] w fun e w' => ∃ v, e = .returned v ∧ w'.ownsRow w.heap.size 5 1 v (whole d.blocks[at_]).length ((whole d.blocks[at_]).map B) ∧ Ext w w' := by
  obtain ⟨⟨A, c, rfl, a1, a2, a3⟩, ⟨A', c', rfl, b1, b2, b3⟩⟩ := h
  obtain ⟨b, off, rfl, hc⟩ := slice_at (a3.ext (Ext.alloc (Ext.refl _) (.cells #[.slice A d.blocks.length c, .slice A' d.wait.length c', .bool d.dead] 28))) (by omega)
  obtain ⟨A2, c2, hcj, g1, g2, g3⟩ := hc at_ hat
  obtain ⟨x, hx⟩ : ∃ x, x = d.blocks[at_] := ⟨_, rfl⟩
  rw [← hx] at hcj g1 g3 hfit ⊢
  have Hfit := Lib.hid hfit
  clear hc hx a3 b3 hfit
  go_enter Try.func186, Try.ntmps186
  go_wp2_with (go_at_call 73; refine (ref_Full _ x _ ⟨A2, c2, rfl, g1, g2, g3⟩ Hfit.out).mono ?_; rintro e w2 ⟨v', rfl, ho, he2⟩)
  go_ret
  exact ⟨_, rfl, own_lower (base' := w.heap.size) ho (by simp), (by repeat (first | exact Below.refl _ _ | assumption | refine Ext.alloc ?_ _ | refine Ext.drew ?_ | refine Ext.trans ?_ (by assumption)))⟩

end Go.Proofs.Ytancfgmaejjooaa
