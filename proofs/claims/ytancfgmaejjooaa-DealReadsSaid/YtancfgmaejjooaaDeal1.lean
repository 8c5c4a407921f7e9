/- Deals: which may be; what is wrong with a journal and a place. -/
import Derived.Test.YtancfgmaejjooaaDisk3
import Derived.Test.YtancfgmaejjooaaDial
set_option linter.unusedVariables false
set_option linter.unusedSimpArgs false
namespace Go.Proofs.Ytancfgmaejjooaa
open Go.RowKit

def dealErr (c : Cfg) (d : DealD) : Int := if c.may = true ∧ d.may c = true then 0 else 8
abbrev DealD.v (d : DealD) (sv bv pv : Value) : Value := .agg #[I d.stripe, sv, bv, pv]
/-- A deal in memory. -/
def DealAt (w : World) (sv bv pv : Value) (d : DealD) : Prop := Rep.int.sl w sv d.slots ∧ (Rep.slice Rep.byte).sl w bv d.blocks ∧ Rep.byte.sl w pv d.parity
theorem DealAt.ext {w w' : World} {sv bv pv : Value} {d : DealD} (h : DealAt w sv bv pv d) (he : Ext w w') : DealAt w' sv bv pv d := ⟨h.1.ext he, h.2.1.ext he, h.2.2.ext he⟩

theorem deal_may_of (c : Cfg) (d : DealD) (a s : Bool) (h1 : d.blocks.any oddB = a) (h2 : slotsMay c.members d.slots = s) :
    d.may c = (decide (0 ≤ d.stripe) && decide (d.stripe < c.chunk * c.rows) && s && decide (d.blocks.length = d.slots.length) && !a && (decide (d.parity.length = 0) || decide (d.parity.length = 128))) := by
  subst h1 h2
  unfold DealD.may oddB
  rw [any_not]
  simp only [Bool.not_not]
  congr 1

set_option maxRecDepth 100000 in
set_option maxHeartbeats 1000000 in
theorem deal_Check (c : Cfg) (d : DealD) (sv bv pv : Value) (w : World) (h : DealAt w sv bv pv d) :
    Calls Try.prog 40 #[c.v, d.v sv bv pv] w fun e w' => e = .returned (I (dealErr c d)) ∧ Ext w w' := by
  have h0 := h
  obtain ⟨⟨A1, c1, rfl, a1, a2, a3⟩, ⟨A2, c2, rfl, b1, b2, b3⟩, ⟨A3, c3, rfl, d1, d2, d3⟩⟩ := h
  cases hm : c.may
  · have He : Hid (c.tell (wrap64 (c.chunk * c.rows)) = .tuple #[I 0, I 8]) := Lib.hid (by unfold Cfg.tell Cfg.err Cfg.num; rw [hm]; rfl)
    have Hd : Hid (dealErr c d = 8) := Lib.hid (by unfold dealErr; rw [if_neg (by rw [hm]; simp)])
    clear hm
    go_enter Try.func40, Try.ntmps40
    go_wp2_with fail
    refine (shape_Stripes c _).mono ?_
    rintro e1 w1 ⟨rfl, he1⟩
    obtain ⟨hc1, hf1⟩ := bcell he1
    have hz1 := he1.size
    try simp only [World.size_alloc] at hz1
    rw [He.out]
    go_wp2
    go_ret
    exact ⟨by rw [Hd.out]; rfl, (by repeat (first | exact Below.refl _ _ | assumption | refine Ext.alloc ?_ _ | refine Ext.drew ?_ | refine Ext.trans ?_ (by assumption)))⟩
  · have hl := may_log hm
    have hcr : 0 ≤ c.chunk * c.rows ∧ c.chunk * c.rows ≤ 64 := ⟨Int.mul_nonneg (by omega) (by omega), Int.mul_le_mul (c := 8) (d := 8) (by omega) (by omega) (by omega) (by omega)⟩
    have hn : c.tell (wrap64 (c.chunk * c.rows)) = .tuple #[I (c.chunk * c.rows), I 0] := by
      unfold Cfg.tell Cfg.num Cfg.err
      rw [if_pos hm, if_pos hm, show wrap64 (c.chunk * c.rows) = c.chunk * c.rows by unfold wrap64; omega]
    have Ht : ∃ st, st = c.chunk * c.rows ∧ Hid (c.tell (wrap64 (c.chunk * c.rows)) = .tuple #[I st, I 0]) := ⟨_, rfl, Lib.hid hn⟩
    obtain ⟨st, hst, Hn⟩ := Ht
    clear hn
    obtain ⟨a, ha⟩ : ∃ a, d.blocks.any oddB = a := ⟨_, rfl⟩
    obtain ⟨s, hs⟩ : ∃ s, slotsMay c.members d.slots = s := ⟨_, rfl⟩
    have hmm := deal_may_of c d a s ha hs
    rw [← hst] at hmm
    have Hm := Lib.hid hmm
    have Hd : Hid (dealErr c d = if d.may c = true then 0 else 8) := Lib.hid (by unfold dealErr; simp [hm])
    have hx1 := fun w1 (he : Ext w w1) => contains_blocks 92 #[] oddB _ d.blocks w1 (h0.2.1.ext he) (enters_of Try.func92 (by kernel_rfl) rfl) (fun u x w' he' hs _ => odd92 u x w' hs)
    have hx2 := fun w1 (he : Ext w w1) => deal_slots c _ d.slots w1 (h0.1.ext he) ⟨hl.1, hl.2.1⟩
    rw [ha] at hx1
    rw [hs] at hx2
    have Hx1 := Lib.hid hx1
    have Hx2 := Lib.hid hx2
    clear hm hl hcr hst ha hs hmm hx1 hx2 h0
    go_enter Try.func40, Try.ntmps40
    go_wp2_with fail
    refine (shape_Stripes c _).mono ?_
    rintro e1 w1 ⟨rfl, he1⟩
    obtain ⟨hc1, hf1⟩ := bcell he1
    have hz1 := he1.size
    try simp only [World.size_alloc] at hz1
    rw [Hn.out]
    have hy1 : w.heap.size < w1.heap.size := by omega
    have hy1' : w.heap.size + 1 < w1.heap.size := by omega
    go_wp2_with (first
      | (go_at_call 91; refine (Hx1.out _ (by repeat (first | exact Below.refl _ _ | assumption | refine Ext.alloc ?_ _ | refine Ext.drew ?_ | refine Ext.trans ?_ (by assumption)))).mono ?_; rintro e w2 ⟨rfl, he2⟩; obtain ⟨hc2, hf2⟩ := bcell he2; have hz2 := he2.size; have hy2 : w.heap.size < w2.heap.size := (by omega); have hy2' : w.heap.size + 1 < w2.heap.size := (by omega))
      | (go_at_call 93; refine (Hx2.out _ (by repeat (first | exact Below.refl _ _ | assumption | refine Ext.alloc ?_ _ | refine Ext.drew ?_ | refine Ext.trans ?_ (by assumption)))).mono ?_; rintro e w3 ⟨rfl, he3⟩; obtain ⟨hc3, hf3⟩ := bcell he3; have hz3 := he3.size; have hy3 : w.heap.size < w3.heap.size := (by omega); have hy3' : w.heap.size + 1 < w3.heap.size := (by omega)))
    all_goals
      go_ret
      refine ⟨ret_int ?_, (by repeat (first | exact Below.refl _ _ | assumption | refine Ext.alloc ?_ _ | refine Ext.drew ?_ | refine Ext.trans ?_ (by assumption)))⟩
      rw [Hd.out, Hm.out]
      simp_all
      try omega

end Go.Proofs.Ytancfgmaejjooaa
