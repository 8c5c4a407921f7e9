/- Devices: what is read. -/
import Derived.Test.YtancfgmaejjooaaDisk
import Derived.Test.YtancfgmaejjooaaPlaces
import Derived.Test.YtancfgmaejjooaaRange2
set_option linter.unusedVariables false
set_option linter.unusedSimpArgs false
namespace Go.Proofs.Ytancfgmaejjooaa
open Go.RowKit

set_option maxRecDepth 100000 in
set_option maxHeartbeats 4000000 in
theorem disk_Lasting (d : Dk) (bv wv : Value) (at_ : Nat) (w : World) (h : DkAt w bv wv d) (hm : d.may = true) (hd : d.dead = false) (hat : at_ < d.blocks.length) :
    Calls Try.prog 95 #[d.v bv wv, I at_] w fun e w' => ∃ v, e = .returned (.tuple #[v, I 0]) ∧ w'.ownsRow w.heap.size 5 1 v 128 ((whole d.blocks[at_]).map B) ∧ Ext w w' := by
  have h0 := h
  obtain ⟨⟨A, c, rfl, a1, a2, a3⟩, ⟨A', c', rfl, b1, b2, b3⟩⟩ := h
  have Hp : Hid (d.placeErr at_ = 0) := Lib.hid (by unfold Dk.placeErr; rw [hm]; simp; omega)
  have hbk : isBlock d.blocks[at_] = true := by
    have := hm
    simp only [Dk.may, Bool.and_eq_true, List.all_eq_true] at this
    exact this.1.1.2 _ (List.getElem_mem hat)
  have hwl := whole_len hbk
  have hfit := isBlock_fit hbk
  have Hd := Lib.hid hd
  have Hwl := Lib.hid hwl
  have Hfit := Lib.hid hfit
  clear hm hd hwl hfit hbk
  go_enter Try.func95, Try.ntmps95
  go_wp2_with fail
  refine (disk_place d _ _ at_ _ (h0.ext (Ext.alloc (Ext.refl _) _))).mono ?_
  rintro e1 w1 ⟨rfl, he1⟩
  obtain ⟨hc1, hf1⟩ := bcell he1
  have hz1 := he1.size
  try simp only [World.size_alloc] at hz1
  rw [Hp.out, Hd.out]
  obtain ⟨b, off, rfl, hc⟩ := slice_at (a3.ext (Ext.trans (Ext.alloc (Ext.refl _) _) he1)) (by omega)
  obtain ⟨A2, c2, hcj, g1, g2, g3⟩ := hc at_ hat
  obtain ⟨x, hx⟩ : ∃ x, x = d.blocks[at_] := ⟨_, rfl⟩
  rw [← hx] at hcj g1 g3 Hwl Hfit
  have Hx := Lib.hid hx
  clear hc hx a3
  go_wp2_with (go_at_call 97; refine (disk_block _ x _ ⟨A2, c2, rfl, g1, g2, g3⟩ Hfit.out).mono ?_; rintro e w2 ⟨v', rfl, ho, he2⟩)
  · rename_i hq
    rw [Hd.out] at hq
    cases hq
  · go_ret2
    rw [Hwl.out] at ho
    rw [← Hx.out]
    exact ⟨_, rfl, own_lower (base' := w.heap.size) ho (by omega), (by repeat (first | exact Below.refl _ _ | assumption | refine Ext.alloc ?_ _ | refine Ext.drew ?_ | refine Ext.trans ?_ (by assumption)))⟩

/-! ### The writes that wait, the last one first -/

/-- One that waits: its number, its place, its data's slice. -/
structure WX where
  i : Nat
  at_ : Int
  A : Option Addr
  n : Nat
  c : Nat
abbrev WX.sl (x : WX) : Value := .slice x.A x.n x.c
abbrev waitV (x : WX) : Array Value := #[I (x.i : Int), .agg #[I x.at_, x.sl]]
def waitG (c0 : World) (ws : List Wr) (pre : List WX) (x : WX) (_ : World) : Prop :=
  x.i + 1 + pre.length = ws.length ∧ ∃ r, ws[x.i]? = some r ∧ x.at_ = r.at_ ∧ Rep.byte.sl c0 x.sl r.data

set_option maxRecDepth 100000 in
set_option maxHeartbeats 400000 in
theorem backward_iter (bx : Nat) (wv : Value) (ws : List Wr) (TS : List TypeId) (c0 w : World) (hs : Rep.wr.sl c0 wv ws) (hcw : Ext c0 w) (hb : Box w bx 26 wv) (hn : 26 ∉ TS) :
    IterG Try.prog 148 #[.pointer (some ⟨bx, 0, none⟩)] waitV (waitG c0 ws) (fun xs => xs.length = ws.length) (fun _ => True) c0.heap.size TS [] w := by
  intro l J Jx W hW hJ hJx hY h0
  have HJ := Lib.hid hJ
  have HY := Lib.hid hY
  have Hn := Lib.hid hn
  have hbW := hb.ext hW
  have hcW := Ext.trans hcw hW
  obtain ⟨A, c, rfl, a1, a2, a3⟩ := hs
  clear hJ hJx hY hb hcw hn
  unfold Cap at a2
  refine (callsIn_wide (n := 0)).1 (callsIn_of_wp Try.func148 rfl trivial ?_ rfl)
  simp only [Try.ntmps148, List.size_toArray, List.length_cons, List.length_nil, Nat.reduceAdd, Nat.reduceSub, Array.replicate_succ, Array.replicate_zero, List.push_toArray, List.append_toArray, List.nil_append, List.cons_append]
  have hc := hbW.cell
  have q : IntKind.i64.wrap ((ws.length : Int) - 1) = (ws.length : Int) - 1 := IntWalk.i64_in _ (by omega)
  gi_wp2
  gi_loopw [3] (fun i wr => ∃ k : Nat, k ≤ ws.length ∧ i = .int .i64 ((k : Int) - 1) ∧ ∃ pre : List WX, pre.length + k = ws.length ∧ J pre wr ∧ Hid (Box wr bx 26 (.slice A ws.length c)) ∧ Ext c0 wr) (fun i _ => (intOf i + 1).toNat)
  case atStart => exact ⟨ws.length, Nat.le_refl _, rfl, [], by simp, h0, Lib.hid hbW, hcW⟩
  case round =>
    obtain ⟨k, hk, rfl, pre, hpre, hJk, HB, he⟩ := hrel
    have hcb := HB.out.cell
    clear hc hbW q
    rcases Nat.eq_zero_or_pos k with h0 | h0
    · subst h0
      gi_wp2
      go_end0
      exact ⟨⟨_, rfl⟩, .inl ⟨pre, by omega, hJk⟩⟩
    · obtain ⟨m, rfl⟩ : ∃ m, k = m + 1 := ⟨k - 1, by omega⟩
      have e1 : (((m + 1 : Nat) : Int) - 1) = (m : Int) := by omega
      rw [e1]
      have q2 : IntKind.i64.wrap ((m : Int) - 1) = (m : Int) - 1 := IntWalk.i64_in _ (by omega)
      obtain ⟨b, off, rfl, hca⟩ := wr_at a3 (by omega)
      obtain ⟨A', c', k0, k1, g1, g2, g3⟩ := hca m (by omega)
      have hG : waitG c0 ws pre ⟨m, ws[m].at_, A', ws[m].data.length, c'⟩ wr := ⟨by simp only; omega, ws[m], by simp, rfl, ⟨A', c', rfl, g1, g2, g3⟩⟩
      obtain ⟨fn, tmps, assign, body, hy, hR⟩ := HY.out pre _ wr hJk hG
      dsimp only [waitV] at hy
      replace k0 := he.cells k0
      replace k1 := he.cells k1
      obtain ⟨r, hr⟩ : ∃ r, r = ws[m] := ⟨_, rfl⟩
      rw [← hr] at k0 k1 g1 hy hR
      clear hca a3 g3 hr hG
      gi_wp2
      refine ⟨rfl, hR.mono ?_⟩
      rintro e W' ⟨b', rfl, hkp, hif⟩
      have hB' := HB.out.keepsC hkp (.inr Hn.out)
      have he' := hkp.below he (Nat.le_refl _)
      cases b'
      · rw [if_neg (by simp)] at hif
        gi_wp2
        refine bodyPost_ret (results_none rfl _ _ _) rfl ?_
        exact ⟨⟨_, rfl⟩, .inr ⟨_, trivial, hif⟩⟩
      · rw [if_pos rfl] at hif
        gi_wp2
        go_roundw
        case rel => exact ⟨m, by omega, by go_num, _, by simp only [List.length_append, List.length_singleton]; omega, hif, Lib.hid hB', he'⟩
        case measure => simp [intOf]

end Go.Proofs.Ytancfgmaejjooaa
