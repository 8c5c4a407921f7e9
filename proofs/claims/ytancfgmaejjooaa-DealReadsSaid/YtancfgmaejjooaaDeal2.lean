/- Deals: what is wrong with a journal and a place; the ring's blocks as an iterator. -/
import Derived.Test.YtancfgmaejjooaaDeal1
import Derived.Test.YtancfgmaejjooaaRange3
set_option linter.unusedVariables false
set_option linter.unusedSimpArgs false
namespace Go.Proofs.Ytancfgmaejjooaa
open Go.RowKit

set_option maxRecDepth 100000 in
set_option maxHeartbeats 400000 in
theorem deal_wrong (k : Int) (w : World) (h : k ≠ 0) :
    Calls Try.prog 114 #[I k] w fun e w' => e = .returned (.pointer (some ⟨w.heap.size, 0, none⟩)) ∧ w' = w.alloc (.cells #[I k] 37) := by
  go_enter Try.func114, Try.ntmps114
  go_wp2
  go_ret
  exact ⟨rfl, rfl⟩

/-- What is wrong with a journal and a place; 0: nothing. -/
def askErr (c : Cfg) (d : Dk) (at_ : Int) : Int :=
  if c.may = true ∧ d.may = true ∧ (d.blocks.length : Int) = c.log + 1 then (if 0 ≤ at_ ∧ at_ < c.log then (if d.dead = true then 40 else 0) else 2) else 8

def AskPost (c : Cfg) (d : Dk) (at_ : Int) (e : Ending) (w' : World) : Prop :=
  (askErr c d at_ = 0 ∧ e = .returned (.pointer none)) ∨ (askErr c d at_ ≠ 0 ∧ ∃ b, e = .returned (.pointer (some ⟨b, 0, none⟩)) ∧ RowAt w' b #[I (askErr c d at_)] 37)

set_option maxRecDepth 100000 in
set_option maxHeartbeats 1000000 in
theorem deal_asked (c : Cfg) (d : Dk) (bv wv : Value) (at_ : Int) (w : World) (h : DkAt w bv wv d) :
    Calls Try.prog 66 #[c.v, d.v bv wv, I at_] w fun e w' => AskPost c d at_ e w' ∧ Ext w w' := by
  have h0 := h
  obtain ⟨⟨A, c1, rfl, a1, a2, a3⟩, ⟨A', c', rfl, b1, b2, b3⟩⟩ := h
  have fin : ∀ (k : Int) (w1 : World), askErr c d at_ = k → k ≠ 0 → AskPost c d at_ (.returned (.pointer (some ⟨w1.heap.size, 0, none⟩))) (w1.alloc (.cells #[I k] 37)) := by
    intro k w1 hk h0
    exact .inr ⟨by rw [hk]; exact h0, _, rfl, by rw [hk]; exact RowAt.new _ _ _⟩
  have Hfin := Lib.hid fin
  clear fin
  cases hm : c.may
  · have He : Hid (c.tell (wrap64 (c.log + 1)) = .tuple #[I 0, I 8]) := Lib.hid (by unfold Cfg.tell Cfg.err Cfg.num; rw [hm]; rfl)
    have Hk : Hid (askErr c d at_ = 8) := Lib.hid (by unfold askErr; rw [if_neg (by rw [hm]; simp)])
    clear hm
    go_enter Try.func66, Try.ntmps66
    go_wp2_with fail
    refine (shape_Journal c _).mono ?_
    rintro e1 w1 ⟨rfl, he1⟩
    obtain ⟨hc1, hf1⟩ := bcell he1
    have hz1 := he1.size
    try simp only [World.size_alloc] at hz1
    rw [He.out]
    go_wp2_with (go_at_call 114; refine (deal_wrong _ _ (by decide)).mono ?_; rintro e w2 ⟨rfl, rfl⟩)
    go_ret
    exact ⟨Hfin.out _ _ Hk.out (by decide), (by repeat (first | exact Below.refl _ _ | assumption | refine Ext.alloc ?_ _ | refine Ext.drew ?_ | refine Ext.trans ?_ (by assumption)))⟩
  · have hl := may_log hm
    have Hn : Hid (c.tell (wrap64 (c.log + 1)) = .tuple #[I (c.log + 1), I 0]) := Lib.hid (by
      unfold Cfg.tell Cfg.num Cfg.err
      rw [if_pos hm, if_pos hm, show wrap64 (c.log + 1) = c.log + 1 by unfold wrap64; omega])
    have Hm := Lib.hid hm
    have Hl := Lib.hid hl
    clear hm hl
    cases hd : d.may
    · have He : Hid (d.err = 8) := Lib.hid (by unfold Dk.err; rw [hd]; rfl)
      have Hk : Hid (askErr c d at_ = 8) := Lib.hid (by unfold askErr; rw [if_neg (by rw [hd]; simp)])
      clear hd
      go_enter Try.func66, Try.ntmps66
      go_wp2_with fail
      refine (shape_Journal c _).mono ?_
      rintro e1 w1 ⟨rfl, he1⟩
      obtain ⟨hc1, hf1⟩ := bcell he1
      have hz1 := he1.size
      try simp only [World.size_alloc] at hz1
      rw [Hn.out]
      have hy1 : w.heap.size < w1.heap.size := by omega
      have hy1' : w.heap.size + 1 < w1.heap.size := by omega
      go_wp2_with fail
      refine (disk_Check d _ _ _ (h0.ext (by repeat (first | exact Below.refl _ _ | assumption | refine Ext.alloc ?_ _ | refine Ext.drew ?_ | refine Ext.trans ?_ (by assumption))))).mono ?_
      rintro e2 w2 ⟨rfl, he2⟩
      obtain ⟨hc2, hf2⟩ := bcell he2
      have hz2 := he2.size
      try simp only [World.size_alloc] at hz2
      rw [He.out]
      go_wp2_with (go_at_call 114; refine (deal_wrong _ _ (by decide)).mono ?_; rintro e w2 ⟨rfl, rfl⟩)
      go_ret
      exact ⟨Hfin.out _ _ Hk.out (by decide), (by repeat (first | exact Below.refl _ _ | assumption | refine Ext.alloc ?_ _ | refine Ext.drew ?_ | refine Ext.trans ?_ (by assumption)))⟩
    · have He : Hid (d.err = 0) := Lib.hid (by unfold Dk.err; rw [hd]; rfl)
      have Hk : Hid (askErr c d at_ = if (d.blocks.length : Int) = c.log + 1 then (if 0 ≤ at_ ∧ at_ < c.log then (if d.dead = true then 40 else 0) else 2) else 8) := Lib.hid (by unfold askErr; simp [hd, Hm.out])
      clear hd
      go_enter Try.func66, Try.ntmps66
      go_wp2_with fail
      refine (shape_Journal c _).mono ?_
      rintro e1 w1 ⟨rfl, he1⟩
      obtain ⟨hc1, hf1⟩ := bcell he1
      have hz1 := he1.size
      try simp only [World.size_alloc] at hz1
      rw [Hn.out]
      have hy1 : w.heap.size < w1.heap.size := by omega
      have hy1' : w.heap.size + 1 < w1.heap.size := by omega
      go_wp2_with fail
      refine (disk_Check d _ _ _ (h0.ext (by repeat (first | exact Below.refl _ _ | assumption | refine Ext.alloc ?_ _ | refine Ext.drew ?_ | refine Ext.trans ?_ (by assumption))))).mono ?_
      rintro e2 w2 ⟨rfl, he2⟩
      obtain ⟨hc2, hf2⟩ := bcell he2
      have hz2 := he2.size
      try simp only [World.size_alloc] at hz2
      rw [He.out]
      have hy2 : w.heap.size < w2.heap.size := by omega
      have hy2' : w.heap.size + 1 < w2.heap.size := by omega
      go_wp2_with (go_at_call 114; refine (deal_wrong _ _ (by decide)).mono ?_; rintro e w3 ⟨rfl, rfl⟩)
      all_goals
        go_ret
        first
          | exact ⟨Hfin.out _ _ (by rw [Hk.out]; simp_all; try omega) (by decide), (by repeat (first | exact Below.refl _ _ | assumption | refine Ext.alloc ?_ _ | refine Ext.drew ?_ | refine Ext.trans ?_ (by assumption)))⟩
          | exact ⟨.inl ⟨by rw [Hk.out]; simp_all; try omega, rfl⟩, (by repeat (first | exact Below.refl _ _ | assumption | refine Ext.alloc ?_ _ | refine Ext.drew ?_ | refine Ext.trans ?_ (by assumption)))⟩

/-! ### The ring's blocks -/

abbrev ptr (b : Nat) : Value := .pointer (some ⟨b, 0, none⟩)
abbrev Cfg.row (c : Cfg) : Array Value := #[U32 c.id, I c.members, I c.chunk, I c.rows, I c.log, I c.heads]
abbrev Dk.row (d : Dk) (bv wv : Value) : Array Value := #[bv, wv, .bool d.dead]

set_option maxRecDepth 100000 in
set_option maxHeartbeats 400000 in
theorem deal_ring (c : Cfg) (d : Dk) (A A' : Option Addr) (m m' c1 c' : Nat) (at_ : Int) (w : World) :
    Calls Try.prog 67 #[c.v, d.v (.slice A m c1) (.slice A' m' c'), I at_] w fun e w' => e = .returned (.func (.func 115) #[] #[ptr w.heap.size, ptr (w.heap.size + 1 + 1), ptr (w.heap.size + 1)]) ∧
      w' = ((w.alloc (.cells c.row 24)).alloc (.cells (d.row (.slice A m c1) (.slice A' m' c')) 28)).alloc (.cells #[I at_] 3) := by
  go_enter Try.func67, Try.ntmps67
  go_wp2
  go_ret
  exact ⟨rfl, rfl⟩

/-- One of the ring: its number, and its block. -/
structure RX where
  i : Nat
  g : Nat
  cap : Nat
abbrev RX.v (x : RX) : Value := .slice (some ⟨x.g, 0, none⟩) 128 x.cap
abbrev ringV (x : RX) : Array Value := #[I (x.i : Int), x.v]
def ringB (c : Cfg) (d : Dk) (at_ : Nat) (i : Nat) : List UInt8 := d.seen (1 + (at_ + i) % c.log.toNat)
def ringG (c0 : World) (c : Cfg) (d : Dk) (at_ : Nat) (pre : List RX) (x : RX) (W : World) : Prop :=
  x.i = pre.length ∧ x.i < c.log.toNat ∧ W.ownsRow c0.heap.size 5 1 x.v 128 ((ringB c d at_ x.i).map B) ∧ ∀ y ∈ pre, y.g ≠ x.g
/-- What the ring's iterator reads. -/
def ringF (c : Cfg) (d : Dk) (at_ : Nat) (bv wv : Value) (cb db ab : Nat) (W : World) : Prop := RowAt W cb c.row 24 ∧ RowAt W db (d.row bv wv) 28 ∧ RowAt W ab #[I at_] 3

theorem own_some {w : World} {base : Nat} {e : TypeId} {size : Nat} {v : Value} {n : Nat} {cs : List Value} (h : w.ownsRow base e size v n cs) (hn : 0 < n) : ∃ g cap cur, v = .slice (some ⟨g, 0, none⟩) n cap ∧ base ≤ g ∧ RowAt w g cur e := by
  obtain ⟨h1, ⟨_, h0⟩ | ⟨g, cap, cur, rfl, hb, hh, _⟩⟩ := h
  · omega
  · exact ⟨g, cap, cur, rfl, hb, hh⟩

set_option maxRecDepth 100000 in
set_option maxHeartbeats 1000000 in
theorem ring_iter (c : Cfg) (d : Dk) (at_ : Nat) (bv wv : Value) (cb db ab : Nat) (TS : List TypeId) (c0 w : World) (hs : DkAt c0 bv wv d) (hcw : Ext c0 w)
    (hm : c.may = true) (hd : d.may = true) (hdead : d.dead = false) (hlen : (d.blocks.length : Int) = c.log + 1) (hat : (at_ : Int) < c.log) :
    IterF Try.prog 115 #[ptr cb, ptr ab, ptr db] ringV (ringG c0 c d at_) (fun xs => xs.length = c.log.toNat) (fun _ => True) c0.heap.size TS [] (ringF c d at_ bv wv cb db ab) w := by
  intro l J Jx W hW hJ hJx hF hY h0
  have HJ := Lib.hid hJ
  have HF := Lib.hid hF
  have HY := Lib.hid hY
  have hcW := Ext.trans hcw hW
  have hl := may_log hm
  obtain ⟨n, hn⟩ : ∃ n : Nat, c.log = n := ⟨c.log.toNat, by omega⟩
  have hnn : c.log.toNat = n := by omega
  have HB0 : Hid (∀ i, ringB c d at_ i = d.seen (1 + (at_ + i) % n)) := Lib.hid (fun i => by unfold ringB; rw [hnn])
  have hrd := fun (k : Nat) (hk : k < d.blocks.length) w1 (he : Ext c0 w1) => disk_Read d bv wv k w1 (hs.ext he) hd hdead hk
  have Hrd := Lib.hid hrd
  have hsl := hs
  obtain ⟨⟨A, c1, rfl, a1, a2, a3⟩, ⟨A', c', rfl, b1, b2, b3⟩⟩ := hs
  have Hlog := Lib.hid hn
  have Hnn := Lib.hid hnn
  have Hb : Hid (1 ≤ n ∧ n ≤ 255 ∧ d.blocks.length = n + 1 ∧ at_ < n) := Lib.hid (by omega)
  clear hJ hJx hY hF hcw hm hd hdead hlen hat hl hrd hsl a3 b3 hn hnn
  refine (callsIn_wide (n := 0)).1 (callsIn_of_wp Try.func115 rfl trivial ?_ rfl)
  simp only [Try.ntmps115, List.size_toArray, List.length_cons, List.length_nil, Nat.reduceAdd, Nat.reduceSub, Array.replicate_succ, Array.replicate_zero, List.push_toArray, List.append_toArray, List.nil_append, List.cons_append]
  obtain ⟨f1, f2, f3⟩ := HF.out _ _ h0
  have k1 := f1.cell 4
  simp at k1
  rw [Hlog.out] at k1
  clear f1 f2 f3
  gi_wp2
  clear k1
  gi_loopw [5, 6, 7, 8, 9, 12] (fun _ _ _ _ _ i wr => ∃ pre : List RX, pre.length ≤ n ∧ i = .int .i64 pre.length ∧ J pre wr ∧ Ext c0 wr ∧ ∀ y ∈ pre, y.g < wr.heap.size) (fun _ _ _ _ _ i _ => n - (intOf i).toNat)
  case atStart => exact ⟨[], by simp, rfl, h0, hcW, by simp⟩
  case round =>
    obtain ⟨pre, hk, rfl, hJk, he, hlt⟩ := hrel
    obtain ⟨f1, f2, f3⟩ := HF.out _ _ hJk
    clear h0
    have k1 := f1.cell 4
    have d0 := f2.cell 0
    have d1 := f2.cell 1
    have d2 := f2.cell 2
    have k3 := f3.cell 0
    simp at k1 d0 d1 d2 k3
    rw [Hlog.out] at k1
    by_cases hq : pre.length < n
    · obtain ⟨hb1, hb2, hb3, hb4⟩ := Hb.out
      gi_wp2
      refine ⟨trivial, rfl, callsIn_wide.2 ((dial_On n at_ pre.length _ (by omega) (by omega) (by omega) (by omega) (by omega) (by omega)).mono ?_)⟩
      rintro e w2 ⟨rfl, rfl⟩
      obtain ⟨p, hp⟩ : ∃ p, p = (at_ + pre.length) % n := ⟨_, rfl⟩
      have hpn : p < n := by rw [hp]; exact Nat.mod_lt _ (by omega)
      rw [show ((at_ : Int) + (pre.length : Int)) % (n : Int) = (p : Int) by rw [hp]; simp]
      have Hbp : Hid (ringB c d at_ pre.length = d.seen (1 + p)) := Lib.hid (by rw [HB0.out, hp])
      have q : IntKind.i64.wrap (1 + (p : Int)) = 1 + (p : Int) := IntWalk.i64_in _ (by omega)
      have hcall := Hrd.out (1 + p) (by omega) wr he
      rw [show ((1 + p : Nat) : Int) = 1 + (p : Int) by omega] at hcall
      have Hcall := Lib.hid hcall
      clear hp hcall hb3
      gi_wp2
      refine ⟨trivial, rfl, callsIn_wide.2 (Hcall.out.mono ?_)⟩
      rintro e w2 ⟨v, rfl, ho, he2⟩
      obtain ⟨g, cap, cur, rfl, hg, hrow⟩ := own_some ho (by decide)
      have hJ2 := HJ.out _ _ _ hJk (.of_ext he2)
      have hG : ringG c0 c d at_ pre ⟨pre.length, g, cap⟩ w2 := ⟨rfl, by rw [Hnn.out]; exact hq, by rw [Hbp.out]; exact own_lower ho he.size, fun y hy e => by have := hlt y hy; simp only at e; omega⟩
      obtain ⟨fn, tmps, assign, body, hy, hR⟩ := HY.out pre _ w2 hJ2 hG
      dsimp only [ringV] at hy
      clear f1 f2 f3 k1 d0 d1 d2 k3 q
      gi_wp2
      refine ⟨rfl, hR.mono ?_⟩
      rintro e W' ⟨b', rfl, hkp, hif⟩
      have he' := hkp.below (Ext.trans he he2) (Nat.le_refl _)
      have hlt' : ∀ y ∈ pre ++ [(⟨pre.length, g, cap⟩ : RX)], y.g < W'.heap.size := by
        intro y hy
        have h1 := hkp.size
        have h2 := he2.size
        have h3 := hrow.lt
        simp at hy
        rcases hy with hy | rfl
        · have := hlt y hy
          omega
        · simp only
          omega
      cases b'
      · rw [if_neg (by simp)] at hif
        gi_wp2
        refine bodyPost_ret (results_none rfl _ _ _) rfl ?_
        exact ⟨⟨_, rfl⟩, .inr ⟨_, trivial, hif⟩⟩
      · rw [if_pos rfl] at hif
        gi_wp2
        go_roundw
        case rel => exact ⟨_, by simp only [List.length_append, List.length_singleton]; omega, by simp only [List.length_append, List.length_singleton]; go_num, hif, he', hlt'⟩
        case measure => simp [intOf]; omega
    · have hb1 := Hb.out
      gi_wp2
      go_end0
      exact ⟨⟨_, rfl⟩, .inl ⟨pre, by rw [Hnn.out]; omega, hJk⟩⟩

end Go.Proofs.Ytancfgmaejjooaa
