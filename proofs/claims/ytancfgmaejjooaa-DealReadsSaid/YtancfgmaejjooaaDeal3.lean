/- Deals: one is read. -/
import Derived.Test.YtancfgmaejjooaaDeal2
import Derived.Test.YtancfgmaejjooaaSsa3
set_option linter.unusedVariables false
set_option linter.unusedSimpArgs false
namespace Go.Proofs.Ytancfgmaejjooaa
open Go.RowKit
attribute [local go_sem] Oper.semAt_some

/-! ### What is answered -/

def zeroF : Array Value := #[U32 0, U32 0, I 0, .slice none 0 0, .slice none 0 0, .slice none 0 0]
abbrev noteAt (c : Cfg) (d : Dk) (at_ : Nat) : NoteD := noteOf (ringB c d at_ 0)
/-- Does a whole deal stand there, of the first so many records? -/
def readsTo (c : Cfg) (d : Dk) (at_ : Nat) (k : Nat) : Prop :=
  noteGood (ringB c d at_ 0) ∧ (noteAt c d at_).id = c.id ∧ standsTo c (noteAt c d at_) (ringB c d at_) k = true
def lastRec (c : Cfg) (d : Dk) (at_ : Nat) : Nat := min (noteAt c d at_).recs.length (c.log.toNat - 1)

/-- A deal's blocks, in the call's own memory. -/
structure OwnD (base : Nat) (w : World) (sv bv pv : Value) (xs : List RX) (pa : Option RX) (d : DealD) : Prop where
  slots : w.ownsRow base 3 1 sv d.slots.length (d.slots.map I)
  blocks : w.ownsRow base 32 1 bv d.blocks.length (xs.map RX.v)
  many : xs.length = d.blocks.length
  each : ∀ j (hj : j < xs.length) (hj' : j < d.blocks.length), w.ownsRow base 5 1 xs[j].v 128 (d.blocks[j].map B)
  parity : (pa = none ∧ pv = .slice none 0 0 ∧ d.parity = []) ∨ ∃ y, pa = some y ∧ pv = y.v ∧ w.ownsRow base 5 1 y.v 128 (d.parity.map B)

/-- What deal.Read answers. -/
def DReadPost (c : Cfg) (d : Dk) (at_ : Int) (base : Nat) (e : Ending) (w' : World) : Prop :=
  if askErr c d at_ ≠ 0 then e = .returned (.tuple #[.agg zeroF, I 0, I (askErr c d at_)])
  else (readsTo c d at_.toNat (lastRec c d at_.toNat) ∧ ∃ sv bv pv xs pa, e = .returned (.tuple #[.agg #[U32 (noteAt c d at_.toNat).age, U32 (noteAt c d at_.toNat).seq, I (noteAt c d at_.toNat).stripe, sv, bv, pv], I ((1 + (noteAt c d at_.toNat).recs.length : Nat) : Int), I 0]) ∧
      OwnD base w' sv bv pv xs pa (dealTo (noteAt c d at_.toNat).stripe (noteAt c d at_.toNat).recs (ringB c d at_.toNat) (lastRec c d at_.toNat))) ∨
    (¬ readsTo c d at_.toNat (lastRec c d at_.toNat) ∧ e = .returned (.tuple #[.agg zeroF, I 0, I 130]))

theorem OwnD.at {base : Nat} {w : World} {sv bv pv : Value} {xs : List RX} {pa : Option RX} {d : DealD} (h : OwnD base w sv bv pv xs pa d) (h128 : ∀ b ∈ d.blocks, b.length = 128) (hp : d.parity.length = 0 ∨ d.parity.length = 128) : DealAt w sv bv pv d := by
  refine ⟨?_, ?_, ?_⟩
  · exact own_sl1 rfl h.slots d.slots rfl (fun j hj hc => by show _ = _; simp)
  · refine own_sl1 rfl h.blocks d.blocks rfl (fun j hj hc => ⟨_, rfl, ?_⟩)
    have hj' : j < xs.length := by rw [h.many]; exact hj
    have := own_bytes (h.each j hj' hj)
    have hl : d.blocks[j].length = 128 := h128 _ (List.getElem_mem hj)
    simpa using this
  · rcases h.parity with ⟨_, rfl, h0⟩ | ⟨y, _, rfl, ho⟩
    · rw [h0]
      exact ⟨none, 0, rfl, Nat.le_refl _, by unfold Cap; omega, .inl rfl⟩
    · exact own_bytes ho

/-! ### The words of the call -/

structure RdS (w W : World) (c : Cfg) (d : Dk) (at_ : Nat) (bv wv : Value) (fb mb eb nb cb db ab : Nat) (frow nrow : Array Value) (mv ev : Int) : Prop where
  ext : Ext w W
  h : RowAt W w.heap.size c.row 24
  f : RowAt W fb frow 36
  m : RowAt W mb #[I mv] 3
  e : RowAt W eb #[I ev] 37
  n : RowAt W nb nrow 83
  ring : ringF c d at_ bv wv cb db ab W
  lo : w.heap.size ≤ fb ∧ w.heap.size ≤ mb ∧ w.heap.size ≤ eb ∧ w.heap.size ≤ nb ∧ mb ≠ ab ∧ w.heap.size ≤ ab

theorem RdS.keepsC {w W W' : World} {c : Cfg} {d : Dk} {at_ : Nat} {bv wv : Value} {fb mb eb nb cb db ab : Nat} {frow nrow : Array Value} {mv ev : Int} (h : RdS w W c d at_ bv wv fb mb eb nb cb db ab frow nrow mv ev)
    {n0 : Nat} {TS : List TypeId} (hk : KeepsC n0 TS W W') (hn : w.heap.size ≤ n0) (ht : 24 ∉ TS ∧ 36 ∉ TS ∧ 3 ∉ TS ∧ 37 ∉ TS ∧ 83 ∉ TS ∧ 28 ∉ TS) : RdS w W' c d at_ bv wv fb mb eb nb cb db ab frow nrow mv ev :=
  ⟨hk.below h.ext hn, h.h.keepsC hk (.inr ht.1), h.f.keepsC hk (.inr ht.2.1), h.m.keepsC hk (.inr ht.2.2.1), h.e.keepsC hk (.inr ht.2.2.2.1), h.n.keepsC hk (.inr ht.2.2.2.2.1),
    ⟨h.ring.1.keepsC hk (.inr ht.1), h.ring.2.1.keepsC hk (.inr ht.2.2.2.2.2), h.ring.2.2.keepsC hk (.inr ht.2.2.1)⟩, h.lo⟩

/-- One block is written, that is none of these. -/
theorem RdS.grownO {w W W' : World} {c : Cfg} {d : Dk} {at_ : Nat} {bv wv : Value} {fb mb eb nb cb db ab : Nat} {frow nrow : Array Value} {mv ev : Int} (h : RdS w W c d at_ bv wv fb mb eb nb cb db ab frow nrow mv ev)
    {o : Option Nat} (hg : W.grownBy W' o) (ho : ∀ g, o = some g → w.heap.size < g ∧ g ≠ fb ∧ g ≠ mb ∧ g ≠ eb ∧ g ≠ nb ∧ g ≠ cb ∧ g ≠ db ∧ g ≠ ab) : RdS w W' c d at_ bv wv fb mb eb nb cb db ab frow nrow mv ev :=
  ⟨Below.grown h.ext hg h.ext.size (fun k e => Nat.le_of_lt (ho k e).1), h.h.grownO hg (fun e => by have := (ho _ e).1; omega), h.f.grownO hg (fun e => (ho _ e).2.1 rfl), h.m.grownO hg (fun e => (ho _ e).2.2.1 rfl), h.e.grownO hg (fun e => (ho _ e).2.2.2.1 rfl),
    h.n.grownO hg (fun e => (ho _ e).2.2.2.2.1 rfl), ⟨h.ring.1.grownO hg (fun e => (ho _ e).2.2.2.2.2.1 rfl), h.ring.2.1.grownO hg (fun e => (ho _ e).2.2.2.2.2.2.1 rfl), h.ring.2.2.grownO hg (fun e => (ho _ e).2.2.2.2.2.2.2 rfl)⟩, h.lo⟩

/-! ### Words are written -/

/-- The other blocks stand. -/
structure Only (bs : List Nat) (W W' : World) : Prop where
  os : W'.os = W.os
  tape : W'.tape = W.tape
  output : W'.output = W.output
  size : W'.heap.size = W.heap.size
  same : ∀ k, k ∉ bs → W'.heap[k]? = W.heap[k]?
theorem Only.refl (W : World) : Only [] W W := ⟨rfl, rfl, rfl, rfl, fun _ _ => rfl⟩
theorem Only.trans {bs bs' : List Nat} {A B C : World} (h : Only bs A B) (k : Only bs' B C) : Only (bs ++ bs') A C :=
  ⟨k.os.trans h.os, k.tape.trans h.tape, k.output.trans h.output, k.size.trans h.size, fun i hi => (k.same i (fun e => hi (by simp [e]))).trans (h.same i (fun e => hi (by simp [e])))⟩
theorem Only.less {bs bs' : List Nat} {A B : World} (h : Only bs A B) (hb : ∀ b ∈ bs, b ∈ bs') : Only bs' A B := ⟨h.os, h.tape, h.output, h.size, fun k hk => h.same k (fun e => hk (hb k e))⟩
theorem Only.set (W : World) (b j : Nat) (v : Value) : Only [b] W (W.setCell ⟨b, j, none⟩ v) := ⟨rfl, rfl, rfl, by simp [World.setCell], fun k hk => heap_setCell_other _ _ _ _ (by simpa using hk)⟩
theorem Only.set' {bs : List Nat} {A W : World} (h : Only bs A W) (b j : Nat) (v : Value) (hb : b ∈ bs) : Only bs A (W.setCell ⟨b, j, none⟩ v) :=
  (h.trans (Only.set W b j v)).less (fun x hx => by
    simp at hx
    rcases hx with hx | rfl
    · exact hx
    · exact hb)
theorem Only.row {bs : List Nat} {A W : World} (h : Only bs A W) {b : Nat} {cs : Array Value} {t : TypeId} (hr : RowAt A b cs t) (hb : b ∉ bs) : RowAt W b cs t := (h.same b hb).trans hr
theorem Only.keeps {bs : List Nat} {A W : World} (h : Only bs A W) {n0 : Nat} {TS : List TypeId} (hb : ∀ b ∈ bs, n0 ≤ b ∧ ∃ cs t, RowAt A b cs t ∧ t ∈ TS) : Keeps n0 TS A W :=
  ⟨h.os, h.tape, h.output, Nat.le_of_eq h.size.symm, fun k hk hc => by
    by_cases hm : k ∈ bs
    · obtain ⟨h1, cs, t, h2, h3⟩ := hb k hm
      rcases hc with hc | hc
      · omega
      · exact absurd h3 (hc _ _ _ h2)
    · exact h.same k hm⟩

theorem set6 {W : World} {b : Nat} {a0 a1 a2 a3 a4 a5 : Value} {t : TypeId} (h : RowAt W b #[a0, a1, a2, a3, a4, a5] t) (v0 v1 v2 v3 v4 v5 : Value) :
    RowAt ((((((W.setCell ⟨b, 0, none⟩ v0).setCell ⟨b, 1, none⟩ v1).setCell ⟨b, 2, none⟩ v2).setCell ⟨b, 3, none⟩ v3).setCell ⟨b, 4, none⟩ v4).setCell ⟨b, 5, none⟩ v5) b #[v0, v1, v2, v3, v4, v5] t ∧
    Only [b] W ((((((W.setCell ⟨b, 0, none⟩ v0).setCell ⟨b, 1, none⟩ v1).setCell ⟨b, 2, none⟩ v2).setCell ⟨b, 3, none⟩ v3).setCell ⟨b, 4, none⟩ v4).setCell ⟨b, 5, none⟩ v5) := by
  have h0 := h.set 0 v0
  rw [show (#[a0, a1, a2, a3, a4, a5] : Array Value).setIfInBounds 0 v0 = #[v0, a1, a2, a3, a4, a5] by simp] at h0
  have h1 := h0.set 1 v1
  rw [show (#[v0, a1, a2, a3, a4, a5] : Array Value).setIfInBounds 1 v1 = #[v0, v1, a2, a3, a4, a5] by simp] at h1
  have h2 := h1.set 2 v2
  rw [show (#[v0, v1, a2, a3, a4, a5] : Array Value).setIfInBounds 2 v2 = #[v0, v1, v2, a3, a4, a5] by simp] at h2
  have h3 := h2.set 3 v3
  rw [show (#[v0, v1, v2, a3, a4, a5] : Array Value).setIfInBounds 3 v3 = #[v0, v1, v2, v3, a4, a5] by simp] at h3
  have h4 := h3.set 4 v4
  rw [show (#[v0, v1, v2, v3, a4, a5] : Array Value).setIfInBounds 4 v4 = #[v0, v1, v2, v3, v4, a5] by simp] at h4
  have h5 := h4.set 5 v5
  rw [show (#[v0, v1, v2, v3, v4, a5] : Array Value).setIfInBounds 5 v5 = #[v0, v1, v2, v3, v4, v5] by simp] at h5
  have o0 := Only.set W b 0 v0
  have hb : b ∈ [b] := by simp
  exact ⟨h5, ((((o0.set' b 1 v1 hb).set' b 2 v2 hb).set' b 3 v3 hb).set' b 4 v4 hb).set' b 5 v5 hb⟩

theorem put3 {W : World} {fb mb eb : Nat} {a0 a1 a2 a3 a4 a5 x y : Value} (hF : RowAt W fb #[a0, a1, a2, a3, a4, a5] 36) (hM : RowAt W mb #[x] 3) (hE : RowAt W eb #[y] 37) (v0 v1 v2 v3 v4 v5 mv ev : Value) :
    ∃ W', W' = (((((((W.setCell ⟨fb, 0, none⟩ v0).setCell ⟨fb, 1, none⟩ v1).setCell ⟨fb, 2, none⟩ v2).setCell ⟨fb, 3, none⟩ v3).setCell ⟨fb, 4, none⟩ v4).setCell ⟨fb, 5, none⟩ v5).setCell ⟨mb, 0, none⟩ mv).setCell ⟨eb, 0, none⟩ ev ∧
      RowAt W' fb #[v0, v1, v2, v3, v4, v5] 36 ∧ RowAt W' mb #[mv] 3 ∧ RowAt W' eb #[ev] 37 ∧ Only [fb, mb, eb] W W' := by
  obtain ⟨g1, g2⟩ := set6 hF v0 v1 v2 v3 v4 v5
  have fm := hF.ne hM (by decide)
  have fe := hF.ne hE (by decide)
  have me := hM.ne hE (by decide)
  refine ⟨_, rfl, ?_⟩
  generalize ((((((W.setCell ⟨fb, 0, none⟩ _).setCell ⟨fb, 1, none⟩ _).setCell ⟨fb, 2, none⟩ _).setCell ⟨fb, 3, none⟩ _).setCell ⟨fb, 4, none⟩ _).setCell ⟨fb, 5, none⟩ _) = W1 at g1 g2 ⊢
  have m1 := g2.row hM (by simpa using Ne.symm fm)
  have e1 := g2.row hE (by simpa using Ne.symm fe)
  have m2 := m1.set 0 mv
  have e2 := e1.other (p := ⟨mb, 0, none⟩) me mv
  have f2 := g1.other (p := ⟨mb, 0, none⟩) (Ne.symm fm) mv
  have m3 := m2.other (p := ⟨eb, 0, none⟩) (Ne.symm me) ev
  have f3 := f2.other (p := ⟨eb, 0, none⟩) (Ne.symm fe) ev
  have e3 := e2.set 0 ev
  simp at m3 e3
  exact ⟨f3, m3, e3, ((g2.less (bs' := [fb, mb, eb]) (by simp)).set' mb 0 mv (by simp)).set' eb 0 ev (by simp)⟩

theorem size36 : (Try.prog.info? 36).map (·.size) = some 6 := by kernel_rfl
theorem results_found {fn : Func} {p q r : Tmp} (h : fn.results = #[.cell p 36, .cell q 3, .cell r 37]) (tmps : Array Value) (w : World) (g g' g'' : Nat) (cs : Array Value) (v v' : Value) (hcs : cs.size = 6)
    (hp : tmps.getD p undef = ptr g) (hq : tmps.getD q undef = ptr g') (hr : tmps.getD r undef = ptr g'') (hg : RowAt w g cs 36) (hg' : RowAt w g' #[v] 3) (hg'' : RowAt w g'' #[v'] 37) :
    (results fn tmps).run Try.prog w = .ok (.tuple #[.agg cs, v, v']) w := by
  have hp' : tmps[p]?.getD undef = ptr g := by simpa using hp
  have hq' : tmps[q]?.getD undef = ptr g' := by simpa using hq
  have hr' : tmps[r]?.getD undef = ptr g'' := by simpa using hr
  have c1 := hg'.cell 0
  have c2 := hg''.cell 0
  simp at c1 c2
  have hl := run_loadVar_row w g 36 36 cs (0, 0) _ hg Try.underlying36 rfl (by rw [size36, hcs])
  simp [results, h, hp', hq', hr', asAddr, hl]
  simp [go_sem, c1, c2, loadVar, run_underlying Try.underlying3, run_underlying Try.underlying37]

/-! ### Between two rounds -/

def noteZero : Array Value := #[U32 0, U32 0, U32 0, I 0, .slice none 0 0]

/-- Nothing was read. -/
def DI0 (w : World) (c : Cfg) (d : Dk) (at_ : Nat) (bv wv : Value) (fb mb eb nb cb db ab : Nat) (W : World) : Prop :=
  RdS w W c d at_ bv wv fb mb eb nb cb db ab zeroF noteZero 0 0

/-- The note was read, and so many records. -/
structure DI1 (w : World) (c : Cfg) (d : Dk) (at_ : Nat) (bv wv : Value) (fb mb eb nb cb db ab : Nat) (pre : List RX) (k : Nat) (W : World) : Prop where
  good : noteGood (ringB c d at_ 0)
  id : (noteAt c d at_).id = c.id
  le : k ≤ (noteAt c d at_).recs.length
  upto : goodTo (noteAt c d at_).recs (ringB c d at_) k = true
  st : ∃ sv lv pv rv xs pa, RdS w W c d at_ bv wv fb mb eb nb cb db ab #[U32 (noteAt c d at_).age, U32 (noteAt c d at_).seq, I (noteAt c d at_).stripe, sv, lv, pv] #[U32 (noteAt c d at_).id, U32 (noteAt c d at_).age, U32 (noteAt c d at_).seq, I (noteAt c d at_).stripe, rv] 0 0 ∧
    OwnD w.heap.size W sv lv pv xs pa (dealTo (noteAt c d at_).stripe (noteAt c d at_).recs (ringB c d at_) k) ∧
    W.ownsRow w.heap.size 121 3 rv (noteAt c d at_).recs.length ((noteAt c d at_).recs.flatMap rcCells) ∧
    (∀ y ∈ xs, y ∈ pre) ∧ (∀ y, pa = some y → y ∈ pre) ∧ (∀ g, sv.ownBlock = some g → g ≠ mb ∧ g ≠ ab)

def DI (w : World) (c : Cfg) (d : Dk) (at_ : Nat) (bv wv : Value) (fb mb eb nb cb db ab : Nat) (pre : List RX) (W : World) : Prop :=
  match pre.length with
  | 0 => DI0 w c d at_ bv wv fb mb eb nb cb db ab W
  | k + 1 => DI1 w c d at_ bv wv fb mb eb nb cb db ab pre k W

/-- How it is left ahead of the end. -/
def DX (w : World) (c : Cfg) (d : Dk) (at_ : Nat) (bv wv : Value) (fb mb eb nb cb db ab : Nat) (e : Code) (pre : List RX) (W : World) : Prop :=
  (e = .ret ∧ ¬ readsTo c d at_ (lastRec c d at_) ∧ ∃ nrow, RdS w W c d at_ bv wv fb mb eb nb cb db ab zeroF nrow 0 130) ∨
  (e = .exit 0 ∧ ∃ pre', DI1 w c d at_ bv wv fb mb eb nb cb db ab pre' (noteAt c d at_).recs.length W ∧ (noteAt c d at_).recs.length < c.log.toNat)

theorem OwnD.keepsC {base : Nat} {w w' : World} {sv bv pv : Value} {xs : List RX} {pa : Option RX} {d : DealD} (h : OwnD base w sv bv pv xs pa d) {n0 : Nat} {TS : List TypeId} (hk : KeepsC n0 TS w w') (ht : 3 ∉ TS ∧ 32 ∉ TS ∧ 5 ∉ TS) : OwnD base w' sv bv pv xs pa d :=
  ⟨ownsRow_keepsC h.slots hk ht.1, ownsRow_keepsC h.blocks hk ht.2.1, h.many, fun j hj hj' => ownsRow_keepsC (h.each j hj hj') hk ht.2.2,
    h.parity.imp id (fun ⟨y, h1, h2, h3⟩ => ⟨y, h1, h2, ownsRow_keepsC h3 hk ht.2.2⟩)⟩

theorem DI.holds (w : World) (c : Cfg) (d : Dk) (at_ : Nat) (bv wv : Value) (fb mb eb nb cb db ab : Nat) (B : Nat) (hB : w.heap.size ≤ B) : Holds B [] (DI w c d at_ bv wv fb mb eb nb cb db ab) := by
  intro pre A C h hk
  unfold DI at h ⊢
  split
  · rename_i h0
    rw [h0] at h
    exact RdS.keepsC h hk hB (by simp)
  · rename_i k h0
    rw [h0] at h
    obtain ⟨h1, h2, h3, h4, sv, lv, pv, rv, xs, pa, g1, g2, g3, g4, g5, g6⟩ := h
    exact ⟨h1, h2, h3, h4, sv, lv, pv, rv, xs, pa, g1.keepsC hk hB (by simp), g2.keepsC hk (by simp), ownsRow_keepsC g3 hk (by simp), g4, g5, g6⟩
theorem DX.holds (w : World) (c : Cfg) (d : Dk) (at_ : Nat) (bv wv : Value) (fb mb eb nb cb db ab : Nat) (e : Code) (B : Nat) (hB : w.heap.size ≤ B) : Holds B [] (DX w c d at_ bv wv fb mb eb nb cb db ab e) := by
  rintro pre A C (⟨h1, h2, nrow, h3⟩ | ⟨h1, pre', h2, h3⟩) hk
  · exact .inl ⟨h1, h2, nrow, h3.keepsC hk hB (by simp)⟩
  · obtain ⟨e1, e2, e3, e4, sv, lv, pv, rv, xs, pa, g1, g2, g3, g4, g5, g6⟩ := h2
    exact .inr ⟨h1, pre', ⟨e1, e2, e3, e4, sv, lv, pv, rv, xs, pa, g1.keepsC hk hB (by simp), g2.keepsC hk (by simp), ownsRow_keepsC g3 hk (by simp), g4, g5, g6⟩, h3⟩
theorem DI.reads {w : World} {c : Cfg} {d : Dk} {at_ : Nat} {bv wv : Value} {fb mb eb nb cb db ab : Nat} {pre : List RX} {W : World} (h : DI w c d at_ bv wv fb mb eb nb cb db ab pre W) : ringF c d at_ bv wv cb db ab W := by
  unfold DI at h
  split at h
  · exact RdS.ring h
  · obtain ⟨_, _, _, _, sv, lv, pv, rv, xs, pa, g1, _⟩ := h
    exact g1.ring

set_option maxRecDepth 100000 in
set_option maxHeartbeats 4000000 in
theorem deal_Read_wrong (c : Cfg) (d : Dk) (bv wv : Value) (at_ : Int) (w : World) (h : DkAt w bv wv d) (hk : askErr c d at_ ≠ 0) :
    Calls Try.prog 21 #[c.v, d.v bv wv, I at_] w fun e w' => DReadPost c d at_ w.heap.size e w' ∧ Ext w w' := by
  have h0 := h
  obtain ⟨⟨A, c1, rfl, a1, a2, a3⟩, ⟨A', c', rfl, b1, b2, b3⟩⟩ := h
  refine calls_marks Try.func21 rfl ?_
  simp only [Try.ntmps21, List.size_toArray, List.length_cons, List.length_nil, Nat.reduceAdd, Nat.reduceSub, Array.replicate_succ, Array.replicate_zero, List.push_toArray, List.append_toArray, List.nil_append, List.cons_append]
  have Hk := Lib.hid hk
  clear hk a3 b3
  go_wp2_with fail
  refine (deal_asked c d _ _ at_ _ (h0.ext (by repeat (first | exact Below.refl _ _ | assumption | refine Ext.alloc ?_ _ | refine Ext.drew ?_ | refine Ext.trans ?_ (by assumption))))).mono ?_
  rintro e w1 ⟨hp, he1⟩
  rcases hp with ⟨hp, _⟩ | ⟨_, b, rfl, hb⟩
  · exact absurd hp Hk.out
  have hz1 := he1.size
  simp only [World.size_alloc] at hz1
  obtain ⟨hc1, hf1⟩ := bcell he1
  have hrE : RowAt w1 (w.heap.size + 1 + 1 + 1 + 1) #[I 0] 37 := (RowAt.newAt ((((w.alloc _).alloc _).alloc _).alloc _) _ _ (by simp)).ext he1
  have hrM : RowAt w1 (w.heap.size + 1 + 1 + 1) #[I 0] 3 := ((RowAt.newAt (((w.alloc _).alloc _).alloc _) _ _ (by simp)).ext (Ext.alloc (Ext.refl _) _)).ext he1
  have hrF : RowAt w1 (w.heap.size + 1 + 1) zeroF 36 := (((RowAt.newAt ((w.alloc _).alloc _) _ _ (by simp)).ext (Ext.alloc (Ext.refl _) _)).ext (Ext.alloc (Ext.refl _) _)).ext he1
  go_upto_region 3 with fail
  clear hc1 hf1
  have q0 := hrF.cell 0
  have q1 := hrF.cell 1
  have q2 := hrF.cell 2
  have q3 := hrF.cell 3
  have q4 := hrF.cell 4
  have q5 := hrF.cell 5
  have f0 := hrF.free 0
  have f1 := hrF.free 1
  have f2 := hrF.free 2
  have f3 := hrF.free 3
  have f4 := hrF.free 4
  have f5 := hrF.free 5
  have m0 := hrM.cell 0
  have m1 := hrM.free 0
  have e0 := hrE.cell 0
  have e1 := hrE.free 0
  have b0 := hb.cell 0
  simp [zeroF] at q0 q1 q2 q3 q4 q5 m0 e0 b0
  have hbF : b ≠ w.heap.size + 1 + 1 := hb.ne hrF (by decide)
  have hbM : b ≠ w.heap.size + 1 + 1 + 1 := hb.ne hrM (by decide)
  go_region
  obtain ⟨W9, hW9, g1, g2, g3, g4⟩ := put3 hrF hrM hrE (.int .u32 0) (.int .u32 0) (.int .i64 0) (.slice none 0 0) (.slice none 0 0) (.slice none 0 0) (.int .i64 0) (.int .i64 (askErr c d at_))
  rw [← hW9]
  have hE1 : Ext w w1 := (by repeat (first | exact Below.refl _ _ | assumption | refine Ext.alloc ?_ _ | refine Ext.drew ?_ | refine Ext.trans ?_ (by assumption)))
  have hD : Ext W9 W9.drew := Ext.drew (Ext.refl _)
  have hK := (g4.keeps (n0 := w.heap.size) (TS := [36, 3, 37]) (by simp; exact ⟨⟨by omega, _, _, hrF, by decide⟩, ⟨by omega, _, _, hrM, by decide⟩, ⟨by omega, _, _, hrE, by decide⟩⟩)).below hE1
  go_wp2_with fail
  exact marks_ret (results_found rfl _ _ _ _ _ _ _ _ rfl rfl rfl rfl (g1.ext hD) (g2.ext hD) (g3.ext hD)) ⟨by unfold DReadPost; rw [if_pos Hk.out]; rfl, Ext.trans hK hD⟩

end Go.Proofs.Ytancfgmaejjooaa
