/- Notes: one is read. -/
import Derived.Test.YtancfgmaejjooaaNote3
import Derived.Test.YtancfgmaejjooaaLaw13
import Derived.Test.YtancfgmaejjooaaStr
import Derived.Test.YtancfgmaejjooaaNote4
import Derived.Test.YtancfgmaejjooaaSsa3
import Derived.Laws.EntriesVeiled
set_option linter.unusedVariables false
set_option linter.unusedSimpArgs false
namespace Go.Proofs.Ytancfgmaejjooaa
open Go.RowKit
attribute [local go_sem] Oper.semAt_some

abbrev nextV (rb : Nat) : Value := .func (.func 99) #[.pointer (some ⟨rb, 0, none⟩)] #[]

structure RdSt (w W : World) (rb fb nb : Nat) (bv : Value) (at_ : Nat) (row : Array Value) : Prop where
  rd : RowAt W rb #[bv, I at_] 163
  fn : RowAt W fb #[nextV rb] 160
  nt : RowAt W nb row 83
  ext : Ext w W
  lo : w.heap.size ≤ rb ∧ w.heap.size ≤ fb ∧ w.heap.size ≤ nb

theorem RowAt.newAt (w : World) (cs : Array Value) (t : TypeId) {b : Nat} (h : b = w.heap.size) : RowAt (w.alloc (.cells cs t)) b cs t := by subst h; exact RowAt.new w cs t
theorem RowAt.lt {w : World} {b : Nat} {cs : Array Value} {t : TypeId} (h : RowAt w b cs t) : b < w.heap.size := lt_of_block h
theorem RowAt.cell {w : World} {b : Nat} {cs : Array Value} {t : TypeId} (h : RowAt w b cs t) (j : Nat) : w.cell? ⟨b, j, none⟩ = cs[j]? := cell_of_row _ _ _ _ _ _ h
theorem RowAt.free {w : World} {b : Nat} {cs : Array Value} {t : TypeId} (h : RowAt w b cs t) (j : Nat) : w.frozen? ⟨b, j, none⟩ = false := frozen_of_row _ _ _ _ _ h
theorem RowAt.grown {w w' : World} {b r : Nat} {cs : Array Value} {t : TypeId} (h : RowAt w b cs t) (hg : w.grownBy w' (some r)) (hne : b ≠ r) : RowAt w' b cs t :=
  (hg.block b h.lt (by simp [hne])).trans h
theorem RowAt.ne {w : World} {b b' : Nat} {cs cs' : Array Value} {t t' : TypeId} (h : RowAt w b cs t) (h' : RowAt w b' cs' t') (ht : t ≠ t') : b ≠ b' := fun e => by
  subst e
  unfold RowAt at h h'
  rw [h] at h'
  simp at h'
  exact ht h'.2
theorem RowAt.set {w : World} {b : Nat} {cs : Array Value} {t : TypeId} (h : RowAt w b cs t) (j : Nat) (v : Value) : RowAt (w.setCell ⟨b, j, none⟩ v) b (cs.setIfInBounds j v) t := heap_setCell_same w b j cs t v h
theorem RowAt.other {w : World} {b : Nat} {cs : Array Value} {t : TypeId} (h : RowAt w b cs t) {p : Addr} (hp : p.block ≠ b) (v : Value) : RowAt (w.setCell p v) b cs t := by
  unfold RowAt
  rw [heap_setCell_other _ _ _ _ (Ne.symm hp)]
  exact h

theorem RdSt.next {w W W1 : World} {rb fb nb at_ at' : Nat} {bv : Value} {row : Array Value} (h : RdSt w W rb fb nb bv at_ row) (hg : W.grownBy W1 (some rb)) (hr : RowAt W1 rb #[bv, I at'] 163) : RdSt w W1 rb fb nb bv at' row :=
  ⟨hr, h.fn.grown hg (h.fn.ne h.rd (by decide)), h.nt.grown hg (h.nt.ne h.rd (by decide)), Below.grown h.ext hg h.ext.size (fun k e => by cases e; exact h.lo.1), h.lo⟩
theorem RdSt.set {w W : World} {rb fb nb at_ : Nat} {bv : Value} {row : Array Value} (h : RdSt w W rb fb nb bv at_ row) (j : Nat) (v : Value) : RdSt w (W.setCell ⟨nb, j, none⟩ v) rb fb nb bv at_ (row.setIfInBounds j v) :=
  ⟨h.rd.other (h.nt.ne h.rd (by decide)) v, h.fn.other (h.nt.ne h.fn (by decide)) v, h.nt.set j v, h.ext.setCell h.lo.2.2 v, h.lo⟩

def cnt17 (x : Nat) : Nat := min x 17
@[local go_sem ↓] theorem min17 (P : Program) (x : Nat) (w : World) : Sem.run P (Builtin.min_ #[3, 3] 3 #[Value.int .i64 (x : Int), Value.int .i64 17]) w = .ok (Value.int .i64 (cnt17 x : Int)) w := by
  unfold cnt17
  rcases Nat.lt_or_ge x 17 with h | h
  · rw [Nat.min_eq_left (by omega)]
    simp [go_sem, Builtin.min_, Builtin.min2]
    omega
  · rw [Nat.min_eq_right h]
    simp [go_sem, Builtin.min_, Builtin.min2]
    omega

theorem Ext.grow {w W : World} {cs : Array Value} {t : TypeId} (h : Ext w W) (hr : RowAt W w.heap.size cs t) : Ext (w.alloc (.cells cs t)) W :=
  ⟨h.os, h.tape, h.output, by have := hr.lt; simp; omega, fun k hk => by
    simp at hk
    rcases Nat.lt_or_ge k w.heap.size with h1 | h1
    · rw [h.block k h1, (Ext.alloc (Ext.refl w) _).block k h1]
    · have e : k = w.heap.size := by omega
      subst e
      rw [show W.heap[w.heap.size]? = _ from hr, show (w.alloc (.cells cs t)).heap[w.heap.size]? = _ from RowAt.new w cs t]⟩

theorem own_grown {w w' : World} {base : Nat} {e : TypeId} {size : Nat} {v : Value} {n : Nat} {cs : List Value} (h : w.ownsRow base e size v n cs) {o : Option Nat} (hg : w.grownBy w' o) (hne : ∀ g, v.ownBlock = some g → o ≠ some g) : w'.ownsRow base e size v n cs := by
  obtain ⟨h1, h2⟩ := h
  refine ⟨h1, h2.imp id ?_⟩
  rintro ⟨g, cap, cur, rfl, hb, hh, hrest⟩
  exact ⟨g, cap, cur, rfl, hb, (hg.block g (lt_of_block hh) (fun e => hne g rfl e.symm)).trans hh, hrest⟩
theorem own_block {w : World} {base : Nat} {e : TypeId} {size : Nat} {v : Value} {n : Nat} {cs : List Value} (h : w.ownsRow base e size v n cs) : ∀ g, v.ownBlock = some g → base ≤ g ∧ ∃ cur, RowAt w g cur e := by
  intro g hg
  obtain ⟨h1, ⟨rfl, _⟩ | ⟨g', cap, cur, rfl, hb, hh, hrest⟩⟩ := h
  · cases hg
  · cases hg
    exact ⟨hb, cur, hh⟩
theorem RowAt.grownO {w w' : World} {b : Nat} {cs : Array Value} {t : TypeId} {o : Option Nat} (h : RowAt w b cs t) (hg : w.grownBy w' o) (hne : o ≠ some b) : RowAt w' b cs t :=
  (hg.block b h.lt (fun e => hne e.symm)).trans h
theorem grown_of_ext {w w' : World} (h : Ext w w') : w.grownBy w' none := ⟨h.os, h.tape, h.output, h.size, fun k hk _ => h.block k hk⟩

theorem size83 : (Try.prog.info? 83).map (·.size) = some 5 := by kernel_rfl
theorem info121 : (Try.prog.info? 121).map (fun i => (i.zero, i.size, i.bytes)) = some (some (.agg #[.int .u8 0, .bool false, .int .u32 0]), 3, 8) := by kernel_rfl
def rcCells (r : Rc) : List Value := [B r.slot, .bool r.bare, U32 r.sum]
def recCells (l : List UInt8) (k : Nat) : List Value := (List.range k).flatMap fun i => rcCells (recOf l i)

/-- What Read answers. -/
def ReadPost (xs : List UInt8) (base : Nat) (e : Ending) (w' : World) : Prop :=
  if (noteOf (whole xs)).may = true ∧ noteBytes (noteOf (whole xs)) = xs then ∃ rv, e = .returned (.tuple #[(noteOf (whole xs)).v rv, I 0]) ∧ Rep.rc.sl w' rv (noteOf (whole xs)).recs ∧ w'.ownsRow base 121 3 rv (countOf (whole xs)) (recCells (whole xs) (countOf (whole xs)))
  else e = .returned (.tuple #[.agg #[.int .u32 0, .int .u32 0, .int .u32 0, .int .i64 0, .slice none 0 0], I 90])

def recR (rb nb : Nat) (o : Option Nat) (k : Nat) (A C : World) : Prop := match k with | 7 => A.grownBy C (some rb) | 11 => A.grownBy C o | 13 => A.grownBy C (some nb) | _ => Ext A C

theorem flat_at {α β : Type} (f : α → List β) (m : Nat) (hf : ∀ x, (f x).length = m) : ∀ (xs : List α) (j : Nat) (h : j < xs.length), ((xs.flatMap f).drop (j * m)).take m = f xs[j]
  | [], j, h => by simp at h
  | x :: r, 0, h => by
    rw [List.flatMap_cons, Nat.zero_mul, List.drop_zero]
    exact List.take_left' (hf x)
  | x :: r, j + 1, h => by
    rw [List.flatMap_cons, Nat.add_mul, Nat.one_mul, Nat.add_comm, List.drop_append, List.drop_of_length_le (by rw [hf]; omega), hf, Nat.add_sub_cancel_left, List.nil_append]
    exact flat_at f m hf r j (by simpa using h)

theorem recs_sl {w : World} {base : Nat} {v : Value} {k : Nat} {l : List UInt8} (h : w.ownsRow base 121 3 v k (recCells l k)) : Rep.rc.sl w v ((List.range k).map (recOf l)) := by
  refine own_sl h _ (by simp) (fun j hj => ?_)
  have hj' : j < (List.range k).length := by simpa using hj
  have e := flat_at (fun i => rcCells (recOf l i)) 3 (fun _ => rfl) (List.range k) j hj'
  simp at hj
  refine ⟨?_, ?_⟩
  · refine Eq.trans e ?_
    simp [rcCells]
  · have := takeN_lt l (17 + 6 * j) 4
    simp [recOf]
    omega

theorem ownsRow_keepsC {w w' : World} {base : Nat} {e : TypeId} {size : Nat} {v : Value} {n : Nat} {cs : List Value} (h : w.ownsRow base e size v n cs) {n0 : Nat} {TS : List TypeId} (hk : KeepsC n0 TS w w') (ht : e ∉ TS) : w'.ownsRow base e size v n cs := by
  obtain ⟨h1, h2⟩ := h
  refine ⟨h1, h2.imp id ?_⟩
  rintro ⟨g, cap, cur, rfl, hb, hh, hrest⟩
  exact ⟨g, cap, cur, rfl, hb, RowAt.keepsC (cs := cur) hh hk (.inr ht), hrest⟩

theorem RdSt.keepsC {w W W' : World} {rb fb nb at_ : Nat} {bv : Value} {row : Array Value} (h : RdSt w W rb fb nb bv at_ row) {n0 : Nat} {TS : List TypeId} (hk : KeepsC n0 TS W W') (hn : w.heap.size ≤ n0) (ht : 163 ∉ TS ∧ 160 ∉ TS ∧ 83 ∉ TS) : RdSt w W' rb fb nb bv at_ row :=
  ⟨h.rd.keepsC hk (.inr ht.1), h.fn.keepsC hk (.inr ht.2.1), h.nt.keepsC hk (.inr ht.2.2), hk.below h.ext hn, h.lo⟩

/-- Between two rounds. -/
def ReadI (c0 : World) (rb fb nb : Nat) (bv : Value) (l : List UInt8) (x0 x1 x2 x3 : Nat) (pre : List Nat) (W : World) : Prop :=
  ∃ rv, RdSt c0 W rb fb nb bv (15 + 6 * pre.length) #[U32 x0, U32 x1, U32 x2, I x3, rv] ∧ W.ownsRow c0.heap.size 121 3 rv pre.length (recCells l pre.length)

theorem ReadI.holds (c0 : World) (rb fb nb : Nat) (bv : Value) (l : List UInt8) (x0 x1 x2 x3 : Nat) (n0 : Nat) (hn : c0.heap.size ≤ n0) : Holds n0 [] (ReadI c0 rb fb nb bv l x0 x1 x2 x3) := by
  rintro pre A C ⟨rv, h1, h2⟩ hk
  exact ⟨rv, h1.keepsC hk hn (by simp), ownsRow_keepsC h2 hk (by simp)⟩

theorem row_set5 {w : World} {b : Nat} {a0 a1 a2 a3 a4 : Value} {t : TypeId} (h : RowAt w b #[a0, a1, a2, a3, a4] t) (v0 v1 v2 v3 v4 : Value) :
    RowAt (((((w.setCell ⟨b, 0, none⟩ v0).setCell ⟨b, 1, none⟩ v1).setCell ⟨b, 2, none⟩ v2).setCell ⟨b, 3, none⟩ v3).setCell ⟨b, 4, none⟩ v4) b #[v0, v1, v2, v3, v4] t ∧
    w.grownBy (((((w.setCell ⟨b, 0, none⟩ v0).setCell ⟨b, 1, none⟩ v1).setCell ⟨b, 2, none⟩ v2).setCell ⟨b, 3, none⟩ v3).setCell ⟨b, 4, none⟩ v4) (some b) ∧
    (((((w.setCell ⟨b, 0, none⟩ v0).setCell ⟨b, 1, none⟩ v1).setCell ⟨b, 2, none⟩ v2).setCell ⟨b, 3, none⟩ v3).setCell ⟨b, 4, none⟩ v4).heap.size = w.heap.size := by
  have hz : ∀ (w : World) (p : Addr) (v : Value), (w.setCell p v).heap.size = w.heap.size := by
    intro w p v
    simp [World.setCell]
  have e0 : (#[a0, a1, a2, a3, a4] : Array Value).setIfInBounds 0 v0 = #[v0, a1, a2, a3, a4] := by simp
  have e1 : (#[v0, a1, a2, a3, a4] : Array Value).setIfInBounds 1 v1 = #[v0, v1, a2, a3, a4] := by simp
  have e2 : (#[v0, v1, a2, a3, a4] : Array Value).setIfInBounds 2 v2 = #[v0, v1, v2, a3, a4] := by simp
  have e3 : (#[v0, v1, v2, a3, a4] : Array Value).setIfInBounds 3 v3 = #[v0, v1, v2, v3, a4] := by simp
  have e4 : (#[v0, v1, v2, v3, a4] : Array Value).setIfInBounds 4 v4 = #[v0, v1, v2, v3, v4] := by simp
  have h0 := h.set 0 v0
  rw [e0] at h0
  have h1 := h0.set 1 v1
  rw [e1] at h1
  have h2 := h1.set 2 v2
  rw [e2] at h2
  have h3 := h2.set 3 v3
  rw [e3] at h3
  have h4 := h3.set 4 v4
  rw [e4] at h4
  refine ⟨h4, ?_, by rw [hz, hz, hz, hz, hz]⟩
  · have g : ∀ (w : World) (j : Nat) (v : Value), w.grownBy (w.setCell ⟨b, j, none⟩ v) (some b) := fun w j v => ⟨rfl, rfl, rfl, by simp [World.setCell], fun k _ hne => heap_setCell_other _ _ _ _ (fun e => hne (by simp [e]))⟩
    have t : ∀ {a b' c : World}, a.grownBy b' (some b) → b'.grownBy c (some b) → a.grownBy c (some b) := fun h k => ⟨k.os.trans h.os, k.tape.trans h.tape, k.output.trans h.output, Nat.le_trans h.size k.size, fun i hi hne => (k.block i (Nat.lt_of_lt_of_le hi h.size) hne).trans (h.block i hi hne)⟩
    exact t (t (t (t (g _ _ _) (g _ _ _)) (g _ _ _)) (g _ _ _)) (g _ _ _)

set_option maxRecDepth 100000 in
set_option maxHeartbeats 4000000 in
theorem note_Read (v : Value) (xs : List UInt8) (w : World) (h : Rep.byte.sl w v xs) (hb : isBlock xs = true) :
    Calls Try.prog 43 #[v] w fun e w' => ReadPost xs w.heap.size e w' ∧ Ext w w' := by
  have hs := h
  obtain ⟨A, c, rfl, _, _, _⟩ := h
  refine calls_marks Try.func43 rfl ?_
  simp only [Try.ntmps43, List.size_toArray, List.length_cons, List.length_nil, Nat.reduceAdd, Nat.reduceSub, Array.replicate_succ, Array.replicate_zero, List.push_toArray, List.append_toArray, List.nil_append, List.cons_append]
  go_wp2_with fail
  refine (pack_Take _ xs 0 1 _ (hs.ext (Ext.alloc (Ext.refl _) _)) hb (by decide) (by decide) (by decide)).mono ?_
  rintro e1 w1 ⟨rfl, he1⟩
  obtain ⟨hc1, hf1⟩ := bcell he1
  have hz1 := he1.size
  try simp only [World.size_alloc] at hz1
  have hr0 : RowAt w1 w.heap.size #[U32 0, U32 0, U32 0, I 0, .slice none 0 0] 83 := (RowAt.new w _ _).ext he1
  have hE1 : Ext w w1 := (by repeat (first | exact Below.refl _ _ | assumption | refine Ext.alloc ?_ _ | refine Ext.drew ?_ | refine Ext.trans ?_ (by assumption)))
  go_upto_region 6 with fail
  obtain ⟨W, hW, hE2, hSt⟩ : ∃ W, W = (((w1.alloc (Obj.cells #[Value.slice A xs.length c, Value.int IntKind.i64 1] 163)).alloc
      (Obj.cells #[Value.func (Fn.func 99) #[Value.pointer (some { block := w1.heap.size, off := 0 })] #[]] 160)).alloc (Obj.cells #[.int .u32 0, .int .u32 0, .int .u32 0, .int .i64 0, .slice none 0 0] 83)) ∧ Ext w1 W ∧ RdSt w W w1.heap.size (w1.heap.size + 1) (w1.heap.size + 2) (.slice A xs.length c) 1 #[.int .u32 0, .int .u32 0, .int .u32 0, .int .i64 0, .slice none 0 0] := by
    have h1 := hE1.size
    refine ⟨_, rfl, ((Ext.alloc (Ext.refl _) _).alloc _).alloc _, (RowAt.newAt w1 _ _ rfl).ext ((Ext.alloc (Ext.refl _) _).alloc _), ((RowAt.newAt (w1.alloc _) _ _ (by simp)).ext (Ext.alloc (Ext.refl _) _)), RowAt.newAt ((w1.alloc _).alloc _) _ _ (by simp), (by repeat (first | exact Below.refl _ _ | assumption | refine Ext.alloc ?_ _ | refine Ext.drew ?_ | refine Ext.trans ?_ (by assumption))), by omega, by omega, by omega⟩
  rw [← hW]
  clear hW
  have hSl := hs.ext hSt.ext
  have hr0 := hr0.ext hE2
  have hne : w.heap.size < w1.heap.size := hz1
  rw [show w1.heap.size + 1 + 1 = w1.heap.size + 2 from rfl]
  obtain ⟨rb, hrb⟩ : ∃ rb, rb = w1.heap.size := ⟨_, rfl⟩
  obtain ⟨fb, hfb⟩ : ∃ fb, fb = w1.heap.size + 1 := ⟨_, rfl⟩
  obtain ⟨nb, hnb⟩ : ∃ nb, nb = w1.heap.size + 2 := ⟨_, rfl⟩
  rw [← hfb, ← hnb, ← hrb] at hSt ⊢
  have hlo : w.heap.size < rb ∧ w.heap.size < fb ∧ w.heap.size < nb := ⟨by omega, by omega, by omega⟩
  clear hrb hfb hnb hne hE2 hE1 hc1 hf1 hz1
  -- number 0
  have kfb := hSt.fn.cell 0
  simp at kfb
  have hx0 := takeN_lt (whole xs) 1 4
  go_wp2_with fail
  refine (reader_next _ _ xs _ _ _ hSt.rd (hs.ext hSt.ext) hb (by decide) (by decide) (by decide)).mono ?_
  rintro e W' ⟨rfl, hr', hg'⟩
  replace hSt := hSt.next hg' hr'
  replace hr0 := hr0.grown hg' (by omega)
  obtain ⟨x0, hX0⟩ : ∃ x, x = takeN (whole xs) 1 4 := ⟨_, rfl⟩
  rw [← hX0] at hx0 ⊢
  have HX0 := Lib.hid hX0
  have hw : IntKind.u32.wrap (x0 : Int) = (x0 : Int) := IntWalk.u32_in _ (by omega)
  have kn := hSt.nt.cell 0
  have kf := hSt.nt.free 0
  simp at kn
  clear hX0 hr' hg' kfb
  go_upto_region 7 with fail
  replace hSt := hSt.set 0 (U32 x0)
  replace hr0 := hr0.other (p := ⟨nb, 0, none⟩) (by simp; omega) (U32 x0)
  clear kn kf hw
  generalize W'.setCell ⟨nb, 0, none⟩ _ = W at hSt hr0 ⊢
  simp at hSt
  -- number 1
  have kfb := hSt.fn.cell 0
  simp at kfb
  have hx1 := takeN_lt (whole xs) 5 4
  go_wp2_with fail
  refine (reader_next _ _ xs _ _ _ hSt.rd (hs.ext hSt.ext) hb (by decide) (by decide) (by decide)).mono ?_
  rintro e W' ⟨rfl, hr', hg'⟩
  replace hSt := hSt.next hg' hr'
  replace hr0 := hr0.grown hg' (by omega)
  obtain ⟨x1, hX1⟩ : ∃ x, x = takeN (whole xs) 5 4 := ⟨_, rfl⟩
  rw [← hX1] at hx1 ⊢
  have HX1 := Lib.hid hX1
  have hw : IntKind.u32.wrap (x1 : Int) = (x1 : Int) := IntWalk.u32_in _ (by omega)
  have kn := hSt.nt.cell 1
  have kf := hSt.nt.free 1
  simp at kn
  clear hX1 hr' hg' kfb
  go_upto_region 8 with fail
  replace hSt := hSt.set 1 (U32 x1)
  replace hr0 := hr0.other (p := ⟨nb, 1, none⟩) (by simp; omega) (U32 x1)
  clear kn kf hw
  generalize W'.setCell ⟨nb, 1, none⟩ _ = W at hSt hr0 ⊢
  simp at hSt
  -- number 2
  have kfb := hSt.fn.cell 0
  simp at kfb
  have hx2 := takeN_lt (whole xs) 9 4
  go_wp2_with fail
  refine (reader_next _ _ xs _ _ _ hSt.rd (hs.ext hSt.ext) hb (by decide) (by decide) (by decide)).mono ?_
  rintro e W' ⟨rfl, hr', hg'⟩
  replace hSt := hSt.next hg' hr'
  replace hr0 := hr0.grown hg' (by omega)
  obtain ⟨x2, hX2⟩ : ∃ x, x = takeN (whole xs) 9 4 := ⟨_, rfl⟩
  rw [← hX2] at hx2 ⊢
  have HX2 := Lib.hid hX2
  have hw : IntKind.u32.wrap (x2 : Int) = (x2 : Int) := IntWalk.u32_in _ (by omega)
  have kn := hSt.nt.cell 2
  have kf := hSt.nt.free 2
  simp at kn
  clear hX2 hr' hg' kfb
  go_upto_region 9 with fail
  replace hSt := hSt.set 2 (U32 x2)
  replace hr0 := hr0.other (p := ⟨nb, 2, none⟩) (by simp; omega) (U32 x2)
  clear kn kf hw
  generalize W'.setCell ⟨nb, 2, none⟩ _ = W at hSt hr0 ⊢
  simp at hSt
  -- number 3
  have kfb := hSt.fn.cell 0
  simp at kfb
  have hx3 := takeN_lt (whole xs) 13 1
  go_wp2_with fail
  refine (reader_next _ _ xs _ _ _ hSt.rd (hs.ext hSt.ext) hb (by decide) (by decide) (by decide)).mono ?_
  rintro e W' ⟨rfl, hr', hg'⟩
  replace hSt := hSt.next hg' hr'
  replace hr0 := hr0.grown hg' (by omega)
  obtain ⟨x3, hX3⟩ : ∃ x, x = takeN (whole xs) 13 1 := ⟨_, rfl⟩
  rw [← hX3] at hx3 ⊢
  have HX3 := Lib.hid hX3
  have kn := hSt.nt.cell 3
  have kf := hSt.nt.free 3
  simp at kn
  clear hX3 hr' hg' kfb
  go_upto_region 10 with fail
  replace hSt := hSt.set 3 (I x3)
  replace hr0 := hr0.other (p := ⟨nb, 3, none⟩) (by simp; omega) (I x3)
  clear kn kf 
  generalize W'.setCell ⟨nb, 3, none⟩ _ = W at hSt hr0 ⊢
  simp at hSt
  have kfb := hSt.fn.cell 0
  simp at kfb
  have hx4 := takeN_lt (whole xs) 14 1
  go_wp2_with fail
  refine (reader_next _ _ xs _ _ _ hSt.rd (hs.ext hSt.ext) hb (by decide) (by decide) (by decide)).mono ?_
  rintro e W' ⟨rfl, hr', hg'⟩
  replace hSt := hSt.next hg' hr'
  replace hr0 := hr0.grown hg' (by omega)
  obtain ⟨x4, hX4⟩ : ∃ x, x = takeN (whole xs) 14 1 := ⟨_, rfl⟩
  rw [← hX4] at hx4 ⊢
  have HX4 := Lib.hid hX4
  clear hX4 hr' hg' kfb
  have hcnt : cnt17 x4 ≤ 17 := Nat.min_le_right _ _
  obtain ⟨cn, hcn⟩ : ∃ cn, cn = cnt17 x4 := ⟨_, rfl⟩
  have Hcn := Lib.hid hcn
  rw [← hcn] at hcnt
  have hz := hSt.rd.lt
  obtain ⟨c0, hc0⟩ : ∃ c0, c0 = w.alloc (.cells #[U32 0, U32 0, U32 0, I 0, .slice none 0 0] 83) := ⟨_, rfl⟩
  have hEc : Ext c0 W' := by rw [hc0]; exact hSt.ext.grow hr0
  have hr0c : RowAt c0 w.heap.size #[.int .u32 0, .int .u32 0, .int .u32 0, .int .i64 0, .slice none 0 0] 83 := by rw [hc0]; exact RowAt.new _ _ _
  have hcw : Ext w c0 := by rw [hc0]; exact Ext.alloc (Ext.refl _) _
  have hcz : c0.heap.size = w.heap.size + 1 := by rw [hc0]; simp
  replace hSt : RdSt c0 W' rb fb nb (.slice A xs.length c) 15 #[U32 x0, U32 x1, U32 x2, I x3, .slice none 0 0] := ⟨hSt.rd, hSt.fn, hSt.nt, hEc, by omega, by omega, by omega⟩
  go_wp2_with fail
  rw [← hcn]
  clear hcn hc0
  refine (note_places _ _).mono ?_
  rintro e W'' ⟨rfl, rfl⟩
  go_upto_region 11 with fail
  generalize hW5 : W'.alloc (.cells #[I cn] 3) = W5
  have hSt5 : RdSt c0 W5 rb fb nb (.slice A xs.length c) 15 #[U32 x0, U32 x1, U32 x2, I x3, .slice none 0 0] := by rw [← hW5]; exact hSt.keepsC (n0 := c0.heap.size) (TS := []) (.of_ext (Ext.alloc (Ext.refl _) _)) (Nat.le_refl _) (by simp)
  have hbx : Box W5 W'.heap.size 3 (I cn) := by rw [← hW5]; exact Box.new _ _ _ _ rfl
  have hz5 := hSt5.rd.lt
  clear hW5
  apply wp_range (places_iter W'.heap.size cn c0.heap.size [163, 121, 83] _ (by omega) hbx (.inr (by simp))) (by have := hSt5.lo; omega) rfl (enters_of Try.func152 (by kernel_rfl) rfl) (fun _ => rfl)
    (fun _ _ _ _ h _ => h) (ReadI c0 rb fb nb (.slice A xs.length c) (whole xs) x0 x1 x2 x3) (fun _ _ _ => False) (ReadI.holds _ _ _ _ _ _ _ _ _ _ _ (by have := hSt5.lo; omega)) (fun _ _ _ _ h _ => h)
    ⟨_, hSt5, ⟨by simp [recCells], .inl ⟨rfl, rfl⟩⟩⟩
  case hassign =>
    intro l x W K hK
    gi_wp2
    exact hK
  case hbody =>
    rintro l pre x W ⟨rv, hSt, hown⟩ ⟨hx, hxl⟩
    have kfb := hSt.fn.cell 0
    simp at kfb
    subst hx
    have hlo := hSt.lo
    gi_wp2
    refine ⟨trivial, rfl, CallsIn.inRound l (callsIn_wide.2 ((reader_next _ _ xs _ 1 _ hSt.rd (hs.ext (Ext.trans hcw hSt.ext)) hb (by decide) (by decide) (by omega)).mono ?_))⟩
    rintro e W1 ⟨rfl, hr', hg'⟩
    have hK1 : Keeps c0.heap.size [163, 121, 83] W W1 := .of_grown hg' hlo.1 hSt.rd (by simp)
    have hown1 := ownsRow_keepsC hown (n0 := 0) (TS := [163]) (.of_keeps (.of_grown hg' (by omega) hSt.rd (by simp))) (by simp)
    replace hSt := hSt.next hg' hr'
    clear kfb hr' hg'
    have kfb := hSt.fn.cell 0
    simp at kfb
    gi_wp2
    refine ⟨trivial, rfl, CallsIn.inRound l (callsIn_wide.2 ((reader_next _ _ xs _ 1 _ hSt.rd (hs.ext (Ext.trans hcw hSt.ext)) hb (by decide) (by decide) (by omega)).mono ?_))⟩
    rintro e W2 ⟨rfl, hr', hg'⟩
    have hK2 : Keeps c0.heap.size [163, 121, 83] W W2 := hK1.trans (.of_grown hg' hlo.1 hSt.rd (by simp))
    have hown2 := ownsRow_keepsC hown1 (n0 := 0) (TS := [163]) (.of_keeps (.of_grown hg' (by omega) hSt.rd (by simp))) (by simp)
    replace hSt := hSt.next hg' hr'
    clear kfb hr' hg' hown hown1 hK1
    obtain ⟨y0, hY0⟩ : ∃ x, x = takeN (whole xs) (15 + 6 * pre.length) 1 := ⟨_, rfl⟩
    obtain ⟨y1, hY1⟩ : ∃ x, x = takeN (whole xs) (15 + 6 * pre.length + 1) 1 := ⟨_, rfl⟩
    have hy0 := takeN_lt (whole xs) (15 + 6 * pre.length) 1
    have hy1 := takeN_lt (whole xs) (15 + 6 * pre.length + 1) 1
    rw [← hY0] at hy0 ⊢
    rw [← hY1] at hy1 ⊢
    have HY0 := Lib.hid hY0
    have HY1 := Lib.hid hY1
    clear hY0 hY1
    gi_wp2
    obtain ⟨y2, hY2⟩ : ∃ x, x = takeN (whole xs) (15 + 6 * pre.length + 1 + 1) 4 := ⟨_, rfl⟩
    have hy2 := takeN_lt (whole xs) (15 + 6 * pre.length + 1 + 1) 4
    rw [← hY2] at hy2
    have HY2 := Lib.hid hY2
    clear hY2
    have hown0 := own_block hown2
    have hzr := hSt.rd.lt
    have hzn := hSt.nt.lt
    have hrn := hSt.rd.ne hSt.nt (by decide)
    have hor : ∀ g, rv.ownBlock = some g → g ≠ rb ∧ g ≠ nb ∧ g < W2.heap.size := fun g hg => by
      obtain ⟨_, cur, h⟩ := hown0 g hg
      exact ⟨h.ne hSt.rd (by decide), h.ne hSt.nt (by decide), h.lt⟩
    obtain ⟨rowN, hrowN⟩ : ∃ r : Value → Array Value, r = fun v => #[U32 x0, U32 x1, U32 x2, I x3, v] := ⟨_, rfl⟩
    have hGr : ∀ k, k < 14 → ∀ A C, recR rb nb rv.ownBlock k A C → ∃ o, A.grownBy C o ∧ (o = none ∨ (o = some rb ∧ k = 7) ∨ (o = rv.ownBlock ∧ k = 11) ∨ (o = some nb ∧ k = 13)) := by
      intro k hk A C h
      match k, hk, h with
      | 0, _, h => exact ⟨_, grown_of_ext h, .inl rfl⟩
      | 1, _, h => exact ⟨_, grown_of_ext h, .inl rfl⟩
      | 2, _, h => exact ⟨_, grown_of_ext h, .inl rfl⟩
      | 3, _, h => exact ⟨_, grown_of_ext h, .inl rfl⟩
      | 4, _, h => exact ⟨_, grown_of_ext h, .inl rfl⟩
      | 5, _, h => exact ⟨_, grown_of_ext h, .inl rfl⟩
      | 6, _, h => exact ⟨_, grown_of_ext h, .inl rfl⟩
      | 7, _, h => exact ⟨_, h, .inr (.inl ⟨rfl, rfl⟩)⟩
      | 8, _, h => exact ⟨_, grown_of_ext h, .inl rfl⟩
      | 9, _, h => exact ⟨_, grown_of_ext h, .inl rfl⟩
      | 10, _, h => exact ⟨_, grown_of_ext h, .inl rfl⟩
      | 11, _, h => exact ⟨_, h, .inr (.inr (.inl ⟨rfl, rfl⟩))⟩
      | 12, _, h => exact ⟨_, grown_of_ext h, .inl rfl⟩
      | 13, _, h => exact ⟨_, h, .inr (.inr (.inr ⟨rfl, rfl⟩))⟩
      | n + 14, hk, _ => exact absurd hk (by omega)
    refine wpIn_ssaK_round (by kernel_rfl) rfl c0.heap.size (fun k => match k with | 7 => [163] | 11 => [121] | 13 => [83] | _ => []) (fun k => match k with | 1 => [163] | 6 => [163] | 7 => [] | 11 => [163] | 13 => [163, 121] | _ => [163, 121, 83]) [163, 121, 83] (by kernel_rfl)
      (recR rb nb rv.ownBlock)
      (fun i ds v w => match i with
      | 0 => v = .pointer (some ⟨nb, 4, none⟩)
      | 1 => v = rv
      | 2 => v = I y0
      | 3 => v = .int .u8 y0
      | 4 => v = I y1
      | 5 => v = .bool (y1 == 1)
      | 6 => v = nextV rb
      | 7 => v = I y2 ∧ RowAt w rb #[.slice A xs.length c, I ((15 + 6 * pre.length + 1 + 1 + 4 : Nat) : Int)] 163
      | 8 => v = U32 y2
      | 9 => v = .agg #[.int .u8 y0, .bool (y1 == 1), U32 y2]
      | 10 => ∃ b, v = .slice (some ⟨b, 0, none⟩) 1 1 ∧ W2.heap.size ≤ b ∧ RowAt w b #[.int .u8 y0, .bool (y1 == 1), U32 y2] 121
      | 11 => (∀ g, v.ownBlock = some g → g ≠ nb ∧ g ≠ rb) ∧ (∃ g cap, v = .slice (some ⟨g, 0, none⟩) (pre.length + 1) cap) ∧ w.ownsRow c0.heap.size 121 3 v (pre.length + 1) (recCells (whole xs) (pre.length + 1))
      | 12 => v = .pointer (some ⟨nb, 4, none⟩)
      | _ => RowAt w nb (rowN (ds 11)) 83) ?hR ?hst ?hop ?fin
    case hR =>
      intro k hk TS A C ht hK hr
      obtain ⟨o, ho, h⟩ := hGr k hk A C hr
      refine hK.grownO ho ?_
      rcases h with rfl | ⟨rfl, rfl⟩ | ⟨rfl, rfl⟩ | ⟨rfl, rfl⟩
      · intro g e
        cases e
      · intro g e
        cases e
        exact ⟨hlo.1, .inr ⟨_, _, _, hSt.rd, ht 163 (by simp)⟩⟩
      · intro g e
        obtain ⟨h1, cur, h2⟩ := hown0 g e
        exact ⟨h1, .inr ⟨_, _, _, h2, ht 121 (by simp)⟩⟩
      · intro g e
        cases e
        exact ⟨hlo.2.2, .inr ⟨_, _, _, hSt.nt, ht 83 (by simp)⟩⟩
    case hst =>
      intro j p hj k o ho hne hb vs v A C hK hr hΦ
      have hkl : k < 14 := (List.getElem?_eq_some_iff.1 ho).1
      obtain ⟨o', ho', h⟩ := hGr k hkl A C hr
      match j, hj, hne, hΦ with
      | 0, hj, hne, hΦ => exact hΦ
      | 1, hj, hne, hΦ => exact hΦ
      | 2, hj, hne, hΦ => exact hΦ
      | 3, hj, hne, hΦ => exact hΦ
      | 4, hj, hne, hΦ => exact hΦ
      | 5, hj, hne, hΦ => exact hΦ
      | 6, hj, hne, hΦ => exact hΦ
      | 7, hj, hne, hΦ =>
        refine ⟨hΦ.1, hΦ.2.grownO ho' ?_⟩
        rcases h with rfl | ⟨rfl, hk7⟩ | ⟨rfl, _⟩ | ⟨rfl, _⟩
        · simp
        · exact absurd hk7 hne
        · exact fun e => (hor _ e).1 rfl
        · exact fun e => hrn (Option.some.inj e).symm
      | 8, hj, hne, hΦ => exact hΦ
      | 9, hj, hne, hΦ => exact hΦ
      | 10, hj, hne, hΦ =>
        obtain ⟨b, h1, h2, h3⟩ := hΦ
        refine ⟨b, h1, h2, h3.grownO ho' ?_⟩
        rcases h with rfl | ⟨rfl, hk7⟩ | ⟨rfl, _⟩ | ⟨rfl, _⟩
        · simp
        · exact fun e => by cases e; omega
        · exact fun e => by have := (hor _ e).2.2; omega
        · exact fun e => by cases e; omega
      | 11, hj, hne, hΦ =>
        refine ⟨hΦ.1, hΦ.2.1, own_grown hΦ.2.2 ho' ?_⟩
        rcases h with rfl | ⟨rfl, hk7⟩ | ⟨rfl, h11⟩ | ⟨rfl, _⟩
        · simp
        · exact fun g hg e => (hΦ.1 g hg).2 (Option.some.inj e).symm
        · exact absurd h11 hne
        · exact fun g hg e => (hΦ.1 g hg).1 (Option.some.inj e).symm
      | 12, hj, hne, hΦ => exact hΦ
      | 13, hj, hne, hΦ =>
        refine RowAt.grownO hΦ ho' ?_
        rcases h with rfl | ⟨rfl, hk7⟩ | ⟨rfl, h11⟩ | ⟨rfl, h13⟩
        · simp
        · exact fun e => hrn (Option.some.inj e)
        · exact fun e => (hor _ e).2.1 rfl
        · exact absurd h13 hne
      | n + 14, hj, _, _ => exact absurd (List.getElem?_eq_some_iff.1 hj).1 (by simp)
    case hop =>
      refine allAt ⟨?_, ?_, ?_, ?_, ?_, ?_, ?_, ?_, ?_, ?_, ?_, ?_, ?_, ?_, trivial⟩
      · intro vs w' hK hd
        refine plain_op rfl ?_
        unfold runOp
        simp [go_sem, look, writer, List.findIdx?, List.findIdx?.go, depsOf, Region.binds]
        exact Ext.refl _
      · intro vs w' hK hd
        have h0 : vs 0 = .pointer (some ⟨nb, 4, none⟩) := hd 0 _ rfl (by decide)
        have kn : w'.cell? ⟨nb, 4, none⟩ = some rv := (hSt.nt.keeps (TS := [163]) hK (.inr (by simp))).cell 4
        refine plain_op rfl ?_
        unfold runOp
        simp [go_sem, look, writer, List.findIdx?, List.findIdx?.go, depsOf, Region.binds, h0, kn]
        exact Ext.refl _
      · intro vs w' hK hd
        refine plain_op rfl ?_
        unfold runOp
        simp [go_sem, look, writer, List.findIdx?, List.findIdx?.go, depsOf, Region.binds]
        exact Ext.refl _
      · intro vs w' hK hd
        have h2 : vs 2 = I y0 := hd 2 _ rfl (by decide)
        have hw : IntKind.u8.wrap (y0 : Int) = (y0 : Int) := IntWalk.u8_in _ (by omega)
        refine plain_op rfl ?_
        unfold runOp
        simp [go_sem, look, writer, List.findIdx?, List.findIdx?.go, depsOf, Region.binds, h2, hw]
        exact Ext.refl _
      · intro vs w' hK hd
        refine plain_op rfl ?_
        unfold runOp
        simp [go_sem, look, writer, List.findIdx?, List.findIdx?.go, depsOf, Region.binds]
        exact Ext.refl _
      · intro vs w' hK hd
        have h4 : vs 4 = I y1 := hd 4 _ rfl (by decide)
        refine plain_op rfl ?_
        unfold runOp
        simp [go_sem, look, writer, List.findIdx?, List.findIdx?.go, depsOf, Region.binds, h4]
        exact ⟨Ext.refl _, by rw [Bool.eq_iff_iff]; simp; omega⟩
      · intro vs w' hK hd
        have kn : w'.cell? ⟨fb, 0, none⟩ = some (nextV rb) := (hSt.fn.keeps (TS := [163]) hK (.inr (by simp))).cell 0
        refine plain_op rfl ?_
        unfold runOp
        simp [go_sem, look, writer, List.findIdx?, List.findIdx?.go, depsOf, Region.binds, kn]
        exact Ext.refl _
      · intro vs w' hK hd
        have h6 : vs 6 = nextV rb := hd 6 _ rfl (by decide)
        have hK : Keeps c0.heap.size [] W2 w' := hK
        have kr := hSt.rd.keeps hK (.inr (by simp))
        refine plain_op rfl ?_
        unfold runOp
        simp [go_sem, look, writer, List.findIdx?, List.findIdx?.go, depsOf, Region.binds, h6]
        refine (reader_next _ _ xs _ 4 _ kr (hs.ext (Ext.trans hcw (hK.below hSt.ext))) hb (by decide) (by decide) (by omega)).mono ?_
        rintro e w'' ⟨rfl, hr, hg⟩
        exact ⟨_, rfl, hg, by rw [HY2.out], hr⟩
      · intro vs w' hK hd
        have h7 : vs 7 = I y2 := (hd 7 _ rfl (by decide)).1
        have hw : IntKind.u32.wrap (y2 : Int) = (y2 : Int) := IntWalk.u32_in _ (by omega)
        refine plain_op rfl ?_
        unfold runOp
        simp [go_sem, look, writer, List.findIdx?, List.findIdx?.go, depsOf, Region.binds, h7, hw]
        exact Ext.refl _
      · intro vs w' hK hd
        have h3 : vs 3 = .int .u8 y0 := hd 3 _ rfl (by decide)
        have h5 : vs 5 = .bool (y1 == 1) := hd 5 _ rfl (by decide)
        have h8 : vs 8 = U32 y2 := hd 8 _ rfl (by decide)
        refine plain_op rfl ?_
        unfold runOp
        simp [go_sem, look, writer, List.findIdx?, List.findIdx?.go, depsOf, Region.binds, h3, h5, h8]
        exact Ext.refl _
      · intro vs w' hK hd
        have h9 : vs 9 = .agg #[.int .u8 y0, .bool (y1 == 1), U32 y2] := hd 9 _ rfl (by decide)
        have hz := hK.size
        refine plain_op rfl ?_
        unfold runOp
        simp [go_sem, look, writer, List.findIdx?, List.findIdx?.go, depsOf, Region.binds, h9]
        exact ⟨(Ext.refl _).alloc _, hz, RowAt.new _ _ _⟩
      · intro vs w' hK hd
        have h1 : vs 1 = rv := hd 1 _ rfl (by decide)
        obtain ⟨b, h10, hb10, hr10⟩ : ∃ b, vs 10 = .slice (some ⟨b, 0, none⟩) 1 1 ∧ W2.heap.size ≤ b ∧ RowAt w' b #[.int .u8 y0, .bool (y1 == 1), U32 y2] 121 := hd 10 _ rfl (by decide)
        have hownw := ownsRow_keepsC hown2 (n0 := c0.heap.size) (TS := [163]) (.of_keeps hK) (by simp)
        have hz := hK.size
        refine plain_op rfl ?_
        refine runOp_append c0.heap.size 121 (.agg #[.int .u8 0, .bool false, .int .u32 0]) 3 8 _ _ 81 rfl Try.underlying81 info121 rfl (by decide) (by decide) rv pre.length (recCells (whole xs) pre.length) ?_ hownw (some ⟨b, 0, none⟩) 1 1 [.int .u8 y0, .bool (y1 == 1), U32 y2] ?_ rfl hr10.src ?_ (by omega) (by omega) ?_
        · simp [look, writer, List.findIdx?, List.findIdx?.go, depsOf, Region.binds, h1]
        · simp [look, writer, List.findIdx?, List.findIdx?.go, depsOf, Region.binds, h10]
        · intro u hu
          simp at hu
          rcases hu with rfl | rfl | rfl <;> rfl
        · intro v' w'' h1 h2 h3
          refine ⟨h2, ?_, ?_, ?_⟩
          · intro g hg
            rcases h3 with h3 | h3
            · rw [h3] at hg
              exact ⟨(hor g hg).2.1, (hor g hg).1⟩
            · rw [h3] at hg
              cases hg
              exact ⟨by omega, by omega⟩
          · obtain ⟨_, ⟨_, h4⟩ | ⟨g, cap, _, h4, _⟩⟩ := h1
            · omega
            · exact ⟨g, cap, h4⟩
          · have e : recCells (whole xs) (pre.length + 1) = recCells (whole xs) pre.length ++ [.int .u8 y0, .bool (y1 == 1), U32 y2] := by
              unfold recCells
              rw [List.range_succ, List.flatMap_append]
              simp only [List.flatMap_cons, List.flatMap_nil, List.append_nil, rcCells, recOf]
              rw [show 16 + 6 * pre.length = 15 + 6 * pre.length + 1 by omega, show 17 + 6 * pre.length = 15 + 6 * pre.length + 1 + 1 by omega, ← HY0.out, ← HY1.out, ← HY2.out]
              simp
              omega
            rw [e]
            exact h1
      · intro vs w' hK hd
        refine plain_op rfl ?_
        unfold runOp
        simp [go_sem, look, writer, List.findIdx?, List.findIdx?.go, depsOf, Region.binds]
        exact Ext.refl _
      · intro vs w' hK hd
        have h12 : vs 12 = .pointer (some ⟨nb, 4, none⟩) := hd 12 _ rfl (by decide)
        obtain ⟨_, ⟨g, cap, h11⟩, _⟩ := hd 11 _ rfl (by decide)
        have kn := hSt.nt.keeps (TS := [163, 121]) hK (.inr (by simp))
        have kc := kn.cell 4
        have kf := kn.free 4
        simp at kc
        refine plain_op rfl ?_
        unfold runOp
        simp [go_sem, look, writer, List.findIdx?, List.findIdx?.go, depsOf, Region.binds, h12, h11, kc, kf, mask]
        exact ⟨⟨rfl, rfl, rfl, by simp [World.setCell], fun k _ hne => heap_setCell_other _ _ _ _ (fun e => hne (by simp [e]))⟩, by rw [hrowN]; exact kn.set 4 _⟩
    case fin =>
      intro vs w' A' _ _ hA hKf hf
      subst hA
      obtain ⟨_, _, h11⟩ := hf 11 _ rfl
      have h13 : RowAt w' nb (rowN (vs 11)) 83 := hf 13 _ rfl
      obtain ⟨_, h7⟩ := hf 7 _ rfl
      rw [hrowN] at h13
      gi_wp2
      refine ⟨by first | exact hK2.trans hKf | (rw [← hcz]; exact hK2.trans hKf), vs 11, ⟨?_, hSt.fn.keeps hKf (.inr (by simp)), h13, hKf.below hSt.ext, hlo⟩, ?_⟩
      · simp only [List.length_append, List.length_singleton]
        exact h7
      · simp only [List.length_append, List.length_singleton]
        exact h11
  case hdone =>
    rintro ys W rfl ⟨rv, hSt, hown⟩ hK
    have hc5 := hSt5.ext
    obtain ⟨rA, rn, rc, rfl⟩ : ∃ A n c, rv = .slice A n c := by
      rcases hown.2 with ⟨rfl, _⟩ | ⟨g, cap, cur, rfl, _⟩
      · exact ⟨_, _, _, rfl⟩
      · exact ⟨_, _, _, rfl⟩
    have hl : (List.range cn).length = cn := by simp
    rw [hl] at hSt hown
    have hrl := recs_sl hown
    have hn : noteOf (whole xs) = ⟨x0, x1, x2, (x3 : Int), (List.range cn).map (recOf (whole xs))⟩ := by
      unfold noteOf countOf
      rw [HX0.out, HX1.out, HX2.out, HX3.out, Hcn.out, HX4.out]
      rfl
    have k0 := hSt.nt.cell 0
    have k1 := hSt.nt.cell 1
    have k2 := hSt.nt.cell 2
    have k3 := hSt.nt.cell 3
    have k4 := hSt.nt.cell 4
    simp at k0 k1 k2 k3 k4
    have Hn := Lib.hid hn
    have Hl := Lib.hid hl
    clear hn hl
    have hv : ∀ rv, Value.agg #[U32 x0, U32 x1, U32 x2, I (x3 : Int), rv] = (noteOf (whole xs)).v rv := fun rv => by rw [Hn.out]
    go_wp2_with fail
    have Hv := Lib.hid hv
    clear hv
    cases hm : (noteOf (whole xs)).may
    · refine (note_Write_no (noteOf (whole xs)) _ _ (by rw [Hn.out]; exact hrl) hm (by unfold Fit; rw [Hn.out]; simp; omega)).mono ?_
      have Hm := Lib.hid hm
      clear hm
      rintro e W6 ⟨rfl, hE6⟩
      have hr6 := hr0c.ext (Ext.trans hSt.ext hE6)
      have q0 := hr6.cell 0
      have q1 := hr6.cell 1
      have q2 := hr6.cell 2
      have q3 := hr6.cell 3
      have q4 := hr6.cell 4
      have f0 := hr6.free 0
      have f1 := hr6.free 1
      have f2 := hr6.free 2
      have f3 := hr6.free 3
      have f4 := hr6.free 4
      simp at q0 q1 q2 q3 q4
      go_wp2_with fail
      obtain ⟨g1, g2, g3⟩ := row_set5 hr6 (.int .u32 0) (.int .u32 0) (.int .u32 0) (.int .i64 0) (.slice none 0 0)
      generalize (((((W6.setCell ⟨w.heap.size, 0, none⟩ _).setCell ⟨w.heap.size, 1, none⟩ _).setCell ⟨w.heap.size, 2, none⟩ _).setCell ⟨w.heap.size, 3, none⟩ _).setCell ⟨w.heap.size, 4, none⟩ _) = W9 at g1 g2 g3 ⊢
      clear q0 q1 q2 q3 q4 f0 f1 f2 f3 f4
      have hD : w.heap.size < W5.heap.size := by have := hc5.size; omega
      have hK9 : W9.heap[W5.heap.size]? = some (.deferred (some [])) := (g2.block _ (Nat.lt_of_lt_of_le (lt_of_block hK) hE6.size) (by simp; omega)).trans ((hE6.block _ (lt_of_block hK)).trans hK)
      have hkc : ∀ B, B ≤ W5.heap.size → KeepsC B [] W9 (W9.putObj W5.heap.size (.deferred none)) := fun B h => .putObj h hK9 (fun _ _ _ e => by cases e)
      have hEw : Ext w W9 := Below.grown (Ext.trans hcw (Ext.trans hSt.ext hE6)) g2 (Ext.trans hcw (Ext.trans hSt.ext hE6)).size (fun k e => by cases e; exact Nat.le_refl _)
      have hf := RowAt.keepsC g1 (hkc 0 (Nat.zero_le _)) (.inr (by simp))
      refine marks_ret1 hK9 (results_cell_tmp rfl _ _ w.heap.size 83 _ _ _ rfl hf Try.underlying83 rfl size83) ⟨?_, (hkc w.heap.size (by omega)).below hEw (Nat.le_refl _)⟩
      unfold ReadPost
      rw [if_neg (by rw [Hm.out]; simp)]
      rfl
    · have Hm := Lib.hid hm
      have hid : (noteOf (whole xs)).id < 4294967296 := by rw [Hn.out]; omega
      refine (note_Write_yes (noteOf (whole xs)) _ _ (by rw [Hn.out]; exact hrl) hm hid).mono ?_
      clear hm
      rintro e W6 ⟨v', rfl, hM, hE6⟩
      have hEx := Ext.trans hcw (Ext.trans hSt.ext hE6)
      have hcv1 := conv_sl (hM.sl (noteBytes_len _))
      have hcv2 := conv_sl (hs.ext hEx)
      have hne := str_ne (noteBytes (noteOf (whole xs))) xs W6
      have hr6 := hr0c.ext (Ext.trans hSt.ext hE6)
      have hn6 := hSt.nt.ext hE6
      have hown6 := ownsRow_keepsC hown (n0 := 0) (TS := []) (.of_ext hE6) (by simp)
      have k0 := hn6.cell 0
      have k1 := hn6.cell 1
      have k2 := hn6.cell 2
      have k3 := hn6.cell 3
      have k4 := hn6.cell 4
      have q0 := hr6.cell 0
      have q1 := hr6.cell 1
      have q2 := hr6.cell 2
      have q3 := hr6.cell 3
      have q4 := hr6.cell 4
      have f0 := hr6.free 0
      have f1 := hr6.free 1
      have f2 := hr6.free 2
      have f3 := hr6.free 3
      have f4 := hr6.free 4
      simp at q0 q1 q2 q3 q4 k0 k1 k2 k3 k4
      obtain ⟨nbs, hnbs⟩ : ∃ l, l = noteBytes (noteOf (whole xs)) := ⟨_, rfl⟩
      rw [← hnbs] at hne hcv1
      have Hnb := Lib.hid hnbs
      clear hnbs
      have hfin : ∀ a0 a1 a2 a3 a4, ∃ W9, W9 = (((((W6.setCell ⟨w.heap.size, 0, none⟩ a0).setCell ⟨w.heap.size, 1, none⟩ a1).setCell ⟨w.heap.size, 2, none⟩ a2).setCell ⟨w.heap.size, 3, none⟩ a3).setCell ⟨w.heap.size, 4, none⟩ a4) ∧
          W9.heap[W5.heap.size]? = some (.deferred (some [])) ∧ RowAt (W9.putObj W5.heap.size (.deferred none)) w.heap.size #[a0, a1, a2, a3, a4] 83 ∧
          (W9.putObj W5.heap.size (.deferred none)).ownsRow c0.heap.size 121 3 (.slice rA rn rc) cn (recCells (whole xs) cn) ∧ Ext w (W9.putObj W5.heap.size (.deferred none)) := by
        intro a0 a1 a2 a3 a4
        obtain ⟨g1, g2, g3⟩ := row_set5 hr6 a0 a1 a2 a3 a4
        refine ⟨_, rfl, ?_⟩
        generalize (((((W6.setCell ⟨w.heap.size, 0, none⟩ _).setCell ⟨w.heap.size, 1, none⟩ _).setCell ⟨w.heap.size, 2, none⟩ _).setCell ⟨w.heap.size, 3, none⟩ _).setCell ⟨w.heap.size, 4, none⟩ _) = W9 at g1 g2 g3 ⊢
        have hD : w.heap.size < W5.heap.size := by have := hc5.size; omega
        have hK9 : W9.heap[W5.heap.size]? = some (.deferred (some [])) := (g2.block _ (Nat.lt_of_lt_of_le (lt_of_block hK) hE6.size) (by simp; omega)).trans ((hE6.block _ (lt_of_block hK)).trans hK)
        have hkc : ∀ B, B ≤ W5.heap.size → KeepsC B [] W9 (W9.putObj W5.heap.size (.deferred none)) := fun B h => .putObj h hK9 (fun _ _ _ e => by cases e)
        have hEw : Ext w W9 := Below.grown hEx g2 hEx.size (fun k e => by cases e; exact Nat.le_refl _)
        refine ⟨hK9, RowAt.keepsC g1 (hkc 0 (Nat.zero_le _)) (.inr (by simp)), ownsRow_keepsC (own_grown hown6 g2 (fun g hg e => ?_)) (hkc 0 (Nat.zero_le _)) (by simp), (hkc w.heap.size (by omega)).below hEw (Nat.le_refl _)⟩
        have := (own_block hown6 g hg).1
        cases e
        omega
      cases hd : decide (nbs = xs)
      · rw [hd] at hne
        have Hd := Lib.hid hd
        clear hd
        go_wp2_with fail
        rotate_left
        · rename_i hh
          have hx : nbs = xs := by simpa [strOf, ByteArray.toList_eq] using hh
          have := Hd.out
          simp [hx] at this
        obtain ⟨W9, hW9, hK9, hf, _, hE9⟩ := hfin (.int .u32 0) (.int .u32 0) (.int .u32 0) (.int .i64 0) (.slice none 0 0)
        rw [← hW9]
        refine marks_ret1 hK9 (results_cell_tmp rfl _ _ w.heap.size 83 _ _ _ rfl hf Try.underlying83 rfl size83) ⟨?_, hE9⟩
        unfold ReadPost
        rw [if_neg (by rw [← Hnb.out]; intro h; have := Hd.out; simp [h.2] at this)]
        rfl
      · have hnx : nbs = xs := of_decide_eq_true hd
        rw [hnx] at hcv1
        have Hd := Lib.hid hd
        clear hd hne hnx
        go_wp2_with fail
        obtain ⟨W9, hW9, hK9, hf, ho9, hE9⟩ := hfin (U32 x0) (U32 x1) (U32 x2) (I x3) (.slice rA rn rc)
        rw [← hW9]
        refine marks_ret1 hK9 (results_cell_tmp rfl _ _ w.heap.size 83 _ _ _ rfl hf Try.underlying83 rfl size83) ⟨?_, hE9⟩
        unfold ReadPost
        rw [if_pos ⟨Hm.out, by rw [← Hnb.out]; exact of_decide_eq_true Hd.out⟩]
        refine ⟨.slice rA rn rc, ?_, ?_, ?_⟩
        · rw [Hn.out]
          rfl
        · rw [Hn.out]
          exact recs_sl ho9
        · rw [show countOf (whole xs) = cn by rw [Hcn.out, HX4.out]; rfl]
          obtain ⟨o1, o2⟩ := ho9
          refine ⟨o1, o2.imp id ?_⟩
          rintro ⟨g, cap, cur, e1, hb1, hrest⟩
          exact ⟨g, cap, cur, e1, by omega, hrest⟩
  case hstop =>
    intro c pre W _ h _
    exact h.elim

end Go.Proofs.Ytancfgmaejjooaa
