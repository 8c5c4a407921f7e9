/- Notes: the block of one that may be. -/
import Derived.Test.YtancfgmaejjooaaRows
import Derived.Test.YtancfgmaejjooaaBase
import Derived.Test.YtancfgmaejjooaaPoly
import Derived.Test.YtancfgmaejjooaaNote1
import Derived.Test.YtancfgmaejjooaaNote2
import Derived.Test.YtancfgmaejjooaaPlaces
import Derived.Test.YtancfgmaejjooaaSsa
set_option linter.unusedVariables false
set_option linter.unusedSimpArgs false
namespace Go.Proofs.Ytancfgmaejjooaa
open Go.RowKit
attribute [local go_sem] Oper.semAt_some

theorem bytesIn_take {w : World} {g : Nat} {t : TypeId} {l : List UInt8} (h : BytesIn w g t l) (hl : l.length = 128) : Rep.byte.sl w (.slice (some ⟨g, 0, none⟩) 124 128) (l.take 124) := by
  refine ⟨some ⟨g, 0, none⟩, 128, by simp [hl], by simp [hl], by unfold Cap; omega, .inr ⟨g, 0, rfl, fun j hj => ⟨[B (l.take 124)[j]], rfl, fun t ht => ?_⟩⟩⟩
  simp at ht hj
  subst ht
  have := h.cell j (by omega)
  simpa [Rep.byte] using this

/-- One record's bytes. -/
def recPut (rs : List Rc) (l : List UInt8) (i : Nat) : List UInt8 :=
  let r := rs.getD i ⟨0, false, 0⟩
  putL (putL l (15 + 6 * i) 1 [r.slot.toNat, if r.bare then 1 else 0] 2) (15 + 6 * i + 2) 4 [r.sum] 1
def note1 : List UInt8 := putL zeros 0 1 [78] 1
def note2 (n : NoteD) : List UInt8 := putL note1 1 4 [n.id, n.age, n.seq] 3
def note3 (n : NoteD) : List UInt8 := putL (note2 n) 13 1 [n.stripe.toNat, n.recs.length] 2
def note4 (n : NoteD) : List UInt8 := (List.range n.recs.length).foldl (recPut n.recs) (note3 n)
def noteBytes (n : NoteD) : List UInt8 := putL (note4 n) 124 4 [overB 0 ((note4 n).take 124)] 1

theorem note1_len : note1.length = 128 := by rw [note1, putL_len, zeros_len]
theorem note2_len (n : NoteD) : (note2 n).length = 128 := by rw [note2, putL_len, note1_len]
theorem note3_len (n : NoteD) : (note3 n).length = 128 := by rw [note3, putL_len, note2_len]
theorem recPut_len (rs : List Rc) (l : List UInt8) (i : Nat) : (recPut rs l i).length = l.length := by simp only [recPut, putL_len]
theorem recs_len (rs : List Rc) (is : List Nat) (l : List UInt8) : (is.foldl (recPut rs) l).length = l.length := by
  induction is generalizing l with
  | nil => rfl
  | cons i is ih => rw [List.foldl_cons, ih, recPut_len]
theorem note4_len (n : NoteD) : (note4 n).length = 128 := by rw [note4, recs_len, note3_len]
theorem noteBytes_len (n : NoteD) : (noteBytes n).length = 128 := by rw [noteBytes, putL_len, note4_len]

theorem note_putB (v : Value) (xs : List UInt8) (at_ size : Nat) (b : Nat) (ns : List Nat) (w : World) (cs : Array Value) (hb : w.heap[b]? = some (.cells cs 3 (0, 0))) (hcs : cs = (ns.map fun (n : Nat) => I (n : Int)).toArray)
    (h : Rep.byte.sl w v xs) (hbk : isBlock xs = true) (hlt : ∀ n ∈ ns, n < 256 ^ size) (h1 : 1 ≤ size) (h2 : size ≤ 4) (hn : 1 ≤ ns.length) (h3 : at_ + ns.length * size ≤ 128) :
    Calls Try.prog 140 #[v, I at_, I size, .slice (some ⟨b, 0, none⟩) ns.length ns.length] w fun e w' => ∃ v', e = .returned v' ∧ Made w w' v' (putL (whole xs) at_ size ns ns.length) ∧ Ext w w' :=
  note_put v xs at_ size b ns w h hbk (fun j hj => by rw [cell_of_row _ _ _ _ _ _ hb, hcs]; simp [hj]) hlt h1 h2 hn h3

set_option maxRecDepth 100000 in
set_option maxHeartbeats 400000 in
theorem note_places (many : Nat) (w : World) :
    Calls Try.prog 100 #[I many] w fun e w' => e = .returned (.func (.func 152) #[] #[.pointer (some ⟨w.heap.size, 0, none⟩)]) ∧ w' = w.alloc (.cells #[I many] 3) := by
  go_enter Try.func100, Try.ntmps100
  go_wp2
  go_ret
  exact ⟨rfl, rfl⟩

theorem okTo_head {n : NoteD} {k : Nat} (h : okTo n k = true) : n.head = true := by
  induction k with
  | zero => exact h
  | succ k ih => exact ih (by simp only [okTo, Bool.and_eq_true] at h; exact h.1)

/-- A box written anew, and what else stands. -/
theorem box_set {w0 w : World} {b : Nat} {t : TypeId} {v : Value} (hb : Box w b t v) (h : Ext w0 w) (hw : w0.heap.size ≤ b) (u : Value) : Box (w.setCell ⟨b, 0, none⟩ u) b t u ∧ Ext w0 (w.setCell ⟨b, 0, none⟩ u) :=
  ⟨by unfold Box; rw [heap_setCell_same w b 0 _ t _ hb]; rfl, Ext.setCell h hw u⟩

theorem BytesIn.keepsC {w w' : World} {g : Nat} {t : TypeId} {l : List UInt8} {n0 : Nat} {TS : List TypeId} (h : BytesIn w g t l) (he : KeepsC n0 TS w w') (hc : g < n0 ∨ t ∉ TS) : BytesIn w' g t l :=
  (he.same g h.lt (hc.imp id fun ht => ⟨_, t, _, h, ht⟩)).trans h

/-- What stood below stands. -/
theorem Keeps.below {c0 A C : World} {TS : List TypeId} (h : Keeps c0.heap.size TS A C) (hE : Ext c0 A) : Ext c0 C :=
  ⟨h.os.trans hE.os, h.tape.trans hE.tape, h.output.trans hE.output, Nat.le_trans hE.size h.size, fun k hk => (h.same k (Nat.lt_of_lt_of_le hk hE.size) (.inl hk)).trans (hE.block k hk)⟩

/-- Between two rounds: the block so far stands in its box. -/
def NoteI (c0 : World) (bx lo : Nat) (rs : List Rc) (l : List UInt8) (pre : List Nat) (W : World) : Prop :=
  Ext c0 W ∧ ∃ g, Box W bx 32 (.slice (some ⟨g, 0, none⟩) 128 128) ∧ lo ≤ g ∧ BytesIn W g 210 (pre.foldl (recPut rs) l)

theorem NoteI.holds (c0 : World) (bx lo : Nat) (rs : List Rc) (l : List UInt8) (B : Nat) (hB : c0.heap.size ≤ B) : Holds B [] (NoteI c0 bx lo rs l) := by
  rintro xs A C ⟨h1, g, h2, h3, h4⟩ hk
  exact ⟨hk.below h1 hB, g, h2.keepsC hk (.inr (by simp)), h3, h4.keepsC hk (.inr (by simp))⟩

set_option maxRecDepth 100000 in
set_option maxHeartbeats 4000000 in
theorem note_Write_yes (n : NoteD) (rv : Value) (w : World) (h : Rep.rc.sl w rv n.recs) (hm : n.may = true) (hid : n.id < 4294967296) :
    Calls Try.prog 87 #[n.v rv] w fun e w' => ∃ v', e = .returned (.tuple #[v', I 0]) ∧ Made w w' v' (noteBytes n) ∧ Ext w w' := by
  have he0 : Hid (n.err = 0) := Lib.hid (by unfold NoteD.err; rw [if_pos hm])
  have hhead : n.head = true := okTo_head hm
  obtain ⟨a1, a2, a3, a4, a5, a6, a7, a8⟩ := (head_iff n).1 hhead
  have hs0 := h
  obtain ⟨A, c, rfl, h1, h2, h3⟩ := h
  clear hm hhead
  refine calls_marks Try.func87 rfl ?_
  simp only [Try.ntmps87, List.size_toArray, List.length_cons, List.length_nil, Nat.reduceAdd, Nat.reduceSub, Array.replicate_succ, Array.replicate_zero, List.push_toArray, List.append_toArray, List.nil_append, List.cons_append]
  go_wp2_with fail
  refine (note_Check n _ _ (hs0.ext (Ext.alloc (Ext.refl _) _)) (by unfold Fit; omega)).mono ?_
  rintro e1 w1 ⟨rfl, he1⟩
  obtain ⟨hc1, hf1⟩ := bcell he1
  have hz1 := he1.size
  try simp only [World.size_alloc] at hz1
  rw [he0.out]
  go_wp2_with fail
  refine (note_putB _ [] 0 1 _ [78] _ _ (heap_new _ _ _ rfl) rfl ⟨none, 0, rfl, by simp, by unfold Cap; omega, .inl rfl⟩ rfl (by simp) (by omega) (by omega) (by simp) (by simp)).mono ?_
  rintro e w2 ⟨_, rfl, ⟨g2, rfl, hg2, hB2⟩, he2⟩
  have hcfg : Ext (w.alloc (.cells #[U32 n.id, U32 n.age, U32 n.seq, I n.stripe, .slice A n.recs.length c] 83)) w2 := (by repeat (first | exact Below.refl _ _ | assumption | refine Ext.alloc ?_ _ | refine Ext.drew ?_ | refine Ext.trans ?_ (by assumption)))
  obtain ⟨hcA, _⟩ := bcell hcfg
  have hz2 := hcfg.size
  simp only [World.size_alloc] at hz2
  have hz20 : w.heap.size < w2.heap.size := by omega
  obtain ⟨c0, hc0⟩ : ∃ c0, c0 = w.alloc (.cells #[U32 n.id, U32 n.age, U32 n.seq, I n.stripe, .slice A n.recs.length c] 83) := ⟨_, rfl⟩
  rw [← hc0] at hcfg
  have hcz : c0.heap.size = w.heap.size + 1 := by rw [hc0]; simp
  have hcw : Ext w c0 := by rw [hc0]; exact Ext.alloc (Ext.refl _) _
  have hcc : ∀ j, c0.cell? ⟨w.heap.size, j, none⟩ = #[U32 n.id, U32 n.age, U32 n.seq, I n.stripe, .slice A n.recs.length c][j]? := by intro j; rw [hc0]; simp
  have Hcc := Lib.hid hcc
  have Hc0 := Lib.hid hc0
  clear hcc hc0
  -- the array's numbers
  go_wp2_with fail
  refine (note_putB _ note1 1 4 _ [n.id, n.age, n.seq] _ _ (heap_new _ _ _ (by simp)) rfl (bytesIn_sl (hB2.ext (Ext.alloc (Ext.alloc (Ext.refl _) _) _)) note1_len) (block_full note1_len) (by simp; omega) (by omega) (by omega) (by simp) (by simp)).mono ?_
  rintro e w3 ⟨_, rfl, ⟨g3, rfl, hg3, hB3⟩, he3⟩
  have hbox3 : Box w3 w2.heap.size 32 (.slice (some ⟨g2, 0, none⟩) 128 128) := (((Box.new w2 32 _ _ rfl).ext (Ext.alloc (Ext.refl _) _))).ext he3
  have hcf3 : Ext c0 w3 := (by repeat (first | exact Below.refl _ _ | assumption | refine Ext.alloc ?_ _ | refine Ext.drew ?_ | refine Ext.trans ?_ (by assumption)))
  obtain ⟨hb, hE⟩ := box_set hbox3 hcf3 hcfg.size (.slice (some ⟨g3, 0, none⟩) 128 128)
  have hB := hB3.other (p := ⟨w2.heap.size, 0, none⟩) (by simp at hg3 ⊢; omega) (.slice (some ⟨g3, 0, none⟩) 128 128)
  have hc3 := hbox3.cell
  have hf3 := hbox3.free
  go_upto_region 6 with fail
  generalize w3.setCell ⟨w2.heap.size, 0, none⟩ (.slice (some ⟨g3, 0, none⟩) 128 128) = W3 at hb hE hB ⊢
  obtain ⟨bx, hbx⟩ : ∃ bx, bx = w2.heap.size := ⟨_, rfl⟩
  rw [← hbx] at hb ⊢
  have hbx1 : w.heap.size + 1 ≤ bx := by omega
  have hz3 : w.heap.size + 1 ≤ W3.heap.size := by have := hE.size; omega
  have hz30 : bx < W3.heap.size := hb.lt
  have hz31 : w.heap.size < W3.heap.size := by omega
  have hg3' : w.heap.size ≤ g3 := by simp at hg3; omega
  clear hc3 hf3 hbox3 hcf3 hB3 hg3 he3 hbx hz20 hz2 hcA hcfg hB2 hg2 he2 hc1 hf1 hz1 he1
  obtain ⟨st, hst⟩ : ∃ st : Nat, n.stripe = (st : Int) := ⟨n.stripe.toNat, by omega⟩
  have hst64 : st < 64 := by omega
  have Hst := Lib.hid hst
  have k3 : W3.cell? ⟨w.heap.size, 3, none⟩ = some (I (st : Int)) := by rw [← hst]; exact hE.cells (Hcc.out 3)
  clear hst
  have k4 : W3.cell? ⟨w.heap.size, 4, none⟩ = some (.slice A n.recs.length c) := hE.cells (Hcc.out 4)
  have k0 := hb.cell
  go_wp2_with fail
  refine (note_putB _ (note2 n) 13 1 _ [st, n.recs.length] _ _ (heap_new _ _ _ rfl) rfl (bytesIn_sl (hB.ext (Ext.alloc (Ext.refl _) _)) (note2_len n)) (block_full (note2_len n)) (by simp; omega) (by omega) (by omega) (by simp) (by simp)).mono ?_
  rintro e w4 ⟨_, rfl, ⟨g4, rfl, hg4, hB4⟩, he4⟩
  have hbox4 := (hb.ext (Ext.alloc (Ext.refl _) _)).ext he4
  have hcf4 : Ext c0 w4 := (by repeat (first | exact Below.refl _ _ | assumption | refine Ext.alloc ?_ _ | refine Ext.drew ?_ | refine Ext.trans ?_ (by assumption)))
  have hc4 := hbox4.cell
  have hf4 := hbox4.free
  obtain ⟨hb4, hE4⟩ := box_set hbox4 hcf4 (by omega) (.slice (some ⟨g4, 0, none⟩) 128 128)
  have hB4' := hB4.other (p := ⟨bx, 0, none⟩) (by simp at hg4 ⊢; omega) (.slice (some ⟨g4, 0, none⟩) 128 128)
  go_upto_region 7 with fail
  generalize w4.setCell ⟨bx, 0, none⟩ (.slice (some ⟨g4, 0, none⟩) 128 128) = W4 at hb4 hE4 hB4' ⊢
  have hg4' : w.heap.size ≤ g4 := by simp at hg4; omega
  have hz4 : bx < W4.heap.size := hb4.lt
  have hz41 : w.heap.size < W4.heap.size := by omega
  have hcz4 := hE4.size
  clear hc4 hf4 hbox4 hcf4 hB4 hg4 he4 k0 k3 k4 hb hE hB hz3 hz30 hz31
  have k4 : W4.cell? ⟨w.heap.size, 4, none⟩ = some (.slice A n.recs.length c) := hE4.cells (Hcc.out 4)
  go_wp2_with (go_at_call 100; refine (note_places _ _).mono ?_; rintro e w' ⟨rfl, rfl⟩)
  apply wp_range (places_iter W4.heap.size n.recs.length c0.heap.size [32] _ (by omega) (Box.new _ _ _ _ rfl) (.inr (by simp))) (by simp; omega) rfl (enters_of Try.func152 (by kernel_rfl) rfl) (fun _ => rfl)
    (fun _ _ _ _ h _ => h) (NoteI c0 bx w.heap.size n.recs (note3 n)) (fun _ _ _ => False) (NoteI.holds _ _ _ _ _ _ (by simp; omega)) (fun _ _ _ _ h _ => h)
    ⟨hE4.alloc _, g4, hb4.ext (Ext.alloc (Ext.refl _) _), hg4', by
      have e : putL (whole (note2 n)) 13 1 [st, n.recs.length] [st, n.recs.length].length = note3 n := by rw [whole_full (note2_len n)]; unfold note3; rw [Hst.out]; rfl
      rw [e] at hB4'
      exact hB4'.ext (Ext.alloc (Ext.refl _) _)⟩
  case hassign =>
    intro l x W K hK
    gi_wp2
    exact hK
  case hbody =>
    rintro l pre x W ⟨hEW, g, hbW, hg, hBW⟩ ⟨hx, hxl⟩
    have m4 : W.cell? ⟨w.heap.size, 4, none⟩ = some (.slice A n.recs.length c) := hEW.cells (Hcc.out 4)
    obtain ⟨b, off, rfl, hc⟩ := rc_at (h3.ext (Ext.trans hcw hEW)) (by omega)
    obtain ⟨r0, r1, r2, hsum⟩ := hc x hxl
    obtain ⟨r, hr⟩ : ∃ r, r = n.recs[x] := ⟨_, rfl⟩
    rw [← hr] at r0 r1 r2 hsum
    have Hr := Lib.hid hr
    have Hx := Lib.hid hx
    have hxl2 := r.slot.toNat_lt
    have k0 := hbW.cell
    have kf := hbW.free
    have hzW : bx < W.heap.size := hbW.lt
    have hzW1 : w.heap.size < W.heap.size := by omega
    clear hc hr hx
    cases hbare : r.bare
    · rw [hbare] at r1
      have Hbare := Lib.hid hbare
      clear hbare
      gi_wp2
      have hsumw : IntKind.i64.wrap (r.sum : Int) = (r.sum : Int) := IntWalk.i64_in _ (by omega)
      have hadd : IntKind.i64.wrap (15 + 6 * (x : Int) + 2) = 15 + 6 * (x : Int) + 2 := IntWalk.i64_in _ (by omega)
      have hslot : IntKind.i64.wrap (r.slot.toNat : Int) = (r.slot.toNat : Int) := IntWalk.i64_in _ (by omega)
      obtain ⟨rb, hrb⟩ : ∃ rb, rb = W.heap.size := ⟨_, rfl⟩
      rw [← hrb]
      have hrcell : ∀ j, (W.alloc (Obj.cells #[B r.slot, Value.bool false, U32 r.sum] 121)).cell? ⟨rb, j, none⟩ = #[B r.slot, Value.bool false, U32 r.sum][j]? := by intro j; rw [hrb]; simp
      have hbW5 := hbW.ext (Ext.alloc (Ext.refl W) (Obj.cells #[B r.slot, Value.bool false, U32 r.sum] 121))
      have hBW5 := hBW.ext (Ext.alloc (Ext.refl W) (Obj.cells #[B r.slot, Value.bool false, U32 r.sum] 121))
      have hEW5 := hEW.alloc (Obj.cells #[B r.slot, Value.bool false, U32 r.sum] 121)
      have hWW5 := Ext.alloc (Ext.refl W) (Obj.cells #[B r.slot, Value.bool false, U32 r.sum] 121)
      generalize W.alloc (Obj.cells #[B r.slot, Value.bool false, U32 r.sum] 121) = W5 at hrcell hbW5 hBW5 hEW5 hWW5 ⊢
      have hboxStay : ∀ w', Ext W5 w' → Box w' bx 32 (.slice (some ⟨g, 0, none⟩) 128 128) := fun w' h => hbW5.ext h
      have hcbx : c0.heap.size ≤ bx := by omega
      have hzc5 := hEW5.size
      have hrStay : ∀ w', Ext W5 w' → ∀ j v, #[B r.slot, Value.bool false, U32 r.sum][j]? = some v → w'.cell? ⟨rb, j, none⟩ = some v := fun w' h j v hv => h.cells (by rw [hrcell]; exact hv)
      have hB5Stay : ∀ w', Ext W5 w' → Rep.byte.sl w' (.slice (some ⟨g, 0, none⟩) 128 128) (pre.foldl (recPut n.recs) (note3 n)) := fun w' h => bytesIn_sl (hBW5.ext h) (by rw [recs_len, note3_len])
      have hl := recs_len n.recs pre (note3 n)
      rw [note3_len] at hl
      obtain ⟨l0, hl0⟩ : ∃ l0, l0 = pre.foldl (recPut n.recs) (note3 n) := ⟨_, rfl⟩
      rw [← hl0] at hl hBW5 hB5Stay
      have Hl0 := Lib.hid hl0
      clear hl0
      obtain ⟨l1, hl1⟩ : ∃ l1, l1 = putL l0 (15 + 6 * x) 1 [r.slot.toNat, 0] 2 := ⟨_, rfl⟩
      have hll1 : l1.length = 128 := by rw [hl1, putL_len, hl]
      obtain ⟨l2, hl2⟩ : ∃ l2, l2 = putL l1 (15 + 6 * x + 2) 4 [r.sum] 1 := ⟨_, rfl⟩
      refine wpIn_ssa_round (by kernel_rfl) rfl (fun A C => Ext A C) (fun A C => Keeps c0.heap.size [32] A C) (fun i ds v w => match i with
        | 0 => v = .slice (some ⟨g, 0, none⟩) 128 128
        | 1 => v = I (15 + 6 * (x : Int))
        | 2 => v = .pointer (some ⟨rb, 0, none⟩)
        | 3 => v = B r.slot
        | 4 => v = I (r.slot.toNat : Int)
        | 5 => v = I 0
        | 6 => ∃ b, v = .slice (some ⟨b, 0, none⟩) 2 2 ∧ RowAt w b #[I (r.slot.toNat : Int), I 0] 3
        | 7 => ∃ g', v = .slice (some ⟨g', 0, none⟩) 128 128 ∧ BytesIn w g' 210 l1
        | 8 => v = I (15 + 6 * (x : Int))
        | 9 => v = I (15 + 6 * (x : Int) + 2)
        | 10 => v = .pointer (some ⟨rb, 2, none⟩)
        | 11 => v = U32 r.sum
        | 12 => v = I (r.sum : Int)
        | 13 => ∃ b, v = .slice (some ⟨b, 0, none⟩) 1 1 ∧ RowAt w b #[I (r.sum : Int)] 3
        | 14 => ∃ g', v = .slice (some ⟨g', 0, none⟩) 128 128 ∧ c0.heap.size ≤ g' ∧ BytesIn w g' 210 l2
        | _ => ∃ g', ds 14 = .slice (some ⟨g', 0, none⟩) 128 128 ∧ c0.heap.size ≤ g' ∧ BytesIn w g' 210 l2 ∧ Box w bx 32 (.slice (some ⟨g', 0, none⟩) 128 128)) (fun _ _ _ h k => Ext.trans h k) ?hst (Ext.drew (Ext.refl _)) ?hop ?hsink ?fin
      case hst =>
        refine allAt ?_
        refine ⟨fun _ _ _ _ _ _ h => h, fun _ _ _ _ _ _ h => h, fun _ _ _ _ _ _ h => h, fun _ _ _ _ _ _ h => h, fun _ _ _ _ _ _ h => h, fun _ _ _ _ _ _ h => h, ?_, ?_, fun _ _ _ _ _ _ h => h, fun _ _ _ _ _ _ h => h, fun _ _ _ _ _ _ h => h, fun _ _ _ _ _ _ h => h, fun _ _ _ _ _ _ h => h, ?_, ?_, ?_, trivial⟩
        · rintro _ _ _ _ _ k0 ⟨b, h1, h2⟩
          have k := k0.elim (Keeps.of_ext (n0 := c0.heap.size) (TS := [32])) id
          exact ⟨b, h1, h2.keeps k (.inr (by simp))⟩
        · rintro _ _ _ _ _ k0 ⟨b, h1, h2⟩
          have k := k0.elim (Keeps.of_ext (n0 := c0.heap.size) (TS := [32])) id
          exact ⟨b, h1, h2.keepsC (.of_keeps k) (.inr (by simp))⟩
        · rintro _ _ _ _ _ k0 ⟨b, h1, h2⟩
          have k := k0.elim (Keeps.of_ext (n0 := c0.heap.size) (TS := [32])) id
          exact ⟨b, h1, h2.keeps k (.inr (by simp))⟩
        · rintro _ _ _ _ _ k0 ⟨b, h1, h3, h2⟩
          have k := k0.elim (Keeps.of_ext (n0 := c0.heap.size) (TS := [32])) id
          exact ⟨b, h1, h3, h2.keepsC (.of_keeps k) (.inr (by simp))⟩
        · intro _ _ _ _ hs
          exact absurd hs (by decide)
      case hop =>
        refine allAt ⟨?_, ?_, ?_, ?_, ?_, ?_, ?_, ?_, ?_, ?_, ?_, ?_, ?_, ?_, ?_, ?_, trivial⟩
        · intro _ vs w' hR hd
          have kc := (hboxStay _ hR).cell
          refine plain_op rfl ?_
          unfold runOp
          simp [go_sem, look, writer, List.findIdx?, List.findIdx?.go, depsOf, Region.binds, kc]
          exact Ext.refl _
        · intro _ vs w' hR hd
          refine plain_op rfl ?_
          unfold runOp
          simp [go_sem, look, writer, List.findIdx?, List.findIdx?.go, depsOf, Region.binds]
          exact Ext.refl _
        · intro _ vs w' hR hd
          refine plain_op rfl ?_
          unfold runOp
          simp [go_sem, look, writer, List.findIdx?, List.findIdx?.go, depsOf, Region.binds]
          exact Ext.refl _
        · intro _ vs w' hR hd
          have h2 : vs 2 = .pointer (some ⟨rb, 0, none⟩) := hd 2 _ rfl (by decide)
          have kr := hrStay _ hR 0 _ rfl
          refine plain_op rfl ?_
          unfold runOp
          simp [go_sem, look, writer, List.findIdx?, List.findIdx?.go, depsOf, Region.binds, h2, kr]
          exact Ext.refl _
        · intro _ vs w' hR hd
          have h3 : vs 3 = B r.slot := hd 3 _ rfl (by decide)
          refine plain_op rfl ?_
          unfold runOp
          simp [go_sem, look, writer, List.findIdx?, List.findIdx?.go, depsOf, Region.binds, h3, hslot]
          exact Ext.refl _
        · intro _ vs w' hR hd
          refine plain_op rfl ?_
          unfold runOp
          simp [go_sem, look, writer, List.findIdx?, List.findIdx?.go, depsOf, Region.binds]
          exact Ext.refl _
        · intro _ vs w' hR hd
          have h4 : vs 4 = I (r.slot.toNat : Int) := hd 4 _ rfl (by decide)
          have h5 : vs 5 = I 0 := hd 5 _ rfl (by decide)
          refine plain_op rfl ?_
          unfold runOp
          simp [go_sem, look, writer, List.findIdx?, List.findIdx?.go, depsOf, Region.binds, h4, h5]
          exact ⟨(Ext.refl _).alloc _, RowAt.new _ _ _⟩
        · intro _ vs w' hR hd
          have h0 : vs 0 = .slice (some ⟨g, 0, none⟩) 128 128 := hd 0 _ rfl (by decide)
          have h1 : vs 1 = I (15 + 6 * (x : Int)) := hd 1 _ rfl (by decide)
          obtain ⟨b, h6, hb6⟩ : ∃ b, vs 6 = .slice (some ⟨b, 0, none⟩) 2 2 ∧ RowAt w' b #[I (r.slot.toNat : Int), I 0] 3 := hd 6 _ rfl (by decide)
          refine plain_op rfl ?_
          unfold runOp
          simp [go_sem, look, writer, List.findIdx?, List.findIdx?.go, depsOf, Region.binds, h0, h1, h6]
          refine (note_putB _ l0 (15 + 6 * x) 1 b [r.slot.toNat, 0] _ _ hb6 rfl (hB5Stay _ hR) (block_full hl) (by simp; omega) (by omega) (by omega) (by simp) (by simp; omega)).mono ?_
          rintro e w'' ⟨v', rfl, ⟨g', rfl, hg', hB'⟩, he'⟩
          rw [whole_full hl] at hB'
          exact ⟨_, rfl, he', g', rfl, by rw [hl1]; exact hB'⟩
        · intro _ vs w' hR hd
          refine plain_op rfl ?_
          unfold runOp
          simp [go_sem, look, writer, List.findIdx?, List.findIdx?.go, depsOf, Region.binds]
          exact Ext.refl _
        · intro _ vs w' hR hd
          have h8 : vs 8 = I (15 + 6 * (x : Int)) := hd 8 _ rfl (by decide)
          refine plain_op rfl ?_
          unfold runOp
          simp [go_sem, look, writer, List.findIdx?, List.findIdx?.go, depsOf, Region.binds, h8, hadd]
          exact Ext.refl _
        · intro _ vs w' hR hd
          refine plain_op rfl ?_
          unfold runOp
          simp [go_sem, look, writer, List.findIdx?, List.findIdx?.go, depsOf, Region.binds]
          exact Ext.refl _
        · intro _ vs w' hR hd
          have h10 : vs 10 = .pointer (some ⟨rb, 2, none⟩) := hd 10 _ rfl (by decide)
          have kr := hrStay _ hR 2 _ rfl
          refine plain_op rfl ?_
          unfold runOp
          simp [go_sem, look, writer, List.findIdx?, List.findIdx?.go, depsOf, Region.binds, h10, kr]
          exact Ext.refl _
        · intro _ vs w' hR hd
          have h11 : vs 11 = U32 r.sum := hd 11 _ rfl (by decide)
          refine plain_op rfl ?_
          unfold runOp
          simp [go_sem, look, writer, List.findIdx?, List.findIdx?.go, depsOf, Region.binds, h11, hsumw]
          exact Ext.refl _
        · intro _ vs w' hR hd
          have h12 : vs 12 = I (r.sum : Int) := hd 12 _ rfl (by decide)
          refine plain_op rfl ?_
          unfold runOp
          simp [go_sem, look, writer, List.findIdx?, List.findIdx?.go, depsOf, Region.binds, h12]
          exact ⟨(Ext.refl _).alloc _, RowAt.new _ _ _⟩
        · intro _ vs w' hR hd
          obtain ⟨g7, h7, hB7⟩ : ∃ g', vs 7 = .slice (some ⟨g', 0, none⟩) 128 128 ∧ BytesIn w' g' 210 l1 := hd 7 _ rfl (by decide)
          have h9 : vs 9 = I (15 + 6 * (x : Int) + 2) := hd 9 _ rfl (by decide)
          obtain ⟨b, h13, hb13⟩ : ∃ b, vs 13 = .slice (some ⟨b, 0, none⟩) 1 1 ∧ RowAt w' b #[I (r.sum : Int)] 3 := hd 13 _ rfl (by decide)
          refine plain_op rfl ?_
          unfold runOp
          simp [go_sem, look, writer, List.findIdx?, List.findIdx?.go, depsOf, Region.binds, h7, h9, h13]
          refine (note_putB _ l1 (15 + 6 * x + 2) 4 b [r.sum] _ _ hb13 rfl (bytesIn_sl hB7 hll1) (block_full hll1) (by simp; omega) (by omega) (by omega) (by simp) (by simp; omega)).mono ?_
          rintro e w'' ⟨v', rfl, ⟨g', rfl, hg', hB'⟩, he'⟩
          rw [whole_full hll1] at hB'
          have hz := hR.size
          exact ⟨_, rfl, he', g', rfl, by omega, by rw [hl2]; exact hB'⟩
        · intro hs
          exact absurd hs (by decide)
      case hsink =>
        refine allAt ⟨fun hs => absurd hs (by decide), fun hs => absurd hs (by decide), fun hs => absurd hs (by decide), fun hs => absurd hs (by decide), fun hs => absurd hs (by decide), fun hs => absurd hs (by decide), fun hs => absurd hs (by decide), fun hs => absurd hs (by decide), fun hs => absurd hs (by decide), fun hs => absurd hs (by decide), fun hs => absurd hs (by decide), fun hs => absurd hs (by decide), fun hs => absurd hs (by decide), fun hs => absurd hs (by decide), fun hs => absurd hs (by decide), ?_, trivial⟩
        · intro _ vs w' hR hd
          obtain ⟨g14, h14, hg14, hB14⟩ : ∃ g', vs 14 = .slice (some ⟨g', 0, none⟩) 128 128 ∧ c0.heap.size ≤ g' ∧ BytesIn w' g' 210 l2 := hd 14 _ rfl (by decide)
          have kc := hboxStay _ hR
          refine plain_op rfl ?_
          unfold runOp
          simp [go_sem, look, writer, List.findIdx?, List.findIdx?.go, depsOf, Region.binds, h14, kc.cell, kc.free]
          exact ⟨.of_setCell hcbx kc (by simp) _, g14, h14, hg14, hB14.other (fun e => by simp at e; subst e; have h1 := hB14; unfold BytesIn at h1; rw [kc] at h1; simp at h1) _, (box_set kc (Ext.trans hEW5 hR) hcbx _).1⟩
      case fin =>
        intro vs w' A _ _ hA hR hfacts
        subst hA
        obtain ⟨g', _, hg', hB', hbox'⟩ : ∃ g', _ = Value.slice (some ⟨g', 0, none⟩) 128 128 ∧ c0.heap.size ≤ g' ∧ BytesIn w' g' 210 l2 ∧ Box w' bx 32 (.slice (some ⟨g', 0, none⟩) 128 128) := hfacts 15 _ rfl
        have hK5 : Keeps c0.heap.size [32] W5 w' := by
          rcases hR with h | ⟨w1, h1, h2⟩
          · exact .of_ext h
          · exact (Keeps.of_ext h1).trans h2
        gi_wp2
        have hfold : (pre ++ [x]).foldl (recPut n.recs) (note3 n) = l2 := by
          rw [List.foldl_append, ← Hl0.out, hl2, hl1]
          have hg : n.recs.getD x ⟨0, false, 0⟩ = r := by rw [Hr.out]; simp [List.getD_eq_getElem?_getD, hxl]
          simp only [List.foldl_cons, List.foldl_nil, recPut, hg, Hbare.out]
          rfl
        refine ⟨by first | exact (Keeps.of_ext hWW5).trans hK5 | (rw [← hcz]; exact (Keeps.of_ext hWW5).trans hK5), hK5.below hEW5, g', hbox', by have := hcw.size; omega, by rw [hfold]; exact hB'⟩
    · rw [hbare] at r1
      have Hbare := Lib.hid hbare
      clear hbare
      gi_wp2
      have hsumw : IntKind.i64.wrap (r.sum : Int) = (r.sum : Int) := IntWalk.i64_in _ (by omega)
      have hadd : IntKind.i64.wrap (15 + 6 * (x : Int) + 2) = 15 + 6 * (x : Int) + 2 := IntWalk.i64_in _ (by omega)
      have hslot : IntKind.i64.wrap (r.slot.toNat : Int) = (r.slot.toNat : Int) := IntWalk.i64_in _ (by omega)
      obtain ⟨rb, hrb⟩ : ∃ rb, rb = W.heap.size := ⟨_, rfl⟩
      rw [← hrb]
      have hrcell : ∀ j, (W.alloc (Obj.cells #[B r.slot, Value.bool true, U32 r.sum] 121)).cell? ⟨rb, j, none⟩ = #[B r.slot, Value.bool true, U32 r.sum][j]? := by intro j; rw [hrb]; simp
      have hbW5 := hbW.ext (Ext.alloc (Ext.refl W) (Obj.cells #[B r.slot, Value.bool true, U32 r.sum] 121))
      have hBW5 := hBW.ext (Ext.alloc (Ext.refl W) (Obj.cells #[B r.slot, Value.bool true, U32 r.sum] 121))
      have hEW5 := hEW.alloc (Obj.cells #[B r.slot, Value.bool true, U32 r.sum] 121)
      have hWW5 := Ext.alloc (Ext.refl W) (Obj.cells #[B r.slot, Value.bool true, U32 r.sum] 121)
      generalize W.alloc (Obj.cells #[B r.slot, Value.bool true, U32 r.sum] 121) = W5 at hrcell hbW5 hBW5 hEW5 hWW5 ⊢
      have hboxStay : ∀ w', Ext W5 w' → Box w' bx 32 (.slice (some ⟨g, 0, none⟩) 128 128) := fun w' h => hbW5.ext h
      have hcbx : c0.heap.size ≤ bx := by omega
      have hzc5 := hEW5.size
      have hrStay : ∀ w', Ext W5 w' → ∀ j v, #[B r.slot, Value.bool true, U32 r.sum][j]? = some v → w'.cell? ⟨rb, j, none⟩ = some v := fun w' h j v hv => h.cells (by rw [hrcell]; exact hv)
      have hB5Stay : ∀ w', Ext W5 w' → Rep.byte.sl w' (.slice (some ⟨g, 0, none⟩) 128 128) (pre.foldl (recPut n.recs) (note3 n)) := fun w' h => bytesIn_sl (hBW5.ext h) (by rw [recs_len, note3_len])
      have hl := recs_len n.recs pre (note3 n)
      rw [note3_len] at hl
      obtain ⟨l0, hl0⟩ : ∃ l0, l0 = pre.foldl (recPut n.recs) (note3 n) := ⟨_, rfl⟩
      rw [← hl0] at hl hBW5 hB5Stay
      have Hl0 := Lib.hid hl0
      clear hl0
      obtain ⟨l1, hl1⟩ : ∃ l1, l1 = putL l0 (15 + 6 * x) 1 [r.slot.toNat, 1] 2 := ⟨_, rfl⟩
      have hll1 : l1.length = 128 := by rw [hl1, putL_len, hl]
      obtain ⟨l2, hl2⟩ : ∃ l2, l2 = putL l1 (15 + 6 * x + 2) 4 [r.sum] 1 := ⟨_, rfl⟩
      refine wpIn_ssa_round (by kernel_rfl) rfl (fun A C => Ext A C) (fun A C => Keeps c0.heap.size [32] A C) (fun i ds v w => match i with
        | 0 => v = .slice (some ⟨g, 0, none⟩) 128 128
        | 1 => v = I (15 + 6 * (x : Int))
        | 2 => v = .pointer (some ⟨rb, 0, none⟩)
        | 3 => v = B r.slot
        | 4 => v = I (r.slot.toNat : Int)
        | 5 => v = I 1
        | 6 => ∃ b, v = .slice (some ⟨b, 0, none⟩) 2 2 ∧ RowAt w b #[I (r.slot.toNat : Int), I 1] 3
        | 7 => ∃ g', v = .slice (some ⟨g', 0, none⟩) 128 128 ∧ BytesIn w g' 210 l1
        | 8 => v = I (15 + 6 * (x : Int))
        | 9 => v = I (15 + 6 * (x : Int) + 2)
        | 10 => v = .pointer (some ⟨rb, 2, none⟩)
        | 11 => v = U32 r.sum
        | 12 => v = I (r.sum : Int)
        | 13 => ∃ b, v = .slice (some ⟨b, 0, none⟩) 1 1 ∧ RowAt w b #[I (r.sum : Int)] 3
        | 14 => ∃ g', v = .slice (some ⟨g', 0, none⟩) 128 128 ∧ c0.heap.size ≤ g' ∧ BytesIn w g' 210 l2
        | _ => ∃ g', ds 14 = .slice (some ⟨g', 0, none⟩) 128 128 ∧ c0.heap.size ≤ g' ∧ BytesIn w g' 210 l2 ∧ Box w bx 32 (.slice (some ⟨g', 0, none⟩) 128 128)) (fun _ _ _ h k => Ext.trans h k) ?hst (Ext.drew (Ext.refl _)) ?hop ?hsink ?fin
      case hst =>
        refine allAt ?_
        refine ⟨fun _ _ _ _ _ _ h => h, fun _ _ _ _ _ _ h => h, fun _ _ _ _ _ _ h => h, fun _ _ _ _ _ _ h => h, fun _ _ _ _ _ _ h => h, fun _ _ _ _ _ _ h => h, ?_, ?_, fun _ _ _ _ _ _ h => h, fun _ _ _ _ _ _ h => h, fun _ _ _ _ _ _ h => h, fun _ _ _ _ _ _ h => h, fun _ _ _ _ _ _ h => h, ?_, ?_, ?_, trivial⟩
        · rintro _ _ _ _ _ k0 ⟨b, h1, h2⟩
          have k := k0.elim (Keeps.of_ext (n0 := c0.heap.size) (TS := [32])) id
          exact ⟨b, h1, h2.keeps k (.inr (by simp))⟩
        · rintro _ _ _ _ _ k0 ⟨b, h1, h2⟩
          have k := k0.elim (Keeps.of_ext (n0 := c0.heap.size) (TS := [32])) id
          exact ⟨b, h1, h2.keepsC (.of_keeps k) (.inr (by simp))⟩
        · rintro _ _ _ _ _ k0 ⟨b, h1, h2⟩
          have k := k0.elim (Keeps.of_ext (n0 := c0.heap.size) (TS := [32])) id
          exact ⟨b, h1, h2.keeps k (.inr (by simp))⟩
        · rintro _ _ _ _ _ k0 ⟨b, h1, h3, h2⟩
          have k := k0.elim (Keeps.of_ext (n0 := c0.heap.size) (TS := [32])) id
          exact ⟨b, h1, h3, h2.keepsC (.of_keeps k) (.inr (by simp))⟩
        · intro _ _ _ _ hs
          exact absurd hs (by decide)
      case hop =>
        refine allAt ⟨?_, ?_, ?_, ?_, ?_, ?_, ?_, ?_, ?_, ?_, ?_, ?_, ?_, ?_, ?_, ?_, trivial⟩
        · intro _ vs w' hR hd
          have kc := (hboxStay _ hR).cell
          refine plain_op rfl ?_
          unfold runOp
          simp [go_sem, look, writer, List.findIdx?, List.findIdx?.go, depsOf, Region.binds, kc]
          exact Ext.refl _
        · intro _ vs w' hR hd
          refine plain_op rfl ?_
          unfold runOp
          simp [go_sem, look, writer, List.findIdx?, List.findIdx?.go, depsOf, Region.binds]
          exact Ext.refl _
        · intro _ vs w' hR hd
          refine plain_op rfl ?_
          unfold runOp
          simp [go_sem, look, writer, List.findIdx?, List.findIdx?.go, depsOf, Region.binds]
          exact Ext.refl _
        · intro _ vs w' hR hd
          have h2 : vs 2 = .pointer (some ⟨rb, 0, none⟩) := hd 2 _ rfl (by decide)
          have kr := hrStay _ hR 0 _ rfl
          refine plain_op rfl ?_
          unfold runOp
          simp [go_sem, look, writer, List.findIdx?, List.findIdx?.go, depsOf, Region.binds, h2, kr]
          exact Ext.refl _
        · intro _ vs w' hR hd
          have h3 : vs 3 = B r.slot := hd 3 _ rfl (by decide)
          refine plain_op rfl ?_
          unfold runOp
          simp [go_sem, look, writer, List.findIdx?, List.findIdx?.go, depsOf, Region.binds, h3, hslot]
          exact Ext.refl _
        · intro _ vs w' hR hd
          refine plain_op rfl ?_
          unfold runOp
          simp [go_sem, look, writer, List.findIdx?, List.findIdx?.go, depsOf, Region.binds]
          exact Ext.refl _
        · intro _ vs w' hR hd
          have h4 : vs 4 = I (r.slot.toNat : Int) := hd 4 _ rfl (by decide)
          have h5 : vs 5 = I 1 := hd 5 _ rfl (by decide)
          refine plain_op rfl ?_
          unfold runOp
          simp [go_sem, look, writer, List.findIdx?, List.findIdx?.go, depsOf, Region.binds, h4, h5]
          exact ⟨(Ext.refl _).alloc _, RowAt.new _ _ _⟩
        · intro _ vs w' hR hd
          have h0 : vs 0 = .slice (some ⟨g, 0, none⟩) 128 128 := hd 0 _ rfl (by decide)
          have h1 : vs 1 = I (15 + 6 * (x : Int)) := hd 1 _ rfl (by decide)
          obtain ⟨b, h6, hb6⟩ : ∃ b, vs 6 = .slice (some ⟨b, 0, none⟩) 2 2 ∧ RowAt w' b #[I (r.slot.toNat : Int), I 1] 3 := hd 6 _ rfl (by decide)
          refine plain_op rfl ?_
          unfold runOp
          simp [go_sem, look, writer, List.findIdx?, List.findIdx?.go, depsOf, Region.binds, h0, h1, h6]
          refine (note_putB _ l0 (15 + 6 * x) 1 b [r.slot.toNat, 1] _ _ hb6 rfl (hB5Stay _ hR) (block_full hl) (by simp; omega) (by omega) (by omega) (by simp) (by simp; omega)).mono ?_
          rintro e w'' ⟨v', rfl, ⟨g', rfl, hg', hB'⟩, he'⟩
          rw [whole_full hl] at hB'
          exact ⟨_, rfl, he', g', rfl, by rw [hl1]; exact hB'⟩
        · intro _ vs w' hR hd
          refine plain_op rfl ?_
          unfold runOp
          simp [go_sem, look, writer, List.findIdx?, List.findIdx?.go, depsOf, Region.binds]
          exact Ext.refl _
        · intro _ vs w' hR hd
          have h8 : vs 8 = I (15 + 6 * (x : Int)) := hd 8 _ rfl (by decide)
          refine plain_op rfl ?_
          unfold runOp
          simp [go_sem, look, writer, List.findIdx?, List.findIdx?.go, depsOf, Region.binds, h8, hadd]
          exact Ext.refl _
        · intro _ vs w' hR hd
          refine plain_op rfl ?_
          unfold runOp
          simp [go_sem, look, writer, List.findIdx?, List.findIdx?.go, depsOf, Region.binds]
          exact Ext.refl _
        · intro _ vs w' hR hd
          have h10 : vs 10 = .pointer (some ⟨rb, 2, none⟩) := hd 10 _ rfl (by decide)
          have kr := hrStay _ hR 2 _ rfl
          refine plain_op rfl ?_
          unfold runOp
          simp [go_sem, look, writer, List.findIdx?, List.findIdx?.go, depsOf, Region.binds, h10, kr]
          exact Ext.refl _
        · intro _ vs w' hR hd
          have h11 : vs 11 = U32 r.sum := hd 11 _ rfl (by decide)
          refine plain_op rfl ?_
          unfold runOp
          simp [go_sem, look, writer, List.findIdx?, List.findIdx?.go, depsOf, Region.binds, h11, hsumw]
          exact Ext.refl _
        · intro _ vs w' hR hd
          have h12 : vs 12 = I (r.sum : Int) := hd 12 _ rfl (by decide)
          refine plain_op rfl ?_
          unfold runOp
          simp [go_sem, look, writer, List.findIdx?, List.findIdx?.go, depsOf, Region.binds, h12]
          exact ⟨(Ext.refl _).alloc _, RowAt.new _ _ _⟩
        · intro _ vs w' hR hd
          obtain ⟨g7, h7, hB7⟩ : ∃ g', vs 7 = .slice (some ⟨g', 0, none⟩) 128 128 ∧ BytesIn w' g' 210 l1 := hd 7 _ rfl (by decide)
          have h9 : vs 9 = I (15 + 6 * (x : Int) + 2) := hd 9 _ rfl (by decide)
          obtain ⟨b, h13, hb13⟩ : ∃ b, vs 13 = .slice (some ⟨b, 0, none⟩) 1 1 ∧ RowAt w' b #[I (r.sum : Int)] 3 := hd 13 _ rfl (by decide)
          refine plain_op rfl ?_
          unfold runOp
          simp [go_sem, look, writer, List.findIdx?, List.findIdx?.go, depsOf, Region.binds, h7, h9, h13]
          refine (note_putB _ l1 (15 + 6 * x + 2) 4 b [r.sum] _ _ hb13 rfl (bytesIn_sl hB7 hll1) (block_full hll1) (by simp; omega) (by omega) (by omega) (by simp) (by simp; omega)).mono ?_
          rintro e w'' ⟨v', rfl, ⟨g', rfl, hg', hB'⟩, he'⟩
          rw [whole_full hll1] at hB'
          have hz := hR.size
          exact ⟨_, rfl, he', g', rfl, by omega, by rw [hl2]; exact hB'⟩
        · intro hs
          exact absurd hs (by decide)
      case hsink =>
        refine allAt ⟨fun hs => absurd hs (by decide), fun hs => absurd hs (by decide), fun hs => absurd hs (by decide), fun hs => absurd hs (by decide), fun hs => absurd hs (by decide), fun hs => absurd hs (by decide), fun hs => absurd hs (by decide), fun hs => absurd hs (by decide), fun hs => absurd hs (by decide), fun hs => absurd hs (by decide), fun hs => absurd hs (by decide), fun hs => absurd hs (by decide), fun hs => absurd hs (by decide), fun hs => absurd hs (by decide), fun hs => absurd hs (by decide), ?_, trivial⟩
        · intro _ vs w' hR hd
          obtain ⟨g14, h14, hg14, hB14⟩ : ∃ g', vs 14 = .slice (some ⟨g', 0, none⟩) 128 128 ∧ c0.heap.size ≤ g' ∧ BytesIn w' g' 210 l2 := hd 14 _ rfl (by decide)
          have kc := hboxStay _ hR
          refine plain_op rfl ?_
          unfold runOp
          simp [go_sem, look, writer, List.findIdx?, List.findIdx?.go, depsOf, Region.binds, h14, kc.cell, kc.free]
          exact ⟨.of_setCell hcbx kc (by simp) _, g14, h14, hg14, hB14.other (fun e => by simp at e; subst e; have h1 := hB14; unfold BytesIn at h1; rw [kc] at h1; simp at h1) _, (box_set kc (Ext.trans hEW5 hR) hcbx _).1⟩
      case fin =>
        intro vs w' A _ _ hA hR hfacts
        subst hA
        obtain ⟨g', _, hg', hB', hbox'⟩ : ∃ g', _ = Value.slice (some ⟨g', 0, none⟩) 128 128 ∧ c0.heap.size ≤ g' ∧ BytesIn w' g' 210 l2 ∧ Box w' bx 32 (.slice (some ⟨g', 0, none⟩) 128 128) := hfacts 15 _ rfl
        have hK5 : Keeps c0.heap.size [32] W5 w' := by
          rcases hR with h | ⟨w1, h1, h2⟩
          · exact .of_ext h
          · exact (Keeps.of_ext h1).trans h2
        gi_wp2
        have hfold : (pre ++ [x]).foldl (recPut n.recs) (note3 n) = l2 := by
          rw [List.foldl_append, ← Hl0.out, hl2, hl1]
          have hg : n.recs.getD x ⟨0, false, 0⟩ = r := by rw [Hr.out]; simp [List.getD_eq_getElem?_getD, hxl]
          simp only [List.foldl_cons, List.foldl_nil, recPut, hg, Hbare.out]
          rfl
        refine ⟨by first | exact (Keeps.of_ext hWW5).trans hK5 | (rw [← hcz]; exact (Keeps.of_ext hWW5).trans hK5), hK5.below hEW5, g', hbox', by have := hcw.size; omega, by rw [hfold]; exact hB'⟩
  case hdone =>
    rintro xs W rfl ⟨hEW, g, hbW, hg, hBW⟩ hK
    have hBs : BytesIn W g 210 (note4 n) := hBW
    have hll := note4_len n
    go_wp2
    obtain ⟨l0, hl0⟩ : ∃ l0, l0 = note4 n := ⟨_, rfl⟩
    rw [← hl0] at hBs hll
    obtain ⟨sm, hsm⟩ : ∃ sm, sm = overB 0 (l0.take 124) := ⟨_, rfl⟩
    have hsml : sm < 4294967296 := by rw [hsm]; exact overB_lt _ (by decide)
    have hsmw : IntKind.i64.wrap (sm : Int) = (sm : Int) := IntWalk.i64_in _ (by omega)
    have hnb : noteBytes n = putL l0 124 4 [sm] 1 := by rw [hsm, hl0]; rfl
    have hslice : ∀ w', Ext W w' → Rep.byte.sl w' (.slice (some ⟨g, 0, none⟩) 124 128) (l0.take 124) := fun w' h => bytesIn_take (hBs.ext h) hll
    refine wp_ssa (by kernel_rfl) rfl Ext Ext (fun i ds v w => match i with
      | 0 => v = .slice (some ⟨g, 0, none⟩) 128 128
      | 1 => v = .slice (some ⟨g, 0, none⟩) 128 128
      | 2 => v = .slice (some ⟨g, 0, none⟩) 124 128
      | 3 => v = U32 sm
      | 4 => v = I (sm : Int)
      | 5 => ∃ b, v = .slice (some ⟨b, 0, none⟩) 1 1 ∧ RowAt w b #[I (sm : Int)] 3
      | 6 => ∃ g', v = .slice (some ⟨g', 0, none⟩) 128 128 ∧ c0.heap.size ≤ g' ∧ BytesIn w g' 210 (noteBytes n)
      | 7 => v = ds 6
      | _ => v = I 0) (fun _ _ _ h k => Ext.trans h k) ?hst (Ext.drew (Ext.refl _)) ?hop ?hsink ?fin
    case hst =>
      refine allAt ?_
      refine ⟨fun _ _ _ _ _ _ h => h, fun _ _ _ _ _ _ h => h, fun _ _ _ _ _ _ h => h, fun _ _ _ _ _ _ h => h, fun _ _ _ _ _ _ h => h, ?_, ?_, fun _ _ _ _ _ _ h => h, fun _ _ _ _ _ _ h => h, trivial⟩
      · rintro _ _ _ _ _ k0 ⟨b, h1, h2⟩
        exact ⟨b, h1, h2.ext (k0.elim id id)⟩
      · rintro _ _ _ _ _ k0 ⟨b, h1, h3, h2⟩
        exact ⟨b, h1, h3, h2.ext (k0.elim id id)⟩
    case hop =>
      refine allAt ⟨?_, ?_, ?_, ?_, ?_, ?_, ?_, ?_, ?_, trivial⟩
      all_goals intro hs vs w' hR hd
      · have kc := (hbW.ext hR).cell
        refine plain_op rfl ?_
        unfold runOp
        simp [go_sem, look, writer, List.findIdx?, List.findIdx?.go, depsOf, Region.binds, kc]
        exact Ext.refl _
      · have kc := (hbW.ext hR).cell
        refine plain_op rfl ?_
        unfold runOp
        simp [go_sem, look, writer, List.findIdx?, List.findIdx?.go, depsOf, Region.binds, kc]
        exact Ext.refl _
      · have h1 : vs 1 = .slice (some ⟨g, 0, none⟩) 128 128 := hd 1 _ rfl (by decide)
        refine plain_op rfl ?_
        unfold runOp
        simp [go_sem, look, writer, List.findIdx?, List.findIdx?.go, depsOf, Region.binds, h1]
        exact Ext.refl _
      · have h2 : vs 2 = .slice (some ⟨g, 0, none⟩) 124 128 := hd 2 _ rfl (by decide)
        refine plain_op rfl ?_
        unfold runOp
        simp [go_sem, look, writer, List.findIdx?, List.findIdx?.go, depsOf, Region.binds, h2]
        refine (poly_Sum _ _ _ (hslice _ hR) (by unfold Fit; simp; omega)).mono ?_
        rintro e w'' ⟨rfl, he⟩
        exact ⟨by rw [hsm], he⟩
      · have h3 : vs 3 = U32 sm := hd 3 _ rfl (by decide)
        refine plain_op rfl ?_
        unfold runOp
        simp [go_sem, look, writer, List.findIdx?, List.findIdx?.go, depsOf, Region.binds, h3, hsmw]
        exact Ext.refl _
      · have h4 : vs 4 = I (sm : Int) := hd 4 _ rfl (by decide)
        refine plain_op rfl ?_
        unfold runOp
        simp [go_sem, look, writer, List.findIdx?, List.findIdx?.go, depsOf, Region.binds, h4]
        exact ⟨(Ext.refl _).alloc _, RowAt.new _ _ _⟩
      · have h0 : vs 0 = .slice (some ⟨g, 0, none⟩) 128 128 := hd 0 _ rfl (by decide)
        obtain ⟨b, h5, hb5⟩ : ∃ b, vs 5 = .slice (some ⟨b, 0, none⟩) 1 1 ∧ RowAt w' b #[I (sm : Int)] 3 := hd 5 _ rfl (by decide)
        refine plain_op rfl ?_
        unfold runOp
        simp [go_sem, look, writer, List.findIdx?, List.findIdx?.go, depsOf, Region.binds, h0, h5]
        refine (note_putB _ l0 124 4 b [sm] _ _ hb5 rfl (bytesIn_sl (hBs.ext hR) hll) (block_full hll) (by simp; omega) (by omega) (by omega) (by simp) (by simp)).mono ?_
        rintro e w'' ⟨v', rfl, ⟨g', rfl, hg', hB'⟩, he'⟩
        rw [whole_full hll] at hB'
        have hz := hR.size
        have hz2 := hEW.size
        exact ⟨_, rfl, he', g', rfl, by omega, by rw [hnb]; exact hB'⟩
      · obtain ⟨g', h6, hg', hB'⟩ : ∃ g', vs 6 = .slice (some ⟨g', 0, none⟩) 128 128 ∧ c0.heap.size ≤ g' ∧ BytesIn w' g' 210 (noteBytes n) := hd 6 _ rfl (by decide)
        refine plain_op rfl ?_
        unfold runOp
        simp [go_sem, look, writer, List.findIdx?, List.findIdx?.go, depsOf, Region.binds, h6]
        exact ⟨Ext.refl _, h6.symm⟩
      · exact absurd hs (by decide)
    case hsink =>
      refine allAt ⟨fun hs => absurd hs (by decide), fun hs => absurd hs (by decide), fun hs => absurd hs (by decide), fun hs => absurd hs (by decide), fun hs => absurd hs (by decide), fun hs => absurd hs (by decide), fun hs => absurd hs (by decide), fun hs => absurd hs (by decide), ?_, trivial⟩
      intro _ vs w' hR hd
      refine plain_op rfl ?_
      unfold runOp
      simp [go_sem, look, writer, List.findIdx?, List.findIdx?.go, depsOf, Region.binds]
      exact Ext.refl _
    case fin =>
      intro vs w' A hget hdf hA hR hf
      obtain ⟨g', h6, hg', hB'⟩ : ∃ g', vs 6 = .slice (some ⟨g', 0, none⟩) 128 128 ∧ c0.heap.size ≤ g' ∧ BytesIn w' g' 210 (noteBytes n) := hf 6 _ rfl
      have h7 : vs 7 = vs 6 := hf 7 _ rfl
      have h8 : vs 8 = I 0 := hf 8 _ rfl
      have hE : Ext W w' := by
        rcases hR with h | ⟨w1, h1, h2⟩
        · exact h
        · exact Ext.trans h1 h2
      have f2 : A.tmps.getD 2 undef = vs 7 := hget 2 7 (by simp) (by decide)
      have f3 : A.tmps.getD 3 undef = vs 8 := hget 3 8 (by simp) (by decide)
      obtain ⟨At, Ad⟩ := A
      clear hA hget
      simp only at f2 f3 hdf
      subst hdf
      go_wp2
      have hK' := (hE.block _ (lt_of_block hK)).trans hK
      have hkc : ∀ B, B ≤ (W4.alloc (Obj.cells #[I (n.recs.length : Int)] 3)).heap.size → KeepsC B [] w' (w'.putObj (W4.alloc (Obj.cells #[I (n.recs.length : Int)] 3)).heap.size (.deferred none)) := fun B h => .putObj h hK' (fun _ _ _ e => by cases e)
      refine marks_ret1 hK' (results_tmp2 rfl _ _ _) ⟨vs 7, ?_, ⟨g', ?_, ?_, ?_⟩, ?_⟩
      · rw [f2, f3, h8]
      · rw [h7, h6]
      · have := hcw.size
        omega
      · exact hB'.keepsC (hkc 0 (Nat.zero_le _)) (.inr (by simp))
      · exact Ext.trans hcw ((hkc c0.heap.size (by simp; omega)).below (Ext.trans hEW hE) (Nat.le_refl _))
  case hstop =>
    intro c pre W _ h _
    exact h.elim

end Go.Proofs.Ytancfgmaejjooaa
