/- Deals: how the words of a reading change from round to round. -/
import Derived.Test.YtancfgmaejjooaaDeal3
import Derived.Test.YtancfgmaejjooaaOwn
set_option linter.unusedVariables false
set_option linter.unusedSimpArgs false
namespace Go.Proofs.Ytancfgmaejjooaa
open Go.RowKit
attribute [local go_sem] Oper.semAt_some

theorem RdS.only {w W W' : World} {c : Cfg} {d : Dk} {at_ : Nat} {bv wv : Value} {fb mb eb nb cb db ab : Nat} {frow nrow frow' nrow' : Array Value} {mv ev mv' ev' : Int} (h : RdS w W c d at_ bv wv fb mb eb nb cb db ab frow nrow mv ev)
    {bs : List Nat} (ho : Only bs W W') (hb : ∀ b ∈ bs, b = fb ∨ b = mb ∨ b = eb ∨ b = nb) (f' : RowAt W' fb frow' 36) (m' : RowAt W' mb #[I mv'] 3) (e' : RowAt W' eb #[I ev'] 37) (n' : RowAt W' nb nrow' 83) :
    RdS w W' c d at_ bv wv fb mb eb nb cb db ab frow' nrow' mv' ev' ∧ Keeps w.heap.size [36, 3, 37, 83] W W' := by
  have hlo := h.lo
  have hK : Keeps w.heap.size [36, 3, 37, 83] W W' := ho.keeps (fun b hb' => by
    rcases hb b hb' with rfl | rfl | rfl | rfl
    · exact ⟨hlo.1, _, _, h.f, by simp⟩
    · exact ⟨hlo.2.1, _, _, h.m, by simp⟩
    · exact ⟨hlo.2.2.1, _, _, h.e, by simp⟩
    · exact ⟨hlo.2.2.2.1, _, _, h.n, by simp⟩)
  have ha : ab ∉ bs := fun hm => by
    rcases hb ab hm with e | e | e | e
    · subst e; exact h.f.ne h.ring.2.2 (by decide) rfl
    · exact hlo.2.2.2.2.1 e.symm
    · subst e; exact h.e.ne h.ring.2.2 (by decide) rfl
    · subst e; exact h.n.ne h.ring.2.2 (by decide) rfl
  exact ⟨⟨hK.below h.ext, h.h.keeps hK (.inr (by simp)), f', m', e', n', ⟨h.ring.1.keeps hK (.inr (by simp)), h.ring.2.1.keeps hK (.inr (by simp)), ho.row h.ring.2.2 ha⟩, hlo⟩, hK⟩

theorem set5 {W : World} {b : Nat} {a0 a1 a2 a3 a4 : Value} {t : TypeId} (h : RowAt W b #[a0, a1, a2, a3, a4] t) (v0 v1 v2 v3 v4 : Value) :
    ∃ W', W' = (((((W.setCell ⟨b, 0, none⟩ v0).setCell ⟨b, 1, none⟩ v1).setCell ⟨b, 2, none⟩ v2).setCell ⟨b, 3, none⟩ v3).setCell ⟨b, 4, none⟩ v4) ∧ RowAt W' b #[v0, v1, v2, v3, v4] t ∧ Only [b] W W' := by
  have hb : b ∈ [b] := by simp
  exact ⟨_, rfl, (row_set5 h v0 v1 v2 v3 v4).1, ((((Only.set W b 0 v0).set' b 1 v1 hb).set' b 2 v2 hb).set' b 3 v3 hb).set' b 4 v4 hb⟩

theorem RdS.noteE {w W : World} {c : Cfg} {d : Dk} {at_ : Nat} {bv wv : Value} {fb mb eb nb cb db ab : Nat} {frow : Array Value} {a0 a1 a2 a3 a4 : Value} {mv ev : Int} (h : RdS w W c d at_ bv wv fb mb eb nb cb db ab frow #[a0, a1, a2, a3, a4] mv ev) (v0 v1 v2 v3 v4 : Value) (ev' : Int) :
    ∃ W', W' = (((((W.setCell ⟨nb, 0, none⟩ v0).setCell ⟨nb, 1, none⟩ v1).setCell ⟨nb, 2, none⟩ v2).setCell ⟨nb, 3, none⟩ v3).setCell ⟨nb, 4, none⟩ v4).setCell ⟨eb, 0, none⟩ (I ev') ∧
      RdS w W' c d at_ bv wv fb mb eb nb cb db ab frow #[v0, v1, v2, v3, v4] mv ev' ∧ Keeps w.heap.size [36, 3, 37, 83] W W' := by
  obtain ⟨W1, hW1, g1, g2⟩ := set5 h.n v0 v1 v2 v3 v4
  have en : eb ≠ nb := h.e.ne h.n (by decide)
  have fe : fb ≠ eb := h.f.ne h.e (by decide)
  have fn : fb ≠ nb := h.f.ne h.n (by decide)
  have me : mb ≠ eb := h.m.ne h.e (by decide)
  have mn : mb ≠ nb := h.m.ne h.n (by decide)
  refine ⟨_, rfl, ?_⟩
  rw [← hW1]
  have e1 := (g2.row h.e (by simpa using en)).set 0 (I ev')
  simp at e1
  exact h.only ((g2.less (bs' := [nb, eb]) (by simp)).set' eb 0 (I ev') (by simp)) (by simp) ((g2.row h.f (by simpa using fn)).other (Ne.symm fe) _) ((g2.row h.m (by simpa using mn)).other (Ne.symm me) _) e1 (g1.other en _)

theorem RdS.fin3 {w W : World} {c : Cfg} {d : Dk} {at_ : Nat} {bv wv : Value} {fb mb eb nb cb db ab : Nat} {nrow : Array Value} {a0 a1 a2 a3 a4 a5 : Value} {mv ev : Int} (h : RdS w W c d at_ bv wv fb mb eb nb cb db ab #[a0, a1, a2, a3, a4, a5] nrow mv ev) (v0 v1 v2 v3 v4 v5 : Value) (mv' ev' : Int) :
    ∃ W', W' = (((((((W.setCell ⟨fb, 0, none⟩ v0).setCell ⟨fb, 1, none⟩ v1).setCell ⟨fb, 2, none⟩ v2).setCell ⟨fb, 3, none⟩ v3).setCell ⟨fb, 4, none⟩ v4).setCell ⟨fb, 5, none⟩ v5).setCell ⟨mb, 0, none⟩ (I mv')).setCell ⟨eb, 0, none⟩ (I ev') ∧
      RdS w W' c d at_ bv wv fb mb eb nb cb db ab #[v0, v1, v2, v3, v4, v5] nrow mv' ev' ∧ Keeps w.heap.size [36, 3, 37, 83] W W' := by
  obtain ⟨W1, hW1, g1, g2, g3, g4⟩ := put3 h.f h.m h.e v0 v1 v2 v3 v4 v5 (I mv') (I ev')
  have en : eb ≠ nb := h.e.ne h.n (by decide)
  have fn : fb ≠ nb := h.f.ne h.n (by decide)
  have mn : mb ≠ nb := h.m.ne h.n (by decide)
  refine ⟨_, rfl, ?_⟩
  rw [← hW1]
  exact h.only g4 (by simp) g1 g2 g3 (g4.row h.n (by simp [Ne.symm en, Ne.symm fn, Ne.symm mn]))

theorem RdS.found {w W : World} {c : Cfg} {d : Dk} {at_ : Nat} {bv wv : Value} {fb mb eb nb cb db ab : Nat} {nrow : Array Value} {a0 a1 a2 a3 a4 a5 : Value} {mv ev : Int} (h : RdS w W c d at_ bv wv fb mb eb nb cb db ab #[a0, a1, a2, a3, a4, a5] nrow mv ev) (v0 v1 v2 v3 v4 v5 : Value) :
    ∃ W', W' = (((((W.setCell ⟨fb, 0, none⟩ v0).setCell ⟨fb, 1, none⟩ v1).setCell ⟨fb, 2, none⟩ v2).setCell ⟨fb, 3, none⟩ v3).setCell ⟨fb, 4, none⟩ v4).setCell ⟨fb, 5, none⟩ v5 ∧
      RdS w W' c d at_ bv wv fb mb eb nb cb db ab #[v0, v1, v2, v3, v4, v5] nrow mv ev ∧ Keeps w.heap.size [36, 3, 37, 83] W W' := by
  obtain ⟨g1, g2⟩ := set6 h.f v0 v1 v2 v3 v4 v5
  have fe : fb ≠ eb := h.f.ne h.e (by decide)
  have fn : fb ≠ nb := h.f.ne h.n (by decide)
  have fm : fb ≠ mb := h.f.ne h.m (by decide)
  refine ⟨_, rfl, ?_⟩
  exact h.only g2 (by simp) g1 (g2.row h.m (by simp [Ne.symm fm])) (g2.row h.e (by simp [Ne.symm fe])) (g2.row h.n (by simp [Ne.symm fn]))

theorem Keeps.more {n0 : Nat} {TS TS' : List TypeId} {A B : World} (h : Keeps n0 TS A B) (hs : ∀ t ∈ TS, t ∈ TS') : Keeps n0 TS' A B :=
  ⟨h.os, h.tape, h.output, h.size, fun k hk hc => h.same k hk (hc.imp id fun hc c t fr e ht => hc c t fr e (hs t ht))⟩

theorem recs_own {w : World} {base : Nat} {v : Value} {c : Cfg} {d : Dk} {at_ : Nat} (h : w.ownsRow base 121 3 v (noteAt c d at_).recs.length ((noteAt c d at_).recs.flatMap rcCells)) : Rep.rc.sl w v (noteAt c d at_).recs := by
  rw [show (noteAt c d at_).recs.length = countOf (ringB c d at_ 0) by simp [noteAt, noteOf], show (noteAt c d at_).recs.flatMap rcCells = recCells (ringB c d at_ 0) (countOf (ringB c d at_ 0)) by simp [noteAt, noteOf, recCells, List.flatMap_map]] at h
  exact recs_sl h

theorem wrap_small (k : Nat) (h : k < 255) : wrap64 (k : Int) = (k : Int) := by unfold wrap64; omega
theorem Keeps.toExt {A B : World} (h : Keeps 0 [] A B) : Ext A B := ⟨h.os, h.tape, h.output, h.size, fun k hk => h.same k hk (.inr (by simp))⟩
/-- A row of another type is written. -/
theorem RdS.other {w W W' : World} {c : Cfg} {d : Dk} {at_ : Nat} {bv wv : Value} {fb mb eb nb cb db ab : Nat} {frow nrow : Array Value} {mv ev : Int} (h : RdS w W c d at_ bv wv fb mb eb nb cb db ab frow nrow mv ev)
    {g : Nat} {cur : Array Value} {t : TypeId} (ho : Only [g] W W') (hr : RowAt W g cur t) (ht : t ≠ 24 ∧ t ≠ 36 ∧ t ≠ 3 ∧ t ≠ 37 ∧ t ≠ 83 ∧ t ≠ 28) (hg : w.heap.size ≤ g) : RdS w W' c d at_ bv wv fb mb eb nb cb db ab frow nrow mv ev := by
  have n := fun {b : Nat} {cs : Array Value} {u : TypeId} (h : RowAt W b cs u) (hu : t ≠ u) => ho.row h (show b ∉ [g] from fun e => by simp at e; subst e; exact hr.ne h hu rfl)
  refine ⟨?_, n h.h ht.1, n h.f ht.2.1, n h.m ht.2.2.1, n h.e ht.2.2.2.1, n h.n ht.2.2.2.2.1, ⟨n h.ring.1 ht.1, n h.ring.2.1 ht.2.2.2.2.2, n h.ring.2.2 ht.2.2.1⟩, h.lo⟩
  exact ⟨ho.os.trans h.ext.os, ho.tape.trans h.ext.tape, ho.output.trans h.ext.output, by have := h.ext.size; have := ho.size; omega, fun k hk => (ho.same k (by simp; omega)).trans (h.ext.block k hk)⟩

theorem dec_no {k m : Nat} (h : k < m) : ¬ ((m : Int) < (k : Int) + 1) := by omega

theorem own_slice {w : World} {base : Nat} {e : TypeId} {size : Nat} {v : Value} {n : Nat} {cs : List Value} (h : w.ownsRow base e size v n cs) : ∃ A c, v = .slice A n c := by
  obtain ⟨_, ⟨rfl, rfl⟩ | ⟨g, cap, cur, rfl, _⟩⟩ := h <;> exact ⟨_, _, rfl⟩

theorem guard_op {o : Oper} {vs : Nat → Value} {A B : Prop} {j : Nat} {want b : Bool} (hg : o.guard = some (j, want)) (hv : vs j = .bool b) (h1 : b = want → A) (h2 : b ≠ want → B) : if wantedV o vs = true then A else B := by
  have : wantedV o vs = (b == want) := by unfold wantedV; rw [hg]; simp [hv, boolOf]
  rw [this]
  by_cases h : b = want
  · rw [if_pos (by simpa using h)]
    exact h1 h
  · rw [if_neg (by simpa using h)]
    exact h2 h
theorem guard_no {o : Oper} {vs : Nat → Value} {A B : Prop} {j : Nat} {want : Bool} (hg : o.guard = some (j, want)) (hv : vs j = undef) (h2 : B) : if wantedV o vs = true then A else B := by
  have : wantedV o vs = false := by unfold wantedV; rw [hg]; simp [hv, boolOf, undef]
  rw [this]
  exact h2


theorem DI.par {w W : World} {c : Cfg} {d : Dk} {at_ : Nat} {bv wv : Value} {fb mb eb nb cb db ab : Nat} {pre : List RX} {x : RX} {k : Nat} {r : Rc} {sv lv pv rv : Value} {xs : List RX} {pa : Option RX}
    (hgood : noteGood (ringB c d at_ 0)) (hid : (noteAt c d at_).id = c.id) (hle : k + 1 ≤ (noteAt c d at_).recs.length) (hto : goodTo (noteAt c d at_).recs (ringB c d at_) k = true)
    (hrec : recAt (noteAt c d at_).recs k = r) (hrg : recGood r (ringB c d at_ (k + 1)) = true) (hsl : r.slot = 255) (hk : pre.length = k + 1)
    (hR : RdS w W c d at_ bv wv fb mb eb nb cb db ab #[U32 (noteAt c d at_).age, U32 (noteAt c d at_).seq, I (noteAt c d at_).stripe, sv, lv, pv] #[U32 (noteAt c d at_).id, U32 (noteAt c d at_).age, U32 (noteAt c d at_).seq, I (noteAt c d at_).stripe, rv] 0 0)
    (hO : OwnD w.heap.size W sv lv pv xs pa (dealTo (noteAt c d at_).stripe (noteAt c d at_).recs (ringB c d at_) k))
    (hrv : W.ownsRow w.heap.size 121 3 rv (noteAt c d at_).recs.length ((noteAt c d at_).recs.flatMap rcCells)) (hin : ∀ y ∈ xs, y ∈ pre) (hsv : ∀ g, sv.ownBlock = some g → g ≠ mb ∧ g ≠ ab)
    (hown : W.ownsRow w.heap.size 5 1 x.v 128 ((recBlock r (ringB c d at_ (k + 1))).map B)) :
    Keeps w.heap.size [36, 3, 37, 83] W (W.setCell ⟨fb, 5, none⟩ x.v) ∧ DI w c d at_ bv wv fb mb eb nb cb db ab (pre ++ [x]) (W.setCell ⟨fb, 5, none⟩ x.v) := by
  have ho : Only [fb] W (W.setCell ⟨fb, 5, none⟩ x.v) := Only.set _ _ _ _
  have hf := hR.f.set 5 x.v
  simp at hf
  have nn := fun {b : Nat} {cs : Array Value} {u : TypeId} (h : RowAt W b cs u) (hu : 36 ≠ u) => ho.row h (show b ∉ [fb] from fun e => by simp at e; subst e; exact hR.f.ne h hu rfl)
  obtain ⟨h1, h2⟩ := hR.only ho (by simp) hf (nn hR.m (by decide)) (nn hR.e (by decide)) (nn hR.n (by decide))
  refine ⟨h2, ?_⟩
  have hO2 := hO.word hR.f (by decide) ho
  unfold DI
  rw [List.length_append, hk]
  have e : dealTo (noteAt c d at_).stripe (noteAt c d at_).recs (ringB c d at_) (k + 1) = { dealTo (noteAt c d at_).stripe (noteAt c d at_).recs (ringB c d at_) k with parity := recBlock r (ringB c d at_ (k + 1)) } := by
    simp only [dealTo, hrec, addRec, if_pos hsl]
  refine ⟨hgood, hid, hle, by simp only [goodTo, hto, hrec, hrg]; rfl, sv, lv, x.v, rv, xs, some x, h1, ?_, own_only hrv ho (own_type hrv hR.f (by decide)), fun y hy => by simp [hin y hy], fun y hy => by cases hy; simp, hsv⟩
  rw [e]
  exact ⟨hO2.slots, hO2.blocks, hO2.many, hO2.each, .inr ⟨x, rfl, rfl, own_only hown ho (own_type hown hR.f (by decide))⟩⟩

theorem DI.slot {w W W' : World} {c : Cfg} {d : Dk} {at_ : Nat} {bv wv : Value} {fb mb eb nb cb db ab : Nat} {pre : List RX} {x : RX} {k : Nat} {r : Rc} {sv lv pv rv sv' lv' : Value} {xs : List RX} {pa : Option RX}
    (hgood : noteGood (ringB c d at_ 0)) (hid : (noteAt c d at_).id = c.id) (hle : k + 1 ≤ (noteAt c d at_).recs.length) (hto : goodTo (noteAt c d at_).recs (ringB c d at_) k = true)
    (hrec : recAt (noteAt c d at_).recs k = r) (hrg : recGood r (ringB c d at_ (k + 1)) = true) (hsl : r.slot ≠ 255) (hk : pre.length = k + 1)
    (hR : RdS w W' c d at_ bv wv fb mb eb nb cb db ab #[U32 (noteAt c d at_).age, U32 (noteAt c d at_).seq, I (noteAt c d at_).stripe, sv', lv', pv] #[U32 (noteAt c d at_).id, U32 (noteAt c d at_).age, U32 (noteAt c d at_).seq, I (noteAt c d at_).stripe, rv] 0 0)
    (hO : OwnD w.heap.size W sv lv pv xs pa (dealTo (noteAt c d at_).stripe (noteAt c d at_).recs (ringB c d at_) k)) (hK : Keeps w.heap.size [36, 3, 32] W W')
    (hs : W'.ownsRow w.heap.size 3 1 sv' ((dealTo (noteAt c d at_).stripe (noteAt c d at_).recs (ringB c d at_) k).slots.length + 1) ((dealTo (noteAt c d at_).stripe (noteAt c d at_).recs (ringB c d at_) k).slots.map I ++ [I (r.slot.toNat : Int)]))
    (hl : W'.ownsRow w.heap.size 32 1 lv' ((dealTo (noteAt c d at_).stripe (noteAt c d at_).recs (ringB c d at_) k).blocks.length + 1) (xs.map RX.v ++ [x.v]))
    (hrv : W.ownsRow w.heap.size 121 3 rv (noteAt c d at_).recs.length ((noteAt c d at_).recs.flatMap rcCells)) (hin : ∀ y ∈ xs, y ∈ pre) (hpa : ∀ y, pa = some y → y ∈ pre) (hsv : ∀ g, sv'.ownBlock = some g → g ≠ mb ∧ g ≠ ab)
    (hown : W.ownsRow w.heap.size 5 1 x.v 128 ((recBlock r (ringB c d at_ (k + 1))).map B)) :
    DI w c d at_ bv wv fb mb eb nb cb db ab (pre ++ [x]) W' := by
  unfold DI
  rw [List.length_append, hk]
  have e : dealTo (noteAt c d at_).stripe (noteAt c d at_).recs (ringB c d at_) (k + 1) = { dealTo (noteAt c d at_).stripe (noteAt c d at_).recs (ringB c d at_) k with slots := (dealTo (noteAt c d at_).stripe (noteAt c d at_).recs (ringB c d at_) k).slots ++ [(r.slot.toNat : Int)], blocks := (dealTo (noteAt c d at_).stripe (noteAt c d at_).recs (ringB c d at_) k).blocks ++ [recBlock r (ringB c d at_ (k + 1))] } := by
    simp only [dealTo, hrec, addRec, if_neg hsl]
  refine ⟨hgood, hid, hle, by simp only [goodTo, hto, hrec, hrg]; rfl, sv', lv', pv, rv, xs ++ [x], pa, hR, ?_, ownsRow_keepsC hrv (.of_keeps hK) (by simp), fun y hy => ?_, fun y hy => by simp [hpa y hy], hsv⟩
  · rw [e]
    generalize dealTo (noteAt c d at_).stripe (noteAt c d at_).recs (ringB c d at_) k = D at hO hs hl ⊢
    refine ⟨by simpa using hs, by simpa using hl, by simp [hO.many], fun j hj hj' => ?_, hO.parity.imp id (fun ⟨y, h1, h2, h3⟩ => ⟨y, h1, h2, ownsRow_keepsC h3 (.of_keeps hK) (by simp)⟩)⟩
    have hm := hO.many
    simp at hj hj'
    rcases Nat.lt_or_ge j xs.length with h' | h'
    · have h2 : j < D.blocks.length := by omega
      have := ownsRow_keepsC (hO.each j h' h2) (.of_keeps hK) (by simp)
      simpa [List.getElem_append, h', h2] using this
    · obtain rfl : j = xs.length := by omega
      have := ownsRow_keepsC hown (.of_keeps hK) (by simp)
      simpa [List.getElem_append, hm] using this
  · simp at hy ⊢
    rcases hy with hy | hy
    · exact .inl (hin y hy)
    · exact .inr hy

theorem recBlock_len (r : Rc) (b : List UInt8) (h : b.length = 128) : (recBlock r b).length = 128 := by
  unfold recBlock
  split
  · simpa using h
  · exact h
theorem dealTo_len (s : Int) (rs : List Rc) (bs : Nat → List UInt8) (hb : ∀ i, (bs i).length = 128) : ∀ k, (∀ b ∈ (dealTo s rs bs k).blocks, b.length = 128) ∧ ((dealTo s rs bs k).parity.length = 0 ∨ (dealTo s rs bs k).parity.length = 128) ∧ (dealTo s rs bs k).stripe = s
  | 0 => ⟨by simp [dealTo], .inl rfl, rfl⟩
  | k + 1 => by
    obtain ⟨h1, h2, h3⟩ := dealTo_len s rs bs hb k
    simp only [dealTo, addRec]
    split
    · exact ⟨h1, .inr (recBlock_len _ _ (hb _)), h3⟩
    · refine ⟨fun b hm => ?_, h2, h3⟩
      simp at hm
      rcases hm with hm | rfl
      · exact h1 b hm
      · exact recBlock_len _ _ (hb _)

theorem ask_zero {c : Cfg} {d : Dk} {at_ : Nat} {base : Nat} {e : Ending} {w' : World} (hk : askErr c d at_ = 0)
    (h : (readsTo c d at_ (lastRec c d at_) ∧ ∃ sv bv pv xs pa, e = .returned (.tuple #[.agg #[U32 (noteAt c d at_).age, U32 (noteAt c d at_).seq, I (noteAt c d at_).stripe, sv, bv, pv], I ((1 + (noteAt c d at_).recs.length : Nat) : Int), I 0]) ∧
      OwnD base w' sv bv pv xs pa (dealTo (noteAt c d at_).stripe (noteAt c d at_).recs (ringB c d at_) (lastRec c d at_))) ∨
    (¬ readsTo c d at_ (lastRec c d at_) ∧ e = .returned (.tuple #[.agg zeroF, I 0, I 130]))) : DReadPost c d (at_ : Int) base e w' := by
  unfold DReadPost
  rw [if_neg (by rw [hk]; simp)]
  exact h

theorem OwnD.fin {base : Nat} {W W' : World} {sv bv pv : Value} {xs : List RX} {pa : Option RX} {D : DealD} {fb mb eb : Nat} {cf cm ce : Array Value} (h : OwnD base W sv bv pv xs pa D) (hF : RowAt W fb cf 36) (hM : RowAt W mb cm 3) (hE : RowAt W eb ce 37)
    (ho : Only [fb, mb, eb] W W') (hs : ∀ g, sv.ownBlock = some g → g ≠ mb) : OwnD base W' sv bv pv xs pa D := by
  have key : ∀ {e : TypeId} {v : Value} {n : Nat} {cs : List Value}, W.ownsRow base e 1 v n cs → e ≠ 36 → e ≠ 37 → (e ≠ 3 ∨ ∀ g, v.ownBlock = some g → g ≠ mb) → W'.ownsRow base e 1 v n cs := by
    intro e v n cs h0 h1 h2 h3
    refine own_only h0 ho (fun b hb hm => ?_)
    simp at hm
    rcases hm with rfl | rfl | rfl
    · exact own_type h0 hF h1 b hb (by simp)
    · rcases h3 with h3 | h3
      · exact own_type h0 hM h3 b hb (by simp)
      · exact h3 b hb rfl
    · exact own_type h0 hE h2 b hb (by simp)
  exact ⟨key h.slots (by decide) (by decide) (.inr hs), key h.blocks (by decide) (by decide) (.inl (by decide)), h.many, fun j hj hj' => key (h.each j hj hj') (by decide) (by decide) (.inl (by decide)),
    h.parity.imp id (fun ⟨y, h1, h2, h3⟩ => ⟨y, h1, h2, key h3 (by decide) (by decide) (.inl (by decide))⟩)⟩

theorem OwnD.putObj {base : Nat} {w w' : World} {sv bv pv : Value} {xs : List RX} {pa : Option RX} {d : DealD} (h : OwnD base w sv bv pv xs pa d) {B : Nat} (hk : KeepsC B [] w w') : OwnD base w' sv bv pv xs pa d := h.keepsC hk (by simp)

theorem good_few {c : Cfg} {d : Dk} {at_ : Nat} (h : noteGood (ringB c d at_ 0)) : wrap64 (1 + ((noteAt c d at_).recs.length : Int)) = ((1 + (noteAt c d at_).recs.length : Nat) : Int) := by
  have := (head_iff _).1 (okTo_head h.1)
  unfold wrap64
  have h2 : (noteAt c d at_).recs.length ≤ 16 := this.2.1
  omega

theorem dealTo_few (s : Int) (rs : List Rc) (bs : Nat → List UInt8) : ∀ k, (dealTo s rs bs k).slots.length ≤ k ∧ (dealTo s rs bs k).blocks.length ≤ k
  | 0 => by simp [dealTo]
  | k + 1 => by
    obtain ⟨h1, h2⟩ := dealTo_few s rs bs k
    simp only [dealTo, addRec]
    split
    · exact ⟨by simp only; omega, by simp only; omega⟩
    · exact ⟨by simp; omega, by simp; omega⟩

/-- What the operations of the last region do. -/
def R21 (so lo : Option Nat) (fb : Nat) (k : Nat) (A C : World) : Prop :=
  match k with
  | 7 => A.grownBy C so
  | 13 => A.grownBy C lo
  | 16 => ∃ v, C = A.setCell ⟨fb, 3, none⟩ v
  | 19 => ∃ v, C = A.setCell ⟨fb, 4, none⟩ v
  | _ => Ext A C

theorem R21.out {so lo : Option Nat} {fb k : Nat} {A C : World} (h : R21 so lo fb k A C) : ∃ o, A.grownBy C o ∧ (o = none ∨ (o = so ∧ k = 7) ∨ (o = lo ∧ k = 13) ∨ (o = some fb ∧ (k = 16 ∨ k = 19))) := by
  have hs : ∀ j v, A.grownBy (A.setCell ⟨fb, j, none⟩ v) (some fb) := fun j v => ⟨rfl, rfl, rfl, by simp [World.setCell], fun k _ hne => heap_setCell_other _ _ _ _ (fun e => hne (by simp [e]))⟩
  unfold R21 at h
  split at h
  · exact ⟨_, h, .inr (.inl ⟨rfl, rfl⟩)⟩
  · exact ⟨_, h, .inr (.inr (.inl ⟨rfl, rfl⟩))⟩
  · obtain ⟨v, rfl⟩ := h
    exact ⟨_, hs _ _, .inr (.inr (.inr ⟨rfl, .inl rfl⟩))⟩
  · obtain ⟨v, rfl⟩ := h
    exact ⟨_, hs _ _, .inr (.inr (.inr ⟨rfl, .inr rfl⟩))⟩
  · exact ⟨_, grown_of_ext h, .inl rfl⟩

theorem info3 : (Try.prog.info? 3).map (fun i => (i.zero, i.size, i.bytes)) = some (some (.int .i64 0), 1, 8) := by kernel_rfl
theorem info32 : (Try.prog.info? 32).map (fun i => (i.zero, i.size, i.bytes)) = some (some (.slice none 0 0), 1, 24) := by kernel_rfl

end Go.Proofs.Ytancfgmaejjooaa
