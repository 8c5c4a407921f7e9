/- Regions of open order, by the types of the rows that each operation may write. -/
import Derived.Test.YtancfgmaejjooaaSsa2
set_option linter.unusedVariables false
set_option linter.unusedSimpArgs false
namespace Go.Proofs.Ytancfgmaejjooaa
open Go.RowKit

/-- An operation that doesn't wait for j writes only what j lets be written ahead of it. -/
def kOk (l : List Oper) (Ts U : Nat → List TypeId) (UF : List TypeId) : Bool :=
  (List.range l.length).all fun k => match l[k]? with
    | none => true
    | some o => (Ts k).all (UF.contains ·) && (List.range l.length).all fun j => j == k || (before l o).contains j || (Ts k).all ((U j).contains ·)

theorem kOk_at {l : List Oper} {Ts U : Nat → List TypeId} {UF : List TypeId} (h : kOk l Ts U UF = true) {k : Nat} {o : Oper} (ho : l[k]? = some o) :
    (∀ t ∈ Ts k, t ∈ UF) ∧ ∀ j, j < l.length → k ≠ j → (before l o).contains j = false → ∀ t ∈ Ts k, t ∈ U j := by
  unfold kOk at h
  have h1 := List.all_eq_true.1 h k (List.mem_range.2 (List.getElem?_eq_some_iff.1 ho).1)
  simp only [ho, Bool.and_eq_true] at h1
  refine ⟨fun t ht => by simpa using List.all_eq_true.1 h1.1 t ht, fun j hj hne hb t ht => ?_⟩
  have h2 := List.all_eq_true.1 h1.2 j (List.mem_range.2 hj)
  simp only [Bool.or_eq_true] at h2
  rcases h2 with (h2 | h2) | h2
  · exact absurd (by simpa using h2 : j = k) (Ne.symm hne)
  · rw [hb] at h2
    cases h2
  · simpa using List.all_eq_true.1 h2 t ht

/-- A block grown, of which the first world tells its type. -/
theorem Keeps.grownO {n0 : Nat} {TS : List TypeId} {w A C : World} {o : Option Nat} (h : Keeps n0 TS w A) (hg : A.grownBy C o)
    (ho : ∀ g, o = some g → n0 ≤ g ∧ (w.heap.size ≤ g ∨ ∃ c t fr, w.heap[g]? = some (.cells c t fr) ∧ t ∈ TS)) : Keeps n0 TS w C :=
  ⟨hg.os.trans h.os, hg.tape.trans h.tape, hg.output.trans h.output, Nat.le_trans h.size hg.size, fun k hk hc => by
    refine (hg.block k (Nat.lt_of_lt_of_le hk h.size) (fun e => ?_)).trans (h.same k hk hc)
    obtain ⟨h1, h2⟩ := ho k e.symm
    rcases hc with hc | hc
    · omega
    · rcases h2 with h2 | ⟨c, t, fr, h2, h3⟩
      · omega
      · exact hc _ _ _ h2 h3⟩

theorem wpIn_ssaK_round {P : Program} {rl id : Nat} {l : List Oper} {a : Act} {w : World} {Q : Exit → Act → World → Prop} (hm : P.follows .mixedOrders = true) (hok : ssaOk l a.tmps.size = true)
    (n0 : Nat) (Ts U : Nat → List TypeId) (UF : List TypeId) (hk : kOk l Ts U UF = true)
    (R : Nat → World → World → Prop) (Φ : Nat → (Nat → Value) → Value → World → Prop)
    (hR : ∀ k, k < l.length → ∀ TS A C, (∀ t ∈ Ts k, t ∈ TS) → Keeps n0 TS w A → R k A C → Keeps n0 TS w C)
    (hst : ∀ j p, l[j]? = some p → ∀ k o, l[k]? = some o → k ≠ j → (before l p).contains k = false → ∀ vs v A C, Keeps n0 UF w A → R k A C → Φ j vs v A → Φ j vs v C)
    (hop : ∀ i o, l[i]? = some o → ∀ vs w', Keeps n0 (U i) w w' → (∀ j p, l[j]? = some p → j ∈ depsOf o → Φ j (mask p vs) (vs j) w') →
      if wantedV o vs = true then runOp P o (look l a o vs) w' (fun v w'' => R i w' w'' ∧ Φ i (mask o vs) v w'') else (R i w' w' ∧ Φ i (mask o vs) undef w'))
    (fin : ∀ vs w' A, (∀ t j, t < a.tmps.size → writer l t = some j → A.tmps.getD t undef = vs j) → A.defers = a.defers → A = fill l 0 vs a → Keeps n0 UF w w' → (∀ i o, l[i]? = some o → Φ i (mask o vs) (vs i) w') → Q .normal A w') :
    (Code.region id l.toArray true).wpIn (Fence.wide.inRound rl) 0 P Q a w := by
  refine wpIn_ssa2_round hm hok R (fun i A C => A = w → Keeps n0 (U i) w C ∧ Keeps n0 UF w C) (fun A C => A = w → Keeps n0 UF w C) (fun i vs v A => Keeps n0 UF w A ∧ Φ i vs v A) ?_ ?_ ?_ ?_ ?_ ?_ ?_
  · rintro j p hj k o ho hne hb vs v A C hr ⟨h1, h2⟩
    exact ⟨hR k (List.getElem?_eq_some_iff.1 ho).1 _ _ _ (kOk_at hk ho).1 h1 hr, hst j p hj k o ho hne hb vs v A C h1 hr h2⟩
  · intro j p hj k o ho hne hb A C hB hr e
    obtain ⟨h1, h2⟩ := hB e
    have hkl := (List.getElem?_eq_some_iff.1 ho).1
    exact ⟨hR k hkl _ _ _ ((kOk_at hk ho).2 j (List.getElem?_eq_some_iff.1 hj).1 hne hb) h1 hr, hR k hkl _ _ _ (kOk_at hk ho).1 h2 hr⟩
  · intro k o ho A C hB hr e
    exact hR k (List.getElem?_eq_some_iff.1 ho).1 _ _ _ (kOk_at hk ho).1 (hB e) hr
  · intro j _
    exact ⟨(Keeps.refl _ _ _).drew, (Keeps.refl _ _ _).drew⟩
  · intro _
    exact (Keeps.refl _ _ _).drew
  · intro i o ho vs w' hB hf
    obtain ⟨h1, h2⟩ := hB rfl
    have hil := (List.getElem?_eq_some_iff.1 ho).1
    have := hop i o ho vs w' h1 (fun j p hp hj => (hf j p hp hj).2)
    split
    · rw [if_pos ‹_›] at this
      exact this.mono fun v w'' ⟨hr, hp⟩ => ⟨hr, hR i hil _ _ _ (kOk_at hk ho).1 h2 hr, hp⟩
    · rw [if_neg ‹_›] at this
      exact ⟨this.1, hR i hil _ _ _ (kOk_at hk ho).1 h2 this.1, this.2⟩
  · intro vs w' A h1 h2 h3 h4 h5
    exact fin vs w' A h1 h2 h3 (h4 rfl) (fun i o ho => (h5 i o ho).2)

theorem wp_ssaK {P : Program} {id : Nat} {l : List Oper} {a : Act} {w : World} {Q : Exit → Act → World → Prop} (hm : P.follows .mixedOrders = true) (hok : ssaOk l a.tmps.size = true)
    (n0 : Nat) (Ts U : Nat → List TypeId) (UF : List TypeId) (hk : kOk l Ts U UF = true)
    (R : Nat → World → World → Prop) (Φ : Nat → (Nat → Value) → Value → World → Prop)
    (hR : ∀ k, k < l.length → ∀ TS A C, (∀ t ∈ Ts k, t ∈ TS) → Keeps n0 TS w A → R k A C → Keeps n0 TS w C)
    (hst : ∀ j p, l[j]? = some p → ∀ k o, l[k]? = some o → k ≠ j → (before l p).contains k = false → ∀ vs v A C, Keeps n0 UF w A → R k A C → Φ j vs v A → Φ j vs v C)
    (hop : ∀ i o, l[i]? = some o → ∀ vs w', Keeps n0 (U i) w w' → (∀ j p, l[j]? = some p → j ∈ depsOf o → Φ j (mask p vs) (vs j) w') →
      if wantedV o vs = true then runOp P o (look l a o vs) w' (fun v w'' => R i w' w'' ∧ Φ i (mask o vs) v w'') else (R i w' w' ∧ Φ i (mask o vs) undef w'))
    (fin : ∀ vs w' A, (∀ t j, t < a.tmps.size → writer l t = some j → A.tmps.getD t undef = vs j) → A.defers = a.defers → A = fill l 0 vs a → Keeps n0 UF w w' → (∀ i o, l[i]? = some o → Φ i (mask o vs) (vs i) w') → Q .normal A w') :
    (Code.region id l.toArray true).wp P Q a w := by
  refine wp_ssa2 hm hok R (fun i A C => A = w → Keeps n0 (U i) w C ∧ Keeps n0 UF w C) (fun A C => A = w → Keeps n0 UF w C) (fun i vs v A => Keeps n0 UF w A ∧ Φ i vs v A) ?_ ?_ ?_ ?_ ?_ ?_ ?_
  · rintro j p hj k o ho hne hb vs v A C hr ⟨h1, h2⟩
    exact ⟨hR k (List.getElem?_eq_some_iff.1 ho).1 _ _ _ (kOk_at hk ho).1 h1 hr, hst j p hj k o ho hne hb vs v A C h1 hr h2⟩
  · intro j p hj k o ho hne hb A C hB hr e
    obtain ⟨h1, h2⟩ := hB e
    have hkl := (List.getElem?_eq_some_iff.1 ho).1
    exact ⟨hR k hkl _ _ _ ((kOk_at hk ho).2 j (List.getElem?_eq_some_iff.1 hj).1 hne hb) h1 hr, hR k hkl _ _ _ (kOk_at hk ho).1 h2 hr⟩
  · intro k o ho A C hB hr e
    exact hR k (List.getElem?_eq_some_iff.1 ho).1 _ _ _ (kOk_at hk ho).1 (hB e) hr
  · intro j _
    exact ⟨(Keeps.refl _ _ _).drew, (Keeps.refl _ _ _).drew⟩
  · intro _
    exact (Keeps.refl _ _ _).drew
  · intro i o ho vs w' hB hf
    obtain ⟨h1, h2⟩ := hB rfl
    have hil := (List.getElem?_eq_some_iff.1 ho).1
    have := hop i o ho vs w' h1 (fun j p hp hj => (hf j p hp hj).2)
    split
    · rw [if_pos ‹_›] at this
      exact this.mono fun v w'' ⟨hr, hp⟩ => ⟨hr, hR i hil _ _ _ (kOk_at hk ho).1 h2 hr, hp⟩
    · rw [if_neg ‹_›] at this
      exact ⟨this.1, hR i hil _ _ _ (kOk_at hk ho).1 h2 this.1, this.2⟩
  · intro vs w' A h1 h2 h3 h4 h5
    exact fin vs w' A h1 h2 h3 (h4 rfl) (fun i o ho => (h5 i o ho).2)

/-- Facts of values alone stand. -/
theorem allAt2 {l : List Oper} {Pr : Nat → Oper → Nat → Oper → Prop} (h : AllAt (fun j p => AllAt (fun k o => Pr j p k o) 0 l) 0 l) : ∀ j p, l[j]? = some p → ∀ k o, l[k]? = some o → Pr j p k o :=
  fun j p hj k o ho => allAt (allAt h j p hj) k o ho

end Go.Proofs.Ytancfgmaejjooaa
