/- Regions of open order once more: each operation says what its step does; what stands when another is carried out is asked of those alone that may come ahead of it. -/
import Derived.Test.YtancfgmaejjooaaSsa
set_option linter.unusedVariables false
set_option linter.unusedSimpArgs false
namespace Go.Proofs.Ytancfgmaejjooaa
open Go.RowKit

/-- What an operation waits for, and what that waits for. -/
def reach (ops : List Oper) : Nat → List Nat → List Nat
  | 0, S => S
  | f + 1, S => reach ops f ((S ++ S.flatMap fun j => match ops[j]? with | some p => depsOf p | none => []).eraseDups)
def before (ops : List Oper) (o : Oper) : List Nat := reach ops ops.length (depsOf o)

/-- One fact an operation (Φ), what its step does (R), what stands when it is carried out (Bs), and in the end (BF). -/
structure SsaInv2 (ops : List Oper) (a0 : Act) (Bs : Nat → World → World → Prop) (BF : World → World → Prop) (Φ : Nat → (Nat → Value) → Value → World → Prop) (w0 : World) (L : Nat → Bool) (a : Act) (w : World) (vs : Nat → Value) : Prop where
  size : a.tmps.size = a0.tmps.size
  defers : a.defers = a0.defers
  slots : ∀ t, t < a0.tmps.size → a.tmps[t]? = some (slotV ops a0 L vs t)
  base : ∀ i o, ops[i]? = some o → L i = false → Bs i w0 w
  bf : BF w0 w
  facts : ∀ i o, ops[i]? = some o → L i = true → Φ i (mask o vs) (vs i) w
  closed : ∀ i o, ops[i]? = some o → L i = true → ∀ j ∈ depsOf o, L j = true

theorem reach_listed {ops : List Oper} {L : Nat → Bool} (hc : ∀ i o, ops[i]? = some o → L i = true → ∀ j ∈ depsOf o, L j = true) : ∀ (f : Nat) (S : List Nat), (∀ j ∈ S, L j = true) → ∀ j ∈ reach ops f S, L j = true
  | 0, _, h => h
  | f + 1, S, h => reach_listed hc f _ (by
      intro j hj
      rw [List.mem_eraseDups, List.mem_append, List.mem_flatMap] at hj
      rcases hj with hj | ⟨k, hk, hj⟩
      · exact h j hj
      · cases hp : ops[k]? with
        | none => simp [hp] at hj
        | some p =>
          rw [hp] at hj
          exact hc k p hp (h k hk) j hj)

theorem before_listed {ops : List Oper} {L : Nat → Bool} (hc : ∀ i o, ops[i]? = some o → L i = true → ∀ j ∈ depsOf o, L j = true) {o : Oper} (hd : ∀ j ∈ depsOf o, L j = true) {i : Nat} (hi : L i = false) : (before ops o).contains i = false := by
  cases h : (before ops o).contains i with
  | false => rfl
  | true =>
    have := reach_listed hc ops.length (depsOf o) hd i (by simpa [before] using h)
    rw [hi] at this
    cases this

section
variable {ops : List Oper} {n : Nat}

theorem SsaInv2.look {a0 a : Act} {Bs : Nat → World → World → Prop} {BF : World → World → Prop} {Φ : Nat → (Nat → Value) → Value → World → Prop} {w0 w : World} {L : Nat → Bool} {vs : Nat → Value}
    (hok : ssaOk ops a0.tmps.size = true) (h : SsaInv2 ops a0 Bs BF Φ w0 L a w vs) {i : Nat} {o : Oper} (ho : ops[i]? = some o) (hi : L i = false) (hd : ∀ j ∈ depsOf o, L j = true) :
    ∀ x ∈ o.op.operands, a.eval x = look ops a0 o vs x := by
  intro x hx
  obtain ⟨_, a2, _⟩ := ssaOk_at hok ho
  cases x with
  | const v => rfl
  | global g => rfl
  | func f => rfl
  | tmp t =>
    have ht : t ∈ tmpsRead o := List.mem_filterMap.2 ⟨.tmp t, by simpa using hx, rfl⟩
    simp only [Proofs.Ytancfgmaejjooaa.look, Act.eval]
    rcases Nat.lt_or_ge t a0.tmps.size with hlt | hge
    · have hs := h.slots t hlt
      have e : a.tmps.getD t undef = slotV ops a0 L vs t := by rw [Array.getD_eq_getD_getElem?, hs]; rfl
      rw [e]
      unfold slotV
      cases hw : writer ops t with
      | none => rfl
      | some j =>
        simp only []
        rcases a2 t ht j hw with hc | ⟨p, hp, hc⟩
        · rw [if_pos (hd j (by simpa using hc)), if_pos hc]
        · have hLj : L j = false := by
            cases hL : L j with
            | false => rfl
            | true =>
              have := h.closed j p hp hL i (by simpa using hc)
              rw [hi] at this
              cases this
          by_cases hc2 : (depsOf o).contains j = true
          · have := hd j (by simpa using hc2)
            rw [hLj] at this
            cases this
          · rw [if_neg (by rw [hLj]; simp), if_neg hc2]
    · have hw : writer ops t = none := by
        cases hw : writer ops t with
        | none => rfl
        | some j =>
          obtain ⟨p, hp, hdst⟩ := writer_spec hw
          exact absurd ((ssaOk_at hok hp).2.2.1 t hdst).2 (Nat.not_lt.2 hge)
      rw [hw]
      simp only []
      rw [Array.getD_eq_getD_getElem?, Array.getD_eq_getD_getElem?, Array.getElem?_eq_none (by rw [h.size]; exact hge), Array.getElem?_eq_none hge]

theorem SsaInv2.put {a0 a : Act} {Bs : Nat → World → World → Prop} {BF : World → World → Prop} {R : Nat → World → World → Prop} {Φ : Nat → (Nat → Value) → Value → World → Prop} {w0 w w' : World} {L : Nat → Bool} {vs : Nat → Value}
    (hok : ssaOk ops a0.tmps.size = true) (hst : ∀ j p, ops[j]? = some p → ∀ k o, ops[k]? = some o → k ≠ j → (before ops p).contains k = false → ∀ vs v A C, R k A C → Φ j vs v A → Φ j vs v C)
    (hB : ∀ j p, ops[j]? = some p → ∀ k o, ops[k]? = some o → k ≠ j → (before ops o).contains j = false → ∀ A C, Bs j w0 A → R k A C → Bs j w0 C) (hBF : ∀ k o, ops[k]? = some o → ∀ A C, BF w0 A → R k A C → BF w0 C)
    (h : SsaInv2 ops a0 Bs BF Φ w0 L a w vs) {i : Nat} {o : Oper} (ho : ops[i]? = some o) (hi : L i = false) (hd : ∀ j ∈ depsOf o, L j = true) (v : Value) (hR : R i w w') (hΦ : Φ i (mask o vs) v w') :
    SsaInv2 ops a0 Bs BF Φ w0 (fun j => if j = i then true else L j) (a.put o.dst v) w' (upd vs i v) := by
  obtain ⟨a1, _, a3, _⟩ := ssaOk_at hok ho
  have hne : ∀ j, L j = true → j ≠ i := fun j hj e => by subst e; rw [hi] at hj; cases hj
  refine ⟨?_, ?_, ?_, ?_, hBF i o ho _ _ h.bf hR, ?_, ?_⟩
  · cases hd : o.dst <;> simp [Act.put, h.size]
  · cases hd : o.dst <;> simp [Act.put, h.defers]
  · intro t ht
    have hs := h.slots t ht
    have key : (a.put o.dst v).tmps[t]? = if o.dst = some t then some v else a.tmps[t]? := by
      cases hdst : o.dst with
      | none => simp [Act.put]
      | some d =>
        simp only [Act.put, Array.getElem?_setIfInBounds]
        by_cases hdt : d = t
        · subst hdt
          simp [h.size, ht]
        · simp [hdt]
    rw [key]
    by_cases hdst : o.dst = some t
    · rw [if_pos hdst]
      have hw := (a3 t hdst).1
      unfold slotV
      rw [hw]
      simp [upd]
    · rw [if_neg hdst, hs]
      unfold slotV
      cases hw : writer ops t with
      | none => rfl
      | some j =>
        obtain ⟨p, hp, hpd⟩ := writer_spec hw
        have hji : j ≠ i := fun e => by subst e; rw [ho] at hp; cases hp; exact hdst hpd
        simp [upd, hji]
  · intro j p hp hj
    have hji : j ≠ i := fun e => by subst e; simp at hj
    simp only [hji, if_false] at hj
    exact hB j p hp i o ho (Ne.symm hji) (before_listed h.closed hd hj) _ _ (h.base j p hp hj) hR
  · intro j p hp hj
    by_cases hji : j = i
    · subst hji
      rw [ho] at hp
      cases hp
      have : mask o (upd vs j v) = mask o vs := mask_congr fun k hk => by
        have := a1 k hk
        unfold upd
        rw [if_neg (by omega)]
      rw [this]
      simpa [upd] using hΦ
    · simp only [hji, if_false] at hj
      have : mask p (upd vs i v) = mask p vs := mask_congr fun k hk => by
        have := hne k (h.closed j p hp hj k hk)
        unfold upd
        rw [if_neg this]
      rw [this]
      have hv : upd vs i v j = vs j := by unfold upd; rw [if_neg hji]
      rw [hv]
      exact hst j p hp i o ho (Ne.symm hji) (before_listed h.closed (h.closed j p hp hj) hi) _ _ _ _ hR (h.facts j p hp hj)
  · intro j p hp hj k hk
    by_cases hji : j = i
    · subst hji
      rw [ho] at hp
      cases hp
      simp [hd k hk]
    · simp only [hji, if_false] at hj
      simp [h.closed j p hp hj k hk]

theorem wpIn_ssa2 {F : Fence} {m : Nat} {P : Program} (hF : ∀ f args w R, Calls P f args w R → CallsIn F (m - 1) P f args w R) (hdep : F.depth = none) (hfn : ∀ f, F.fn f)
    {id : Nat} {l : List Oper} {a : Act} {w : World} {Q : Exit → Act → World → Prop} (hm : P.follows .mixedOrders = true) (hok : ssaOk l a.tmps.size = true)
    (R : Nat → World → World → Prop) (Bs : Nat → World → World → Prop) (BF : World → World → Prop) (Φ : Nat → (Nat → Value) → Value → World → Prop)
    (hst : ∀ j p, l[j]? = some p → ∀ k o, l[k]? = some o → k ≠ j → (before l p).contains k = false → ∀ vs v A C, R k A C → Φ j vs v A → Φ j vs v C)
    (hB : ∀ j p, l[j]? = some p → ∀ k o, l[k]? = some o → k ≠ j → (before l o).contains j = false → ∀ A C, Bs j w A → R k A C → Bs j w C)
    (hBF : ∀ k o, l[k]? = some o → ∀ A C, BF w A → R k A C → BF w C) (hB0 : ∀ j, Bs j w w.drew) (hBF0 : BF w w.drew)
    (hop : ∀ i o, l[i]? = some o → ∀ vs w', Bs i w w' → (∀ j p, l[j]? = some p → j ∈ depsOf o → Φ j (mask p vs) (vs j) w') →
      if wantedV o vs = true then runOp P o (look l a o vs) w' (fun v w'' => R i w' w'' ∧ Φ i (mask o vs) v w'') else (R i w' w' ∧ Φ i (mask o vs) undef w'))
    (fin : ∀ vs w' A, (∀ t j, t < a.tmps.size → writer l t = some j → A.tmps.getD t undef = vs j) → A.defers = a.defers → A = fill l 0 vs a → BF w w' → (∀ i o, l[i]? = some o → Φ i (mask o vs) (vs i) w') → Q .normal A w') :
    (Code.region id l.toArray true).wpIn F m P Q a w := by
  refine wpIn_region_any hm ?_
  have key : ∀ (fuel : Nat) (listed : Array Bool) (a' : Act) (w' : World), listed.size = l.length → listed.toList.count false ≤ fuel →
      (∃ vs, SsaInv2 l a Bs BF Φ w (fun j => listed.getD j false) a' w' vs) → wpAnyIn F m P .any l.toArray Q fuel listed a' w' := by
    have done : ∀ (listed : Array Bool) (a' : Act) (w' : World), listed.size = l.length → Region.ready .any l.toArray listed = [] → (∃ vs, SsaInv2 l a Bs BF Φ w (fun j => listed.getD j false) a' w' vs) → Q .normal a' w' := by
      rintro listed a' w' hsz hr ⟨vs, h⟩
      have hall := fun i hi => all_listed hok hsz hr i i (Nat.le_refl _) hi
      have e : a' = fill l 0 vs a := by
        have hf := fill_meta l 0 vs a
        have ht : a'.tmps = (fill l 0 vs a).tmps := by
          apply Array.ext_getElem?
          intro t
          rcases Nat.lt_or_ge t a.tmps.size with hlt | hge
          · have h1 := fill_slot hok vs t hlt l.length 0 a (by omega) rfl
            rw [List.drop_zero] at h1
            rw [h.slots t hlt, h1]
            unfold slotV
            cases hw : writer l t with
            | none => simp [hlt]
            | some j =>
              obtain ⟨p, hp, _⟩ := writer_spec hw
              simp [hall j (List.getElem?_eq_some_iff.1 hp).1]
          · rw [Array.getElem?_eq_none (by rw [h.size]; exact hge), Array.getElem?_eq_none (by rw [hf.1]; exact hge)]
        have hd : a'.defers = (fill l 0 vs a).defers := by rw [h.defers, hf.2]
        cases a'
        cases hfl : fill l 0 vs a
        rw [hfl] at ht hd
        simp only at ht hd
        rw [ht, hd]
      rw [e]
      exact fin vs w' _ (fun t j ht hw => fill_get hok vs ht hw) (fill_meta _ _ _ _).2 rfl h.bf (fun i o ho => h.facts i o ho (hall i (List.getElem?_eq_some_iff.1 ho).1))
    have step : ∀ (fuel : Nat) (listed : Array Bool) (a' : Act) (w' : World) (K : Array Bool → Act → World → Prop), listed.size = l.length →
        (∃ vs, SsaInv2 l a Bs BF Φ w (fun j => listed.getD j false) a' w' vs) →
        (∀ i a'' w'', i < l.length → listed.getD i false = false → (∃ vs, SsaInv2 l a Bs BF Φ w (fun j => (listed.setIfInBounds i true).getD j false) a'' w'' vs) → K (listed.setIfInBounds i true) a'' w'') →
        ∀ i ∈ Region.ready .any l.toArray listed, wpOpIn F m P l.toArray Q i (K (listed.setIfInBounds i true)) a' w' := by
      rintro fuel listed a' w' K hsz ⟨vs, h⟩ hK i hi
      obtain ⟨hni, o, ho, hdeps⟩ := mem_ready.1 hi
      have ho' : l[i]? = some o := by simpa using ho
      have hil := (List.getElem?_eq_some_iff.1 ho').1
      have hLi : listed.getD i false = false := by
        rw [Array.getD_eq_getD_getElem?] at hni ⊢
        have : listed[i]? = some listed[i] := Array.getElem?_eq_getElem (by omega)
        rw [this] at hni ⊢
        exact hni
      have hd : ∀ j ∈ depsOf o, listed.getD j false = true := by
        intro j hj
        obtain ⟨e, he, rfl⟩ := List.mem_map.1 hj
        obtain ⟨he1, he2⟩ := List.mem_filter.1 he
        exact hdeps e (by simpa using he1) he2
      have hLset : ∀ j, (listed.setIfInBounds i true).getD j false = (if j = i then true else listed.getD j false) := by
        intro j
        by_cases hji : j = i
        · subst hji
          rw [if_pos rfl, Array.getD_eq_getD_getElem?, Array.getElem?_setIfInBounds_self_of_lt (by omega)]
          rfl
        · rw [if_neg hji, getD_set_ne false (Ne.symm hji)]
      obtain ⟨_, _, _, a4, a5, a6⟩ := ssaOk_at hok ho'
      have hlook := h.look hok ho' hLi hd
      have hexec : execOp a'.eval o = execOp (look l a o vs) o := execOp_congr o a6 hlook
      have hwant : Region.wanted o (yielded l.toArray a'.tmps) = wantedV o vs := by
        unfold Region.wanted wantedV
        cases hg : o.guard with
        | none => rfl
        | some jb =>
          obtain ⟨j, b⟩ := jb
          obtain ⟨hc, p, t, hp, hpt⟩ := a4 j b hg
          obtain ⟨hw, hts⟩ := (ssaOk_at hok hp).2.2.1 t hpt
          have hs := h.slots t hts
          simp only []
          congr 1
          unfold yielded
          have hp' : l.toArray[j]? = some p := by simpa using hp
          simp only [hp', Option.bind_some, hpt, hs]
          unfold slotV
          rw [hw]
          simp only [hd j (by simpa using hc), if_true]
          cases vs j <;> rfl
      have hob := hop i o ho' vs w' (h.base i o ho' hLi) (fun j p hp hj => h.facts j p hp (hd j hj))
      have next : ∀ v w'', R i w' w'' → Φ i (mask o vs) v w'' → K (listed.setIfInBounds i true) (a'.put o.dst v) w'' := by
        intro v w'' hR hΦ
        refine hK i _ _ hil hLi ⟨upd vs i v, ?_⟩
        have := h.put hok hst hB hBF ho' hLi hd v hR hΦ
        have e : (fun j => (listed.setIfInBounds i true).getD j false) = (fun j => if j = i then true else listed.getD j false) := funext hLset
        rw [e]
        exact this
      unfold wpOpIn
      rw [ho]
      simp only []
      rw [hwant]
      by_cases hwv : wantedV o vs = true
      · rw [if_pos hwv] at hob ⊢
        refine ⟨fun f _ => hfn f, ?_⟩
        rw [Oper.semAt_plain F _ _ a5, hexec]
        unfold runOp at hob
        generalize (execOp (look l a o vs) o).run P w' = res at hob
        cases res with
        | halt x w1 => exact hob.elim
        | ok x w1 =>
          cases x with
          | value v => exact next v w1 hob.1 hob.2
          | skip => exact next undef w1 hob.1 hob.2
          | enter f args =>
            refine ⟨(fun hh => by rw [hdep] at hh; cases hh), (hF _ _ _ _ hob).mono ?_⟩
            rintro e w2 ⟨v, rfl, h1, h2⟩
            exact next v w2 h1 h2
          | _ => exact hob.elim
      · rw [if_neg hwv] at hob ⊢
        exact ⟨fun f _ => hfn f, next undef w' hob.1 hob.2⟩
    intro fuel
    induction fuel with
    | zero =>
      intro listed a' w' hsz hc hinv
      have hr : Region.ready .any l.toArray listed = [] := by
        apply List.eq_nil_iff_forall_not_mem.2
        intro i hi
        obtain ⟨hni, o, ho, _⟩ := mem_ready.1 hi
        have hil : i < l.length := by
          have : l[i]? = some o := by simpa using ho
          exact (List.getElem?_eq_some_iff.1 this).1
        have h0 : listed.toList.count false = 0 := by omega
        rw [List.count_eq_zero] at h0
        apply h0
        rw [Array.getD_eq_getD_getElem?] at hni
        have e : listed[i]? = some listed[i] := Array.getElem?_eq_getElem (by omega)
        rw [e] at hni
        have e2 : listed[i] = false := hni
        rw [← e2]
        simp
      exact ⟨hr, done listed a' w' hsz hr hinv⟩
    | succ fuel ih =>
      intro listed a' w' hsz hc hinv
      refine ⟨fun hr => done listed a' w' hsz hr hinv, ?_⟩
      refine step fuel listed a' w' (fun L a w => wpAnyIn F m P .any l.toArray Q fuel L a w) hsz hinv ?_
      intro i a'' w'' hil hLi hinv'
      refine ih _ _ _ (by simp [hsz]) ?_ hinv'
      have hi : i < listed.toList.length := by simp [hsz, hil]
      have e2 : listed.toList[i] = false := by
        rw [Array.getD_eq_getD_getElem?] at hLi
        have e : listed[i]? = some listed[i] := Array.getElem?_eq_getElem (by omega)
        rw [e] at hLi
        simpa using hLi
      have hpos : 0 < listed.toList.count false := List.count_pos_iff.2 (by rw [← e2]; exact List.getElem_mem hi)
      rw [Array.toList_setIfInBounds, List.count_set hi, e2]
      show listed.toList.count false - 1 + 0 ≤ fuel
      omega
  simp only [List.size_toArray]
  refine key l.length _ a { w with drawn := w.drawn + 1 } (by simp) ?_ ⟨fun _ => undef, ⟨rfl, rfl, ?_, fun i _ _ _ => hB0 i, hBF0, ?_, ?_⟩⟩
  · exact Nat.le_trans List.count_le_length (by simp)
  · intro t ht
    have : ∀ j : Nat, (Array.replicate l.length false).getD j false = false := by
      intro j
      rw [Array.getD_eq_getD_getElem?, Array.getElem?_replicate]
      split <;> rfl
    unfold slotV
    cases writer l t with
    | none => simp [ht]
    | some j => simp [this j, ht]
  · intro i o _ hL
    exfalso
    rw [Array.getD_eq_getD_getElem?, Array.getElem?_replicate] at hL
    split at hL <;> cases hL
  · intro i o _ hL
    exfalso
    rw [Array.getD_eq_getD_getElem?, Array.getElem?_replicate] at hL
    split at hL <;> cases hL

/-- .. in a plain walk; .. in a round. -/
theorem wp_ssa2 {P : Program} {id : Nat} {l : List Oper} {a : Act} {w : World} {Q : Exit → Act → World → Prop} (hm : P.follows .mixedOrders = true) (hok : ssaOk l a.tmps.size = true)
    (R : Nat → World → World → Prop) (Bs : Nat → World → World → Prop) (BF : World → World → Prop) (Φ : Nat → (Nat → Value) → Value → World → Prop)
    (hst : ∀ j p, l[j]? = some p → ∀ k o, l[k]? = some o → k ≠ j → (before l p).contains k = false → ∀ vs v A C, R k A C → Φ j vs v A → Φ j vs v C)
    (hB : ∀ j p, l[j]? = some p → ∀ k o, l[k]? = some o → k ≠ j → (before l o).contains j = false → ∀ A C, Bs j w A → R k A C → Bs j w C)
    (hBF : ∀ k o, l[k]? = some o → ∀ A C, BF w A → R k A C → BF w C) (hB0 : ∀ j, Bs j w w.drew) (hBF0 : BF w w.drew)
    (hop : ∀ i o, l[i]? = some o → ∀ vs w', Bs i w w' → (∀ j p, l[j]? = some p → j ∈ depsOf o → Φ j (mask p vs) (vs j) w') →
      if wantedV o vs = true then runOp P o (look l a o vs) w' (fun v w'' => R i w' w'' ∧ Φ i (mask o vs) v w'') else (R i w' w' ∧ Φ i (mask o vs) undef w'))
    (fin : ∀ vs w' A, (∀ t j, t < a.tmps.size → writer l t = some j → A.tmps.getD t undef = vs j) → A.defers = a.defers → A = fill l 0 vs a → BF w w' → (∀ i o, l[i]? = some o → Φ i (mask o vs) (vs i) w') → Q .normal A w') :
    (Code.region id l.toArray true).wp P Q a w :=
  (wpIn_wide (n := 0)).1 (wpIn_ssa2 (fun _ _ _ _ h => callsIn_wide.2 h) rfl (fun _ => trivial) hm hok R Bs BF Φ hst hB hBF hB0 hBF0 hop fin)
theorem wpIn_ssa2_round {P : Program} {rl id : Nat} {l : List Oper} {a : Act} {w : World} {Q : Exit → Act → World → Prop} (hm : P.follows .mixedOrders = true) (hok : ssaOk l a.tmps.size = true)
    (R : Nat → World → World → Prop) (Bs : Nat → World → World → Prop) (BF : World → World → Prop) (Φ : Nat → (Nat → Value) → Value → World → Prop)
    (hst : ∀ j p, l[j]? = some p → ∀ k o, l[k]? = some o → k ≠ j → (before l p).contains k = false → ∀ vs v A C, R k A C → Φ j vs v A → Φ j vs v C)
    (hB : ∀ j p, l[j]? = some p → ∀ k o, l[k]? = some o → k ≠ j → (before l o).contains j = false → ∀ A C, Bs j w A → R k A C → Bs j w C)
    (hBF : ∀ k o, l[k]? = some o → ∀ A C, BF w A → R k A C → BF w C) (hB0 : ∀ j, Bs j w w.drew) (hBF0 : BF w w.drew)
    (hop : ∀ i o, l[i]? = some o → ∀ vs w', Bs i w w' → (∀ j p, l[j]? = some p → j ∈ depsOf o → Φ j (mask p vs) (vs j) w') →
      if wantedV o vs = true then runOp P o (look l a o vs) w' (fun v w'' => R i w' w'' ∧ Φ i (mask o vs) v w'') else (R i w' w' ∧ Φ i (mask o vs) undef w'))
    (fin : ∀ vs w' A, (∀ t j, t < a.tmps.size → writer l t = some j → A.tmps.getD t undef = vs j) → A.defers = a.defers → A = fill l 0 vs a → BF w w' → (∀ i o, l[i]? = some o → Φ i (mask o vs) (vs i) w') → Q .normal A w') :
    (Code.region id l.toArray true).wpIn (Fence.wide.inRound rl) 0 P Q a w :=
  wpIn_ssa2 (fun _ _ _ _ h => CallsIn.inRound rl (callsIn_wide.2 h)) rfl (fun _ => trivial) hm hok R Bs BF Φ hst hB hBF hB0 hBF0 hop fin

theorem runOp_append {P : Program} {o : Oper} {ρ : Operand → Value} {w : World} {post : Value → World → Prop} (base : Nat) (e : TypeId) (z : Value) (size bytes : Nat) (s x : Operand) (t : TypeId)
    (ho : o.op = .call { callee := .builtin .append, args := #[s, x], argTypes := #[t, t] })
    (ht : P.underlying t = some (.slice e)) (hinfo : (P.info? e).map (fun i => (i.zero, i.size, i.bytes)) = some (some z, size, bytes))
    (hzs : z.cells.size = size) (hsz : 0 < size) (hb0 : 0 < bytes)
    (v : Value) (n : Nat) (cs : List Value) (hs : ρ s = v) (hown : w.ownsRow base e size v n cs)
    (A : Option Addr) (m c : Nat) (news : List Value) (hx : ρ x = .slice A m c) (hl : news.length = m * size) (hsrc : Src w A news) (h1 : ∀ u ∈ news, u.oneCell' = true)
    (hbytes : (n + m) * bytes ≤ 140737488355328) (hbase : base ≤ w.heap.size)
    (h : ∀ v' w', w'.ownsRow base e size v' (n + m) (cs ++ news) → w.grownBy w' v.ownBlock → (v'.ownBlock = v.ownBlock ∨ v'.ownBlock = some w.heap.size) → post v' w') : runOp P o ρ w post := by
  obtain ⟨v', w', hr, h2, h3, h4⟩ := run_append_all (P := P) w base t o.type e z size bytes ht hinfo hzs hsz hb0 v n cs hown A m c news hl hsrc h1 hbytes hbase
  unfold runOp execOp
  simp only [ho, resolve, invoke, builtin, Sem.run_bind, Sem.run_pure, Result.andThen_ok, List.map_toArray, List.map_cons, List.map_nil, hs, hx, hr]
  exact h v' w' h2 h3 h4

/-- Cells of a block as a source. -/
theorem RowAt.src {w : World} {b : Nat} {cs : Array Value} {t : TypeId} (h : RowAt w b cs t) : Src w (some ⟨b, 0, none⟩) cs.toList :=
  .inr ⟨b, 0, rfl, fun j hj => by rw [cell_of_row _ _ _ _ _ _ h]; simp at hj ⊢⟩

end

end Go.Proofs.Ytancfgmaejjooaa
