/- A region of open order: each operation is shown once, out of those alone that stand ahead of it in every order; no program in sight. -/
import Derived.Test.YtancfgmaejjooaaRange
import Derived.OrdersIn
set_option linter.unusedVariables false
set_option linter.unusedSimpArgs false
namespace Go.Proofs.Ytancfgmaejjooaa
open Go.RowKit

/-- What an operation waits for. -/
def depsOf (o : Oper) : List Nat := (o.after.toList.filter fun e => Region.binds .any e).map (·.on)
/-- The operation that writes a slot. -/
def writer (ops : List Oper) (t : Tmp) : Option Nat := ops.findIdx? fun o => o.dst == some t

def tmpsRead (o : Oper) : List Tmp := o.op.operands.toList.filterMap fun | .tmp t => some t | _ => none

/-- What is asked of a region, closed: it waits for earlier ones alone; a slot that it reads is written by one that it waits for, or that waits for it, or by none; no slot is written twice; a guard is waited for; no defer, no select. -/
def ssaOk (ops : List Oper) (size : Nat) : Bool :=
  (List.range ops.length).all fun i => match ops[i]? with
    | none => true
    | some o =>
      (depsOf o).all (fun j => decide (j < i)) &&
      (tmpsRead o).all (fun t => match writer ops t with
        | none => true
        | some j => (depsOf o).contains j || (match ops[j]? with | some p => (depsOf p).contains i | none => false)) &&
      (match o.dst with | none => true | some t => decide (writer ops t = some i) && decide (t < size)) &&
      (match o.guard with
        | none => true
        | some (j, _) => (depsOf o).contains j && (match ops[j]? with | some p => p.dst.isSome | none => false)) &&
      (match o.op with | .defer _ => false | .select .. => false | _ => true)

/-- What an operation sees in a slot. -/
def look (ops : List Oper) (a : Act) (o : Oper) (vs : Nat → Value) : Operand → Value
  | .tmp t => match writer ops t with
    | some j => if (depsOf o).contains j then vs j else a.eval (.tmp t)
    | none => a.eval (.tmp t)
  | x => a.eval x

def upd (vs : Nat → Value) (i : Nat) (v : Value) : Nat → Value := fun j => if j = i then v else vs j
/-- The values that an operation waited for, and no others. -/
def mask (o : Oper) (vs : Nat → Value) : Nat → Value := fun j => if (depsOf o).contains j then vs j else undef

/-- An operation's outcome: a value, or a call that returns one. -/
def runOp (P : Program) (o : Oper) (ρ : Operand → Value) (w : World) (post : Value → World → Prop) : Prop :=
  match (execOp ρ o).run P w with
  | .ok (.value v) w' => post v w'
  | .ok .skip w' => post undef w'
  | .ok (.enter f args) w' => Calls P f args w' fun e w'' => ∃ v, e = .returned v ∧ post v w''
  | _ => False

theorem runOp.mono {P : Program} {o : Oper} {ρ : Operand → Value} {w : World} {p q : Value → World → Prop} (h : runOp P o ρ w p) (hpq : ∀ v w, p v w → q v w) : runOp P o ρ w q := by
  unfold runOp at *
  generalize (execOp ρ o).run P w = r at *
  cases r with
  | halt x w1 => exact h.elim
  | ok x w1 =>
    cases x with
    | value v => exact hpq _ _ h
    | skip => exact hpq _ _ h
    | enter f args => exact h.mono fun e w2 ⟨v, he, hp⟩ => ⟨v, he, hpq _ _ hp⟩
    | _ => exact h.elim

def boolOf : Value → Option Bool | .bool b => some b | _ => none

/-- All written slots at once. -/
def fill : List Oper → Nat → (Nat → Value) → Act → Act
  | [], _, _, a => a
  | o :: r, k, vs, a => fill r (k + 1) vs (a.put o.dst (vs k))

def slotV (ops : List Oper) (a : Act) (L : Nat → Bool) (vs : Nat → Value) (t : Tmp) : Value :=
  match writer ops t with
  | some j => if L j then vs j else a.tmps.getD t undef
  | none => a.tmps.getD t undef

/-- It waits for all the others. -/
def sink (ops : List Oper) (i : Nat) (o : Oper) : Bool := (List.range ops.length).all fun k => decide (k = i) || (depsOf o).contains k

structure SsaInv (ops : List Oper) (a0 : Act) (R R' : World → World → Prop) (Φ : Nat → (Nat → Value) → Value → World → Prop) (w0 : World) (L : Nat → Bool) (a : Act) (w : World) (vs : Nat → Value) : Prop where
  size : a.tmps.size = a0.tmps.size
  defers : a.defers = a0.defers
  slots : ∀ t, t < a0.tmps.size → a.tmps[t]? = some (slotV ops a0 L vs t)
  rel : (∀ i o, ops[i]? = some o → L i = true → sink ops i o = false) → R w0 w
  rel' : R w0 w ∨ ∃ w1, R w0 w1 ∧ R' w1 w
  facts : ∀ i o, ops[i]? = some o → L i = true → Φ i (mask o vs) (vs i) w
  closed : ∀ i o, ops[i]? = some o → L i = true → ∀ j ∈ depsOf o, L j = true

theorem writer_spec {ops : List Oper} {t : Tmp} {j : Nat} (h : writer ops t = some j) : ∃ o, ops[j]? = some o ∧ o.dst = some t := by
  unfold writer at h
  rw [List.findIdx?_eq_some_iff_getElem] at h
  obtain ⟨hj, he, _⟩ := h
  exact ⟨ops[j], List.getElem?_eq_getElem hj, by simpa using he⟩

section
variable {ops : List Oper} {n : Nat}

theorem ssaOk_at (h : ssaOk ops n = true) {i : Nat} {o : Oper} (ho : ops[i]? = some o) :
    (∀ j ∈ depsOf o, j < i) ∧
    (∀ t ∈ tmpsRead o, ∀ j, writer ops t = some j → (depsOf o).contains j = true ∨ ∃ p, ops[j]? = some p ∧ (depsOf p).contains i = true) ∧
    (∀ t, o.dst = some t → writer ops t = some i ∧ t < n) ∧
    (∀ j b, o.guard = some (j, b) → (depsOf o).contains j = true ∧ ∃ p t, ops[j]? = some p ∧ p.dst = some t) ∧
    (∀ c, o.op ≠ .defer c) ∧ (∀ cs b, o.op ≠ .select cs b) := by
  unfold ssaOk at h
  have hi : i < ops.length := (List.getElem?_eq_some_iff.1 ho).1
  have h1 := List.all_eq_true.1 h i (List.mem_range.2 hi)
  simp only [ho, Bool.and_eq_true] at h1
  obtain ⟨⟨⟨⟨a1, a2⟩, a3⟩, a4⟩, a5⟩ := h1
  refine ⟨?_, ?_, ?_, ?_, ?_, ?_⟩
  · intro j hj
    simpa using List.all_eq_true.1 a1 j hj
  · intro t ht j hj
    have := List.all_eq_true.1 a2 t ht
    simp only [hj, Bool.or_eq_true] at this
    rcases this with h | h
    · exact .inl h
    · cases hp : ops[j]? with
      | none => simp [hp] at h
      | some p => exact .inr ⟨p, rfl, by simpa [hp] using h⟩
  · intro t ht
    simp only [ht, Bool.and_eq_true, decide_eq_true_eq] at a3
    exact a3
  · intro j b hg
    simp only [hg, Bool.and_eq_true] at a4
    refine ⟨a4.1, ?_⟩
    cases hp : ops[j]? with
    | none => simp [hp] at a4
    | some p =>
      have := a4.2
      simp only [hp] at this
      obtain ⟨t, ht⟩ := Option.isSome_iff_exists.1 this
      exact ⟨p, t, rfl, ht⟩
  · intro c hc
    simp [hc] at a5
  · intro cs b hc
    simp [hc] at a5

theorem mask_congr {o : Oper} {vs vs' : Nat → Value} (h : ∀ j ∈ depsOf o, vs j = vs' j) : mask o vs = mask o vs' := by
  funext j
  unfold mask
  by_cases hj : (depsOf o).contains j = true
  · rw [if_pos hj, if_pos hj, h j (by simpa using hj)]
  · rw [if_neg hj, if_neg hj]

theorem SsaInv.look {a0 a : Act} {R R' : World → World → Prop} {Φ : Nat → (Nat → Value) → Value → World → Prop} {w0 w : World} {L : Nat → Bool} {vs : Nat → Value}
    (hok : ssaOk ops a0.tmps.size = true) (h : SsaInv ops a0 R R' Φ w0 L a w vs) {i : Nat} {o : Oper} (ho : ops[i]? = some o) (hi : L i = false) (hd : ∀ j ∈ depsOf o, L j = true) :
    ∀ x ∈ o.op.operands, a.eval x = look ops a0 o vs x := by
  intro x hx
  obtain ⟨_, a2, _⟩ := ssaOk_at hok ho
  cases x with
  | const v => rfl
  | global g => rfl
  | func f => rfl
  | tmp t =>
    have ht : t ∈ tmpsRead o := List.mem_filterMap.2 ⟨.tmp t, by simpa using hx, rfl⟩
    simp only [Proofs.Ytancfgmaejjooaa.look, Act.eval]
    rcases Nat.lt_or_ge t a0.tmps.size with hlt | hge
    · have hs := h.slots t hlt
      have e : a.tmps.getD t undef = slotV ops a0 L vs t := by rw [Array.getD_eq_getD_getElem?, hs]; rfl
      rw [e]
      unfold slotV
      cases hw : writer ops t with
      | none => rfl
      | some j =>
        simp only []
        rcases a2 t ht j hw with hc | ⟨p, hp, hc⟩
        · rw [if_pos (hd j (by simpa using hc)), if_pos hc]
        · have hLj : L j = false := by
            cases hL : L j with
            | false => rfl
            | true =>
              have := h.closed j p hp hL i (by simpa using hc)
              rw [hi] at this
              cases this
          by_cases hc2 : (depsOf o).contains j = true
          · have := hd j (by simpa using hc2)
            rw [hLj] at this
            cases this
          · rw [if_neg (by rw [hLj]; simp), if_neg hc2]
    · have hw : writer ops t = none := by
        cases hw : writer ops t with
        | none => rfl
        | some j =>
          obtain ⟨p, hp, hdst⟩ := writer_spec hw
          exact absurd ((ssaOk_at hok hp).2.2.1 t hdst).2 (Nat.not_lt.2 hge)
      rw [hw]
      simp only []
      rw [Array.getD_eq_getD_getElem?, Array.getD_eq_getD_getElem?, Array.getElem?_eq_none (by rw [h.size]; exact hge), Array.getElem?_eq_none hge]

theorem SsaInv.noSink {a0 a : Act} {R R' : World → World → Prop} {Φ : Nat → (Nat → Value) → Value → World → Prop} {w0 w : World} {L : Nat → Bool} {vs : Nat → Value}
    (h : SsaInv ops a0 R R' Φ w0 L a w vs) {i : Nat} {o : Oper} (ho : ops[i]? = some o) (hi : L i = false) : ∀ j p, ops[j]? = some p → L j = true → sink ops j p = false := by
  intro j p hp hj
  cases hs : sink ops j p with
  | false => rfl
  | true =>
    have h1 := List.all_eq_true.1 hs i (List.mem_range.2 (List.getElem?_eq_some_iff.1 ho).1)
    simp only [Bool.or_eq_true, decide_eq_true_eq] at h1
    rcases h1 with h1 | h1
    · subst h1
      rw [hi] at hj
      cases hj
    · have := h.closed j p hp hj i (by simpa using h1)
      rw [hi] at this
      cases this

theorem SsaInv.put {a0 a : Act} {R R' : World → World → Prop} {Φ : Nat → (Nat → Value) → Value → World → Prop} {w0 w w' : World} {L : Nat → Bool} {vs : Nat → Value}
    (hok : ssaOk ops a0.tmps.size = true) (hst : ∀ i o, ops[i]? = some o → ∀ vs v A C, sink ops i o = false → (R A C ∨ R' A C) → Φ i vs v A → Φ i vs v C) (htr : ∀ A C D, R A C → R C D → R A D)
    (h : SsaInv ops a0 R R' Φ w0 L a w vs) {i : Nat} {o : Oper} (ho : ops[i]? = some o) (hi : L i = false) (hd : ∀ j ∈ depsOf o, L j = true) (v : Value) (hR : sink ops i o = false → R w w') (hR' : sink ops i o = true → R' w w') (hΦ : Φ i (mask o vs) v w') :
    SsaInv ops a0 R R' Φ w0 (fun j => if j = i then true else L j) (a.put o.dst v) w' (upd vs i v) := by
  obtain ⟨a1, _, a3, _⟩ := ssaOk_at hok ho
  have hne : ∀ j, L j = true → j ≠ i := fun j hj e => by subst e; rw [hi] at hj; cases hj
  have hno := h.noSink ho hi
  have hrw := h.rel hno
  refine ⟨?_, ?_, ?_, fun hall => htr _ _ _ hrw (hR (hall i o ho (by simp))), ?_, ?_, ?_⟩
  · cases hd : o.dst <;> simp [Act.put, h.size]
  · cases hd : o.dst <;> simp [Act.put, h.defers]
  · intro t ht
    have hs := h.slots t ht
    have key : (a.put o.dst v).tmps[t]? = if o.dst = some t then some v else a.tmps[t]? := by
      cases hdst : o.dst with
      | none => simp [Act.put]
      | some d =>
        simp only [Act.put, Array.getElem?_setIfInBounds]
        by_cases hdt : d = t
        · subst hdt
          simp [h.size, ht]
        · simp [hdt]
    rw [key]
    by_cases hdst : o.dst = some t
    · rw [if_pos hdst]
      have hw := (a3 t hdst).1
      unfold slotV
      rw [hw]
      simp [upd]
    · rw [if_neg hdst, hs]
      unfold slotV
      cases hw : writer ops t with
      | none => rfl
      | some j =>
        obtain ⟨p, hp, hpd⟩ := writer_spec hw
        have hji : j ≠ i := fun e => by subst e; rw [ho] at hp; cases hp; exact hdst hpd
        simp [upd, hji]
  · cases hs : sink ops i o with
    | false => exact .inl (htr _ _ _ hrw (hR hs))
    | true => exact .inr ⟨w, hrw, hR' hs⟩
  · intro j p hp hj
    by_cases hji : j = i
    · subst hji
      rw [ho] at hp
      cases hp
      have : mask o (upd vs j v) = mask o vs := mask_congr fun k hk => by
        have := a1 k hk
        unfold upd
        rw [if_neg (by omega)]
      rw [this]
      simpa [upd] using hΦ
    · simp only [hji, if_false] at hj
      have : mask p (upd vs i v) = mask p vs := mask_congr fun k hk => by
        have := hne k (h.closed j p hp hj k hk)
        unfold upd
        rw [if_neg this]
      rw [this]
      have hv : upd vs i v j = vs j := by unfold upd; rw [if_neg hji]
      rw [hv]
      cases hs : sink ops i o with
      | false => exact hst _ _ hp _ _ _ _ (hno j p hp hj) (.inl (hR hs)) (h.facts j p hp hj)
      | true => exact hst _ _ hp _ _ _ _ (hno j p hp hj) (.inr (hR' hs)) (h.facts j p hp hj)
  · intro j p hp hj k hk
    by_cases hji : j = i
    · subst hji
      rw [ho] at hp
      cases hp
      simp [hd k hk]
    · simp only [hji, if_false] at hj
      simp [h.closed j p hp hj k hk]

theorem fill_meta : ∀ (l : List Oper) (k : Nat) (vs : Nat → Value) (b : Act), (fill l k vs b).tmps.size = b.tmps.size ∧ (fill l k vs b).defers = b.defers
  | [], _, _, _ => ⟨rfl, rfl⟩
  | o :: r, k, vs, b => by
    have h := fill_meta r (k + 1) vs (b.put o.dst (vs k))
    have e : (b.put o.dst (vs k)).tmps.size = b.tmps.size ∧ (b.put o.dst (vs k)).defers = b.defers := by cases o.dst <;> simp [Act.put]
    exact ⟨h.1.trans e.1, h.2.trans e.2⟩

theorem fill_slot (hok : ssaOk ops n = true) (vs : Nat → Value) (t : Tmp) (ht : t < n) : ∀ (m k : Nat) (b : Act), m + k = ops.length → b.tmps.size = n →
    (fill (ops.drop k) k vs b).tmps[t]? = match writer ops t with | some j => if k ≤ j then some (vs j) else b.tmps[t]? | none => b.tmps[t]?
  | 0, k, b, hk, _ => by
    rw [List.drop_of_length_le (by omega)]
    show b.tmps[t]? = _
    cases hw : writer ops t with
    | none => rfl
    | some j =>
      obtain ⟨p, hp, _⟩ := writer_spec hw
      have := (List.getElem?_eq_some_iff.1 hp).1
      simp only []
      rw [if_neg (by omega)]
  | m + 1, k, b, hk, hb => by
    have hlt : k < ops.length := by omega
    rw [List.drop_eq_getElem_cons hlt]
    show (fill (ops.drop (k + 1)) (k + 1) vs (b.put ops[k].dst (vs k))).tmps[t]? = _
    have ho : ops[k]? = some ops[k] := List.getElem?_eq_getElem hlt
    rw [fill_slot hok vs t ht m (k + 1) _ (by omega) (by cases ops[k].dst <;> simp [Act.put, hb])]
    have key : (b.put ops[k].dst (vs k)).tmps[t]? = if ops[k].dst = some t then some (vs k) else b.tmps[t]? := by
      cases hdst : ops[k].dst with
      | none => simp [Act.put]
      | some d =>
        simp only [Act.put, Array.getElem?_setIfInBounds]
        by_cases hdt : d = t
        · subst hdt
          simp [hb, ht]
        · simp [hdt]
    cases hw : writer ops t with
    | none =>
      simp only []
      rw [key, if_neg (fun e => by have := ((ssaOk_at hok ho).2.2.1 t e).1; rw [hw] at this; cases this)]
    | some j =>
      simp only []
      by_cases hkj : k + 1 ≤ j
      · rw [if_pos hkj, if_pos (by omega)]
      · rw [if_neg hkj, key]
        by_cases he : k = j
        · subst he
          obtain ⟨p, hp, hpd⟩ := writer_spec hw
          rw [ho] at hp
          cases hp
          rw [if_pos hpd, if_pos (Nat.le_refl _)]
        · rw [if_neg (fun e => by have := ((ssaOk_at hok ho).2.2.1 t e).1; rw [hw] at this; cases this; exact he rfl), if_neg (by omega)]

theorem fill_get {l : List Oper} {a : Act} (hok : ssaOk l a.tmps.size = true) (vs : Nat → Value) {t : Tmp} {j : Nat} (ht : t < a.tmps.size) (hw : writer l t = some j) : (fill l 0 vs a).tmps.getD t undef = vs j := by
  have h := fill_slot hok vs t ht l.length 0 a (by omega) rfl
  rw [List.drop_zero, hw] at h
  simp only [Nat.zero_le, if_true] at h
  rw [Array.getD_eq_getD_getElem?, h]
  rfl

/-- Is it carried out? -/
def wantedV (o : Oper) (vs : Nat → Value) : Bool :=
  match o.guard with
  | none => true
  | some (j, want) => boolOf (vs j) == some want

theorem all_listed {listed : Array Bool} (hok : ssaOk ops n = true) (hsz : listed.size = ops.length) (hr : Region.ready .any ops.toArray listed = []) : ∀ (m i : Nat), i ≤ m → i < ops.length → listed.getD i false = true := by
  intro m
  induction m with
  | zero =>
    intro i hi hil
    obtain rfl : i = 0 := by omega
    cases hL : listed.getD 0 false with
    | true => rfl
    | false =>
      have hmem : (0 : Nat) ∈ Region.ready .any ops.toArray listed := mem_ready.2 ⟨by
        rw [Array.getD_eq_getD_getElem?] at hL ⊢
        have : listed[0]? = some listed[0] := Array.getElem?_eq_getElem (by omega)
        rw [this] at hL ⊢
        exact hL, ops[0], by simp, fun e he hb => by
          have := (ssaOk_at hok (List.getElem?_eq_getElem hil)).1 e.on (List.mem_map.2 ⟨e, List.mem_filter.2 ⟨by simpa using he, hb⟩, rfl⟩)
          omega⟩
      rw [hr] at hmem
      cases hmem
  | succ m ih =>
    intro i hi hil
    cases hL : listed.getD i false with
    | true => rfl
    | false =>
      have hmem : i ∈ Region.ready .any ops.toArray listed := mem_ready.2 ⟨by
        rw [Array.getD_eq_getD_getElem?] at hL ⊢
        have : listed[i]? = some listed[i] := Array.getElem?_eq_getElem (by omega)
        rw [this] at hL ⊢
        exact hL, ops[i], by simp [hil], fun e he hb => by
          have := (ssaOk_at hok (List.getElem?_eq_getElem hil)).1 e.on (List.mem_map.2 ⟨e, List.mem_filter.2 ⟨by simpa using he, hb⟩, rfl⟩)
          exact ih e.on (by omega) (by omega)⟩
      rw [hr] at hmem
      cases hmem

theorem wpIn_ssa {F : Fence} {m : Nat} {P : Program} (hF : ∀ f args w R, Calls P f args w R → CallsIn F (m - 1) P f args w R) (hdep : F.depth = none) (hfn : ∀ f, F.fn f)
    {id : Nat} {l : List Oper} {a : Act} {w : World} {Q : Exit → Act → World → Prop} (hm : P.follows .mixedOrders = true) (hok : ssaOk l a.tmps.size = true)
    (R R' : World → World → Prop) (Φ : Nat → (Nat → Value) → Value → World → Prop) (htr : ∀ A C D, R A C → R C D → R A D)
    (hst : ∀ i o, l[i]? = some o → ∀ vs v A C, sink l i o = false → (R A C ∨ R' A C) → Φ i vs v A → Φ i vs v C) (hr0 : R w w.drew)
    (hop : ∀ i o, l[i]? = some o → sink l i o = false → ∀ vs w', R w w' → (∀ j p, l[j]? = some p → j ∈ depsOf o → Φ j (mask p vs) (vs j) w') →
      if wantedV o vs = true then runOp P o (look l a o vs) w' (fun v w'' => R w' w'' ∧ Φ i (mask o vs) v w'') else (R w' w' ∧ Φ i (mask o vs) undef w'))
    (hsink : ∀ i o, l[i]? = some o → sink l i o = true → ∀ vs w', R w w' → (∀ j p, l[j]? = some p → j ∈ depsOf o → Φ j (mask p vs) (vs j) w') →
      if wantedV o vs = true then runOp P o (look l a o vs) w' (fun v w'' => R' w' w'' ∧ Φ i (mask o vs) v w'') else (R' w' w' ∧ Φ i (mask o vs) undef w'))
    (fin : ∀ vs w' A, (∀ t j, t < a.tmps.size → writer l t = some j → A.tmps.getD t undef = vs j) → A.defers = a.defers → A = fill l 0 vs a → (R w w' ∨ ∃ w1, R w w1 ∧ R' w1 w') → (∀ i o, l[i]? = some o → Φ i (mask o vs) (vs i) w') → Q .normal A w') :
    (Code.region id l.toArray true).wpIn F m P Q a w := by
  refine wpIn_region_any hm ?_
  have key : ∀ (fuel : Nat) (listed : Array Bool) (a' : Act) (w' : World), listed.size = l.length → listed.toList.count false ≤ fuel →
      (∃ vs, SsaInv l a R R' Φ w (fun j => listed.getD j false) a' w' vs) → wpAnyIn F m P .any l.toArray Q fuel listed a' w' := by
    have done : ∀ (listed : Array Bool) (a' : Act) (w' : World), listed.size = l.length → Region.ready .any l.toArray listed = [] → (∃ vs, SsaInv l a R R' Φ w (fun j => listed.getD j false) a' w' vs) → Q .normal a' w' := by
      rintro listed a' w' hsz hr ⟨vs, h⟩
      have hall := fun i hi => all_listed hok hsz hr i i (Nat.le_refl _) hi
      have e : a' = fill l 0 vs a := by
        have hf := fill_meta l 0 vs a
        have ht : a'.tmps = (fill l 0 vs a).tmps := by
          apply Array.ext_getElem?
          intro t
          rcases Nat.lt_or_ge t a.tmps.size with hlt | hge
          · have h1 := fill_slot hok vs t hlt l.length 0 a (by omega) rfl
            rw [List.drop_zero] at h1
            rw [h.slots t hlt, h1]
            unfold slotV
            cases hw : writer l t with
            | none => simp [hlt]
            | some j =>
              obtain ⟨p, hp, _⟩ := writer_spec hw
              simp [hall j (List.getElem?_eq_some_iff.1 hp).1]
          · rw [Array.getElem?_eq_none (by rw [h.size]; exact hge), Array.getElem?_eq_none (by rw [hf.1]; exact hge)]
        have hd : a'.defers = (fill l 0 vs a).defers := by rw [h.defers, hf.2]
        cases a'
        cases hfl : fill l 0 vs a
        rw [hfl] at ht hd
        simp only at ht hd
        rw [ht, hd]
      rw [e]
      exact fin vs w' _ (fun t j ht hw => fill_get hok vs ht hw) (fill_meta _ _ _ _).2 rfl h.rel' (fun i o ho => h.facts i o ho (hall i (List.getElem?_eq_some_iff.1 ho).1))
    have step : ∀ (fuel : Nat) (listed : Array Bool) (a' : Act) (w' : World) (K : Array Bool → Act → World → Prop), listed.size = l.length →
        (∃ vs, SsaInv l a R R' Φ w (fun j => listed.getD j false) a' w' vs) →
        (∀ i a'' w'', i < l.length → listed.getD i false = false → (∃ vs, SsaInv l a R R' Φ w (fun j => (listed.setIfInBounds i true).getD j false) a'' w'' vs) → K (listed.setIfInBounds i true) a'' w'') →
        ∀ i ∈ Region.ready .any l.toArray listed, wpOpIn F m P l.toArray Q i (K (listed.setIfInBounds i true)) a' w' := by
      rintro fuel listed a' w' K hsz ⟨vs, h⟩ hK i hi
      obtain ⟨hni, o, ho, hdeps⟩ := mem_ready.1 hi
      have ho' : l[i]? = some o := by simpa using ho
      have hil := (List.getElem?_eq_some_iff.1 ho').1
      have hLi : listed.getD i false = false := by
        rw [Array.getD_eq_getD_getElem?] at hni ⊢
        have : listed[i]? = some listed[i] := Array.getElem?_eq_getElem (by omega)
        rw [this] at hni ⊢
        exact hni
      have hd : ∀ j ∈ depsOf o, listed.getD j false = true := by
        intro j hj
        obtain ⟨e, he, rfl⟩ := List.mem_map.1 hj
        obtain ⟨he1, he2⟩ := List.mem_filter.1 he
        exact hdeps e (by simpa using he1) he2
      have hLset : ∀ j, (listed.setIfInBounds i true).getD j false = (if j = i then true else listed.getD j false) := by
        intro j
        by_cases hji : j = i
        · subst hji
          rw [if_pos rfl, Array.getD_eq_getD_getElem?, Array.getElem?_setIfInBounds_self_of_lt (by omega)]
          rfl
        · rw [if_neg hji, getD_set_ne false (Ne.symm hji)]
      obtain ⟨_, _, _, a4, a5, a6⟩ := ssaOk_at hok ho'
      have hlook := h.look hok ho' hLi hd
      have hexec : execOp a'.eval o = execOp (look l a o vs) o := execOp_congr o a6 hlook
      have hwant : Region.wanted o (yielded l.toArray a'.tmps) = wantedV o vs := by
        unfold Region.wanted wantedV
        cases hg : o.guard with
        | none => rfl
        | some jb =>
          obtain ⟨j, b⟩ := jb
          obtain ⟨hc, p, t, hp, hpt⟩ := a4 j b hg
          obtain ⟨hw, hts⟩ := (ssaOk_at hok hp).2.2.1 t hpt
          have hs := h.slots t hts
          simp only []
          congr 1
          unfold yielded
          have hp' : l.toArray[j]? = some p := by simpa using hp
          simp only [hp', Option.bind_some, hpt, hs]
          unfold slotV
          rw [hw]
          simp only [hd j (by simpa using hc), if_true]
          cases vs j <;> rfl
      have hrw := h.rel (h.noSink ho' hLi)
      have hob : if wantedV o vs = true then runOp P o (look l a o vs) w' (fun v w'' => ((sink l i o = false → R w' w'') ∧ (sink l i o = true → R' w' w'')) ∧ Φ i (mask o vs) v w'') else ((sink l i o = false → R w' w') ∧ (sink l i o = true → R' w' w')) ∧ Φ i (mask o vs) undef w' := by
        cases hs : sink l i o with
        | false =>
          have hh := hop i o ho' hs vs w' hrw (fun j p hp hj => h.facts j p hp (hd j hj))
          split at hh
          · rename_i hw
            rw [if_pos hw]
            exact hh.mono fun v w'' h => ⟨⟨fun _ => h.1, nofun⟩, h.2⟩
          · rename_i hw
            rw [if_neg hw]
            exact ⟨⟨fun _ => hh.1, nofun⟩, hh.2⟩
        | true =>
          have hh := hsink i o ho' hs vs w' hrw (fun j p hp hj => h.facts j p hp (hd j hj))
          split at hh
          · rename_i hw
            rw [if_pos hw]
            exact hh.mono fun v w'' h => ⟨⟨nofun, fun _ => h.1⟩, h.2⟩
          · rename_i hw
            rw [if_neg hw]
            exact ⟨⟨nofun, fun _ => hh.1⟩, hh.2⟩
      have next : ∀ v w'', ((sink l i o = false → R w' w'') ∧ (sink l i o = true → R' w' w'')) → Φ i (mask o vs) v w'' → K (listed.setIfInBounds i true) (a'.put o.dst v) w'' := by
        intro v w'' hR hΦ
        refine hK i _ _ hil hLi ⟨upd vs i v, ?_⟩
        have := h.put hok hst htr ho' hLi hd v hR.1 hR.2 hΦ
        have e : (fun j => (listed.setIfInBounds i true).getD j false) = (fun j => if j = i then true else listed.getD j false) := funext hLset
        rw [e]
        exact this
      unfold wpOpIn
      rw [ho]
      simp only []
      rw [hwant]
      by_cases hwv : wantedV o vs = true
      · rw [if_pos hwv] at hob ⊢
        refine ⟨fun f _ => hfn f, ?_⟩
        rw [Oper.semAt_plain F _ _ a5, hexec]
        unfold runOp at hob
        generalize (execOp (look l a o vs) o).run P w' = res at hob
        cases res with
        | halt x w1 => exact hob.elim
        | ok x w1 =>
          cases x with
          | value v => exact next v w1 hob.1 hob.2
          | skip => exact next undef w1 hob.1 hob.2
          | enter f args =>
            refine ⟨(fun hh => by rw [hdep] at hh; cases hh), (hF _ _ _ _ hob).mono ?_⟩
            rintro e w2 ⟨v, rfl, h1, h2⟩
            exact next v w2 h1 h2
          | _ => exact hob.elim
      · rw [if_neg hwv] at hob ⊢
        exact ⟨fun f _ => hfn f, next undef w' hob.1 hob.2⟩
    intro fuel
    induction fuel with
    | zero =>
      intro listed a' w' hsz hc hinv
      have hr : Region.ready .any l.toArray listed = [] := by
        apply List.eq_nil_iff_forall_not_mem.2
        intro i hi
        obtain ⟨hni, o, ho, _⟩ := mem_ready.1 hi
        have hil : i < l.length := by
          have : l[i]? = some o := by simpa using ho
          exact (List.getElem?_eq_some_iff.1 this).1
        have h0 : listed.toList.count false = 0 := by omega
        rw [List.count_eq_zero] at h0
        apply h0
        rw [Array.getD_eq_getD_getElem?] at hni
        have e : listed[i]? = some listed[i] := Array.getElem?_eq_getElem (by omega)
        rw [e] at hni
        have e2 : listed[i] = false := hni
        rw [← e2]
        simp
      exact ⟨hr, done listed a' w' hsz hr hinv⟩
    | succ fuel ih =>
      intro listed a' w' hsz hc hinv
      refine ⟨fun hr => done listed a' w' hsz hr hinv, ?_⟩
      refine step fuel listed a' w' (fun L a w => wpAnyIn F m P .any l.toArray Q fuel L a w) hsz hinv ?_
      intro i a'' w'' hil hLi hinv'
      refine ih _ _ _ (by simp [hsz]) ?_ hinv'
      have hi : i < listed.toList.length := by simp [hsz, hil]
      have e2 : listed.toList[i] = false := by
        rw [Array.getD_eq_getD_getElem?] at hLi
        have e : listed[i]? = some listed[i] := Array.getElem?_eq_getElem (by omega)
        rw [e] at hLi
        simpa using hLi
      have hpos : 0 < listed.toList.count false := List.count_pos_iff.2 (by rw [← e2]; exact List.getElem_mem hi)
      rw [Array.toList_setIfInBounds, List.count_set hi, e2]
      show listed.toList.count false - 1 + 0 ≤ fuel
      omega
  simp only [List.size_toArray]
  refine key l.length _ a { w with drawn := w.drawn + 1 } (by simp) ?_ ⟨fun _ => undef, ⟨rfl, rfl, ?_, fun _ => hr0, .inl hr0, ?_, ?_⟩⟩
  · exact Nat.le_trans List.count_le_length (by simp)
  · intro t ht
    have : ∀ j : Nat, (Array.replicate l.length false).getD j false = false := by
      intro j
      rw [Array.getD_eq_getD_getElem?, Array.getElem?_replicate]
      split <;> rfl
    unfold slotV
    cases writer l t with
    | none => simp [ht]
    | some j => simp [this j, ht]
  · intro i o _ hL
    exfalso
    rw [Array.getD_eq_getD_getElem?, Array.getElem?_replicate] at hL
    split at hL <;> cases hL
  · intro i o _ hL
    exfalso
    rw [Array.getD_eq_getD_getElem?, Array.getElem?_replicate] at hL
    split at hL <;> cases hL

/-- .. in a plain walk. -/
theorem wp_ssa {P : Program} {id : Nat} {l : List Oper} {a : Act} {w : World} {Q : Exit → Act → World → Prop} (hm : P.follows .mixedOrders = true) (hok : ssaOk l a.tmps.size = true)
    (R R' : World → World → Prop) (Φ : Nat → (Nat → Value) → Value → World → Prop) (htr : ∀ A C D, R A C → R C D → R A D)
    (hst : ∀ i o, l[i]? = some o → ∀ vs v A C, sink l i o = false → (R A C ∨ R' A C) → Φ i vs v A → Φ i vs v C) (hr0 : R w w.drew)
    (hop : ∀ i o, l[i]? = some o → sink l i o = false → ∀ vs w', R w w' → (∀ j p, l[j]? = some p → j ∈ depsOf o → Φ j (mask p vs) (vs j) w') →
      if wantedV o vs = true then runOp P o (look l a o vs) w' (fun v w'' => R w' w'' ∧ Φ i (mask o vs) v w'') else (R w' w' ∧ Φ i (mask o vs) undef w'))
    (hsink : ∀ i o, l[i]? = some o → sink l i o = true → ∀ vs w', R w w' → (∀ j p, l[j]? = some p → j ∈ depsOf o → Φ j (mask p vs) (vs j) w') →
      if wantedV o vs = true then runOp P o (look l a o vs) w' (fun v w'' => R' w' w'' ∧ Φ i (mask o vs) v w'') else (R' w' w' ∧ Φ i (mask o vs) undef w'))
    (fin : ∀ vs w' A, (∀ t j, t < a.tmps.size → writer l t = some j → A.tmps.getD t undef = vs j) → A.defers = a.defers → A = fill l 0 vs a → (R w w' ∨ ∃ w1, R w w1 ∧ R' w1 w') → (∀ i o, l[i]? = some o → Φ i (mask o vs) (vs i) w') → Q .normal A w') :
    (Code.region id l.toArray true).wp P Q a w :=
  (wpIn_wide (n := 0)).1 (wpIn_ssa (fun _ _ _ _ h => callsIn_wide.2 h) rfl (fun _ => trivial) hm hok R R' Φ htr hst hr0 hop hsink fin)

/-- .. in a round. -/
theorem wpIn_ssa_round {P : Program} {rl : Nat} {id : Nat} {l : List Oper} {a : Act} {w : World} {Q : Exit → Act → World → Prop} (hm : P.follows .mixedOrders = true) (hok : ssaOk l a.tmps.size = true)
    (R R' : World → World → Prop) (Φ : Nat → (Nat → Value) → Value → World → Prop) (htr : ∀ A C D, R A C → R C D → R A D)
    (hst : ∀ i o, l[i]? = some o → ∀ vs v A C, sink l i o = false → (R A C ∨ R' A C) → Φ i vs v A → Φ i vs v C) (hr0 : R w w.drew)
    (hop : ∀ i o, l[i]? = some o → sink l i o = false → ∀ vs w', R w w' → (∀ j p, l[j]? = some p → j ∈ depsOf o → Φ j (mask p vs) (vs j) w') →
      if wantedV o vs = true then runOp P o (look l a o vs) w' (fun v w'' => R w' w'' ∧ Φ i (mask o vs) v w'') else (R w' w' ∧ Φ i (mask o vs) undef w'))
    (hsink : ∀ i o, l[i]? = some o → sink l i o = true → ∀ vs w', R w w' → (∀ j p, l[j]? = some p → j ∈ depsOf o → Φ j (mask p vs) (vs j) w') →
      if wantedV o vs = true then runOp P o (look l a o vs) w' (fun v w'' => R' w' w'' ∧ Φ i (mask o vs) v w'') else (R' w' w' ∧ Φ i (mask o vs) undef w'))
    (fin : ∀ vs w' A, (∀ t j, t < a.tmps.size → writer l t = some j → A.tmps.getD t undef = vs j) → A.defers = a.defers → A = fill l 0 vs a → (R w w' ∨ ∃ w1, R w w1 ∧ R' w1 w') → (∀ i o, l[i]? = some o → Φ i (mask o vs) (vs i) w') → Q .normal A w') :
    (Code.region id l.toArray true).wpIn (Fence.wide.inRound rl) 0 P Q a w :=
  wpIn_ssa (fun _ _ _ _ h => CallsIn.inRound rl (callsIn_wide.2 h)) rfl (fun _ => trivial) hm hok R R' Φ htr hst hr0 hop hsink fin

/-- One by one. -/
def AllAt (Pr : Nat → Oper → Prop) : Nat → List Oper → Prop
  | _, [] => True
  | k, o :: r => Pr k o ∧ AllAt Pr (k + 1) r
theorem allAt_of {Pr : Nat → Oper → Prop} : ∀ {l : List Oper} {k : Nat}, AllAt Pr k l → ∀ i o, l[i]? = some o → Pr (k + i) o
  | [], _, _, i, o, h => by simp at h
  | p :: r, k, h, 0, o, ho => by
    simp at ho
    subst ho
    exact h.1
  | p :: r, k, h, i + 1, o, ho => by
    have := allAt_of h.2 i o (by simpa using ho)
    rw [show k + (i + 1) = k + 1 + i by omega]
    exact this
theorem allAt {Pr : Nat → Oper → Prop} {l : List Oper} (h : AllAt Pr 0 l) (i : Nat) (o : Oper) (ho : l[i]? = some o) : Pr i o := by
  have := allAt_of h i o ho
  rwa [Nat.zero_add] at this

theorem plain_op {o : Oper} {vs : Nat → Value} {A B : Prop} (hg : o.guard = none) (h : A) : if wantedV o vs = true then A else B := by
  rw [if_pos (by unfold wantedV; rw [hg])]
  exact h

/-- A block's cells, whole; a word that simp doesn't open. -/
def RowAt (w : World) (b : Nat) (cs : Array Value) (t : TypeId) : Prop := w.heap[b]? = some (.cells cs t (0, 0))
theorem RowAt.new (w : World) (cs : Array Value) (t : TypeId) : RowAt (w.alloc (.cells cs t)) w.heap.size cs t := heap_new _ _ _ rfl
theorem RowAt.keepsC {w w' : World} {b : Nat} {cs : Array Value} {t : TypeId} {n0 : Nat} {TS : List TypeId} (h : RowAt w b cs t) (he : KeepsC n0 TS w w') (hc : b < n0 ∨ t ∉ TS) : RowAt w' b cs t := by
  have hlt : b < w.heap.size := by
    rcases Nat.lt_or_ge b w.heap.size with h' | h'
    · exact h'
    · unfold RowAt at h
      simp [Array.getElem?_eq_none h'] at h
  exact (he.same b hlt (hc.imp id fun ht => ⟨_, t, _, h, ht⟩)).trans h
theorem RowAt.keeps {w w' : World} {b : Nat} {cs : Array Value} {t : TypeId} {n0 : Nat} {TS : List TypeId} (h : RowAt w b cs t) (he : Keeps n0 TS w w') (hc : b < n0 ∨ t ∉ TS) : RowAt w' b cs t := h.keepsC (.of_keeps he) hc
theorem RowAt.ext {w w' : World} {b : Nat} {cs : Array Value} {t : TypeId} (h : RowAt w b cs t) (he : Ext w w') : RowAt w' b cs t := h.keepsC (n0 := 0) (TS := []) (.of_ext he) (.inr (by simp))

end

end Go.Proofs.Ytancfgmaejjooaa
