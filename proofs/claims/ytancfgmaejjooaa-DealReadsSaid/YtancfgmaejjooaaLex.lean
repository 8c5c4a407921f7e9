/- A region of open order, walked once, in the order of the text: each operation is carried out in a world of its own, of which is known what stood ahead of it in every order; calls say their outcome beforehand; writes stand in one order. No program in sight. -/
import Derived.Test.YtancfgmaejjooaaSsa3
set_option linter.unusedVariables false
set_option linter.unusedSimpArgs false
namespace Go.Proofs.Ytancfgmaejjooaa
open Go.RowKit

section
variable {ops : List Oper} {n : Nat}

theorem wpIn_ssaX {F : Fence} {m : Nat} {P : Program} (hF : ∀ f args w R, Calls P f args w R → CallsIn F (m - 1) P f args w R) (hdep : F.depth = none) (hfn : ∀ f, F.fn f)
    {id : Nat} {l : List Oper} {a : Act} {w : World} {Q : Exit → Act → World → Prop} (hm : P.follows .mixedOrders = true) (hok : ssaOk l a.tmps.size = true)
    (X : (Nat → Bool) → World → (Nat → Value) → Prop) (h0 : X (fun _ => false) w.drew (fun _ => undef))
    (hop : ∀ i o, l[i]? = some o → ∀ L vs w', L i = false → (∀ j ∈ depsOf o, L j = true) → (∀ j p, l[j]? = some p → L j = true → ∀ k ∈ depsOf p, L k = true) → X L w' vs →
      if wantedV o vs = true then runOp P o (look l a o vs) w' (fun v w'' => X (fun j => if j = i then true else L j) w'' (upd vs i v)) else X (fun j => if j = i then true else L j) w' (upd vs i undef))
    (fin : ∀ vs w' L, (∀ i, i < l.length → L i = true) → X L w' vs → Q .normal (fill l 0 vs a) w') :
    (Code.region id l.toArray true).wpIn F m P Q a w := by
  refine wpIn_region_any hm ?_
  have key : ∀ (fuel : Nat) (listed : Array Bool) (a' : Act) (w' : World), listed.size = l.length → listed.toList.count false ≤ fuel →
      (∃ vs, SsaInv2 l a (fun _ _ _ => True) (fun _ _ => True) (fun _ _ _ _ => True) w (fun j => listed.getD j false) a' w' vs ∧ X (fun j => listed.getD j false) w' vs) → wpAnyIn F m P .any l.toArray Q fuel listed a' w' := by
    have done : ∀ (listed : Array Bool) (a' : Act) (w' : World), listed.size = l.length → Region.ready .any l.toArray listed = [] → (∃ vs, SsaInv2 l a (fun _ _ _ => True) (fun _ _ => True) (fun _ _ _ _ => True) w (fun j => listed.getD j false) a' w' vs ∧ X (fun j => listed.getD j false) w' vs) → Q .normal a' w' := by
      rintro listed a' w' hsz hr ⟨vs, h, hX⟩
      have hall := fun i hi => all_listed hok hsz hr i i (Nat.le_refl _) hi
      have e : a' = fill l 0 vs a := by
        have hf := fill_meta l 0 vs a
        have ht : a'.tmps = (fill l 0 vs a).tmps := by
          apply Array.ext_getElem?
          intro t
          rcases Nat.lt_or_ge t a.tmps.size with hlt | hge
          · have h1 := fill_slot hok vs t hlt l.length 0 a (by omega) rfl
            rw [List.drop_zero] at h1
            rw [h.slots t hlt, h1]
            unfold slotV
            cases hw : writer l t with
            | none => simp [hlt]
            | some j =>
              obtain ⟨p, hp, _⟩ := writer_spec hw
              simp [hall j (List.getElem?_eq_some_iff.1 hp).1]
          · rw [Array.getElem?_eq_none (by rw [h.size]; exact hge), Array.getElem?_eq_none (by rw [hf.1]; exact hge)]
        have hd : a'.defers = (fill l 0 vs a).defers := by rw [h.defers, hf.2]
        cases a'
        cases hfl : fill l 0 vs a
        rw [hfl] at ht hd
        simp only at ht hd
        rw [ht, hd]
      rw [e]
      exact fin vs w' _ (fun i hi => hall i hi) hX
    have step : ∀ (fuel : Nat) (listed : Array Bool) (a' : Act) (w' : World) (K : Array Bool → Act → World → Prop), listed.size = l.length →
        (∃ vs, SsaInv2 l a (fun _ _ _ => True) (fun _ _ => True) (fun _ _ _ _ => True) w (fun j => listed.getD j false) a' w' vs ∧ X (fun j => listed.getD j false) w' vs) →
        (∀ i a'' w'', i < l.length → listed.getD i false = false → (∃ vs, SsaInv2 l a (fun _ _ _ => True) (fun _ _ => True) (fun _ _ _ _ => True) w (fun j => (listed.setIfInBounds i true).getD j false) a'' w'' vs ∧ X (fun j => (listed.setIfInBounds i true).getD j false) w'' vs) → K (listed.setIfInBounds i true) a'' w'') →
        ∀ i ∈ Region.ready .any l.toArray listed, wpOpIn F m P l.toArray Q i (K (listed.setIfInBounds i true)) a' w' := by
      rintro fuel listed a' w' K hsz ⟨vs, h, hX⟩ hK i hi
      obtain ⟨hni, o, ho, hdeps⟩ := mem_ready.1 hi
      have ho' : l[i]? = some o := by simpa using ho
      have hil := (List.getElem?_eq_some_iff.1 ho').1
      have hLi : listed.getD i false = false := by
        rw [Array.getD_eq_getD_getElem?] at hni ⊢
        have : listed[i]? = some listed[i] := Array.getElem?_eq_getElem (by omega)
        rw [this] at hni ⊢
        exact hni
      have hd : ∀ j ∈ depsOf o, listed.getD j false = true := by
        intro j hj
        obtain ⟨e, he, rfl⟩ := List.mem_map.1 hj
        obtain ⟨he1, he2⟩ := List.mem_filter.1 he
        exact hdeps e (by simpa using he1) he2
      have hLset : ∀ j, (listed.setIfInBounds i true).getD j false = (if j = i then true else listed.getD j false) := by
        intro j
        by_cases hji : j = i
        · subst hji
          rw [if_pos rfl, Array.getD_eq_getD_getElem?, Array.getElem?_setIfInBounds_self_of_lt (by omega)]
          rfl
        · rw [if_neg hji, getD_set_ne false (Ne.symm hji)]
      obtain ⟨_, _, _, a4, a5, a6⟩ := ssaOk_at hok ho'
      have hlook := h.look hok ho' hLi hd
      have hexec : execOp a'.eval o = execOp (look l a o vs) o := execOp_congr o a6 hlook
      have hwant : Region.wanted o (yielded l.toArray a'.tmps) = wantedV o vs := by
        unfold Region.wanted wantedV
        cases hg : o.guard with
        | none => rfl
        | some jb =>
          obtain ⟨j, b⟩ := jb
          obtain ⟨hc, p, t, hp, hpt⟩ := a4 j b hg
          obtain ⟨hw, hts⟩ := (ssaOk_at hok hp).2.2.1 t hpt
          have hs := h.slots t hts
          simp only []
          congr 1
          unfold yielded
          have hp' : l.toArray[j]? = some p := by simpa using hp
          simp only [hp', Option.bind_some, hpt, hs]
          unfold slotV
          rw [hw]
          simp only [hd j (by simpa using hc), if_true]
          cases vs j <;> rfl
      have hob := hop i o ho' _ vs w' hLi hd h.closed hX
      have e : (fun j => (listed.setIfInBounds i true).getD j false) = (fun j => if j = i then true else listed.getD j false) := funext hLset
      have next : ∀ v w'', X (fun j => if j = i then true else listed.getD j false) w'' (upd vs i v) → K (listed.setIfInBounds i true) (a'.put o.dst v) w'' := by
        intro v w'' hX'
        refine hK i _ _ hil hLi ⟨upd vs i v, ?_, ?_⟩
        · have := h.put (R := fun _ _ _ => True) (w' := w'') hok (fun _ _ _ _ _ _ _ _ _ _ _ _ _ _ => trivial) (fun _ _ _ _ _ _ _ _ _ _ _ _ => trivial) (fun _ _ _ _ _ _ _ => trivial) ho' hLi hd v trivial trivial
          rw [e]
          exact this
        · rw [e]
          exact hX'
      unfold wpOpIn
      rw [ho]
      simp only []
      rw [hwant]
      by_cases hwv : wantedV o vs = true
      · rw [if_pos hwv] at hob ⊢
        refine ⟨fun f _ => hfn f, ?_⟩
        rw [Oper.semAt_plain F _ _ a5, hexec]
        unfold runOp at hob
        generalize (execOp (look l a o vs) o).run P w' = res at hob
        cases res with
        | halt x w1 => exact hob.elim
        | ok x w1 =>
          cases x with
          | value v => exact next v w1 hob
          | skip => exact next undef w1 hob
          | enter f args =>
            refine ⟨(fun hh => by rw [hdep] at hh; cases hh), (hF _ _ _ _ hob).mono ?_⟩
            rintro e w2 ⟨v, rfl, h1⟩
            exact next v w2 h1
          | _ => exact hob.elim
      · rw [if_neg hwv] at hob ⊢
        exact ⟨fun f _ => hfn f, next undef w' hob⟩
    intro fuel
    induction fuel with
    | zero =>
      intro listed a' w' hsz hc hinv
      have hr : Region.ready .any l.toArray listed = [] := by
        apply List.eq_nil_iff_forall_not_mem.2
        intro i hi
        obtain ⟨hni, o, ho, _⟩ := mem_ready.1 hi
        have hil : i < l.length := by
          have : l[i]? = some o := by simpa using ho
          exact (List.getElem?_eq_some_iff.1 this).1
        have h0 : listed.toList.count false = 0 := by omega
        rw [List.count_eq_zero] at h0
        apply h0
        rw [Array.getD_eq_getD_getElem?] at hni
        have e : listed[i]? = some listed[i] := Array.getElem?_eq_getElem (by omega)
        rw [e] at hni
        have e2 : listed[i] = false := hni
        rw [← e2]
        simp
      exact ⟨hr, done listed a' w' hsz hr hinv⟩
    | succ fuel ih =>
      intro listed a' w' hsz hc hinv
      refine ⟨fun hr => done listed a' w' hsz hr hinv, ?_⟩
      refine step fuel listed a' w' (fun L a w => wpAnyIn F m P .any l.toArray Q fuel L a w) hsz hinv ?_
      intro i a'' w'' hil hLi hinv'
      refine ih _ _ _ (by simp [hsz]) ?_ hinv'
      have hi : i < listed.toList.length := by simp [hsz, hil]
      have e2 : listed.toList[i] = false := by
        rw [Array.getD_eq_getD_getElem?] at hLi
        have e : listed[i]? = some listed[i] := Array.getElem?_eq_getElem (by omega)
        rw [e] at hLi
        simpa using hLi
      have hpos : 0 < listed.toList.count false := List.count_pos_iff.2 (by rw [← e2]; exact List.getElem_mem hi)
      rw [Array.toList_setIfInBounds, List.count_set hi, e2]
      show listed.toList.count false - 1 + 0 ≤ fuel
      omega
  simp only [List.size_toArray]
  have e0 : (fun j => (Array.replicate l.length false).getD j false) = fun _ => false := by
    funext j
    rw [Array.getD_eq_getD_getElem?, Array.getElem?_replicate]
    split <;> rfl
  refine key l.length _ a { w with drawn := w.drawn + 1 } (by simp) ?_ ⟨fun _ => undef, ⟨rfl, rfl, ?_, fun _ _ _ _ => trivial, trivial, fun _ _ _ _ => trivial, ?_⟩, by rw [e0]; exact h0⟩
  · exact Nat.le_trans List.count_le_length (by simp)
  · intro t ht
    have : ∀ j : Nat, (Array.replicate l.length false).getD j false = false := by
      intro j
      rw [Array.getD_eq_getD_getElem?, Array.getElem?_replicate]
      split <;> rfl
    unfold slotV
    cases writer l t with
    | none => simp [ht]
    | some j => simp [this j, ht]
  · intro i o _ hL
    exfalso
    rw [Array.getD_eq_getD_getElem?, Array.getElem?_replicate] at hL
    split at hL <;> cases hL

end

theorem wantedV_congr {o : Oper} {vs vs' : Nat → Value} {l : List Oper} {n i : Nat} (hok : ssaOk l n = true) (ho : l[i]? = some o) (h : ∀ j ∈ depsOf o, vs j = vs' j) : wantedV o vs = wantedV o vs' := by
  obtain ⟨_, _, _, a4, _⟩ := ssaOk_at hok ho
  unfold wantedV
  cases hg : o.guard with
  | none => rfl
  | some jb =>
    obtain ⟨j, b⟩ := jb
    have := h j (by simpa using (a4 j b hg).1)
    simp only []
    rw [this]
theorem look_congr {o : Oper} {vs vs' : Nat → Value} {l : List Oper} {a : Act} (h : ∀ j ∈ depsOf o, vs j = vs' j) : look l a o vs = look l a o vs' := by
  funext x
  cases x with
  | const v => rfl
  | global g => rfl
  | func f => rfl
  | tmp t =>
    simp only [look]
    cases writer l t with
    | none => rfl
    | some j =>
      simp only []
      by_cases hc : (depsOf o).contains j = true
      · rw [if_pos hc, if_pos hc, h j (by simpa using hc)]
      · rw [if_neg hc, if_neg hc]

theorem fr_done {l : List Oper} {a a' : Act} {Bs : Nat → World → World → Prop} {BF : World → World → Prop} {Φ : Nat → (Nat → Value) → Value → World → Prop} {w w' : World} {L : Nat → Bool} {vs : Nat → Value}
    (hok : ssaOk l a.tmps.size = true) (h : SsaInv2 l a Bs BF Φ w L a' w' vs) (hall : ∀ i, i < l.length → L i = true) : a' = fill l 0 vs a := by
  have hf := fill_meta l 0 vs a
  have ht : a'.tmps = (fill l 0 vs a).tmps := by
    apply Array.ext_getElem?
    intro t
    rcases Nat.lt_or_ge t a.tmps.size with hlt | hge
    · have h1 := fill_slot hok vs t hlt l.length 0 a (by omega) rfl
      rw [List.drop_zero] at h1
      rw [h.slots t hlt, h1]
      unfold slotV
      cases hw : writer l t with
      | none => simp [hlt]
      | some j =>
        obtain ⟨p, hp, _⟩ := writer_spec hw
        simp [hall j (List.getElem?_eq_some_iff.1 hp).1]
    · rw [Array.getElem?_eq_none (by rw [h.size]; exact hge), Array.getElem?_eq_none (by rw [hf.1]; exact hge)]
  have hd : a'.defers = (fill l 0 vs a).defers := by rw [h.defers, hf.2]
  cases a'
  cases hfl : fill l 0 vs a
  rw [hfl] at ht hd
  simp only at ht hd
  rw [ht, hd]

/-- An operation's outcome that enters no function. -/
def runPlain (P : Program) (o : Oper) (ρ : Operand → Value) (w : World) (post : Value → World → Prop) : Prop :=
  match (execOp ρ o).run P w with
  | .ok (.value v) w' => post v w'
  | .ok .skip w' => post undef w'
  | _ => False
theorem runPlain.op {P : Program} {o : Oper} {ρ : Operand → Value} {w : World} {p : Value → World → Prop} (h : runPlain P o ρ w p) : runOp P o ρ w p := by
  unfold runPlain at h
  unfold runOp
  generalize (execOp ρ o).run P w = r at *
  cases r with
  | halt x w1 => exact h.elim
  | ok x w1 => cases x <;> first | exact h | exact h.elim
theorem runPlain.out {P : Program} {o : Oper} {ρ : Operand → Value} {w : World} {p : Value → World → Prop} (h : runPlain P o ρ w p) : ∃ v w1, runPlain P o ρ w (fun v' w' => v' = v ∧ w' = w1) ∧ p v w1 := by
  unfold runPlain at *
  generalize (execOp ρ o).run P w = r at *
  cases r with
  | halt x w1 => exact h.elim
  | ok x w1 =>
    cases x with
    | value v => exact ⟨v, w1, ⟨rfl, rfl⟩, h⟩
    | skip => exact ⟨undef, w1, ⟨rfl, rfl⟩, h⟩
    | _ => exact h.elim
theorem runPlain.exact {P : Program} {o : Oper} {ρ : Operand → Value} {w : World} {p : Value → World → Prop} {v : Value} {w1 : World} (h : runPlain P o ρ w (fun v' w' => v' = v ∧ w' = w1)) (hp : runPlain P o ρ w p) : p v w1 := by
  unfold runPlain at *
  generalize (execOp ρ o).run P w = r at *
  cases r with
  | halt x w1 => exact h.elim
  | ok x w1 =>
    cases x with
    | value v => obtain ⟨rfl, rfl⟩ := h; exact hp
    | skip => obtain ⟨rfl, rfl⟩ := h; exact hp
    | _ => exact h.elim
theorem runPlain.both {P : Program} {o : Oper} {ρ : Operand → Value} {w : World} {p q : Value → World → Prop} (h : runPlain P o ρ w p) (k : ∀ v w1, runPlain P o ρ w (fun v' w' => v' = v ∧ w' = w1) → p v w1 → q v w1) : runPlain P o ρ w q := by
  have h' := h
  unfold runPlain at h' ⊢
  revert h'
  generalize hr : (execOp ρ o).run P w = r
  intro h'
  cases r with
  | halt x w1 => exact h'.elim
  | ok x w1 =>
    cases x with
    | value v => exact k v w1 (by unfold runPlain; rw [hr]; exact ⟨rfl, rfl⟩) h'
    | skip => exact k undef w1 (by unfold runPlain; rw [hr]; exact ⟨rfl, rfl⟩) h'
    | _ => exact h'.elim
theorem runOp.out {P : Program} {o : Oper} {ρ : Operand → Value} {w : World} {p : Value → World → Prop} (h : runOp P o ρ w p) : ∃ v w1, p v w1 := by
  unfold runOp at h
  generalize (execOp ρ o).run P w = r at *
  cases r with
  | halt x w1 => exact h.elim
  | ok x w1 =>
    cases x with
    | value v => exact ⟨v, w1, h⟩
    | skip => exact ⟨undef, w1, h⟩
    | enter f args =>
      obtain ⟨e, w', fr, ⟨v, _, hp⟩, _⟩ := h []
      exact ⟨v, w', hp⟩
    | _ => exact h.elim
theorem runPlain_eval {P : Program} {o : Oper} {ρ ρ' : Operand → Value} {w : World} {p : Value → World → Prop} (e : execOp ρ o = execOp ρ' o) (h : runPlain P o ρ w p) : runPlain P o ρ' w p := by
  unfold runPlain at *
  rwa [← e]
theorem runOp_eval {P : Program} {o : Oper} {ρ ρ' : Operand → Value} {w : World} {p : Value → World → Prop} (e : execOp ρ o = execOp ρ' o) (h : runOp P o ρ w p) : runOp P o ρ' w p := by
  unfold runOp at *
  rwa [← e]

/-! ### The table: of each operation its kind, and what is known to stand ahead of it -/

/-- Kinds: 0 looks at no memory; 1 reads or makes; 2 writes; 3, 4: calls that make, that write. -/
def isW (c : Nat) : Bool := c == 2 || c == 4
abbrev Tab := List (Nat × Bool × List Nat)
def Tab.row (T : Tab) (i : Nat) : Nat × Bool × List Nat := T.getD i (0, false, [])
def Tab.cls (T : Tab) (i : Nat) : Nat := (T.row i).1
/-- No write stands behind j and ahead of what waits for these. -/
def clear1 (l : List Oper) (T : Tab) (B : List Nat) (j : Nat) : Bool :=
  (List.range l.length).all fun k => !isW (T.cls k) || !B.contains k || (match l[k]? with | some q => !(before l q).contains j | none => true)
def tabAt (l : List Oper) (T : Tab) (i : Nat) (o : Oper) : Bool :=
  (T.cls i == 0 ||
    ((!(T.row i).2.1 || (List.range l.length).all (fun k => !isW (T.cls k) || !(before l o).contains k)) &&
     (T.row i).2.2.all (fun j => T.cls j != 0 && (before l o).contains j && clear1 l T (before l o) j))) &&
  (!isW (T.cls i) || (List.range l.length).all fun j => decide (j = i) || T.cls j == 0 || (before l o).contains j || (match l[j]? with | some q => (before l q).contains i | none => true))
def tabOk (l : List Oper) (T : Tab) : Bool :=
  decide (T.length = l.length + 1) && ((List.range l.length).all fun i => match l[i]? with | some o => tabAt l T i o | none => true) &&
  ((!(T.row l.length).2.1 || (List.range l.length).all (fun k => !isW (T.cls k))) &&
    (T.row l.length).2.2.all (fun j => decide (j < l.length) && T.cls j != 0 && clear1 l T (List.range l.length) j))

def HyF (w : World) (ws : Nat → World) (r : Bool × List Nat) (w0 : World) : Prop := (r.1 = true → Ext w w0) ∧ ∀ j ∈ r.2, Ext (ws j) w0
def Rel (c : Nat) (A C : World) : Prop := if c = 0 then C = A else if isW c = true then True else Ext A C
def updW (ws : Nat → World) (i : Nat) (w : World) : Nat → World := fun j => if j = i then w else ws j

/-- The walk. -/
def EW (P : Program) (w : World) (p : Nat → World → Value → World → Prop) (Q : Act → World → Prop) : List Oper → Tab → Nat → (Nat → Value) → (Nat → World) → Act → Prop
  | [], [r], _, _, ws, a => ∀ W, HyF w ws r.2 W → Q a W
  | o :: os, r :: T, i, vs, ws, a =>
    if wantedV o vs = true then
      (if r.1 ≤ 2 then ∀ w0, (r.1 ≠ 0 → HyF w ws r.2 w0) → runPlain P o a.eval w0 fun v w1 => Rel r.1 w0 w1 ∧ EW P w p Q os T (i + 1) (upd vs i v) (updW ws i w1) (a.put o.dst v)
      else (∀ w0, HyF w ws r.2 w0 → runOp P o a.eval w0 fun v w1 => Rel r.1 w0 w1 ∧ p i w0 v w1) ∧
        ∀ w0 v w1, HyF w ws r.2 w0 → Rel r.1 w0 w1 → p i w0 v w1 → EW P w p Q os T (i + 1) (upd vs i v) (updW ws i w1) (a.put o.dst v))
    else ∀ w0, (r.1 ≠ 0 → HyF w ws r.2 w0) → EW P w p Q os T (i + 1) (upd vs i undef) (updW ws i w0) (a.put o.dst undef)
  | _, _, _, _, _, _ => False

def OutF (P : Program) (l : List Oper) (a0 : Act) (p : Nat → World → Value → World → Prop) (c i : Nat) (o : Oper) (vs : Nat → Value) (w0 : World) (v : Value) (w1 : World) : Prop :=
  if wantedV o vs = true then (if c ≤ 2 then runPlain P o (look l a0 o vs) w0 (fun v' w' => v' = v ∧ w' = w1) else p i w0 v w1) ∧ Rel c w0 w1 else v = undef ∧ w1 = w0

structure LexInv (P : Program) (l : List Oper) (a0 : Act) (w : World) (T : Tab) (p : Nat → World → Value → World → Prop) (L : Nat → Bool) (W : World) (vs : Nat → Value) (ws : Nat → World) : Prop where
  good : ∀ i o, l[i]? = some o → L i = true → ∃ w0, (T.cls i ≠ 0 → HyF w ws (T.row i).2 w0) ∧ OutF P l a0 p (T.cls i) i o vs w0 (vs i) (ws i)
  now : ∀ j q, l[j]? = some q → L j = true → T.cls j ≠ 0 → (∀ k r, l[k]? = some r → L k = true → isW (T.cls k) = true → (before l r).contains j = false) → Ext (ws j) W
  start : (∀ k r, l[k]? = some r → L k = true → isW (T.cls k) = false) → Ext w W
  closed : ∀ j q, l[j]? = some q → L j = true → ∀ k ∈ depsOf q, L k = true

theorem OutF.rel {P : Program} {l : List Oper} {a0 : Act} {p : Nat → World → Value → World → Prop} {c i : Nat} {o : Oper} {vs : Nat → Value} {w0 : World} {v : Value} {w1 : World} (h : OutF P l a0 p c i o vs w0 v w1) (hw : isW c = false) : Ext w0 w1 := by
  unfold OutF at h
  split at h
  · have := h.2
    unfold Rel at this
    rw [hw] at this
    split at this
    · subst this
      exact Ext.refl _
    · simpa using this
  · rw [h.2]
    exact Ext.refl _

section
variable {P : Program} {l : List Oper} {a0 : Act} {w : World} {T : Tab} {p : Nat → World → Value → World → Prop}

theorem tab_at (h : tabOk l T = true) {i : Nat} {o : Oper} (ho : l[i]? = some o) : tabAt l T i o = true := by
  unfold tabOk at h
  simp only [Bool.and_eq_true, List.all_eq_true] at h
  have := h.1.2 i (List.mem_range.2 (List.getElem?_eq_some_iff.1 ho).1)
  rwa [ho] at this
/-- A write stands ahead of or behind whatever looks at memory. -/
theorem tab_write (h : tabOk l T = true) {i j : Nat} {o q : Oper} (ho : l[i]? = some o) (hq : l[j]? = some q) (hw : isW (T.cls i) = true) (hne : j ≠ i) (hc : T.cls j ≠ 0) : (before l o).contains j = true ∨ (before l q).contains i = true := by
  have := tab_at h ho
  unfold tabAt at this
  simp only [Bool.and_eq_true, hw, Bool.not_true, Bool.false_or, List.all_eq_true] at this
  have := this.2 j (List.mem_range.2 (List.getElem?_eq_some_iff.1 hq).1)
  rw [hq] at this
  simpa [hne, hc] using this

theorem before_of {L : Nat → Bool} (hcl : ∀ j q, l[j]? = some q → L j = true → ∀ k ∈ depsOf q, L k = true) {o : Oper} (hd : ∀ j ∈ depsOf o, L j = true) {j : Nat} (h : (before l o).contains j = true) : L j = true := by
  cases hL : L j with
  | true => rfl
  | false => rw [before_listed hcl hd hL] at h; cases h

theorem before_lt {n : Nat} (hok : ssaOk l n = true) {i j : Nat} {o : Oper} (ho : l[i]? = some o) (h : (before l o).contains j = true) : j < i := by
  have := before_of (l := l) (L := fun j => decide (j < i)) (fun j q hq hj k hk => by
    have h1 := (ssaOk_at hok hq).1 k hk
    simp at hj ⊢
    omega) (fun j hj => by have := (ssaOk_at hok ho).1 j hj; simpa using this) h
  simpa using this

/-- What is asked of the world ahead of an operation stands. -/
theorem LexInv.hy {n : Nat} (hok : ssaOk l n = true) (htab : tabOk l T = true) {L : Nat → Bool} {W : World} {vs : Nat → Value} {ws : Nat → World} (h : LexInv P l a0 w T p L W vs ws) {i : Nat} {o : Oper} (ho : l[i]? = some o) (hi : L i = false) (hd : ∀ j ∈ depsOf o, L j = true) (hc : T.cls i ≠ 0) :
    HyF w ws (T.row i).2 W := by
  have ht := tab_at htab ho
  unfold tabAt at ht
  simp only [Bool.and_eq_true, Bool.or_eq_true, beq_iff_eq, hc, false_or, List.all_eq_true] at ht
  have key : ∀ k r, l[k]? = some r → L k = true → isW (T.cls k) = true → (before l o).contains k = true := by
    intro k r hr hk hw
    have hne : i ≠ k := fun e => by subst e; rw [hi] at hk; cases hk
    rcases tab_write htab hr ho hw hne hc with h1 | h1
    · have := before_of h.closed (h.closed k r hr hk) h1
      rw [hi] at this
      cases this
    · exact h1
  refine ⟨fun hs => h.start fun k r hr hk => ?_, fun j hj => ?_⟩
  · cases hw : isW (T.cls k) with
    | false => rfl
    | true =>
      have h1 := key k r hr hk hw
      have h2 := ht.1.1
      rw [hs] at h2
      simp only [Bool.not_true, Bool.false_eq_true, false_or] at h2
      have := h2 k (List.mem_range.2 (List.getElem?_eq_some_iff.1 hr).1)
      simp only [hw, h1] at this
      simp at this
  · obtain ⟨⟨h1, h2⟩, h3⟩ := ht.1.2 j hj
    have hjl : j < l.length := Nat.lt_trans (before_lt hok ho h2) (List.getElem?_eq_some_iff.1 ho).1
    exact h.now j l[j] (List.getElem?_eq_getElem hjl) (before_of h.closed hd h2) (by simpa using h1) (fun k r hr hk hw => by
      have h4 := key k r hr hk hw
      unfold clear1 at h3
      have h5 := List.all_eq_true.1 h3 k (List.mem_range.2 (List.getElem?_eq_some_iff.1 hr).1)
      rw [hr] at h5
      have h6 : k ∈ before l o := by simpa using h4
      simpa [hw, h6] using h5)
theorem tab_js (htab : tabOk l T = true) {i : Nat} {o : Oper} (ho : l[i]? = some o) (hc : T.cls i ≠ 0) {j : Nat} (hj : j ∈ (T.row i).2.2) : (before l o).contains j = true := by
  have ht := tab_at htab ho
  unfold tabAt at ht
  simp only [Bool.and_eq_true, Bool.or_eq_true, beq_iff_eq, hc, false_or, List.all_eq_true] at ht
  exact (ht.1.2 j hj).1.2

theorem HyF.congr {ws ws' : Nat → World} {r : Bool × List Nat} {w0 : World} (h : HyF w ws r w0) (e : ∀ j ∈ r.2, ws j = ws' j) : HyF w ws' r w0 :=
  ⟨h.1, fun j hj => by rw [← e j hj]; exact h.2 j hj⟩
theorem OutF.congr {n : Nat} (hok : ssaOk l n = true) {i c : Nat} {o : Oper} (ho : l[i]? = some o) {vs vs' : Nat → Value} (e : ∀ j ∈ depsOf o, vs j = vs' j) {w0 w1 : World} {v : Value} (h : OutF P l a0 p c i o vs w0 v w1) : OutF P l a0 p c i o vs' w0 v w1 := by
  unfold OutF at *
  rwa [← wantedV_congr hok ho e, ← look_congr e]

/-- An operation is carried out. -/
theorem LexInv.exec {n : Nat} (hok : ssaOk l n = true) (htab : tabOk l T = true) {L : Nat → Bool} {W : World} {vs : Nat → Value} {ws : Nat → World} (h : LexInv P l a0 w T p L W vs ws) {i : Nat} {o : Oper} (ho : l[i]? = some o) (hi : L i = false) (hd : ∀ j ∈ depsOf o, L j = true)
    {v : Value} {w1 : World} (hout : OutF P l a0 p (T.cls i) i o vs W v w1) : LexInv P l a0 w T p (fun j => if j = i then true else L j) w1 (upd vs i v) (updW ws i w1) := by
  have hne : ∀ j, L j = true → j ≠ i := fun j hj e => by subst e; rw [hi] at hj; cases hj
  have hL : ∀ j, L j = true → (if j = i then true else L j) = true := fun j hj => by rw [if_neg (hne j hj)]; exact hj
  have hLr : ∀ j, j ≠ i → (if j = i then true else L j) = true → L j = true := fun j hj h => by rwa [if_neg hj] at h
  have eV : ∀ j, L j = true → vs j = upd vs i v j := fun j hj => by unfold upd; rw [if_neg (hne j hj)]
  have eW : ∀ j, L j = true → ws j = updW ws i w1 j := fun j hj => by unfold updW; rw [if_neg (hne j hj)]
  have vi : upd vs i v i = v := by unfold upd; rw [if_pos rfl]
  have wi : updW ws i w1 i = w1 := by unfold updW; rw [if_pos rfl]
  have key : isW (T.cls i) = true → ∀ j q, l[j]? = some q → L j = true → T.cls j ≠ 0 → (before l o).contains j = true := by
    intro hw j q hq hj hc
    rcases tab_write htab ho hq hw (hne j hj) hc with h1 | h1
    · exact h1
    · have := before_of h.closed (h.closed j q hq hj) h1
      rw [hi] at this
      cases this
  refine ⟨?_, ?_, ?_, ?_⟩
  · intro j q hq hj
    by_cases e : j = i
    · subst e
      rw [ho] at hq
      cases hq
      refine ⟨W, fun hc => (h.hy hok htab ho hi hd hc).congr fun k hk => eW k (before_of h.closed hd (tab_js htab ho hc hk)), ?_⟩
      rw [vi, wi]
      exact hout.congr hok ho fun k hk => eV k (hd k hk)
    · have hj' := hLr j e hj
      obtain ⟨w0, h1, h2⟩ := h.good j q hq hj'
      refine ⟨w0, fun hc => (h1 hc).congr fun k hk => eW k (before_of h.closed (h.closed j q hq hj') (tab_js htab hq hc hk)), ?_⟩
      rw [← eV j hj', ← eW j hj']
      exact h2.congr hok hq fun k hk => eV k (h.closed j q hq hj' k hk)
  · intro j q hq hj hc hno
    by_cases e : j = i
    · subst e
      rw [wi]
      exact Ext.refl _
    · have hj' := hLr j e hj
      rw [← eW j hj']
      cases hw : isW (T.cls i) with
      | true =>
        have h1 := key hw j q hq hj' hc
        rw [hno i o ho (by rw [if_pos rfl]) hw] at h1
        cases h1
      | false => exact Ext.trans (h.now j q hq hj' hc fun k r hr hk hw' => hno k r hr (hL k hk) hw') (hout.rel hw)
  · intro hno
    exact Ext.trans (h.start fun k r hr hk => hno k r hr (hL k hk)) (hout.rel (hno i o ho (by rw [if_pos rfl])))
  · intro j q hq hj k hk
    by_cases e : j = i
    · subst e
      rw [ho] at hq
      cases hq
      exact hL k (hd k hk)
    · exact hL k (h.closed j q hq (hLr j e hj) k hk)

abbrev FrI (l : List Oper) (a0 : Act) (w : World) (L : Nat → Bool) (a : Act) (vs : Nat → Value) : Prop := SsaInv2 l a0 (fun _ _ _ => True) (fun _ _ => True) (fun _ _ _ _ => True) w L a w vs

/-- Whatever was carried out: the walk can be gone up to wherever one likes, with those values. -/
theorem walk_to (hok : ssaOk l a0.tmps.size = true) (htab : tabOk l T = true) {Q : Act → World → Prop} {V0 : Nat → Value} {W0 : Nat → World} (hE : EW P w p Q l T 0 V0 W0 a0) {L : Nat → Bool} {W : World} {vs : Nat → Value} {ws : Nat → World} (h : LexInv P l a0 w T p L W vs ws) : ∀ m, m ≤ l.length →
    ∃ L' W' vs' ws' ev ew a, LexInv P l a0 w T p L' W' vs' ws' ∧ (∀ j, L j = true → L' j = true ∧ vs' j = vs j ∧ ws' j = ws j) ∧ (∀ j, j < m → L' j = true ∧ ev j = vs' j ∧ ew j = ws' j) ∧ (∀ j, L' j = true → L j = true ∨ j < m) ∧ FrI l a0 w (fun j => decide (j < m)) a ev ∧ EW P w p Q (l.drop m) (T.drop m) m ev ew a := by
  intro m
  induction m with
  | zero =>
    intro _
    refine ⟨L, W, vs, ws, V0, W0, a0, h, fun j hj => ⟨hj, rfl, rfl⟩, fun j hj => by omega, fun j hj => .inl hj, ⟨rfl, rfl, ?_, fun _ _ _ _ => trivial, trivial, fun _ _ _ _ => trivial, fun j q _ hj => by simp at hj⟩, ?_⟩
    · intro t ht
      unfold slotV
      cases writer l t with
      | none => simp [ht]
      | some j => simp [ht]
    · simpa using hE
  | succ m ih =>
    intro hm
    obtain ⟨L', W', vs', ws', ev, ew, a, hI, h1, h2, h2', hF, hE⟩ := ih (by omega)
    have hlt : m < l.length := by omega
    have hTl : T.length = l.length + 1 := by
      unfold tabOk at htab
      simp only [Bool.and_eq_true, decide_eq_true_eq] at htab
      exact htab.1.1
    have hTm : m < T.length := by omega
    have ho : l[m]? = some l[m] := List.getElem?_eq_getElem hlt
    have hrow : T.row m = T[m] := by
      unfold Tab.row
      rw [List.getD_eq_getElem?_getD, List.getElem?_eq_getElem hTm]
      rfl
    have hcls : T.cls m = T[m].1 := by unfold Tab.cls; rw [hrow]
    rw [List.drop_eq_getElem_cons hlt, List.drop_eq_getElem_cons hTm] at hE
    have hdm : ∀ j ∈ depsOf l[m], j < m := (ssaOk_at hok ho).1
    have hdL : ∀ j ∈ depsOf l[m], L' j = true := fun j hj => (h2 j (hdm j hj)).1
    have eV : ∀ j ∈ depsOf l[m], ev j = vs' j := fun j hj => (h2 j (hdm j hj)).2.1
    have eW : T.cls m ≠ 0 → ∀ j ∈ (T.row m).2.2, ew j = ws' j := fun hc j hj => (h2 j (before_lt hok ho (tab_js htab ho hc hj))).2.2
    have hw : wantedV l[m] ev = wantedV l[m] vs' := wantedV_congr hok ho eV
    have hlk : look l a0 l[m] ev = look l a0 l[m] vs' := look_congr eV
    have hex : execOp a.eval l[m] = execOp (look l a0 l[m] vs') l[m] := by
      rw [← hlk]
      exact execOp_congr _ (ssaOk_at hok ho).2.2.2.2.2 (hF.look hok ho (by simp) (fun j hj => by simpa using hdm j hj))
    -- the outcome, really or as it may be, and the walk behind it
    obtain ⟨L2, W2, vs2, ws2, hI2, g1, g2, gl, g3⟩ : ∃ L2 W2 vs2 ws2, LexInv P l a0 w T p L2 W2 vs2 ws2 ∧ (∀ j, L' j = true → L2 j = true ∧ vs2 j = vs' j ∧ ws2 j = ws' j) ∧ L2 m = true ∧ (∀ j, L2 j = true → L' j = true ∨ j = m) ∧
        ∃ w0, (T.cls m ≠ 0 → HyF w ws' (T.row m).2 w0) ∧ OutF P l a0 p (T.cls m) m l[m] vs' w0 (vs2 m) (ws2 m) := by
      cases hL : L' m with
      | true =>
        obtain ⟨w0, k1, k2⟩ := hI.good m _ ho hL
        exact ⟨L', W', vs', ws', hI, fun j hj => ⟨hj, rfl, rfl⟩, hL, fun j hj => .inl hj, w0, k1, k2⟩
      | false =>
        have hy := fun hc => hI.hy hok htab ho hL hdL hc
        obtain ⟨v, w1, hout⟩ : ∃ v w1, OutF P l a0 p (T.cls m) m l[m] vs' W' v w1 := by
          unfold OutF
          unfold EW at hE
          rw [hw] at hE
          by_cases hwv : wantedV l[m] vs' = true
          · rw [if_pos hwv] at hE
            rw [← hcls, ← hrow] at hE
            by_cases hc2 : T.cls m ≤ 2
            · rw [if_pos hc2] at hE
              obtain ⟨v, w1, k1, k2, _⟩ := (hE W' (fun hc => (hy hc).congr fun j hj => (eW hc j hj).symm)).out
              exact ⟨v, w1, by rw [if_pos hwv, if_pos hc2]; exact ⟨runPlain_eval hex k1, k2⟩⟩
            · rw [if_neg hc2] at hE
              have hc0 : T.cls m ≠ 0 := by omega
              obtain ⟨v, w1, k1, k2⟩ := (hE.1 W' ((hy hc0).congr fun j hj => (eW hc0 j hj).symm)).out
              exact ⟨v, w1, by rw [if_pos hwv, if_neg hc2]; exact ⟨k2, k1⟩⟩
          · exact ⟨undef, W', by rw [if_neg hwv]; exact ⟨rfl, rfl⟩⟩
        have hne : ∀ j, L' j = true → j ≠ m := fun j hj e => by subst e; rw [hL] at hj; cases hj
        refine ⟨_, _, _, _, hI.exec hok htab ho hL hdL hout, fun j hj => ⟨by simp [hj], by unfold upd; rw [if_neg (hne j hj)], by unfold updW; rw [if_neg (hne j hj)]⟩, by simp, fun j hj => ?_, W', hy, by unfold upd updW; simpa using hout⟩
        by_cases e : j = m
        · exact .inr e
        · simp only [e, if_false] at hj
          exact .inl hj
    obtain ⟨w0, hy, hout⟩ := g3
    have hE2 : EW P w p Q (l.drop (m + 1)) (T.drop (m + 1)) (m + 1) (upd ev m (vs2 m)) (updW ew m (ws2 m)) (a.put l[m].dst (vs2 m)) := by
      unfold EW at hE
      rw [hw] at hE
      unfold OutF at hout
      rw [← hcls, ← hrow] at hE
      have hy' : T.cls m ≠ 0 → HyF w ew (T.row m).2 w0 := fun hc => (hy hc).congr fun j hj => (eW hc j hj).symm
      by_cases hwv : wantedV l[m] vs' = true
      · rw [if_pos hwv] at hE hout
        by_cases hc2 : T.cls m ≤ 2
        · rw [if_pos hc2] at hE hout
          exact ((runPlain_eval hex.symm hout.1).exact (hE w0 hy')).2
        · rw [if_neg hc2] at hE hout
          exact hE.2 w0 _ _ (hy' (by omega)) hout.2 hout.1
      · rw [if_neg hwv] at hE hout
        rw [hout.1, hout.2]
        exact hE w0 hy'
    refine ⟨L2, W2, vs2, ws2, _, _, _, hI2, fun j hj => ?_, fun j hj => ?_, fun j hj => ?_, ?_, hE2⟩
    · obtain ⟨k1, k2, k3⟩ := h1 j hj
      obtain ⟨q1, q2, q3⟩ := g1 j k1
      exact ⟨q1, q2.trans k2, q3.trans k3⟩
    · by_cases e : j = m
      · subst e
        exact ⟨g2, by unfold upd; rw [if_pos rfl], by unfold updW; rw [if_pos rfl]⟩
      · obtain ⟨k1, k2, k3⟩ := h2 j (by omega)
        obtain ⟨q1, q2, q3⟩ := g1 j k1
        exact ⟨q1, by unfold upd; rw [if_neg e, k2, q2], by unfold updW; rw [if_neg e, k3, q3]⟩
    · rcases gl j hj with k | k
      · exact (h2' j k).imp id (by omega)
      · exact .inr (by omega)
    · have := hF.put (R := fun _ _ _ => True) (w' := w) hok (fun _ _ _ _ _ _ _ _ _ _ _ _ _ _ => trivial) (fun _ _ _ _ _ _ _ _ _ _ _ _ => trivial) (fun _ _ _ _ _ _ _ => trivial) ho (by simp) (fun j hj => by simpa using hdm j hj) (vs2 m) trivial trivial
      have e : (fun j => if j = m then true else decide (j < m)) = fun j => decide (j < m + 1) := by
        funext j
        by_cases e : j = m
        · simp [e]
        · simp only [e, if_false]
          by_cases k : j < m
          · simp [k, show j < m + 1 by omega]
          · simp [k, show ¬ j < m + 1 by omega]
      rw [e] at this
      exact this
end

theorem wpIn_lex {F : Fence} {m : Nat} {P : Program} (hF : ∀ f args w R, Calls P f args w R → CallsIn F (m - 1) P f args w R) (hdep : F.depth = none) (hfn : ∀ f, F.fn f)
    {id : Nat} {l : List Oper} {a : Act} {w : World} {Q : Exit → Act → World → Prop} (hm : P.follows .mixedOrders = true) (hok : ssaOk l a.tmps.size = true)
    (T : Tab) (htab : tabOk l T = true) (p : Nat → World → Value → World → Prop) (hE : EW P w p (Q .normal) l T 0 (fun _ => undef) (fun _ => w) a) :
    (Code.region id l.toArray true).wpIn F m P Q a w := by
  refine wpIn_ssaX hF hdep hfn hm hok (fun L W vs => ∃ ws, LexInv P l a w T p L W vs ws) ⟨fun _ => w, LexInv.mk (fun _ _ _ h => absurd h (by simp)) (fun _ _ _ h => absurd h (by simp)) (fun _ => Ext.drew (Ext.refl _)) (fun _ _ _ h => absurd h (by simp))⟩ ?_ ?_
  · rintro i o ho L vs W hi hd hcl ⟨ws, hI⟩
    have hil := (List.getElem?_eq_some_iff.1 ho).1
    obtain ⟨L', W', vs', ws', ev, ew, a', hI', h1, h2, h2', hFr, hE'⟩ := walk_to hok htab hE hI i (by omega)
    have hTl : T.length = l.length + 1 := by
      have := htab
      unfold tabOk at this
      simp only [Bool.and_eq_true, decide_eq_true_eq] at this
      exact this.1.1
    have hTm : i < T.length := by omega
    have hrow : T.row i = T[i] := by
      unfold Tab.row
      rw [List.getD_eq_getElem?_getD, List.getElem?_eq_getElem hTm]
      rfl
    have hcls : T.cls i = T[i].1 := by unfold Tab.cls; rw [hrow]
    rw [List.drop_eq_getElem_cons hil, List.drop_eq_getElem_cons hTm] at hE'
    obtain rfl : l[i] = o := (List.getElem?_eq_some_iff.1 ho).2
    have hdm : ∀ j ∈ depsOf l[i], j < i := (ssaOk_at hok ho).1
    have eV : ∀ j ∈ depsOf l[i], ev j = vs j := fun j hj => (h2 j (hdm j hj)).2.1.trans (h1 j (hd j hj)).2.1
    have eW : T.cls i ≠ 0 → ∀ j ∈ (T.row i).2.2, ew j = ws j := fun hc j hj => by
      have hb := tab_js htab ho hc hj
      exact (h2 j (before_lt hok ho hb)).2.2.trans (h1 j (before_of hcl hd hb)).2.2
    have hw : wantedV l[i] ev = wantedV l[i] vs := wantedV_congr hok ho eV
    have hlk : look l a l[i] ev = look l a l[i] vs := look_congr eV
    have hex : execOp a'.eval l[i] = execOp (look l a l[i] vs) l[i] := by
      rw [← hlk]
      exact execOp_congr _ (ssaOk_at hok ho).2.2.2.2.2 (hFr.look hok ho (by simp) (fun j hj => by simpa using hdm j hj))
    have hy : T.cls i ≠ 0 → HyF w ew (T.row i).2 W := fun hc => (hI.hy hok htab ho hi hd hc).congr fun j hj => (eW hc j hj).symm
    have next : ∀ v w1, OutF P l a p (T.cls i) i l[i] vs W v w1 → ∃ ws, LexInv P l a w T p (fun j => if j = i then true else L j) w1 (upd vs i v) ws := fun v w1 ho' => ⟨_, hI.exec hok htab ho hi hd ho'⟩
    unfold EW at hE'
    rw [hw, ← hcls, ← hrow] at hE'
    by_cases hwv : wantedV l[i] vs = true
    · rw [if_pos hwv] at hE' ⊢
      by_cases hc2 : T.cls i ≤ 2
      · rw [if_pos hc2] at hE'
        exact ((runPlain_eval hex (hE' W hy)).both (fun v w1 k1 k2 => next v w1 (by unfold OutF; rw [if_pos hwv, if_pos hc2]; exact ⟨k1, k2.1⟩))).op
      · rw [if_neg hc2] at hE'
        exact (runOp_eval hex (hE'.1 W (hy (by omega)))).mono fun v w1 ⟨k1, k2⟩ => next v w1 (by unfold OutF; rw [if_pos hwv, if_neg hc2]; exact ⟨k2, k1⟩)
    · rw [if_neg hwv]
      exact next undef W (by unfold OutF; rw [if_neg hwv]; exact ⟨rfl, rfl⟩)
  · rintro vs W L hall ⟨ws, hI⟩
    obtain ⟨L', W', vs', ws', ev, ew, a', hI', h1, h2, h2', hFr, hE'⟩ := walk_to hok htab hE hI l.length (Nat.le_refl _)
    have ht := htab
    unfold tabOk at ht
    simp only [Bool.and_eq_true, decide_eq_true_eq, List.all_eq_true, Bool.or_eq_true] at ht
    obtain ⟨⟨hTl, _⟩, h3, h4⟩ := ht
    have hTm : l.length < T.length := by omega
    have hrow : T.row l.length = T[l.length] := by
      unfold Tab.row
      rw [List.getD_eq_getElem?_getD, List.getElem?_eq_getElem hTm]
      rfl
    rw [List.drop_length, List.drop_eq_getElem_cons hTm, List.drop_of_length_le (by omega), ← hrow] at hE'
    unfold EW at hE'
    have e : a' = fill l 0 vs a := by
      have := fr_done hok hFr (fun i hi => by simpa using hi)
      rw [this]
      have hv : ∀ i, i < l.length → ev i = vs i := fun i hi => (h2 i hi).2.1.trans (h1 i (hall i hi)).2.1
      have : ∀ (r : List Oper) (k : Nat) (b : Act), k + r.length ≤ l.length → fill r k ev b = fill r k vs b := by
        intro r
        induction r with
        | nil => intro _ _ _; rfl
        | cons o r ih =>
          intro k b hk
          simp only [List.length_cons] at hk
          show fill r (k + 1) ev (b.put o.dst (ev k)) = fill r (k + 1) vs (b.put o.dst (vs k))
          rw [hv k (by omega), ih _ _ (by omega)]
      exact this l 0 a (by omega)
    rw [← e]
    refine hE' W ⟨fun hs => hI.start fun k r hr hk => ?_, fun j hj => ?_⟩
    · rcases h3 with h3 | h3
      · rw [hs] at h3
        cases h3
      · simpa using h3 k (List.mem_range.2 (List.getElem?_eq_some_iff.1 hr).1)
    · obtain ⟨⟨k1, k2⟩, k3⟩ := h4 j hj
      have hjl : j < l.length := by simpa using k1
      rw [(h2 j hjl).2.2, (h1 j (hall j hjl)).2.2]
      refine hI.now j l[j] (List.getElem?_eq_getElem hjl) (hall j hjl) (by simpa using k2) (fun k r hr hk hw => ?_)
      unfold clear1 at k3
      have h5 := List.all_eq_true.1 k3 k (List.mem_range.2 (List.getElem?_eq_some_iff.1 hr).1)
      have hkl := (List.getElem?_eq_some_iff.1 hr).1
      rw [hr] at h5
      simpa [hw, hkl] using h5

/-- .. in a plain walk; .. in a round. -/
theorem wp_lex {P : Program} {id : Nat} {l : List Oper} {a : Act} {w : World} {Q : Exit → Act → World → Prop} (hm : P.follows .mixedOrders = true) (hok : ssaOk l a.tmps.size = true)
    (T : Tab) (htab : tabOk l T = true) (p : Nat → World → Value → World → Prop) (hE : EW P w p (Q .normal) l T 0 (fun _ => undef) (fun _ => w) a) : (Code.region id l.toArray true).wp P Q a w :=
  (wpIn_wide (n := 0)).1 (wpIn_lex (fun _ _ _ _ h => callsIn_wide.2 h) rfl (fun _ => trivial) hm hok T htab p hE)
theorem wpIn_lex_round {P : Program} {rl id : Nat} {l : List Oper} {a : Act} {w : World} {Q : Exit → Act → World → Prop} (hm : P.follows .mixedOrders = true) (hok : ssaOk l a.tmps.size = true)
    (T : Tab) (htab : tabOk l T = true) (p : Nat → World → Value → World → Prop) (hE : EW P w p (Q .normal) l T 0 (fun _ => undef) (fun _ => w) a) : (Code.region id l.toArray true).wpIn (Fence.wide.inRound rl) 0 P Q a w :=
  wpIn_lex (fun _ _ _ _ h => CallsIn.inRound rl (callsIn_wide.2 h)) rfl (fun _ => trivial) hm hok T htab p hE

/-! ### The walk, step by step: the region and its table stand under names -/

def EWi (P : Program) (w : World) (p : Nat → World → Value → World → Prop) (Q : Act → World → Prop) (l : List Oper) (T : Tab) (i : Nat) (vs : Nat → Value) (ws : Nat → World) (a : Act) : Prop := EW P w p Q (l.drop i) (T.drop i) i vs ws a

section
variable {P : Program} {w : World} {p : Nat → World → Value → World → Prop} {Q : Act → World → Prop} {l : List Oper} {T : Tab} {i : Nat} {vs : Nat → Value} {ws : Nat → World} {a : Act} {o : Oper}

theorem drop_at {α : Type} {l : List α} {i : Nat} {x : α} (h : l[i]? = some x) : l.drop i = x :: l.drop (i + 1) := by
  obtain ⟨h1, rfl⟩ := List.getElem?_eq_some_iff.1 h
  exact List.drop_eq_getElem_cons h1

theorem EWi.pure {r : Bool × List Nat} (ho : l[i]? = some o) (hr : T[i]? = some (0, r)) (hg : wantedV o vs = true)
    (h : ∀ w0, runPlain P o a.eval w0 fun v w1 => w1 = w0 ∧ EWi P w p Q l T (i + 1) (upd vs i v) (updW ws i w0) (a.put o.dst v)) : EWi P w p Q l T i vs ws a := by
  unfold EWi
  rw [drop_at ho, drop_at hr]
  unfold EW
  rw [if_pos hg, if_pos (by simp)]
  intro w0 _
  refine (h w0).both fun v w1 _ ⟨e, k⟩ => ⟨by unfold Rel; rw [if_pos rfl]; exact e, ?_⟩
  subst e
  exact k
theorem EWi.read {r : Bool × List Nat} (ho : l[i]? = some o) (hr : T[i]? = some (1, r)) (hg : wantedV o vs = true)
    (h : ∀ w0, HyF w ws r w0 → runPlain P o a.eval w0 fun v w1 => Ext w0 w1 ∧ EWi P w p Q l T (i + 1) (upd vs i v) (updW ws i w1) (a.put o.dst v)) : EWi P w p Q l T i vs ws a := by
  unfold EWi
  rw [drop_at ho, drop_at hr]
  unfold EW
  rw [if_pos hg, if_pos (by simp)]
  intro w0 hy
  refine (h w0 (hy (by simp))).both fun v w1 _ ⟨e, k⟩ => ⟨by unfold Rel isW; simpa using e, k⟩
theorem EWi.write {r : Bool × List Nat} (ho : l[i]? = some o) (hr : T[i]? = some (2, r)) (hg : wantedV o vs = true)
    (h : ∀ w0, HyF w ws r w0 → runPlain P o a.eval w0 fun v w1 => EWi P w p Q l T (i + 1) (upd vs i v) (updW ws i w1) (a.put o.dst v)) : EWi P w p Q l T i vs ws a := by
  unfold EWi
  rw [drop_at ho, drop_at hr]
  unfold EW
  rw [if_pos hg, if_pos (by simp)]
  intro w0 hy
  exact (h w0 (hy (by simp))).both fun v w1 _ k => ⟨by unfold Rel isW; simp, k⟩
theorem EWi.call {r : Bool × List Nat} (ho : l[i]? = some o) (hr : T[i]? = some (3, r)) (hg : wantedV o vs = true)
    (h1 : ∀ w0, HyF w ws r w0 → runOp P o a.eval w0 fun v w1 => Ext w0 w1 ∧ p i w0 v w1)
    (h2 : ∀ w0 v w1, HyF w ws r w0 → Ext w0 w1 → p i w0 v w1 → EWi P w p Q l T (i + 1) (upd vs i v) (updW ws i w1) (a.put o.dst v)) : EWi P w p Q l T i vs ws a := by
  unfold EWi
  rw [drop_at ho, drop_at hr]
  unfold EW
  rw [if_pos hg, if_neg (by simp)]
  refine ⟨fun w0 hy => (h1 w0 hy).mono fun v w1 ⟨e, k⟩ => ⟨by unfold Rel isW; simpa using e, k⟩, fun w0 v w1 hy he hp => h2 w0 v w1 hy ?_ hp⟩
  unfold Rel isW at he
  simpa using he
theorem EWi.callw {r : Bool × List Nat} (ho : l[i]? = some o) (hr : T[i]? = some (4, r)) (hg : wantedV o vs = true)
    (h1 : ∀ w0, HyF w ws r w0 → runOp P o a.eval w0 fun v w1 => p i w0 v w1)
    (h2 : ∀ w0 v w1, HyF w ws r w0 → p i w0 v w1 → EWi P w p Q l T (i + 1) (upd vs i v) (updW ws i w1) (a.put o.dst v)) : EWi P w p Q l T i vs ws a := by
  unfold EWi
  rw [drop_at ho, drop_at hr]
  unfold EW
  rw [if_pos hg, if_neg (by simp)]
  exact ⟨fun w0 hy => (h1 w0 hy).mono fun v w1 k => ⟨by unfold Rel isW; simp, k⟩, fun w0 v w1 hy _ hp => h2 w0 v w1 hy hp⟩
theorem EWi.fin {r : Nat × Bool × List Nat} (ho : l[i]? = none) (hr : T[i]? = some r) (hr' : T[i + 1]? = none) (h : ∀ W, HyF w ws r.2 W → Q a W) : EWi P w p Q l T i vs ws a := by
  unfold EWi
  rw [List.drop_of_length_le (List.getElem?_eq_none_iff.1 ho), drop_at hr, List.drop_of_length_le (List.getElem?_eq_none_iff.1 hr')]
  unfold EW
  exact h

/-- Under a guard: it is not carried out. -/
theorem EWi.no {c : Nat} {r : Bool × List Nat} (ho : l[i]? = some o) (hr : T[i]? = some (c, r)) (hg : wantedV o vs = false)
    (h : ∀ w0, EWi P w p Q l T (i + 1) (upd vs i undef) (updW ws i w0) (a.put o.dst undef)) : EWi P w p Q l T i vs ws a := by
  unfold EWi
  rw [drop_at ho, drop_at hr]
  unfold EW
  rw [if_neg (by rw [hg]; simp)]
  exact fun w0 _ => h w0
end

/-- .. all that is great under names. -/
theorem wp_lexi {P : Program} {id : Nat} {l : List Oper} {a : Act} {w : World} {Q : Exit → Act → World → Prop} (hm : P.follows .mixedOrders = true) (hok : ssaOk l a.tmps.size = true)
    (T : Tab) (htab : tabOk l T = true) (p : Nat → World → Value → World → Prop)
    (hE : ∀ l' T' p' Q', RowKit.Hid (l' = l) → RowKit.Hid (T' = T) → RowKit.Hid (p' = p) → RowKit.Hid (Q' = Q .normal) → EWi P w p' Q' l' T' 0 (fun _ => undef) (fun _ => w) a) : (Code.region id l.toArray true).wp P Q a w :=
  wp_lex hm hok T htab p (by have := hE l T p (Q .normal) (Lib.hid rfl) (Lib.hid rfl) (Lib.hid rfl) (Lib.hid rfl); unfold EWi at this; simpa using this)
theorem wpIn_lexi_round {P : Program} {rl id : Nat} {l : List Oper} {a : Act} {w : World} {Q : Exit → Act → World → Prop} (hm : P.follows .mixedOrders = true) (hok : ssaOk l a.tmps.size = true)
    (T : Tab) (htab : tabOk l T = true) (p : Nat → World → Value → World → Prop)
    (hE : ∀ l' T' p' Q', RowKit.Hid (l' = l) → RowKit.Hid (T' = T) → RowKit.Hid (p' = p) → RowKit.Hid (Q' = Q .normal) → EWi P w p' Q' l' T' 0 (fun _ => undef) (fun _ => w) a) : (Code.region id l.toArray true).wpIn (Fence.wide.inRound rl) 0 P Q a w :=
  wpIn_lex_round hm hok T htab p (by have := hE l T p (Q .normal) (Lib.hid rfl) (Lib.hid rfl) (Lib.hid rfl) (Lib.hid rfl); unfold EWi at this; simpa using this)

theorem runPlain_append {P : Program} {o : Oper} {ρ : Operand → Value} {w : World} {post : Value → World → Prop} (base : Nat) (e : TypeId) (z : Value) (size bytes : Nat) (s x : Operand) (t : TypeId)
    (ho : o.op = .call { callee := .builtin .append, args := #[s, x], argTypes := #[t, t] })
    (ht : P.underlying t = some (.slice e)) (hinfo : (P.info? e).map (fun i => (i.zero, i.size, i.bytes)) = some (some z, size, bytes))
    (hzs : z.cells.size = size) (hsz : 0 < size) (hb0 : 0 < bytes)
    (v : Value) (n : Nat) (cs : List Value) (hs : ρ s = v) (hown : w.ownsRow base e size v n cs)
    (A : Option Addr) (m c : Nat) (news : List Value) (hx : ρ x = .slice A m c) (hl : news.length = m * size) (hsrc : Src w A news) (h1 : ∀ u ∈ news, u.oneCell' = true)
    (hbytes : (n + m) * bytes ≤ 140737488355328) (hbase : base ≤ w.heap.size)
    (h : ∀ v' w', w'.ownsRow base e size v' (n + m) (cs ++ news) → w.grownBy w' v.ownBlock → (v'.ownBlock = v.ownBlock ∨ v'.ownBlock = some w.heap.size) → post v' w') : runPlain P o ρ w post := by
  obtain ⟨v', w', hr, h2, h3, h4⟩ := run_append_all (P := P) w base t o.type e z size bytes ht hinfo hzs hsz hb0 v n cs hown A m c news hl hsrc h1 hbytes hbase
  unfold runPlain execOp
  simp only [ho, resolve, invoke, builtin, Sem.run_bind, Sem.run_pure, Result.andThen_ok, List.map_toArray, List.map_cons, List.map_nil, hs, hx, hr]
  exact h v' w' h2 h3 h4

theorem boolOf_undef : boolOf undef = none := rfl
theorem boolOf_bool (b : Bool) : boolOf (.bool b) = some b := rfl
theorem HyF.ext {w : World} {ws : Nat → World} {js : List Nat} {w0 : World} (h : HyF w ws (true, js) w0) : Ext w w0 := h.1 rfl

end Go.Proofs.Ytancfgmaejjooaa
