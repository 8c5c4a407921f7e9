/- A range over a function, for whatever body that leaves alone what the iterator reads; no program in sight. -/
import Derived.Test.YtancfgmaejjooaaBase
import Derived.RangeFuncWrites
import Derived.RangeFuncNested
import Derived.RangeFuncBound
import Derived.RangeFuncCalls
import Derived.RangeFuncLeaves
import Derived.Shelf.Abstract
import Derived.OwnWalkIn
import Derived.TacticsInMore
import Derived.LoopNIn
import Derived.LoopIn
set_option linter.unusedVariables false
set_option linter.unusedSimpArgs false
namespace Go.Proofs.Ytancfgmaejjooaa
open Go.RowKit

/-- Of the blocks that were there all below n0 stand, and all that aren't rows of some types. -/
structure Keeps (n0 : Nat) (TS : List TypeId) (W W' : World) : Prop where
  os : W'.os = W.os
  tape : W'.tape = W.tape
  output : W'.output = W.output
  size : W.heap.size ≤ W'.heap.size
  same : ∀ k, k < W.heap.size → (k < n0 ∨ ∀ c t fr, W.heap[k]? = some (.cells c t fr) → t ∉ TS) → W'.heap[k]? = W.heap[k]?

/-- .. all below B, and all rows that aren't of some types. -/
structure KeepsC (B : Nat) (TI : List TypeId) (W W' : World) : Prop where
  os : W'.os = W.os
  tape : W'.tape = W.tape
  output : W'.output = W.output
  size : W.heap.size ≤ W'.heap.size
  same : ∀ k, k < W.heap.size → (k < B ∨ ∃ c t fr, W.heap[k]? = some (.cells c t fr) ∧ t ∉ TI) → W'.heap[k]? = W.heap[k]?

theorem Keeps.refl (n0 : Nat) (TS : List TypeId) (W : World) : Keeps n0 TS W W := ⟨rfl, rfl, rfl, Nat.le_refl _, fun _ _ _ => rfl⟩
theorem Keeps.trans {n0 : Nat} {TS : List TypeId} {A B C : World} (h : Keeps n0 TS A B) (k : Keeps n0 TS B C) : Keeps n0 TS A C :=
  ⟨k.os.trans h.os, k.tape.trans h.tape, k.output.trans h.output, Nat.le_trans h.size k.size, fun i hi hc => by
    have e := h.same i hi hc
    exact (k.same i (Nat.lt_of_lt_of_le hi h.size) (by rw [e]; exact hc)).trans e⟩
theorem Keeps.of_ext {n0 : Nat} {TS : List TypeId} {A B : World} (h : Ext A B) : Keeps n0 TS A B := ⟨h.os, h.tape, h.output, h.size, fun k hk _ => h.block k hk⟩
theorem Keeps.ext {n0 : Nat} {TS : List TypeId} {A B C : World} (h : Keeps n0 TS A B) (k : Ext B C) : Keeps n0 TS A C := h.trans (.of_ext k)
theorem Keeps.alloc {n0 : Nat} {TS : List TypeId} {A B : World} (h : Keeps n0 TS A B) (o : Obj) : Keeps n0 TS A (B.alloc o) := h.ext (Ext.alloc (Ext.refl _) o)
theorem Keeps.drew {n0 : Nat} {TS : List TypeId} {A B : World} (h : Keeps n0 TS A B) : Keeps n0 TS A B.drew := h.ext (Ext.drew (Ext.refl _))
theorem Keeps.of_grown {n0 : Nat} {TS : List TypeId} {A B : World} {g : Nat} (h : A.grownBy B (some g)) (hn : n0 ≤ g) {c : Array Value} {t : TypeId} {fr : Nat × Nat} (hg : A.heap[g]? = some (.cells c t fr)) (ht : t ∈ TS) : Keeps n0 TS A B :=
  ⟨h.os, h.tape, h.output, h.size, fun k hk hc => h.block k hk (fun e => by
    cases e
    rcases hc with hc | hc
    · omega
    · exact hc _ _ _ hg ht)⟩
theorem Keeps.of_setCell {n0 : Nat} {TS : List TypeId} {A : World} {g j : Nat} (hn : n0 ≤ g) {c : Array Value} {t : TypeId} {fr : Nat × Nat} (hg : A.heap[g]? = some (.cells c t fr)) (ht : t ∈ TS) (v : Value) : Keeps n0 TS A (A.setCell ⟨g, j, none⟩ v) :=
  .of_grown (g := g) ⟨rfl, rfl, rfl, by simp [World.setCell], fun k _ hne => heap_setCell_other _ _ _ _ (fun e => hne (by simp [e]))⟩ hn hg ht

theorem KeepsC.refl (n0 : Nat) (TS : List TypeId) (W : World) : KeepsC n0 TS W W := ⟨rfl, rfl, rfl, Nat.le_refl _, fun _ _ _ => rfl⟩
theorem KeepsC.trans {n0 : Nat} {TS : List TypeId} {A B C : World} (h : KeepsC n0 TS A B) (k : KeepsC n0 TS B C) : KeepsC n0 TS A C :=
  ⟨k.os.trans h.os, k.tape.trans h.tape, k.output.trans h.output, Nat.le_trans h.size k.size, fun i hi hc => by
    have e := h.same i hi hc
    exact (k.same i (Nat.lt_of_lt_of_le hi h.size) (by rw [e]; exact hc)).trans e⟩
theorem KeepsC.of_ext {n0 : Nat} {TS : List TypeId} {A B : World} (h : Ext A B) : KeepsC n0 TS A B := ⟨h.os, h.tape, h.output, h.size, fun k hk _ => h.block k hk⟩
theorem KeepsC.of_keeps {n0 : Nat} {TI : List TypeId} {A B : World} (h : Keeps n0 TI A B) : KeepsC n0 TI A B :=
  ⟨h.os, h.tape, h.output, h.size, fun k hk hc => h.same k hk (by
    rcases hc with hc | ⟨c, t, fr, e, ht⟩
    · exact .inl hc
    · exact .inr (fun c' t' fr' e' => by rw [e] at e'; cases e'; exact ht))⟩
theorem KeepsC.less {n0 : Nat} {TI : List TypeId} {A B : World} (h : KeepsC n0 [] A B) : KeepsC n0 TI A B :=
  ⟨h.os, h.tape, h.output, h.size, fun k hk hc => h.same k hk (by
    rcases hc with hc | ⟨c, t, fr, e, _⟩
    · exact .inl hc
    · exact .inr ⟨c, t, fr, e, by simp⟩)⟩
theorem KeepsC.putObj {B : Nat} {TI : List TypeId} {W : World} {l : Nat} {o o' : Obj} (hB : B ≤ l) (ho : W.heap[l]? = some o) (hc : ∀ c t fr, o ≠ .cells c t fr) : KeepsC B TI W (W.putObj l o') :=
  ⟨rfl, rfl, rfl, by simp, fun k hk hkc => World.putObj_heap_other (fun e => by
    subst e
    rcases hkc with h | ⟨c, t, fr, h, _⟩
    · omega
    · rw [ho] at h
      cases h
      exact hc _ _ _ rfl)⟩
/-- What stood below B stands. -/
theorem KeepsC.below {B : Nat} {TI : List TypeId} {A C W : World} (h : KeepsC B TI A C) (hb : Ext W A) (hB : W.heap.size ≤ B) : Ext W C :=
  ⟨h.os.trans hb.os, h.tape.trans hb.tape, h.output.trans hb.output, Nat.le_trans hb.size h.size, fun k hk => (h.same k (Nat.lt_of_lt_of_le hk hb.size) (.inl (by omega))).trans (hb.block k hk)⟩

def Holds {α : Type} (B : Nat) (TI : List TypeId) (I : List α → World → Prop) : Prop := ∀ xs A C, I xs A → KeepsC B TI A C → I xs C

/-- One round is asked for. -/
def Asks (P : Program) (l : Nat) (args : Array Value) (W : World) (R : Bool → World → Prop) : Prop :=
  YieldAt Fence.wide 0 P l args W fun e W' => ∃ b, e = .returned (.bool b) ∧ R b W'

/-- What an iterator does: it hands on elements of which G tells; all of them are an S; those ahead of a stop an Sp. -/
def IterG {α : Type} (P : Program) (gf : Nat) (lb : Array Value) (encs : α → Array Value) (G : List α → α → World → Prop) (S Sp : List α → Prop) (n0 : Nat) (TS TI : List TypeId) (w : World) : Prop :=
  ∀ (l : Nat) (J Jx : List α → World → Prop) (W : World), Ext w W →
    (∀ xs A B, J xs A → Keeps w.heap.size TI A B → J xs B) → (∀ xs A B, Jx xs A → Keeps w.heap.size TI A B → Jx xs B) →
    (∀ pre x W1, J pre W1 → G pre x W1 → Asks P l (encs x) W1 fun b W' => KeepsC n0 TS W1 W' ∧ (if b = true then J (pre ++ [x]) W' else Jx (pre ++ [x]) W')) →
    J [] W →
    Calls P gf (#[.func (.yield l) #[] #[]] ++ lb) W fun e W' => (∃ v, e = .returned v) ∧ ((∃ xs, S xs ∧ J xs W') ∨ (∃ pre, Sp pre ∧ Jx pre W'))

/-- How a round's body may be left. -/
def rpost {α : Type} (n0 : Nat) (TS : List TypeId) (I : List α → World → Prop) (Ix : Code → List α → World → Prop) (xs : List α) (W : World) : Exit → Act → World → Prop
  | .normal, _, W' => Keeps n0 TS W W' ∧ I xs W'
  | .ret, _, W' => Keeps n0 TS W W' ∧ Ix .ret xs W'
  | .exit id, _, W' => Keeps n0 TS W W' ∧ Ix (.exit id) xs W'
  | .goto t, _, W' => Keeps n0 TS W W' ∧ Ix (.goto t) xs W'
  | .panic _, _, _ => False
  | .outgrown, _, _ => False

theorem wp_range {α : Type} {P : Program} {g : Operand} {ps : Array Tmp} {assign body : Code} {Q : Exit → Act → World → Prop} {a : Act} {w : World}
    {gf : Nat} {lb : Array Value} {encs : α → Array Value} {G : List α → α → World → Prop} {S Sp : List α → Prop} {n0 : Nat} {TS TI : List TypeId}
    (hit : IterG P gf lb encs G S Sp n0 TS TI w) (hn0 : n0 ≤ w.heap.size) (hg : a.eval g = .func (.func gf) #[] lb) (eg : ∀ args w, (callFunc gf args).run P w = .ok (.enter gf args) w) (hps : ∀ x, (encs x).size = ps.size)
    (hG : ∀ pre x A B, G pre x A → KeepsC w.heap.size [] A B → G pre x B)
    (I : List α → World → Prop) (Ix : Code → List α → World → Prop) (hI : Holds w.heap.size TI I) (hIx : ∀ c, Holds w.heap.size TI (Ix c)) (h0 : I [] w) (a₁ : α → Act)
    (hassign : ∀ (l : Nat) (x : α) (W : World) (K : Act → World → Prop), K (a₁ x) W →
      assign.wpIn (Fence.wide.inRound l) 0 P (Exit.then K (fun _ _ _ => False)) { tmps := (ps.zip (encs x)).foldl (fun t (p, v) => t.setIfInBounds p v) a.tmps, defers := [] } W)
    (hbody : ∀ (l : Nat) (pre : List α) (x : α) (W : World), I pre W → G pre x W → body.wpIn (Fence.wide.inRound l) 0 P (rpost n0 TS I Ix (pre ++ [x]) W) (a₁ x) W)
    (hdone : ∀ (xs : List α) (W : World), S xs → I xs W → W.heap[w.heap.size]? = some (.deferred (some [])) → Q .normal { a with defers := { target := .collected w.heap.size, args := #[] } :: a.defers } W)
    (hstop : ∀ (c : Code) (pre : List α) (W : World), Sp pre → Ix c pre W → W.heap[w.heap.size]? = some (.deferred (some [])) → c.wp P Q { a with defers := { target := .collected w.heap.size, args := #[] } :: a.defers } W) :
    (Code.rangeFunc g ps assign body).wp P Q a w := by
  refine (wpIn_wide (n := 0)).1 (wpIn_rangeFunc ?_)
  intro fn hfn
  show ∃ l mark w₁ d w₁' f args w₂, (Instr.enterLoop fn a.tmps ps assign body none).run P w = .ok (l, mark) w₁ ∧ _
  obtain ⟨rec, hrec⟩ : ∃ rec : LoopState → Option Code → Loop, rec = fun st pe => { state := st, pending := pe, fn, tmps := a.tmps, params := ps, assign, body, defers := w.heap.size } := ⟨_, rfl⟩
  obtain ⟨W1, hW1⟩ : ∃ W1, (w.alloc (.deferred (some []))).alloc (.loop (rec .ready none)) = W1 := ⟨_, rfl⟩
  have hL1 : W1.heap[w.heap.size + 1]? = some (.loop (rec .ready none)) := by
    rw [← hW1]; exact heap_new _ _ _ (by simp)
  have hK1 : W1.heap[w.heap.size]? = some (.deferred (some [])) := by
    rw [← hW1]; exact (Below.heap_alloc _ _ _ (by simp)).trans (heap_new w _ _ rfl)
  have hE1 : Ext w W1 := by rw [← hW1]; exact Ext.alloc (Ext.alloc (Ext.refl w) _) _
  have nl : ∀ (r : Loop) c t fr, Obj.loop r ≠ .cells c t fr := fun _ _ _ _ h => by cases h
  have hI1 : I [] W1 := hI _ _ _ h0 (.of_ext hE1)
  have hsz1 : w.heap.size + 2 ≤ W1.heap.size := by rw [← hW1]; simp
  refine ⟨w.heap.size + 1, [{ target := .collected w.heap.size, args := #[] }], W1, { target := .fn (.func gf) lb, args := #[.func (.yield (w.heap.size + 1)) #[] #[]] }, W1, gf,
    #[.func (.yield (w.heap.size + 1)) #[] #[]] ++ lb, W1, ?_, ?_, ?_, ?_, (fun h => by simp [Fence.wide] at h), ?_⟩
  · rw [← hW1, hrec]; exact run_enterLoop_outer _ _ _ _ _
  · simp only [resolve, hg]
    simp [go_sem]
  · intro f' _; trivial
  · simp [invoke, go_sem, eg]
  · refine callsIn_wide.2 ((hit (w.heap.size + 1)
      (fun pre W => I pre W ∧ w.heap.size + 2 ≤ W.heap.size ∧ W.heap[w.heap.size + 1]? = some (.loop (rec .ready none)) ∧ W.heap[w.heap.size]? = some (.deferred (some [])))
      (fun pre W => ∃ c, Ix c pre W ∧ w.heap.size + 2 ≤ W.heap.size ∧ W.heap[w.heap.size + 1]? = some (.loop (rec .done (some c))) ∧ W.heap[w.heap.size]? = some (.deferred (some [])))
      W1 hE1 ?_ ?_ ?_ ⟨hI1, hsz1, hL1, hK1⟩).mono ?_)
    · rintro xs A B ⟨hi, hs, hl, hk⟩ hkp
      refine ⟨hI _ _ _ hi (.of_keeps hkp), Nat.le_trans hs hkp.size, ?_, ?_⟩
      · exact (hkp.same _ (by omega) (.inr (fun c t fr e => by rw [hl] at e; cases e))).trans hl
      · exact (hkp.same _ (by omega) (.inr (fun c t fr e => by rw [hk] at e; cases e))).trans hk
    · rintro xs A B ⟨c, hi, hs, hl, hk⟩ hkp
      refine ⟨c, hIx c _ _ _ hi (.of_keeps hkp), Nat.le_trans hs hkp.size, ?_, ?_⟩
      · exact (hkp.same _ (by omega) (.inr (fun c t fr e => by rw [hl] at e; cases e))).trans hl
      · exact (hkp.same _ (by omega) (.inr (fun c t fr e => by rw [hk] at e; cases e))).trans hk
    · rintro pre x W ⟨hi, hs, hl, hk⟩ hgx
      have hy := run_yield (P := P) (args := encs x) hl (by rw [hrec]; exact hps x)
      rw [hrec] at hy
      refine ⟨fn, _, assign, body, hy, roundIn_of_wpIn hfn (hassign _ x W _ ⟨_, run_beginRound hl (by rw [hrec]), ?_⟩)⟩
      have hlt : w.heap.size + 1 < W.heap.size := by omega
      have hl2 : (W.putObj (w.heap.size + 1) (.loop { rec .ready none with state := .busy })).heap[w.heap.size + 1]? = some (.loop { rec .ready none with state := .busy }) := World.putObj_heap_same hlt
      have hk2 : (W.putObj (w.heap.size + 1) (.loop { rec .ready none with state := .busy })).heap[w.heap.size]? = some (.deferred (some [])) := (World.putObj_heap_other (by omega)).trans hk
      have hc2 : ∀ (B : Nat) (TI : List TypeId), B ≤ w.heap.size → KeepsC B TI W (W.putObj (w.heap.size + 1) (.loop { rec .ready none with state := .busy })) := fun _ _ h => .putObj (by omega) hl (nl _)
      refine wpIn_mono (hbody _ pre x _ (hI _ _ _ hi (hc2 _ _ (Nat.le_refl _))) (hG _ _ _ _ hgx (hc2 _ _ (Nat.le_refl _)))) ?_
      have fin : ∀ (jump : Option Code) (W3 : World), Keeps n0 TS (W.putObj (w.heap.size + 1) (.loop { rec .ready none with state := .busy })) W3 →
          w.heap.size + 2 ≤ W3.heap.size ∧ (Instr.endRound (w.heap.size + 1) jump).run P W3 = .ok (.bool jump.isNone) (W3.putObj (w.heap.size + 1) (.loop (rec (if jump.isNone then .ready else .done) jump))) ∧
          (W3.putObj (w.heap.size + 1) (.loop (rec (if jump.isNone then .ready else .done) jump))).heap[w.heap.size + 1]? = some (.loop (rec (if jump.isNone then .ready else .done) jump)) ∧
          (W3.putObj (w.heap.size + 1) (.loop (rec (if jump.isNone then .ready else .done) jump))).heap[w.heap.size]? = some (.deferred (some [])) ∧
          (∀ B TI, B ≤ w.heap.size → KeepsC B TI W3 (W3.putObj (w.heap.size + 1) (.loop (rec (if jump.isNone then .ready else .done) jump)))) ∧
          KeepsC n0 TS W (W3.putObj (w.heap.size + 1) (.loop (rec (if jump.isNone then .ready else .done) jump))) := by
        intro jump W3 hk3
        have hl3 := (hk3.same (w.heap.size + 1) (by simp; omega) (.inr (fun c t fr e => by rw [hl2] at e; cases e))).trans hl2
        have hk4 := (hk3.same w.heap.size (by simp; omega) (.inr (fun c t fr e => by rw [hk2] at e; cases e))).trans hk2
        have hz := hk3.size
        simp at hz
        have hr := run_endRound (P := P) jump hl3
        rw [hrec] at hr ⊢
        rw [hrec] at hl3
        have hcc : ∀ (B : Nat) (TI : List TypeId) (o' : Obj), B ≤ w.heap.size → KeepsC B TI W3 (W3.putObj (w.heap.size + 1) o') := fun _ _ _ h => .putObj (by omega) hl3 (nl _)
        refine ⟨by omega, hr, World.putObj_heap_same (by omega), (World.putObj_heap_other (by omega)).trans hk4, fun B TI h => hcc B TI _ h, ?_⟩
        exact (KeepsC.trans (hc2 _ _ hn0) (by rw [hrec] at hk3 ⊢; exact .of_keeps hk3)).trans (hcc _ _ _ hn0)
      rintro e a3 W3 hp
      cases e with
      | normal =>
        obtain ⟨hk3, hi3⟩ := hp
        obtain ⟨hz, hr, hl4, hk4, hc4, hc5⟩ := fin none W3 hk3
        exact ⟨_, _, hr, true, rfl, hc5, by rw [if_pos rfl]; exact ⟨hI _ _ _ hi3 (hc4 _ _ (Nat.le_refl _)), by simp; omega, hl4, hk4⟩⟩
      | ret =>
        obtain ⟨hk3, hi3⟩ := hp
        obtain ⟨hz, hr, hl4, hk4, hc4, hc5⟩ := fin (some .ret) W3 hk3
        exact ⟨_, _, hr, false, rfl, hc5, by rw [if_neg (by simp)]; exact ⟨.ret, hIx _ _ _ _ hi3 (hc4 _ _ (Nat.le_refl _)), by simp; omega, hl4, hk4⟩⟩
      | exit id =>
        obtain ⟨hk3, hi3⟩ := hp
        obtain ⟨hz, hr, hl4, hk4, hc4, hc5⟩ := fin (some (.exit id)) W3 hk3
        exact ⟨_, _, hr, false, rfl, hc5, by rw [if_neg (by simp)]; exact ⟨.exit id, hIx _ _ _ _ hi3 (hc4 _ _ (Nat.le_refl _)), by simp; omega, hl4, hk4⟩⟩
      | goto t =>
        obtain ⟨hk3, hi3⟩ := hp
        obtain ⟨hz, hr, hl4, hk4, hc4, hc5⟩ := fin (some (.goto t)) W3 hk3
        exact ⟨_, _, hr, false, rfl, hc5, by rw [if_neg (by simp)]; exact ⟨.goto t, hIx _ _ _ _ hi3 (hc4 _ _ (Nat.le_refl _)), by simp; omega, hl4, hk4⟩⟩
      | panic ch => exact hp.elim
      | outgrown => exact hp.elim
    · rintro e W2 ⟨⟨v, rfl⟩, (⟨xs, hS, hi, hz, hl, hk⟩ | ⟨pre, hSp, c, hi, hz, hl, hk⟩)⟩
      · have hr := run_endLoop (P := P) hl (by rw [hrec]; simp)
        refine ⟨none, _, by rw [hrec] at hr; exact hr, hdone xs _ hS (hI _ _ _ hi (.putObj (by omega) hl (nl _))) ((World.putObj_heap_other (by omega)).trans hk)⟩
      · have hr := run_endLoop (P := P) hl (by rw [hrec]; simp)
        refine ⟨some c, _, by rw [hrec] at hr; exact hr, wpIn_wide.2 (hstop c pre _ hSp (hIx c _ _ _ hi (.putObj (by omega) hl (nl _))) ((World.putObj_heap_other (by omega)).trans hk))⟩

/-- A function with such a loop, from its body. -/
theorem calls_marks {P : Program} {f : FuncId} {fn : Func} {c : Code} {args : Array Value} {w : World} {R : Ending → World → Prop} (hf : P.funcs[f]? = some fn) (hb : fn.body = some c)
    (h : c.wp P (bodyPostM Fence.wide 0 P fn R) { tmps := args ++ Array.replicate (fn.ntmps - args.size) undef, defers := [] } w) : Calls P f args w R :=
  callsIn_wide.1 (callsIn_of_wp_marks (n := 0) hf hb trivial (wpIn_wide.2 h))

/-- Its return ahead of the loop; and behind it. -/
theorem marks_ret {P : Program} {fn : Func} {R : Ending → World → Prop} {tmps : Array Value} {w : World} {v : Value} (hr : (results fn tmps).run P w = .ok v w) (hR : R (.returned v) w) :
    bodyPostM Fence.wide 0 P fn R .ret { tmps, defers := [] } w := ⟨v, hr, hR⟩
theorem marks_ret1 {P : Program} {fn : Func} {R : Ending → World → Prop} {tmps : Array Value} {D : Nat} {w : World} {v : Value} (hK : w.heap[D]? = some (.deferred (some [])))
    (hr : (results fn tmps).run P (w.putObj D (.deferred none)) = .ok v (w.putObj D (.deferred none))) (hR : R (.returned v) (w.putObj D (.deferred none))) :
    bodyPostM Fence.wide 0 P fn R .ret { tmps, defers := [{ target := .collected D, args := #[] }] } w :=
  ⟨by simp, .inl ⟨_, _, rfl, run_takeDeferred hK, ⟨v, hr, hR⟩⟩⟩

end Go.Proofs.Ytancfgmaejjooaa
