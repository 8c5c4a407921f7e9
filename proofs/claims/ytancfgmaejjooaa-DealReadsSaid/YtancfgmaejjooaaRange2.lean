/- A range over a function whose assigning lays new boxes; no program in sight. -/
import Derived.Test.YtancfgmaejjooaaRange
set_option linter.unusedVariables false
set_option linter.unusedSimpArgs false
namespace Go.Proofs.Ytancfgmaejjooaa
open Go.RowKit

theorem wp_rangeA {α : Type} {P : Program} {g : Operand} {ps : Array Tmp} {assign body : Code} {Q : Exit → Act → World → Prop} {a : Act} {w : World}
    {gf : Nat} {lb : Array Value} {encs : α → Array Value} {G : List α → α → World → Prop} {S Sp : List α → Prop} {n0 : Nat} {TS TI : List TypeId}
    (hit : IterG P gf lb encs G S Sp n0 TS TI w) (hn0 : n0 ≤ w.heap.size) (hg : a.eval g = .func (.func gf) #[] lb) (eg : ∀ args w, (callFunc gf args).run P w = .ok (.enter gf args) w) (hps : ∀ x, (encs x).size = ps.size)
    (hG : ∀ pre x A B, G pre x A → KeepsC w.heap.size [] A B → G pre x B)
    (I : List α → World → Prop) (Ix : Code → List α → World → Prop) (hI : Holds w.heap.size TI I) (hIx : ∀ c, Holds w.heap.size TI (Ix c)) (h0 : I [] w) (As : α → Act → World → Prop) (hAs : ∀ x b A B, As x b A → KeepsC w.heap.size [] A B → As x b B)
    (hassign : ∀ (l : Nat) (x : α) (W : World) (K : Act → World → Prop), w.heap.size ≤ W.heap.size → (∀ a₁ W₁, Ext W W₁ → As x a₁ W₁ → K a₁ W₁) →
      assign.wpIn (Fence.wide.inRound l) 0 P (Exit.then K (fun _ _ _ => False)) { tmps := (ps.zip (encs x)).foldl (fun t (p, v) => t.setIfInBounds p v) a.tmps, defers := [] } W)
    (hbody : ∀ (l : Nat) (pre : List α) (x : α) (a₁ : Act) (W : World), I pre W → G pre x W → As x a₁ W → body.wpIn (Fence.wide.inRound l) 0 P (rpost n0 TS I Ix (pre ++ [x]) W) a₁ W)
    (hdone : ∀ (xs : List α) (W : World), S xs → I xs W → W.heap[w.heap.size]? = some (.deferred (some [])) → Q .normal { a with defers := { target := .collected w.heap.size, args := #[] } :: a.defers } W)
    (hstop : ∀ (c : Code) (pre : List α) (W : World), Sp pre → Ix c pre W → W.heap[w.heap.size]? = some (.deferred (some [])) → c.wp P Q { a with defers := { target := .collected w.heap.size, args := #[] } :: a.defers } W) :
    (Code.rangeFunc g ps assign body).wp P Q a w := by
  refine (wpIn_wide (n := 0)).1 (wpIn_rangeFunc ?_)
  intro fn hfn
  show ∃ l mark w₁ d w₁' f args w₂, (Instr.enterLoop fn a.tmps ps assign body none).run P w = .ok (l, mark) w₁ ∧ _
  obtain ⟨rec, hrec⟩ : ∃ rec : LoopState → Option Code → Loop, rec = fun st pe => { state := st, pending := pe, fn, tmps := a.tmps, params := ps, assign, body, defers := w.heap.size } := ⟨_, rfl⟩
  obtain ⟨W1, hW1⟩ : ∃ W1, (w.alloc (.deferred (some []))).alloc (.loop (rec .ready none)) = W1 := ⟨_, rfl⟩
  have hL1 : W1.heap[w.heap.size + 1]? = some (.loop (rec .ready none)) := by
    rw [← hW1]; exact heap_new _ _ _ (by simp)
  have hK1 : W1.heap[w.heap.size]? = some (.deferred (some [])) := by
    rw [← hW1]; exact (Below.heap_alloc _ _ _ (by simp)).trans (heap_new w _ _ rfl)
  have hE1 : Ext w W1 := by rw [← hW1]; exact Ext.alloc (Ext.alloc (Ext.refl w) _) _
  have nl : ∀ (r : Loop) c t fr, Obj.loop r ≠ .cells c t fr := fun _ _ _ _ h => by cases h
  have hI1 : I [] W1 := hI _ _ _ h0 (.of_ext hE1)
  have hsz1 : w.heap.size + 2 ≤ W1.heap.size := by rw [← hW1]; simp
  refine ⟨w.heap.size + 1, [{ target := .collected w.heap.size, args := #[] }], W1, { target := .fn (.func gf) lb, args := #[.func (.yield (w.heap.size + 1)) #[] #[]] }, W1, gf,
    #[.func (.yield (w.heap.size + 1)) #[] #[]] ++ lb, W1, ?_, ?_, ?_, ?_, (fun h => by simp [Fence.wide] at h), ?_⟩
  · rw [← hW1, hrec]; exact run_enterLoop_outer _ _ _ _ _
  · simp only [resolve, hg]
    simp [go_sem]
  · intro f' _; trivial
  · simp [invoke, go_sem, eg]
  · refine callsIn_wide.2 ((hit (w.heap.size + 1)
      (fun pre W => I pre W ∧ w.heap.size + 2 ≤ W.heap.size ∧ W.heap[w.heap.size + 1]? = some (.loop (rec .ready none)) ∧ W.heap[w.heap.size]? = some (.deferred (some [])))
      (fun pre W => ∃ c, Ix c pre W ∧ w.heap.size + 2 ≤ W.heap.size ∧ W.heap[w.heap.size + 1]? = some (.loop (rec .done (some c))) ∧ W.heap[w.heap.size]? = some (.deferred (some [])))
      W1 hE1 ?_ ?_ ?_ ⟨hI1, hsz1, hL1, hK1⟩).mono ?_)
    · rintro xs A B ⟨hi, hs, hl, hk⟩ hkp
      refine ⟨hI _ _ _ hi (.of_keeps hkp), Nat.le_trans hs hkp.size, ?_, ?_⟩
      · exact (hkp.same _ (by omega) (.inr (fun c t fr e => by rw [hl] at e; cases e))).trans hl
      · exact (hkp.same _ (by omega) (.inr (fun c t fr e => by rw [hk] at e; cases e))).trans hk
    · rintro xs A B ⟨c, hi, hs, hl, hk⟩ hkp
      refine ⟨c, hIx c _ _ _ hi (.of_keeps hkp), Nat.le_trans hs hkp.size, ?_, ?_⟩
      · exact (hkp.same _ (by omega) (.inr (fun c t fr e => by rw [hl] at e; cases e))).trans hl
      · exact (hkp.same _ (by omega) (.inr (fun c t fr e => by rw [hk] at e; cases e))).trans hk
    · rintro pre x W ⟨hi, hs, hl, hk⟩ hgx
      have hy := run_yield (P := P) (args := encs x) hl (by rw [hrec]; exact hps x)
      rw [hrec] at hy
      refine ⟨fn, _, assign, body, hy, roundIn_of_wpIn hfn (hassign _ x W _ (by omega) fun a₁ W0 hE0 hA0 => ?_)⟩
      have hz0 := hE0.size
      have hlW := hl
      replace hl : W0.heap[w.heap.size + 1]? = some (.loop (rec .ready none)) := (hE0.block _ (by omega)).trans hl
      replace hk : W0.heap[w.heap.size]? = some (.deferred (some [])) := (hE0.block _ (by omega)).trans hk
      replace hi : I pre W0 := hI _ _ _ hi (.of_ext hE0)
      replace hgx : G pre x W0 := hG _ _ _ _ hgx (.of_ext hE0)
      refine ⟨_, run_beginRound hl (by rw [hrec]), ?_⟩
      have hlt : w.heap.size + 1 < W0.heap.size := by omega
      have hl2 : (W0.putObj (w.heap.size + 1) (.loop { rec .ready none with state := .busy })).heap[w.heap.size + 1]? = some (.loop { rec .ready none with state := .busy }) := World.putObj_heap_same hlt
      have hk2 : (W0.putObj (w.heap.size + 1) (.loop { rec .ready none with state := .busy })).heap[w.heap.size]? = some (.deferred (some [])) := (World.putObj_heap_other (by omega)).trans hk
      have hc2 : ∀ (B : Nat) (TI : List TypeId), B ≤ w.heap.size → KeepsC B TI W0 (W0.putObj (w.heap.size + 1) (.loop { rec .ready none with state := .busy })) := fun _ _ h => .putObj (by omega) hl (nl _)
      refine wpIn_mono (hbody _ pre x a₁ _ (hI _ _ _ hi (hc2 _ _ (Nat.le_refl _))) (hG _ _ _ _ hgx (hc2 _ _ (Nat.le_refl _))) (hAs _ _ _ _ hA0 (hc2 _ _ (Nat.le_refl _)))) ?_
      have fin : ∀ (jump : Option Code) (W3 : World), Keeps n0 TS (W0.putObj (w.heap.size + 1) (.loop { rec .ready none with state := .busy })) W3 →
          w.heap.size + 2 ≤ W3.heap.size ∧ (Instr.endRound (w.heap.size + 1) jump).run P W3 = .ok (.bool jump.isNone) (W3.putObj (w.heap.size + 1) (.loop (rec (if jump.isNone then .ready else .done) jump))) ∧
          (W3.putObj (w.heap.size + 1) (.loop (rec (if jump.isNone then .ready else .done) jump))).heap[w.heap.size + 1]? = some (.loop (rec (if jump.isNone then .ready else .done) jump)) ∧
          (W3.putObj (w.heap.size + 1) (.loop (rec (if jump.isNone then .ready else .done) jump))).heap[w.heap.size]? = some (.deferred (some [])) ∧
          (∀ B TI, B ≤ w.heap.size → KeepsC B TI W3 (W3.putObj (w.heap.size + 1) (.loop (rec (if jump.isNone then .ready else .done) jump)))) ∧
          KeepsC n0 TS W (W3.putObj (w.heap.size + 1) (.loop (rec (if jump.isNone then .ready else .done) jump))) := by
        intro jump W3 hk3
        have hl3 := (hk3.same (w.heap.size + 1) (by simp; omega) (.inr (fun c t fr e => by rw [hl2] at e; cases e))).trans hl2
        have hk4 := (hk3.same w.heap.size (by simp; omega) (.inr (fun c t fr e => by rw [hk2] at e; cases e))).trans hk2
        have hz := hk3.size
        simp at hz
        have hr := run_endRound (P := P) jump hl3
        rw [hrec] at hr ⊢
        rw [hrec] at hl3
        have hcc : ∀ (B : Nat) (TI : List TypeId) (o' : Obj), B ≤ w.heap.size → KeepsC B TI W3 (W3.putObj (w.heap.size + 1) o') := fun _ _ _ h => .putObj (by omega) hl3 (nl _)
        refine ⟨by omega, hr, World.putObj_heap_same (by omega), (World.putObj_heap_other (by omega)).trans hk4, fun B TI h => hcc B TI _ h, ?_⟩
        exact (KeepsC.trans (KeepsC.trans (.of_ext hE0) (hc2 _ _ hn0)) (by rw [hrec] at hk3 ⊢; exact .of_keeps hk3)).trans (hcc _ _ _ hn0)
      rintro e a3 W3 hp
      cases e with
      | normal =>
        obtain ⟨hk3, hi3⟩ := hp
        obtain ⟨hz, hr, hl4, hk4, hc4, hc5⟩ := fin none W3 hk3
        exact ⟨_, _, hr, true, rfl, hc5, by rw [if_pos rfl]; exact ⟨hI _ _ _ hi3 (hc4 _ _ (Nat.le_refl _)), by simp; omega, hl4, hk4⟩⟩
      | ret =>
        obtain ⟨hk3, hi3⟩ := hp
        obtain ⟨hz, hr, hl4, hk4, hc4, hc5⟩ := fin (some .ret) W3 hk3
        exact ⟨_, _, hr, false, rfl, hc5, by rw [if_neg (by simp)]; exact ⟨.ret, hIx _ _ _ _ hi3 (hc4 _ _ (Nat.le_refl _)), by simp; omega, hl4, hk4⟩⟩
      | exit id =>
        obtain ⟨hk3, hi3⟩ := hp
        obtain ⟨hz, hr, hl4, hk4, hc4, hc5⟩ := fin (some (.exit id)) W3 hk3
        exact ⟨_, _, hr, false, rfl, hc5, by rw [if_neg (by simp)]; exact ⟨.exit id, hIx _ _ _ _ hi3 (hc4 _ _ (Nat.le_refl _)), by simp; omega, hl4, hk4⟩⟩
      | goto t =>
        obtain ⟨hk3, hi3⟩ := hp
        obtain ⟨hz, hr, hl4, hk4, hc4, hc5⟩ := fin (some (.goto t)) W3 hk3
        exact ⟨_, _, hr, false, rfl, hc5, by rw [if_neg (by simp)]; exact ⟨.goto t, hIx _ _ _ _ hi3 (hc4 _ _ (Nat.le_refl _)), by simp; omega, hl4, hk4⟩⟩
      | panic ch => exact hp.elim
      | outgrown => exact hp.elim
    · rintro e W2 ⟨⟨v, rfl⟩, (⟨xs, hS, hi, hz, hl, hk⟩ | ⟨pre, hSp, c, hi, hz, hl, hk⟩)⟩
      · have hr := run_endLoop (P := P) hl (by rw [hrec]; simp)
        refine ⟨none, _, by rw [hrec] at hr; exact hr, hdone xs _ hS (hI _ _ _ hi (.putObj (by omega) hl (nl _))) ((World.putObj_heap_other (by omega)).trans hk)⟩
      · have hr := run_endLoop (P := P) hl (by rw [hrec]; simp)
        refine ⟨some c, _, by rw [hrec] at hr; exact hr, wpIn_wide.2 (hstop c pre _ hSp (hIx c _ _ _ hi (.putObj (by omega) hl (nl _))) ((World.putObj_heap_other (by omega)).trans hk))⟩


theorem wp_rangeB {α : Type} {P : Program} {g : Operand} {ps : Array Tmp} {assign body : Code} {Q : Exit → Act → World → Prop} {a : Act} {w : World}
    {gf : Nat} {lb : Array Value} {encs : α → Array Value} {G : List α → α → World → Prop} {S Sp : List α → Prop} {n0 : Nat} {TS TI : List TypeId}
    (hit : IterG P gf lb encs G S Sp n0 TS TI w) (hn0 : n0 ≤ w.heap.size) (hg : a.eval g = .func (.func gf) #[] lb) (eg : ∀ args w, (callFunc gf args).run P w = .ok (.enter gf args) w) (hps : ∀ x, (encs x).size = ps.size)
    (hG : ∀ pre x A B, G pre x A → KeepsC w.heap.size [] A B → G pre x B)
    (I : List α → World → Prop) (Ix : Code → List α → World → Prop) (hI : Holds w.heap.size TI I) (hIx : ∀ c, Holds w.heap.size TI (Ix c)) (h0 : I [] w) (Rw : α → Nat → World → Prop) (hRw : ∀ x b A B, Rw x b A → KeepsC w.heap.size [] A B → Rw x b B) (F : α → Nat → Act)
    (hassign : ∀ (l : Nat) (x : α) (W : World) (K : Act → World → Prop), w.heap.size ≤ W.heap.size → (∀ b W₁, Ext W W₁ → Rw x b W₁ → K (F x b) W₁) →
      assign.wpIn (Fence.wide.inRound l) 0 P (Exit.then K (fun _ _ _ => False)) { tmps := (ps.zip (encs x)).foldl (fun t (p, v) => t.setIfInBounds p v) a.tmps, defers := [] } W)
    (hbody : ∀ (l : Nat) (pre : List α) (x : α) (b : Nat) (W : World), I pre W → G pre x W → Rw x b W → body.wpIn (Fence.wide.inRound l) 0 P (rpost n0 TS I Ix (pre ++ [x]) W) (F x b) W)
    (hdone : ∀ (xs : List α) (W : World), S xs → I xs W → W.heap[w.heap.size]? = some (.deferred (some [])) → Q .normal { a with defers := { target := .collected w.heap.size, args := #[] } :: a.defers } W)
    (hstop : ∀ (c : Code) (pre : List α) (W : World), Sp pre → Ix c pre W → W.heap[w.heap.size]? = some (.deferred (some [])) → c.wp P Q { a with defers := { target := .collected w.heap.size, args := #[] } :: a.defers } W) :
    (Code.rangeFunc g ps assign body).wp P Q a w :=
  wp_rangeA hit hn0 hg eg hps hG I Ix hI hIx h0 (fun x a W => ∃ b, Rw x b W ∧ a = F x b) (fun x a A B h hk => let ⟨b, h1, h2⟩ := h; ⟨b, hRw x b A B h1 hk, h2⟩)
    (fun l x W K hz hK => hassign l x W K hz (fun b W₁ hE hR => hK _ _ hE ⟨b, hR, rfl⟩))
    (fun l pre x a₁ W hi hg h => by obtain ⟨b, h1, rfl⟩ := h; exact hbody l pre x b W hi hg h1) hdone hstop

end Go.Proofs.Ytancfgmaejjooaa
