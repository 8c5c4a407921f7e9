/- Blocks and writes in the call's own memory, one behind the other. -/
import Derived.Test.YtancfgmaejjooaaLex
import Derived.Test.YtancfgmaejjooaaSteps
set_option linter.unusedVariables false
set_option linter.unusedSimpArgs false
namespace Go.Proofs.Ytancfgmaejjooaa
open Go.RowKit

theorem info114 : (Try.prog.info? 114).map (fun i => (i.zero, i.size, i.bytes)) = some (some (.agg #[.int .i64 0, .slice none 0 0]), 2, 32) := by kernel_rfl

def OwnB (base : Nat) (w : World) (v : Value) (bs : List (List UInt8)) : Prop :=
  ∃ ps : List (List UInt8 × Value), ps.map (·.1) = bs ∧ w.ownsRow base 32 1 v ps.length (ps.map (·.2)) ∧ ∀ p ∈ ps, w.ownsRow base 5 1 p.2 p.1.length (p.1.map B)
def wpair (p : Wr × Value) : List Value := [I p.1.at_, p.2]
def OwnW (base : Nat) (w : World) (v : Value) (ws : List Wr) : Prop :=
  ∃ ps : List (Wr × Value), ps.map (·.1) = ws ∧ w.ownsRow base 114 2 v ps.length (ps.flatMap wpair) ∧ ∀ p ∈ ps, w.ownsRow base 5 1 p.2 p.1.data.length (p.1.data.map B)

theorem OwnB.nil (base : Nat) (w : World) : OwnB base w (.slice none 0 0) [] := ⟨[], rfl, World.ownsRow_nil _ _ _ _, by simp⟩
theorem OwnW.nil (base : Nat) (w : World) : OwnW base w (.slice none 0 0) [] := ⟨[], rfl, World.ownsRow_nil _ _ _ _, by simp⟩
theorem OwnB.keepsC {base : Nat} {w w' : World} {v : Value} {bs : List (List UInt8)} (h : OwnB base w v bs) {n0 : Nat} {TS : List TypeId} (hk : KeepsC n0 TS w w') (ht : 32 ∉ TS ∧ 5 ∉ TS) : OwnB base w' v bs := by
  obtain ⟨ps, h1, h2, h3⟩ := h
  exact ⟨ps, h1, ownsRow_keepsC h2 hk ht.1, fun p hp => ownsRow_keepsC (h3 p hp) hk ht.2⟩
theorem OwnW.keepsC {base : Nat} {w w' : World} {v : Value} {ws : List Wr} (h : OwnW base w v ws) {n0 : Nat} {TS : List TypeId} (hk : KeepsC n0 TS w w') (ht : 114 ∉ TS ∧ 5 ∉ TS) : OwnW base w' v ws := by
  obtain ⟨ps, h1, h2, h3⟩ := h
  exact ⟨ps, h1, ownsRow_keepsC h2 hk ht.1, fun p hp => ownsRow_keepsC (h3 p hp) hk ht.2⟩
theorem OwnB.ext {base : Nat} {w w' : World} {v : Value} {bs : List (List UInt8)} (h : OwnB base w v bs) (he : Ext w w') : OwnB base w' v bs := h.keepsC (n0 := 0) (TS := []) (.of_ext he) (by simp)
theorem OwnW.ext {base : Nat} {w w' : World} {v : Value} {ws : List Wr} (h : OwnW base w v ws) (he : Ext w w') : OwnW base w' v ws := h.keepsC (n0 := 0) (TS := []) (.of_ext he) (by simp)
theorem OwnB.lower {base base' : Nat} {w : World} {v : Value} {bs : List (List UInt8)} (h : OwnB base w v bs) (hb : base' ≤ base) : OwnB base' w v bs := by
  obtain ⟨ps, h1, h2, h3⟩ := h
  exact ⟨ps, h1, own_lower h2 hb, fun p hp => own_lower (h3 p hp) hb⟩
theorem OwnW.lower {base base' : Nat} {w : World} {v : Value} {ws : List Wr} (h : OwnW base w v ws) (hb : base' ≤ base) : OwnW base' w v ws := by
  obtain ⟨ps, h1, h2, h3⟩ := h
  exact ⟨ps, h1, own_lower h2 hb, fun p hp => own_lower (h3 p hp) hb⟩
theorem OwnB.sl {base : Nat} {w : World} {v : Value} {bs : List (List UInt8)} (h : OwnB base w v bs) : (Rep.slice Rep.byte).sl w v bs := by
  obtain ⟨ps, rfl, h2, h3⟩ := h
  refine own_sl1 rfl h2 _ (by simp) (fun j hj hc => ⟨_, rfl, ?_⟩)
  have hj' : j < ps.length := by simpa using hj
  have := own_bytes (h3 ps[j] (List.getElem_mem hj'))
  simpa using this
theorem OwnW.sl {base : Nat} {w : World} {v : Value} {ws : List Wr} (h : OwnW base w v ws) : Rep.wr.sl w v ws := by
  obtain ⟨ps, rfl, h2, h3⟩ := h
  refine own_sl h2 _ (by simp) (fun j hj => ?_)
  have hj' : j < ps.length := by simpa using hj
  have e : ((ps.flatMap wpair).drop (j * Rep.wr.size)).take Rep.wr.size = wpair ps[j] := flat_at wpair 2 (fun _ => rfl) ps j hj'
  rw [e]
  have := own_bytes (h3 ps[j] (List.getElem_mem hj'))
  exact ⟨ps[j].2, by simp [wpair], by simpa using this⟩
/-- One more. -/
theorem OwnB.snoc {base : Nat} {w0 w' : World} {v' u : Value} {bs : List (List UInt8)} {x : List UInt8} {ps : List (List UInt8 × Value)} (e : ps.map (·.1) = bs) (hp : ∀ p ∈ ps, w0.ownsRow base 5 1 p.2 p.1.length (p.1.map B)) (hx : w0.ownsRow base 5 1 u x.length (x.map B))
    (h : w'.ownsRow base 32 1 v' (ps.length + 1) (ps.map (·.2) ++ [u])) (hk : ∀ u n (l : List Value), w0.ownsRow base 5 1 u n l → w'.ownsRow base 5 1 u n l) : OwnB base w' v' (bs ++ [x]) := by
  refine ⟨ps ++ [(x, u)], by simp [e], by simpa using h, fun p hpp => ?_⟩
  simp at hpp
  rcases hpp with hpp | rfl
  · exact hk _ _ _ (hp p hpp)
  · exact hk _ _ _ hx
theorem OwnW.snoc {base : Nat} {w0 w' : World} {v' u : Value} {ws : List Wr} {x : Wr} {ps : List (Wr × Value)} (e : ps.map (·.1) = ws) (hp : ∀ p ∈ ps, w0.ownsRow base 5 1 p.2 p.1.data.length (p.1.data.map B)) (hx : w0.ownsRow base 5 1 u x.data.length (x.data.map B))
    (h : w'.ownsRow base 114 2 v' (ps.length + 1) (ps.flatMap wpair ++ [I x.at_, u])) (hk : ∀ u n (l : List Value), w0.ownsRow base 5 1 u n l → w'.ownsRow base 5 1 u n l) : OwnW base w' v' (ws ++ [x]) := by
  refine ⟨ps ++ [(x, u)], by simp [e], by simpa [wpair] using h, fun p hpp => ?_⟩
  simp at hpp
  rcases hpp with hpp | rfl
  · exact hk _ _ _ (hp p hpp)
  · exact hk _ _ _ hx
/-- What a write into a block of another type leaves. -/
theorem own_grownT {w w' : World} {base : Nat} {e : TypeId} {size : Nat} {v : Value} {n : Nat} {cs : List Value} (h : w.ownsRow base e size v n cs) {o : Option Nat} (hg : w.grownBy w' o) (hr : ∀ g, o = some g → ∃ cur t, RowAt w g cur t ∧ t ≠ e) : w'.ownsRow base e size v n cs :=
  own_grown h hg (fun g hg' e => by
    obtain ⟨cur, t, h1, h2⟩ := hr g e
    obtain ⟨_, cur', h3⟩ := own_block h g hg'
    exact h1.ne h3 h2 rfl)

end Go.Proofs.Ytancfgmaejjooaa
