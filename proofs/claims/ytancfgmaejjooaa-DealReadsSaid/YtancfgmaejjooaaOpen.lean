/- Arguments as they come in, read as lists: a config, a device. -/
import Derived.Test.YtancfgmaejjooaaDeal1
import Derived.Deep.Slices
import Derived.ChangeSame
import Derived.Carry
set_option linter.unusedVariables false
set_option linter.unusedSimpArgs false
namespace Go.Proofs.Ytancfgmaejjooaa
open Go.RowKit
open Go.ChangeShapes Go.WideShapes Go.Deep

theorem cells22 : Try.prog.cellsOf 22 = 1 := by kernel_rfl
theorem cells3 : Try.prog.cellsOf 3 = 1 := by kernel_rfl
theorem cells4 : Try.prog.cellsOf 4 = 1 := by kernel_rfl
theorem cells5' : Try.prog.cellsOf 5 = 1 := by kernel_rfl
theorem cells24 : Try.prog.cellsOf 24 = 6 := by kernel_rfl
theorem cells25 : Try.prog.cellsOf 25 = 1 := by kernel_rfl
theorem cells26 : Try.prog.cellsOf 26 = 1 := by kernel_rfl
theorem cells28 : Try.prog.cellsOf 28 = 3 := by kernel_rfl
theorem cells32 : Try.prog.cellsOf 32 = 1 := by kernel_rfl
theorem cells114 : Try.prog.cellsOf 114 = 2 := by kernel_rfl

theorem cell_spot {w : World} {a : Addr} {v : Value} (h : w.cell? a = some v) : a = ⟨a.block, a.off, none⟩ := by
  obtain ⟨b, o, s⟩ := a
  cases s with
  | none => rfl
  | some s =>
    unfold World.cell? at h
    split at h
    · simp at h
    · cases h
theorem spot0 {w : World} {a : Addr} {v : Value} (h : w.cell? (a.add 0) = some v) : a = ⟨a.block, a.off, none⟩ := by
  have e : a.add 0 = a := by unfold Addr.add; simp
  rw [e] at h
  exact cell_spot h

section
variable {H : Type} {enc : TypeId × Value → H} {w : World}

theorem byte_wf {n : Int} (h : (Lit.int .u8 n).wf = true) : ∃ b : UInt8, n = (b.toNat : Int) := by
  have hx : 0 ≤ n ∧ n ≤ 255 := by simpa [Lit.wf, IntKind.min, IntKind.max, IntKind.signed, IntKind.bits] using h
  refine ⟨UInt8.ofNat n.toNat, ?_⟩
  rw [UInt8.toNat_ofNat']
  omega
theorem u32_wf {n : Int} (h : (Lit.int .u32 n).wf = true) : ∃ k : Nat, n = (k : Int) ∧ k < 4294967296 := by
  have hx : 0 ≤ n ∧ n ≤ 4294967295 := by simpa [Lit.wf, IntKind.min, IntKind.max, IntKind.signed, IntKind.bits] using h
  exact ⟨n.toNat, by omega, by omega⟩

theorem bytes_open {fuel : Nat} {v : Value} {x : DataW H × List MemPlace} (h : DataW.trod enc Try.prog w 0 (fun _ => true) true fuel 32 [v] = some x) : ∃ l : List UInt8, Rep.byte.sl w v l := by
  rcases open_slice1 Try.underlying32 cells5' h with ⟨h1, _⟩ | ⟨a, len, cap, m, n, V, D, Pl, h1, _, hl, hm, hmm, _, hx⟩
  · cases h1
    exact ⟨[], none, 0, rfl, Nat.le_refl _, by unfold Cap; omega, .inl rfl⟩
  · cases h1
    obtain ⟨f, hf⟩ := choose_lt (n := m) (p := fun i (b : UInt8) => V i = B b) (fun i hi => by
      obtain ⟨k, hk, _, hw⟩ := DataW.trod_int Try.underlying5 (hx i hi).2
      obtain ⟨b, rfl⟩ := byte_wf hw
      exact ⟨b, by simpa using hk⟩)
    have hle : len ≤ m := by rw [hmm]; simpa using hl
    refine ⟨(List.range len).map f, some a, cap, by simp, by simpa using hl, by simpa [Cap, maxLen] using hm, ?_⟩
    rcases Nat.eq_zero_or_pos len with h0 | h0
    · exact .inl (by simp [h0])
    · have hs := spot0 (hx 0 (by omega)).1
      refine .inr ⟨a.block, a.off, by rw [← hs], fun j hj => ?_⟩
      have hj' : j < len := by simpa using hj
      refine ⟨[B (f j)], by show _ = _; simp, fun t ht => ?_⟩
      have ht' : t = 0 := by simpa using ht
      subst ht'
      have := (hx j (by omega)).1
      rw [hf j (by omega), hs, add_lit] at this
      simpa [Rep.byte] using this

theorem blocks_open {fuel : Nat} {v : Value} {x : DataW H × List MemPlace} (h : DataW.trod enc Try.prog w 0 (fun _ => true) true fuel 25 [v] = some x) : ∃ l : List (List UInt8), (Rep.slice Rep.byte).sl w v l := by
  rcases open_slice1 Try.underlying25 cells32 h with ⟨h1, _⟩ | ⟨a, len, cap, m, n, V, D, Pl, h1, _, hl, hm, hmm, _, hx⟩
  · cases h1
    exact ⟨[], none, 0, rfl, Nat.le_refl _, by unfold Cap; omega, .inl rfl⟩
  · cases h1
    obtain ⟨f, hf⟩ := choose_lt (n := m) (p := fun i (b : List UInt8) => Rep.byte.sl w (V i) b) (fun i hi => bytes_open (hx i hi).2)
    have hle : len ≤ m := by rw [hmm]; simpa using hl
    refine ⟨(List.range len).map f, some a, cap, by simp, by simpa using hl, by simpa [Cap, maxLen] using hm, ?_⟩
    rcases Nat.eq_zero_or_pos len with h0 | h0
    · exact .inl (by simp [h0])
    · have hs := spot0 (hx 0 (by omega)).1
      refine .inr ⟨a.block, a.off, by rw [← hs], fun j hj => ?_⟩
      have hj' : j < len := by simpa using hj
      refine ⟨[V j], ⟨V j, rfl, by simpa using hf j (by omega)⟩, fun t ht => ?_⟩
      have ht' : t = 0 := by simpa using ht
      subst ht'
      have := (hx j (by omega)).1
      rw [hs, add_lit] at this
      simpa [Rep.slice] using this

set_option maxRecDepth 100000 in
theorem waits_open {fuel : Nat} {v : Value} {x : DataW H × List MemPlace} (h : DataW.trod enc Try.prog w 0 (fun _ => true) true fuel 26 [v] = some x) : ∃ l : List Wr, Rep.wr.sl w v l := by
  rcases open_slice Try.underlying26 h with ⟨h1, _⟩ | ⟨a, len, cap, m, n, D, Pl, h1, _, hl, hm, hmm, _, hx⟩
  · cases h1
    exact ⟨[], none, 0, rfl, Nat.le_refl _, by unfold Cap; omega, .inl rfl⟩
  · cases h1
    have key : ∀ i, i < m → ∃ p : Wr × Value, w.cell? (a.add (i * 2)) = some (I p.1.at_) ∧ w.cell? ((a.add (i * 2)).add 1) = some p.2 ∧ Rep.byte.sl w p.2 p.1.data := fun i hi => by
      obtain ⟨cs', hc, ht⟩ := hx i hi
      rw [cells114] at hc
      obtain ⟨_, hcl, hat⟩ := World.cells?_some hc
      obtain ⟨xs, n', _, _, _, hlen, hg⟩ := DataW.trod_struct Try.underlying114 ht
      match cs', hcl with
      | [c0, c1], _ =>
        have h0 : DataW.trod enc Try.prog w 0 (fun _ => true) true n' 3 [c0] = some (xs[0]'(by rw [hlen]; decide)) := by
          have this : DataW.trod enc Try.prog w 0 (fun _ => true) true n' 3 ((([c0, c1] : List Value).drop 0).take (Try.prog.cellsOf 3)) = xs[0]? := hg 0 _ rfl
          rw [cells3, List.getElem?_eq_getElem (by rw [hlen]; decide)] at this
          exact this
        have h1 : DataW.trod enc Try.prog w 0 (fun _ => true) true n' 32 [c1] = some (xs[1]'(by rw [hlen]; decide)) := by
          have this : DataW.trod enc Try.prog w 0 (fun _ => true) true n' 32 ((([c0, c1] : List Value).drop 1).take (Try.prog.cellsOf 32)) = xs[1]? := hg 1 _ rfl
          rw [cells32, List.getElem?_eq_getElem (by rw [hlen]; decide)] at this
          exact this
        obtain ⟨k, hk, _, _⟩ := DataW.trod_int Try.underlying3 h0
        obtain ⟨l, hl'⟩ := bytes_open (v := c1) h1
        obtain rfl : c0 = I k := by simpa using hk
        have a0 := hat 0 (by decide)
        have a1 := hat 1 (by decide)
        refine ⟨(⟨k, l⟩, c1), ?_, by simpa using a1, hl'⟩
        have e : (a.add (i * 2)).add 0 = a.add (i * 2) := by unfold Addr.add; split <;> simp_all
        rw [e] at a0
        simpa using a0
    obtain ⟨f, hf⟩ := @choose_lt (Wr × Value) ⟨(⟨0, []⟩, .slice none 0 0)⟩ m _ key
    have hle : len ≤ m := by rw [hmm]; simpa using hl
    refine ⟨(List.range len).map fun i => (f i).1, some a, cap, by simp, by simpa using hl, by simpa [Cap, maxLen] using hm, ?_⟩
    rcases Nat.eq_zero_or_pos len with h0 | h0
    · exact .inl (by simp [h0])
    · have hs := spot0 (by simpa using (hf 0 (by omega)).1)
      refine .inr ⟨a.block, a.off, by rw [← hs], fun j hj => ?_⟩
      have hj' : j < len := by simpa using hj
      obtain ⟨f1, f2, f3⟩ := hf j (by omega)
      rw [hs, add_lit] at f1 f2
      rw [add_lit] at f2
      refine ⟨[I (f j).1.at_, (f j).2], ⟨(f j).2, by simp, by simpa using f3⟩, fun t ht => ?_⟩
      have ht' : t < 2 := by simpa using ht
      match t, ht' with
      | 0, _ => simpa [Rep.wr] using f1
      | 1, _ => simpa [Rep.wr, Nat.add_assoc] using f2

set_option maxRecDepth 100000 in
theorem cfg_open {r : Reach} {b0 : Nat} {v : Value} {d : DataW H} {p : List MemPlace} (hv : Value.okWide Try.prog w r b0 24 v) (h : DataW.Trod enc Try.prog w 0 (fun _ => true) true 24 v d p) : ∃ c : Cfg, v = c.v ∧ c.id < 4294967296 := by
  obtain ⟨cs, rfl, hsz⟩ := okWide_struct Try.underlying24 hv
  rw [cells24] at hsz
  obtain ⟨l⟩ := cs
  obtain ⟨fuel, hf⟩ := h
  obtain ⟨xs, n, _, _, _, hlen, hg⟩ := DataW.trod_struct Try.underlying24 hf
  match l, hsz with
  | [c0, c1, c2, c3, c4, c5], _ =>
    have h0 : DataW.trod enc Try.prog w 0 (fun _ => true) true n 22 [c0] = some (xs[0]'(by rw [hlen]; decide)) := by
      have this : DataW.trod enc Try.prog w 0 (fun _ => true) true n 22 (((Value.agg #[c0, c1, c2, c3, c4, c5]).cells.toList.drop 0).take (Try.prog.cellsOf 22)) = xs[0]? := hg 0 _ rfl
      rw [cells22, List.getElem?_eq_getElem (by rw [hlen]; decide)] at this
      exact this
    have h1 : DataW.trod enc Try.prog w 0 (fun _ => true) true n 3 [c1] = some (xs[1]'(by rw [hlen]; decide)) := by
      have this : DataW.trod enc Try.prog w 0 (fun _ => true) true n 3 (((Value.agg #[c0, c1, c2, c3, c4, c5]).cells.toList.drop 1).take (Try.prog.cellsOf 3)) = xs[1]? := hg 1 _ rfl
      rw [cells3, List.getElem?_eq_getElem (by rw [hlen]; decide)] at this
      exact this
    have h2 : DataW.trod enc Try.prog w 0 (fun _ => true) true n 3 [c2] = some (xs[2]'(by rw [hlen]; decide)) := by
      have this : DataW.trod enc Try.prog w 0 (fun _ => true) true n 3 (((Value.agg #[c0, c1, c2, c3, c4, c5]).cells.toList.drop 2).take (Try.prog.cellsOf 3)) = xs[2]? := hg 2 _ rfl
      rw [cells3, List.getElem?_eq_getElem (by rw [hlen]; decide)] at this
      exact this
    have h3 : DataW.trod enc Try.prog w 0 (fun _ => true) true n 3 [c3] = some (xs[3]'(by rw [hlen]; decide)) := by
      have this : DataW.trod enc Try.prog w 0 (fun _ => true) true n 3 (((Value.agg #[c0, c1, c2, c3, c4, c5]).cells.toList.drop 3).take (Try.prog.cellsOf 3)) = xs[3]? := hg 3 _ rfl
      rw [cells3, List.getElem?_eq_getElem (by rw [hlen]; decide)] at this
      exact this
    have h4 : DataW.trod enc Try.prog w 0 (fun _ => true) true n 3 [c4] = some (xs[4]'(by rw [hlen]; decide)) := by
      have this : DataW.trod enc Try.prog w 0 (fun _ => true) true n 3 (((Value.agg #[c0, c1, c2, c3, c4, c5]).cells.toList.drop 4).take (Try.prog.cellsOf 3)) = xs[4]? := hg 4 _ rfl
      rw [cells3, List.getElem?_eq_getElem (by rw [hlen]; decide)] at this
      exact this
    have h5 : DataW.trod enc Try.prog w 0 (fun _ => true) true n 3 [c5] = some (xs[5]'(by rw [hlen]; decide)) := by
      have this : DataW.trod enc Try.prog w 0 (fun _ => true) true n 3 (((Value.agg #[c0, c1, c2, c3, c4, c5]).cells.toList.drop 5).take (Try.prog.cellsOf 3)) = xs[5]? := hg 5 _ rfl
      rw [cells3, List.getElem?_eq_getElem (by rw [hlen]; decide)] at this
      exact this
    obtain ⟨k0, e0, _, w0⟩ := DataW.trod_int Try.underlying22 h0
    obtain ⟨k1, e1, _, _⟩ := DataW.trod_int Try.underlying3 h1
    obtain ⟨k2, e2, _, _⟩ := DataW.trod_int Try.underlying3 h2
    obtain ⟨k3, e3, _, _⟩ := DataW.trod_int Try.underlying3 h3
    obtain ⟨k4, e4, _, _⟩ := DataW.trod_int Try.underlying3 h4
    obtain ⟨k5, e5, _, _⟩ := DataW.trod_int Try.underlying3 h5
    obtain ⟨i0, rfl, hi⟩ := u32_wf w0
    simp only [List.cons.injEq, and_true] at e0 e1 e2 e3 e4 e5
    subst e0 e1 e2 e3 e4 e5
    exact ⟨⟨i0, k1, k2, k3, k4, k5⟩, rfl, hi⟩

set_option maxRecDepth 100000 in
theorem disk_open {r : Reach} {b0 : Nat} {v : Value} {d : DataW H} {p : List MemPlace} (hv : Value.okWide Try.prog w r b0 28 v) (h : DataW.Trod enc Try.prog w 0 (fun _ => true) true 28 v d p) : ∃ (dk : Dk) (bv wv : Value), v = dk.v bv wv ∧ DkAt w bv wv dk := by
  obtain ⟨cs, rfl, hsz⟩ := okWide_struct Try.underlying28 hv
  rw [cells28] at hsz
  obtain ⟨l⟩ := cs
  obtain ⟨fuel, hf⟩ := h
  obtain ⟨xs, n, _, _, _, hlen, hg⟩ := DataW.trod_struct Try.underlying28 hf
  match l, hsz with
  | [c0, c1, c2], _ =>
    have h0 : DataW.trod enc Try.prog w 0 (fun _ => true) true n 25 [c0] = some (xs[0]'(by rw [hlen]; decide)) := by
      have this : DataW.trod enc Try.prog w 0 (fun _ => true) true n 25 (((Value.agg #[c0, c1, c2]).cells.toList.drop 0).take (Try.prog.cellsOf 25)) = xs[0]? := hg 0 _ rfl
      rw [cells25, List.getElem?_eq_getElem (by rw [hlen]; decide)] at this
      exact this
    have h1 : DataW.trod enc Try.prog w 0 (fun _ => true) true n 26 [c1] = some (xs[1]'(by rw [hlen]; decide)) := by
      have this : DataW.trod enc Try.prog w 0 (fun _ => true) true n 26 (((Value.agg #[c0, c1, c2]).cells.toList.drop 1).take (Try.prog.cellsOf 26)) = xs[1]? := hg 1 _ rfl
      rw [cells26, List.getElem?_eq_getElem (by rw [hlen]; decide)] at this
      exact this
    have h2 : DataW.trod enc Try.prog w 0 (fun _ => true) true n 4 [c2] = some (xs[2]'(by rw [hlen]; decide)) := by
      have this : DataW.trod enc Try.prog w 0 (fun _ => true) true n 4 (((Value.agg #[c0, c1, c2]).cells.toList.drop 2).take (Try.prog.cellsOf 4)) = xs[2]? := hg 2 _ rfl
      rw [cells4, List.getElem?_eq_getElem (by rw [hlen]; decide)] at this
      exact this
    obtain ⟨bl, hb⟩ := blocks_open (v := c0) h0
    obtain ⟨ws, hw⟩ := waits_open (v := c1) h1
    obtain ⟨b, e2, _⟩ := DataW.trod_bool Try.underlying4 h2
    simp only [List.cons.injEq, and_true] at e2
    subst e2
    exact ⟨⟨bl, ws, b⟩, c0, c1, rfl, hb, hw⟩
end

end Go.Proofs.Ytancfgmaejjooaa
