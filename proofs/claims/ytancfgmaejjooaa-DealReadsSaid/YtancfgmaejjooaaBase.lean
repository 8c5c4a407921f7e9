/- The words of these proofs: how lists of data lie in memory, and that what lies there stays while the world grows. No program in sight. -/
import Derived.WalkKit
import Derived.WalkSpells
import Derived.WalkLawsBesides
import Derived.Lib.Hide
import Derived.Maps.AppendAt
import Derived.Deep.AppendSrc
import Derived.Deep.QuietTactic
import Derived.BigQuiet
import Derived.Deep.RegionWith
import Derived.Lib.ConvBytes
import Derived.Deep.OwnRows
import Derived.Lib.SliceRun
import Derived.KernelRfl
import Derived.Laws.Tables
import Derived.Laws.BitsAllLaws
import Derived.Laws.IdiomCopy
import Derived.Laws.CopyRow
set_option linter.unusedVariables false
set_option linter.unusedSimpArgs false
namespace Go.Proofs.Ytancfgmaejjooaa
open Go.RowKit

/-- The world has only grown. -/
abbrev Ext (w w' : World) : Prop := Below w.heap.size w w'

theorem Ext.cells {w w' : World} (h : Ext w w') {a : Addr} {v : Value} (hc : w.cell? a = some v) : w'.cell? a = some v :=
  (h.cell (World.block_lt_of_cell? w a hc)).trans hc

theorem Ext.trans {a b c : World} (h : Ext a b) (k : Ext b c) : Ext a c :=
  Below.trans h ⟨k.os, k.tape, k.output, k.size, fun i hi => k.block i (Nat.lt_of_lt_of_le hi h.size)⟩

theorem Ext.of_below {B : Nat} {a b c : World} (h : Below B a b) (hB : B ≤ b.heap.size) (k : Ext b c) : Below B a c :=
  Below.trans h ⟨k.os, k.tape, k.output, k.size, fun i hi => k.block i (Nat.lt_of_lt_of_le hi hB)⟩

/-- How a datum lies in some cells. -/
structure Rep (α : Type) where
  size : Nat
  K : World → α → List Value → Prop
  len : ∀ {w x cs}, K w x cs → cs.length = size
  ext : ∀ {w w' x cs}, K w x cs → Ext w w' → K w' x cs

/-- A capacity may be. -/
def Cap (c : Nat) : Prop := c ≤ 9223372036854775807

/-- A length may be. -/
def Fit (n : Nat) : Prop := n ≤ 4294967296

/-- Elements side by side, from an address on; of no element nothing is asked. -/
def Rep.row {α : Type} (R : Rep α) (w : World) (A : Option Addr) (xs : List α) : Prop :=
  xs = [] ∨ ∃ b off, A = some ⟨b, off, none⟩ ∧ ∀ j (h : j < xs.length), ∃ cs, R.K w xs[j] cs ∧ ∀ t (ht : t < cs.length), w.cell? ⟨b, off + (j * R.size + t), none⟩ = some cs[t]

/-- A slice that reads as a list. -/
def Rep.sl {α : Type} (R : Rep α) (w : World) (v : Value) (xs : List α) : Prop :=
  ∃ A c, v = .slice A xs.length c ∧ xs.length ≤ c ∧ Cap c ∧ R.row w A xs

theorem Rep.row.ext {α : Type} {R : Rep α} {w w' : World} {A : Option Addr} {xs : List α} (h : R.row w A xs) (he : Ext w w') : R.row w' A xs := by
  rcases h with h | ⟨b, off, rfl, h⟩
  · exact .inl h
  · refine .inr ⟨b, off, rfl, fun j hj => ?_⟩
    obtain ⟨cs, hk, hc⟩ := h j hj
    exact ⟨cs, R.ext hk he, fun t ht => he.cells (hc t ht)⟩

theorem Rep.sl.ext {α : Type} {R : Rep α} {w w' : World} {v : Value} {xs : List α} (h : R.sl w v xs) (he : Ext w w') : R.sl w' v xs := by
  obtain ⟨A, c, rfl, h1, h2, h3⟩ := h
  exact ⟨A, c, rfl, h1, h2, h3.ext he⟩

theorem Rep.row.get {α : Type} {R : Rep α} {w : World} {A : Option Addr} {xs : List α} (h : R.row w A xs) (hn : 0 < xs.length) :
    ∃ b off, A = some ⟨b, off, none⟩ ∧ ∀ j (h : j < xs.length), ∃ cs, R.K w xs[j] cs ∧ ∀ t (ht : t < cs.length), w.cell? ⟨b, off + (j * R.size + t), none⟩ = some cs[t] := by
  rcases h with rfl | h
  · simp at hn
  · exact h

/-! ### The kinds -/

abbrev B (x : UInt8) : Value := .int .u8 (x.toNat : Int)
abbrev I (n : Int) : Value := .int .i64 n

def Rep.byte : Rep UInt8 where
  size := 1
  K _ x cs := cs = [B x]
  len h := by rw [h]; rfl
  ext h _ := h

def Rep.int : Rep Int where
  size := 1
  K _ x cs := cs = [I x]
  len h := by rw [h]; rfl
  ext h _ := h

def Rep.bool : Rep Bool where
  size := 1
  K _ x cs := cs = [Value.bool x]
  len h := by rw [h]; rfl
  ext h _ := h

/-- A slice in a cell. -/
def Rep.slice {α : Type} (R : Rep α) : Rep (List α) where
  size := 1
  K w xs cs := ∃ v, cs = [v] ∧ R.sl w v xs
  len h := by obtain ⟨v, rfl, _⟩ := h; rfl
  ext h he := by obtain ⟨v, rfl, h⟩ := h; exact ⟨v, rfl, h.ext he⟩

abbrev Rep.bytes : Rep (List UInt8) := Rep.slice Rep.byte

structure Wr where
  at_ : Int
  data : List UInt8

def Rep.wr : Rep Wr where
  size := 2
  K w x cs := ∃ v, cs = [I x.at_, v] ∧ Rep.byte.sl w v x.data
  len h := by obtain ⟨v, rfl, _⟩ := h; rfl
  ext h he := by obtain ⟨v, rfl, h⟩ := h; exact ⟨v, rfl, h.ext he⟩

/-! ### Bytes -/

theorem byte_at {w : World} {A : Option Addr} {xs : List UInt8} (h : Rep.byte.row w A xs) (hn : 0 < xs.length) :
    ∃ b off, A = some ⟨b, off, none⟩ ∧ ∀ j (h : j < xs.length), w.cell? ⟨b, off + j, none⟩ = some (B xs[j]) := by
  obtain ⟨b, off, rfl, hg⟩ := h.get hn
  refine ⟨b, off, rfl, fun j hj => ?_⟩
  obtain ⟨cs, hk, hc⟩ := hg j hj
  have hk' : cs = [B xs[j]] := hk
  subst hk'
  have := hc 0 (by simp)
  simpa [Rep.byte] using this

theorem int_at {w : World} {A : Option Addr} {xs : List Int} (h : Rep.int.row w A xs) (hn : 0 < xs.length) :
    ∃ b off, A = some ⟨b, off, none⟩ ∧ ∀ j (h : j < xs.length), w.cell? ⟨b, off + j, none⟩ = some (I xs[j]) := by
  obtain ⟨b, off, rfl, hg⟩ := h.get hn
  refine ⟨b, off, rfl, fun j hj => ?_⟩
  obtain ⟨cs, hk, hc⟩ := hg j hj
  have hk' : cs = [I xs[j]] := hk
  subst hk'
  have := hc 0 (by simp)
  simpa [Rep.int] using this

theorem slice_at {α : Type} {R : Rep α} {w : World} {A : Option Addr} {xs : List (List α)} (h : (Rep.slice R).row w A xs) (hn : 0 < xs.length) :
    ∃ b off, A = some ⟨b, off, none⟩ ∧ ∀ j (h : j < xs.length), ∃ A' c', w.cell? ⟨b, off + j, none⟩ = some (.slice A' xs[j].length c') ∧ xs[j].length ≤ c' ∧ Cap c' ∧ R.row w A' xs[j] := by
  obtain ⟨b, off, rfl, hg⟩ := h.get hn
  refine ⟨b, off, rfl, fun j hj => ?_⟩
  obtain ⟨cs, ⟨v, rfl, A', c', rfl, h1, h2, h3⟩, hc⟩ := hg j hj
  have := hc 0 (by simp)
  exact ⟨A', c', by simpa [Rep.slice] using this, h1, h2, h3⟩

theorem wr_at {w : World} {A : Option Addr} {xs : List Wr} (h : Rep.wr.row w A xs) (hn : 0 < xs.length) :
    ∃ b off, A = some ⟨b, off, none⟩ ∧ ∀ j (h : j < xs.length), ∃ A' c', w.cell? ⟨b, off + j * 2, none⟩ = some (I xs[j].at_) ∧ w.cell? ⟨b, off + j * 2 + 1, none⟩ = some (.slice A' xs[j].data.length c') ∧ xs[j].data.length ≤ c' ∧ Cap c' ∧ Rep.byte.row w A' xs[j].data := by
  obtain ⟨b, off, rfl, hg⟩ := h.get hn
  refine ⟨b, off, rfl, fun j hj => ?_⟩
  obtain ⟨cs, ⟨v, rfl, A', c', rfl, h1, h2, h3⟩, hc⟩ := hg j hj
  have h0 := hc 0 (by simp)
  have h4 := hc 1 (by simp)
  exact ⟨A', c', by simpa [Rep.wr] using h0, by simpa [Rep.wr, Nat.add_assoc] using h4, h1, h2, h3⟩

/-! ### What the call owns -/

/-- A row of the call's own, read as data: its elements' cells. -/
theorem own_sl {α : Type} {R : Rep α} {w : World} {base : Nat} {e : TypeId} {v : Value} {n : Nat} {cs : List Value} (h : w.ownsRow base e R.size v n cs) (xs : List α) (hl : xs.length = n)
    (hk : ∀ j (hj : j < xs.length), R.K w xs[j] ((cs.drop (j * R.size)).take R.size)) : R.sl w v xs := by
  obtain ⟨h1, h2⟩ := h
  subst hl
  rcases h2 with ⟨rfl, h0⟩ | ⟨g, cap, cur, rfl, hb, hh, hnc, hcm, hcs, htake⟩
  · refine ⟨none, 0, by rw [h0], by omega, by unfold Cap; omega, .inl (List.eq_nil_of_length_eq_zero h0)⟩
  · refine ⟨_, cap, rfl, hnc, by simpa [maxLen, Cap] using hcm, .inr ⟨g, 0, rfl, fun j hj => ⟨_, hk j hj, fun t ht => ?_⟩⟩⟩
    have hlen : ((cs.drop (j * R.size)).take R.size).length = R.size := R.len (hk j hj)
    have ht' : t < R.size := by omega
    have hlt : j * R.size + t < cs.length := by
      rw [h1]
      calc j * R.size + t < j * R.size + R.size := by omega
        _ = (j + 1) * R.size := by rw [Nat.add_mul]; omega
        _ ≤ xs.length * R.size := Nat.mul_le_mul_right _ hj
    have hcc : w.cell? ((⟨g, 0, none⟩ : Addr).add (j * R.size + t)) = some cs[j * R.size + t] := by
      refine World.ownsRow.cells (base := base) (e := e) (size := R.size) (n := xs.length) (v := .slice (some ⟨g, 0, none⟩) xs.length cap) ⟨h1, .inr ⟨g, cap, cur, rfl, hb, hh, hnc, hcm, hcs, htake⟩⟩ rfl _ _ ?_
      exact List.getElem?_eq_getElem hlt
    have ha : (⟨g, 0, none⟩ : Addr).add (j * R.size + t) = ⟨g, 0 + (j * R.size + t), none⟩ := by unfold Addr.add; split <;> simp_all
    rw [ha] at hcc
    rw [hcc]
    simp [List.getElem_take, List.getElem_drop]

theorem take_one_at (l : List Value) (j : Nat) (h : j < l.length) : (l.drop j).take 1 = [l[j]] := by
  rw [List.drop_eq_getElem_cons h]
  rfl

/-- .. of elements of one cell. -/
theorem own_sl1 {α : Type} {R : Rep α} (hR : R.size = 1) {w : World} {base : Nat} {e : TypeId} {v : Value} {n : Nat} {cs : List Value} (h : w.ownsRow base e 1 v n cs) (xs : List α) (hl : xs.length = n)
    (hk : ∀ j (hj : j < xs.length) (hc : j < cs.length), R.K w xs[j] [cs[j]]) : R.sl w v xs := by
  have hcs : cs.length = n := by have := h.1; omega
  refine own_sl (by rw [hR]; exact h) xs hl (fun j hj => ?_)
  have := hk j hj (by omega)
  rw [hR, Nat.mul_one, take_one_at _ _ (by omega)]
  exact this

theorem own_bytes {w : World} {base : Nat} {e : TypeId} {v : Value} {n : Nat} {xs : List UInt8} (h : w.ownsRow base e 1 v n (xs.map B)) : Rep.byte.sl w v xs :=
  own_sl1 rfl h xs (by have := h.1; simpa using this) (fun j hj hc => by show _ = _; simp)

/-! ### Appending -/

/-- Cells side by side, from an address on. -/
def Src (w : World) (A : Option Addr) (news : List Value) : Prop :=
  news = [] ∨ ∃ b off, A = some ⟨b, off, none⟩ ∧ ∀ j (h : j < news.length), w.cell? ⟨b, off + j, none⟩ = some news[j]

theorem add_lit (b off j : Nat) : (⟨b, off, none⟩ : Addr).add j = ⟨b, off + j, none⟩ := by unfold Addr.add; split <;> simp_all

theorem byte_src {w : World} {A : Option Addr} {xs : List UInt8} (h : Rep.byte.row w A xs) : Src w A (xs.map B) := by
  rcases Nat.eq_zero_or_pos xs.length with h0 | h0
  · exact .inl (by rw [List.eq_nil_of_length_eq_zero h0]; rfl)
  · obtain ⟨b, off, rfl, hc⟩ := byte_at h h0
    exact .inr ⟨b, off, rfl, fun j hj => by rw [hc j (by simpa using hj)]; simp⟩

theorem run_append_all {P : Program} (w : World) (base : Nat) (t ty e : TypeId) (z : Value) (size bytes : Nat) (ht : P.underlying t = some (.slice e)) (hinfo : (P.info? e).map (fun i => (i.zero, i.size, i.bytes)) = some (some z, size, bytes))
    (hzs : z.cells.size = size) (hsz : 0 < size) (hb0 : 0 < bytes)
    (v : Value) (n : Nat) (cs : List Value) (hown : w.ownsRow base e size v n cs)
    (A : Option Addr) (m c : Nat) (news : List Value) (hl : news.length = m * size) (hsrc : Src w A news) (h1 : ∀ u ∈ news, u.oneCell' = true)
    (hbytes : (n + m) * bytes ≤ 140737488355328) (hbase : base ≤ w.heap.size) :
    ∃ v' w', (Builtin.append_ #[t, t] ty #[v, .slice A m c]).run P w = .ok v' w' ∧ w'.ownsRow base e size v' (n + m) (cs ++ news) ∧ w.grownBy w' v.ownBlock ∧ (v'.ownBlock = v.ownBlock ∨ v'.ownBlock = some w.heap.size) := by
  obtain ⟨i, hi, hzz⟩ := Option.map_eq_some_iff.1 hinfo
  simp only [Prod.mk.injEq] at hzz
  obtain ⟨hz0, hz1, hz2⟩ := hzz
  have hnm : n + m ≤ 140737488355328 := Nat.le_trans (Nat.le_mul_of_pos_right _ hb0) hbytes
  rcases Nat.eq_zero_or_pos m with hm | hm
  · subst hm
    have hnews : news = [] := List.eq_nil_of_length_eq_zero (by simpa using hl)
    subst hnews
    refine ⟨v, w, ?_, by simpa using hown, ⟨rfl, rfl, rfl, Nat.le_refl _, fun _ _ _ => rfl⟩, .inl rfl⟩
    rcases hown.2 with ⟨rfl, rfl⟩ | ⟨g, cap, cur, rfl, _, _, hnc, _⟩
    · cases A <;> simp [Builtin.append_, run_underlying ht, sizeOf, typeInfo, hi, Builtin.lenOf, Builtin.firstCells, loadCells, loadCellsFrom]
    · cases A <;> simp [Builtin.append_, run_underlying ht, sizeOf, typeInfo, hi, Builtin.lenOf, Builtin.firstCells, hnc, storeCells, loadCells, loadCellsFrom]
  · rcases hsrc with rfl | ⟨b, off, rfl, hc⟩
    · have h0 : 0 < m * size := Nat.mul_pos hm hsz
      simp at hl
      omega
    · obtain ⟨v', w', h2, h3, h4, _, h5⟩ := run_append_own_at (P := P) w base t ty e i z size bytes ht hi hz0 hz1 hz2 hzs hsz v n cs hown ⟨b, off, none⟩ m c news hl
        (fun j u hu => by
          obtain ⟨hj, hju⟩ := List.getElem?_eq_some_iff.1 hu
          rw [add_lit, hc j hj, hju]) h1 (by simp only [maxLen]; omega) hbytes hbase
      exact ⟨v', w', h2, h3, h4, h5⟩

section
variable {P : Program} {ops : Array Oper} {rest : List Oper} {o : Oper} {a : Act} {Q : Exit → Act → World → Prop} {w : World}

theorem wpl_append (base : Nat) (e : TypeId) (z : Value) (size bytes : Nat) (hgd : o.guard = none) (s x : Operand) (t : TypeId)
    (ho : o.op = .call { callee := .builtin .append, args := #[s, x], argTypes := #[t, t] })
    (ht : P.underlying t = some (.slice e)) (hinfo : (P.info? e).map (fun i => (i.zero, i.size, i.bytes)) = some (some z, size, bytes))
    (hzs : z.cells.size = size) (hsz : 0 < size) (hb0 : 0 < bytes)
    (v : Value) (n : Nat) (cs : List Value) (hs : a.eval s = v) (hown : w.ownsRow base e size v n cs)
    (A : Option Addr) (m c : Nat) (news : List Value) (hx : a.eval x = .slice A m c) (hl : news.length = m * size) (hsrc : Src w A news) (h1 : ∀ u ∈ news, u.oneCell' = true)
    (hbytes : (n + m) * bytes ≤ 140737488355328) (hbase : base ≤ w.heap.size)
    (h : ∀ v' w', w'.ownsRow base e size v' (n + m) (cs ++ news) → w.grownBy w' v.ownBlock → (v'.ownBlock = v.ownBlock ∨ v'.ownBlock = some w.heap.size) → wpList P ops Q rest (a.put o.dst v') w') :
    wpList P ops Q (o :: rest) a w := by
  refine wpList_plain hgd fun K hK => ?_
  obtain ⟨v', w', hr, h2, h3, h4⟩ := run_append_all (P := P) w base t o.type e z size bytes ht hinfo hzs hsz hb0 v n cs hown A m c news hl hsrc h1 hbytes hbase
  unfold Oper.wp execOp
  simp only [ho, resolve, invoke, builtin, Sem.run_bind, Sem.run_pure, Result.andThen_ok, List.map_toArray, List.map_cons, List.map_nil, hs, hx, hr]
  exact hK _ _ (h v' w' h2 h3 h4)
end

theorem B_one (xs : List UInt8) : ∀ u ∈ xs.map B, u.oneCell' = true := by
  intro u hu
  obtain ⟨x, _, rfl⟩ := List.mem_map.1 hu
  rfl

/-- What behind an append holds of the rest of the world. -/
theorem grown_ext {w w' : World} (h : w.grownBy w' none) : Ext w w' := ⟨h.os, h.tape, h.output, h.size, fun k hk => h.block k hk (by simp)⟩

theorem own_empty (w : World) (e : TypeId) (base : Nat) (size : Nat) (hb : base ≤ w.heap.size) : (w.alloc (.cells #[] e)).ownsRow base e size (.slice (some ⟨w.heap.size, 0, none⟩) 0 0) 0 [] :=
  World.ownsRow_made w #[] 0 hb (by simp [maxLen]) (by simp)

/-! ### The world, growing -/

theorem Ext.refl (w : World) : Ext w w := Below.refl _ _
theorem Ext.alloc {w W : World} (h : Ext w W) (o : Obj) : Ext w (W.alloc o) := Below.alloc h h.size o
theorem Ext.drew {w W : World} (h : Ext w W) : Ext w W.drew := Below.drew h
theorem Ext.setCell {w W : World} (h : Ext w W) {p : Addr} (hp : w.heap.size ≤ p.block) (u : Value) : Ext w (W.setCell p u) := Below.setCell h hp u
theorem heap_new (w : World) (o : Obj) (b : Nat) (h : b = w.heap.size) : (w.alloc o).heap[b]? = some o := by rw [h]; exact heap_alloc_new w o

/-- What stood below is as it stood. -/
theorem bcell {W w1 : World} (hb : Ext W w1) : (∀ b o, b < W.heap.size → w1.cell? ⟨b, o, none⟩ = W.cell? ⟨b, o, none⟩) ∧ (∀ b o, b < W.heap.size → w1.frozen? ⟨b, o, none⟩ = W.frozen? ⟨b, o, none⟩) :=
  ⟨fun b o h => hb.cell (p := ⟨b, o, none⟩) h, fun b o h => hb.frozen (p := ⟨b, o, none⟩) h⟩

theorem ret_bool {a b : Bool} (h : a = b) : Ending.returned (.bool a) = Ending.returned (.bool b) := by rw [h]
theorem ret_int {k : IntKind} {a b : Int} (h : a = b) : Ending.returned (.int k a) = Ending.returned (.int k b) := by rw [h]

/-! ### Whole rows: a new one of noughts; copy -/

/-- A piece laid over a list. -/
def splice (l : List Value) (o : Nat) (cs : List Value) : List Value := l.take o ++ cs ++ l.drop (o + cs.length)

section
variable {P : Program} {ops : Array Oper} {rest : List Oper} {o : Oper} {a : Act} {Q : Exit → Act → World → Prop} {w : World}

theorem wpl_alloc (hgd : o.guard = none) (t : TypeId) (z : Array Value) (ho : o.op = .alloc t) (hz : (P.info? t).map (·.zero) = some (some (.agg z)))
    (h : wpList P ops Q rest (a.put o.dst (.pointer (some ⟨w.heap.size, 0, none⟩))) (w.alloc (.cells z t))) : wpList P ops Q (o :: rest) a w := by
  refine wpList_plain hgd fun K hK => ?_
  unfold Oper.wp execOp
  obtain ⟨i, hi, hzi⟩ := Option.map_eq_some_iff.1 hz
  have hzv : (zeroValue t).run P w = .ok (.agg z) w := by
    simp [zeroValue, typeInfo, hi, hzi]
  simp only [ho, Instr.alloc, Sem.run_bind, hzv, Result.andThen_ok, newVar, newRow, Value.cells]
  exact hK _ _ h

theorem wpl_copy (hgd : o.guard = none) (d s : Operand) (dT sT e : TypeId)
    (ho : o.op = .call { callee := .builtin .copy, args := #[d, s], argTypes := #[dT, sT] })
    (hu : P.underlying dT = some (.slice e)) (hs1 : (P.info? e).map (·.size) = some 1)
    (g off dLen dCap : Nat) (hd : a.eval d = .slice (some ⟨g, off, none⟩) dLen dCap) (A : Option Addr) (sCap : Nat) (cs : List Value) (hs : a.eval s = .slice A cs.length sCap)
    (hsrc : Src w A cs) (h1 : ∀ u ∈ cs, u.oneCell' = true) (cur : Array Value) (t : TypeId) (hg : w.heap[g]? = some (.cells cur t (0, 0))) (hle : cs.length ≤ dLen) (hfit : off + cs.length ≤ cur.size)
    (h : ∀ w', w'.heap[g]? = some (.cells (splice cur.toList off cs).toArray t (0, 0)) → w.grownBy w' (some g) → w'.heap.size = w.heap.size → wpList P ops Q rest (a.put o.dst (.int .i64 cs.length)) w') : wpList P ops Q (o :: rest) a w := by
  refine wpList_plain hgd fun K hK => ?_
  unfold Oper.wp execOp
  have hmin : Nat.min cs.length dLen = cs.length := Nat.min_eq_left hle
  rcases hsrc with rfl | ⟨b, bo, rfl, hc⟩
  · have hr := run_copy_none (P := P) w dT sT o.type e (some ⟨g, off, none⟩) A dLen dCap 0 sCap hu hs1 (by simp)
    simp only [List.length_nil] at hs
    simp only [ho, resolve, invoke, builtin, Sem.run_bind, Sem.run_pure, Result.andThen_ok, List.map_toArray, List.map_cons, List.map_nil, hd, hs, hr]
    refine hK _ _ (h w ?_ ⟨rfl, rfl, rfl, Nat.le_refl _, fun _ _ _ => rfl⟩ rfl)
    rw [hg]
    simp [splice]
  · have hr := run_copy_row (P := P) w dT sT o.type e g off dLen dCap ⟨b, bo, none⟩ cs.length sCap cur t cs hu hs1 hg hmin.symm
      (fun j v hv => by
        obtain ⟨hj, hju⟩ := List.getElem?_eq_some_iff.1 hv
        rw [add_lit, hc j hj, hju]) hfit h1
    simp only [ho, resolve, invoke, builtin, Sem.run_bind, Sem.run_pure, Result.andThen_ok, List.map_toArray, List.map_cons, List.map_nil, hd, hs, hr]
    exact hK _ _ (h _ (setRow_heap w g cur _ t _ hg) ⟨rfl, rfl, rfl, by simp, fun k _ hk => setRow_other w g k _ (fun e => hk (by simp [e]))⟩ (by simp))
end

/-- Bytes in a block of their own: its cells are just these. -/
def BytesIn (w : World) (g : Nat) (t : TypeId) (l : List UInt8) : Prop := w.heap[g]? = some (.cells (l.map B).toArray t (0, 0))

theorem BytesIn.cell {w : World} {g : Nat} {t : TypeId} {l : List UInt8} (h : BytesIn w g t l) (j : Nat) (hj : j < l.length) : w.cell? ⟨g, j, none⟩ = some (B l[j]) := by
  rw [cell_of_row w g j _ t _ h]
  simp [hj]
theorem BytesIn.free {w : World} {g : Nat} {t : TypeId} {l : List UInt8} (h : BytesIn w g t l) (j : Nat) : w.frozen? ⟨g, j, none⟩ = false := frozen_of_row w g j _ t h
theorem BytesIn.lt {w : World} {g : Nat} {t : TypeId} {l : List UInt8} (h : BytesIn w g t l) : g < w.heap.size := by
  rcases Nat.lt_or_ge g w.heap.size with h' | h'
  · exact h'
  · unfold BytesIn at h
    simp [Array.getElem?_eq_none h'] at h
theorem BytesIn.set {w : World} {g : Nat} {t : TypeId} {l : List UInt8} (h : BytesIn w g t l) (j : Nat) (x : UInt8) : BytesIn (w.setCell ⟨g, j, none⟩ (B x)) g t (l.set j x) := by
  unfold BytesIn
  rw [heap_setCell_same w g j _ t _ h]
  congr 2
  apply Array.ext'
  simp [List.map_set]
theorem BytesIn.ext {w w' : World} {g : Nat} {t : TypeId} {l : List UInt8} (h : BytesIn w g t l) (he : Ext w w') : BytesIn w' g t l := (he.block g h.lt).trans h
theorem BytesIn.other {w : World} {g : Nat} {t : TypeId} {l : List UInt8} (h : BytesIn w g t l) {p : Addr} (hp : p.block ≠ g) (u : Value) : BytesIn (w.setCell p u) g t l := by
  unfold BytesIn
  rw [heap_setCell_other _ _ _ _ (Ne.symm hp)]
  exact h
/-- .. as a slice of the call's own. -/
theorem BytesIn.own {w : World} {g base : Nat} {t : TypeId} {l : List UInt8} (h : BytesIn w g t l) (hb : base ≤ g) (hl : Fit l.length) : w.ownsRow base t 1 (.slice (some ⟨g, 0, none⟩) l.length l.length) l.length (l.map B) :=
  ⟨by simp, .inr ⟨g, l.length, _, rfl, hb, h, Nat.le_refl _, by unfold Fit at hl; simp only [maxLen]; omega, by simp, by rw [List.take_of_length_le (by simp)]⟩⟩

end Go.Proofs.Ytancfgmaejjooaa
