/- Sums of bytes: what package poly answers. -/
import Derived.Test.YtancfgmaejjooaaRows
import Derived.Test.YtancfgmaejjooaaBase
import Derived.Laws.Tables
import Derived.Laws.BitsAllLaws
set_option linter.unusedVariables false
set_option linter.unusedSimpArgs false
namespace Go.Proofs.Ytancfgmaejjooaa
open Go.RowKit

def wordsTab : List Nat := [0, 274646895, 549293790, 820201905, 1098587580, 1361435347, 1640403810, 1905808397, 2197175160, 2460548119, 2722870694, 2987750089, 3280807620, 3553878443, 3811616794, 4084100981]
def wordsRow : Array Value := (wordsTab.map fun (n : Nat) => Value.int .u32 (n : Int)).toArray

theorem words_lit : wordsRow = #[Value.int .u32 0, Value.int .u32 274646895, Value.int .u32 549293790, Value.int .u32 820201905, Value.int .u32 1098587580, Value.int .u32 1361435347, Value.int .u32 1640403810, Value.int .u32 1905808397, Value.int .u32 2197175160, Value.int .u32 2460548119, Value.int .u32 2722870694, Value.int .u32 2987750089, Value.int .u32 3280807620, Value.int .u32 3553878443, Value.int .u32 3811616794, Value.int .u32 4084100981] := by rfl

set_option maxRecDepth 100000 in
set_option maxHeartbeats 400000 in
theorem poly_words (w : World) :
    Calls Try.prog 169 #[] w fun e w' => e = .returned (.agg wordsRow) ∧ Ext w w' := by
  go_enter Try.func169, Try.ntmps169
  go_wp2
  refine bodyPost_ret (v := .agg wordsRow) ?_ rfl ⟨rfl, (by repeat (first | exact Below.refl _ _ | assumption | refine Ext.alloc ?_ _ | refine Ext.drew ?_ | refine Ext.trans ?_ (by assumption)))⟩
  rw [words_lit]
  exact results_cell_row rfl _ _ w.heap.size 226 _ _ _ rfl (heap_new _ _ _ rfl) Try.underlying226 rfl (by kernel_rfl)

/-- A half byte's step, and a byte's. -/
def half (a : Nat) : Nat := a / 16 ^^^ wordsTab.getD (a &&& 15) 0
def stepB (s : Nat) (x : UInt8) : Nat := half (half (s ^^^ x.toNat))
def notB (s : Nat) : Nat := 4294967295 ^^^ s
def overB (s : Nat) (l : List UInt8) : Nat := notB (l.foldl stepB (notB s))

theorem words_lt (i : Nat) : wordsTab.getD i 0 < 4294967296 := by
  rcases Nat.lt_or_ge i 16 with h | h
  · have : ∀ i, i < 16 → wordsTab.getD i 0 < 4294967296 := by decide
    exact this i h
  · rw [List.getD_eq_getElem?_getD, List.getElem?_eq_none (by simpa [wordsTab] using h)]
    decide

theorem and15 (a : Nat) : a &&& 15 < 16 := Nat.lt_of_le_of_lt Nat.and_le_right (by decide)
theorem xor_lt {a b : Nat} (ha : a < 4294967296) (hb : b < 4294967296) : a ^^^ b < 4294967296 := Nat.xor_lt_two_pow (n := 32) ha hb
theorem half_lt {a : Nat} (ha : a < 4294967296) : half a < 4294967296 := xor_lt (by omega) (words_lt _)
theorem byte_lt (x : UInt8) : x.toNat < 4294967296 := Nat.lt_trans x.toNat_lt (by decide)
theorem stepB_lt {s : Nat} (x : UInt8) (h : s < 4294967296) : stepB s x < 4294967296 := half_lt (half_lt (xor_lt h (byte_lt x)))
theorem notB_lt {s : Nat} (h : s < 4294967296) : notB s < 4294967296 := xor_lt (by decide) h
theorem fold_lt (l : List UInt8) : ∀ {s : Nat}, s < 4294967296 → l.foldl stepB s < 4294967296 := by
  induction l with
  | nil => exact fun h => h
  | cons x l ih => exact fun h => ih (stepB_lt x h)
theorem overB_lt (l : List UInt8) {s : Nat} (h : s < 4294967296) : overB s l < 4294967296 := notB_lt (fold_lt l (notB_lt h))

/-- What the table's place is worth. -/
def Table (w : World) (b : Nat) : Prop := ∀ i, i < 16 → w.cell? ⟨b, i, none⟩ = some (.int .u32 ((wordsTab.getD i 0 : Nat) : Int))

theorem u32_max : IntKind.u32.max = ((4294967295 : Nat) : Int) := by rfl
theorem u32_xor (a b : Nat) (ha : a < 4294967296) (hb : b < 4294967296) : bits .xor .u32 (a : Int) (b : Int) = ((a ^^^ b : Nat) : Int) := u32_xor_nat a b ha hb
theorem half_bits (a m g : Nat) (ha : a < 4294967296) (hm : m = a &&& 15) (hg : g = wordsTab.getD m 0) : bits .and .u32 (a : Int) 15 = (m : Int) ∧ bits .xor .u32 ((a : Int) / 16) (g : Int) = ((half a : Nat) : Int) := by
  subst hm
  subst hg
  refine ⟨u32_and_nat a 15 ha (by decide), ?_⟩
  have h := u32_xor (a / 16) (wordsTab.getD (a &&& 15) 0) (by omega) (words_lt _)
  unfold half
  simpa using h

set_option maxRecDepth 100000 in
set_option maxHeartbeats 400000 in
theorem poly_Over (s : Nat) (v : Value) (xs : List UInt8) (w : World) (hs : s < 4294967296) (h : Rep.byte.sl w v xs) (hn : Fit xs.length) :
    Calls Try.prog 116 #[.int .u32 s, v] w fun e w' => e = .returned (.int .u32 (overB s xs)) ∧ Ext w w' := by
  obtain ⟨A, c, rfl, h1, h2, h3⟩ := h
  have hx0 : bits .xor .u32 IntKind.u32.max (s : Int) = ((notB s : Nat) : Int) := by rw [u32_max]; exact u32_xor _ _ (by decide) hs
  have hnot := notB_lt hs
  unfold Fit at hn
  have Hover : Hid (overB s xs = notB (xs.foldl stepB (notB s))) := Lib.hid rfl
  generalize notB s = ns at hx0 hnot Hover
  go_enter Try.func116, Try.ntmps116
  go_wp2_with fail
  refine (poly_words _).mono ?_
  rintro e1 w1 ⟨rfl, he1⟩
  obtain ⟨hc1, hf1⟩ := bcell he1
  have hz1 := he1.size
  try simp only [World.size_alloc] at hz1
  go_wp2_with (refine wpList_store_row rfl 226 (.tmp 5) (.tmp 8) rfl _ wordsRow rfl rfl 226 _ (heap_new _ _ _ rfl) (by kernel_rfl) (by kernel_rfl) (by kernel_rfl) ?_)
  clear hx0
  go_loopw [0, 13] (fun t i wr => ∃ k : Nat, ∃ u : Nat, k ≤ xs.length ∧ i = .int .i64 k ∧ Hid (u = (xs.take k).foldl stepB ns) ∧ u < 4294967296 ∧ t = .int .u32 u ∧ Ext w wr ∧ Table wr w1.heap.size) (fun _ i _ => xs.length - (intOf i).toNat)
  case atStart =>
    refine ⟨0, ns, Nat.zero_le _, rfl, rfl, hnot, rfl, ?_, ?_⟩
    · exact Below.trans (he1.alloc _) ⟨rfl, rfl, rfl, by simp, fun k hk => setRow_other _ _ _ _ (by omega)⟩
    · intro i hi
      rw [cell_of_row _ w1.heap.size i wordsRow 226 (0, 0) (setRow_heap _ _ _ _ _ _ (heap_new _ _ _ rfl))]
      have hl : i < wordsTab.length := hi
      simp only [wordsRow, List.getElem?_toArray, List.getElem?_map, List.getElem?_eq_getElem hl, Option.map_some, List.getD_eq_getElem?_getD, Option.getD_some]
  case round =>
    obtain ⟨k, u, hk, rfl, hu, hul, rfl, he, ht⟩ := hrel
    by_cases hlt : k < xs.length
    · obtain ⟨b, off, rfl, hc⟩ := byte_at h3 (by omega)
      have hc := he.cells (hc k hlt)
      obtain ⟨x, hx⟩ : ∃ x, x = xs[k] := ⟨_, rfl⟩
      rw [← hx] at hc
      have Hx := Lib.hid hx
      clear hx
      have hxl := x.toNat_lt
      have q0 : (x.toNat : Int) % 4294967296 = (x.toNat : Int) := by omega
      obtain ⟨a, ha⟩ : ∃ a, a = u ^^^ x.toNat := ⟨_, rfl⟩
      have hal : a < 4294967296 := by rw [ha]; exact xor_lt hul (byte_lt x)
      have q1 : bits .xor .u32 (u : Int) (x.toNat : Int) = (a : Int) := by rw [ha]; exact u32_xor _ _ hul (byte_lt x)
      have Ha := Lib.hid ha
      clear ha
      obtain ⟨m, hm⟩ : ∃ m, m = a &&& 15 := ⟨_, rfl⟩
      have hml : m < 16 := by rw [hm]; exact and15 a
      have hg := ht m hml
      obtain ⟨g, hgg⟩ : ∃ g, g = wordsTab.getD m 0 := ⟨_, rfl⟩
      rw [← hgg] at hg
      obtain ⟨q2, q3⟩ := half_bits a m g hal hm hgg
      have hbl := half_lt hal
      obtain ⟨b2, hb2⟩ : ∃ b2, b2 = half a := ⟨_, rfl⟩
      rw [← hb2] at q3 hbl
      have Hb2 := Lib.hid hb2
      clear hb2 hm hgg
      obtain ⟨m2, hm2⟩ : ∃ m, m = b2 &&& 15 := ⟨_, rfl⟩
      have hml2 : m2 < 16 := by rw [hm2]; exact and15 b2
      have hg2 := ht m2 hml2
      obtain ⟨g2, hgg2⟩ : ∃ g, g = wordsTab.getD m2 0 := ⟨_, rfl⟩
      rw [← hgg2] at hg2
      obtain ⟨q4, q5⟩ := half_bits b2 m2 g2 hbl hm2 hgg2
      have hbl3 := half_lt hbl
      clear hm2 hgg2 h3
      have Ht := Lib.hid ht
      clear ht
      go_wp2
      go_roundw
      case rel =>
        refine ⟨k + 1, half b2, by omega, by go_num, ?_, hbl3, rfl, he, Ht.out⟩
        show _ = _
        rw [List.take_succ_eq_append_getElem hlt, List.foldl_append, ← hu.out, ← Hx.out, Hb2.out, Ha.out]
        rfl
      case measure => simp [intOf]; omega
    · have hx1 : bits .xor .u32 IntKind.u32.max (u : Int) = ((notB u : Nat) : Int) := by rw [u32_max]; exact u32_xor _ _ (by decide) hul
      go_wp2
      go_ret
      refine ⟨ret_int ?_, he⟩
      have := hu.out
      rw [List.take_of_length_le (by omega)] at this
      rw [Hover.out, ← this]

set_option maxRecDepth 100000 in
set_option maxHeartbeats 400000 in
theorem poly_Sum (v : Value) (xs : List UInt8) (w : World) (h : Rep.byte.sl w v xs) (hn : Fit xs.length) :
    Calls Try.prog 68 #[v] w fun e w' => e = .returned (.int .u32 (overB 0 xs)) ∧ Ext w w' := by
  go_enter Try.func68, Try.ntmps68
  go_wp2_with fail
  refine (poly_Over 0 _ _ _ (by decide) h hn).mono ?_
  rintro e1 w1 ⟨rfl, he1⟩
  obtain ⟨hc1, hf1⟩ := bcell he1
  have hz1 := he1.size
  try simp only [World.size_alloc] at hz1
  go_wp2
  go_ret
  exact ⟨rfl, (by repeat (first | exact Below.refl _ _ | assumption | refine Ext.alloc ?_ _ | refine Ext.drew ?_ | refine Ext.trans ?_ (by assumption)))⟩

end Go.Proofs.Ytancfgmaejjooaa
