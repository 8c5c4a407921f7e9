/- Numbers in a block: what package pack answers of blocks and places that may be. -/
import Derived.Test.YtancfgmaejjooaaRows
import Derived.Test.YtancfgmaejjooaaBase
set_option linter.unusedVariables false
set_option linter.unusedSimpArgs false
namespace Go.Proofs.Ytancfgmaejjooaa
open Go.RowKit

/-- 128 noughts. -/
def zeros : List UInt8 := List.replicate 128 0
def zeroRow : Array Value := (zeros.map B).toArray
/-- A block's bytes, all of them. -/
def whole (l : List UInt8) : List UInt8 := if l.length = 0 then zeros else l
/-- May it be a block? -/
def isBlock (l : List UInt8) : Bool := l.length == 0 || l.length == 128

theorem zeros_len : zeros.length = 128 := List.length_replicate
theorem whole_len {l : List UInt8} (h : isBlock l = true) : (whole l).length = 128 := by
  unfold isBlock at h
  unfold whole
  simp at h
  split
  · exact zeros_len
  · rcases h with h | h
    · subst h; simp at *
    · exact h

theorem zero210 : (Try.prog.info? 210).map (·.zero) = some (some (.agg zeroRow)) := by kernel_rfl
theorem size5 : (Try.prog.info? 5).map (·.size) = some 1 := by kernel_rfl
theorem size210 : (Try.prog.info? 210).map (·.size) = some 128 := by kernel_rfl

theorem splice_zeros {l : List UInt8} (h : isBlock l = true) : splice zeroRow.toList 0 (l.map B) = (whole l).map B := by
  unfold isBlock at h
  simp at h
  have hz : zeroRow.toList = zeros.map B := rfl
  rw [hz]
  rcases h with h | h
  · subst h
    simp [splice, whole]
  · have : (zeros.map B).drop (0 + (l.map B).length) = [] := List.drop_of_length_le (by simp [zeros_len, h])
    simp only [splice, this, whole, h]
    simp

def blockRow (l : List UInt8) : Array Value := ((whole l).map B).toArray

theorem results_cell_tmp {P : Program} {fn : Func} {p q : Tmp} {ty : TypeId} (h : fn.results = #[.cell p ty, .tmp q]) (tmps : Array Value) (w : World) (g : Nat) (t : TypeId) (cs : Array Value) (fr : Nat × Nat) (d : TypeDesc)
    (hp : tmps.getD p undef = .pointer (some ⟨g, 0, none⟩)) (hg : w.heap[g]? = some (.cells cs t fr))
    (hu : P.underlying ty = some d) (hd : (match d with | .struct _ | .array _ _ => true | _ => false) = true) (hi : (P.info? ty).map (·.size) = some cs.size) :
    (results fn tmps).run P w = .ok (.tuple #[.agg cs, tmps.getD q undef]) w := by
  have hp' : tmps[p]?.getD undef = .pointer (some ⟨g, 0, none⟩) := by simpa using hp
  simp [results, h, hp', asAddr, run_loadVar_row w g t ty cs fr d hg hu hd hi]

theorem blockRow_size {l : List UInt8} (h : isBlock l = true) : (blockRow l).size = 128 := by simp [blockRow, whole_len h]
theorem blockRow_one (l : List UInt8) : (blockRow l).all (·.oneCell') = true := by
  rw [Array.all_eq_true_iff_forall_mem]
  intro u hu
  simp [blockRow] at hu
  obtain ⟨x, _, rfl⟩ := hu
  rfl

set_option maxRecDepth 100000 in
set_option maxHeartbeats 400000 in
theorem pack_whole (v : Value) (xs : List UInt8) (w : World) (h : Rep.byte.sl w v xs) (hn : isBlock xs = true) :
    Calls Try.prog 150 #[v] w fun e w' => e = .returned (.tuple #[.agg (blockRow xs), I 0]) ∧ Ext w w' := by
  obtain ⟨A, c, rfl, h1, h2, h3⟩ := h
  have Hb := Lib.hid hn
  have hn' : xs.length = 0 ∨ xs.length = 128 := by unfold isBlock at hn; simpa using hn
  have hlt : xs.length ≤ 128 := by omega
  have hs := byte_src (h3.ext (Ext.alloc (Ext.refl w) (.cells zeroRow 210)))
  have hll : (xs.map B).length = xs.length := by simp
  obtain ⟨n, hnn⟩ : ∃ n, n = xs.length := ⟨_, rfl⟩
  rw [← hnn] at hn' hlt hll h1
  have Hn := Lib.hid hnn
  rw [← hnn]
  clear hnn h3
  have fin : ∀ w1 : World, Hid (w1.heap[w.heap.size]? = some (Obj.cells (blockRow xs) 210)) → (w.alloc (Obj.cells zeroRow 210)).grownBy w1 (some w.heap.size) → Ext w (w1.setRow w.heap.size (blockRow xs)) ∧ (w1.setRow w.heap.size (blockRow xs)).heap[w.heap.size]? = some (Obj.cells (blockRow xs) 210) := by
    intro w1 h hg
    refine ⟨?_, setRow_heap _ _ _ _ _ _ h.out⟩
    have h1 : Ext w w1 := Below.grown (Ext.alloc (Ext.refl w) _) hg (by simp) (fun k hk => by cases hk; exact Nat.le_refl _)
    exact Below.trans h1 ⟨rfl, rfl, rfl, by simp, fun k hk => setRow_other _ _ _ _ (by omega)⟩
  rcases hn' with hn | hn
  all_goals
    subst hn
    go_enter Try.func150, Try.ntmps150
    go_wp2_with (first
      | (refine wpl_alloc rfl 210 zeroRow rfl zero210 ?_)
      | (refine wpl_copy rfl (.tmp 13) (.tmp 14) 32 32 5 rfl Try.underlying32 size5 w.heap.size 0 128 128 rfl A c (xs.map B) (by rw [hll]; rfl) hs (B_one _) zeroRow 210 (heap_new _ _ _ rfl) (by rw [hll]; exact hlt) (by rw [hll]; simp [zeroRow, zeros_len]) ?_; intro w1 hg1 hgr1 hz1; rw [splice_zeros Hb.out] at hg1; have hG := Lib.hid hg1; clear hg1)
      | (refine wpList_load_row rfl 210 (.tmp 2) rfl w.heap.size rfl 210 (blockRow xs) (0, 0) _ hG.out Try.underlying210 rfl (by rw [size210, blockRow_size Hb.out]) ?_)
      | (refine wpList_store_row rfl 210 (.tmp 2) (.tmp 16) rfl w.heap.size (blockRow xs) rfl rfl 210 _ hG.out (by rw [size210, blockRow_size Hb.out]) rfl (blockRow_one _) ?_))
    obtain ⟨f1, f2⟩ := fin _ hG hgr1
    exact bodyPost_ret (results_cell_tmp rfl _ _ w.heap.size 210 _ _ _ rfl f2 Try.underlying210 rfl (by rw [size210, blockRow_size Hb.out])) rfl ⟨rfl, f1⟩


set_option maxRecDepth 100000 in
set_option maxHeartbeats 400000 in
theorem pack_fits (at_ size : Nat) (w : World) (h1 : 1 ≤ size) (h2 : size ≤ 4) (h3 : at_ + size ≤ 128) :
    Calls Try.prog 151 #[I at_, I size] w fun e w' => e = .returned (.bool true) ∧ w = w' := by
  go_enter Try.func151, Try.ntmps151
  have g1 : decide ((size : Int) ≥ 1) = true := by simp; omega
  have g2 : decide ((size : Int) ≤ 4) = true := by simp; omega
  have g3 : decide ((at_ : Int) ≥ 0) = true := by simp
  have g4 : decide ((at_ : Int) ≤ 128 - size) = true := by simp; omega
  go_wp2
  go_ret
  exact ⟨rfl, rfl⟩

/-- The numbers' bytes laid, the first so many. -/
def putN (l : List UInt8) (at_ n : Nat) : Nat → List UInt8
  | 0 => l
  | k + 1 => (putN l at_ n k).set (at_ + k) (UInt8.ofNat (n / 256 ^ k))

theorem putN_len (l : List UInt8) (at_ n k : Nat) : (putN l at_ n k).length = l.length := by
  induction k with
  | zero => rfl
  | succ k ih => simp [putN, ih]

theorem pow_256 (k : Nat) : 256 ^ k = 2 ^ (8 * k) := by rw [Nat.pow_mul]
theorem byte_of (n k : Nat) : (n : Int) / 2 ^ (8 * k) % 256 = ((UInt8.ofNat (n / 256 ^ k)).toNat : Int) := by
  rw [pow_256, UInt8.toNat_ofNat']
  simp

set_option maxRecDepth 100000 in
set_option maxHeartbeats 400000 in
theorem pack_Put (v : Value) (xs : List UInt8) (at_ size n : Nat) (w : World) (h : Rep.byte.sl w v xs) (hb : isBlock xs = true) (h1 : 1 ≤ size) (h2 : size ≤ 4) (h3 : at_ + size ≤ 128) (h4 : n < 256 ^ size) :
    Calls Try.prog 187 #[v, I at_, I size, I n] w fun e w' => ∃ g, e = .returned (.tuple #[.slice (some ⟨g, 0, none⟩) 128 128, I 0]) ∧ w.heap.size ≤ g ∧ BytesIn w' g 210 (putN (whole xs) at_ n size) ∧ Ext w w' := by
  have g5 : decide ((n : Int) < 0) = false := by simp
  have g6 : ((n : Int) / 2 ^ (8 * size) != 0) = false := by
    rw [pow_256] at h4
    have : (n : Int) / 2 ^ (8 * size) = ((n / 2 ^ (8 * size) : Nat) : Int) := by simp
    rw [this, Nat.div_eq_of_lt h4]
    rfl
  clear h4
  go_enter Try.func187, Try.ntmps187
  go_wp2_with fail
  refine (pack_whole _ _ _ h hb).mono ?_
  rintro e1 w1 ⟨rfl, he1⟩
  obtain ⟨hc1, hf1⟩ := bcell he1
  have hz1 := he1.size
  try simp only [World.size_alloc] at hz1
  go_wp2_with (first
    | (refine wpl_alloc rfl 210 zeroRow rfl zero210 ?_)
    | (refine wpList_store_row rfl 210 (.tmp 10) (.tmp 16) rfl w1.heap.size (blockRow xs) rfl rfl 210 _ (heap_new _ _ _ rfl) (by rw [size210, blockRow_size hb]) (by rw [blockRow_size hb]; simp [zeroRow, zeros_len]) (blockRow_one _) ?_)
    | (go_at_call 151; refine (pack_fits _ _ _ h1 h2 h3).mono ?_; rintro e w' ⟨rfl, rfl⟩))
  have hW : BytesIn ((w1.alloc (Obj.cells zeroRow 210)).setRow w1.heap.size (blockRow xs)) w1.heap.size 210 (whole xs) := setRow_heap _ _ _ _ _ _ (heap_new _ _ _ rfl)
  have eW : Ext w ((w1.alloc (Obj.cells zeroRow 210)).setRow w1.heap.size (blockRow xs)) := Below.trans (Ext.alloc he1 _) ⟨rfl, rfl, rfl, by simp, fun k hk => setRow_other _ _ _ _ (by omega)⟩
  generalize ((w1.alloc (Obj.cells zeroRow 210)).setRow w1.heap.size (blockRow xs)) = W at hW eW
  have hwl := whole_len hb
  go_loopw [12, 37] (fun _ i wr => ∃ k : Nat, k ≤ size ∧ i = .int .i64 k ∧ BytesIn wr w1.heap.size 210 (putN (whole xs) at_ n k) ∧ Ext w wr) (fun _ i _ => size - (intOf i).toNat)
  case atStart => exact ⟨0, Nat.zero_le _, rfl, hW, eW⟩
  case round =>
    obtain ⟨k, hk, rfl, hB, he⟩ := hrel
    by_cases hlt : k < size
    · have hc := hB.cell (at_ + k) (by rw [putN_len, hwl]; omega)
      have hf := hB.free (at_ + k)
      have q := byte_of n k
      have HB := Lib.hid hB
      obtain ⟨y, hy⟩ : ∃ y, y = (putN (whole xs) at_ n k)[at_ + k]'(by rw [putN_len, hwl]; omega) := ⟨_, rfl⟩
      rw [← hy] at hc
      obtain ⟨x, hx⟩ : ∃ x, x = UInt8.ofNat (n / 256 ^ k) := ⟨_, rfl⟩
      rw [← hx] at q
      have Hx := Lib.hid hx
      clear hB hW hy hx
      go_wp2
      go_roundw
      case rel =>
        refine ⟨k + 1, by omega, by go_num, ?_, he.setCell (by simp; omega) _⟩
        have := HB.out.set (at_ + k) x
        rw [Hx.out] at this ⊢
        exact this
      case measure => simp [intOf]; omega
    · obtain rfl : k = size := by omega
      go_wp2
      go_ret2
      exact ⟨_, rfl, by omega, hB, he⟩

/-- The number that stands at a place, of so many bytes. -/
def takeN (l : List UInt8) (at_ : Nat) : Nat → Nat
  | 0 => 0
  | k + 1 => takeN l at_ k + (l.getD (at_ + k) 0).toNat * 256 ^ k

theorem takeN_lt (l : List UInt8) (at_ k : Nat) : takeN l at_ k < 256 ^ k := by
  induction k with
  | zero => simp [takeN]
  | succ k ih =>
    have hx := (l.getD (at_ + k) 0).toNat_lt
    have : (l.getD (at_ + k) 0).toNat * 256 ^ k ≤ 255 * 256 ^ k := Nat.mul_le_mul_right _ (by omega)
    simp only [takeN, Nat.pow_succ]
    omega

theorem or_add (a k : Nat) (y : UInt8) (ha : a < 256 ^ k) (hk : k < 4) : bits .or .i64 (a : Int) (wrap64 ((y.toNat : Int) * 2 ^ (8 * k))) = ((a + y.toNat * 256 ^ k : Nat) : Int) := by
  have hy := y.toNat_lt
  have h4 : 256 ^ k ≤ 256 ^ 3 := Nat.pow_le_pow_right (by decide) (by omega)
  have hm : y.toNat * 256 ^ k ≤ 255 * 256 ^ 3 := Nat.mul_le_mul (by omega) h4
  have hw : wrap64 ((y.toNat : Int) * 2 ^ (8 * k)) = ((y.toNat * 256 ^ k : Nat) : Int) := by
    have e : (y.toNat : Int) * 2 ^ (8 * k) = ((y.toNat * 256 ^ k : Nat) : Int) := by rw [pow_256]; simp
    rw [e]
    unfold wrap64
    omega
  have hor := (bits_nat .i64 62 (by decide) (fun n h0 h1 => by rw [IntKind.wrap_i64]; omega) a (y.toNat * 256 ^ k) (by omega) (by omega)).2
  rw [hw, hor]
  congr 1
  rw [pow_256] at ha ⊢
  have h5 := Nat.shiftLeft_add_eq_or_of_lt ha y.toNat
  rw [Nat.shiftLeft_eq] at h5
  rw [Nat.or_comm, ← h5, Nat.add_comm]

set_option maxRecDepth 100000 in
set_option maxHeartbeats 400000 in
theorem pack_Take (v : Value) (xs : List UInt8) (at_ size : Nat) (w : World) (h : Rep.byte.sl w v xs) (hb : isBlock xs = true) (h1 : 1 ≤ size) (h2 : size ≤ 4) (h3 : at_ + size ≤ 128) :
    Calls Try.prog 98 #[v, I at_, I size] w fun e w' => e = .returned (.tuple #[I (takeN (whole xs) at_ size), I 0]) ∧ Ext w w' := by
  go_enter Try.func98, Try.ntmps98
  go_wp2_with fail
  refine (pack_whole _ _ _ h hb).mono ?_
  rintro e1 w1 ⟨rfl, he1⟩
  obtain ⟨hc1, hf1⟩ := bcell he1
  have hz1 := he1.size
  try simp only [World.size_alloc] at hz1
  go_wp2_with (first
    | (refine wpl_alloc rfl 210 zeroRow rfl zero210 ?_)
    | (refine wpList_store_row rfl 210 (.tmp 8) (.tmp 13) rfl w1.heap.size (blockRow xs) rfl rfl 210 _ (heap_new _ _ _ rfl) (by rw [size210, blockRow_size hb]) (by rw [blockRow_size hb]; simp [zeroRow, zeros_len]) (blockRow_one _) ?_)
    | (go_at_call 151; refine (pack_fits _ _ _ h1 h2 h3).mono ?_; rintro e w' ⟨rfl, rfl⟩))
  have hW : BytesIn ((w1.alloc (Obj.cells zeroRow 210)).setRow w1.heap.size (blockRow xs)) w1.heap.size 210 (whole xs) := setRow_heap _ _ _ _ _ _ (heap_new _ _ _ rfl)
  have eW : Ext w ((w1.alloc (Obj.cells zeroRow 210)).setRow w1.heap.size (blockRow xs)) := Below.trans (Ext.alloc he1 _) ⟨rfl, rfl, rfl, by simp, fun k hk => setRow_other _ _ _ _ (by omega)⟩
  generalize ((w1.alloc (Obj.cells zeroRow 210)).setRow w1.heap.size (blockRow xs)) = W at hW eW
  have hwl := whole_len hb
  obtain ⟨l, hl⟩ : ∃ l, l = whole xs := ⟨_, rfl⟩
  rw [← hl] at hW hwl
  have Hl := Lib.hid hl
  clear hl
  go_loop [6, 9, 23] (fun t _ i => ∃ k : Nat, k ≤ size ∧ i = .int .i64 k ∧ t = .int .i64 (takeN l at_ k)) (fun _ _ i => size - (intOf i).toNat)
  case atStart => exact ⟨0, Nat.zero_le _, rfl, rfl⟩
  case round =>
    obtain ⟨k, hk, rfl, rfl⟩ := hrel
    by_cases hlt : k < size
    · have hc := hW.cell (at_ + k) (by omega)
      have HB := Lib.hid hW
      obtain ⟨y, hy⟩ : ∃ y, y = l[at_ + k]'(by omega) := ⟨_, rfl⟩
      rw [← hy] at hc
      have hyl := y.toNat_lt
      have Hy := Lib.hid hy
      clear hy hW
      go_wp2
      go_round
      case rel =>
        refine ⟨k + 1, by omega, by go_num, ?_⟩
        rw [or_add (takeN l at_ k) k y (takeN_lt l at_ k) (by omega)]
        simp only [takeN, List.getD_eq_getElem?_getD, List.getElem?_eq_getElem (show at_ + k < l.length by omega), Option.getD_some, Hy.out]
      case measure => simp [intOf]; omega
    · obtain rfl : k = size := by omega
      go_wp2
      go_ret2
      exact ⟨by rw [← Hl.out]; rfl, eW⟩

end Go.Proofs.Ytancfgmaejjooaa
