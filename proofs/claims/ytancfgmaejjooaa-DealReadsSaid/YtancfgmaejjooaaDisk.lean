/- Devices: a block's bytes; which may be. -/
import Derived.Test.YtancfgmaejjooaaRows
import Derived.Test.YtancfgmaejjooaaBase
import Derived.Test.YtancfgmaejjooaaPack
import Derived.Test.YtancfgmaejjooaaLaw13
set_option linter.unusedVariables false
set_option linter.unusedSimpArgs false
namespace Go.Proofs.Ytancfgmaejjooaa
open Go.RowKit

theorem info5 : (Try.prog.info? 5).map (fun i => (i.zero, i.size, i.bytes)) = some (some (.int .u8 0), 1, 1) := by kernel_rfl

set_option maxRecDepth 100000 in
set_option maxHeartbeats 400000 in
theorem clone_bytes (v : Value) (xs : List UInt8) (w : World) (h : Rep.byte.sl w v xs) (hn : Fit xs.length) :
    Calls Try.prog 149 #[v] w fun e w' => ∃ v', e = .returned v' ∧ w'.ownsRow w.heap.size 5 1 v' xs.length (xs.map B) ∧ Ext w w' := by
  obtain ⟨A, c, rfl, h1, h2, h3⟩ := h
  have hq := fun (w : World) (a : Option Addr) (n c : Nat) => Lib.run_eql_slice_nil (P := Try.prog) w 32 5 a n c 0 0 Try.underlying32
  cases A with
  | none =>
    have hx : xs = [] := by
      rcases h3 with h3 | ⟨b, off, h3, _⟩
      · exact h3
      · cases h3
    subst hx
    go_enter Try.func149, Try.ntmps149
    go_wp2
    go_ret
    exact ⟨_, rfl, World.ownsRow_nil _ _ _ _, Below.refl _ _⟩
  | some a =>
    have hs := byte_src (h3.ext (((Below.refl _ w).alloc (Nat.le_refl _) (.cells #[] 5))))
    go_enter Try.func149, Try.ntmps149
    go_wp2_with (at_builtin; refine wpl_append w.heap.size 5 _ 1 1 rfl _ _ 32 rfl Try.underlying32 info5 rfl (by decide) (by decide) (.slice (some ⟨w.heap.size, 0, none⟩) 0 0) 0 [] rfl (own_empty w 5 _ 1 (Nat.le_refl _)) (some a) xs.length c (xs.map B) rfl (by simp) hs (B_one _) (by unfold Fit at hn; omega) (by simp) ?_; intro v' w' hown hg hat)
    go_ret
    refine ⟨_, rfl, by simpa using hown, ((Below.refl _ w).alloc (Nat.le_refl _) _).grown hg (by simp) (by simp [Value.ownBlock])⟩

def zeros5 : Array Value := madeCells #[.int .u8 0] 128
theorem run_make128 (w : World) : (Instr.makeSlice 32 (.int .i64 128) (.int .i64 128)).run Try.prog w = .ok (.slice (some ⟨w.heap.size, 0, none⟩) 128 128) (w.alloc (.cells zeros5 5)) :=
  run_make_row' 32 5 (.int .u8 0) 1 Try.underlying32 info5 rfl .i64 .i64 128 (by decide) (by decide) w
theorem zeros5_row : zeros5.toList = zeros.map B := by kernel_rfl
theorem own_zeros (w : World) (base : Nat) (hb : base ≤ w.heap.size) : (w.alloc (.cells zeros5 5)).ownsRow base 5 1 (.slice (some ⟨w.heap.size, 0, none⟩) 128 128) 128 (zeros.map B) := by
  rw [← zeros5_row]
  exact World.ownsRow_lit w zeros5 128 hb (by decide) (by rw [zeros5, size_madeCells])

theorem isBlock_fit {xs : List UInt8} (h : isBlock xs = true) : Fit xs.length := by
  unfold isBlock at h
  unfold Fit
  simp only [Bool.or_eq_true, beq_iff_eq] at h
  omega

set_option maxRecDepth 100000 in
set_option maxHeartbeats 400000 in
theorem disk_block (v : Value) (xs : List UInt8) (w : World) (h : Rep.byte.sl w v xs) (hn : Fit xs.length) :
    Calls Try.prog 97 #[v] w fun e w' => ∃ v', e = .returned v' ∧ w'.ownsRow w.heap.size 5 1 v' (whole xs).length ((whole xs).map B) ∧ Ext w w' := by
  have h0 := h
  obtain ⟨A, c, rfl, h1, h2, h3⟩ := h
  by_cases hx : xs.length = 0
  · have hx' : xs = [] := List.eq_nil_of_length_eq_zero hx
    subst hx'
    have hm := run_make128
    go_enter Try.func97, Try.ntmps97
    go_wp2
    go_ret
    exact ⟨_, rfl, own_zeros w _ (Nat.le_refl _), (Below.refl _ w).alloc (Nat.le_refl _) _⟩
  · have hx2 : ((xs.length : Int) == 0) = false := by simpa using hx
    go_enter Try.func97, Try.ntmps97
    go_wp2_with (go_at_call 149; refine (clone_bytes _ _ _ h0 hn).mono ?_; rintro e w' ⟨v', rfl, ho, he⟩)
    go_ret
    exact ⟨_, rfl, by unfold whole; rw [if_neg hx]; exact ho, he⟩

/-! ### Is one of them so? -/

theorem any_no {α : Type} {p : α → Bool} {l : List α} {k : Nat} (hk : k < l.length) (h : p l[k] = true) : l.any p = true := List.any_eq_true.2 ⟨_, List.getElem_mem hk, h⟩
theorem any_step {α : Type} {p : α → Bool} {l : List α} {k : Nat} (hk : k < l.length) (h : (l.take k).any p = false) (h' : p l[k] = false) : (l.take (k + 1)).any p = false := by
  rw [List.take_succ_eq_append_getElem hk, List.any_append, h]
  simp [h']
theorem any_done {α : Type} {p : α → Bool} {l : List α} (h : (l.take l.length).any p = false) : l.any p = false := by
  rwa [List.take_length] at h

set_option maxRecDepth 100000 in
set_option maxHeartbeats 400000 in
theorem index_blocks (k : Nat) (lb : Array Value) (p : List UInt8 → Bool) (v : Value) (xs : List (List UInt8)) (w : World) (h : (Rep.slice Rep.byte).sl w v xs)
    (heg : ∀ args w, (callFunc k args).run Try.prog w = .ok (.enter k args) w)
    (hf : ∀ u x w', Ext w w' → Rep.byte.sl w' u x → x ∈ xs → Calls Try.prog k (#[u] ++ lb) w' fun e w'' => e = .returned (.bool (p x)) ∧ Ext w' w'') :
    Calls Try.prog 145 #[v, .func (.func k) #[] lb] w fun e w' => ∃ i : Int, e = .returned (I i) ∧ decide (0 ≤ i) = xs.any p ∧ Ext w w' := by
  obtain ⟨A, c, rfl, h1, h2, h3⟩ := h
  unfold Cap at h2
  go_enter Try.func145, Try.ntmps145
  go_wp2
  go_loopw [5, 8] (fun _ i wr => ∃ j : Nat, j ≤ xs.length ∧ i = .int .i64 j ∧ Hid ((xs.take j).any p = false) ∧ Ext w wr) (fun _ i _ => xs.length - (intOf i).toNat)
  case atStart => exact ⟨0, Nat.zero_le _, rfl, Lib.hid (by simp), Ext.refl _⟩
  case round =>
    obtain ⟨j, hj, rfl, ha, he⟩ := hrel
    by_cases hlt : j < xs.length
    · obtain ⟨b, off, rfl, hc⟩ := slice_at (h3.ext he) (by omega)
      obtain ⟨A', c', hcj, g1, g2, g3⟩ := hc j hlt
      have hm : xs[j] ∈ xs := List.getElem_mem hlt
      have hstep := Lib.hid (any_step (p := p) hlt ha.out)
      have hyes := Lib.hid (any_no (p := p) hlt)
      obtain ⟨x, hx⟩ : ∃ x, x = xs[j] := ⟨_, rfl⟩
      rw [← hx] at hcj g1 g3 hm hstep hyes
      have hcall := hf _ x wr he ⟨A', c', rfl, g1, g2, g3⟩ hm
      clear hc hx h3 hf
      go_wp2_with fail
      refine hcall.mono ?_
      rintro e w2 ⟨rfl, he2⟩
      cases hpx : p x
      · have Hpx := Lib.hid hpx
        clear hpx hcall
        go_wp2
        go_roundw
        case rel => exact ⟨j + 1, by omega, by go_num, Lib.hid (hstep.out Hpx.out), Ext.trans he he2⟩
        case measure => simp [intOf]; omega
      · have Hpx := Lib.hid hpx
        clear hpx hcall
        go_wp2
        go_ret
        exact ⟨_, rfl, by rw [hyes.out Hpx.out]; simp, Ext.trans he he2⟩
    · obtain rfl : j = xs.length := by omega
      have hno := Lib.hid (any_done ha.out)
      clear hf
      go_wp2
      go_ret
      exact ⟨_, rfl, by rw [hno.out]; rfl, he⟩

set_option maxRecDepth 100000 in
set_option maxHeartbeats 400000 in
theorem contains_blocks (k : Nat) (lb : Array Value) (p : List UInt8 → Bool) (v : Value) (xs : List (List UInt8)) (w : World) (h : (Rep.slice Rep.byte).sl w v xs)
    (heg : ∀ args w, (callFunc k args).run Try.prog w = .ok (.enter k args) w)
    (hf : ∀ u x w', Ext w w' → Rep.byte.sl w' u x → x ∈ xs → Calls Try.prog k (#[u] ++ lb) w' fun e w'' => e = .returned (.bool (p x)) ∧ Ext w' w'') :
    Calls Try.prog 91 #[v, .func (.func k) #[] lb] w fun e w' => e = .returned (.bool (xs.any p)) ∧ Ext w w' := by
  have hi := index_blocks k lb p v xs w h heg hf
  obtain ⟨A, c, rfl, h1, h2, h3⟩ := h
  clear hf heg
  go_enter Try.func91, Try.ntmps91
  go_wp2_with fail
  refine hi.mono ?_
  rintro e w2 ⟨i, rfl, hd, he2⟩
  clear hi
  have Hd := Lib.hid hd
  clear hd
  go_wp2
  go_ret
  exact ⟨ret_bool Hd.out, he2⟩

set_option maxRecDepth 100000 in
set_option maxHeartbeats 400000 in
theorem index_waits (k : Nat) (lb : Array Value) (p : Wr → Bool) (v : Value) (xs : List Wr) (w : World) (h : Rep.wr.sl w v xs)
    (heg : ∀ args w, (callFunc k args).run Try.prog w = .ok (.enter k args) w)
    (hf : ∀ u x w', Ext w w' → Rep.byte.sl w' u x.data → x ∈ xs → Calls Try.prog k (#[.agg #[I x.at_, u]] ++ lb) w' fun e w'' => e = .returned (.bool (p x)) ∧ Ext w' w'') :
    Calls Try.prog 189 #[v, .func (.func k) #[] lb] w fun e w' => ∃ i : Int, e = .returned (I i) ∧ decide (0 ≤ i) = xs.any p ∧ Ext w w' := by
  obtain ⟨A, c, rfl, h1, h2, h3⟩ := h
  unfold Cap at h2
  go_enter Try.func189, Try.ntmps189
  go_wp2
  go_loopw [5, 8] (fun _ i wr => ∃ j : Nat, j ≤ xs.length ∧ i = .int .i64 j ∧ Hid ((xs.take j).any p = false) ∧ Ext w wr) (fun _ i _ => xs.length - (intOf i).toNat)
  case atStart => exact ⟨0, Nat.zero_le _, rfl, Lib.hid (by simp), Ext.refl _⟩
  case round =>
    obtain ⟨j, hj, rfl, ha, he⟩ := hrel
    by_cases hlt : j < xs.length
    · obtain ⟨b, off, rfl, hc⟩ := wr_at (h3.ext he) (by omega)
      obtain ⟨A', c', hc0, hcj, g1, g2, g3⟩ := hc j hlt
      have hm : xs[j] ∈ xs := List.getElem_mem hlt
      have hstep := Lib.hid (any_step (p := p) hlt ha.out)
      have hyes := Lib.hid (any_no (p := p) hlt)
      obtain ⟨x, hx⟩ : ∃ x, x = xs[j] := ⟨_, rfl⟩
      rw [← hx] at hc0 hcj g1 g3 hm hstep hyes
      have hcall := hf _ x wr he ⟨A', c', rfl, g1, g2, g3⟩ hm
      clear hc hx h3 hf
      go_wp2_with fail
      refine hcall.mono ?_
      rintro e w2 ⟨rfl, he2⟩
      cases hpx : p x
      · have Hpx := Lib.hid hpx
        clear hpx hcall
        go_wp2
        go_roundw
        case rel => exact ⟨j + 1, by omega, by go_num, Lib.hid (hstep.out Hpx.out), Ext.trans he he2⟩
        case measure => simp [intOf]; omega
      · have Hpx := Lib.hid hpx
        clear hpx hcall
        go_wp2
        go_ret
        exact ⟨_, rfl, by rw [hyes.out Hpx.out]; simp, Ext.trans he he2⟩
    · obtain rfl : j = xs.length := by omega
      have hno := Lib.hid (any_done ha.out)
      clear hf
      go_wp2
      go_ret
      exact ⟨_, rfl, by rw [hno.out]; rfl, he⟩

set_option maxRecDepth 100000 in
set_option maxHeartbeats 400000 in
theorem contains_waits (k : Nat) (lb : Array Value) (p : Wr → Bool) (v : Value) (xs : List Wr) (w : World) (h : Rep.wr.sl w v xs)
    (heg : ∀ args w, (callFunc k args).run Try.prog w = .ok (.enter k args) w)
    (hf : ∀ u x w', Ext w w' → Rep.byte.sl w' u x.data → x ∈ xs → Calls Try.prog k (#[.agg #[I x.at_, u]] ++ lb) w' fun e w'' => e = .returned (.bool (p x)) ∧ Ext w' w'') :
    Calls Try.prog 155 #[v, .func (.func k) #[] lb] w fun e w' => e = .returned (.bool (xs.any p)) ∧ Ext w w' := by
  have hi := index_waits k lb p v xs w h heg hf
  obtain ⟨A, c, rfl, h1, h2, h3⟩ := h
  clear hf heg
  go_enter Try.func155, Try.ntmps155
  go_wp2_with fail
  refine hi.mono ?_
  rintro e w2 ⟨i, rfl, hd, he2⟩
  clear hi
  have Hd := Lib.hid hd
  clear hd
  go_wp2
  go_ret
  exact ⟨ret_bool Hd.out, he2⟩


def oddB (l : List UInt8) : Bool := !isBlock l
theorem oddB_iff (l : List UInt8) : oddB l = true ↔ (l.length ≠ 0 ∧ l.length ≠ 128) := by
  unfold oddB isBlock
  simp
theorem odd_cast (x : List UInt8) : (((x.length : Int) != 0) && ((x.length : Int) != 128)) = oddB x := by
  rw [Bool.eq_iff_iff, oddB_iff]
  simp only [Bool.and_eq_true, bne_iff_ne]
  omega
set_option maxRecDepth 100000 in
set_option maxHeartbeats 400000 in
theorem odd92 (u : Value) (x : List UInt8) (w : World) (h : Rep.byte.sl w u x) :
    Calls Try.prog 92 #[u] w fun e w' => e = .returned (.bool (oddB x)) ∧ Ext w w' := by
  obtain ⟨A, c, rfl, h1, h2, h3⟩ := h
  go_enter Try.func92, Try.ntmps92
  go_wp2
  all_goals
    go_ret
    exact ⟨ret_bool (by first | (exact odd_cast x) | (subst x; rfl)), Ext.refl _⟩
set_option maxRecDepth 100000 in
set_option maxHeartbeats 400000 in
theorem disk_odd (u : Value) (x : List UInt8) (w : World) (h : Rep.byte.sl w u x) :
    Calls Try.prog 154 #[u] w fun e w' => e = .returned (.bool (oddB x)) ∧ Ext w w' := by
  obtain ⟨A, c, rfl, h1, h2, h3⟩ := h
  go_enter Try.func154, Try.ntmps154
  go_wp2
  all_goals
    go_ret
    exact ⟨ret_bool (by first | (exact odd_cast x) | (subst x; rfl)), Ext.refl _⟩
set_option maxRecDepth 100000 in
set_option maxHeartbeats 400000 in
theorem some157 (u : Value) (x : List UInt8) (w : World) (h : Rep.byte.sl w u x) :
    Calls Try.prog 157 #[u] w fun e w' => e = .returned (.bool (!x.isEmpty)) ∧ Ext w w' := by
  obtain ⟨A, c, rfl, h1, h2, h3⟩ := h
  go_enter Try.func157, Try.ntmps157
  go_wp2
  all_goals
    go_ret
    exact ⟨ret_bool (by rw [Bool.eq_iff_iff]; cases x <;> simp; try omega), Ext.refl _⟩
theorem waitOk_not (many : Nat) (x : Wr) : (!waitOk many x) = (decide (x.at_ < 0) || decide ((many : Int) ≤ x.at_) || !isBlock x.data) := by
  unfold waitOk
  by_cases g1 : x.at_ < 0 <;> by_cases g2 : (many : Int) ≤ x.at_ <;> simp [g1, g2] <;> omega
set_option maxRecDepth 100000 in
set_option maxHeartbeats 400000 in
theorem wait156 (b : Nat) (many : Nat) (u : Value) (x : Wr) (w : World) (hb : w.cell? ⟨b, 0, none⟩ = some (I (many : Int))) (h : Rep.byte.sl w u x.data) :
    Calls Try.prog 156 #[.agg #[I x.at_, u], .pointer (some ⟨b, 0, none⟩)] w fun e w' => e = .returned (.bool (!waitOk many x)) ∧ Ext w w' := by
  have h0 := h.ext (Ext.alloc (Ext.refl w) (.cells #[I x.at_, u] 114))
  have hb' := (Ext.alloc (Ext.refl w) (.cells #[I x.at_, u] 114)).cells hb
  have hlt := World.block_lt_of_cell? w _ hb
  obtain ⟨A, c, rfl, h1, h2, h3⟩ := h
  go_enter Try.func156, Try.ntmps156
  go_wp2_with (first
    | (go_at_call 154; refine (disk_odd _ _ _ h0).mono ?_; rintro e w2 ⟨rfl, he2⟩))
  all_goals
    go_ret
    exact ⟨ret_bool (by rw [waitOk_not]; by_cases g1 : x.at_ < 0 <;> by_cases g2 : (many : Int) ≤ x.at_ <;> simp [oddB, g1, g2] <;> omega), (by repeat (first | exact Below.refl _ _ | assumption | refine Ext.alloc ?_ _ | refine Ext.drew ?_ | refine Ext.trans ?_ (by assumption)))⟩

theorem own_lower {w : World} {base base' : Nat} {e : TypeId} {size : Nat} {v : Value} {n : Nat} {cs : List Value} (h : w.ownsRow base e size v n cs) (hb : base' ≤ base) : w.ownsRow base' e size v n cs := by
  obtain ⟨h1, h2⟩ := h
  refine ⟨h1, h2.imp id ?_⟩
  rintro ⟨g, cap, cur, rfl, hg, hrest⟩
  exact ⟨g, cap, cur, rfl, Nat.le_trans hb hg, hrest⟩

/-! ### Which device may be -/

def Dk.err (d : Dk) : Int := if d.may then 0 else 8
abbrev Dk.v (d : Dk) (bv wv : Value) : Value := .agg #[bv, wv, .bool d.dead]
/-- A device in memory. -/
def DkAt (w : World) (bv wv : Value) (d : Dk) : Prop := (Rep.slice Rep.byte).sl w bv d.blocks ∧ Rep.wr.sl w wv d.wait
theorem DkAt.ext {w w' : World} {bv wv : Value} {d : Dk} (h : DkAt w bv wv d) (he : Ext w w') : DkAt w' bv wv d := ⟨h.1.ext he, h.2.ext he⟩

theorem any_not {α : Type} (p : α → Bool) (l : List α) : l.any (fun x => !p x) = !l.all p := by
  induction l with
  | nil => rfl
  | cons a l ih => simp [ih]
theorem may_of (d : Dk) (a b c : Bool) (h1 : d.blocks.any oddB = a) (h2 : d.wait.any (fun x => !waitOk d.blocks.length x) = b) (h3 : d.blocks.any (fun x => !x.isEmpty) = c) :
    d.may = (decide (1 ≤ d.blocks.length) && decide (d.blocks.length ≤ 256) && decide (d.wait.length ≤ 1024) && !a && !b && (!d.dead || (d.wait.isEmpty && !c))) := by
  subst h1 h2 h3
  unfold Dk.may oddB
  rw [any_not, any_not, any_not]
  simp

set_option maxRecDepth 100000 in
set_option maxHeartbeats 400000 in
theorem disk_Check (d : Dk) (bv wv : Value) (w : World) (h : DkAt w bv wv d) :
    Calls Try.prog 102 #[d.v bv wv] w fun e w' => e = .returned (I d.err) ∧ Ext w w' := by
  have h0 := h
  obtain ⟨⟨A, c, rfl, a1, a2, a3⟩, ⟨A', c', rfl, b1, b2, b3⟩⟩ := h
  obtain ⟨a, ha⟩ : ∃ a, d.blocks.any oddB = a := ⟨_, rfl⟩
  obtain ⟨b, hb⟩ : ∃ b, d.wait.any (fun x => !waitOk d.blocks.length x) = b := ⟨_, rfl⟩
  obtain ⟨c1, hc1⟩ : ∃ c, d.blocks.any (fun x => !x.isEmpty) = c := ⟨_, rfl⟩
  have Hm := Lib.hid (may_of d a b c1 ha hb hc1)
  have hx1 := fun w1 (he : Ext w w1) => contains_blocks 154 #[] oddB _ d.blocks w1 (h0.1.ext he) (enters_of Try.func154 (by kernel_rfl) rfl) (fun u x w' he' hs _ => disk_odd u x w' hs)
  have hx3 := fun w1 (he : Ext w w1) => contains_blocks 157 #[] (fun x => !x.isEmpty) _ d.blocks w1 (h0.1.ext he) (enters_of Try.func157 (by kernel_rfl) rfl) (fun u x w' he' hs _ => some157 u x w' hs)
  have hx2 := fun w1 bx (he : Ext w w1) (hbx : w1.cell? ⟨bx, 0, none⟩ = some (I (d.blocks.length : Int))) => contains_waits 156 #[.pointer (some ⟨bx, 0, none⟩)] (fun x => !waitOk d.blocks.length x) _ d.wait w1 (h0.2.ext he) (enters_of Try.func156 (by kernel_rfl) rfl) (fun u x w' he' hs _ => wait156 bx d.blocks.length u x w' (he'.cells hbx) hs)
  rw [ha] at hx1
  rw [hb] at hx2
  rw [hc1] at hx3
  have Hx1 := Lib.hid hx1
  have Hx2 := Lib.hid hx2
  have Hx3 := Lib.hid hx3
  clear ha hb hc1 hx1 hx2 hx3 h0
  go_enter Try.func102, Try.ntmps102
  go_wp2_with (first
    | (go_at_call 91; refine (Hx1.out _ (by repeat (first | exact Below.refl _ _ | assumption | refine Ext.alloc ?_ _ | refine Ext.drew ?_ | refine Ext.trans ?_ (by assumption)))).mono ?_; rintro e w1 ⟨rfl, he1⟩; obtain ⟨hc1, hf1⟩ := bcell he1; have hz1 := he1.size; simp only [World.size_alloc] at hz1; have hy1 : w.heap.size < w1.heap.size := by omega)
    | (go_at_call 155; refine (Hx2.out _ _ ((by repeat (first | exact Below.refl _ _ | assumption | refine Ext.alloc ?_ _ | refine Ext.drew ?_ | refine Ext.trans ?_ (by assumption)))) (he1.cells (by simp))).mono ?_; rintro e w2 ⟨rfl, he2⟩; obtain ⟨hc2, hf2⟩ := bcell he2; have hz2 := he2.size; have hy2 : w.heap.size < w2.heap.size := by omega)
    | (go_at_call 91; refine (Hx3.out _ (by repeat (first | exact Below.refl _ _ | assumption | refine Ext.alloc ?_ _ | refine Ext.drew ?_ | refine Ext.trans ?_ (by assumption)))).mono ?_; rintro e w3 ⟨rfl, he3⟩))
  all_goals first
    | (go_ret
       refine ⟨ret_int ?_, (by repeat (first | exact Below.refl _ _ | assumption | refine Ext.alloc ?_ _ | refine Ext.drew ?_ | refine Ext.trans ?_ (by assumption)))⟩
       unfold Dk.err
       rw [Hm.out]
       first
         | (simp_all; done)
         | (simp_all; omega)
         | (rename_i hq; simp; intro q1 q2 q3 q4; rcases hq with hq | hq
            · omega
            · rw [hq] at q4; cases q4))
    | (exfalso; rename_i q; exact h (List.length_pos_iff.2 q))

/-- The error of a place. -/
def Dk.placeErr (d : Dk) (at_ : Int) : Int := if d.may then (if 0 ≤ at_ ∧ at_ < d.blocks.length then 0 else 2) else 8
set_option maxRecDepth 100000 in
set_option maxHeartbeats 400000 in
theorem disk_place (d : Dk) (bv wv : Value) (at_ : Int) (w : World) (h : DkAt w bv wv d) :
    Calls Try.prog 147 #[d.v bv wv, I at_] w fun e w' => e = .returned (I (d.placeErr at_)) ∧ Ext w w' := by
  have h0 := h
  obtain ⟨⟨A, c, rfl, a1, a2, a3⟩, ⟨A', c', rfl, b1, b2, b3⟩⟩ := h
  cases hm : d.may
  all_goals
    have Hq : Hid (d.err = if d.may then 0 else 8) := Lib.hid rfl
    have Hm := Lib.hid hm
    rw [hm] at Hq
    clear hm
    go_enter Try.func147, Try.ntmps147
    go_wp2_with fail
    refine (disk_Check d _ _ _ (h0.ext (Ext.alloc (Ext.refl _) _))).mono ?_
    rintro e1 w1 ⟨rfl, he1⟩
    obtain ⟨hc1, hf1⟩ := bcell he1
    have hz1 := he1.size
    try simp only [World.size_alloc] at hz1
    rw [Hq.out]
    go_wp2
    all_goals
      go_ret
      refine ⟨ret_int ?_, (by repeat (first | exact Below.refl _ _ | assumption | refine Ext.alloc ?_ _ | refine Ext.drew ?_ | refine Ext.trans ?_ (by assumption)))⟩
      unfold Dk.placeErr
      rw [Hm.out]
      simp
      try omega


end Go.Proofs.Ytancfgmaejjooaa
