/- What the answers are, in plain Lean: sums bit by bit, a note's bytes side by side, devices, deals. No program in sight. -/
import Derived.Test.YtancfgmaejjooaaNote3
set_option linter.unusedVariables false
set_option linter.unusedSimpArgs false
namespace Go.Proofs.Ytancfgmaejjooaa
open Go.RowKit

/-! ### Sums -/
def bitStep (n : Nat) : Nat := n / 2 ^^^ (if n % 2 = 1 then 2197175160 else 0)

theorem bit_lin (a b : Nat) : bitStep (a ^^^ b) = bitStep a ^^^ bitStep b := by
  unfold bitStep
  rw [Nat.xor_div_two]
  have h : (a ^^^ b) % 2 = 1 ↔ ¬ (a % 2 = 1 ↔ b % 2 = 1) := Nat.xor_mod_two_eq_one
  by_cases ha : a % 2 = 1 <;> by_cases hb : b % 2 = 1 <;> simp only [h, ha, hb, if_true, if_false, not_true, not_false_iff, iff_true, iff_false, false_iff, Nat.xor_zero]
  · rw [Nat.xor_assoc, Nat.xor_comm 2197175160, Nat.xor_assoc, Nat.xor_self, Nat.xor_zero]
  · rw [Nat.xor_assoc, Nat.xor_assoc, Nat.xor_comm (b/2)]
  · rw [Nat.xor_assoc]

theorem bit_even (n : Nat) : bitStep (2 * n) = n := by
  unfold bitStep
  simp

theorem split16 (n : Nat) : n = (16 * (n / 16)) ^^^ (n % 16) := by
  apply Nat.eq_of_testBit_eq
  intro i
  rw [Nat.testBit_xor, show 16 = 2 ^ 4 from rfl, Nat.testBit_two_pow_mul, Nat.testBit_mod_two_pow]
  by_cases h : i < 4
  · simp [h, show ¬ i ≥ 4 by omega]
  · simp [h, show i ≥ 4 by omega]
    rw [show (16 : Nat) = 2 ^ 4 from rfl, Nat.testBit_div_two_pow]
    congr 1
    omega

theorem bit4 (n : Nat) : bitStep (bitStep (bitStep (bitStep n))) = half n := by
  unfold half
  have hr : n &&& 15 = n % 16 := Nat.and_two_pow_sub_one_eq_mod n 4
  rw [hr]
  have hs := split16 n
  have hl : n % 16 < 16 := Nat.mod_lt _ (by decide)
  generalize n / 16 = q at hs ⊢
  generalize n % 16 = r at hs hl ⊢
  subst hs
  simp only [bit_lin]
  rw [show 16 * q = 2 * (2 * (2 * (2 * q))) by omega]
  simp only [bit_even]
  congr 1
  match r, hl with
  | 0, _ => decide | 1, _ => decide | 2, _ => decide | 3, _ => decide | 4, _ => decide | 5, _ => decide | 6, _ => decide | 7, _ => decide
  | 8, _ => decide | 9, _ => decide | 10, _ => decide | 11, _ => decide | 12, _ => decide | 13, _ => decide | 14, _ => decide | 15, _ => decide
  | n + 16, h => omega

def bitN : Nat → Nat → Nat
  | 0, n => n
  | k + 1, n => bitStep (bitN k n)
theorem bit8 (s : Nat) (x : UInt8) : bitN 8 (s ^^^ x.toNat) = stepB s x := by
  simp only [bitN, stepB]
  rw [bit4, bit4]

/-! ### A note's bytes -/
/-- A block that begins with some bytes; behind them noughts. -/
def Laid (pre : List UInt8) (l : List UInt8) : Prop := pre.length ≤ 128 ∧ l = pre ++ List.replicate (128 - pre.length) 0
/-- A number's bytes, so many. -/
def numB (n k : Nat) : List UInt8 := (List.range k).map fun i => UInt8.ofNat (n / 256 ^ i)
theorem numB_len (n k : Nat) : (numB n k).length = k := by simp [numB]
theorem numB_succ (n k : Nat) : numB n (k + 1) = numB n k ++ [UInt8.ofNat (n / 256 ^ k)] := by simp [numB, List.range_succ]

theorem Laid.len {pre l : List UInt8} (h : Laid pre l) : l.length = 128 := by
  obtain ⟨h, rfl⟩ := h
  simp; omega
theorem laid_set {pre l : List UInt8} (h : Laid pre l) (hn : pre.length < 128) (x : UInt8) : Laid (pre ++ [x]) (l.set pre.length x) := by
  obtain ⟨h1, rfl⟩ := h
  refine ⟨by simp; omega, ?_⟩
  rw [List.set_append_right _ _ (Nat.le_refl _), Nat.sub_self]
  obtain ⟨m, hm⟩ : ∃ m, 128 - pre.length = m + 1 := ⟨127 - pre.length, by omega⟩
  rw [hm, List.replicate_succ]
  simp only [List.set_cons_zero, List.length_append, List.length_singleton, List.append_assoc, List.singleton_append]
  rw [show 128 - (pre.length + 1) = m by omega]
theorem laid_putN {pre l : List UInt8} (h : Laid pre l) (n : Nat) : ∀ k, pre.length + k ≤ 128 → Laid (pre ++ numB n k) (putN l pre.length n k)
  | 0, _ => by simpa [numB, putN] using h
  | k + 1, hk => by
    have ih := laid_putN h n k (by omega)
    have := laid_set ih (by simp [numB_len]; omega) (UInt8.ofNat (n / 256 ^ k))
    rw [numB_succ, ← List.append_assoc]
    simp only [List.length_append, numB_len] at this
    exact this
theorem laid_putL {pre l : List UInt8} (h : Laid pre l) (s : Nat) (ns : List Nat) : ∀ k, k ≤ ns.length → pre.length + k * s ≤ 128 → Laid (pre ++ (ns.take k).flatMap fun n => numB n s) (putL l pre.length s ns k)
  | 0, _, _ => by simpa [putL] using h
  | k + 1, hk, hl => by
    have e : (k + 1) * s = k * s + s := by rw [Nat.add_mul, Nat.one_mul]
    have ih := laid_putL h s ns k (by omega) (by omega)
    have hlen : (((ns.take k).flatMap fun n => numB n s)).length = k * s := by
      have : ∀ l : List Nat, (l.flatMap fun n => numB n s).length = l.length * s := by
        intro l
        induction l with
        | nil => simp
        | cons a l ih => simp [List.flatMap_cons, numB_len, ih, Nat.add_mul]; omega
      rw [this, List.length_take, Nat.min_eq_left (by omega)]
    have := laid_putN ih (ns.getD k 0) s (by simp only [List.length_append, hlen]; omega)
    simp only [List.length_append, hlen] at this
    rw [List.take_succ_eq_append_getElem (by omega), List.flatMap_append, ← List.append_assoc]
    simp only [putL, List.flatMap_cons, List.flatMap_nil, List.append_nil]
    rw [List.getD_eq_getElem?_getD, List.getElem?_eq_getElem (by omega), Option.getD_some] at this ⊢
    exact this

def rcB (r : Rc) : List UInt8 := [r.slot, if r.bare then 1 else 0] ++ numB r.sum 4
def noteB (n : NoteD) (k : Nat) : List UInt8 := [78] ++ numB n.id 4 ++ numB n.age 4 ++ numB n.seq 4 ++ [UInt8.ofNat n.stripe.toNat, UInt8.ofNat n.recs.length] ++ (n.recs.take k).flatMap rcB

theorem numB1 (n : Nat) : numB n 1 = [UInt8.ofNat n] := by simp [numB]
theorem laid1 : Laid [78] note1 := by
  have h : Laid [] zeros := ⟨by simp, by simp [zeros]⟩
  have := laid_putL h 1 [78] 1 (by simp) (by simp)
  simpa [numB, note1] using this
theorem laid2 (n : NoteD) : Laid ([78] ++ numB n.id 4 ++ numB n.age 4 ++ numB n.seq 4) (note2 n) := by
  have := laid_putL laid1 4 [n.id, n.age, n.seq] 3 (by simp) (by simp)
  simpa [note2] using this
theorem laid3 (n : NoteD) : Laid (noteB n 0) (note3 n) := by
  have h := laid2 n
  have := laid_putL h 1 [n.stripe.toNat, n.recs.length] 2 (by simp) (by simp [numB_len])
  simpa [noteB, numB_len, numB1, note3] using this
theorem rcB_len (r : Rc) : (rcB r).length = 6 := by simp [rcB, numB_len]
theorem rcBs_len (l : List Rc) : (l.flatMap rcB).length = l.length * 6 := by
  induction l with
  | nil => simp
  | cons a l ih => simp [List.flatMap_cons, rcB_len, ih, Nat.add_mul]; omega
theorem noteB_len (n : NoteD) (k : Nat) (h : k ≤ n.recs.length) : (noteB n k).length = 15 + 6 * k := by
  simp only [noteB, List.length_append, numB_len, rcBs_len, List.length_take, List.length_cons, List.length_nil, Nat.min_eq_left h]
  omega
theorem laid4 (n : NoteD) (hn : n.recs.length ≤ 16) : Laid (noteB n n.recs.length) (note4 n) := by
  have : ∀ k, k ≤ n.recs.length → Laid (noteB n k) ((List.range k).foldl (recPut n.recs) (note3 n)) := by
    intro k
    induction k with
    | zero => intro _; exact laid3 n
    | succ k ih =>
      intro hk
      have h := ih (by omega)
      rw [List.range_succ, List.foldl_append]
      simp only [List.foldl_cons, List.foldl_nil]
      generalize (List.range k).foldl (recPut n.recs) (note3 n) = l at h ⊢
      have hl := noteB_len n k (by omega)
      have h1 := laid_putL h 1 [(n.recs.getD k ⟨0, false, 0⟩).slot.toNat, if (n.recs.getD k ⟨0, false, 0⟩).bare then 1 else 0] 2 (by simp) (by omega)
      have h2 := laid_putL h1 4 [(n.recs.getD k ⟨0, false, 0⟩).sum] 1 (by simp) (by simp [hl, numB_len]; omega)
      have e : noteB n (k + 1) = noteB n k ++ rcB (n.recs.getD k ⟨0, false, 0⟩) := by
        unfold noteB
        rw [List.take_succ_eq_append_getElem (by omega), List.flatMap_append, List.getD_eq_getElem?_getD, List.getElem?_eq_getElem (by omega), Option.getD_some]
        simp
      rw [e]
      simp only [hl, List.length_append, List.take, List.flatMap_cons, List.flatMap_nil, numB1, List.append_nil, List.length_cons, List.length_nil, UInt8.ofNat_toNat] at h2
      simp only [recPut, rcB]
      rw [← List.append_assoc]
      have eb : ∀ b : Bool, UInt8.ofNat (if b = true then 1 else 0) = if b = true then 1 else 0 := by intro b; cases b <;> rfl
      rw [eb] at h2
      exact h2
  exact this _ (Nat.le_refl _)

def recOf (l : List UInt8) (i : Nat) : Rc := ⟨UInt8.ofNat (takeN l (15 + 6 * i) 1), takeN l (16 + 6 * i) 1 == 1, takeN l (17 + 6 * i) 4⟩
def countOf (l : List UInt8) : Nat := min (takeN l 14 1) 17
def noteOf (l : List UInt8) : NoteD := ⟨takeN l 1 4, takeN l 5 4, takeN l 9 4, (takeN l 13 1 : Int), (List.range (countOf l)).map (recOf l)⟩

/-! ### A note that is read: the count -/
theorem putN_other (l : List UInt8) (at_ n k j : Nat) (h : j < at_ ∨ at_ + k ≤ j) : (putN l at_ n k).getD j 0 = l.getD j 0 := by
  induction k with
  | zero => rfl
  | succ k ih =>
    simp only [putN, List.getD_eq_getElem?_getD]
    rw [List.getElem?_set_ne (by omega)]
    simpa [List.getD_eq_getElem?_getD] using ih (by omega)
theorem noteBytes_count (n : NoteD) (hn : n.recs.length ≤ 16) : (noteBytes n).getD 14 0 = UInt8.ofNat n.recs.length := by
  have h4 := laid4 n hn
  obtain ⟨_, h⟩ := h4
  have e : noteBytes n = putN (note4 n) 124 (overB 0 ((note4 n).take 124)) 4 := rfl
  rw [e, putN_other _ _ _ _ _ (by omega), h]
  simp [noteB, numB, List.range_succ]
theorem takeN_one (l : List UInt8) (j : Nat) : takeN l j 1 = (l.getD j 0).toNat := by simp [takeN]
/-- The note as the reference reads it. -/
def noteRef (l : List UInt8) : NoteD := ⟨takeN l 1 4, takeN l 5 4, takeN l 9 4, (takeN l 13 1 : Int), (List.range (min (takeN l 14 1) 16)).map (recOf l)⟩
def noteGood (l : List UInt8) : Prop := (noteOf l).may = true ∧ noteBytes (noteOf l) = l
theorem noteRef_good (l : List UInt8) : (noteGood l ↔ ((noteRef l).may = true ∧ noteBytes (noteRef l) = l)) ∧ (noteGood l → noteRef l = noteOf l) := by
  rcases Nat.lt_or_ge 16 (takeN l 14 1) with h | h
  · have h1 : (noteOf l).may = false := by
      cases hm : (noteOf l).may
      · rfl
      · have := (head_iff _).1 (okTo_head hm)
        simp [noteOf, countOf] at this
        omega
    have h2 : noteBytes (noteRef l) ≠ l := by
      intro e
      have hl : (noteRef l).recs.length = 16 := by simp [noteRef]; omega
      have := noteBytes_count (noteRef l) (by omega)
      rw [e, hl] at this
      rw [takeN_one, this] at h
      simp at h
    exact ⟨⟨fun h => by simp [noteGood, h1] at h, fun h => absurd h.2 h2⟩, fun h => by simp [noteGood, h1] at h⟩
  · have e : noteRef l = noteOf l := by
      unfold noteRef noteOf countOf
      rw [Nat.min_eq_left h, Nat.min_eq_left (by omega)]
    rw [e]
    exact ⟨Iff.rfl, fun _ => rfl⟩

/-! ### Devices -/
structure Dk where
  blocks : List (List UInt8)
  wait : List Wr
  dead : Bool
def waitOk (many : Nat) (w : Wr) : Bool := decide (0 ≤ w.at_) && decide (w.at_ < many) && isBlock w.data
def Dk.may (d : Dk) : Bool := decide (1 ≤ d.blocks.length) && decide (d.blocks.length ≤ 256) && decide (d.wait.length ≤ 1024) && d.blocks.all isBlock && d.wait.all (waitOk d.blocks.length) && (!d.dead || (d.wait.isEmpty && d.blocks.all (fun b => b.isEmpty)))
def seenIn (at_ : Int) (ws : List Wr) (b : List UInt8) : List UInt8 := ws.foldl (fun out w => if w.at_ = at_ then whole w.data else out) b
def Dk.seen (d : Dk) (at_ : Nat) : List UInt8 := seenIn at_ d.wait (whole (d.blocks.getD at_ []))
theorem seen_none (at_ : Int) (ws : List Wr) (b : List UInt8) (h : ∀ w ∈ ws, w.at_ ≠ at_) : seenIn at_ ws b = b := by
  induction ws generalizing b with
  | nil => rfl
  | cons w ws ih =>
    simp only [seenIn, List.foldl_cons] at ih ⊢
    rw [if_neg (h w (by simp))]
    exact ih b (fun w hw => h w (by simp [hw]))
theorem seen_last (at_ : Int) (ws : List Wr) (b : List UInt8) (k : Nat) (hk : k < ws.length) (h : ws[k].at_ = at_) (hn : ∀ j (hj : j < ws.length), k < j → ws[j].at_ ≠ at_) : seenIn at_ ws b = whole ws[k].data := by
  have e : ws = ws.take k ++ ws[k] :: ws.drop (k + 1) := by simp
  have : seenIn at_ ws b = seenIn at_ (ws.drop (k + 1)) (whole ws[k].data) := by
    conv => lhs; rw [e]
    simp only [seenIn, List.foldl_append, List.foldl_cons]
    rw [if_pos h]
  rw [this]
  refine seen_none _ _ _ (fun w hw => ?_)
  obtain ⟨i, hi, rfl⟩ := List.getElem_of_mem hw
  simp at hi ⊢
  exact hn _ _ (by omega)
theorem seen_len (d : Dk) (hd : d.may = true) (at_ : Nat) (hat : at_ < d.blocks.length) : (d.seen at_).length = 128 := by
  simp only [Dk.may, Bool.and_eq_true, List.all_eq_true] at hd
  have hb := hd.1.1.2 
  have hw := hd.1.2
  have : ∀ (ws : List Wr) (b : List UInt8), (∀ w ∈ ws, waitOk d.blocks.length w = true) → b.length = 128 → (seenIn at_ ws b).length = 128 := by
    intro ws
    induction ws with
    | nil => intro b _ hb; exact hb
    | cons w ws ih =>
      intro b hw hb
      simp only [seenIn, List.foldl_cons] at ih ⊢
      refine ih _ (fun w hw' => hw w (by simp [hw'])) ?_
      split
      · have := hw w (by simp)
        simp only [waitOk, Bool.and_eq_true] at this
        exact whole_len this.2
      · exact hb
  refine this _ _ hw (whole_len ?_)
  rw [List.getD_eq_getElem?_getD, List.getElem?_eq_getElem hat]
  exact hb _ (by simp)

/-! ### Deals -/
structure DealD where
  stripe : Int
  slots : List Int
  blocks : List (List UInt8)
  parity : List UInt8
def prevI (l : List Int) : Nat → Int
  | 0 => -1
  | k + 1 => l.getD k 0
def slotOk (m : Int) (l : List Int) (k : Nat) : Bool := decide (prevI l k < prevI l (k + 1)) && decide (prevI l (k + 1) ≤ m - 2)
def slotsTo (m : Int) (l : List Int) : Nat → Bool
  | 0 => true
  | k + 1 => slotsTo m l k && slotOk m l k
def slotsMay (m : Int) (l : List Int) : Bool := slotsTo m l l.length && decide (0 < l.length)
def DealD.may (c : Cfg) (d : DealD) : Bool :=
  decide (0 ≤ d.stripe) && decide (d.stripe < c.chunk * c.rows) && slotsMay c.members d.slots && decide (d.blocks.length = d.slots.length) && d.blocks.all isBlock && isBlock d.parity
theorem slots_ge (m : Int) (l : List Int) : ∀ k, k ≤ l.length → slotsTo m l k = true → (k : Int) - 1 ≤ prevI l k
  | 0, _, _ => by simp [prevI]
  | k + 1, hk, h => by
    simp only [slotsTo, slotOk, Bool.and_eq_true, decide_eq_true_eq] at h
    have := slots_ge m l k (by omega) h.1
    omega
theorem slots_many (m : Int) (l : List Int) (h : slotsMay m l = true) : (l.length : Int) ≤ m - 1 := by
  simp only [slotsMay, Bool.and_eq_true, decide_eq_true_eq] at h
  obtain ⟨k, hk⟩ : ∃ k, l.length = k + 1 := ⟨l.length - 1, by omega⟩
  have h1 := slots_ge m l (k + 1) (by omega) (by rw [← hk]; exact h.1)
  have h2 := h.1
  rw [hk] at h2
  simp only [slotsTo, slotOk, Bool.and_eq_true, decide_eq_true_eq] at h2
  omega

def recGood (r : Rc) (b : List UInt8) : Bool := overB 0 b == r.sum && b.getD 0 0 != 78 && (!r.bare || b.getD 0 0 == 0)
def recBlock (r : Rc) (b : List UInt8) : List UInt8 := if r.bare then b.set 0 78 else b
def addRec (d : DealD) (r : Rc) (b : List UInt8) : DealD :=
  if r.slot = 255 then { d with parity := recBlock r b } else { d with slots := d.slots ++ [(r.slot.toNat : Int)], blocks := d.blocks ++ [recBlock r b] }
def recAt (rs : List Rc) (i : Nat) : Rc := rs.getD i ⟨0, false, 0⟩
def dealTo (s : Int) (rs : List Rc) (bs : Nat → List UInt8) : Nat → DealD
  | 0 => ⟨s, [], [], []⟩
  | k + 1 => addRec (dealTo s rs bs k) (recAt rs k) (bs (k + 1))
def goodTo (rs : List Rc) (bs : Nat → List UInt8) : Nat → Bool
  | 0 => true
  | k + 1 => goodTo rs bs k && recGood (recAt rs k) (bs (k + 1))
theorem okTo_le {n : NoteD} {k j : Nat} (h : okTo n k = true) (hj : j < k) : recOk n.recs j = true := by
  induction k with
  | zero => omega
  | succ k ih =>
    simp only [okTo, Bool.and_eq_true] at h
    by_cases e : j = k
    · subst e; exact h.2
    · exact ih h.1 (by omega)
theorem dealTo_slots (n : NoteD) (hm : n.may = true) (s : Int) (bs : Nat → List UInt8) : ∀ k, k < n.recs.length → (dealTo s n.recs bs k).slots.length = k
  | 0, _ => rfl
  | k + 1, hk => by
    have ih := dealTo_slots n hm s bs k (by omega)
    have hr := (recOk_iff _ _).1 (okTo_le hm (show k < n.recs.length by omega))
    have hs : (recAt n.recs k).slot ≠ 255 := by
      intro e
      have : recLast n.recs (k + 1) = 255 := by simp only [recLast]; unfold recAt at e; rw [e]; rfl
      omega
    simp only [dealTo, addRec, if_neg hs, List.length_append, ih, List.length_singleton]
theorem dealTo_slots_le (n : NoteD) (hm : n.may = true) (s : Int) (bs : Nat → List UInt8) (k : Nat) (hk : k ≤ n.recs.length) : k ≤ (dealTo s n.recs bs k).slots.length + 1 := by
  match k with
  | 0 => omega
  | k + 1 =>
    have := dealTo_slots n hm s bs k (by omega)
    simp only [dealTo, addRec]
    split
    · simp [this]
    · simp [this]
theorem may_log {c : Cfg} (h : c.may = true) : 3 ≤ c.members ∧ c.members ≤ 16 ∧ 3 * c.members + 3 ≤ c.log ∧ c.log ≤ 255 ∧ 1 ≤ c.chunk ∧ c.chunk ≤ 8 ∧ 1 ≤ c.rows ∧ c.rows ≤ 8 := by
  unfold Cfg.may Cfg.plain at h
  simp [inB] at h
  obtain ⟨⟨h1, h2, h3, h4⟩, h5, h6⟩ := h
  have : (c.members + 1) * 3 ≤ (c.members + 1) * (c.heads + 1) := Int.mul_le_mul_of_nonneg_left (by omega) (by omega)
  omega
theorem deal_few (c : Cfg) (hc : c.may = true) (n : NoteD) (hm : n.may = true) (s : Int) (bs : Nat → List UInt8) (k : Nat) (hk : k ≤ n.recs.length) (hl : c.log - 1 ≤ k) : (dealTo s n.recs bs k).may c = false := by
  cases h : (dealTo s n.recs bs k).may c
  · rfl
  · have h1 := dealTo_slots_le n hm s bs k hk
    simp only [DealD.may, Bool.and_eq_true] at h
    have h2 := slots_many _ _ h.1.1.1.2
    have h3 := may_log hc
    omega
/-- What stands at a place; of the first so many records. -/
def standsTo (c : Cfg) (n : NoteD) (bs : Nat → List UInt8) (k : Nat) : Bool := goodTo n.recs bs k && (dealTo n.stripe n.recs bs k).may c
theorem stands_few (c : Cfg) (hc : c.may = true) (n : NoteD) (hm : n.may = true) (bs : Nat → List UInt8) :
    standsTo c n bs (min n.recs.length (c.log.toNat - 1)) = standsTo c n bs n.recs.length ∧ (standsTo c n bs n.recs.length = true → min n.recs.length (c.log.toNat - 1) = n.recs.length) := by
  have h3 := may_log hc
  rcases Nat.lt_or_ge (c.log.toNat - 1) n.recs.length with h | h
  · rw [Nat.min_eq_right (by omega)]
    have h1 := deal_few c hc n hm n.stripe bs (c.log.toNat - 1) (by omega) (by omega)
    have h2 := deal_few c hc n hm n.stripe bs n.recs.length (by omega) (by omega)
    simp only [standsTo, h1, h2, Bool.and_false]
    exact ⟨trivial, fun h => by cases h⟩
  · rw [Nat.min_eq_left (by omega)]
    exact ⟨rfl, fun _ => rfl⟩

end Go.Proofs.Ytancfgmaejjooaa
