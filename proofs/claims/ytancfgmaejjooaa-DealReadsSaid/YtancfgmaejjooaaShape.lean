/- Configs: what package shape answers. -/
import Derived.Test.YtancfgmaejjooaaRows
import Derived.Test.YtancfgmaejjooaaBase
set_option linter.unusedVariables false
set_option linter.unusedSimpArgs false
namespace Go.Proofs.Ytancfgmaejjooaa
open Go.RowKit

def inB (r : Int × Int × Int) : Bool := !decide (r.1 < r.2.1) && !decide (r.1 > r.2.2)
def row3 (r : Int × Int × Int) : List Value := [I r.1, I r.2.1, I r.2.2]

theorem flat3_get (rs : List (Int × Int × Int)) (j t : Nat) (hj : j < rs.length) (ht : t < 3) : (rs.flatMap row3)[j * 3 + t]? = (row3 (rs[j]))[t]? := by
  induction rs generalizing j with
  | nil => simp at hj
  | cons r rs ih =>
    cases j with
    | zero =>
      rw [List.flatMap_cons, List.getElem?_append_left (by simp [row3]; omega)]
      simp
    | succ j =>
      rw [List.flatMap_cons, List.getElem?_append_right (by simp [row3]; omega)]
      have := ih j (by simpa using hj)
      simp only [List.getElem_cons_succ]
      rw [← this]
      congr 1
      simp [row3]
      omega

theorem all_no {α : Type} {p : α → Bool} {l : List α} {k : Nat} (hk : k < l.length) (h : p l[k] = false) : l.all p = false := by
  rw [List.all_eq_false]
  exact ⟨l[k], List.getElem_mem hk, by simp [h]⟩

set_option maxRecDepth 100000 in
set_option maxHeartbeats 400000 in
theorem bounds_any (b : Nat) (rs : List (Int × Int × Int)) (w : World) (hn : rs.length < 1000) (cs : Array Value)
    (hb : w.heap[b]? = some (.cells cs 246 (0, 0))) (hcs : cs.toList = rs.flatMap row3) :
    Calls Try.prog 190 #[.slice (some ⟨b, 0, none⟩) rs.length rs.length] w fun e w' => e = .returned (.bool (rs.all inB)) ∧ Ext w w' := by
  have hc : ∀ j (hj : j < rs.length), w.cell? ⟨b, j * 3, none⟩ = some (I rs[j].1) ∧ w.cell? ⟨b, j * 3 + 1, none⟩ = some (I rs[j].2.1) ∧ w.cell? ⟨b, j * 3 + 2, none⟩ = some (I rs[j].2.2) := by
    intro j hj
    have h0 := flat3_get rs j 0 hj (by omega)
    have h1 := flat3_get rs j 1 hj (by omega)
    have h2 := flat3_get rs j 2 hj (by omega)
    rw [← hcs] at h0 h1 h2
    simp [row3] at h0 h1 h2
    simp [World.cell?, hb, h0, h1, h2]
  have hall : ∀ k (hk : k < rs.length), (rs.take (k + 1)).all inB = ((rs.take k).all inB && inB rs[k]) := by
    intro k hk
    rw [List.take_succ_eq_append_getElem hk, List.all_append]
    simp
  clear hb hcs
  go_enter Try.func190, Try.ntmps190
  go_wp2
  go_loopw [7] (fun i wr => ∃ k : Nat, k ≤ rs.length ∧ i = .int .i64 k ∧ Ext w wr ∧ (rs.take k).all inB = true) (fun i _ => rs.length - (intOf i).toNat)
  case atStart => exact ⟨0, Nat.zero_le _, rfl, Below.refl _ _, by simp⟩
  case round =>
    obtain ⟨k, hk, rfl, he, ha⟩ := hrel
    have Ha := Lib.hid ha
    clear ha
    by_cases hlt : k < rs.length
    · obtain ⟨h0, h1, h2⟩ := hc k hlt
      have g0 := he.cells h0
      have g1 := he.cells h1
      have g2 := he.cells h2
      have Hs := Lib.hid (hall k hlt)
      clear hc hall h0 h1 h2
      go_wp2
      · go_ret
        exact ⟨ret_bool (all_no hlt (by unfold inB; simp; omega)).symm, he.alloc _⟩
      · go_roundw
        case rel => exact ⟨k + 1, by omega, by go_num, he.alloc _, by rw [Hs.out, Ha.out]; unfold inB; simp; omega⟩
        case measure => simp [intOf]; omega
      · go_ret
        exact ⟨ret_bool (all_no hlt (by unfold inB; simp; omega)).symm, he.alloc _⟩
    · go_wp2
      go_ret
      refine ⟨ret_bool ?_, he⟩
      have := Ha.out
      rw [List.take_of_length_le (by omega)] at this
      exact this.symm

structure Cfg where
  id : Nat
  members : Int
  chunk : Int
  rows : Int
  log : Int
  heads : Int

abbrev U32 (n : Nat) : Value := .int .u32 (n : Int)
abbrev Cfg.v (c : Cfg) : Value := .agg #[U32 c.id, I c.members, I c.chunk, I c.rows, I c.log, I c.heads]
def Cfg.plain (c : Cfg) : Bool := [(c.members, 3, 16), (c.chunk, 1, 8), (c.rows, 1, 8), (c.heads, 2, 8)].all inB
def Cfg.may (c : Cfg) : Bool := c.plain && [(c.log, (c.members + 1) * (c.heads + 1), 255)].all inB

def Cfg.list (c : Cfg) : List (Int × Int × Int) := [(c.members, 3, 16), (c.chunk, 1, 8), (c.rows, 1, 8), (c.heads, 2, 8)]
theorem bounds_plain (c : Cfg) (b : Nat) (w : World) (hb : w.heap[b]? = some (.cells #[I c.members, I 3, I 16, I c.chunk, I 1, I 8, I c.rows, I 1, I 8, I c.heads, I 2, I 8] 246 (0, 0))) :
    Calls Try.prog 190 #[.slice (some ⟨b, 0, none⟩) 4 4] w fun e w' => e = .returned (.bool c.plain) ∧ Ext w w' :=
  bounds_any b c.list w (by unfold Cfg.list; simp) _ hb rfl
theorem bounds_one (x y z : Int) (b : Nat) (w : World) (hb : w.heap[b]? = some (.cells #[I x, I y, I z] 246 (0, 0))) :
    Calls Try.prog 190 #[.slice (some ⟨b, 0, none⟩) 1 1] w fun e w' => e = .returned (.bool (inB (x, y, z))) ∧ Ext w w' :=
  (bounds_any b [(x, y, z)] w (by simp) _ hb rfl).mono fun e w' ⟨h, he⟩ => ⟨by rw [h]; simp, he⟩

def Cfg.err (c : Cfg) : Int := if c.may then 0 else 8

set_option maxRecDepth 100000 in
set_option maxHeartbeats 400000 in
theorem shape_Check (c : Cfg) (w : World) :
    Calls Try.prog 153 #[c.v] w fun e w' => e = .returned (I c.err) ∧ Ext w w' := by
  by_cases hp : c.plain = true
  · have Hp := Lib.hid hp
    have hb : 3 ≤ c.members ∧ c.members ≤ 16 ∧ 2 ≤ c.heads ∧ c.heads ≤ 8 := by
      have := hp
      unfold Cfg.plain at this
      simp [inB] at this
      omega
    obtain ⟨m1, m2, m3, m4⟩ := hb
    have Hm : Hid (c.may = inB (c.log, (c.members + 1) * (c.heads + 1), 255)) := Lib.hid (by unfold Cfg.may; rw [hp]; simp)
    have q1 : IntKind.i64.wrap ((c.members + 1) * (c.heads + 1)) = (c.members + 1) * (c.heads + 1) := by
      have a : 0 ≤ (c.members + 1) * (c.heads + 1) := Int.mul_nonneg (by omega) (by omega)
      have b : (c.members + 1) * (c.heads + 1) ≤ 17 * 9 := Int.mul_le_mul (by omega) (by omega) (by omega) (by omega)
      exact IntWalk.i64_in _ (by omega)
    clear hp
    go_enter Try.func153, Try.ntmps153
    go_wp2_with fail
    refine (bounds_plain c _ _ (heap_new _ _ _ (by simp))).mono ?_
    rintro e1 w1 ⟨rfl, he1⟩
    obtain ⟨hc1, hf1⟩ := bcell he1
    have hz1 := he1.size
    try simp only [World.size_alloc] at hz1
    rw [Hp.out]
    go_wp2_with fail
    refine (bounds_one _ _ _ _ _ (heap_new _ _ _ rfl)).mono ?_
    rintro e w2 ⟨rfl, he2⟩
    cases hq : inB (c.log, (c.members + 1) * (c.heads + 1), 255)
    · have Hq := Lib.hid hq
      clear hq
      go_wp2
      go_ret
      exact ⟨ret_int (by unfold Cfg.err; rw [Hm.out, Hq.out]; rfl), (by repeat (first | exact Below.refl _ _ | assumption | refine Ext.alloc ?_ _ | refine Ext.drew ?_ | refine Ext.trans ?_ (by assumption)))⟩
    · have Hq := Lib.hid hq
      clear hq
      go_wp2
      go_ret
      exact ⟨ret_int (by unfold Cfg.err; rw [Hm.out, Hq.out]; rfl), (by repeat (first | exact Below.refl _ _ | assumption | refine Ext.alloc ?_ _ | refine Ext.drew ?_ | refine Ext.trans ?_ (by assumption)))⟩
  · have Hp : Hid (c.plain = false) := Lib.hid (by simpa using hp)
    clear hp
    go_enter Try.func153, Try.ntmps153
    go_wp2_with fail
    refine (bounds_plain c _ _ (heap_new _ _ _ (by simp))).mono ?_
    rintro e1 w1 ⟨rfl, he1⟩
    obtain ⟨hc1, hf1⟩ := bcell he1
    have hz1 := he1.size
    try simp only [World.size_alloc] at hz1
    rw [Hp.out]
    go_wp2
    go_ret
    exact ⟨ret_int (by unfold Cfg.err Cfg.may; rw [Hp.out]; rfl), (by repeat (first | exact Below.refl _ _ | assumption | refine Ext.alloc ?_ _ | refine Ext.drew ?_ | refine Ext.trans ?_ (by assumption)))⟩

/-- A number told of a config, or the error. -/
def Cfg.num (c : Cfg) (n : Int) : Int := if c.may then n else 0
abbrev Cfg.tell (c : Cfg) (n : Int) : Value := .tuple #[I (c.num n), I c.err]

set_option maxRecDepth 100000 in
set_option maxHeartbeats 400000 in
theorem shape_told (c : Cfg) (n : Int) (w : World) :
    Calls Try.prog 101 #[c.v, I n] w fun e w' => e = .returned (c.tell n) ∧ Ext w w' := by
  cases hm : c.may
  · have Hm : Hid (c.num n = 0) := Lib.hid (by unfold Cfg.num; rw [hm]; rfl)
    have He : Hid (c.err = 8) := Lib.hid (by unfold Cfg.err; rw [hm]; rfl)
    clear hm
    go_enter Try.func101, Try.ntmps101
    go_wp2_with fail
    refine (shape_Check c _).mono ?_
    rintro e1 w1 ⟨rfl, he1⟩
    obtain ⟨hc1, hf1⟩ := bcell he1
    have hz1 := he1.size
    try simp only [World.size_alloc] at hz1
    rw [He.out]
    go_wp2
    go_ret2
    exact ⟨by show _ = Ending.returned (.tuple #[I (c.num n), I c.err]); rw [Hm.out, He.out]; rfl, (by repeat (first | exact Below.refl _ _ | assumption | refine Ext.alloc ?_ _ | refine Ext.drew ?_ | refine Ext.trans ?_ (by assumption)))⟩
  · have Hm : Hid (c.num n = n) := Lib.hid (by unfold Cfg.num; rw [hm]; rfl)
    have He : Hid (c.err = 0) := Lib.hid (by unfold Cfg.err; rw [hm]; rfl)
    clear hm
    go_enter Try.func101, Try.ntmps101
    go_wp2_with fail
    refine (shape_Check c _).mono ?_
    rintro e1 w1 ⟨rfl, he1⟩
    obtain ⟨hc1, hf1⟩ := bcell he1
    have hz1 := he1.size
    try simp only [World.size_alloc] at hz1
    rw [He.out]
    go_wp2
    go_ret2
    exact ⟨by show _ = Ending.returned (.tuple #[I (c.num n), I c.err]); rw [Hm.out, He.out]; rfl, (by repeat (first | exact Below.refl _ _ | assumption | refine Ext.alloc ?_ _ | refine Ext.drew ?_ | refine Ext.trans ?_ (by assumption)))⟩

set_option maxRecDepth 100000 in
set_option maxHeartbeats 400000 in
theorem shape_Stripes (c : Cfg) (w : World) :
    Calls Try.prog 90 #[c.v] w fun e w' => e = .returned (c.tell (wrap64 (c.chunk * c.rows))) ∧ Ext w w' := by
  go_enter Try.func90, Try.ntmps90
  go_wp2_with fail
  refine (shape_told c _ _).mono ?_
  rintro e1 w1 ⟨rfl, he1⟩
  obtain ⟨hc1, hf1⟩ := bcell he1
  have hz1 := he1.size
  try simp only [World.size_alloc] at hz1
  go_wp2
  go_ret2
  exact ⟨rfl, (by repeat (first | exact Below.refl _ _ | assumption | refine Ext.alloc ?_ _ | refine Ext.drew ?_ | refine Ext.trans ?_ (by assumption)))⟩

set_option maxRecDepth 100000 in
set_option maxHeartbeats 400000 in
theorem shape_Journal (c : Cfg) (w : World) :
    Calls Try.prog 106 #[c.v] w fun e w' => e = .returned (c.tell (wrap64 (c.log + 1))) ∧ Ext w w' := by
  go_enter Try.func106, Try.ntmps106
  go_wp2_with fail
  refine (shape_told c _ _).mono ?_
  rintro e1 w1 ⟨rfl, he1⟩
  obtain ⟨hc1, hf1⟩ := bcell he1
  have hz1 := he1.size
  try simp only [World.size_alloc] at hz1
  go_wp2
  go_ret2
  exact ⟨rfl, (by repeat (first | exact Below.refl _ _ | assumption | refine Ext.alloc ?_ _ | refine Ext.drew ?_ | refine Ext.trans ?_ (by assumption)))⟩

set_option maxRecDepth 100000 in
set_option maxHeartbeats 400000 in
theorem shape_Need (c : Cfg) (w : World) :
    Calls Try.prog 44 #[c.v] w fun e w' => e = .returned (c.tell (wrap64 (c.members + 1))) ∧ Ext w w' := by
  go_enter Try.func44, Try.ntmps44
  go_wp2_with fail
  refine (shape_told c _ _).mono ?_
  rintro e1 w1 ⟨rfl, he1⟩
  obtain ⟨hc1, hf1⟩ := bcell he1
  have hz1 := he1.size
  try simp only [World.size_alloc] at hz1
  go_wp2
  go_ret2
  exact ⟨rfl, (by repeat (first | exact Below.refl _ _ | assumption | refine Ext.alloc ?_ _ | refine Ext.drew ?_ | refine Ext.trans ?_ (by assumption)))⟩

set_option maxRecDepth 100000 in
set_option maxHeartbeats 400000 in
theorem shape_Member (c : Cfg) (w : World) :
    Calls Try.prog 105 #[c.v] w fun e w' => e = .returned (c.tell (wrap64 (wrap64 (c.chunk * c.rows) + 1))) ∧ Ext w w' := by
  go_enter Try.func105, Try.ntmps105
  go_wp2_with fail
  refine (shape_told c _ _).mono ?_
  rintro e1 w1 ⟨rfl, he1⟩
  obtain ⟨hc1, hf1⟩ := bcell he1
  have hz1 := he1.size
  try simp only [World.size_alloc] at hz1
  go_wp2
  go_ret2
  exact ⟨rfl, (by repeat (first | exact Below.refl _ _ | assumption | refine Ext.alloc ?_ _ | refine Ext.drew ?_ | refine Ext.trans ?_ (by assumption)))⟩

end Go.Proofs.Ytancfgmaejjooaa
