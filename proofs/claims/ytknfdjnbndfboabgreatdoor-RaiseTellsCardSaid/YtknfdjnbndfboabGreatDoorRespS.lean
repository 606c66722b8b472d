/- What the tasks of a set bring: loads, blocking, bounds. -/
import Derived.Test.YtknfdjnbndfboabGreatDoorProg
import Derived.Test.YtknfdjnbndfboabGreatDoorBase
import Derived.Test.YtknfdjnbndfboabGreatDoorHeldX
import Derived.Test.YtknfdjnbndfboabGreatDoorTsk1
import Derived.Test.YtknfdjnbndfboabGreatDoorTsk3
import Derived.Test.YtknfdjnbndfboabGreatDoorTsk4
import Derived.Test.YtknfdjnbndfboabGreatDoorTskZ
import Derived.Test.YtknfdjnbndfboabGreatDoorTskA
import Derived.Test.YtknfdjnbndfboabGreatDoorTskO
import Derived.Test.YtknfdjnbndfboabGreatDoorSetO
import Derived.Test.YtknfdjnbndfboabGreatDoorNumP
import Derived.Test.YtknfdjnbndfboabGreatDoorLoadW
import Derived.Test.YtknfdjnbndfboabGreatDoorBit
import Derived.Test.YtknfdjnbndfboabGreatDoorAgain
import Derived.Lib.Hide
namespace Go.Proofs.YtknfdjnbndfboabGreatDoor
open Go.RowKit
attribute [local irreducible] popN

theorem okL_each : ∀ (ts : List Tsk) (i : Nat) (seen : List (List UInt8)), okL ts i seen = true → ∀ k (h : k < ts.length), isB ts[k] (i + k : Nat) = true
  | [], _, _, _, k, h => by simp at h
  | t :: ts, i, seen, ho, k, h => by
    simp only [okL, Bool.and_eq_true] at ho
    cases k with
    | zero => exact ho.1
    | succ k =>
      have := okL_each ts (i + 1) _ ho.2.2 k (by simpa using h)
      rw [show i + 1 + k = i + (k + 1) by omega] at this
      simpa using this
/-- a set as it may be -/
structure Fine (s : TSet) : Prop where
  len : 1 ≤ s.tasks.length ∧ s.tasks.length ≤ 8
  reload : 0 ≤ s.reload ∧ s.reload ≤ 10000
  is : ∀ k (h : k < s.tasks.length), isB s.tasks[k] k = true
  bits : ∀ t ∈ s.tasks, (0 ≤ t.ucb ∧ t.ucb < 18446744073709551616) ∧ 0 ≤ t.ecb ∧ t.ecb < 18446744073709551616
theorem u64_of {x : Int} (h : (Lit.int .u64 x).wf = true) : 0 ≤ x ∧ x < 18446744073709551616 := by
  have h' : (decide ((0 : Int) ≤ x) && decide (x ≤ 18446744073709551615)) = true := h
  simp only [Bool.and_eq_true, decide_eq_true_eq] at h'
  omega
theorem fine_of {s : TSet} (h : allB s = true) (hf : s.fit) : Fine s := by
  simp only [allB, Bool.and_eq_true, decide_eq_true_eq] at h
  obtain ⟨⟨h1, h2⟩, h3, h4, h5⟩ := h
  refine ⟨⟨h3, h4⟩, ⟨h1, h2⟩, fun k hk => ?_, fun t ht => ?_⟩
  · have := okL_each s.tasks 0 [] h5 k hk
    rwa [Nat.zero_add] at this
  · obtain ⟨_, _, hk⟩ := hf.2.2 t ht
    obtain ⟨_, _, _, _, _, h6, h7, _⟩ := hk
    exact ⟨u64_of h7, u64_of h6⟩
theorem Fine.plain {s : TSet} (h : Fine s) : Plain s := ⟨h.reload, fun t ht => (h.bits t ht).1, fun t ht => (h.bits t ht).2⟩
structure FineT (t : Tsk) (k : Nat) : Prop where
  work : 1 ≤ workL t.regs ∧ workL t.regs ≤ t.D
  time : t.D ≤ t.T ∧ t.T ≤ 10000
  regs : regsB t.regs = true
  mode : modeB t k = true
theorem Fine.at {s : TSet} (h : Fine s) (k : Nat) (hk : k < s.tasks.length) : FineT s.tasks[k] k := by
  have := h.is k hk
  simp only [isB, Bool.and_eq_true, decide_eq_true_eq] at this
  obtain ⟨_, h1, h2, h3, ⟨_, h4⟩, h5, _⟩ := this
  exact ⟨⟨(work_pos h1).1, h2⟩, ⟨h3, h4⟩, h1, h5⟩

/-- what task k brings -/
def loadAt (s : TSet) (k : Nat) : Ld := if h : k < s.tasks.length then (s.tasks[k].T, workL s.tasks[k].regs + madeN s k h) else (1, 0)
def loadsS (s : TSet) (i : Nat) : List Ld := (List.range i).map (loadAt s)
theorem loadsS_zero (s : TSet) : loadsS s 0 = [] := rfl
theorem loadsS_succ (s : TSet) (i : Nat) : loadsS s (i + 1) = loadsS s i ++ [loadAt s i] := by
  unfold loadsS
  rw [List.range_succ, List.map_append]
  rfl
theorem loadsS_len (s : TSet) (i : Nat) : (loadsS s i).length = i := by unfold loadsS; simp
theorem loadAt_in (s : TSet) {k : Nat} (h : k < s.tasks.length) : loadAt s k = (s.tasks[k].T, workL s.tasks[k].regs + madeN s k h) := by unfold loadAt; rw [dif_pos h]
theorem loadAt_ok {s : TSet} (hs : Fine s) (k : Nat) : (1 ≤ (loadAt s k).1 ∧ (loadAt s k).1 ≤ 1000000) ∧ 0 ≤ (loadAt s k).2 ∧ (loadAt s k).2 ≤ 1000000 := by
  by_cases h : k < s.tasks.length
  · rw [loadAt_in s h]
    have h1 := hs.at k h
    have h2 := (madeN_eq s k h hs.reload).2
    have h3 := h1.work
    have h4 := h1.time
    dsimp only
    omega
  · unfold loadAt
    rw [dif_neg h]
    simp
theorem loads_ok {s : TSet} (hs : Fine s) {i : Nat} (hi : i ≤ s.tasks.length) : LdsOk (loadsS s i) := by
  refine ⟨by rw [loadsS_len]; have := hs.len; omega, fun p hp => ?_⟩
  unfold loadsS at hp
  obtain ⟨k, _, rfl⟩ := List.mem_map.1 hp
  exact loadAt_ok hs k
/-- the bound of task i with so much blocking, and how it is -/
def withS (s : TSet) (i : Nat) (b : Int) : Int × Int := if h : i < s.tasks.length then withL s.tasks[i].T (workL s.tasks[i].regs) s.tasks[i].D b (loadsS s i) else (0, 3)
theorem withS_in (s : TSet) {i : Nat} (h : i < s.tasks.length) (b : Int) : withS s i b = withL s.tasks[i].T (workL s.tasks[i].regs) s.tasks[i].D b (loadsS s i) := by unfold withS; rw [dif_pos h]

/-- what loads again for task t of itself -/
def ownZ (s : TSet) (t : Tsk) : Int := s.reload * popN 64 t.ucb.toNat
def wholeZ (s : TSet) (t : Tsk) : Int := workL t.regs + ownZ s t - 1
/-- the greatest, or 0 -/
def maxR (xs : List Int) : Int := xs.foldl max 0
def blockAt (s : TSet) (t : Tsk) (high : Int) : Int :=
  if t.mode = 0 then maxR t.regs + ownZ s t - 1
  else if t.mode = 1 then min t.q (wholeZ s t)
  else if t.theta ≤ high then wholeZ s t else 0
/-- how long task low stands in a higher one's way -/
def blockOf (s : TSet) (low : Nat) (high : Nat) : Int := if h : high < low ∧ low < s.tasks.length then blockAt s (s.tasks[low]'h.2) high else 0
/-- how long any of the first n does -/
def mostL (s : TSet) (i : Nat) : Nat → Int
  | 0 => 0
  | n + 1 => max (mostL s i n) (blockOf s n i)
def mostS (s : TSet) (i : Nat) : Int := mostL s i s.tasks.length
theorem mostL_low (s : TSet) (i : Nat) : ∀ n, n ≤ i + 1 → mostL s i n = 0
  | 0, _ => rfl
  | n + 1, h => by
    show max (mostL s i n) (blockOf s n i) = 0
    rw [mostL_low s i n (by omega)]
    unfold blockOf
    rw [dif_neg (by omega)]
    rfl
theorem own_range {s : TSet} (hs : Fine s) (t : Tsk) : 0 ≤ ownZ s t ∧ ownZ s t ≤ 640000 := by
  unfold ownZ
  have h1 : popN 64 t.ucb.toNat ≤ 64 := popN_le _
  have h2 := hs.reload
  have h3 := Int.mul_nonneg h2.1 (show 0 ≤ ((popN 64 t.ucb.toNat : Nat) : Int) by omega)
  have h4 := Int.mul_le_mul h2.2 (show ((popN 64 t.ucb.toNat : Nat) : Int) ≤ 64 by omega) (by omega) (by omega)
  omega
theorem foldl_max (xs : List Int) (a : Int) : a ≤ xs.foldl max a ∧ (∀ x ∈ xs, x ≤ xs.foldl max a) ∧ (xs.foldl max a = a ∨ xs.foldl max a ∈ xs) := by
  induction xs generalizing a with
  | nil => exact ⟨Int.le_refl _, fun x hx => by simp at hx, .inl rfl⟩
  | cons x xs ih =>
    obtain ⟨h1, h2, h3⟩ := ih (max a x)
    simp only [List.foldl_cons, List.mem_cons]
    refine ⟨by omega, fun y hy => ?_, ?_⟩
    · rcases hy with rfl | hy
      · omega
      · exact h2 y hy
    · rcases h3 with h3 | h3
      · rw [h3]
        by_cases hax : x ≤ a
        · left; omega
        · right; left; omega
      · exact .inr (.inr h3)
theorem regs_each {xs : List Int} (h : regsB xs = true) : 1 ≤ xs.length ∧ xs.length ≤ 8 ∧ ∀ x ∈ xs, 1 ≤ x ∧ x ≤ 10000 := by
  simp only [regsB, Bool.and_eq_true, decide_eq_true_eq, List.all_eq_true, regB] at h
  exact ⟨h.1, h.2.1, h.2.2⟩
theorem maxR_range {xs : List Int} (h : regsB xs = true) : 1 ≤ maxR xs ∧ maxR xs ≤ 10000 := by
  obtain ⟨h1, _, h2⟩ := regs_each h
  obtain ⟨a, b, c⟩ := foldl_max xs 0
  unfold maxR
  have h3 : ∃ x, x ∈ xs := ⟨xs[0], List.getElem_mem (by omega)⟩
  obtain ⟨x, hx⟩ := h3
  have := b x hx
  have := (h2 x hx).1
  rcases c with c | c
  · omega
  · have := (h2 _ c).2
    omega
theorem whole_range {s : TSet} (hs : Fine s) {k : Nat} (hk : k < s.tasks.length) : 0 ≤ wholeZ s s.tasks[k] ∧ wholeZ s s.tasks[k] ≤ 650000 := by
  have h1 := (hs.at k hk).work
  have h2 := (hs.at k hk).time
  have h3 := own_range hs s.tasks[k]
  unfold wholeZ
  omega
theorem blockOf_range {s : TSet} (hs : Fine s) (low high : Nat) : 0 ≤ blockOf s low high ∧ blockOf s low high ≤ 650000 := by
  unfold blockOf
  split
  · rename_i h
    have hw := whole_range hs h.2
    have hf := hs.at low h.2
    have ho := own_range hs (s.tasks[low]'h.2)
    have hm := maxR_range hf.regs
    have hmo := hf.mode
    unfold blockAt
    split
    · omega
    · split
      · rename_i h0 h1
        unfold modeB at hmo
        rw [h1] at hmo
        simp at hmo
        omega
      · split <;> omega
  · omega
theorem mostL_range {s : TSet} (hs : Fine s) (i n : Nat) : 0 ≤ mostL s i n ∧ mostL s i n ≤ 650000 := by
  induction n with
  | zero => exact ⟨Int.le_refl _, by show (0 : Int) ≤ _; omega⟩
  | succ n ih =>
    have := blockOf_range hs n i
    show 0 ≤ max (mostL s i n) (blockOf s n i) ∧ max (mostL s i n) (blockOf s n i) ≤ 650000
    omega
end Go.Proofs.YtknfdjnbndfboabGreatDoor
