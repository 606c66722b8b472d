/- The kernel: from tick to tick; which sets it may have. -/
import Derived.Test.YtniejidekflmiaaGreatDoorProg
import Derived.Test.YtniejidekflmiaaGreatDoorBase
import Derived.Test.YtniejidekflmiaaGreatDoorHeldX
import Derived.Test.YtniejidekflmiaaGreatDoorApp
import Derived.Test.YtniejidekflmiaaGreatDoorExt0
import Derived.Test.YtniejidekflmiaaGreatDoorChg
import Derived.Test.YtniejidekflmiaaGreatDoorRowB
import Derived.Test.YtniejidekflmiaaGreatDoorKM
import Derived.Test.YtniejidekflmiaaGreatDoorKP1
import Derived.Test.YtniejidekflmiaaGreatDoorOpenI
import Derived.Test.YtniejidekflmiaaGreatDoorTskP
import Derived.Test.YtniejidekflmiaaGreatDoorTskA
import Derived.Test.YtniejidekflmiaaGreatDoorTsk3
import Derived.Test.YtniejidekflmiaaGreatDoorSetO
import Derived.Test.YtniejidekflmiaaGreatDoorKat
import Derived.Test.YtniejidekflmiaaGreatDoorKtur
import Derived.Test.YtniejidekflmiaaGreatDoorKrun
import Derived.Lib.Hide
import Derived.OwnWalk
namespace Go.Proofs.YtniejidekflmiaaGreatDoor
open Go.RowKit
set_option linter.unusedSimpArgs false
set_option linter.unusedVariables false
set_option maxRecDepth 100000

theorem okL_each' : ∀ (ts : List Tsk) (i : Nat) (seen : List (List UInt8)), okL ts i seen = true → ∀ k (h : k < ts.length), isB ts[k] (i + k : Nat) = true
  | [], _, _, _, k, h => by simp at h
  | t :: ts, i, seen, ho, k, h => by
    simp only [okL, Bool.and_eq_true] at ho
    cases k with
    | zero => exact ho.1
    | succ k =>
      have := okL_each' ts (i + 1) _ ho.2.2 k (by simpa using h)
      rw [show i + 1 + k = i + (k + 1) by omega] at this
      simpa using this
theorem u64_of' {x : Int} (h : (Lit.int .u64 x).wf = true) : 0 ≤ x ∧ x < 18446744073709551616 := by
  have h' : (decide ((0 : Int) ≤ x) && decide (x ≤ 18446744073709551615)) = true := h
  simp only [Bool.and_eq_true, decide_eq_true_eq] at h'
  omega
/-- a set that a kernel may be of: more than KH -/
structure KH2 (s : TSet) : Prop where
  kh : KH s
  u : ∀ i, i < s.tasks.length → 0 ≤ (s.tk i).ucb ∧ 0 ≤ (s.tk i).ecb
  q : ∀ i, i < s.tasks.length → 0 ≤ (s.tk i).q ∧ (s.tk i).q ≤ 10000
theorem tk_in (s : TSet) {k : Nat} (h : k < s.tasks.length) : s.tk k = s.tasks[k] := by
  unfold TSet.tk
  exact getD_at h _
theorem kh_of {s : TSet} (h : allB s = true) (hf : s.fit) : KH2 s := by
  simp only [allB, Bool.and_eq_true, decide_eq_true_eq] at h
  obtain ⟨⟨h1, h2⟩, h3, h4, h5⟩ := h
  have hE : ∀ k (hk : k < s.tasks.length), isB s.tasks[k] k = true := fun k hk => by
    have := okL_each' s.tasks 0 [] h5 k hk
    rwa [Nat.zero_add] at this
  have hB : ∀ k (hk : k < s.tasks.length), (0 ≤ (s.tasks[k]).ucb ∧ (s.tasks[k]).ucb < 18446744073709551616) ∧ 0 ≤ (s.tasks[k]).ecb ∧ (s.tasks[k]).ecb < 18446744073709551616 := fun k hk => by
    obtain ⟨_, _, hk⟩ := hf.2.2 _ (List.getElem_mem hk)
    obtain ⟨_, _, _, _, _, h6, h7, _⟩ := hk
    exact ⟨u64_of' h7, u64_of' h6⟩
  have hF : ∀ k (hk : k < s.tasks.length), (regsB (s.tasks[k]).regs = true ∧ workL (s.tasks[k]).regs ≤ (s.tasks[k]).D) ∧ ((s.tasks[k]).D ≤ (s.tasks[k]).T ∧ (s.tasks[k]).T ≤ 10000) ∧ modeB s.tasks[k] k = true := fun k hk => by
    have := hE k hk
    simp only [isB, Bool.and_eq_true, decide_eq_true_eq] at this
    obtain ⟨_, h1, h2, h3, ⟨_, h4⟩, h5, _⟩ := this
    exact ⟨⟨h1, h2⟩, ⟨h3, h4⟩, h5⟩
  have hM : ∀ k (hk : k < s.tasks.length), ((s.tasks[k]).mode = 0 ∧ (s.tasks[k]).q = 0) ∨ ((s.tasks[k]).mode = 1 ∧ 0 ≤ (s.tasks[k]).q ∧ (s.tasks[k]).q ≤ 10000) ∨ ((s.tasks[k]).mode = 2 ∧ (s.tasks[k]).q = 0 ∧ 0 ≤ (s.tasks[k]).theta ∧ (s.tasks[k]).theta ≤ k) := fun k hk => by
    have h := (hF k hk).2.2
    unfold modeB at h
    generalize s.tasks[k] = t at h
    by_cases m0 : t.mode = 0
    · simp [m0] at h; exact .inl ⟨m0, h.1⟩
    · by_cases m1 : t.mode = 1
      · simp [m1] at h; exact .inr (.inl ⟨m1, h.1.1, h.1.2⟩)
      · by_cases m2 : t.mode = 2
        · simp [m2] at h; exact .inr (.inr ⟨m2, h.1, h.2.1, h.2.2⟩)
        · rw [show (t.mode == 0) = false by simpa using m0, show (t.mode == 1) = false by simpa using m1, show (t.mode == 2) = false by simpa using m2] at h
          cases h
  refine ⟨⟨⟨h3, h4⟩, ⟨h1, h2⟩, fun i hi => ?_, fun i hi => ?_, fun i hi => ?_, fun i hi => ?_⟩, fun i hi => ?_, fun i hi => ?_⟩
  · rw [tk_in s hi]
    have h := (hF i hi).1.1
    simp only [regsB, Bool.and_eq_true, decide_eq_true_eq, List.all_eq_true] at h
    refine ⟨h.1, h.2.1, fun r hr => ?_⟩
    have := h.2.2 r hr
    simp only [regB, Bool.and_eq_true, decide_eq_true_eq] at this
    omega
  · rw [tk_in s hi]
    have h := hF i hi
    have hw := (work_pos h.1.1).1
    omega
  · rw [tk_in s hi]
    rcases hM i hi with h | h | h
    · exact .inl h.1
    · exact .inr (.inl h)
    · exact .inr (.inr ⟨h.1, h.2.2⟩)
  · rw [tk_in s hi]
    have := hB i hi
    omega
  · rw [tk_in s hi]
    have := hB i hi
    omega
  · rw [tk_in s hi]
    rcases hM i hi with h | h | h <;> omega
/-- who ran last, behind a tick -/
theorem runsK_link (s : TSet) (k : KS) (m touch : Nat) (hl : k.last = m) (hm : m < k.tab.length) (hst : (stAt k.tab m).start = true) :
    (runsK s k m touch).last = if (stAt (runsK s k m touch).tab m).start = true then (m : Int) else -1 := by
  unfold runsK
  dsimp only
  split
  · dsimp only
    rw [stAt_set hm, if_pos rfl, if_pos hst]
    exact hl
  · have ez : stAt (k.tab.set m St.zero) m = St.zero := by rw [stAt_set hm, if_pos rfl]
    have em : ∀ x : St, stAt (k.tab.set m x) m = x := fun x => by rw [stAt_set hm, if_pos rfl]
    have zz : (-1 : Int) = if (stAt (k.tab.set m St.zero) m).start = true then (m : Int) else -1 := by rw [ez]; rfl
    have mm : ∀ b, k.last = if (stAt (k.tab.set m { stAt k.tab m with mid := b }) m).start = true then (m : Int) else -1 := fun b => by
      rw [em]; dsimp only; rw [if_pos hst]; exact hl
    split
    · split
      · exact zz
      · exact zz
    · split
      · split
        · exact zz
        · exact zz
      · split
        · exact mm _
        · exact mm _
structure RunOk (s : TSet) (k : KS) : Prop where
  link : Link k
  lo : -1 ≤ k.ran
  hi : k.ran < s.tasks.length
theorem RunOk.init (s : TSet) : RunOk s (initK s) := by
  refine ⟨?_, Int.le_refl _, ?_⟩
  · unfold Link
    rw [if_neg (fun h => by have := h.1; unfold initK at this; dsimp only at this; omega)]
    rfl
  · show (-1 : Int) < _
    omega
theorem RunOk.step {s : TSet} (hs : KH s) {P : List Ev} {k : KS} (hI : KInv s P k) (h : RunOk s k) (x : Inp) : RunOk s (stepK s k x) := by
  have h1 := (hI.lb.late).arrive hs x
  have hk1 := Link.late (s := s) (show Link { k with evs := [] } from h.link)
  have hk2 := Link.arrive hs hI.lb.late hk1.1 (by rw [hk1.2]; exact h.hi) x
  unfold stepK
  dsimp only
  generalize arriveK s x (lateK s { k with evs := [] }) = k1 at h1 hk2
  rcases Int.lt_or_le (chooseS s k1.tab k1.last k1.t) 0 with hneg | hpos
  · have hc : chooseS s k1.tab k1.last k1.t = -1 ∧ k1.last = -1 := by
      rcases choose_spec s k1.tab k1.last k1.t with ⟨h4, h5⟩ | ⟨_, h5, h6⟩ | ⟨_, m, h5, _⟩
      · rw [h5] at hneg
        unfold heldS at h4
        rw [decide_eq_false (by omega)] at h4
        cases h4
      · refine ⟨h5, ?_⟩
        rcases h1.inv.curs with hl | ⟨a, b, c, _⟩
        · exact hl
        · rw [h6 _ (by rw [h1.inv.lt]; omega)] at c; cases c
      · omega
    rw [if_pos hc.1]
    refine ⟨?_, by show -1 ≤ chooseS _ _ _ _; omega, by show chooseS _ _ _ _ < _; omega⟩
    exact hc.2.trans (if_neg (fun h => by have h2 : (0 : Int) ≤ chooseS s k1.tab k1.last k1.t := h.1; omega)).symm
  · obtain ⟨m, hm⟩ := Int.eq_ofNat_of_zero_le hpos
    rw [hm, if_neg (by omega), Int.toNat_natCast]
    obtain ⟨a1, a2, a3, a4, a5, a6, a7, a8, a9⟩ := h1.turn hs hm
    refine ⟨?_, by show -1 ≤ (m : Int); omega, by show (m : Int) < _; omega⟩
    have := runsK_link s { turnK s k1 m with last := (m : Int) } m x.touch rfl (by show m < (turnK s k1 m).tab.length; rw [a1.lt]; exact a5) a7
    unfold Link
    dsimp only
    rw [Int.toNat_natCast, this]
    have h0 : (0 : Int) ≤ m := by omega
    simp only [h0, true_and]
/-- how many events a run has, at most -/
theorem runK_append (s : TSet) : ∀ (l : List Inp) (x : Inp) (k : KS), runK s (l ++ [x]) k = ((runK s l k).1 ++ (stepK s (runK s l k).2 x).evs, stepK s (runK s l k).2 x)
  | [], x, k => by simp [runK]
  | y :: l, x, k => by
    have := runK_append s l x (stepK s k y)
    simp only [List.cons_append, runK, this, List.append_assoc]
theorem fold_len (f : KS → Nat → KS) (hf : ∀ k i, (f k i).evs.length ≤ k.evs.length + 1) : ∀ (l : List Nat) (k : KS), (l.foldl f k).evs.length ≤ k.evs.length + l.length
  | [], k => by simp
  | i :: l, k => by
    have h1 := fold_len f hf l (f k i)
    have h2 := hf k i
    rw [List.foldl_cons, List.length_cons]
    omega
theorem tell_len (k : KS) (a b c : Int) : (k.tell a b c).evs.length = k.evs.length + 1 := by simp [KS.tell]
theorem late1_len (s : TSet) (k : KS) (i : Nat) : (late1 s k i).evs.length ≤ k.evs.length + 1 := by
  unfold late1
  split
  · rw [tell_len]; exact Nat.le_refl _
  · omega
theorem arrive1_len (s : TSet) (x : Inp) (k : KS) (i : Nat) : (arrive1 s x k i).evs.length ≤ k.evs.length + 1 := by
  unfold arrive1
  split
  · omega
  · split
    · rw [tell_len]; exact Nat.le_refl _
    · split
      · rw [tell_len]; exact Nat.le_refl _
      · unfold admitK
        rw [tell_len]; exact Nat.le_refl _
theorem runsC_len (k : KS) (m : Nat) : (runsC k m).evs.length ≤ k.evs.length + 2 := by
  unfold runsC
  dsimp only
  split
  · dsimp only; omega
  · split <;> split <;> first | (simp only [tell_len]; done) | (simp only [tell_len]; omega) | (split <;> first | (simp only [tell_len]; done) | (simp only [tell_len]; omega) | (dsimp only; omega))
theorem stepK_few {s : TSet} (hs : s.tasks.length ≤ 8) (k : KS) (x : Inp) : (stepK s k x).evs.length ≤ 100 := by
  have h1 : (lateK s { k with evs := [] }).evs.length ≤ 8 := by
    have := fold_len (late1 s) (late1_len s) (List.range s.tasks.length) { k with evs := [] }
    unfold lateK
    simp only [List.length_nil, List.length_range] at this
    omega
  have h2 : (arriveK s x (lateK s { k with evs := [] })).evs.length ≤ 16 := by
    have := fold_len (arrive1 s x) (arrive1_len s x) (List.range s.tasks.length) (lateK s { k with evs := [] })
    unfold arriveK
    rw [List.length_range] at this
    omega
  unfold stepK
  dsimp only
  generalize arriveK s x (lateK s { k with evs := [] }) = k1 at h2
  split
  · show (k1.tell _ _ _).evs.length ≤ _
    rw [tell_len]
    omega
  · show (runsK s _ _ _).evs.length ≤ _
    have h3 := turnK_evs s k1 (chooseS s k1.tab k1.last k1.t).toNat
    refine Nat.le_trans (runsC_len _ _) ?_
    show (turnK s k1 _).evs.length + 2 ≤ _
    omega
theorem runK_few {s : TSet} (hs : s.tasks.length ≤ 8) : ∀ (l : List Inp) (k : KS), (runK s l k).1.length ≤ 100 * l.length
  | [], k => by simp [runK]
  | x :: l, k => by
    have h1 := runK_few hs l (stepK s k x)
    have h2 := stepK_few hs k x
    simp only [runK, List.length_append, List.length_cons]
    omega
/-- the state behind the first ticks -/
structure RunAt (s : TSet) (l : List Inp) (m : Nat) (k : KS) (P : List Ev) : Prop where
  inv : KInv s P k
  ok : RunOk s k
  t : k.t = m
  eq : runK s (l.take m) (initK s) = (P, k)
theorem RunAt.zero {s : TSet} (hs : KH s) (l : List Inp) : RunAt s l 0 (initK s) [] := ⟨KInv.init hs, RunOk.init s, rfl, rfl⟩
theorem RunAt.next {s : TSet} (hs : KH s) {l : List Inp} {m : Nat} {k : KS} {P : List Ev} (h : RunAt s l m k P) (hm : m < l.length) : RunAt s l (m + 1) (stepK s k l[m]) (P ++ (stepK s k l[m]).evs) := by
  have h1 := h.inv.step hs l[m]
  refine ⟨h1.1, h.ok.step hs h.inv _, by rw [h1.2, h.t]; push_cast; rfl, ?_⟩
  rw [List.take_succ_eq_append_getElem hm, runK_append, h.eq]
theorem RunAt.few {s : TSet} (hs : KH s) {l : List Inp} {m : Nat} {k : KS} {P : List Ev} (h : RunAt s l m k P) : P.length ≤ 100 * l.length := by
  have h1 := runK_few hs.len.2 (l.take m) (initK s)
  rw [h.eq, List.length_take] at h1
  have := Nat.min_le_right m l.length
  dsimp only at h1
  omega
theorem RunAt.all {s : TSet} {l : List Inp} {k : KS} {P : List Ev} (h : RunAt s l l.length k P) : eventsK s l = P := by
  have := h.eq
  rw [List.take_length] at this
  unfold eventsK
  rw [this]
end Go.Proofs.YtniejidekflmiaaGreatDoor
