/- When a set whose tasks are interrupted otherwise is accepted: plain. -/
import Derived.Test.YtknfdjnbndfboabGreatDoorProg
import Derived.Test.YtknfdjnbndfboabGreatDoorBase
import Derived.Test.YtknfdjnbndfboabGreatDoorNumP
import Derived.Test.YtknfdjnbndfboabGreatDoorTsk1
import Derived.Test.YtknfdjnbndfboabGreatDoorTsk3
import Derived.Test.YtknfdjnbndfboabGreatDoorTsk4
import Derived.Test.YtknfdjnbndfboabGreatDoorTskZ
import Derived.Test.YtknfdjnbndfboabGreatDoorTskA
import Derived.Test.YtknfdjnbndfboabGreatDoorTskO
import Derived.Test.YtknfdjnbndfboabGreatDoorSetO
import Derived.Test.YtknfdjnbndfboabGreatDoorRespS
import Derived.Test.YtknfdjnbndfboabGreatDoorResp
import Derived.Test.YtknfdjnbndfboabGreatDoorTolA
import Derived.Test.YtknfdjnbndfboabGreatDoorTolP
import Derived.Test.YtknfdjnbndfboabGreatDoorSprO
import Derived.Test.YtknfdjnbndfboabGreatDoorSprP
import Derived.Lib.Hide
namespace Go.Proofs.YtknfdjnbndfboabGreatDoor
open Go.RowKit
attribute [local irreducible] popN

theorem tolL_at (s : TSet) : ∀ (n : Nat) (bs : List Int), tolL s n = some bs → ∀ i (h : i < bs.length), tolO s i = some bs[i]
  | 0, bs, h, i, hi => by cases h; simp at hi
  | n + 1, bs, h, i, hi => by
    unfold tolL at h
    split at h
    · rename_i l b h1 h2
      cases h
      have hl := tolL_len s n l h1
      rw [List.length_append, List.length_singleton] at hi
      by_cases hin : i < l.length
      · rw [List.getElem_append_left hin]
        exact tolL_at s n l h1 i hin
      · have hie : i = l.length := by omega
        subst hie
        rw [List.getElem_append_right (by omega)]
        simp only [Nat.sub_self, List.getElem_cons_zero]
        rw [hl]
        exact h2
    · cases h
theorem tolO_val2 {s : TSet} {i : Nat} {b : Int} (h : tolO s i = some b) : b = (tolN s i : Int) - 1 ∧ 1 ≤ tolN s i := by
  unfold tolO at h
  by_cases h0 : tolN s i = 0
  · rw [if_pos h0] at h; cases h
  · rw [if_neg h0] at h
    have := Option.some.inj h
    exact ⟨this.symm, by omega⟩
theorem mostL_le {s : TSet} {i : Nat} {m : Int} (hm : 0 ≤ m) : ∀ n, mostL s i n ≤ m ↔ ∀ low < n, blockOf s low i ≤ m
  | 0 => ⟨fun _ low h => by omega, fun _ => hm⟩
  | n + 1 => by
    have ih := mostL_le (s := s) (i := i) hm n
    show max (mostL s i n) (blockOf s n i) ≤ m ↔ _
    constructor
    · intro h low hl
      by_cases hln : low = n
      · subst hln; omega
      · exact ih.1 (by omega) low (by omega)
    · intro h
      have h1 := ih.2 (fun low hl => h low (by omega))
      have h2 := h n (by omega)
      omega
/-- a set alike s, but for modes, Q, thresholds: it is accepted just if no lower task stands longer in one's way than that one bears -/
theorem judge_alike {x s : TSet} (hl : Leaner x s) (hw : ∀ j (h : j < s.tasks.length) (h' : j < x.tasks.length), workL x.tasks[j].regs = workL s.tasks[j].regs) (hx : Fine x) (hs : Fine s) {bs : List Int} (hb : tolL s s.tasks.length = some bs) :
    (judgeS x).how = 1 ↔ ∀ i (hi : i < bs.length), ∀ low, i < low → low < s.tasks.length → blockOf x low i ≤ bs[i] := by
  have hbl := tolL_len s _ _ hb
  unfold judgeS
  rw [judgeN_acc, hl.len]
  have one : ∀ i (hi : i < bs.length), ((respS x i).2 = 1 ↔ ∀ low, i < low → low < s.tasks.length → blockOf x low i ≤ bs[i]) := fun i hi => by
    have hi2 : i < s.tasks.length := by omega
    obtain ⟨h1, h2⟩ := tolO_val2 (tolL_at s _ _ hb i hi)
    have hm0 := (mostL_range hx i x.tasks.length).1
    have hm0 : 0 ≤ mostS x i := hm0
    rw [respS_acc]
    have e : accS x i (mostS x i) = true ↔ mostS x i ≤ bs[i] := by
      constructor
      · intro h
        have h3 := (hl.same hw).acc hs hx (by rw [hl.len]; exact hi2) ⟨hm0, Int.le_refl _⟩ h
        have := (tolN_acc hs hi2 hm0).1 h3
        omega
      · intro h
        exact hl.acc hx hs hi2 ⟨hm0, Int.le_refl _⟩ ((tolN_acc hs hi2 hm0).2 (by omega))
    rw [e]
    unfold mostS
    rw [mostL_le (by omega), hl.len]
    constructor
    · intro h low _ h4
      exact h low h4
    · intro h low h4
      by_cases h5 : i < low
      · exact h low h5 h4
      · unfold blockOf
        rw [dif_neg (by omega)]
        omega
  constructor
  · intro h i hi
    exact (one i hi).1 (h i (by omega))
  · intro h j hj
    exact (one j (by omega)).2 (h j (by omega))
theorem zipT_leaner {s : TSet} {f : Tsk → Int → Tsk} (hf : ∀ t q, (f t q).T = t.T ∧ (f t q).D = t.D ∧ (f t q).ecb = t.ecb ∧ (f t q).ucb = t.ucb ∧ (f t q).regs = t.regs) {qs : List Int} (hq : qs.length = s.tasks.length) :
    Leaner (zipT f s qs) s ∧ ∀ j (h : j < s.tasks.length) (h' : j < (zipT f s qs).tasks.length), workL (zipT f s qs).tasks[j].regs = workL s.tasks[j].regs := by
  refine ⟨⟨rfl, zipT_len f s qs hq, fun j h h' => ?_⟩, fun j h h' => ?_⟩
  · rw [zipT_get f s qs j h' h (by omega)]
    obtain ⟨a, b, c, d, e⟩ := hf s.tasks[j] qs[j]
    exact ⟨a, b, c, d, by rw [e]; exact Int.le_refl _⟩
  · rw [zipT_get f s qs j h' h (by omega), (hf _ _).2.2.2.2]
theorem minAt_le (bs : List Int) : ∀ i j, j ≤ i → minAt bs i ≤ bs.getD j 0
  | 0, j, h => by
    obtain rfl : j = 0 := by omega
    exact Int.le_refl _
  | i + 1, j, h => by
    show min (minAt bs i) (bs.getD (i + 1) 0) ≤ _
    by_cases hj : j = i + 1
    · subst hj; omega
    · have := minAt_le bs i j (by omega); omega
theorem minAt_mem (bs : List Int) : ∀ i, ∃ j ≤ i, minAt bs i = bs.getD j 0
  | 0 => ⟨0, Nat.le_refl _, rfl⟩
  | i + 1 => by
    obtain ⟨j, hj, he⟩ := minAt_mem bs i
    by_cases h : minAt bs i ≤ bs.getD (i + 1) 0
    · exact ⟨j, by omega, by rw [← he]; show min (minAt bs i) (bs.getD (i + 1) 0) = _; omega⟩
    · exact ⟨i + 1, Nat.le_refl _, by show min (minAt bs i) (bs.getD (i + 1) 0) = _; omega⟩
/-- what is known of a set that is spread -/
structure Spread (s : TSet) (qs bs : List Int) : Prop where
  fine : Fine s
  all : allB s = true
  bears : tolL s s.tasks.length = some bs
  blen : bs.length = s.tasks.length
  qs : qs = qsL (workH s) bs s.tasks.length
theorem Spread.of {s : TSet} (hf : s.fit) {qs : List Int} (h : spreadQ s = some qs) : ∃ bs, Spread s qs bs := by
  unfold spreadQ at h
  cases ho : tolS s with
  | none => rw [ho] at h; cases h
  | some bs =>
    rw [ho] at h
    obtain ⟨h1, h2, h3⟩ := tolS_some ho
    exact ⟨bs, fine_of h1 hf, h1, h2, h3, (Option.some.inj h).symm⟩
section
variable {s : TSet} {qs bs : List Int}
theorem Spread.qlen (h : Spread s qs bs) : qs.length = s.tasks.length := by rw [h.qs, qsL_len]
theorem Spread.at (h : Spread s qs bs) (i : Nat) (hi : i < qs.length) : qs[i] = qAt (workH s) bs i := by
  have := h.qs
  subst this
  simp [qsL]
theorem Spread.bear (h : Spread s qs bs) (i : Nat) (hi : i < bs.length) : 0 ≤ bs[i] ∧ bs[i] ≤ (s.tasks[i]'(by rw [← h.blen]; exact hi)).D := by
  obtain ⟨h1, h2⟩ := tolO_val2 (tolL_at s _ _ h.bears i hi)
  have hi2 : i < s.tasks.length := by rw [← h.blen]; exact hi
  have h3 := (tolN_spec hi2).1
  have h4 := (h.fine.at i hi2).work
  omega
theorem Spread.qrange (h : Spread s qs bs) (i : Nat) (hi : i < qs.length) : 0 ≤ qs[i] ∧ qs[i] ≤ 10000 := by
  rw [h.at i hi]
  have hq := h.qlen
  cases i with
  | zero =>
    have h1 := h.fine.at 0 (by omega)
    have h2 := h1.work
    have h3 := h1.time
    show 0 ≤ workH s ∧ workH s ≤ 10000
    rw [workH_eq (by omega)]
    omega
  | succ i =>
    show 0 ≤ minAt bs i ∧ minAt bs i ≤ 10000
    obtain ⟨j, hj, he⟩ := minAt_mem bs i
    have hjb : j < bs.length := by rw [h.blen]; omega
    rw [he, getD_at hjb]
    have h1 := h.bear j hjb
    have h2 := (h.fine.at j (by rw [← h.blen]; exact hjb)).time
    omega
theorem Spread.all_x (h : Spread s qs bs) : allB (zipT floatT s qs) = true := by
  have hl := zipT_len floatT s qs h.qlen
  refine allB_of (s := s) rfl hl (fun j h1 h2 => ?_) h.all
  have hjq : j < qs.length := by rw [h.qlen]; exact h1
  rw [zipT_get floatT s qs j h2 h1 hjq]
  refine ⟨rfl, fun hi => ?_⟩
  simp only [isB, Bool.and_eq_true] at hi ⊢
  obtain ⟨a, b, c, d, e, _, g⟩ := hi
  refine ⟨a, b, c, d, e, ?_, g⟩
  have hr := h.qrange j hjq
  have e : modeB (floatT s.tasks[j] qs[j]) j = ((decide (qs[j] ≥ 0) && decide (qs[j] ≤ 10000)) && ((0 : Int) == 0)) := rfl
  rw [e]
  simp
  omega
theorem Spread.fit_x (h : Spread s qs bs) (hf : s.fit) : (zipT floatT s qs).fit := by
  refine ⟨hf.1, by rw [zipT_len floatT s qs h.qlen]; exact hf.2.1, fun t ht => ?_⟩
  obtain ⟨j, hj, rfl⟩ := List.mem_iff_getElem.1 ht
  have hjs : j < s.tasks.length := by rwa [zipT_len floatT s qs h.qlen] at hj
  have hjq : j < qs.length := by rw [h.qlen]; exact hjs
  rw [zipT_get floatT s qs j hj hjs hjq]
  obtain ⟨a, b, c1, c2, c3, c4, c5, c6, c7, c8⟩ := hf.2.2 _ (List.getElem_mem hjs)
  have hr := h.qrange j hjq
  refine ⟨a, b, c1, c2, (show (Lit.int .i64 1).wf = true by decide), ?_, (show (Lit.int .i64 0).wf = true by decide), c6, c7, c8⟩
  show (decide ((-9223372036854775808 : Int) ≤ qs[j]) && decide (qs[j] ≤ 9223372036854775807)) = true
  rw [Bool.and_eq_true, decide_eq_true_eq, decide_eq_true_eq]
  omega
theorem Spread.block (h : Spread s qs bs) (low high : Nat) (hl : high < low) (hs : low < s.tasks.length) : blockOf (zipT floatT s qs) low high = min (qs[low]'(by rw [h.qlen]; exact hs)) (wholeZ s s.tasks[low]) := by
  have hll := zipT_len floatT s qs h.qlen
  unfold blockOf
  rw [dif_pos ⟨hl, by rw [hll]; exact hs⟩, zipT_get floatT s qs low (by rw [hll]; exact hs) hs (by rw [h.qlen]; exact hs)]
  rfl
theorem Spread.q_le (h : Spread s qs bs) (low i : Nat) (hl : i < low) (hs : low < qs.length) (hi : i < bs.length) : qs[low] ≤ bs[i] := by
  rw [h.at low hs]
  obtain ⟨p, rfl⟩ : ∃ p, low = p + 1 := ⟨low - 1, by omega⟩
  have := minAt_le bs p i (by omega)
  rw [getD_at hi] at this
  exact this
theorem Spread.accepted (h : Spread s qs bs) (hf : s.fit) : (judgeS (zipT floatT s qs)).how = 1 := by
  obtain ⟨h1, h2⟩ := zipT_leaner (s := s) (f := floatT) (fun _ _ => ⟨rfl, rfl, rfl, rfl, rfl⟩) h.qlen
  refine (judge_alike h1 h2 (fine_of h.all_x (h.fit_x hf)) h.fine h.bears).2 fun i hi low hl hs => ?_
  rw [h.block low i hl hs]
  have := h.q_le low i hl (by rw [h.qlen]; exact hs) hi
  omega
end
/-- the Q of one task greater by one -/
def moreQ (t : Tsk) : Tsk := modedT t.mode (t.q + 1) t.theta t
theorem zipT_more (s : TSet) (qs : List Int) (hq : qs.length = s.tasks.length) (i : Nat) (hi : i < qs.length) : (zipT floatT s qs).at i moreQ = zipT floatT s (qs.set i (qs[i] + 1)) := by
  refine TSet.ext' rfl (List.ext_getElem ?_ fun j h1 h2 => ?_)
  · rw [TSet.at_len, zipT_len floatT s qs hq, zipT_len floatT s _ (by rw [List.length_set]; exact hq)]
  · have hjs : j < s.tasks.length := by rw [TSet.at_len, zipT_len floatT s qs hq] at h1; exact h1
    rw [TSet.at_get, zipT_get floatT s _ j h2 hjs (by rw [List.length_set]; omega), zipT_get floatT s qs j _ hjs (by omega), List.getElem_set]
    split
    · rename_i e; subst e; rfl
    · rfl
section
variable {s : TSet} {qs bs : List Int}
theorem block_float {s : TSet} {qs : List Int} (hq : qs.length = s.tasks.length) (low high : Nat) (hl : high < low) (hs : low < s.tasks.length) : blockOf (zipT floatT s qs) low high = min (qs[low]'(by rw [hq]; exact hs)) (wholeZ s s.tasks[low]) := by
  have hll := zipT_len floatT s qs hq
  unfold blockOf
  rw [dif_pos ⟨hl, by rw [hll]; exact hs⟩, zipT_get floatT s qs low (by rw [hll]; exact hs) hs (by rw [hq]; exact hs)]
  rfl
/-- with a Q greater by one -/
theorem Spread.more (h : Spread s qs bs) (hf : s.fit) (hD : ∀ t ∈ s.tasks, t.D ≤ 300) (i : Nat) (hi1 : 1 ≤ i) (hi : i < qs.length) :
    allB (zipT floatT s (qs.set i (qs[i] + 1))) = true ∧ (zipT floatT s (qs.set i (qs[i] + 1))).fit ∧ ((judgeS (zipT floatT s (qs.set i (qs[i] + 1)))).how = 1 ↔ wholeZ s (s.tasks[i]'(by rw [← h.qlen]; exact hi)) < qs[i] + 1) := by
  have hql := h.qlen
  have hq' : (qs.set i (qs[i] + 1)).length = s.tasks.length := by rw [List.length_set]; exact hql
  have hqi : 0 ≤ qs[i] ∧ qs[i] ≤ 300 := by
    refine ⟨(h.qrange i hi).1, ?_⟩
    have := h.q_le i 0 (by omega) hi (by rw [h.blen]; omega)
    have h1 := h.bear 0 (by rw [h.blen]; omega)
    have h2 := hD _ (List.getElem_mem (show 0 < s.tasks.length by omega))
    omega
  have hall : allB (zipT floatT s (qs.set i (qs[i] + 1))) = true := by
    refine allB_of (s := s) rfl (zipT_len floatT s _ hq') (fun j h1 h2 => ?_) h.all
    have hjq : j < qs.length := by rw [hql]; exact h1
    rw [zipT_get floatT s _ j h2 h1 (by rw [List.length_set]; exact hjq)]
    refine ⟨rfl, fun hx => ?_⟩
    simp only [isB, Bool.and_eq_true] at hx ⊢
    obtain ⟨a, b, c, d, e, _, g⟩ := hx
    refine ⟨a, b, c, d, e, ?_, g⟩
    have hr : 0 ≤ (qs.set i (qs[i] + 1))[j]'(by rw [List.length_set]; exact hjq) ∧ (qs.set i (qs[i] + 1))[j]'(by rw [List.length_set]; exact hjq) ≤ 10000 := by
      rw [List.getElem_set]
      split
      · omega
      · exact h.qrange j hjq
    generalize (qs.set i (qs[i] + 1))[j]'(by rw [List.length_set]; exact hjq) = z at hr
    have e : modeB (floatT s.tasks[j] z) j = ((decide (z ≥ 0) && decide (z ≤ 10000)) && ((0 : Int) == 0)) := rfl
    rw [e]
    simp
    omega
  have hfx : (zipT floatT s (qs.set i (qs[i] + 1))).fit := by
    refine ⟨hf.1, by rw [zipT_len floatT s _ hq']; exact hf.2.1, fun t ht => ?_⟩
    obtain ⟨j, hj, rfl⟩ := List.mem_iff_getElem.1 ht
    have hjs : j < s.tasks.length := by rwa [zipT_len floatT s _ hq'] at hj
    have hjq : j < qs.length := by rw [hql]; exact hjs
    rw [zipT_get floatT s _ j hj hjs (by rw [List.length_set]; exact hjq)]
    obtain ⟨a, b, c1, c2, c3, c4, c5, c6, c7, c8⟩ := hf.2.2 _ (List.getElem_mem hjs)
    have hr : 0 ≤ (qs.set i (qs[i] + 1))[j]'(by rw [List.length_set]; exact hjq) ∧ (qs.set i (qs[i] + 1))[j]'(by rw [List.length_set]; exact hjq) ≤ 10000 := by
      rw [List.getElem_set]
      split
      · omega
      · exact h.qrange j hjq
    generalize (qs.set i (qs[i] + 1))[j]'(by rw [List.length_set]; exact hjq) = z at hr ⊢
    refine ⟨a, b, c1, c2, (show (Lit.int .i64 1).wf = true by decide), ?_, (show (Lit.int .i64 0).wf = true by decide), c6, c7, c8⟩
    show (decide ((-9223372036854775808 : Int) ≤ z) && decide (z ≤ 9223372036854775807)) = true
    rw [Bool.and_eq_true, decide_eq_true_eq, decide_eq_true_eq]
    omega
  refine ⟨hall, hfx, ?_⟩
  obtain ⟨l1, l2⟩ := zipT_leaner (s := s) (f := floatT) (fun _ _ => ⟨rfl, rfl, rfl, rfl, rfl⟩) hq'
  rw [judge_alike l1 l2 (fine_of hall hfx) h.fine h.bears]
  have his : i < s.tasks.length := by omega
  constructor
  · intro hj
    apply Int.not_le.1
    intro hc
    obtain ⟨p, rfl⟩ : ∃ p, i = p + 1 := ⟨i - 1, by omega⟩
    obtain ⟨m, hm, he⟩ := minAt_mem bs p
    have hmb : m < bs.length := by rw [h.blen]; omega
    have h1 := hj m hmb (p + 1) (by omega) his
    rw [block_float hq' (p + 1) m (by omega) his, List.getElem_set_self] at h1
    have h2 : qs[p + 1] = minAt bs p := h.at (p + 1) hi
    rw [getD_at hmb] at he
    omega
  · intro hw m hm low hl hs
    rw [block_float hq' low m hl hs, List.getElem_set]
    have h1 := h.q_le low m hl (by rw [hql]; exact hs) hm
    split
    · rename_i e
      subst e
      omega
    · omega
end
end Go.Proofs.YtknfdjnbndfboabGreatDoor
