/- When a set with thresholds is accepted: plain. -/
import Derived.Test.YtknfdjnbndfboabGreatDoorProg
import Derived.Test.YtknfdjnbndfboabGreatDoorBase
import Derived.Test.YtknfdjnbndfboabGreatDoorNumP
import Derived.Test.YtknfdjnbndfboabGreatDoorTsk1
import Derived.Test.YtknfdjnbndfboabGreatDoorTsk3
import Derived.Test.YtknfdjnbndfboabGreatDoorTsk4
import Derived.Test.YtknfdjnbndfboabGreatDoorTskZ
import Derived.Test.YtknfdjnbndfboabGreatDoorTskA
import Derived.Test.YtknfdjnbndfboabGreatDoorTskO
import Derived.Test.YtknfdjnbndfboabGreatDoorSetO
import Derived.Test.YtknfdjnbndfboabGreatDoorRespS
import Derived.Test.YtknfdjnbndfboabGreatDoorResp
import Derived.Test.YtknfdjnbndfboabGreatDoorTolA
import Derived.Test.YtknfdjnbndfboabGreatDoorTolP
import Derived.Test.YtknfdjnbndfboabGreatDoorSprO
import Derived.Test.YtknfdjnbndfboabGreatDoorSprP
import Derived.Test.YtknfdjnbndfboabGreatDoorSprL
import Derived.Test.YtknfdjnbndfboabGreatDoorRaiO
import Derived.Test.YtknfdjnbndfboabGreatDoorRaiP
import Derived.Lib.Hide
namespace Go.Proofs.YtknfdjnbndfboabGreatDoor
open Go.RowKit
attribute [local irreducible] popN

structure Raise (s : TSet) (ps bs : List Int) : Prop where
  fine : Fine s
  all : allB s = true
  bears : tolL s s.tasks.length = some bs
  blen : bs.length = s.tasks.length
  ps : ps = psL s bs s.tasks.length
theorem Raise.of {s : TSet} (hf : s.fit) {ps : List Int} (h : raiseQ s = some ps) : ∃ bs, Raise s ps bs := by
  unfold raiseQ at h
  cases ho : tolS s with
  | none => rw [ho] at h; cases h
  | some bs =>
    rw [ho] at h
    obtain ⟨h1, h2, h3⟩ := tolS_got ho
    exact ⟨bs, fine_of h1 hf, h1, h2, h3, (Option.some.inj h).symm⟩
theorem raiseS_some {s : TSet} {ps : List Int} (h : raiseQ s = some ps) : raiseS s = zipT threshT s ps := by unfold raiseS; rw [h]
theorem raiseS_none {s : TSet} (h : raiseQ s = none) : raiseS s = ⟨0, []⟩ := by unfold raiseS; rw [h]
/-- thresholds as they may be -/
structure ThrOk (s : TSet) (ps : List Int) : Prop where
  len : ps.length = s.tasks.length
  each : ∀ j (h : j < ps.length), 0 ≤ ps[j] ∧ ps[j] ≤ (j : Int)
section
variable {s : TSet} {ps bs : List Int}
theorem ThrOk.all (h : ThrOk s ps) (ha : allB s = true) : allB (zipT threshT s ps) = true := by
  refine allB_of (s := s) rfl (zipT_len threshT s ps h.len) (fun j h1 h2 => ?_) ha
  have hjq : j < ps.length := by rw [h.len]; exact h1
  rw [zipT_get threshT s ps j h2 h1 hjq]
  refine ⟨rfl, fun hi => ?_⟩
  simp only [isB, Bool.and_eq_true] at hi ⊢
  obtain ⟨a, b, c, d, e, _, g⟩ := hi
  refine ⟨a, b, c, d, e, ?_, g⟩
  have hr := h.each j hjq
  generalize ps[j] = z at hr
  have e : modeB (threshT s.tasks[j] z) j = (((0 : Int) == 0) && (decide (z ≥ 0) && decide (z ≤ (j : Int)))) := rfl
  rw [e]
  simp
  omega
theorem ThrOk.fit (h : ThrOk s ps) (hs : s.tasks.length ≤ 8) (hf : s.fit) : (zipT threshT s ps).fit := by
  refine ⟨hf.1, by rw [zipT_len threshT s ps h.len]; exact hf.2.1, fun t ht => ?_⟩
  obtain ⟨j, hj, rfl⟩ := List.mem_iff_getElem.1 ht
  have hjs : j < s.tasks.length := by rwa [zipT_len threshT s ps h.len] at hj
  have hjq : j < ps.length := by rw [h.len]; exact hjs
  rw [zipT_get threshT s ps j hj hjs hjq]
  obtain ⟨a, b, c1, c2, c3, c4, c5, c6, c7, c8⟩ := hf.2.2 _ (List.getElem_mem hjs)
  have hr := h.each j hjq
  generalize ps[j] = z at hr ⊢
  refine ⟨a, b, c1, c2, (show (Lit.int .i64 2).wf = true by decide), (show (Lit.int .i64 0).wf = true by decide), ?_, c6, c7, c8⟩
  show (decide ((-9223372036854775808 : Int) ≤ z) && decide (z ≤ 9223372036854775807)) = true
  rw [Bool.and_eq_true, decide_eq_true_eq, decide_eq_true_eq]
  omega
theorem ThrOk.block (h : ThrOk s ps) (low high : Nat) (hl : high < low) (hs : low < s.tasks.length) : blockOf (zipT threshT s ps) low high = if ps[low]'(by rw [h.len]; exact hs) ≤ (high : Int) then wholeZ s s.tasks[low] else 0 := by
  have hll := zipT_len threshT s ps h.len
  unfold blockOf
  rw [dif_pos ⟨hl, by rw [hll]; exact hs⟩, zipT_get threshT s ps low (by rw [hll]; exact hs) hs (by rw [h.len]; exact hs)]
  rfl
theorem Raise.bear (h : Raise s ps bs) (i : Nat) (hi : i < bs.length) : 0 ≤ bs[i] := by
  obtain ⟨h1, h2⟩ := tolO_val2 (tolL_at s _ _ h.bears i hi)
  omega
theorem Raise.plen (h : Raise s ps bs) : ps.length = s.tasks.length := by rw [h.ps, psL_len]
theorem Raise.at (h : Raise s ps bs) (i : Nat) (hi : i < ps.length) (hs : i < s.tasks.length) : ps[i] = (thrAt bs (wholeZ s s.tasks[i]) i : Nat) := by
  have := h.ps
  subst this
  have e : (psL s bs s.tasks.length)[i] = pAt s bs i := by simp [psL]
  rw [e]
  unfold pAt
  rw [dif_pos hs]
theorem Raise.thr (h : Raise s ps bs) : ThrOk s ps := ⟨h.plen, fun j hj => by
  have hjs : j < s.tasks.length := by rw [← h.plen]; exact hj
  rw [h.at j hj hjs]
  have := (thrAt_spec bs (wholeZ s s.tasks[j]) j).1
  omega⟩
/-- with these, or any that are lower in rank, it is accepted -/
theorem Raise.acc (h : Raise s ps bs) (hf : s.fit) {ps' : List Int} (ht : ThrOk s ps') (hge : ∀ j (h1 : j < ps.length) (h2 : j < ps'.length), ps[j] ≤ ps'[j]) : (judgeS (zipT threshT s ps')).how = 1 := by
  obtain ⟨l1, l2⟩ := zipT_leaner (s := s) (f := threshT) (fun _ _ => ⟨rfl, rfl, rfl, rfl, rfl⟩) ht.len
  have hlen := h.fine.len
  refine (judge_alike l1 l2 (fine_of (ht.all h.all) (ht.fit hlen.2 hf)) h.fine h.bears).2 fun i hi low hl hs => ?_
  rw [ht.block low i hl hs]
  have hlp : low < ps.length := by rw [h.plen]; exact hs
  have h1 := hge low hlp (by rw [ht.len]; exact hs)
  have h2 := h.at low hlp hs
  have h3 := (thrAt_spec bs (wholeZ s s.tasks[low]) low).2.1 i
  have h0 := h.bear i hi
  split
  · rename_i hc
    have := h3 (by omega) hl
    rwa [getD_at hi] at this
  · exact h0
/-- with one a place higher it is not -/
theorem Raise.not (h : Raise s ps bs) (hf : s.fit) (i : Nat) (hi : i < ps.length) (h0 : ps[i] ≠ 0) (ht : ThrOk s (ps.set i (ps[i] - 1))) : (judgeS (zipT threshT s (ps.set i (ps[i] - 1)))).how ≠ 1 := by
  obtain ⟨l1, l2⟩ := zipT_leaner (s := s) (f := threshT) (fun _ _ => ⟨rfl, rfl, rfl, rfl, rfl⟩) ht.len
  have hlen := h.fine.len
  have his : i < s.tasks.length := by rw [← h.plen]; exact hi
  intro hj
  have hj := (judge_alike l1 l2 (fine_of (ht.all h.all) (ht.fit hlen.2 hf)) h.fine h.bears).1 hj
  have h2 := h.at i hi his
  have hsp := thrAt_spec bs (wholeZ s s.tasks[i]) i
  generalize thrAt bs (wholeZ s s.tasks[i]) i = m at h2 hsp
  have hm : 0 < m := by omega
  have hmb : m - 1 < bs.length := by rw [h.blen]; omega
  have h3 := hsp.2.2 hm
  rw [getD_at hmb] at h3
  have h4 := hj (m - 1) hmb i (by omega) his
  rw [ht.block i (m - 1) (by omega) his, List.getElem_set_self, if_pos (by omega)] at h4
  omega
theorem Raise.lessThr (h : Raise s ps bs) (i : Nat) (z : Int) (hz : 0 ≤ z ∧ z ≤ (i : Int)) : ThrOk s (ps.set i z) := ⟨by rw [List.length_set]; exact h.plen, fun j hj => by
  rw [List.getElem_set]
  split
  · rename_i e; subst e; exact hz
  · exact h.thr.each j (by rw [List.length_set] at hj; exact hj)⟩
/-- a threshold of one task -/
def thrT (z : Int) (t : Tsk) : Tsk := modedT t.mode t.q z t
theorem zipT_thr (s : TSet) (ps : List Int) (hq : ps.length = s.tasks.length) (i : Nat) (z : Int) : (zipT threshT s ps).at i (thrT z) = zipT threshT s (ps.set i z) := by
  refine TSet.ext' rfl (List.ext_getElem ?_ fun j h1 h2 => ?_)
  · rw [TSet.at_len, zipT_len threshT s ps hq, zipT_len threshT s _ (by rw [List.length_set]; exact hq)]
  · have hjs : j < s.tasks.length := by rw [TSet.at_len, zipT_len threshT s ps hq] at h1; exact h1
    rw [TSet.at_get, zipT_get threshT s _ j h2 hjs (by rw [List.length_set]; omega), zipT_get threshT s ps j _ hjs (by omega), List.getElem_set]
    split
    · rename_i e; subst e; rfl
    · rfl
end
end Go.Proofs.YtknfdjnbndfboabGreatDoor
