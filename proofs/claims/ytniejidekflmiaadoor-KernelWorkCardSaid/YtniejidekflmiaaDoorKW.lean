/- Plain: a job alone: it ends as many ticks behind its Start as it asks. -/
import Derived.Test.YtniejidekflmiaaDoorProg
import Derived.Test.YtniejidekflmiaaDoorKM
import Derived.Test.YtniejidekflmiaaDoorKP1
import Init
namespace Go.Proofs.YtniejidekflmiaaDoor

def sW (nm : ByteArray) (c : Int) : TSet := ⟨0, [⟨nm, 200, 200, 0, 0, 0, [c, c], 0, 0⟩]⟩
def zI : Inp := ⟨0, [], 0⟩
/-- the job runs: in region k, n ticks of it are done -/
structure WS (c d e t : Int) (k : Nat) (n : Int) (K : KS) : Prop where
  t : K.t = t
  last : K.last = 0
  jobs : K.jobs = [⟨[c, c], [d, e], k, n, 0⟩]
  tab : ∃ m, K.tab = [⟨true, true, m, 0⟩]
  load : K.load = [0]
theorem step_eq (nm : ByteArray) {c d e t : Int} {k : Nat} {n : Int} {K : KS} (h : WS c d e t k n K) (ht : t < 200) : stepK (sW nm c) K zI = { (runsK (sW nm c) { K with evs := [] } 0 0) with ran := 0, t := (runsK (sW nm c) { K with evs := [] } 0 0).t + 1 } := by
  obtain ⟨t', ran, last, jobs, tab, had, load, own, pol, evs⟩ := K
  obtain ⟨h1, h2, h3, ⟨m, h4⟩, h5⟩ := h
  dsimp only at h1 h2 h3 h4 h5
  subst h1 h2 h3 h4 h5
  have e1 : lateK (sW nm c) (⟨t', ran, 0, [⟨[c, c], [d, e], k, n, 0⟩], [⟨true, true, m, 0⟩], had, [0], own, pol, []⟩ : KS) = ⟨t', ran, 0, [⟨[c, c], [d, e], k, n, 0⟩], [⟨true, true, m, 0⟩], had, [0], own, pol, []⟩ := by
    have hb : lateB (sW nm c) (⟨t', ran, 0, [⟨[c, c], [d, e], k, n, 0⟩], [⟨true, true, m, 0⟩], had, [0], own, pol, []⟩ : KS) 0 = false := by
      show (true && decide ((0 : Int) + 200 = t')) = false
      rw [decide_eq_false (by omega)]; rfl
    show late1 _ _ 0 = _
    unfold late1
    rw [hb, if_neg (by simp)]
  have e2 : ∀ K : KS, arriveK (sW nm c) zI K = K := fun K => by
    show arrive1 (sW nm c) zI K 0 = K
    unfold arrive1
    rw [if_pos (by rfl)]
  have e3 : ∀ t, chooseS (sW nm c) [⟨true, true, m, 0⟩] 0 t = 0 := fun t => by
    cases m <;> rfl
  unfold stepK
  dsimp only
  rw [e1, e2]
  dsimp only
  rw [e3, if_neg (by omega)]
  rfl
theorem runs_eq (nm : ByteArray) {c d e t : Int} {k : Nat} {n : Int} {K : KS} (h : WS c d e t k n K) :
    ((⟨[c, c], [d, e], k, n, 0⟩ : Jb).step.2.2 = 0 → (runsK (sW nm c) K 0 0).evs = K.evs ∧ (runsK (sW nm c) K 0 0).t = t ∧ (runsK (sW nm c) K 0 0).last = 0 ∧ (runsK (sW nm c) K 0 0).jobs = [(⟨[c, c], [d, e], k, n, 0⟩ : Jb).step.1] ∧ (∃ m, (runsK (sW nm c) K 0 0).tab = [⟨true, true, m, 0⟩]) ∧ (runsK (sW nm c) K 0 0).load = [0]) ∧
    ((⟨[c, c], [d, e], k, n, 0⟩ : Jb).step.2.2 = 1 → (runsK (sW nm c) K 0 0).evs = K.evs ++ [⟨t, 7, 0, (⟨[c, c], [d, e], k, n, 0⟩ : Jb).step.2.1⟩] ∧ (runsK (sW nm c) K 0 0).t = t ∧ (runsK (sW nm c) K 0 0).last = 0 ∧ (runsK (sW nm c) K 0 0).jobs = [(⟨[c, c], [d, e], k, n, 0⟩ : Jb).step.1] ∧ (∃ m, (runsK (sW nm c) K 0 0).tab = [⟨true, true, m, 0⟩]) ∧ (runsK (sW nm c) K 0 0).load = [0]) ∧
    ((⟨[c, c], [d, e], k, n, 0⟩ : Jb).step.2.2 = 2 → (runsK (sW nm c) K 0 0).evs = K.evs ++ [⟨t, 7, 0, (⟨[c, c], [d, e], k, n, 0⟩ : Jb).step.2.1⟩] ++ [⟨t, 8, 0, t + 1⟩]) := by
  obtain ⟨t', ran, last, jobs, tab, had, load, own, pol, evs⟩ := K
  obtain ⟨h1, h2, h3, ⟨m, h4⟩, h5⟩ := h
  dsimp only at h1 h2 h3 h4 h5
  subst h1 h2 h3 h4 h5
  unfold runsK
  dsimp only
  have hz : ¬ (0 : Int) < ([0] : List Int).getD 0 0 := by decide
  have hj : ([(⟨[c, c], [d, e], k, n, 0⟩ : Jb)].getD 0 Jb.zero) = ⟨[c, c], [d, e], k, n, 0⟩ := rfl
  rw [if_neg hz, hj]
  generalize (⟨[c, c], [d, e], k, n, 0⟩ : Jb).step = p
  obtain ⟨j2, reg, how⟩ := p
  dsimp only
  refine ⟨fun h => ?_, fun h => ?_, fun h => ?_⟩
  · subst h
    exact ⟨rfl, rfl, rfl, rfl, ⟨_, rfl⟩, rfl⟩
  · subst h
    exact ⟨rfl, rfl, rfl, rfl, ⟨_, rfl⟩, rfl⟩
  · subst h
    show evs ++ [⟨t', 7, 0, reg⟩] ++ [⟨t', 8, 0, t' + 1 - 0⟩] = _
    rw [Int.sub_zero]
theorem jstep_go {c d e : Int} {k : Nat} {n : Int} (h1 : n + 1 ≠ [d, e].getD k 0) (h2 : n + 1 ≠ [c, c].getD k 0) : (⟨[c, c], [d, e], k, n, 0⟩ : Jb).step = ((⟨[c, c], [d, e], k, n + 1, 0⟩ : Jb), (k : Int), (0 : Int)) := by
  unfold Jb.step
  dsimp only
  rw [if_neg (by simp), if_neg h1, if_neg h2]
theorem jstep_first {c d e : Int} {n : Int} (h1 : n + 1 = d) : (⟨[c, c], [d, e], 0, n, 0⟩ : Jb).step = ((⟨[c, c], [d, e], 1, 0, 0⟩ : Jb), (0 : Int), (1 : Int)) := by
  unfold Jb.step
  dsimp only
  rw [if_neg (by simp), if_pos (show n + 1 = [d, e].getD 0 0 from h1), if_neg (by simp)]
  rfl
theorem jstep_last {c d e : Int} {n : Int} (h1 : n + 1 = e) : (⟨[c, c], [d, e], 1, n, 0⟩ : Jb).step = ((⟨[c, c], [d, e], 2, 0, 2⟩ : Jb), (1 : Int), (2 : Int)) := by
  unfold Jb.step
  dsimp only
  rw [if_neg (by simp), if_pos (show n + 1 = [d, e].getD 1 0 from h1), if_pos (by rfl)]
  rfl
theorem tick_go (nm : ByteArray) {c d e t : Int} {k : Nat} {n : Int} {K : KS} (h : WS c d e t k n K) (ht : t < 200) (h1 : n + 1 ≠ [d, e].getD k 0) (h2 : n + 1 ≠ [c, c].getD k 0) : (stepK (sW nm c) K zI).evs = [] ∧ WS c d e (t + 1) k (n + 1) (stepK (sW nm c) K zI) := by
  have h0 : WS c d e t k n { K with evs := [] } := ⟨h.t, h.last, h.jobs, h.tab, h.load⟩
  obtain ⟨a1, a2, a3, a4, a5, a6⟩ := (runs_eq nm h0).1 (by rw [jstep_go h1 h2])
  rw [step_eq nm h ht]
  rw [jstep_go h1 h2] at a4
  exact ⟨a1, by dsimp only; rw [a2], a3, a4, a5, a6⟩
theorem tick_first (nm : ByteArray) {c d e t : Int} {n : Int} {K : KS} (h : WS c d e t 0 n K) (ht : t < 200) (h1 : n + 1 = d) : (stepK (sW nm c) K zI).evs = [⟨t, 7, 0, 0⟩] ∧ WS c d e (t + 1) 1 0 (stepK (sW nm c) K zI) := by
  have h0 : WS c d e t 0 n { K with evs := [] } := ⟨h.t, h.last, h.jobs, h.tab, h.load⟩
  obtain ⟨a1, a2, a3, a4, a5, a6⟩ := (runs_eq nm h0).2.1 (by rw [jstep_first h1])
  rw [step_eq nm h ht]
  rw [jstep_first h1] at a1 a4
  exact ⟨a1, by dsimp only; rw [a2], a3, a4, a5, a6⟩
theorem tick_last (nm : ByteArray) {c d e t : Int} {n : Int} {K : KS} (h : WS c d e t 1 n K) (ht : t < 200) (h1 : n + 1 = e) : (stepK (sW nm c) K zI).evs = [⟨t, 7, 0, 1⟩, ⟨t, 8, 0, t + 1⟩] := by
  have h0 : WS c d e t 1 n { K with evs := [] } := ⟨h.t, h.last, h.jobs, h.tab, h.load⟩
  have a1 := (runs_eq nm h0).2.2 (by rw [jstep_last h1])
  rw [step_eq nm h ht]
  rw [jstep_last h1] at a1
  exact a1
/-- the first tick up to the job's own -/
theorem init_eq (nm : ByteArray) {c d e : Int} (hd : 1 ≤ d) (he : 1 ≤ e) : ∃ K, WS c d e 0 0 0 K ∧ K.evs = [⟨0, 1, 0, 0⟩, ⟨0, 4, 0, 0⟩] ∧ stepK (sW nm c) (initK (sW nm c)) ⟨1, [[d, e]], 0⟩ = { (runsK (sW nm c) K 0 0) with ran := 0, t := (runsK (sW nm c) K 0 0).t + 1 } := by
  have hj : newJ [c, c] [d, e] = ⟨[c, c], [d, e], 0, 0, 0⟩ := by
    show (⟨[c, c], [max 1 d, max 1 e], 0, 0, 0⟩ : Jb) = _
    rw [Int.max_eq_right hd, Int.max_eq_right he]
  refine ⟨⟨0, -1, 0, [⟨[c, c], [d, e], 0, 0, 0⟩], [⟨true, true, false, 0⟩], [0], [0], List.replicate 64 0, [0], [⟨0, 1, 0, 0⟩, ⟨0, 4, 0, 0⟩]⟩, ⟨rfl, rfl, rfl, ⟨_, rfl⟩, rfl⟩, rfl, ?_⟩
  have ha : arriveK (sW nm c) ⟨1, [[d, e]], 0⟩ (lateK (sW nm c) { (initK (sW nm c)) with evs := [] }) = ⟨0, -1, -1, [⟨[c, c], [d, e], 0, 0, 0⟩], [⟨true, false, false, 0⟩], [0], [0], List.replicate 64 0, [0], [⟨0, 1, 0, 0⟩]⟩ := by
    have h0 : lateK (sW nm c) { (initK (sW nm c)) with evs := [] } = ⟨0, -1, -1, [Jb.zero], [St.zero], [0], [0], List.replicate 64 0, [-1], []⟩ := rfl
    rw [h0]
    show arrive1 (sW nm c) ⟨1, [[d, e]], 0⟩ _ 0 = _
    unfold arrive1
    have he0 : earlyB (sW nm c) (⟨0, -1, -1, [Jb.zero], [St.zero], [0], [0], List.replicate 64 0, [-1], []⟩ : KS) 0 = false := by
      show (decide ((0 : Int) ≤ -1) && _) = false
      rw [show decide ((0 : Int) ≤ -1) = false from rfl]
      rfl
    rw [if_neg (show ¬ Nat.testBit 1 0 = false by decide), he0, if_neg (by decide), if_neg (show ¬ (stAt [St.zero] 0).pend = true by decide), ← hj]
    rfl
  unfold stepK
  dsimp only
  rw [ha]
  rfl
theorem runK_cons (s : TSet) (x : Inp) (l : List Inp) (K : KS) : (runK s (x :: l) K).1 = (stepK s K x).evs ++ (runK s l (stepK s K x)).1 := rfl
/-- the second region -/
theorem run_two (nm : ByteArray) {c d e : Int} (hc : e ≤ c) : ∀ (j : Nat) (t : Int) (n : Int) (r : Nat) (K : KS), WS c d e t 1 n K → n + 1 + j = e → t + j < 200 → ∃ X, (runK (sW nm c) (List.replicate (j + 1 + r) zI) K).1 = [⟨t + j, 7, 0, 1⟩, ⟨t + j, 8, 0, t + j + 1⟩] ++ X
  | 0, t, n, r, K, h, hn, ht => by
    rw [show 0 + 1 + r = r + 1 by omega, List.replicate_succ, runK_cons, tick_last nm h (by omega) (by omega)]
    exact ⟨(runK (sW nm c) (List.replicate r zI) (stepK (sW nm c) K zI)).1, by simp⟩
  | j + 1, t, n, r, K, h, hn, ht => by
    obtain ⟨h1, h2⟩ := tick_go nm h (by omega) (show n + 1 ≠ e by omega) (show n + 1 ≠ c by omega)
    obtain ⟨X, hX⟩ := run_two nm hc j (t + 1) (n + 1) r _ h2 (by omega) (by omega)
    rw [show j + 1 + 1 + r = (j + 1 + r) + 1 by omega, List.replicate_succ, runK_cons, h1, hX]
    have a1 : t + 1 + (j : Int) = t + ((j + 1 : Nat) : Int) := by omega
    rw [a1]
    exact ⟨X, rfl⟩
theorem run_one (nm : ByteArray) {c d e : Int} (hd : d ≤ c) (hc : e ≤ c) (he : 1 ≤ e) (e' : Nat) (hee : e = e' + 1) : ∀ (j : Nat) (t : Int) (n : Int) (r : Nat) (K : KS), WS c d e t 0 n K → n + 1 + j = d → t + j + e < 200 → ∃ X, (runK (sW nm c) (List.replicate (j + 1 + (e' + 1 + r)) zI) K).1 = [⟨t + j, 7, 0, 0⟩, ⟨t + j + e, 7, 0, 1⟩, ⟨t + j + e, 8, 0, t + j + e + 1⟩] ++ X
  | 0, t, n, r, K, h, hn, ht => by
    obtain ⟨h1, h2⟩ := tick_first nm h (by omega) (by omega)
    obtain ⟨X, hX⟩ := run_two nm hc e' (t + 1) 0 r _ h2 (by omega) (by omega)
    rw [show 0 + 1 + (e' + 1 + r) = (e' + 1 + r) + 1 by omega, List.replicate_succ, runK_cons, h1, hX]
    refine ⟨X, ?_⟩
    have a1 : t + 1 + (e' : Int) = t + ((0 : Nat) : Int) + e := by omega
    have a2 : t = t + ((0 : Nat) : Int) := by omega
    rw [a1, ← a2]
    rfl
  | j + 1, t, n, r, K, h, hn, ht => by
    obtain ⟨h1, h2⟩ := tick_go nm h (by omega) (show n + 1 ≠ d by omega) (show n + 1 ≠ c by omega)
    obtain ⟨X, hX⟩ := run_one nm hd hc he e' hee j (t + 1) (n + 1) r _ h2 (by omega) (by omega)
    rw [show j + 1 + 1 + (e' + 1 + r) = (j + 1 + (e' + 1 + r)) + 1 by omega, List.replicate_succ, runK_cons, h1, hX]
    have a1 : t + 1 + (j : Int) = t + ((j + 1 : Nat) : Int) := by omega
    rw [a1]
    exact ⟨X, rfl⟩
def inpsW (c : Nat) (d e : Int) : List Inp := ⟨1, [[d, e]], 0⟩ :: List.replicate (2 * c - 1) zI
theorem work_events (nm : ByteArray) {c : Nat} {d e : Int} (h1 : 1 ≤ c ∧ c ≤ 40) (h2 : 1 ≤ d ∧ d ≤ c) (h3 : 1 ≤ e ∧ e ≤ c) : ∃ X, eventsK (sW nm c) (inpsW c d e) = [⟨0, 1, 0, 0⟩, ⟨0, 4, 0, 0⟩, ⟨d - 1, 7, 0, 0⟩, ⟨d + e - 1, 7, 0, 1⟩, ⟨d + e - 1, 8, 0, d + e⟩] ++ X := by
  obtain ⟨K, hK, hE, hS⟩ := init_eq nm (c := c) h2.1 h3.1
  unfold eventsK inpsW
  rw [runK_cons, hS]
  obtain ⟨e', he'⟩ : ∃ e' : Nat, e = e' + 1 := ⟨(e - 1).toNat, by omega⟩
  obtain ⟨d', hd'⟩ : ∃ d' : Nat, d = d' + 1 := ⟨(d - 1).toNat, by omega⟩
  cases d' with
  | zero =>
    have hd1 : (0 : Int) + 1 = d := by omega
    obtain ⟨a1, a2, a3, a4, a5, a6⟩ := (runs_eq nm hK).2.1 (by rw [jstep_first hd1])
    rw [jstep_first hd1] at a1 a4
    have hW : WS c d e 1 1 0 { (runsK (sW nm c) K 0 0) with ran := 0, t := (runsK (sW nm c) K 0 0).t + 1 } := ⟨by dsimp only; rw [a2]; rfl, a3, a4, a5, a6⟩
    obtain ⟨X, hX⟩ := run_two nm h3.2 e' 1 0 (2 * c - 1 - (e' + 1)) _ hW (by omega) (by omega)
    rw [show e' + 1 + (2 * c - 1 - (e' + 1)) = 2 * c - 1 by omega] at hX
    rw [hX]
    dsimp only
    rw [a1, hE]
    refine ⟨X, ?_⟩
    have b1 : (1 : Int) + (e' : Int) = d + e - 1 := by omega
    have b2 : (0 : Int) = d - 1 := by omega
    have b3 : d + e - 1 + 1 = d + e := by omega
    rw [b1, b3]
    show [(⟨0, 1, 0, 0⟩ : Ev), ⟨0, 4, 0, 0⟩] ++ [⟨0, 7, 0, 0⟩] ++ ([⟨d + e - 1, 7, 0, 1⟩, ⟨d + e - 1, 8, 0, d + e⟩] ++ X) = _
    rw [← b2]
    rfl
  | succ d'' =>
    have hg1 : (0 : Int) + 1 ≠ [d, e].getD 0 0 := show (0 : Int) + 1 ≠ d by omega
    have hg2 : (0 : Int) + 1 ≠ [(c : Int), (c : Int)].getD 0 0 := show (0 : Int) + 1 ≠ (c : Int) by omega
    obtain ⟨a1, a2, a3, a4, a5, a6⟩ := (runs_eq nm hK).1 (by rw [jstep_go hg1 hg2])
    rw [jstep_go hg1 hg2] at a4
    have hW : WS c d e 1 0 1 { (runsK (sW nm c) K 0 0) with ran := 0, t := (runsK (sW nm c) K 0 0).t + 1 } := ⟨by dsimp only; rw [a2]; rfl, a3, a4, a5, a6⟩
    obtain ⟨X, hX⟩ := run_one nm h2.2 h3.2 h3.1 e' he' d'' 1 1 (2 * c - 1 - (d'' + 1) - (e' + 1)) _ hW (by omega) (by omega)
    rw [show d'' + 1 + (e' + 1 + (2 * c - 1 - (d'' + 1) - (e' + 1))) = 2 * c - 1 by omega] at hX
    rw [hX]
    dsimp only
    rw [a1, hE]
    have b1 : (1 : Int) + (d'' : Int) = d - 1 := by omega
    have b2 : d - 1 + e = d + e - 1 := by omega
    have b3 : d + e - 1 + 1 = d + e := by omega
    rw [b1, b2, b3]
    exact ⟨X, rfl⟩
end Go.Proofs.YtniejidekflmiaaDoor
