/- Plain: names do not matter, nor cache sets, where loading takes nothing. -/
import Derived.Test.YtniejidekflmiaaDoorProg
import Derived.Test.YtniejidekflmiaaDoorKM
import Derived.Test.YtniejidekflmiaaDoorKP1
import Init
namespace Go.Proofs.YtniejidekflmiaaDoor

/-- two sets that differ by names and cache sets alone; loading takes nothing -/
structure SimS (s s' : TSet) : Prop where
  r : s.reload = 0
  r' : s'.reload = 0
  len : s.tasks.length = s'.tasks.length
  T : ∀ i, (s.tk i).T = (s'.tk i).T
  D : ∀ i, (s.tk i).D = (s'.tk i).D
  mode : ∀ i, (s.tk i).mode = (s'.tk i).mode
  q : ∀ i, (s.tk i).q = (s'.tk i).q
  theta : ∀ i, (s.tk i).theta = (s'.tk i).theta
  regs : ∀ i, (s.tk i).regs = (s'.tk i).regs
structure SimK (k k' : KS) : Prop where
  t : k.t = k'.t
  ran : k.ran = k'.ran
  last : k.last = k'.last
  jobs : k.jobs = k'.jobs
  tab : k.tab = k'.tab
  load : k.load = k'.load
  pol : k.pol = k'.pol
  evs : k.evs = k'.evs
section
variable {s s' : TSet} {k k' : KS}
theorem SimK.tell (h : SimK k k') (a b c : Int) : SimK (k.tell a b c) (k'.tell a b c) :=
  ⟨h.t, h.ran, h.last, h.jobs, h.tab, h.load, h.pol, by unfold KS.tell; dsimp only; rw [h.evs, h.t]⟩
theorem SimK.late1 (hs : SimS s s') (h : SimK k k') (i : Nat) : SimK (late1 s k i) (Go.Proofs.YtniejidekflmiaaDoor.late1 s' k' i) := by
  have e : lateB s k i = lateB s' k' i := by unfold lateB; rw [h.tab, h.t, hs.D]
  unfold Go.Proofs.YtniejidekflmiaaDoor.late1
  rw [e]
  split
  · exact h.tell _ _ _
  · exact h
theorem sim_fold (f g : KS → Nat → KS) (hfg : ∀ k k' i, SimK k k' → SimK (f k i) (g k' i)) : ∀ (l : List Nat) (k k' : KS), SimK k k' → SimK (l.foldl f k) (l.foldl g k')
  | [], _, _, h => h
  | i :: l, k, k', h => sim_fold f g hfg l _ _ (hfg k k' i h)
theorem SimK.late (hs : SimS s s') (h : SimK k k') : SimK (lateK s k) (lateK s' k') := by
  unfold lateK
  rw [← hs.len]
  exact sim_fold _ _ (fun _ _ i h => h.late1 hs i) _ _ _ h
theorem SimK.arrive1 (hs : SimS s s') (x : Inp) (h : SimK k k') (i : Nat) : SimK (arrive1 s x k i) (Go.Proofs.YtniejidekflmiaaDoor.arrive1 s' x k' i) := by
  have e : earlyB s k i = earlyB s' k' i := by unfold earlyB; rw [h.pol, h.t, hs.T]
  unfold Go.Proofs.YtniejidekflmiaaDoor.arrive1
  rw [e, h.tab]
  split
  · exact h
  · split
    · exact h.tell _ _ _
    · split
      · exact h.tell _ _ _
      · unfold admitK
        apply SimK.tell
        refine ⟨h.t, h.ran, h.last, ?_, ?_, h.load, ?_, h.evs⟩
        · dsimp only; rw [h.jobs, hs.regs]
        · dsimp only; rw [h.tab, h.t]
        · dsimp only; rw [h.pol, h.t]
theorem SimK.arrive (hs : SimS s s') (x : Inp) (h : SimK k k') : SimK (arriveK s x k) (arriveK s' x k') := by
  unfold arriveK
  rw [← hs.len]
  exact sim_fold _ _ (fun _ _ i h => h.arrive1 hs x i) _ _ _ h
theorem rank_sim (hs : SimS s s') (tab : List St) (i : Nat) : rankS s tab i = rankS s' tab i := by
  unfold rankS
  rw [hs.mode, hs.theta]
theorem best_sim (hs : SimS s s') (tab : List St) (n : Nat) : bestS s tab n = bestS s' tab n := by
  unfold bestS
  congr 1
  funext b i
  rw [rank_sim hs, rank_sim hs]
theorem choose_sim (hs : SimS s s') (tab : List St) (last t : Int) : chooseS s tab last t = chooseS s' tab last t := by
  have e : heldS s tab last t = heldS s' tab last t := by
    unfold heldS
    rw [hs.mode, hs.q]
  unfold chooseS
  rw [e, best_sim hs]
theorem SimK.pre (h : SimK k k') (m : Nat) : SimK (preK s k m) (preK s' k' m) := by
  obtain ⟨t, ran, last, jobs, tab, had, load, own, pol, evs⟩ := k
  obtain ⟨t', ran', last', jobs', tab', had', load', own', pol', evs'⟩ := k'
  obtain ⟨h1, h2, h3, h4, h5, h6, h7, h8⟩ := h
  dsimp only at h1 h2 h3 h4 h5 h6 h7 h8
  subst h1 h2 h3 h4 h5 h6 h7 h8
  unfold preK
  dsimp only
  split
  · exact ⟨rfl, rfl, rfl, rfl, rfl, rfl, rfl, rfl⟩
  · exact ⟨rfl, rfl, rfl, rfl, rfl, rfl, rfl, rfl⟩
theorem SimK.turn (hs : SimS s s') (h : SimK k k') (m : Nat) : SimK (turnK s k m) (turnK s' k' m) := by
  have h1 := h.pre (s := s) (s' := s') m
  unfold turnK
  dsimp only
  rw [h.tab, h.last]
  generalize preK s k m = a at h1
  generalize preK s' k' m = b at h1
  split
  · apply SimK.tell
    refine ⟨h1.t, h1.ran, h1.last, h1.jobs, ?_, ?_, h1.pol, h1.evs⟩
    · dsimp only; rw [h1.tab]
    · dsimp only; rw [h1.load]
  · split
    · rw [hs.r, hs.r', Int.zero_mul, Int.zero_mul]
      apply SimK.tell
      refine ⟨h1.t, h1.ran, h1.last, h1.jobs, h1.tab, ?_, h1.pol, h1.evs⟩
      dsimp only; rw [h1.load]
    · exact h1
theorem SimK.runs (h : SimK k k') (m touch : Nat) : SimK (runsK s k m touch) (runsK s' k' m touch) := by
  obtain ⟨t, ran, last, jobs, tab, had, load, own, pol, evs⟩ := k
  obtain ⟨t', ran', last', jobs', tab', had', load', own', pol', evs'⟩ := k'
  obtain ⟨h1, h2, h3, h4, h5, h6, h7, h8⟩ := h
  dsimp only at h1 h2 h3 h4 h5 h6 h7 h8
  subst h1 h2 h3 h4 h5 h6 h7 h8
  unfold runsK
  dsimp only
  split
  · exact ⟨rfl, rfl, rfl, rfl, rfl, rfl, rfl, rfl⟩
  · generalize (jobs.getD m Jb.zero).step = p
    obtain ⟨j2, reg, how⟩ := p
    dsimp only [KS.tell]
    by_cases h1 : how = 1
    · subst h1
      exact ⟨rfl, rfl, rfl, rfl, rfl, rfl, rfl, rfl⟩
    · by_cases h2 : how = 2
      · subst h2
        exact ⟨rfl, rfl, rfl, rfl, rfl, rfl, rfl, rfl⟩
      · by_cases h3 : how = 3
        · subst h3
          exact ⟨rfl, rfl, rfl, rfl, rfl, rfl, rfl, rfl⟩
        · rw [if_neg (show ¬ (how = 1 ∨ how = 2) by omega), if_neg (show ¬ (how = 1 ∨ how = 2) by omega), if_neg h2, if_neg h3, if_neg h2, if_neg h3]
          exact ⟨rfl, rfl, rfl, rfl, rfl, rfl, rfl, rfl⟩
theorem SimK.step (hs : SimS s s') (h : SimK k k') (x : Inp) : SimK (stepK s k x) (stepK s' k' x) := by
  have h0 : SimK { k with evs := [] } { k' with evs := [] } := ⟨h.t, h.ran, h.last, h.jobs, h.tab, h.load, h.pol, rfl⟩
  have h1 := (h0.late hs).arrive hs x
  unfold stepK
  dsimp only
  generalize arriveK s x (lateK s { k with evs := [] }) = a at h1
  generalize arriveK s' x (lateK s' { k' with evs := [] }) = b at h1
  rw [h1.tab, h1.last, h1.t, choose_sim hs]
  generalize chooseS s' b.tab b.last b.t = now
  split
  · have h2 := h1.tell 10 (-1) 0
    exact ⟨by dsimp only; rw [h2.t], rfl, h2.last, h2.jobs, h2.tab, h2.load, h2.pol, h2.evs⟩
  · have h2 := h1.turn hs now.toNat
    have h3 : SimK { turnK s a now.toNat with last := now } { turnK s' b now.toNat with last := now } := ⟨h2.t, h2.ran, rfl, h2.jobs, h2.tab, h2.load, h2.pol, h2.evs⟩
    have h4 := h3.runs (s := s) (s' := s') now.toNat x.touch
    exact ⟨by dsimp only; rw [h4.t], rfl, h4.last, h4.jobs, h4.tab, h4.load, h4.pol, h4.evs⟩
theorem sim_run (hs : SimS s s') : ∀ (l : List Inp) (k k' : KS), SimK k k' → (runK s l k).1 = (runK s' l k').1
  | [], _, _, _ => rfl
  | x :: l, k, k', h => by
    have h1 := h.step hs x
    unfold runK
    dsimp only
    rw [h1.evs, sim_run hs l _ _ h1]
theorem sim_events (hs : SimS s s') (l : List Inp) : eventsK s l = eventsK s' l := by
  unfold eventsK
  refine sim_run hs l _ _ ⟨rfl, rfl, rfl, ?_, ?_, ?_, ?_, rfl⟩ <;> (unfold initK; dsimp only; rw [hs.len])
end
end Go.Proofs.YtniejidekflmiaaDoor
