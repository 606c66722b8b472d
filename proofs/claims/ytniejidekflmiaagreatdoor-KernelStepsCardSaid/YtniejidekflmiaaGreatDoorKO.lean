/- Plain: of events, who was pending, who ran. -/
import Derived.Test.YtniejidekflmiaaGreatDoorProg
import Derived.Test.YtniejidekflmiaaGreatDoorKM
import Derived.Test.YtniejidekflmiaaGreatDoorKP1
import Init
namespace Go.Proofs.YtniejidekflmiaaGreatDoor

structure OfS where
  there : List Bool
  now : Int
  fin : Bool
  at' : Int
def Ev.isTask (e : Ev) : Bool := decide (0 ≤ e.task) && decide (e.task < 8)
def OfS.ev (o : OfS) (e : Ev) : OfS :=
  if e.isTask = false then o
  else if e.kind = 1 then { o with there := o.there.set e.task.toNat true }
  else if e.kind = 5 then { o with now := -1 }
  else if e.kind = 4 ∨ e.kind = 6 then { o with now := e.task }
  else if e.kind = 8 ∨ e.kind = 9 then { o with fin := true, at' := e.task }
  else o
def risingL (there : List Bool) : List Int := ((List.range 8).filter fun i => there.getD i false).map Int.ofNat
def OfS.next (o : OfS) : OfS := if o.fin = true then ⟨o.there.set o.at'.toNat false, -1, false, 0⟩ else ⟨o.there, o.now, false, 0⟩
structure OfTk where
  rest : List Ev
  o : OfS
  ran : List Int
  pend : List (List Int)
def OfTk.evs (x : OfTk) (t : Int) : List Ev := x.rest.takeWhile fun e => decide (e.tick = t)
def OfTk.tick (x : OfTk) (t : Int) : OfTk :=
  ⟨x.rest.drop (x.evs t).length, ((x.evs t).foldl OfS.ev x.o).next, x.ran ++ [((x.evs t).foldl OfS.ev x.o).now], x.pend ++ [risingL ((x.evs t).foldl OfS.ev x.o).there]⟩
def OfS.init : OfS := ⟨List.replicate 8 false, -1, false, 0⟩
def OfTk.init (l : List Ev) : OfTk := ⟨l, OfS.init, [], []⟩
def ofT (l : List Ev) (n : Nat) : OfTk := (List.range n).foldl (fun (x : OfTk) (t : Nat) => x.tick (t : Int)) (OfTk.init l)
theorem ofT_succ (l : List Ev) (n : Nat) : ofT l (n + 1) = (ofT l n).tick n := by
  unfold ofT
  rw [List.range_succ, List.foldl_append]
  rfl
theorem mem_rising {there : List Bool} {x : Int} : x ∈ risingL there ↔ ∃ i : Nat, i < 8 ∧ x = i ∧ there.getD i false = true := by
  unfold risingL
  simp only [List.mem_map, List.mem_filter, List.mem_range]
  constructor
  · rintro ⟨i, ⟨h1, h2⟩, rfl⟩
    exact ⟨i, h1, rfl, h2⟩
  · rintro ⟨i, h1, rfl, h2⟩
    exact ⟨i, ⟨h1, h2⟩, rfl⟩
/-- who is there, by states -/
structure OfJ (tab : List St) (o : OfS) (cur : Int) : Prop where
  len : o.there.length = 8
  there : ∀ i, i < 8 → o.there.getD i false = (stAt tab i).pend
  now : o.now = cur
  fin : o.fin = false
def Log (k0 : List Ev) (k : KS) (o0 o : OfS) : Prop := ∃ E, k.evs = k0 ++ E ∧ E.foldl OfS.ev o0 = o
theorem Log.refl (k : KS) (o : OfS) : Log k.evs k o o := ⟨[], by simp, rfl⟩
theorem Log.tell {k0 : List Ev} {k : KS} {o0 o : OfS} (h : Log k0 k o0 o) (a b c : Int) : Log k0 (k.tell a b c) o0 (o.ev ⟨k.t, a, b, c⟩) := by
  obtain ⟨E, h1, h2⟩ := h
  refine ⟨E ++ [⟨k.t, a, b, c⟩], by simp [KS.tell, h1], ?_⟩
  rw [List.foldl_append, h2]
  rfl
theorem OfS.ev_skip {o : OfS} {e : Ev} (h : e.kind = 2 ∨ e.kind = 3 ∨ e.kind = 7 ∨ e.kind = 10) : o.ev e = o := by
  unfold OfS.ev
  split
  · rfl
  · rw [if_neg (by omega), if_neg (by omega), if_neg (by omega), if_neg (by omega)]
theorem isTask_of {e : Ev} (h : 0 ≤ e.task ∧ e.task < 8) : e.isTask = true := by
  unfold Ev.isTask
  rw [decide_eq_true h.1, decide_eq_true h.2]; rfl
theorem OfS.ev_admit {o : OfS} {e : Ev} (h : 0 ≤ e.task ∧ e.task < 8) (hk : e.kind = 1) : o.ev e = { o with there := o.there.set e.task.toNat true } := by
  unfold OfS.ev
  rw [isTask_of h, if_neg (by simp), if_pos hk]
theorem OfS.ev_pre {o : OfS} {e : Ev} (h : 0 ≤ e.task ∧ e.task < 8) (hk : e.kind = 5) : o.ev e = { o with now := -1 } := by
  unfold OfS.ev
  rw [isTask_of h, if_neg (by simp), if_neg (by omega), if_pos hk]
theorem OfS.ev_run {o : OfS} {e : Ev} (h : 0 ≤ e.task ∧ e.task < 8) (hk : e.kind = 4 ∨ e.kind = 6) : o.ev e = { o with now := e.task } := by
  unfold OfS.ev
  rw [isTask_of h, if_neg (by simp), if_neg (by omega), if_neg (by omega), if_pos hk]
theorem OfS.ev_end {o : OfS} {e : Ev} (h : 0 ≤ e.task ∧ e.task < 8) (hk : e.kind = 8 ∨ e.kind = 9) : o.ev e = { o with fin := true, at' := e.task } := by
  unfold OfS.ev
  rw [isTask_of h, if_neg (by simp), if_neg (by omega), if_neg (by omega), if_neg (by omega), if_pos hk]
/-- what the phases keep -/
structure OfP (k0 : List Ev) (o0 : OfS) (t n cur : Int) (k : KS) (o : OfS) : Prop where
  log : Log k0 k o0 o
  j : OfJ k.tab o cur
  tt : k.t = t
  lt : (k.tab.length : Int) = n
  ev : ∀ e ∈ k.evs, e.tick = t ∧ e.kind ≤ 9
theorem OfP.skip {k0 : List Ev} {o0 o : OfS} {t n cur : Int} {k : KS} (h : OfP k0 o0 t n cur k o) {a b c : Int} (ha : a = 2 ∨ a = 3 ∨ a = 7) : OfP k0 o0 t n cur (k.tell a b c) o := by
  have hl := h.log.tell a b c
  rw [OfS.ev_skip (by dsimp only; omega)] at hl
  refine ⟨hl, h.j, h.tt, h.lt, fun e he => ?_⟩
  rcases mem_snoc (show e ∈ k.evs ++ [_] from he) with he | rfl
  · exact h.ev e he
  · exact ⟨h.tt, by dsimp only; omega⟩
theorem OfP.late {s : TSet} {k0 : List Ev} {o0 o : OfS} {t n cur : Int} {k : KS} (h : OfP k0 o0 t n cur k o) : OfP k0 o0 t n cur (lateK s k) o :=
  fold_range (fun k' => OfP k0 o0 t n cur k' o) (late1 s) _ k h fun a i _ h => by
    unfold late1
    split
    · exact h.skip (.inr (.inl rfl))
    · exact h
theorem OfP.arrive {s : TSet} (hn8 : s.tasks.length ≤ 8) {k0 : List Ev} {o0 o : OfS} {t cur : Int} {k : KS} (h : OfP k0 o0 t s.tasks.length cur k o) (x : Inp) : ∃ o', OfP k0 o0 t s.tasks.length cur (arriveK s x k) o' := by
  refine fold_range (fun k' => ∃ o', OfP k0 o0 t s.tasks.length cur k' o') (arrive1 s x) _ k ⟨o, h⟩ fun a i hi h => ?_
  obtain ⟨o, h⟩ := h
  unfold arrive1
  split
  · exact ⟨o, h⟩
  · split
    · exact ⟨o, h.skip (.inl rfl)⟩
    · split
      · exact ⟨o, h.skip (.inl rfl)⟩
      · have hlt : a.tab.length = s.tasks.length := by have := h.lt; omega
        have hl : Log k0 (admitK s x a i) o0 (o.ev ⟨a.t, 1, i, 0⟩) := by
          obtain ⟨E, h1, h2⟩ := h.log
          refine ⟨E ++ [⟨a.t, 1, i, 0⟩], by simp [admitK, KS.tell, h1], ?_⟩
          rw [List.foldl_append, h2]
          rfl
        rw [OfS.ev_admit (by dsimp only; omega) rfl] at hl
        dsimp only at hl
        rw [Int.toNat_natCast] at hl
        refine ⟨_, hl, ⟨by rw [List.length_set]; exact h.j.len, fun j hj => ?_, h.j.now, h.j.fin⟩, h.tt, by show ((a.tab.set i _).length : Int) = _; rw [List.length_set]; exact h.lt, fun e he => ?_⟩
        · show (o.there.set i true).getD j false = (stAt (a.tab.set i _) j).pend
          rw [getD_set (by rw [h.j.len]; omega), stAt_set (by omega)]
          by_cases e : i = j
          · rw [if_pos e, if_pos e]
          · rw [if_neg e, if_neg e]; exact h.j.there j hj
        · rcases mem_snoc (show e ∈ a.evs ++ [_] from he) with he | rfl
          · exact h.ev e he
          · exact ⟨h.tt, by dsimp only; omega⟩
theorem OfP.turn {s : TSet} (hn8 : s.tasks.length ≤ 8) {k0 : List Ev} {o0 o : OfS} {t : Int} {k : KS} (h : OfP k0 o0 t s.tasks.length k.last k o) {m : Nat} (hm : m < s.tasks.length) (hlast : k.last < s.tasks.length) :
    ∃ o', OfP k0 o0 t s.tasks.length m (turnK s k m) o' ∧ o'.there = o.there := by
  have hpre : ∃ o1 cur, OfP k0 o0 t s.tasks.length cur (preK s k m) o1 ∧ o1.there = o.there ∧ (k.last = m → cur = k.last) := by
    unfold preK
    split
    · rename_i hc
      have hl : Log k0 (({ k with had := k.had.set k.last.toNat (heldO k.own k.last &&& (s.tk k.last.toNat).ucb.toNat) } : KS).tell 5 k.last 0) o0 (o.ev ⟨k.t, 5, k.last, 0⟩) := Log.tell (k := { k with had := _ }) h.log 5 k.last 0
      rw [OfS.ev_pre (by dsimp only; omega) rfl] at hl
      refine ⟨_, -1, ⟨hl, ⟨h.j.len, h.j.there, rfl, h.j.fin⟩, h.tt, h.lt, fun e he => ?_⟩, rfl, fun e => absurd e hc.2⟩
      rcases mem_snoc (show e ∈ k.evs ++ [_] from he) with he | rfl
      · exact h.ev e he
      · exact ⟨h.tt, by dsimp only; omega⟩
    · exact ⟨o, k.last, h, rfl, fun _ => rfl⟩
  obtain ⟨o1, cur, h1, e1, e2⟩ := hpre
  have hlt1 : (preK s k m).tab.length = s.tasks.length := by have := h1.lt; omega
  have htab : (preK s k m).tab = k.tab := by unfold preK; split <;> rfl
  have run : ∀ (k2 : KS) (a c : Int), (a = 4 ∨ a = 6) → k2.evs = (preK s k m).evs → k2.t = (preK s k m).t → k2.tab.length = (preK s k m).tab.length → (∀ j, (stAt k2.tab j).pend = (stAt (preK s k m).tab j).pend) → OfP k0 o0 t s.tasks.length m (k2.tell a m c) (o1.ev ⟨k2.t, a, m, c⟩) ∧ (o1.ev ⟨k2.t, a, m, c⟩).there = o1.there := by
    intro k2 a c ha he ht hl hp
    have hlog : Log k0 k2 o0 o1 := by
      obtain ⟨E, q1, q2⟩ := h1.log
      exact ⟨E, by rw [he, q1], q2⟩
    have h3 := hlog.tell a m c
    rw [OfS.ev_run (by dsimp only; omega) ha] at h3 ⊢
    refine ⟨⟨h3, ⟨h1.j.len, fun j hj => by show _ = (stAt k2.tab j).pend; rw [hp]; exact h1.j.there j hj, rfl, h1.j.fin⟩, by show k2.t = t; rw [ht]; exact h1.tt, by show (k2.tab.length : Int) = _; rw [hl]; exact h1.lt, fun e he' => ?_⟩, rfl⟩
    rcases mem_snoc (show e ∈ k2.evs ++ [_] from he') with he' | rfl
    · rw [he] at he'; exact h1.ev e he'
    · exact ⟨by rw [← h1.tt, ← ht], by dsimp only; omega⟩
  unfold turnK
  dsimp only
  split
  · rename_i hs0
    obtain ⟨q1, q2⟩ := run { (preK s k m) with tab := (preK s k m).tab.set m { stAt (preK s k m).tab m with start := true }, load := (preK s k m).load.set m 0 } 4 0 (.inl rfl) rfl rfl (by simp) (fun j => by
      dsimp only
      rw [stAt_set (by omega)]
      by_cases e : m = j
      · subst e; rw [if_pos rfl]
      · rw [if_neg e])
    exact ⟨_, q1, q2.trans e1⟩
  · rename_i hs0
    split
    · rename_i hne
      obtain ⟨q1, q2⟩ := run { (preK s k m) with load := (preK s k m).load.set m (s.reload * popK (lostO (preK s k m).own m ((preK s k m).had.getD m 0))), own := touchO (preK s k m).own m (lostO (preK s k m).own m ((preK s k m).had.getD m 0)) } 6 (s.reload * popK (lostO (preK s k m).own m ((preK s k m).had.getD m 0))) (.inr rfl) rfl rfl rfl (fun j => rfl)
      exact ⟨_, q1, q2.trans e1⟩
    · rename_i hne
      have hlm : k.last = m := by simpa using hne
      have ec := e2 hlm
      rw [hlm] at ec
      rw [ec] at h1
      exact ⟨o1, h1, e1⟩
theorem OfP.runs {s : TSet} (hn8 : s.tasks.length ≤ 8) {k0 : List Ev} {o0 o : OfS} {t : Int} {k : KS} {m : Nat} (h : OfP k0 o0 t s.tasks.length m k o) (hm : m < s.tasks.length) (hl : k.last = m) (touch : Nat) :
    ∃ o', Log k0 (runsK s k m touch) o0 o' ∧ OfJ (runsK s k m touch).tab o'.next (runsK s k m touch).last ∧ o'.there = o.there ∧ o'.now = m ∧ (∀ e ∈ (runsK s k m touch).evs, e.tick = t ∧ e.kind ≤ 9) ∧ (runsK s k m touch).t = t := by
  have hlt : k.tab.length = s.tasks.length := by have := h.lt; omega
  have hmid : ∀ b, OfJ (k.tab.set m { stAt k.tab m with mid := b }) o.next m := fun b => by
    unfold OfS.next
    rw [h.j.fin, if_neg (by simp)]
    refine ⟨h.j.len, fun j hj => ?_, h.j.now, rfl⟩
    show o.there.getD j false = _
    rw [stAt_set (by omega), h.j.there j hj]
    by_cases e : m = j
    · subst e; rw [if_pos rfl]
    · rw [if_neg e]
  have hend : ∀ (o2 : OfS) (e : Ev), o2.there = o.there → e.task = m → (e.kind = 8 ∨ e.kind = 9) → OfJ (k.tab.set m St.zero) (o2.ev e).next (-1) ∧ (o2.ev e).there = o.there ∧ (o2.ev e).now = o2.now := fun o2 e h1 h2 h3 => by
    rw [OfS.ev_end (by omega) h3]
    unfold OfS.next
    rw [if_pos rfl]
    dsimp only
    rw [h2, Int.toNat_natCast, h1]
    refine ⟨⟨by rw [List.length_set]; exact h.j.len, fun j hj => ?_, rfl, rfl⟩, rfl, rfl⟩
    dsimp only
    rw [getD_set (by rw [h.j.len]; omega), stAt_set (by omega), h.j.there j hj]
    by_cases e : m = j
    · rw [if_pos e, if_pos e]; rfl
    · rw [if_neg e, if_neg e]
  unfold runsK
  dsimp only
  split
  · refine ⟨o, h.log, ?_, rfl, h.j.now, h.ev, h.tt⟩
    dsimp only
    rw [hl]
    exact hmid true
  · generalize hp : (({ k with own := touchO k.own m (touch &&& (s.tk m).ecb.toNat) } : KS).jobs.getD m Jb.zero).step = p
    obtain ⟨j2, reg, how⟩ := p
    dsimp only
    generalize hk1 : ({ k with own := touchO k.own m (touch &&& (s.tk m).ecb.toNat), jobs := k.jobs.set m j2 } : KS) = k1
    have ht1 : k1.tab = k.tab := by rw [← hk1]
    have ht2 : k1.t = k.t := by rw [← hk1]
    have ht3 : k1.last = k.last := by rw [← hk1]
    have ht4 : k1.evs = k.evs := by rw [← hk1]
    have hlog1 : Log k0 k1 o0 o := by obtain ⟨E, h1, h2⟩ := h.log; exact ⟨E, by rw [ht4, h1], h2⟩
    have hk3 : ∃ k3, (if how = 1 ∨ how = 2 then k1.tell 7 m reg else k1) = k3 ∧ Log k0 k3 o0 o ∧ k3.tab = k.tab ∧ k3.t = t ∧ k3.last = k.last ∧ ∀ e ∈ k3.evs, e.tick = t ∧ e.kind ≤ 9 := by
      split
      · refine ⟨_, rfl, ?_, ht1, by show k1.t = t; rw [ht2, h.tt], ht3, fun e he => ?_⟩
        · have := hlog1.tell 7 m reg
          rwa [OfS.ev_skip (by dsimp only; omega)] at this
        · rcases mem_snoc (show e ∈ k1.evs ++ [_] from he) with he | rfl
          · rw [ht4] at he; exact h.ev e he
          · exact ⟨by dsimp only; rw [ht2, h.tt], by dsimp only; omega⟩
      · exact ⟨_, rfl, hlog1, ht1, by rw [ht2, h.tt], ht3, fun e he => by rw [ht4] at he; exact h.ev e he⟩
    obtain ⟨k3, e3, hlog3, q1, q2, q3, q4⟩ := hk3
    rw [e3]
    have over : ∀ kind c : Int, (kind = 8 ∨ kind = 9) → ∃ o', Log k0 { k3.tell kind m c with tab := k3.tab.set m St.zero, last := -1 } o0 o' ∧ OfJ (k3.tab.set m St.zero) o'.next (-1) ∧ o'.there = o.there ∧ o'.now = m ∧ (∀ e ∈ (k3.tell kind m c).evs, e.tick = t ∧ e.kind ≤ 9) := by
      intro kind c hk
      obtain ⟨a1, a2, a3⟩ := hend o ⟨k3.t, kind, m, c⟩ rfl rfl hk
      refine ⟨_, hlog3.tell kind m c, by rw [q1]; exact a1, a2, a3.trans h.j.now, fun e he => ?_⟩
      rcases mem_snoc (show e ∈ k3.evs ++ [_] from he) with he | rfl
      · exact q4 e he
      · exact ⟨q2, by dsimp only; omega⟩
    split
    · obtain ⟨o', a1, a2, a3, a4, a5⟩ := over 8 _ (.inl rfl)
      exact ⟨o', a1, a2, a3, a4, a5, q2⟩
    · split
      · obtain ⟨o', a1, a2, a3, a4, a5⟩ := over 9 _ (.inr rfl)
        exact ⟨o', a1, a2, a3, a4, a5, q2⟩
      · refine ⟨o, hlog3, ?_, rfl, h.j.now, q4, q2⟩
        dsimp only
        rw [q3, hl, q1]
        exact hmid _
/-- of a tick's events: who was pending when it was chosen, who ran -/
theorem of_step {s : TSet} (hs : KH s) {P : List Ev} {k : KS} (hI : KInv s P k) {o : OfS} (hJ : OfJ k.tab o k.last) (x : Inp) :
    ∃ o', (stepK s k x).evs.foldl OfS.ev o = o' ∧ OfJ (stepK s k x).tab o'.next (stepK s k x).last ∧ o'.now = (stepK s k x).ran ∧ (∀ e ∈ (stepK s k x).evs, e.tick = k.t) ∧
      ((stepK s k x).ran = -1 → risingL o'.there = [] ∧ ∃ e ∈ (stepK s k x).evs, e.kind = 10) ∧ ((stepK s k x).ran ≠ -1 → (stepK s k x).ran ∈ risingL o'.there ∧ ∀ e ∈ (stepK s k x).evs, e.kind ≠ 10) := by
  have hn8 := hs.len.2
  have h1 := (hI.lb.late).arrive hs x
  have h0 : OfP [] o k.t s.tasks.length k.last { k with evs := [] } o := ⟨⟨[], rfl, rfl⟩, hJ, rfl, by show (k.tab.length : Int) = _; rw [hI.lb.inv.lt], fun e he => by cases he⟩
  obtain ⟨o1, h2⟩ := (h0.late (s := s)).arrive hn8 x
  have hl1 : (arriveK s x (lateK s { k with evs := [] })).last = k.last := by rw [(arrive_t _ _ _).2, (late_t _ _).2]
  unfold stepK
  dsimp only
  generalize arriveK s x (lateK s { k with evs := [] }) = k1 at h1 h2 hl1
  have hlt := h1.inv.lt
  rcases Int.lt_or_le (chooseS s k1.tab k1.last k1.t) 0 with hneg | hpos
  · have hc : chooseS s k1.tab k1.last k1.t = -1 ∧ k1.last = -1 ∧ ∀ j, j < k1.tab.length → (stAt k1.tab j).pend = false := by
      rcases choose_spec s k1.tab k1.last k1.t with ⟨h4, h5⟩ | ⟨_, h5, h6⟩ | ⟨_, m, h5, _⟩
      · rw [h5] at hneg
        unfold heldS at h4
        rw [decide_eq_false (by omega)] at h4
        cases h4
      · refine ⟨h5, ?_, h6⟩
        rcases h1.inv.curs with hl | ⟨a, b, c, _⟩
        · exact hl
        · rw [h6 _ (by omega)] at c; cases c
      · omega
    rw [if_pos hc.1]
    have hl := h2.log.tell 10 (-1) 0
    rw [OfS.ev_skip (by dsimp only; omega)] at hl
    obtain ⟨E, q1, q2⟩ := hl
    rw [List.nil_append] at q1
    refine ⟨o1, by show (k1.tell 10 (-1) 0).evs.foldl _ _ = _; rw [q1]; exact q2, ?_, ?_, fun e he => ?_, fun _ => ⟨?_, _, List.mem_append_right _ (List.mem_singleton.2 rfl), rfl⟩, fun hn => absurd hc.1 hn⟩
    · unfold OfS.next
      rw [h2.j.fin, if_neg (by simp)]
      refine ⟨h2.j.len, h2.j.there, ?_, rfl⟩
      show o1.now = k1.last
      rw [h2.j.now, hl1]
    · show o1.now = chooseS _ _ _ _
      rw [h2.j.now, hc.1, ← hl1]
      exact hc.2.1
    · rcases mem_snoc (show e ∈ k1.evs ++ [_] from he) with he | rfl
      · exact (h2.ev e he).1
      · exact h2.tt
    · refine List.eq_nil_iff_forall_not_mem.2 fun y hy => ?_
      obtain ⟨i, hi, _, ht⟩ := mem_rising.1 hy
      rw [h2.j.there i hi] at ht
      by_cases hin : i < k1.tab.length
      · rw [hc.2.2 i hin] at ht; cases ht
      · rw [stAt_out (by omega)] at ht; cases ht
  · obtain ⟨m, hm⟩ := Int.eq_ofNat_of_zero_le hpos
    rw [hm, if_neg (by omega), Int.toNat_natCast]
    obtain ⟨a1, a2, a3, a4, a5, a6, a7, a8, a9⟩ := h1.turn hs hm
    have hlast : k1.last < s.tasks.length := by
      rcases h1.inv.curs with hl | ⟨_, b, _⟩
      · omega
      · exact b
    have h2' : OfP [] o k.t s.tasks.length k1.last k1 o1 := by rw [hl1]; exact h2
    obtain ⟨o2, h3, e3⟩ := h2'.turn hn8 a5 hlast
    obtain ⟨o3, b1, b2, b3, b4, b5, b6⟩ := OfP.runs hn8 (k := { turnK s k1 m with last := (m : Int) }) ⟨h3.log, h3.j, h3.tt, h3.lt, h3.ev⟩ a5 rfl x.touch
    obtain ⟨E, q1, q2⟩ := b1
    rw [List.nil_append] at q1
    refine ⟨o3, by show (runsK s _ m x.touch).evs.foldl _ _ = _; rw [q1]; exact q2, b2, b4, fun e he => (b5 e he).1, fun hn => absurd hn (by show ¬ (m : Int) = -1; omega), fun _ => ⟨?_, fun e he => by have := (b5 e he).2; omega⟩⟩
    refine mem_rising.2 ⟨m, by omega, rfl, ?_⟩
    rw [b3, e3, h2.j.there m (by omega), ← (a9 m).1]
    exact a6
theorem runK_ge {s : TSet} (hs : KH s) : ∀ (l : List Inp) (P : List Ev) (k : KS) (o : OfS), KInv s P k → OfJ k.tab o k.last → ∀ e ∈ (runK s l k).1, k.t ≤ e.tick
  | [], _, _, _, _, _ => fun e he => by simp [runK] at he
  | x :: l, P, k, o, hI, hJ => fun e he => by
    obtain ⟨o', h1, h2, h3, h4, _⟩ := of_step hs hI hJ x
    obtain ⟨i1, i2⟩ := hI.step hs x
    rcases List.mem_append.1 (show e ∈ (stepK s k x).evs ++ (runK s l (stepK s k x)).1 from he) with he | he
    · rw [h4 e he]; exact Int.le_refl _
    · have := runK_ge hs l _ _ _ i1 h2 e he
      omega
theorem takeWhile_at {A B : List Ev} {t : Int} (hA : ∀ e ∈ A, e.tick = t) (hB : ∀ e ∈ B, t + 1 ≤ e.tick) : ((A ++ B).takeWhile fun e => decide (e.tick = t)) = A := by
  induction A with
  | nil =>
    cases B with
    | nil => rfl
    | cons b B =>
      have := hB b (by simp)
      rw [List.nil_append, List.takeWhile_cons_of_neg]
      rw [decide_eq_true_eq]
      omega
  | cons a A ih =>
    rw [List.cons_append, List.takeWhile_cons_of_pos (by rw [decide_eq_true_eq]; exact hA a (by simp)), ih (fun e he => hA e (by simp [he]))]
/-- behind the first ticks -/
structure OfAt (s : TSet) (l : List Inp) (m : Nat) (k : KS) (P : List Ev) (x : OfTk) : Prop where
  inv : KInv s P k
  t : k.t = m
  eq : eventsK s l = P ++ x.rest
  rest : x.rest = (runK s (l.drop m) k).1
  j : OfJ k.tab x.o k.last
  lr : x.ran.length = m
  lp : x.pend.length = m
  each : ∀ i, i < m → (x.ran.getD i 0 = -1 ∨ x.ran.getD i 0 ∈ x.pend.getD i []) ∧ (x.pend.getD i [] = [] ↔ ∃ e ∈ P, e.tick = i ∧ e.kind = 10)
theorem getD_snoc {α : Type} {l : List α} {x d : α} {i n : Nat} (hl : l.length = n) (hi : i < n + 1) : (l ++ [x]).getD i d = if i = n then x else l.getD i d := by
  by_cases e : i = n
  · subst e; subst hl
    simp [List.getD]
  · rw [if_neg e]
    simp only [List.getD]
    rw [List.getElem?_append_left (by omega)]
theorem OfAt.zero {s : TSet} (hs : KH s) (l : List Inp) : OfAt s l 0 (initK s) [] (OfTk.init (eventsK s l)) := by
  refine ⟨KInv.init hs, rfl, rfl, rfl, ⟨rfl, fun i hi => ?_, rfl, rfl⟩, rfl, rfl, fun i hi => by omega⟩
  have h1 : (List.replicate 8 false).getD i false = false := by
    simp only [List.getD, List.getElem?_replicate]
    split <;> rfl
  have h2 : stAt (initK s).tab i = St.zero := by
    unfold stAt initK
    simp only [List.getD, List.getElem?_replicate]
    split <;> rfl
  show (List.replicate 8 false).getD i false = _
  rw [h1, h2]; rfl
theorem OfAt.next {s : TSet} (hs : KH s) {l : List Inp} {m : Nat} {k : KS} {P : List Ev} {x : OfTk} (h : OfAt s l m k P x) (hm : m < l.length) : OfAt s l (m + 1) (stepK s k l[m]) (P ++ (stepK s k l[m]).evs) (x.tick m) := by
  obtain ⟨o', h1, h2, h3, h4, h5, h6⟩ := of_step hs h.inv h.j l[m]
  obtain ⟨i1, i2⟩ := h.inv.step hs l[m]
  have hr : x.rest = (stepK s k l[m]).evs ++ (runK s (l.drop (m + 1)) (stepK s k l[m])).1 := by
    rw [h.rest, List.drop_eq_getElem_cons hm]
    rfl
  have hge := runK_ge hs (l.drop (m + 1)) _ _ _ i1 h2
  have ht := h.t
  have he : x.evs m = (stepK s k l[m]).evs := by
    unfold OfTk.evs
    rw [hr]
    exact takeWhile_at (fun e he => by rw [h4 e he]; exact ht) (fun e he => by have := hge e he; omega)
  have hO : (x.evs m).foldl OfS.ev x.o = o' := by rw [he]; exact h1
  have hran : (x.tick m).ran = x.ran ++ [o'.now] := by unfold OfTk.tick; rw [hO]
  have hpend : (x.tick m).pend = x.pend ++ [risingL o'.there] := by unfold OfTk.tick; rw [hO]
  have hrest : (x.tick m).rest = (runK s (l.drop (m + 1)) (stepK s k l[m])).1 := by
    unfold OfTk.tick
    rw [he, hr]
    show List.drop _ _ = _
    rw [List.drop_left]
  have ho : (x.tick m).o = o'.next := by unfold OfTk.tick; rw [hO]
  refine ⟨i1, by rw [i2, ht]; push_cast; rfl, ?_, hrest, by rw [ho]; exact h2, by rw [hran, List.length_append, h.lr]; rfl, by rw [hpend, List.length_append, h.lp]; rfl, fun i hi => ?_⟩
  · rw [hrest, List.append_assoc, ← hr]; exact h.eq
  · rw [hran, hpend, getD_snoc h.lr hi, getD_snoc h.lp hi]
    by_cases e : i = m
    · subst e
      rw [if_pos rfl, if_pos rfl]
      by_cases hn : (stepK s k l[i]).ran = -1
      · obtain ⟨q1, e, q2, q3⟩ := h5 hn
        exact ⟨.inl (by rw [h3, hn]), fun _ => ⟨e, List.mem_append_right _ q2, by rw [h4 e q2, ht], q3⟩, fun _ => q1⟩
      · obtain ⟨q1, q2⟩ := h6 hn
        refine ⟨.inr (by rw [h3]; exact q1), fun e => ?_, ?_⟩
        · rw [e] at q1; cases q1
        · rintro ⟨e, he, e1, e2⟩
          rcases List.mem_append.1 he with he | he
          · have := (h.inv.lb.inv.past e he).2
            have e3 : ({ k with evs := [] } : KS).t = k.t := rfl
            omega
          · exact absurd e2 (q2 e he)
    · rw [if_neg e, if_neg e]
      obtain ⟨q1, q2⟩ := h.each i (by omega)
      refine ⟨q1, q2.trans ⟨fun ⟨e, a, b⟩ => ⟨e, List.mem_append_left _ a, b⟩, ?_⟩⟩
      rintro ⟨e', he, e1, e2⟩
      rcases List.mem_append.1 he with he | he
      · exact ⟨e', he, e1, e2⟩
      · have := h4 e' he
        omega
theorem OfAt.of {s : TSet} (hs : KH s) (l : List Inp) : ∀ m, m ≤ l.length → ∃ k P, OfAt s l m k P (ofT (eventsK s l) m)
  | 0, _ => ⟨initK s, [], OfAt.zero hs l⟩
  | m + 1, hm => by
    obtain ⟨k, P, h⟩ := OfAt.of hs l m (by omega)
    rw [ofT_succ]
    exact ⟨_, _, h.next hs (by omega)⟩
/-- what the walks of a run ask -/
theorem of_all {s : TSet} (hs : KH s) (l : List Inp) : (ofT (eventsK s l) l.length).ran.length = l.length ∧ (ofT (eventsK s l) l.length).pend.length = l.length ∧
    ∀ i, i < l.length → ((ofT (eventsK s l) l.length).ran.getD i 0 = -1 ∨ (ofT (eventsK s l) l.length).ran.getD i 0 ∈ (ofT (eventsK s l) l.length).pend.getD i []) ∧
      ((ofT (eventsK s l) l.length).pend.getD i [] = [] ↔ ∃ e ∈ eventsK s l, e.tick = i ∧ e.kind = 10) := by
  obtain ⟨k, P, h⟩ := OfAt.of hs l l.length (Nat.le_refl _)
  have he : eventsK s l = P := by
    have := h.eq
    rw [h.rest, List.drop_length] at this
    simpa [runK] using this
  refine ⟨h.lr, h.lp, fun i hi => ?_⟩
  have := h.each i hi
  rw [← he] at this
  exact this
end Go.Proofs.YtniejidekflmiaaGreatDoor
/- Plain: fair, once, loads: of a row of events. -/
namespace Go.Proofs.YtniejidekflmiaaGreatDoor

def Ev.zero : Ev := ⟨0, 0, 0, 0⟩
def evAt (L : List Ev) (i : Nat) : Ev := L.getD i Ev.zero
def thrB (th : Int) (e : Ev) : Bool := (decide (e.kind = 4) || decide (e.kind = 6)) && decide (e.task < th)
def sameT (L : List Ev) (i : Nat) : List Ev := (L.drop (i + 1)).takeWhile fun x => decide (x.tick = (evAt L i).tick)
def oldV (o : Option Int) : Int := match o with | some a => a | none => -1
def fairAt (s : TSet) (L : List Ev) (i : Nat) : Bool :=
  if (evAt L i).kind ≠ 5 ∨ (evAt L i).task < 0 ∨ (s.tasks.length : Int) ≤ (evAt L i).task then true
  else if (s.tk (evAt L i).task.toNat).mode = 0 then decide (lastL (L.take i) (evAt L i).task = 7)
  else if (s.tk (evAt L i).task.toNat).mode = 1 then decide (0 ≤ oldV (oldE (L.take i) (evAt L i).task.toNat)) && decide (oldV (oldE (L.take i) (evAt L i).task.toNat) + (s.tk (evAt L i).task.toNat).q = (evAt L i).tick)
  else (sameT L i).any (thrB (s.tk (evAt L i).task.toNat).theta)
def fairB (s : TSet) (L : List Ev) : Bool := (List.range L.length).all (fairAt s L)
theorem evAt_in {L : List Ev} {i : Nat} (h : i < L.length) : evAt L i = L[i] := by
  unfold evAt
  simp [List.getD, h]
theorem split_at {L : List Ev} {i : Nat} (h : i < L.length) : L = L.take i ++ evAt L i :: L.drop (i + 1) := by
  rw [evAt_in h, ← List.drop_eq_getElem_cons h, List.take_append_drop]
theorem since_nn {L : List Ev} (h : ∀ e ∈ L, 0 ≤ e.tick) : ∀ (i a : Int), sinceL L i = some a → 0 ≤ a := by
  have : ∀ (n : Nat), n ≤ L.length → ∀ (i a : Int), sinceL (L.take n) i = some a → 0 ≤ a := by
    intro n
    induction n with
    | zero => intro _ i a h; simp [sinceL] at h
    | succ n ih =>
      intro hn i a hs
      rw [List.take_succ_eq_append_getElem (by omega), since_snoc] at hs
      split at hs
      · split at hs
        · cases hs; exact h _ (List.getElem_mem _)
        · split at hs
          · cases hs
          · exact ih (by omega) i a hs
      · exact ih (by omega) i a hs
  intro i a hs
  have := this L.length (Nat.le_refl _)
  rw [List.take_length] at this
  exact this i a hs
theorem old_nn {L : List Ev} (h : ∀ e ∈ L, 0 ≤ e.tick) {i : Nat} {a : Int} (ho : oldE L i = some a) : 0 ≤ a := by
  unfold oldE at ho
  obtain ⟨h1, _⟩ := minO_some.1 ho
  obtain ⟨j, _, hj⟩ := List.mem_map.1 h1
  exact since_nn h j a hj
theorem fair_of {s : TSet} {L : List Ev} (hf : FairLog s L) (h0 : ∀ e ∈ L, 0 ≤ e.tick) (hs : L.Pairwise fun a b => a.tick ≤ b.tick) : fairB s L = true := by
  unfold fairB
  rw [List.all_eq_true]
  intro i hi
  have hi := List.mem_range.1 hi
  unfold fairAt
  split
  · rfl
  · rename_i hc
    have hk : (evAt L i).kind = 5 := by
      by_cases h : (evAt L i).kind = 5
      · exact h
      · exact absurd (.inl h) hc
    obtain ⟨h1, h2, h3⟩ := hf (L.take i) (evAt L i) (L.drop (i + 1)) (split_at hi) hk
    split
    · rename_i m0
      rw [if_pos m0] at h3
      exact decide_eq_true h3
    · rename_i m0
      rw [if_neg m0] at h3
      split
      · rename_i m1
        rw [if_pos m1] at h3
        obtain ⟨a, h4, h5⟩ := h3
        rw [h4]
        have := old_nn (fun e he => h0 e (List.mem_of_mem_take he)) h4
        show (decide (0 ≤ a) && decide (a + _ = _)) = true
        rw [decide_eq_true this, decide_eq_true h5]
        rfl
      · rename_i m1
        rw [if_neg m1] at h3
        obtain ⟨x, h4, h5, h6, h7⟩ := h3
        rw [List.any_eq_true]
        refine ⟨x, ?_, ?_⟩
        · unfold sameT
          have hp : (L.drop (i + 1)).Pairwise fun a b => a.tick ≤ b.tick := hs.sublist (List.drop_sublist _ _)
          have hge : ∀ y ∈ L.drop (i + 1), (evAt L i).tick ≤ y.tick := by
            have := split_at hi
            rw [this, List.pairwise_append] at hs
            have := (List.pairwise_cons.1 hs.2.1).1
            exact this
          generalize L.drop (i + 1) = R at h4 hp hge
          clear hf hs h0 hi hc
          induction R with
          | nil => cases h4
          | cons y R ih =>
            have hy := hge y (by simp)
            have hle : y.tick ≤ x.tick := by
              rcases List.mem_cons.1 h4 with rfl | h4
              · exact Int.le_refl _
              · exact (List.pairwise_cons.1 hp).1 x h4
            rw [List.takeWhile_cons_of_pos (by rw [decide_eq_true_eq]; omega)]
            rcases List.mem_cons.1 h4 with rfl | h4
            · simp
            · exact List.mem_cons_of_mem _ (ih h4 (List.pairwise_cons.1 hp).2 (fun z hz => hge z (by simp [hz])))
        · unfold thrB
          rw [decide_eq_true h7, Bool.and_true, Bool.or_eq_true]
          rcases h6 with h | h
          · exact .inl (decide_eq_true h)
          · exact .inr (decide_eq_true h)
/-- each job Starts once, ends once -/
def fromK (kind : Int) : Option (Int × Int) :=
  if kind = 1 then some (0, 1) else if kind = 4 then some (1, 2) else if kind = 5 then some (2, 3) else if kind = 6 then some (3, 2) else if kind = 8 ∨ kind = 9 then some (2, 0) else none
theorem onceS_of (a kind : Int) : onceS a kind = match fromK kind with | none => a | some (x, y) => if a = x then y else -9 := by
  unfold onceS fromK
  split
  · rfl
  · split
    · rfl
    · split
      · rfl
      · split
        · rfl
        · split
          · rfl
          · rfl
theorem onceS_bad (kind : Int) : onceS (-9) kind = -9 := by
  unfold onceS
  repeat' split
  all_goals first | rfl | (rename_i h; omega) | omega
theorem once_bad (L : List Ev) (M : List Ev) (i : Int) (h : onceL L i = -9) : onceL (L ++ M) i = -9 := by
  induction M generalizing L with
  | nil => rw [List.append_nil]; exact h
  | cons e M ih =>
    rw [show L ++ e :: M = (L ++ [e]) ++ M by simp]
    apply ih
    rw [once_snoc]
    split
    · rw [h, onceS_bad]
    · exact h
/-- all of a run's events -/
structure AllEv (s : TSet) (n : Nat) (L : List Ev) : Prop where
  fair : FairLog s L
  ok : ∀ e ∈ L, okEv s.tasks.length e
  tick : ∀ e ∈ L, 0 ≤ e.tick ∧ e.tick < n
  sorted : L.Pairwise fun a b => a.tick ≤ b.tick
  once : ∀ i : Nat, i < s.tasks.length → ∀ m, onceL (L.take m) i ≠ -9
  res : ∀ e ∈ L, e.kind = 6 → 0 ≤ e.n ∧ e.n ≤ s.reload * popK (s.tk e.task.toNat).ucb.toNat
theorem allEv {s : TSet} (hs : KH s) (l : List Inp) : AllEv s l.length (eventsK s l) := by
  obtain ⟨k, P, h⟩ := OfAt.of hs l l.length (Nat.le_refl _)
  have he : eventsK s l = P := by
    have := h.eq
    rw [h.rest, List.drop_length] at this
    simpa [runK] using this
  rw [he]
  have hk : P ++ ({ k with evs := [] } : KS).evs = P := List.append_nil _
  have hL := h.inv.lb
  have hi := hL.inv
  have hf := hL.fair
  rw [hk] at hf
  refine ⟨hf, fun e he => ?_, fun e he => by have := hi.past e he; have := h.t; exact ⟨by omega, by show e.tick < _; have e2 : ({ k with evs := [] } : KS).t = k.t := rfl; omega⟩, hi.sorted, fun i hi2 m hbad => ?_, fun e he => ?_⟩
  · exact hi.ok e (by rw [hk]; exact he)
  · have h1 := hi.once i hi2
    rw [hk] at h1
    have h2 := once_bad _ (P.drop m) i hbad
    rw [List.take_append_drop] at h2
    rw [h2] at h1
    unfold onceOf at h1
    split at h1
    · omega
    · split at h1
      · omega
      · split at h1
        · omega
        · omega
  · exact hi.res e (by rw [hk]; exact he)
end Go.Proofs.YtniejidekflmiaaGreatDoor
