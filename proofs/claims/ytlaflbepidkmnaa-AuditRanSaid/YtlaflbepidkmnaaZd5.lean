/- Lemmas: Plain: of events, who was pending, who ran; TskO; Rows that come in: numbers, structs, inputs; Who comes too early; The kernel: one event more; Tsk4; A set of texts, kept as a map from texts to bools; Sets of tasks: may they be?; ref2.Ints; Sets that come in. -/
import Derived.Test.YtlaflbepidkmnaaProg
import Derived.Test.YtlaflbepidkmnaaZd4
import Init
import Derived.RowKit
import Derived.ChangeSlices
import Derived.Deep.Fields
import Derived.WideShapes
import Derived.Deep.Slices
import Derived.Deep.Cut
import Derived.Lib.Hide
import Derived.OwnWalk
import Derived.Maps.AppendAt
import Derived.BigQuiet
import Derived.Deep.QuietTactic
import Derived.Maps.Views
import Derived.Maps.Own
import Derived.OpenShut
import Derived.StringKeys
import Derived.SizedLaws
/- KO -/
namespace Go.Proofs.Ytlaflbepidkmnaa

structure OfS where
  there : List Bool
  now : Int
  fin : Bool
  at' : Int
def Ev.isTask (e : Ev) : Bool := decide (0 ≤ e.task) && decide (e.task < 8)
def OfS.ev (o : OfS) (e : Ev) : OfS :=
  if e.isTask = false then o
  else if e.kind = 1 then { o with there := o.there.set e.task.toNat true }
  else if e.kind = 5 then { o with now := -1 }
  else if e.kind = 4 ∨ e.kind = 6 then { o with now := e.task }
  else if e.kind = 8 ∨ e.kind = 9 then { o with fin := true, at' := e.task }
  else o
def risingL (there : List Bool) : List Int := ((List.range 8).filter fun i => there.getD i false).map Int.ofNat
def OfS.next (o : OfS) : OfS := if o.fin = true then ⟨o.there.set o.at'.toNat false, -1, false, 0⟩ else ⟨o.there, o.now, false, 0⟩
structure OfTk where
  rest : List Ev
  o : OfS
  ran : List Int
  pend : List (List Int)
def OfTk.evs (x : OfTk) (t : Int) : List Ev := x.rest.takeWhile fun e => decide (e.tick = t)
def OfTk.tick (x : OfTk) (t : Int) : OfTk :=
  ⟨x.rest.drop (x.evs t).length, ((x.evs t).foldl OfS.ev x.o).next, x.ran ++ [((x.evs t).foldl OfS.ev x.o).now], x.pend ++ [risingL ((x.evs t).foldl OfS.ev x.o).there]⟩
def OfS.init : OfS := ⟨List.replicate 8 false, -1, false, 0⟩
def OfTk.init (l : List Ev) : OfTk := ⟨l, OfS.init, [], []⟩
def ofT (l : List Ev) (n : Nat) : OfTk := (List.range n).foldl (fun (x : OfTk) (t : Nat) => x.tick (t : Int)) (OfTk.init l)
theorem ofT_succ (l : List Ev) (n : Nat) : ofT l (n + 1) = (ofT l n).tick n := by
  unfold ofT
  rw [List.range_succ, List.foldl_append]
  rfl
theorem mem_rising {there : List Bool} {x : Int} : x ∈ risingL there ↔ ∃ i : Nat, i < 8 ∧ x = i ∧ there.getD i false = true := by
  unfold risingL
  simp only [List.mem_map, List.mem_filter, List.mem_range]
  constructor
  · rintro ⟨i, ⟨h1, h2⟩, rfl⟩
    exact ⟨i, h1, rfl, h2⟩
  · rintro ⟨i, h1, rfl, h2⟩
    exact ⟨i, ⟨h1, h2⟩, rfl⟩
/-- who is there, by states -/
structure OfJ (tab : List St) (o : OfS) (cur : Int) : Prop where
  len : o.there.length = 8
  there : ∀ i, i < 8 → o.there.getD i false = (stAt tab i).pend
  now : o.now = cur
  fin : o.fin = false
def Log (k0 : List Ev) (k : KS) (o0 o : OfS) : Prop := ∃ E, k.evs = k0 ++ E ∧ E.foldl OfS.ev o0 = o
theorem Log.refl (k : KS) (o : OfS) : Log k.evs k o o := ⟨[], by simp, rfl⟩
theorem Log.tell {k0 : List Ev} {k : KS} {o0 o : OfS} (h : Log k0 k o0 o) (a b c : Int) : Log k0 (k.tell a b c) o0 (o.ev ⟨k.t, a, b, c⟩) := by
  obtain ⟨E, h1, h2⟩ := h
  refine ⟨E ++ [⟨k.t, a, b, c⟩], by simp [KS.tell, h1], ?_⟩
  rw [List.foldl_append, h2]
  rfl
theorem OfS.ev_skip {o : OfS} {e : Ev} (h : e.kind = 2 ∨ e.kind = 3 ∨ e.kind = 7 ∨ e.kind = 10) : o.ev e = o := by
  unfold OfS.ev
  split
  · rfl
  · rw [if_neg (by omega), if_neg (by omega), if_neg (by omega), if_neg (by omega)]
theorem isTask_of {e : Ev} (h : 0 ≤ e.task ∧ e.task < 8) : e.isTask = true := by
  unfold Ev.isTask
  rw [decide_eq_true h.1, decide_eq_true h.2]; rfl
theorem OfS.ev_admit {o : OfS} {e : Ev} (h : 0 ≤ e.task ∧ e.task < 8) (hk : e.kind = 1) : o.ev e = { o with there := o.there.set e.task.toNat true } := by
  unfold OfS.ev
  rw [isTask_of h, if_neg (by simp), if_pos hk]
theorem OfS.ev_pre {o : OfS} {e : Ev} (h : 0 ≤ e.task ∧ e.task < 8) (hk : e.kind = 5) : o.ev e = { o with now := -1 } := by
  unfold OfS.ev
  rw [isTask_of h, if_neg (by simp), if_neg (by omega), if_pos hk]
theorem OfS.ev_run {o : OfS} {e : Ev} (h : 0 ≤ e.task ∧ e.task < 8) (hk : e.kind = 4 ∨ e.kind = 6) : o.ev e = { o with now := e.task } := by
  unfold OfS.ev
  rw [isTask_of h, if_neg (by simp), if_neg (by omega), if_neg (by omega), if_pos hk]
theorem OfS.ev_end {o : OfS} {e : Ev} (h : 0 ≤ e.task ∧ e.task < 8) (hk : e.kind = 8 ∨ e.kind = 9) : o.ev e = { o with fin := true, at' := e.task } := by
  unfold OfS.ev
  rw [isTask_of h, if_neg (by simp), if_neg (by omega), if_neg (by omega), if_neg (by omega), if_pos hk]
/-- what the phases keep -/
structure OfP (k0 : List Ev) (o0 : OfS) (t n cur : Int) (k : KS) (o : OfS) : Prop where
  log : Log k0 k o0 o
  j : OfJ k.tab o cur
  tt : k.t = t
  lt : (k.tab.length : Int) = n
  ev : ∀ e ∈ k.evs, e.tick = t ∧ e.kind ≤ 9
theorem OfP.skip {k0 : List Ev} {o0 o : OfS} {t n cur : Int} {k : KS} (h : OfP k0 o0 t n cur k o) {a b c : Int} (ha : a = 2 ∨ a = 3 ∨ a = 7) : OfP k0 o0 t n cur (k.tell a b c) o := by
  have hl := h.log.tell a b c
  rw [OfS.ev_skip (by dsimp only; omega)] at hl
  refine ⟨hl, h.j, h.tt, h.lt, fun e he => ?_⟩
  rcases mem_snoc (show e ∈ k.evs ++ [_] from he) with he | rfl
  · exact h.ev e he
  · exact ⟨h.tt, by dsimp only; omega⟩
theorem OfP.late {s : TSet} {k0 : List Ev} {o0 o : OfS} {t n cur : Int} {k : KS} (h : OfP k0 o0 t n cur k o) : OfP k0 o0 t n cur (lateK s k) o :=
  fold_range (fun k' => OfP k0 o0 t n cur k' o) (late1 s) _ k h fun a i _ h => by
    unfold late1
    split
    · exact h.skip (.inr (.inl rfl))
    · exact h
theorem OfP.arrive {s : TSet} (hn8 : s.tasks.length ≤ 8) {k0 : List Ev} {o0 o : OfS} {t cur : Int} {k : KS} (h : OfP k0 o0 t s.tasks.length cur k o) (x : Inp) : ∃ o', OfP k0 o0 t s.tasks.length cur (arriveK s x k) o' := by
  refine fold_range (fun k' => ∃ o', OfP k0 o0 t s.tasks.length cur k' o') (arrive1 s x) _ k ⟨o, h⟩ fun a i hi h => ?_
  obtain ⟨o, h⟩ := h
  unfold arrive1
  split
  · exact ⟨o, h⟩
  · split
    · exact ⟨o, h.skip (.inl rfl)⟩
    · split
      · exact ⟨o, h.skip (.inl rfl)⟩
      · have hlt : a.tab.length = s.tasks.length := by have := h.lt; omega
        have hl : Log k0 (admitK s x a i) o0 (o.ev ⟨a.t, 1, i, 0⟩) := by
          obtain ⟨E, h1, h2⟩ := h.log
          refine ⟨E ++ [⟨a.t, 1, i, 0⟩], by simp [admitK, KS.tell, h1], ?_⟩
          rw [List.foldl_append, h2]
          rfl
        rw [OfS.ev_admit (by dsimp only; omega) rfl] at hl
        dsimp only at hl
        rw [Int.toNat_natCast] at hl
        refine ⟨_, hl, ⟨by rw [List.length_set]; exact h.j.len, fun j hj => ?_, h.j.now, h.j.fin⟩, h.tt, by show ((a.tab.set i _).length : Int) = _; rw [List.length_set]; exact h.lt, fun e he => ?_⟩
        · show (o.there.set i true).getD j false = (stAt (a.tab.set i _) j).pend
          rw [getD_set (by rw [h.j.len]; omega), stAt_set (by omega)]
          by_cases e : i = j
          · rw [if_pos e, if_pos e]
          · rw [if_neg e, if_neg e]; exact h.j.there j hj
        · rcases mem_snoc (show e ∈ a.evs ++ [_] from he) with he | rfl
          · exact h.ev e he
          · exact ⟨h.tt, by dsimp only; omega⟩
theorem OfP.turn {s : TSet} (hn8 : s.tasks.length ≤ 8) {k0 : List Ev} {o0 o : OfS} {t : Int} {k : KS} (h : OfP k0 o0 t s.tasks.length k.last k o) {m : Nat} (hm : m < s.tasks.length) (hlast : k.last < s.tasks.length) :
    ∃ o', OfP k0 o0 t s.tasks.length m (turnK s k m) o' ∧ o'.there = o.there := by
  have hpre : ∃ o1 cur, OfP k0 o0 t s.tasks.length cur (preK s k m) o1 ∧ o1.there = o.there ∧ (k.last = m → cur = k.last) := by
    unfold preK
    split
    · rename_i hc
      have hl : Log k0 (({ k with had := k.had.set k.last.toNat (heldO k.own k.last &&& (s.tk k.last.toNat).ucb.toNat) } : KS).tell 5 k.last 0) o0 (o.ev ⟨k.t, 5, k.last, 0⟩) := Log.tell (k := { k with had := _ }) h.log 5 k.last 0
      rw [OfS.ev_pre (by dsimp only; omega) rfl] at hl
      refine ⟨_, -1, ⟨hl, ⟨h.j.len, h.j.there, rfl, h.j.fin⟩, h.tt, h.lt, fun e he => ?_⟩, rfl, fun e => absurd e hc.2⟩
      rcases mem_snoc (show e ∈ k.evs ++ [_] from he) with he | rfl
      · exact h.ev e he
      · exact ⟨h.tt, by dsimp only; omega⟩
    · exact ⟨o, k.last, h, rfl, fun _ => rfl⟩
  obtain ⟨o1, cur, h1, e1, e2⟩ := hpre
  have hlt1 : (preK s k m).tab.length = s.tasks.length := by have := h1.lt; omega
  have htab : (preK s k m).tab = k.tab := by unfold preK; split <;> rfl
  have run : ∀ (k2 : KS) (a c : Int), (a = 4 ∨ a = 6) → k2.evs = (preK s k m).evs → k2.t = (preK s k m).t → k2.tab.length = (preK s k m).tab.length → (∀ j, (stAt k2.tab j).pend = (stAt (preK s k m).tab j).pend) → OfP k0 o0 t s.tasks.length m (k2.tell a m c) (o1.ev ⟨k2.t, a, m, c⟩) ∧ (o1.ev ⟨k2.t, a, m, c⟩).there = o1.there := by
    intro k2 a c ha he ht hl hp
    have hlog : Log k0 k2 o0 o1 := by
      obtain ⟨E, q1, q2⟩ := h1.log
      exact ⟨E, by rw [he, q1], q2⟩
    have h3 := hlog.tell a m c
    rw [OfS.ev_run (by dsimp only; omega) ha] at h3 ⊢
    refine ⟨⟨h3, ⟨h1.j.len, fun j hj => by show _ = (stAt k2.tab j).pend; rw [hp]; exact h1.j.there j hj, rfl, h1.j.fin⟩, by show k2.t = t; rw [ht]; exact h1.tt, by show (k2.tab.length : Int) = _; rw [hl]; exact h1.lt, fun e he' => ?_⟩, rfl⟩
    rcases mem_snoc (show e ∈ k2.evs ++ [_] from he') with he' | rfl
    · rw [he] at he'; exact h1.ev e he'
    · exact ⟨by rw [← h1.tt, ← ht], by dsimp only; omega⟩
  unfold turnK
  dsimp only
  split
  · rename_i hs0
    obtain ⟨q1, q2⟩ := run { (preK s k m) with tab := (preK s k m).tab.set m { stAt (preK s k m).tab m with start := true }, load := (preK s k m).load.set m 0 } 4 0 (.inl rfl) rfl rfl (by simp) (fun j => by
      dsimp only
      rw [stAt_set (by omega)]
      by_cases e : m = j
      · subst e; rw [if_pos rfl]
      · rw [if_neg e])
    exact ⟨_, q1, q2.trans e1⟩
  · rename_i hs0
    split
    · rename_i hne
      obtain ⟨q1, q2⟩ := run { (preK s k m) with load := (preK s k m).load.set m (s.reload * popK (lostO (preK s k m).own m ((preK s k m).had.getD m 0))), own := touchO (preK s k m).own m (lostO (preK s k m).own m ((preK s k m).had.getD m 0)) } 6 (s.reload * popK (lostO (preK s k m).own m ((preK s k m).had.getD m 0))) (.inr rfl) rfl rfl rfl (fun j => rfl)
      exact ⟨_, q1, q2.trans e1⟩
    · rename_i hne
      have hlm : k.last = m := by simpa using hne
      have ec := e2 hlm
      rw [hlm] at ec
      rw [ec] at h1
      exact ⟨o1, h1, e1⟩
theorem OfP.runs {s : TSet} (hn8 : s.tasks.length ≤ 8) {k0 : List Ev} {o0 o : OfS} {t : Int} {k : KS} {m : Nat} (h : OfP k0 o0 t s.tasks.length m k o) (hm : m < s.tasks.length) (hl : k.last = m) (touch : Nat) :
    ∃ o', Log k0 (runsK s k m touch) o0 o' ∧ OfJ (runsK s k m touch).tab o'.next (runsK s k m touch).last ∧ o'.there = o.there ∧ o'.now = m ∧ (∀ e ∈ (runsK s k m touch).evs, e.tick = t ∧ e.kind ≤ 9) ∧ (runsK s k m touch).t = t := by
  have hlt : k.tab.length = s.tasks.length := by have := h.lt; omega
  have hmid : ∀ b, OfJ (k.tab.set m { stAt k.tab m with mid := b }) o.next m := fun b => by
    unfold OfS.next
    rw [h.j.fin, if_neg (by simp)]
    refine ⟨h.j.len, fun j hj => ?_, h.j.now, rfl⟩
    show o.there.getD j false = _
    rw [stAt_set (by omega), h.j.there j hj]
    by_cases e : m = j
    · subst e; rw [if_pos rfl]
    · rw [if_neg e]
  have hend : ∀ (o2 : OfS) (e : Ev), o2.there = o.there → e.task = m → (e.kind = 8 ∨ e.kind = 9) → OfJ (k.tab.set m St.zero) (o2.ev e).next (-1) ∧ (o2.ev e).there = o.there ∧ (o2.ev e).now = o2.now := fun o2 e h1 h2 h3 => by
    rw [OfS.ev_end (by omega) h3]
    unfold OfS.next
    rw [if_pos rfl]
    dsimp only
    rw [h2, Int.toNat_natCast, h1]
    refine ⟨⟨by rw [List.length_set]; exact h.j.len, fun j hj => ?_, rfl, rfl⟩, rfl, rfl⟩
    dsimp only
    rw [getD_set (by rw [h.j.len]; omega), stAt_set (by omega), h.j.there j hj]
    by_cases e : m = j
    · rw [if_pos e, if_pos e]; rfl
    · rw [if_neg e, if_neg e]
  unfold runsK
  dsimp only
  split
  · refine ⟨o, h.log, ?_, rfl, h.j.now, h.ev, h.tt⟩
    dsimp only
    rw [hl]
    exact hmid true
  · generalize hp : (({ k with own := touchO k.own m (touch &&& (s.tk m).ecb.toNat) } : KS).jobs.getD m Jb.zero).step = p
    obtain ⟨j2, reg, how⟩ := p
    dsimp only
    generalize hk1 : ({ k with own := touchO k.own m (touch &&& (s.tk m).ecb.toNat), jobs := k.jobs.set m j2 } : KS) = k1
    have ht1 : k1.tab = k.tab := by rw [← hk1]
    have ht2 : k1.t = k.t := by rw [← hk1]
    have ht3 : k1.last = k.last := by rw [← hk1]
    have ht4 : k1.evs = k.evs := by rw [← hk1]
    have hlog1 : Log k0 k1 o0 o := by obtain ⟨E, h1, h2⟩ := h.log; exact ⟨E, by rw [ht4, h1], h2⟩
    have hk3 : ∃ k3, (if how = 1 ∨ how = 2 then k1.tell 7 m reg else k1) = k3 ∧ Log k0 k3 o0 o ∧ k3.tab = k.tab ∧ k3.t = t ∧ k3.last = k.last ∧ ∀ e ∈ k3.evs, e.tick = t ∧ e.kind ≤ 9 := by
      split
      · refine ⟨_, rfl, ?_, ht1, by show k1.t = t; rw [ht2, h.tt], ht3, fun e he => ?_⟩
        · have := hlog1.tell 7 m reg
          rwa [OfS.ev_skip (by dsimp only; omega)] at this
        · rcases mem_snoc (show e ∈ k1.evs ++ [_] from he) with he | rfl
          · rw [ht4] at he; exact h.ev e he
          · exact ⟨by dsimp only; rw [ht2, h.tt], by dsimp only; omega⟩
      · exact ⟨_, rfl, hlog1, ht1, by rw [ht2, h.tt], ht3, fun e he => by rw [ht4] at he; exact h.ev e he⟩
    obtain ⟨k3, e3, hlog3, q1, q2, q3, q4⟩ := hk3
    rw [e3]
    have over : ∀ kind c : Int, (kind = 8 ∨ kind = 9) → ∃ o', Log k0 { k3.tell kind m c with tab := k3.tab.set m St.zero, last := -1 } o0 o' ∧ OfJ (k3.tab.set m St.zero) o'.next (-1) ∧ o'.there = o.there ∧ o'.now = m ∧ (∀ e ∈ (k3.tell kind m c).evs, e.tick = t ∧ e.kind ≤ 9) := by
      intro kind c hk
      obtain ⟨a1, a2, a3⟩ := hend o ⟨k3.t, kind, m, c⟩ rfl rfl hk
      refine ⟨_, hlog3.tell kind m c, by rw [q1]; exact a1, a2, a3.trans h.j.now, fun e he => ?_⟩
      rcases mem_snoc (show e ∈ k3.evs ++ [_] from he) with he | rfl
      · exact q4 e he
      · exact ⟨q2, by dsimp only; omega⟩
    split
    · obtain ⟨o', a1, a2, a3, a4, a5⟩ := over 8 _ (.inl rfl)
      exact ⟨o', a1, a2, a3, a4, a5, q2⟩
    · split
      · obtain ⟨o', a1, a2, a3, a4, a5⟩ := over 9 _ (.inr rfl)
        exact ⟨o', a1, a2, a3, a4, a5, q2⟩
      · refine ⟨o, hlog3, ?_, rfl, h.j.now, q4, q2⟩
        dsimp only
        rw [q3, hl, q1]
        exact hmid _
/-- of a tick's events: who was pending when it was chosen, who ran -/
theorem of_step {s : TSet} (hs : KH s) {P : List Ev} {k : KS} (hI : KInv s P k) {o : OfS} (hJ : OfJ k.tab o k.last) (x : Inp) :
    ∃ o', (stepK s k x).evs.foldl OfS.ev o = o' ∧ OfJ (stepK s k x).tab o'.next (stepK s k x).last ∧ o'.now = (stepK s k x).ran ∧ (∀ e ∈ (stepK s k x).evs, e.tick = k.t) ∧
      ((stepK s k x).ran = -1 → risingL o'.there = [] ∧ ∃ e ∈ (stepK s k x).evs, e.kind = 10) ∧ ((stepK s k x).ran ≠ -1 → (stepK s k x).ran ∈ risingL o'.there ∧ ∀ e ∈ (stepK s k x).evs, e.kind ≠ 10) := by
  have hn8 := hs.len.2
  have h1 := (hI.lb.late).arrive hs x
  have h0 : OfP [] o k.t s.tasks.length k.last { k with evs := [] } o := ⟨⟨[], rfl, rfl⟩, hJ, rfl, by show (k.tab.length : Int) = _; rw [hI.lb.inv.lt], fun e he => by cases he⟩
  obtain ⟨o1, h2⟩ := (h0.late (s := s)).arrive hn8 x
  have hl1 : (arriveK s x (lateK s { k with evs := [] })).last = k.last := by rw [(arrive_t _ _ _).2, (late_t _ _).2]
  unfold stepK
  dsimp only
  generalize arriveK s x (lateK s { k with evs := [] }) = k1 at h1 h2 hl1
  have hlt := h1.inv.lt
  rcases Int.lt_or_le (chooseS s k1.tab k1.last k1.t) 0 with hneg | hpos
  · have hc : chooseS s k1.tab k1.last k1.t = -1 ∧ k1.last = -1 ∧ ∀ j, j < k1.tab.length → (stAt k1.tab j).pend = false := by
      rcases choose_spec s k1.tab k1.last k1.t with ⟨h4, h5⟩ | ⟨_, h5, h6⟩ | ⟨_, m, h5, _⟩
      · rw [h5] at hneg
        unfold heldS at h4
        rw [decide_eq_false (by omega)] at h4
        cases h4
      · refine ⟨h5, ?_, h6⟩
        rcases h1.inv.curs with hl | ⟨a, b, c, _⟩
        · exact hl
        · rw [h6 _ (by omega)] at c; cases c
      · omega
    rw [if_pos hc.1]
    have hl := h2.log.tell 10 (-1) 0
    rw [OfS.ev_skip (by dsimp only; omega)] at hl
    obtain ⟨E, q1, q2⟩ := hl
    rw [List.nil_append] at q1
    refine ⟨o1, by show (k1.tell 10 (-1) 0).evs.foldl _ _ = _; rw [q1]; exact q2, ?_, ?_, fun e he => ?_, fun _ => ⟨?_, _, List.mem_append_right _ (List.mem_singleton.2 rfl), rfl⟩, fun hn => absurd hc.1 hn⟩
    · unfold OfS.next
      rw [h2.j.fin, if_neg (by simp)]
      refine ⟨h2.j.len, h2.j.there, ?_, rfl⟩
      show o1.now = k1.last
      rw [h2.j.now, hl1]
    · show o1.now = chooseS _ _ _ _
      rw [h2.j.now, hc.1, ← hl1]
      exact hc.2.1
    · rcases mem_snoc (show e ∈ k1.evs ++ [_] from he) with he | rfl
      · exact (h2.ev e he).1
      · exact h2.tt
    · refine List.eq_nil_iff_forall_not_mem.2 fun y hy => ?_
      obtain ⟨i, hi, _, ht⟩ := mem_rising.1 hy
      rw [h2.j.there i hi] at ht
      by_cases hin : i < k1.tab.length
      · rw [hc.2.2 i hin] at ht; cases ht
      · rw [stAt_out (by omega)] at ht; cases ht
  · obtain ⟨m, hm⟩ := Int.eq_ofNat_of_zero_le hpos
    rw [hm, if_neg (by omega), Int.toNat_natCast]
    obtain ⟨a1, a2, a3, a4, a5, a6, a7, a8, a9⟩ := h1.turn hs hm
    have hlast : k1.last < s.tasks.length := by
      rcases h1.inv.curs with hl | ⟨_, b, _⟩
      · omega
      · exact b
    have h2' : OfP [] o k.t s.tasks.length k1.last k1 o1 := by rw [hl1]; exact h2
    obtain ⟨o2, h3, e3⟩ := h2'.turn hn8 a5 hlast
    obtain ⟨o3, b1, b2, b3, b4, b5, b6⟩ := OfP.runs hn8 (k := { turnK s k1 m with last := (m : Int) }) ⟨h3.log, h3.j, h3.tt, h3.lt, h3.ev⟩ a5 rfl x.touch
    obtain ⟨E, q1, q2⟩ := b1
    rw [List.nil_append] at q1
    refine ⟨o3, by show (runsK s _ m x.touch).evs.foldl _ _ = _; rw [q1]; exact q2, b2, b4, fun e he => (b5 e he).1, fun hn => absurd hn (by show ¬ (m : Int) = -1; omega), fun _ => ⟨?_, fun e he => by have := (b5 e he).2; omega⟩⟩
    refine mem_rising.2 ⟨m, by omega, rfl, ?_⟩
    rw [b3, e3, h2.j.there m (by omega), ← (a9 m).1]
    exact a6
theorem runK_ge {s : TSet} (hs : KH s) : ∀ (l : List Inp) (P : List Ev) (k : KS) (o : OfS), KInv s P k → OfJ k.tab o k.last → ∀ e ∈ (runK s l k).1, k.t ≤ e.tick
  | [], _, _, _, _, _ => fun e he => by simp [runK] at he
  | x :: l, P, k, o, hI, hJ => fun e he => by
    obtain ⟨o', h1, h2, h3, h4, _⟩ := of_step hs hI hJ x
    obtain ⟨i1, i2⟩ := hI.step hs x
    rcases List.mem_append.1 (show e ∈ (stepK s k x).evs ++ (runK s l (stepK s k x)).1 from he) with he | he
    · rw [h4 e he]; exact Int.le_refl _
    · have := runK_ge hs l _ _ _ i1 h2 e he
      omega
theorem takeWhile_at {A B : List Ev} {t : Int} (hA : ∀ e ∈ A, e.tick = t) (hB : ∀ e ∈ B, t + 1 ≤ e.tick) : ((A ++ B).takeWhile fun e => decide (e.tick = t)) = A := by
  induction A with
  | nil =>
    cases B with
    | nil => rfl
    | cons b B =>
      have := hB b (by simp)
      rw [List.nil_append, List.takeWhile_cons_of_neg]
      rw [decide_eq_true_eq]
      omega
  | cons a A ih =>
    rw [List.cons_append, List.takeWhile_cons_of_pos (by rw [decide_eq_true_eq]; exact hA a (by simp)), ih (fun e he => hA e (by simp [he]))]
/-- behind the first ticks -/
structure OfAt (s : TSet) (l : List Inp) (m : Nat) (k : KS) (P : List Ev) (x : OfTk) : Prop where
  inv : KInv s P k
  t : k.t = m
  eq : eventsK s l = P ++ x.rest
  rest : x.rest = (runK s (l.drop m) k).1
  j : OfJ k.tab x.o k.last
  lr : x.ran.length = m
  lp : x.pend.length = m
  each : ∀ i, i < m → (x.ran.getD i 0 = -1 ∨ x.ran.getD i 0 ∈ x.pend.getD i []) ∧ (x.pend.getD i [] = [] ↔ ∃ e ∈ P, e.tick = i ∧ e.kind = 10)
theorem getD_snoc {α : Type} {l : List α} {x d : α} {i n : Nat} (hl : l.length = n) (hi : i < n + 1) : (l ++ [x]).getD i d = if i = n then x else l.getD i d := by
  by_cases e : i = n
  · subst e; subst hl
    simp [List.getD]
  · rw [if_neg e]
    simp only [List.getD]
    rw [List.getElem?_append_left (by omega)]
theorem OfAt.zero {s : TSet} (hs : KH s) (l : List Inp) : OfAt s l 0 (initK s) [] (OfTk.init (eventsK s l)) := by
  refine ⟨KInv.init hs, rfl, rfl, rfl, ⟨rfl, fun i hi => ?_, rfl, rfl⟩, rfl, rfl, fun i hi => by omega⟩
  have h1 : (List.replicate 8 false).getD i false = false := by
    simp only [List.getD, List.getElem?_replicate]
    split <;> rfl
  have h2 : stAt (initK s).tab i = St.zero := by
    unfold stAt initK
    simp only [List.getD, List.getElem?_replicate]
    split <;> rfl
  show (List.replicate 8 false).getD i false = _
  rw [h1, h2]; rfl
theorem OfAt.next {s : TSet} (hs : KH s) {l : List Inp} {m : Nat} {k : KS} {P : List Ev} {x : OfTk} (h : OfAt s l m k P x) (hm : m < l.length) : OfAt s l (m + 1) (stepK s k l[m]) (P ++ (stepK s k l[m]).evs) (x.tick m) := by
  obtain ⟨o', h1, h2, h3, h4, h5, h6⟩ := of_step hs h.inv h.j l[m]
  obtain ⟨i1, i2⟩ := h.inv.step hs l[m]
  have hr : x.rest = (stepK s k l[m]).evs ++ (runK s (l.drop (m + 1)) (stepK s k l[m])).1 := by
    rw [h.rest, List.drop_eq_getElem_cons hm]
    rfl
  have hge := runK_ge hs (l.drop (m + 1)) _ _ _ i1 h2
  have ht := h.t
  have he : x.evs m = (stepK s k l[m]).evs := by
    unfold OfTk.evs
    rw [hr]
    exact takeWhile_at (fun e he => by rw [h4 e he]; exact ht) (fun e he => by have := hge e he; omega)
  have hO : (x.evs m).foldl OfS.ev x.o = o' := by rw [he]; exact h1
  have hran : (x.tick m).ran = x.ran ++ [o'.now] := by unfold OfTk.tick; rw [hO]
  have hpend : (x.tick m).pend = x.pend ++ [risingL o'.there] := by unfold OfTk.tick; rw [hO]
  have hrest : (x.tick m).rest = (runK s (l.drop (m + 1)) (stepK s k l[m])).1 := by
    unfold OfTk.tick
    rw [he, hr]
    show List.drop _ _ = _
    rw [List.drop_left]
  have ho : (x.tick m).o = o'.next := by unfold OfTk.tick; rw [hO]
  refine ⟨i1, by rw [i2, ht]; push_cast; rfl, ?_, hrest, by rw [ho]; exact h2, by rw [hran, List.length_append, h.lr]; rfl, by rw [hpend, List.length_append, h.lp]; rfl, fun i hi => ?_⟩
  · rw [hrest, List.append_assoc, ← hr]; exact h.eq
  · rw [hran, hpend, getD_snoc h.lr hi, getD_snoc h.lp hi]
    by_cases e : i = m
    · subst e
      rw [if_pos rfl, if_pos rfl]
      by_cases hn : (stepK s k l[i]).ran = -1
      · obtain ⟨q1, e, q2, q3⟩ := h5 hn
        exact ⟨.inl (by rw [h3, hn]), fun _ => ⟨e, List.mem_append_right _ q2, by rw [h4 e q2, ht], q3⟩, fun _ => q1⟩
      · obtain ⟨q1, q2⟩ := h6 hn
        refine ⟨.inr (by rw [h3]; exact q1), fun e => ?_, ?_⟩
        · rw [e] at q1; cases q1
        · rintro ⟨e, he, e1, e2⟩
          rcases List.mem_append.1 he with he | he
          · have := (h.inv.lb.inv.past e he).2
            have e3 : ({ k with evs := [] } : KS).t = k.t := rfl
            omega
          · exact absurd e2 (q2 e he)
    · rw [if_neg e, if_neg e]
      obtain ⟨q1, q2⟩ := h.each i (by omega)
      refine ⟨q1, q2.trans ⟨fun ⟨e, a, b⟩ => ⟨e, List.mem_append_left _ a, b⟩, ?_⟩⟩
      rintro ⟨e', he, e1, e2⟩
      rcases List.mem_append.1 he with he | he
      · exact ⟨e', he, e1, e2⟩
      · have := h4 e' he
        omega
theorem OfAt.of {s : TSet} (hs : KH s) (l : List Inp) : ∀ m, m ≤ l.length → ∃ k P, OfAt s l m k P (ofT (eventsK s l) m)
  | 0, _ => ⟨initK s, [], OfAt.zero hs l⟩
  | m + 1, hm => by
    obtain ⟨k, P, h⟩ := OfAt.of hs l m (by omega)
    rw [ofT_succ]
    exact ⟨_, _, h.next hs (by omega)⟩
/-- what the walks of a run ask -/
theorem of_all {s : TSet} (hs : KH s) (l : List Inp) : (ofT (eventsK s l) l.length).ran.length = l.length ∧ (ofT (eventsK s l) l.length).pend.length = l.length ∧
    ∀ i, i < l.length → ((ofT (eventsK s l) l.length).ran.getD i 0 = -1 ∨ (ofT (eventsK s l) l.length).ran.getD i 0 ∈ (ofT (eventsK s l) l.length).pend.getD i []) ∧
      ((ofT (eventsK s l) l.length).pend.getD i [] = [] ↔ ∃ e ∈ eventsK s l, e.tick = i ∧ e.kind = 10) := by
  obtain ⟨k, P, h⟩ := OfAt.of hs l l.length (Nat.le_refl _)
  have he : eventsK s l = P := by
    have := h.eq
    rw [h.rest, List.drop_length] at this
    simpa [runK] using this
  refine ⟨h.lr, h.lp, fun i hi => ?_⟩
  have := h.each i hi
  rw [← he] at this
  exact this
end Go.Proofs.Ytlaflbepidkmnaa
/- Plain: fair, once, loads: of a row of events. -/
namespace Go.Proofs.Ytlaflbepidkmnaa

def Ev.zero : Ev := ⟨0, 0, 0, 0⟩
def evAt (L : List Ev) (i : Nat) : Ev := L.getD i Ev.zero
def thrB (th : Int) (e : Ev) : Bool := (decide (e.kind = 4) || decide (e.kind = 6)) && decide (e.task < th)
def sameT (L : List Ev) (i : Nat) : List Ev := (L.drop (i + 1)).takeWhile fun x => decide (x.tick = (evAt L i).tick)
def oldV (o : Option Int) : Int := match o with | some a => a | none => -1
def fairAt (s : TSet) (L : List Ev) (i : Nat) : Bool :=
  if (evAt L i).kind ≠ 5 ∨ (evAt L i).task < 0 ∨ (s.tasks.length : Int) ≤ (evAt L i).task then true
  else if (s.tk (evAt L i).task.toNat).mode = 0 then decide (lastL (L.take i) (evAt L i).task = 7)
  else if (s.tk (evAt L i).task.toNat).mode = 1 then decide (0 ≤ oldV (oldE (L.take i) (evAt L i).task.toNat)) && decide (oldV (oldE (L.take i) (evAt L i).task.toNat) + (s.tk (evAt L i).task.toNat).q = (evAt L i).tick)
  else (sameT L i).any (thrB (s.tk (evAt L i).task.toNat).theta)
def fairB (s : TSet) (L : List Ev) : Bool := (List.range L.length).all (fairAt s L)
theorem evAt_in {L : List Ev} {i : Nat} (h : i < L.length) : evAt L i = L[i] := by
  unfold evAt
  simp [List.getD, h]
theorem split_at {L : List Ev} {i : Nat} (h : i < L.length) : L = L.take i ++ evAt L i :: L.drop (i + 1) := by
  rw [evAt_in h, ← List.drop_eq_getElem_cons h, List.take_append_drop]
theorem since_nn {L : List Ev} (h : ∀ e ∈ L, 0 ≤ e.tick) : ∀ (i a : Int), sinceL L i = some a → 0 ≤ a := by
  have : ∀ (n : Nat), n ≤ L.length → ∀ (i a : Int), sinceL (L.take n) i = some a → 0 ≤ a := by
    intro n
    induction n with
    | zero => intro _ i a h; simp [sinceL] at h
    | succ n ih =>
      intro hn i a hs
      rw [List.take_succ_eq_append_getElem (by omega), since_snoc] at hs
      split at hs
      · split at hs
        · cases hs; exact h _ (List.getElem_mem _)
        · split at hs
          · cases hs
          · exact ih (by omega) i a hs
      · exact ih (by omega) i a hs
  intro i a hs
  have := this L.length (Nat.le_refl _)
  rw [List.take_length] at this
  exact this i a hs
theorem old_nn {L : List Ev} (h : ∀ e ∈ L, 0 ≤ e.tick) {i : Nat} {a : Int} (ho : oldE L i = some a) : 0 ≤ a := by
  unfold oldE at ho
  obtain ⟨h1, _⟩ := minO_some.1 ho
  obtain ⟨j, _, hj⟩ := List.mem_map.1 h1
  exact since_nn h j a hj
theorem fair_of {s : TSet} {L : List Ev} (hf : FairLog s L) (h0 : ∀ e ∈ L, 0 ≤ e.tick) (hs : L.Pairwise fun a b => a.tick ≤ b.tick) : fairB s L = true := by
  unfold fairB
  rw [List.all_eq_true]
  intro i hi
  have hi := List.mem_range.1 hi
  unfold fairAt
  split
  · rfl
  · rename_i hc
    have hk : (evAt L i).kind = 5 := by
      by_cases h : (evAt L i).kind = 5
      · exact h
      · exact absurd (.inl h) hc
    obtain ⟨h1, h2, h3⟩ := hf (L.take i) (evAt L i) (L.drop (i + 1)) (split_at hi) hk
    split
    · rename_i m0
      rw [if_pos m0] at h3
      exact decide_eq_true h3
    · rename_i m0
      rw [if_neg m0] at h3
      split
      · rename_i m1
        rw [if_pos m1] at h3
        obtain ⟨a, h4, h5⟩ := h3
        rw [h4]
        have := old_nn (fun e he => h0 e (List.mem_of_mem_take he)) h4
        show (decide (0 ≤ a) && decide (a + _ = _)) = true
        rw [decide_eq_true this, decide_eq_true h5]
        rfl
      · rename_i m1
        rw [if_neg m1] at h3
        obtain ⟨x, h4, h5, h6, h7⟩ := h3
        rw [List.any_eq_true]
        refine ⟨x, ?_, ?_⟩
        · unfold sameT
          have hp : (L.drop (i + 1)).Pairwise fun a b => a.tick ≤ b.tick := hs.sublist (List.drop_sublist _ _)
          have hge : ∀ y ∈ L.drop (i + 1), (evAt L i).tick ≤ y.tick := by
            have := split_at hi
            rw [this, List.pairwise_append] at hs
            have := (List.pairwise_cons.1 hs.2.1).1
            exact this
          generalize L.drop (i + 1) = R at h4 hp hge
          clear hf hs h0 hi hc
          induction R with
          | nil => cases h4
          | cons y R ih =>
            have hy := hge y (by simp)
            have hle : y.tick ≤ x.tick := by
              rcases List.mem_cons.1 h4 with rfl | h4
              · exact Int.le_refl _
              · exact (List.pairwise_cons.1 hp).1 x h4
            rw [List.takeWhile_cons_of_pos (by rw [decide_eq_true_eq]; omega)]
            rcases List.mem_cons.1 h4 with rfl | h4
            · simp
            · exact List.mem_cons_of_mem _ (ih h4 (List.pairwise_cons.1 hp).2 (fun z hz => hge z (by simp [hz])))
        · unfold thrB
          rw [decide_eq_true h7, Bool.and_true, Bool.or_eq_true]
          rcases h6 with h | h
          · exact .inl (decide_eq_true h)
          · exact .inr (decide_eq_true h)
/-- each job Starts once, ends once -/
def fromK (kind : Int) : Option (Int × Int) :=
  if kind = 1 then some (0, 1) else if kind = 4 then some (1, 2) else if kind = 5 then some (2, 3) else if kind = 6 then some (3, 2) else if kind = 8 ∨ kind = 9 then some (2, 0) else none
theorem onceS_of (a kind : Int) : onceS a kind = match fromK kind with | none => a | some (x, y) => if a = x then y else -9 := by
  unfold onceS fromK
  split
  · rfl
  · split
    · rfl
    · split
      · rfl
      · split
        · rfl
        · split
          · rfl
          · rfl
theorem onceS_bad (kind : Int) : onceS (-9) kind = -9 := by
  unfold onceS
  repeat' split
  all_goals first | rfl | (rename_i h; omega) | omega
theorem once_bad (L : List Ev) (M : List Ev) (i : Int) (h : onceL L i = -9) : onceL (L ++ M) i = -9 := by
  induction M generalizing L with
  | nil => rw [List.append_nil]; exact h
  | cons e M ih =>
    rw [show L ++ e :: M = (L ++ [e]) ++ M by simp]
    apply ih
    rw [once_snoc]
    split
    · rw [h, onceS_bad]
    · exact h
/-- all of a run's events -/
structure AllEv (s : TSet) (n : Nat) (L : List Ev) : Prop where
  fair : FairLog s L
  ok : ∀ e ∈ L, okEv s.tasks.length e
  tick : ∀ e ∈ L, 0 ≤ e.tick ∧ e.tick < n
  sorted : L.Pairwise fun a b => a.tick ≤ b.tick
  once : ∀ i : Nat, i < s.tasks.length → ∀ m, onceL (L.take m) i ≠ -9
  res : ∀ e ∈ L, e.kind = 6 → 0 ≤ e.n ∧ e.n ≤ s.reload * popK (s.tk e.task.toNat).ucb.toNat
theorem allEv {s : TSet} (hs : KH s) (l : List Inp) : AllEv s l.length (eventsK s l) := by
  obtain ⟨k, P, h⟩ := OfAt.of hs l l.length (Nat.le_refl _)
  have he : eventsK s l = P := by
    have := h.eq
    rw [h.rest, List.drop_length] at this
    simpa [runK] using this
  rw [he]
  have hk : P ++ ({ k with evs := [] } : KS).evs = P := List.append_nil _
  have hL := h.inv.lb
  have hi := hL.inv
  have hf := hL.fair
  rw [hk] at hf
  refine ⟨hf, fun e he => ?_, fun e he => by have := hi.past e he; have := h.t; exact ⟨by omega, by show e.tick < _; have e2 : ({ k with evs := [] } : KS).t = k.t := rfl; omega⟩, hi.sorted, fun i hi2 m hbad => ?_, fun e he => ?_⟩
  · exact hi.ok e (by rw [hk]; exact he)
  · have h1 := hi.once i hi2
    rw [hk] at h1
    have h2 := once_bad _ (P.drop m) i hbad
    rw [List.take_append_drop] at h2
    rw [h2] at h1
    unfold onceOf at h1
    split at h1
    · omega
    · split at h1
      · omega
      · split at h1
        · omega
        · omega
  · exact hi.res e (by rw [hk]; exact he)
end Go.Proofs.Ytlaflbepidkmnaa
/- TskO -/
namespace Go.Proofs.Ytlaflbepidkmnaa
open Go.RowKit Go.ChangeShapes Go.WideShapes
set_option linter.unusedVariables false

/-- its numbers are what their types hold -/
def Tsk.ok (t : Tsk) : Prop := (Lit.int .i64 t.T).wf = true ∧ (Lit.int .i64 t.D).wf = true ∧ (Lit.int .i64 t.mode).wf = true ∧ (Lit.int .i64 t.q).wf = true ∧ (Lit.int .i64 t.theta).wf = true ∧ (Lit.int .u64 t.ecb).wf = true ∧ (Lit.int .u64 t.ucb).wf = true ∧ ∀ n ∈ t.regs, (Lit.int .i64 n).wf = true

set_option maxRecDepth 100000 in
theorem ints_of_trod {H : Type} {enc : TypeId × Value → H} {W : World} {base : Nat} {spare : Nat → Bool} {held : Bool} {n : Nat} {v : Value} {y : DataW H × List MemPlace} (h : DataW.trod enc Try.prog W base spare held n 31 [v] = some y) :
    ∃ xs, Ints W v xs ∧ (∀ x ∈ xs, (Lit.int .i64 x).wf = true) := by
  rcases open_ints Try.underlying31 Try.underlying2 (by kernel_rfl) h with ⟨hv, _⟩ | ⟨a, len, cap, zs, hv, _, h1, h2, hz, _, hc, hw⟩
  · obtain rfl : v = .slice none 0 0 := by simpa using hv
    exact ⟨[], ⟨none, 0, rfl, Nat.le_refl _, Nat.zero_le _, fun h => absurd rfl h⟩, by simp⟩
  · obtain rfl : v = .slice (some a) len cap := by simpa using hv
    have hle : len ≤ zs.length := by rw [hz]; split <;> omega
    have hlen : (zs.take len).length = len := by rw [List.length_take]; omega
    refine ⟨zs.take len, ⟨some a, cap, by rw [hlen], by omega, h2, fun hne => ?_⟩, fun x hx => hw x (List.mem_of_mem_take hx)⟩
    have hpos : 0 < len := by
      rcases Nat.eq_zero_or_pos len with h0 | h0
      · rw [h0] at hne; simp at hne
      · exact h0
    obtain ⟨b, o, spot⟩ := a
    have c0 := hc 0 (by omega)
    have hspot : spot = none := by simpa [Addr.add] using World.cell?_spot c0
    subst hspot
    refine ⟨b, o, rfl, fun i hi => ?_⟩
    rw [hlen] at hi
    have := hc i (by omega)
    rw [List.getElem_take]
    have e : (⟨b, o, none⟩ : Addr).add i = ⟨b, o + i, none⟩ := by unfold Addr.add; split <;> simp_all
    rw [e] at this
    rw [this]
    congr 2
    simp [List.getD, List.getElem?_eq_getElem (show i < zs.length by omega)]

set_option maxRecDepth 100000 in
theorem task_of_trod {H : Type} {enc : TypeId × Value → H} {W : World} {base : Nat} {spare : Nat → Bool} {held : Bool} {n : Nat} {cs : List Value} {y : DataW H × List MemPlace} (hl : cs.length = 9) (h : DataW.trod enc Try.prog W base spare held n 34 cs = some y) :
    ∃ (t : Tsk) (r : Value), cs = (tskV t r).cells.toList ∧ Ints W r t.regs ∧ t.name.size ≤ maxLen ∧ t.ok := by
  obtain ⟨xs, m, _, hx, _, hlen, hfi⟩ := DataW.trod_struct Try.underlying34 h
  match cs, hl with
  | [c0, c1, c2, c3, c4, c5, c6, c7, c8], _ =>
    match xs, hlen with
    | [y0, y1, y2, y3, y4, y5, y6, y7, y8], _ =>
      have k0 := hfi 0 _ rfl
      have k1 := hfi 1 _ rfl
      have k2 := hfi 2 _ rfl
      have k3 := hfi 3 _ rfl
      have k4 := hfi 4 _ rfl
      have k5 := hfi 5 _ rfl
      have k6 := hfi 6 _ rfl
      have k7 := hfi 7 _ rfl
      have k8 := hfi 8 _ rfl
      clear hfi
      simp only [List.getElem_toArray, List.getElem_cons_zero, List.getElem_cons_succ] at k0 k1 k2 k3 k4 k5 k6 k7 k8
      rw [show Try.prog.cellsOf 9 = 1 by kernel_rfl] at k0
      rw [show Try.prog.cellsOf 2 = 1 by kernel_rfl] at k1 k2 k4
      rw [show Try.prog.cellsOf 3 = 1 by kernel_rfl] at k3 k5
      rw [show Try.prog.cellsOf 31 = 1 by kernel_rfl] at k6
      rw [show Try.prog.cellsOf 32 = 1 by kernel_rfl] at k7 k8
      simp only [List.drop_zero, List.drop_succ_cons, List.take_succ_cons, List.take_zero, List.getElem?_cons_zero, List.getElem?_cons_succ] at k0 k1 k2 k3 k4 k5 k6 k7 k8
      obtain ⟨s, e0, _, hs⟩ := DataW.trod_string Try.underlying9 k0
      obtain ⟨n1, e1, _, w1⟩ := DataW.trod_int Try.underlying2 k1
      obtain ⟨n2, e2, _, w2⟩ := DataW.trod_int Try.underlying2 k2
      obtain ⟨n3, e3, _, w3⟩ := DataW.trod_int Try.underlying3 k3
      obtain ⟨n4, e4, _, w4⟩ := DataW.trod_int Try.underlying2 k4
      obtain ⟨n5, e5, _, w5⟩ := DataW.trod_int Try.underlying3 k5
      obtain ⟨n7, e7, _, w7⟩ := DataW.trod_int Try.underlying32 k7
      obtain ⟨n8, e8, _, w8⟩ := DataW.trod_int Try.underlying32 k8
      obtain ⟨rs, hI, w6⟩ := ints_of_trod k6
      simp only [List.cons.injEq, and_true] at e0 e1 e2 e3 e4 e5 e7 e8
      subst e0 e1 e2 e3 e4 e5 e7 e8
      exact ⟨⟨s, n1, n2, n3, n4, n5, rs, n7, n8⟩, c6, rfl, hI, hs, w1, w2, w3, w4, w5, w7, w8, w6⟩

set_option maxRecDepth 100000 in
theorem open_task {H : Type} {enc : TypeId × Value → H} {W : World} {r0 : Reach} {b0 base : Nat} {spare : Nat → Bool} {held : Bool} {v : Value} {d : DataW H} {p : List MemPlace}
    (hv : Value.okWide Try.prog W r0 b0 34 v) (h : DataW.Trod enc Try.prog W base spare held 34 v d p) : ∃ t : Tsk, ∃ r, v = tskV t r ∧ Ints W r t.regs ∧ t.name.size ≤ maxLen ∧ t.ok := by
  obtain ⟨cs, rfl, hsz⟩ := okWide_struct Try.underlying34 hv
  obtain ⟨fuel, hf⟩ := h
  have hl : (Value.agg cs).cells.toList.length = 9 := by
    rw [show (Value.agg cs).cells = cs from rfl, Array.length_toList, hsz]
    kernel_rfl
  obtain ⟨t, r, e, h1, h2, h3⟩ := task_of_trod hl hf
  refine ⟨t, r, ?_, h1, h2, h3⟩
  have e2 : cs.toList = (tskV t r).cells.toList := e
  have : cs = (tskV t r).cells := Array.ext' e2
  rw [this]
  rfl
end Go.Proofs.Ytlaflbepidkmnaa
/- OpenI -/
namespace Go.Proofs.Ytlaflbepidkmnaa
open Go.RowKit Go.ChangeShapes Go.WideShapes Go.Deep
set_option linter.unusedVariables false
set_option maxRecDepth 100000

section
variable {H : Type} {enc : TypeId × Value → H} {W : World} {base : Nat} {spare : Nat → Bool} {held : Bool}
theorem spot_none {b o : Nat} {spot : Option Nat} {v : Value} (h : W.cell? ⟨b, o, spot⟩ = some v) : spot = none := by simpa using World.cell?_spot h
theorem slr_of_trod {α : Type} [Inhabited α] {R : World → Nat → Nat → α → Prop} {ok : α → Prop} {ts te : TypeId} {size : Nat} {v : Value} {n : Nat} {y : DataW H × List MemPlace} (hu : Try.prog.underlying ts = some (.slice te)) (hc : Try.prog.cellsOf te = size) (hs : 0 < size)
    (elem : ∀ n cs y b o, cs.length = size → DataW.trod enc Try.prog W base spare held n te cs = some y → (∀ j u, cs[j]? = some u → W.cell? ⟨b, o + j, none⟩ = some u) → ∃ x, R W b o x ∧ ok x)
    (h : DataW.trod enc Try.prog W base spare held n ts [v] = some y) : ∃ xs, SlR R size Any W v xs ∧ ∀ x ∈ xs, ok x := by
  rcases open_slice hu h with ⟨hv, _⟩ | ⟨a, len, cap, m, n, D, Pl, hv, _, hl, hm, hmm, rfl, hx⟩
  · obtain rfl : v = .slice none 0 0 := by simpa using hv
    exact ⟨[], SlR.nil _ _ _ _, by simp⟩
  · obtain rfl : v = .slice (some a) len cap := by simpa using hv
    have hle : len ≤ m := by rw [hmm]; split <;> omega
    rw [hc] at hx
    obtain ⟨f, hf⟩ := choose_lt (α := α) (n := len) (p := fun i x => ∃ b o, a.add (i * size) = ⟨b, o, none⟩ ∧ R W b o x ∧ ok x) (fun i hi => by
      obtain ⟨cs', h1, h2⟩ := hx i (by omega)
      obtain ⟨_, hlen, hcc⟩ := World.cells?_some h1
      rcases hab : a.add (i * size) with ⟨b, o, spot⟩
      have c0 := hcc 0 hs
      rw [hab] at c0 hcc
      rw [List.getElem?_eq_getElem (by omega)] at c0
      have hspot : spot = none := by
        have c0' : W.cell? ((⟨b, o, spot⟩ : Addr).add 0) = some cs'[0] := c0
        simpa [Addr.add] using World.cell?_spot c0'
      subst hspot
      have e : ∀ j, (⟨b, o, none⟩ : Addr).add j = ⟨b, o + j, none⟩ := fun j => by unfold Addr.add; split <;> simp_all
      obtain ⟨x, h3, h4⟩ := elem n cs' _ b o hlen h2 (fun j u hu => by
        have hj := (List.getElem?_eq_some_iff.1 hu).1
        have := hcc j (by omega)
        rw [e] at this
        rw [this]; exact hu)
      exact ⟨x, b, o, rfl, h3, h4⟩)
    have hlen : ((List.range len).map f).length = len := by simp
    refine ⟨(List.range len).map f, ⟨some a, cap, by rw [hlen], by rw [hlen]; exact hl, hm, fun hne => ?_⟩, fun t ht => ?_⟩
    · have hpos : 0 < len := by
        rcases Nat.eq_zero_or_pos len with h0 | h0
        · rw [h0] at hne; simp at hne
        · exact h0
      obtain ⟨b, o, e, _, _⟩ := hf 0 hpos
      have e0 : a = ⟨b, o, none⟩ := by simpa [Addr.add] using e
      subst e0
      refine ⟨b, o, rfl, trivial, fun i hi => ?_⟩
      rw [hlen] at hi
      obtain ⟨b', o', e', hat, _⟩ := hf i hi
      have e1 : (⟨b, o, none⟩ : Addr).add (i * size) = ⟨b, o + i * size, none⟩ := by unfold Addr.add; split <;> simp_all
      rw [e1] at e'
      obtain ⟨rfl, rfl⟩ : b = b' ∧ o + i * size = o' := by simpa using e'
      simpa using hat
    · obtain ⟨i, hi, rfl⟩ := List.mem_map.1 ht
      obtain ⟨_, _, _, _, h⟩ := hf i (List.mem_range.1 hi)
      exact h
theorem open_i64s {r0 : Reach} {b0 : Nat} {v : Value} {d : DataW H} {p : List MemPlace} (hv : Value.okWide Try.prog W r0 b0 31 v) (h : DataW.Trod enc Try.prog W base spare held 31 v d p) : ∃ xs, Ints W v xs ∧ (∀ x ∈ xs, (Lit.int .i64 x).wf = true) := by
  obtain ⟨a, len, cap, rfl⟩ := okWide_slice Try.underlying31 hv
  obtain ⟨fuel, hf⟩ := h
  exact ints_of_trod hf
/-- the demands of jobs -/
def DemR (w : World) (b o : Nat) (xs : List Int) : Prop := ∃ r, w.cell? ⟨b, o, none⟩ = some r ∧ Ints w r xs
theorem dems_of_trod {v : Value} {n : Nat} {y : DataW H × List MemPlace} (h : DataW.trod enc Try.prog W base spare held n 47 [v] = some y) : ∃ xs, SlR DemR 1 Any W v xs ∧ ∀ x ∈ xs, ∀ z ∈ x, (Lit.int .i64 z).wf = true := by
  refine slr_of_trod (te := 31) Try.underlying47 (by kernel_rfl) (by decide) (fun n cs y b o hl h hc => ?_) h
  match cs, hl with
  | [c0], _ =>
    obtain ⟨xs, hI, hw⟩ := ints_of_trod h
    exact ⟨xs, ⟨c0, by have := hc 0 c0 rfl; exact this, hI⟩, hw⟩
/-- an input -/
def InpR (w : World) (b o : Nat) (x : Inp) : Prop :=
  w.cell? ⟨b, o, none⟩ = some (.int .u64 x.arrive) ∧ (∃ vd, w.cell? ⟨b, o + 1, none⟩ = some vd ∧ SlR DemR 1 Any w vd x.dems) ∧ w.cell? ⟨b, o + 2, none⟩ = some (.int .u64 x.touch)
def Inp.ok (x : Inp) : Prop := x.arrive < 18446744073709551616 ∧ x.touch < 18446744073709551616 ∧ ∀ d ∈ x.dems, ∀ z ∈ d, (Lit.int .i64 z).wf = true
instance : Inhabited Inp := ⟨⟨0, [], 0⟩⟩
theorem u64_in {x : Int} (h : (Lit.int .u64 x).wf = true) : 0 ≤ x ∧ x < 18446744073709551616 := by
  have h' : (decide ((0 : Int) ≤ x) && decide (x ≤ 18446744073709551615)) = true := h
  simp only [Bool.and_eq_true, decide_eq_true_eq] at h'
  omega
theorem inputs_of_trod {v : Value} {n : Nat} {y : DataW H × List MemPlace} (h : DataW.trod enc Try.prog W base spare held n 25 [v] = some y) : ∃ xs, SlR InpR 3 Any W v xs ∧ ∀ x ∈ xs, x.ok := by
  refine slr_of_trod (te := 49) Try.underlying25 (by kernel_rfl) (by decide) (fun n cs y b o hl h hc => ?_) h
  obtain ⟨xs, m, _, hx, _, hlen, hfi⟩ := DataW.trod_struct Try.underlying49 h
  match cs, hl with
  | [c0, c1, c2], _ =>
    match xs, hlen with
    | [y0, y1, y2], _ =>
      have k0 := hfi 0 _ rfl
      have k1 := hfi 1 _ rfl
      have k2 := hfi 2 _ rfl
      clear hfi
      simp only [List.getElem_toArray, List.getElem_cons_zero, List.getElem_cons_succ] at k0 k1 k2
      rw [show Try.prog.cellsOf 32 = 1 by kernel_rfl] at k0 k2
      rw [show Try.prog.cellsOf 47 = 1 by kernel_rfl] at k1
      simp only [List.drop_zero, List.drop_succ_cons, List.take_succ_cons, List.take_zero, List.getElem?_cons_zero, List.getElem?_cons_succ] at k0 k1 k2
      obtain ⟨n0, e0, _, w0⟩ := DataW.trod_int Try.underlying32 k0
      obtain ⟨ds, hD, hw⟩ := dems_of_trod k1
      obtain ⟨n2, e2, _, w2⟩ := DataW.trod_int Try.underlying32 k2
      simp only [List.cons.injEq, and_true] at e0 e2
      subst e0 e2
      have u0 := u64_in w0
      have u2 := u64_in w2
      refine ⟨⟨n0.toNat, ds, n2.toNat⟩, ⟨?_, ⟨c1, hc 1 c1 rfl, hD⟩, ?_⟩, by show n0.toNat < _; omega, by show n2.toNat < _; omega, hw⟩
      · rw [show ((n0.toNat : Nat) : Int) = n0 by omega]
        exact hc 0 _ rfl
      · rw [show ((n2.toNat : Nat) : Int) = n2 by omega]
        exact hc 2 _ rfl
theorem open_inputs {r0 : Reach} {b0 : Nat} {v : Value} {d : DataW H} {p : List MemPlace} (hv : Value.okWide Try.prog W r0 b0 25 v) (h : DataW.Trod enc Try.prog W base spare held 25 v d p) : ∃ xs, SlR InpR 3 Any W v xs ∧ ∀ x ∈ xs, x.ok := by
  obtain ⟨a, len, cap, rfl⟩ := okWide_slice Try.underlying25 hv
  obtain ⟨fuel, hf⟩ := h
  exact inputs_of_trod hf
/-- what is done with a timer: Kind, ID, After -/
def ActR (w : World) (b o : Nat) (x : Int × Int × Int) : Prop :=
  w.cell? ⟨b, o, none⟩ = some (.int .i64 x.1) ∧ w.cell? ⟨b, o + 1, none⟩ = some (.int .i64 x.2.1) ∧ w.cell? ⟨b, o + 2, none⟩ = some (.int .i64 x.2.2)
end
theorem SlR.ext {α : Type} {R : World → Nat → Nat → α → Prop} {sz : Nat} {w w' : World} {v : Value} {xs : List α} (h : SlR R sz Any w v xs) (hR : ∀ b o x, R w b o x → R w' b o x) : SlR R sz Any w' v xs := h.to hR
theorem DemR.ext {w w' : World} {b o : Nat} {xs : List Int} (h : DemR w b o xs) (hx : Ext w w') : DemR w' b o xs := by
  obtain ⟨r, h1, h2⟩ := h
  exact ⟨r, hx.cell h1, h2.ext hx⟩
theorem InpR.ext {w w' : World} {b o : Nat} {x : Inp} (h : InpR w b o x) (hx : Ext w w') : InpR w' b o x := by
  obtain ⟨h1, ⟨vd, h2, h3⟩, h4⟩ := h
  exact ⟨hx.cell h1, ⟨vd, hx.cell h2, h3.ext fun _ _ _ h => h.ext hx⟩, hx.cell h4⟩
theorem ActR.ext {w w' : World} {b o : Nat} {x : Int × Int × Int} (h : ActR w b o x) (hx : Ext w w') : ActR w' b o x := ⟨hx.cell h.1, hx.cell h.2.1, hx.cell h.2.2⟩
theorem SlR.at {α : Type} {R : World → Nat → Nat → α → Prop} {sz : Nat} {w : World} {A : Option Addr} {n c : Nat} {xs : List α} (h : SlR R sz Any w (.slice A n c) xs) {k : Nat} (hk : k < xs.length) : ∃ b o, A = some ⟨b, o, none⟩ ∧ R w b (o + k * sz) xs[k] := by
  obtain ⟨A', c', e1, _, _, h3⟩ := h
  obtain ⟨rfl, _, rfl⟩ := Value.slice.inj e1
  obtain ⟨b, o, e, _, hx⟩ := h3 (fun e => by rw [e] at hk; simp at hk)
  exact ⟨b, o, e, hx k hk⟩
theorem SlR.form {α : Type} {R : World → Nat → Nat → α → Prop} {sz : Nat} {w : World} {v : Value} {xs : List α} (h : SlR R sz Any w v xs) : ∃ A c, v = .slice A xs.length c ∧ xs.length ≤ c ∧ c ≤ maxLen := by
  obtain ⟨A, c, e, h1, h2, _⟩ := h
  exact ⟨A, c, e, h1, h2⟩
end Go.Proofs.Ytlaflbepidkmnaa
/- Kpol -/
namespace Go.Proofs.Ytlaflbepidkmnaa
open Go.RowKit
attribute [local go_sem] setCell_twice Ext.alloc Ext.drew
set_option linter.unusedSimpArgs false
set_option maxRecDepth 100000
set_option maxHeartbeats 400000
attribute [local irreducible] Calls

theorem Ext.drewN {w0 w : World} (h : Ext w0 w) (n : Nat) : Ext w0 (w.drewN n) := ⟨⟨h.below.os, h.below.tape, h.below.output, h.below.size, h.below.block⟩⟩
/-- a watch: its period; when its last job came (-1: none came) -/
def encWa (p : Int × Int) : List Value := [.int .i64 p.1, .int .i64 (if p.2 < 0 then 0 else p.2), .bool (decide (0 ≤ p.2))]
theorem encWa_len (p : Int × Int) : (encWa p).length = 3 := rfl
/-- too early? -/
def earlyP (p : Int × Int) (t : Int) : Bool := decide (0 ≤ p.2) && (decide (t < p.2) || decide (t - p.2 < p.1))
end Go.Proofs.Ytlaflbepidkmnaa
/- Kker -/
namespace Go.Proofs.Ytlaflbepidkmnaa
open Go.RowKit
attribute [local go_sem] setCell_twice Ext.alloc Ext.drew
set_option linter.unusedSimpArgs false
set_option maxRecDepth 100000
set_option maxHeartbeats 400000
attribute [local irreducible] Calls

def encEv (e : Ev) : List Value := [.int .i64 e.tick, .int .i64 e.kind, .int .i64 e.task, .int .i64 e.n]
theorem encEv_len (e : Ev) : (encEv e).length = 4 := rfl
theorem infoEv : (Try.prog.info? 60).map (fun i => (i.zero, i.size, i.bytes)) = some (some (.agg #[.int .i64 0, .int .i64 0, .int .i64 0, .int .i64 0]), 4, 32) := by kernel_rfl
theorem encEv_one (e : Ev) : ∀ u ∈ encEv e, u.oneCell' = true := by
  intro u hu
  simp only [encEv, List.mem_cons, List.not_mem_nil, or_false] at hu
  rcases hu with rfl | rfl | rfl | rfl <;> rfl
end Go.Proofs.Ytlaflbepidkmnaa
/- Tsk4 -/
namespace Go.Proofs.Ytlaflbepidkmnaa
open Go.RowKit
attribute [local go_sem] setCell_twice ByteArray.toList_eq str_list
set_option linter.unusedSimpArgs false

theorem wrap_in {x : Int} (h0 : 0 ≤ x) (h1 : x ≤ 9223372036854775807) : wrap64 x = x := by
  unfold wrap64
  omega
theorem work_bound (xs : List Int) (hall : ∀ x ∈ xs, 1 ≤ x ∧ x ≤ 10000) (hl : xs.length ≤ 8) : ∀ k, k ≤ xs.length → (k : Int) ≤ workL (xs.take k) ∧ workL (xs.take k) ≤ 10000 * k := by
  intro k
  induction k with
  | zero => intro _; simp [workL]
  | succ k ih =>
    intro hk
    obtain ⟨h0, h1⟩ := ih (by omega)
    rw [work_snoc xs k (by omega)]
    obtain ⟨h2, h3⟩ := hall _ (List.getElem_mem (show k < xs.length by omega))
    rw [wrap_in (by omega) (by omega)]
    omega
theorem work_pos {xs : List Int} (h : regsB xs = true) : 1 ≤ workL xs ∧ workL xs ≤ 80000 := by
  simp only [regsB, Bool.and_eq_true, decide_eq_true_eq, List.all_eq_true, regB] at h
  obtain ⟨h1, h2, h3⟩ := h
  have := work_bound xs (fun x hx => h3 x hx) h2 xs.length (Nat.le_refl _)
  rw [List.take_length] at this
  omega

set_option maxHeartbeats 6400000 in
set_option maxRecDepth 100000 in
theorem isR_any (t : Tsk) (r : Value) (p : Int) (w : World) (hr : Ints w r t.regs) (hs : t.name.size ≤ maxLen) :
    Calls Try.prog 18 #[tskV t r, .int .i64 p] w fun e w' => e = .returned (.bool (isB t p)) ∧ Below w.heap.size w w' := by
  have hr1 := hr
  obtain ⟨A, c, rfl, h1, h2, h3⟩ := hr1
  unfold maxLen at h2
  go_enter Try.func18, Try.ntmps18
  unfold tskV
  go_upto_region 1 with (fail)
  have hL : Below w.heap.size w (w.alloc (.cells #[.string t.name, .int .i64 t.T, .int .i64 t.D, .int .i64 t.mode, .int .i64 t.q, .int .i64 t.theta, (.slice A t.regs.length c), .int .u64 t.ecb, .int .u64 t.ucb] 34)) := (by repeat (first | exact Below.refl _ _ | assumption | refine Below.drew ?_ | refine Below.alloc ?_ (by first | (simp; done) | (simp; omega) | omega) _ | refine Below.setCell ?_ (by first | (simp; done) | (simp; omega) | omega) _))
  have hB : Blk (w.alloc (.cells #[.string t.name, .int .i64 t.T, .int .i64 t.D, .int .i64 t.mode, .int .i64 t.q, .int .i64 t.theta, (.slice A t.regs.length c), .int .u64 t.ecb, .int .u64 t.ucb] 34)) w.heap.size #[.string t.name, .int .i64 t.T, .int .i64 t.D, .int .i64 t.mode, .int .i64 t.q, .int .i64 t.theta, (.slice A t.regs.length c), .int .u64 t.ecb, .int .u64 t.ucb] 34 := Blk.new _ _ _
  have hr0 := hr.below hL
  generalize w.alloc _ = W at hL hB hr0 ⊢
  have hc := hB.under
  refine wp_region_all' (S := Ext W) (Ext.refl W) (fun K hK => ?_); (repeat (first | (apply hO_and; (· rfl); (· rfl); (· rfl); (· rfl); simp only [Act.put, List.setIfInBounds_toArray, List.set_cons_zero, List.set_cons_succ]) | (apply hO_or; (· rfl); (· rfl); (· rfl); (· rfl); simp only [Act.put, List.setIfInBounds_toArray, List.set_cons_zero, List.set_cons_succ]) | (apply hO_off; (· rfl); (· rfl); simp only [Act.put, List.setIfInBounds_toArray, List.set_cons_zero, List.set_cons_succ]) | (apply hO_val; (· intro w hS; go_simp; with_reducible rfl); (· rfl); simp only [Act.put, List.setIfInBounds_toArray, List.set_cons_zero, List.set_cons_succ]) | (apply hO_call; (· rfl); (· intro w hS; go_simp; exact ⟨rfl, rfl⟩); (· intro w hS; exact callX hS (nameR_any _ _ hs)); simp only [Act.put, List.setIfInBounds_toArray, List.set_cons_zero, List.set_cons_succ]) | (apply hO_if; (· rfl); (· rfl); (· intro hif w hS; go_simp; with_reducible rfl); simp only [Act.put, List.setIfInBounds_toArray, List.set_cons_zero, List.set_cons_succ]) | (apply hO_ifcall; (· rfl); (· rfl); (· intro hif w hS; go_simp; exact ⟨rfl, rfl⟩); (· intro hif w hS; exact callX hS (nameR_any _ _ hs)); simp only [Act.put, List.setIfInBounds_toArray, List.set_cons_zero, List.set_cons_succ]))); refine hO_nil ?_; refine forget_range 6 23 (Nat.le_of_ble_eq_true rfl) (fun junk => ?_); simp only [List.take_succ_cons, List.take_zero, List.drop_succ_cons, List.drop_zero, List.cons_append, List.nil_append, fillF, Nat.reduceAdd]; refine hK _ ?_; clear hK K
  intro w1 hX1
  cases hb : (!nameB t.name.data.toList || decide ((t.regs.length : Int) < 1) || decide (8 < (t.regs.length : Int)) || bits BinOp.andNot IntKind.u64 t.ucb t.ecb != 0) with
  | true =>
    have HB := Lib.hid hb; clear hb
    go_wp2_with (fail)
    go_ret
    refine ⟨rb ?_, hL.trans (hX1.below.mono hL.size)⟩
    have := HB.out
    simp only [Bool.or_eq_true, Bool.not_eq_true', decide_eq_true_eq, bne_iff_ne, ne_eq] at this
    simp only [isB, regsB]
    rcases this with ((h | h) | h) | h
    · simp [h]
    · rw [decide_eq_false (by omega)]; simp
    · rw [decide_eq_false (p := t.regs.length ≤ 8) (by omega)]; simp
    · rw [show (bits BinOp.andNot IntKind.u64 t.ucb t.ecb == 0) = false by simpa using h]; simp
  | false =>
    have HB := Lib.hid hb; clear hb
    go_wp2_with (fail)
    go_loopw [5] (fun i wr => ∃ k : Nat, k ≤ t.regs.length ∧ i = .int .i64 k ∧ Hid ((t.regs.take k).all regB = true) ∧ Ext W wr) (fun i _ => t.regs.length - (intOf i).toNat)
    case atStart => exact ⟨0, Nat.zero_le _, rfl, Lib.hid rfl, hX1⟩
    case round =>
      obtain ⟨k, hk, rfl, HA, hX⟩ := hrel
      by_cases hlt : k < t.regs.length
      · obtain ⟨b, o, rfl, hd⟩ := hr0.at hlt
        have hs1 : t.regs.take (k + 1) = t.regs.take k ++ [t.regs[k]] := List.take_succ_eq_append_getElem hlt
        have hm1 : t.regs[k] ∈ t.regs := List.getElem_mem hlt
        generalize t.regs[k] = x at hd hs1 hm1
        have HS := Lib.hid hs1; clear hs1
        have HX := Lib.hid hm1; clear hm1
        have inR : ∀ W, Calls Try.prog 17 #[.int .i64 x, .int .i64 1, .int .i64 10000] W fun e w' => e = .returned (.bool (regB x)) ∧ W = w' := fun W => in_any x 1 10000 W
        cases hR : regB x with
        | true =>
          go_wp2_with (go_at_call 17; refine (inR _).mono ?_; rintro e w' ⟨rfl, rfl⟩; rw [hR])
          exact ⟨⟨k + 1, hlt, rfl, Lib.hid (by rw [HS.out, List.all_append, HA.out]; simp [hR]), hX⟩, by simp [intOf]; omega⟩
        | false =>
          go_wp2_with (go_at_call 17; refine (inR _).mono ?_; rintro e w' ⟨rfl, rfl⟩; rw [hR])
          go_ret
          refine ⟨rb ?_, hL.trans (hX.below.mono hL.size)⟩
          have : t.regs.all regB = false := by
            cases h : t.regs.all regB with
            | false => rfl
            | true => rw [List.all_eq_true] at h; rw [h x HX.out] at hR; cases hR
          simp [isB, regsB, this]
      · obtain rfl : k = t.regs.length := by omega
        go_wp2_with (fail)
        refine wp_region_all (S := Ext W) (by kernel_rfl) (by kernel_rfl) hX.drew (fun K hK => ?_); (repeat (first | (apply hO_and; (· rfl); (· rfl); (· rfl); (· rfl); simp only [Act.put, List.setIfInBounds_toArray, List.set_cons_zero, List.set_cons_succ]) | (apply hO_or; (· rfl); (· rfl); (· rfl); (· rfl); simp only [Act.put, List.setIfInBounds_toArray, List.set_cons_zero, List.set_cons_succ]) | (apply hO_off; (· rfl); (· rfl); simp only [Act.put, List.setIfInBounds_toArray, List.set_cons_zero, List.set_cons_succ]) | (apply hO_val; (· intro w hS; go_simp; with_reducible rfl); (· rfl); simp only [Act.put, List.setIfInBounds_toArray, List.set_cons_zero, List.set_cons_succ]) | (apply hO_call; (· rfl); (· intro w hS; go_simp; exact ⟨rfl, rfl⟩); (· intro w hS; exact callX hS (workR_any t _ _ (hr0.ext hS))); simp only [Act.put, List.setIfInBounds_toArray, List.set_cons_zero, List.set_cons_succ]) | (apply hO_if; (· rfl); (· rfl); (· intro hif w hS; go_simp; with_reducible rfl); simp only [Act.put, List.setIfInBounds_toArray, List.set_cons_zero, List.set_cons_succ]) | (apply hO_ifcall; (· rfl); (· rfl); (· intro hif w hS; go_simp; exact ⟨rfl, rfl⟩); (· intro hif w hS; exact callX hS (workR_any t _ _ (hr0.ext hS))); simp only [Act.put, List.setIfInBounds_toArray, List.set_cons_zero, List.set_cons_succ]))); refine hO_nil ?_; refine forget_range 44 16 (Nat.le_of_ble_eq_true rfl) (fun junk => ?_); simp only [List.take_succ_cons, List.take_zero, List.drop_succ_cons, List.drop_zero, List.cons_append, List.nil_append, fillF, Nat.reduceAdd]; refine hK _ ?_; clear hK K
        intro w2 hX2
        have hreg : regsB t.regs = true := by
          have hb := HB.out
          have ha := HA.out
          rw [List.take_length] at ha
          simp only [Bool.or_eq_false_iff, Bool.not_eq_false', decide_eq_false_iff_not] at hb
          simp only [regsB, ha, Bool.and_eq_true, decide_eq_true_eq]
          exact ⟨by omega, by omega, trivial⟩
        have hfirst : nameB t.name.data.toList = true ∧ (bits BinOp.andNot IntKind.u64 t.ucb t.ecb == 0) = true := by
          have hb := HB.out
          simp only [Bool.or_eq_false_iff, Bool.not_eq_false'] at hb
          exact ⟨hb.1.1.1, by simpa using hb.2⟩
        have hP := work_pos hreg
        have H1 := Lib.hid hreg; clear hreg
        have H2 := Lib.hid hfirst; clear hfirst
        clear HA HB
        cases hb : (decide (t.D < workL t.regs) || decide (t.T < t.D) || decide (10000 < t.T)) with
        | true =>
          have HB := Lib.hid hb; clear hb hP
          go_wp2_with (fail)
          go_ret
          refine ⟨rb ?_, hL.trans (hX2.below.mono hL.size)⟩
          have := HB.out
          simp only [Bool.or_eq_true, decide_eq_true_eq] at this
          simp only [isB]
          rcases this with (h | h) | h
          · rw [decide_eq_false (p := workL t.regs ≤ t.D) (by omega)]; simp
          · rw [decide_eq_false (p := t.D ≤ t.T) (by omega)]; simp
          · rw [decide_eq_false (p := t.T ≤ 10000) (by omega)]; simp
        | false =>
          have hfin : isB t p = modeB t p := by
            simp only [Bool.or_eq_false_iff, decide_eq_false_iff_not] at hb
            simp only [isB, H1.out, H2.out.1, H2.out.2]
            rw [decide_eq_true (p := workL t.regs ≤ t.D) (by omega), decide_eq_true (p := t.D ≤ t.T) (by omega), decide_eq_true (p := t.T ≤ 10000) (by omega), decide_eq_true (p := t.T ≥ 0) (by omega)]
            simp
          clear hb hP H1 H2
          have HF := Lib.hid hfin; clear hfin
          cases e0 : t.mode == 0 with
          | true =>
            go_upto_region 12 with (fail)
            refine wp_region_all' (S := Ext W) hX2 (fun K hK => ?_); (repeat (first | (apply hO_and; (· rfl); (· rfl); (· rfl); (· rfl); simp only [Act.put, List.setIfInBounds_toArray, List.set_cons_zero, List.set_cons_succ]) | (apply hO_or; (· rfl); (· rfl); (· rfl); (· rfl); simp only [Act.put, List.setIfInBounds_toArray, List.set_cons_zero, List.set_cons_succ]) | (apply hO_off; (· rfl); (· rfl); simp only [Act.put, List.setIfInBounds_toArray, List.set_cons_zero, List.set_cons_succ]) | (apply hO_val; (· intro w hS; go_simp; with_reducible rfl); (· rfl); simp only [Act.put, List.setIfInBounds_toArray, List.set_cons_zero, List.set_cons_succ]) | (apply hO_call; (· rfl); (· intro w hS; go_simp; exact ⟨rfl, rfl⟩); (· intro w hS; fail); simp only [Act.put, List.setIfInBounds_toArray, List.set_cons_zero, List.set_cons_succ]) | (apply hO_if; (· rfl); (· rfl); (· intro hif w hS; go_simp; with_reducible rfl); simp only [Act.put, List.setIfInBounds_toArray, List.set_cons_zero, List.set_cons_succ]) | (apply hO_ifcall; (· rfl); (· rfl); (· intro hif w hS; go_simp; exact ⟨rfl, rfl⟩); (· intro hif w hS; fail); simp only [Act.put, List.setIfInBounds_toArray, List.set_cons_zero, List.set_cons_succ]))); refine hO_nil ?_; refine hK _ ?_; clear hK K
            intro w3 hX3
            go_wp2_with (fail)
            go_ret
            exact ⟨rb (by rw [HF.out, modeB, e0]; rfl), hL.trans (hX3.below.mono hL.size)⟩
          | false =>
            cases e1 : t.mode == 1 with
            | true =>
              go_upto_region 14 with (fail)
              refine wp_region_all' (S := Ext W) hX2 (fun K hK => ?_); (repeat (first | (apply hO_and; (· rfl); (· rfl); (· rfl); (· rfl); simp only [Act.put, List.setIfInBounds_toArray, List.set_cons_zero, List.set_cons_succ]) | (apply hO_or; (· rfl); (· rfl); (· rfl); (· rfl); simp only [Act.put, List.setIfInBounds_toArray, List.set_cons_zero, List.set_cons_succ]) | (apply hO_off; (· rfl); (· rfl); simp only [Act.put, List.setIfInBounds_toArray, List.set_cons_zero, List.set_cons_succ]) | (apply hO_val; (· intro w hS; go_simp; with_reducible rfl); (· rfl); simp only [Act.put, List.setIfInBounds_toArray, List.set_cons_zero, List.set_cons_succ]) | (apply hO_call; (· rfl); (· intro w hS; go_simp; exact ⟨rfl, rfl⟩); (· intro w hS; exact callS hS (in_any _ _ _ _)); simp only [Act.put, List.setIfInBounds_toArray, List.set_cons_zero, List.set_cons_succ]) | (apply hO_if; (· rfl); (· rfl); (· intro hif w hS; go_simp; with_reducible rfl); simp only [Act.put, List.setIfInBounds_toArray, List.set_cons_zero, List.set_cons_succ]) | (apply hO_ifcall; (· rfl); (· rfl); (· intro hif w hS; go_simp; exact ⟨rfl, rfl⟩); (· intro hif w hS; exact callS hS (in_any _ _ _ _)); simp only [Act.put, List.setIfInBounds_toArray, List.set_cons_zero, List.set_cons_succ]))); refine hO_nil ?_; refine hK _ ?_; clear hK K
              intro w3 hX3
              go_wp2_with (fail)
              go_ret
              exact ⟨rb (by rw [HF.out, modeB, e0, e1]; rfl), hL.trans (hX3.below.mono hL.size)⟩
            | false =>
              cases e2 : t.mode == 2 with
              | true =>
                go_upto_region 16 with (fail)
                refine wp_region_all' (S := Ext W) hX2 (fun K hK => ?_); (repeat (first | (apply hO_and; (· rfl); (· rfl); (· rfl); (· rfl); simp only [Act.put, List.setIfInBounds_toArray, List.set_cons_zero, List.set_cons_succ]) | (apply hO_or; (· rfl); (· rfl); (· rfl); (· rfl); simp only [Act.put, List.setIfInBounds_toArray, List.set_cons_zero, List.set_cons_succ]) | (apply hO_off; (· rfl); (· rfl); simp only [Act.put, List.setIfInBounds_toArray, List.set_cons_zero, List.set_cons_succ]) | (apply hO_val; (· intro w hS; go_simp; with_reducible rfl); (· rfl); simp only [Act.put, List.setIfInBounds_toArray, List.set_cons_zero, List.set_cons_succ]) | (apply hO_call; (· rfl); (· intro w hS; go_simp; exact ⟨rfl, rfl⟩); (· intro w hS; fail); simp only [Act.put, List.setIfInBounds_toArray, List.set_cons_zero, List.set_cons_succ]) | (apply hO_if; (· rfl); (· rfl); (· intro hif w hS; go_simp; with_reducible rfl); simp only [Act.put, List.setIfInBounds_toArray, List.set_cons_zero, List.set_cons_succ]) | (apply hO_ifcall; (· rfl); (· rfl); (· intro hif w hS; go_simp; exact ⟨rfl, rfl⟩); (· intro hif w hS; fail); simp only [Act.put, List.setIfInBounds_toArray, List.set_cons_zero, List.set_cons_succ]))); refine hO_nil ?_; refine hK _ ?_; clear hK K
                intro w3 hX3
                go_wp2_with (fail)
                go_ret
                refine ⟨rb ?_, hL.trans (hX3.below.mono hL.size)⟩
                rw [HF.out, modeB, e0, e1, e2]
                simp only [cond_false, cond_true, Bool.and_assoc]
              | false =>
                go_wp2_with (fail)
                go_ret
                exact ⟨rb (by rw [HF.out, modeB, e0, e1, e2]; rfl), hL.trans (hX2.below.mono hL.size)⟩
end Go.Proofs.Ytlaflbepidkmnaa
/- MapS -/
namespace Go.Proofs.Ytlaflbepidkmnaa
open Go.RowKit Go.Maps
open Go.WideMaps (keyOf_string_mk)

/-- block B is a map of at most n entries, from texts to bools, that says S -/
def SSet (P : Program) (k e : TypeId) (w : World) (B n : Nat) (S : List UInt8 → Bool) : Prop :=
  ∃ D : DataW Unit, w.ownsMap P k (plainElem P e) B n D ∧ IsMap D ∧ ∀ l, D.atKey (.string l) (.lit (.bool false)) = .lit (.bool (S l))
variable {P : Program} {k e t : TypeId} {w w' : World} {B n : Nat} {S : List UInt8 → Bool}
theorem SSet.made (w : World) (P : Program) (k e : TypeId) : SSet P k e (w.alloc (.map #[] 0)) w.heap.size 0 (fun _ => false) :=
  ⟨.map [], World.ownsMap_made _ _ _ _, isMap_empty, fun _ => rfl⟩
theorem SSet.lt (h : SSet P k e w B n S) : B < w.heap.size := by obtain ⟨D, h, _⟩ := h; exact h.lt
theorem SSet.ext (h : SSet P k e w B n S) (hx : Ext w w') : SSet P k e w' B n S := by
  obtain ⟨D, h, r⟩ := h
  exact ⟨D, h.kept (row := none) ⟨hx.below.os, hx.below.tape, hx.below.output, hx.below.size, fun i hi _ => hx.below.block i hi⟩ (by simp), r⟩
theorem plainElem_bool_inv (he : P.underlying e = some .bool) {v : Value} {z : DataW Unit × List MemPlace} (h : plainElem P e v = some z) : ∃ x, v = .bool x ∧ z = (.lit (.bool x), []) := by
  unfold plainElem at h
  rw [he] at h
  cases v <;> simp at h
  exact ⟨_, rfl, h.symm⟩
theorem SSet.look (h : SSet P k e w B n S) (hk : P.underlying k = some .string) (he : P.underlying e = some .bool) (ht : P.underlying t = some (.map k e)) (hz : (zeroValue e).run P w = .ok (.bool false) w) {s : ByteArray} (hs : s.size ≤ maxLen) :
    (Instr.lookup t (.map (some B)) (.string s) false).run P w = .ok (.bool (S s.data.toList)) w := by
  obtain ⟨D, h, _, hat⟩ := h
  obtain ⟨v, ps, hrun, hv⟩ := h.lookup (string_keyed hk) ht hz (plainElem_bool he false) (keyOf_string_mk hk hs)
  obtain ⟨x, rfl, hx⟩ := plainElem_bool_inv he hv
  rw [hat] at hx
  simp only [Prod.mk.injEq, DataW.lit.injEq, Lit.bool.injEq] at hx
  rw [hrun, hx.1]
theorem SSet.put (h : SSet P k e w B n S) (hk : P.underlying k = some .string) (he : P.underlying e = some .bool) (ht : P.underlying t = some (.map k e)) (hn : n < maxLen) {s : ByteArray} (hs : s.size ≤ maxLen) :
    ∃ w', (Instr.mapUpdate t (.map (some B)) (.string s) (.bool true)).run P w = .ok () w' ∧ SSet P k e w' B (n + 1) (fun l => S l || decide (l = s.data.toList)) ∧ w.grownBy w' (some B) := by
  obtain ⟨D, h, hm, hat⟩ := h
  obtain ⟨w', hrun, hown, hg⟩ := h.update (string_keyed hk) ht hn (keyOf_string_mk hk hs) (plainElem_bool he true)
  refine ⟨w', hrun, ⟨_, hown, hm.put _ _, fun l => ?_⟩, hg⟩
  by_cases hl : l = s.data.toList
  · subst hl
    rw [atKey_put_same hm (by simp [WideAt.IsKeyLit])]
    simp
  · rw [atKey_put_other (by simpa using hl), hat]
    simp [hl]
theorem wpList_put_set {ops : Array Oper} {rest : List Oper} {o : Oper} {a : Act} {Q : Exit → Act → World → Prop} (hg : o.guard = none) (m x v : Operand) (hop : o.op = Op.mapUpdate t m x v)
    (hk : P.underlying k = some .string) (he : P.underlying e = some .bool) (ht : P.underlying t = some (.map k e)) (hm : a.eval m = .map (some B)) (hn : n < maxLen) (s : ByteArray) (hs : s.size ≤ maxLen) (hx : a.eval x = .string s) (hv : a.eval v = .bool true)
    (h : SSet P k e w B n S) (hK : ∀ w', SSet P k e w' B (n + 1) (fun l => S l || decide (l = s.data.toList)) → w.grownBy w' (some B) → wpList P ops Q rest (a.put o.dst undef) w') : wpList P ops Q (o :: rest) a w := by
  refine wpList_plain hg fun K' hK' => ?_
  obtain ⟨w', hrun, r1, r2⟩ := h.put hk he ht hn hs
  unfold Oper.wp
  simp [execOp, hop, hm, hx, hv, hrun, Result.andThen]
  exact hK' _ _ (hK w' r1 r2)
end Go.Proofs.Ytlaflbepidkmnaa
/- TskA -/
namespace Go.Proofs.Ytlaflbepidkmnaa
open Go.RowKit
attribute [local go_sem] setCell_twice ByteArray.toList_eq str_list Ext.alloc Ext.drew
set_option linter.unusedSimpArgs false

/-- each may be at its place, none has a name that was there -/
def okL : List Tsk → Nat → List (List UInt8) → Bool
  | [], _, _ => true
  | t :: ts, i, seen => isB t i && (!decide (t.name.data.toList ∈ seen) && okL ts (i + 1) (seen ++ [t.name.data.toList]))
def allB (s : TSet) : Bool := (decide (s.reload ≥ 0) && decide (s.reload ≤ 10000)) && (decide (1 ≤ s.tasks.length) && (decide (s.tasks.length ≤ 8) && okL s.tasks 0 []))
def seenL (ts : List Tsk) (k : Nat) : List (List UInt8) := (ts.take k).map fun t => t.name.data.toList
theorem seen_step {ts : List Tsk} {k : Nat} (h : k < ts.length) : seenL ts (k + 1) = seenL ts k ++ [ts[k].name.data.toList] := by
  unfold seenL
  rw [List.take_succ_eq_append_getElem h, List.map_append]
  rfl
/-- so far all is well: the answer is the answer of what is left -/
def okAt (ts : List Tsk) (k : Nat) : Prop := okL ts 0 [] = okL (ts.drop k) k (seenL ts k)
theorem okAt_zero (ts : List Tsk) : okAt ts 0 := rfl
theorem okAt_step {ts : List Tsk} {k : Nat} (h : k < ts.length) (ho : okAt ts k) (hi : isB ts[k] k = true) (hn : decide (ts[k].name.data.toList ∈ seenL ts k) = false) : okAt ts (k + 1) := by
  unfold okAt at *
  rw [ho, List.drop_eq_getElem_cons h, okL, hi, hn, seen_step h]
  rfl
theorem okAt_not {ts : List Tsk} {k : Nat} (h : k < ts.length) (ho : okAt ts k) (hi : isB ts[k] k = false) : okL ts 0 [] = false := by
  rw [ho, List.drop_eq_getElem_cons h, okL, hi]
  rfl
theorem okAt_twice {ts : List Tsk} {k : Nat} (h : k < ts.length) (ho : okAt ts k) (hn : decide (ts[k].name.data.toList ∈ seenL ts k) = true) : okL ts 0 [] = false := by
  rw [ho, List.drop_eq_getElem_cons h, okL, hn]
  simp
theorem okAt_end {ts : List Tsk} (ho : okAt ts ts.length) : okL ts 0 [] = true := by
  rw [ho, List.drop_length]
  rfl
theorem allB_not {s : TSet} (h : okL s.tasks 0 [] = false) : allB s = false := by
  unfold allB
  rw [h]
  simp
theorem allB_out {s : TSet} (h : (!decide (0 ≤ s.reload) || !decide (s.reload ≤ 10000) || decide ((s.tasks.length : Int) < 1) || decide (8 < (s.tasks.length : Int))) = true) : allB s = false := by
  simp only [Bool.or_eq_true, Bool.not_eq_true', decide_eq_false_iff_not, decide_eq_true_eq] at h
  unfold allB
  rcases h with ((h | h) | h) | h
  · rw [decide_eq_false (p := s.reload ≥ 0) (by omega)]; rfl
  · rw [decide_eq_false (p := s.reload ≤ 10000) (by omega)]; simp
  · rw [decide_eq_false (p := 1 ≤ s.tasks.length) (by omega)]; simp
  · rw [decide_eq_false (p := s.tasks.length ≤ 8) (by omega)]; simp
theorem allB_in {s : TSet} (h : (!decide (0 ≤ s.reload) || !decide (s.reload ≤ 10000) || decide ((s.tasks.length : Int) < 1) || decide (8 < (s.tasks.length : Int))) = false) : allB s = okL s.tasks 0 [] ∧ s.tasks.length ≤ 8 := by
  simp only [Bool.or_eq_false_iff, Bool.not_eq_false', decide_eq_true_eq, decide_eq_false_iff_not] at h
  unfold allB
  rw [decide_eq_true (p := s.reload ≥ 0) (by omega), decide_eq_true (p := s.reload ≤ 10000) (by omega), decide_eq_true (p := 1 ≤ s.tasks.length) (by omega), decide_eq_true (p := s.tasks.length ≤ 8) (by omega)]
  exact ⟨by simp, by omega⟩

theorem mem_seen {ts : List Tsk} {j k : Nat} (hj : j < k) (hk : k ≤ ts.length) (n : List UInt8) (h : (ts[j]'(by omega)).name.data.toList = n) : decide (n ∈ seenL ts k) = true := by
  rw [decide_eq_true_eq, ← h]
  unfold seenL
  exact List.mem_map.2 ⟨_, List.mem_take_iff_getElem.2 ⟨j, by omega, rfl⟩, rfl⟩
/-- none of the first j has the name -/
def noneOf (ts : List Tsk) (j : Nat) (n : List UInt8) : Prop := decide (n ∈ seenL ts j) = false
theorem noneOf_step {ts : List Tsk} {j : Nat} (h : j < ts.length) {n : List UInt8} (h0 : noneOf ts j n) (h1 : ts[j].name.data.toList ≠ n) : noneOf ts (j + 1) n := by
  unfold noneOf at *
  rw [decide_eq_false_iff_not] at *
  rw [seen_step h, List.mem_append, List.mem_singleton]
  rintro (h2 | h2)
  · exact h0 h2
  · exact h1 h2.symm
theorem data_ne {a b : ByteArray} (h : (a.data == b.data) = false) : a.data.toList ≠ b.data.toList := fun e => by
  have : a.data = b.data := Array.ext' e
  rw [this] at h
  simp at h
theorem data_eq {a b : ByteArray} (h : (a.data == b.data) = true) : a.data.toList = b.data.toList := by
  rw [beq_iff_eq] at h
  rw [h]
theorem seen_fun (seen : List (List UInt8)) (n : List UInt8) : (fun l => decide (l ∈ seen ++ [n])) = fun l => decide (l ∈ seen) || decide (l = n) := by
  funext l
  simp only [List.mem_append, List.mem_singleton, Bool.decide_or]
theorem zeroBool (w : World) : (zeroValue 4).run Try.prog w = .ok (.bool false) w := by kernel_rfl
abbrev NSet (w : World) (B n : Nat) (S : List UInt8 → Bool) : Prop := SSet Try.prog 9 4 w B n S

set_option maxHeartbeats 6400000 in
set_option maxRecDepth 100000 in
theorem allR_any (s : TSet) (v : Value) (w : World) (hv : Tasks w v s.tasks) (hs : s.good) :
    Calls Try.prog 6 #[setV s v] w fun e w' => e = .returned (.bool (allB s)) ∧ Below w.heap.size w w' := by
  have l1 := hv.len
  have hv0 := hv
  obtain ⟨A, c, rfl, _, _, _⟩ := hv0
  go_enter Try.func6, Try.ntmps6
  unfold setV
  go_upto_region 1 with (fail)
  have hL : Below w.heap.size w (w.alloc (.cells #[.int .i64 s.reload, (.slice A s.tasks.length c)] 24)) := (by repeat (first | exact Below.refl _ _ | assumption | refine Below.drew ?_ | refine Below.alloc ?_ (by first | (simp; done) | (simp; omega) | omega) _ | refine Below.setCell ?_ (by first | (simp; done) | (simp; omega) | omega) _)); have hB : Blk (w.alloc (.cells #[.int .i64 s.reload, (.slice A s.tasks.length c)] 24)) w.heap.size #[.int .i64 s.reload, (.slice A s.tasks.length c)] 24 := Blk.new _ _ _
  have hr := hv.ext ⟨hL⟩
  generalize w.alloc _ = W at hL hB hr ⊢
  have hc := hB.under
  refine wp_region_all' (S := Ext W) (Ext.refl W) (fun K hK => ?_); (repeat (first | (apply hO_and; (· rfl); (· rfl); (· rfl); (· rfl); simp only [Act.put, List.setIfInBounds_toArray, List.set_cons_zero, List.set_cons_succ]) | (apply hO_or; (· rfl); (· rfl); (· rfl); (· rfl); simp only [Act.put, List.setIfInBounds_toArray, List.set_cons_zero, List.set_cons_succ]) | (apply hO_off; (· rfl); (· rfl); simp only [Act.put, List.setIfInBounds_toArray, List.set_cons_zero, List.set_cons_succ]) | (apply hO_val; (· intro w hS; go_simp; with_reducible rfl); (· rfl); simp only [Act.put, List.setIfInBounds_toArray, List.set_cons_zero, List.set_cons_succ]) | (apply hO_call; (· rfl); (· intro w hS; go_simp; exact ⟨rfl, rfl⟩); (· intro w hS; exact callS hS (in_any _ _ _ _)); simp only [Act.put, List.setIfInBounds_toArray, List.set_cons_zero, List.set_cons_succ]) | (apply hO_if; (· rfl); (· rfl); (· intro hif w hS; go_simp; with_reducible rfl); simp only [Act.put, List.setIfInBounds_toArray, List.set_cons_zero, List.set_cons_succ]) | (apply hO_ifcall; (· rfl); (· rfl); (· intro hif w hS; go_simp; exact ⟨rfl, rfl⟩); (· intro hif w hS; exact callS hS (in_any _ _ _ _)); simp only [Act.put, List.setIfInBounds_toArray, List.set_cons_zero, List.set_cons_succ]))); refine hO_nil ?_; refine forget_range 5 15 (Nat.le_of_ble_eq_true rfl) (fun junk => ?_); simp only [List.take_succ_cons, List.take_zero, List.drop_succ_cons, List.drop_zero, List.cons_append, List.nil_append, fillF, Nat.reduceAdd]; refine hK _ ?_; clear hK K
  intro w1 hX1
  cases hb : (!decide (0 ≤ s.reload) || !decide (s.reload ≤ 10000) || decide ((s.tasks.length : Int) < 1) || decide (8 < (s.tasks.length : Int))) with
  | true =>
    have HB := Lib.hid (allB_out hb)
    clear hb
    go_wp2_with (fail)
    go_ret
    exact ⟨by rw [HB.out]; rfl, hL.trans (hX1.below.mono hL.size)⟩
  | false =>
    have hb2 := allB_in hb
    have HB := Lib.hid hb2.1
    clear hb hb2
    go_wp2_with (fail)
    go_loopw [3] (fun i wr => ∃ k : Nat, k ≤ s.tasks.length ∧ i = .int .i64 k ∧ Hid (okAt s.tasks k) ∧ Ext W wr) (fun i _ => s.tasks.length - (intOf i).toNat)
    case atStart => exact ⟨0, Nat.zero_le _, rfl, Lib.hid (okAt_zero _), hX1⟩
    case round =>
      obtain ⟨k, hk, rfl, HO, hX⟩ := hrel
      by_cases hlt : k < s.tasks.length
      · obtain ⟨b, o, r, rfl, hx⟩ := hr.at hlt
        have h1 := fun e => okAt_step hlt HO.out e
        have h2 := fun e => okAt_not hlt HO.out e
        have h3 := fun e => okAt_twice hlt HO.out e
        have h5 := hs _ (List.getElem_mem hlt)
        generalize s.tasks[k] = x at hx h1 h2 h3 h5
        have H1 := Lib.hid h1; clear h1
        have H2 := Lib.hid h2; clear h2
        have H3 := Lib.hid h3; clear h3
        obtain ⟨Ax, cx, rfl⟩ := hx.row
        obtain ⟨x0, x1, x2, x3, x4, x5, x6, x7, x8⟩ := hx.under
        go_wp2_with (fail)
        refine (isR_any x _ k _ (hx.1.ext hX) h5).mono ?_
        rintro e w3 ⟨rfl, hb⟩
        have hX4 := hX.call hb
        clear hb hX
        cases hi : isB x k with
        | false =>
          have h2 := Lib.hid (allB_not (H2.out hi))
          go_wp2_with (fail)
          go_ret
          exact ⟨by rw [h2.out]; rfl, hL.trans (hX4.below.mono hL.size)⟩
        | true =>
          have HI := Lib.hid hi; clear hi
          go_wp2_with (fail)
          go_loopw [4] (fun i wr => ∃ j : Nat, j ≤ k ∧ i = .int .i64 j ∧ Hid (noneOf s.tasks j x.name.data.toList) ∧ Ext W wr) (fun i _ => k - (intOf i).toNat)
          case atStart => exact ⟨0, Nat.zero_le _, rfl, Lib.hid rfl, hX4⟩
          case round =>
            obtain ⟨j, hj, rfl, HN, hX⟩ := hrel
            by_cases hjk : j < k
            · have hjl : j < s.tasks.length := by omega
              obtain ⟨b', o', r', e, hy⟩ := hr.at hjl
              obtain ⟨rfl, rfl⟩ : b = b' ∧ o = o' := by simpa using e
              have hm := fun h => mem_seen hjk hk x.name.data.toList h
              have hn := fun h => noneOf_step hjl HN.out h
              generalize s.tasks[j] = y at hy hm hn
              have HM := Lib.hid hm; clear hm
              have HS := Lib.hid hn; clear hn e
              have y0 := hy.under.1
              go_upto_region 11 with (fail)
              refine wp_region_all (S := Ext W) (by kernel_rfl) (by kernel_rfl) hX.drew (fun K hK => ?_); (repeat (first | (apply hO_and; (· rfl); (· rfl); (· rfl); (· rfl); simp only [Act.put, List.setIfInBounds_toArray, List.set_cons_zero, List.set_cons_succ]) | (apply hO_or; (· rfl); (· rfl); (· rfl); (· rfl); simp only [Act.put, List.setIfInBounds_toArray, List.set_cons_zero, List.set_cons_succ]) | (apply hO_off; (· rfl); (· rfl); simp only [Act.put, List.setIfInBounds_toArray, List.set_cons_zero, List.set_cons_succ]) | (apply hO_val; (· intro w hS; go_simp; with_reducible rfl); (· rfl); simp only [Act.put, List.setIfInBounds_toArray, List.set_cons_zero, List.set_cons_succ]) | (apply hO_call; (· rfl); (· intro w hS; go_simp; exact ⟨rfl, rfl⟩); (· intro w hS; fail); simp only [Act.put, List.setIfInBounds_toArray, List.set_cons_zero, List.set_cons_succ]) | (apply hO_if; (· rfl); (· rfl); (· intro hif w hS; go_simp; with_reducible rfl); simp only [Act.put, List.setIfInBounds_toArray, List.set_cons_zero, List.set_cons_succ]) | (apply hO_ifcall; (· rfl); (· rfl); (· intro hif w hS; go_simp; exact ⟨rfl, rfl⟩); (· intro hif w hS; fail); simp only [Act.put, List.setIfInBounds_toArray, List.set_cons_zero, List.set_cons_succ]))); refine hO_nil ?_; refine forget_range 41 12 (Nat.le_of_ble_eq_true rfl) (fun junk => ?_); simp only [List.take_succ_cons, List.take_zero, List.drop_succ_cons, List.drop_zero, List.cons_append, List.nil_append, fillF, Nat.reduceAdd]; refine hK _ ?_; clear hK K
              intro w5 hX5
              cases hd : y.name.data == x.name.data with
              | true =>
                have h2 := Lib.hid (allB_not (H3.out (HM.out (data_eq hd))))
                clear hd
                go_wp2_with (fail)
                go_ret
                exact ⟨by rw [h2.out]; rfl, hL.trans (hX5.below.mono hL.size)⟩
              | false =>
                have h2 := Lib.hid (HS.out (data_ne hd))
                clear hd
                go_wp2_with (fail)
                exact ⟨⟨j + 1, hjk, rfl, h2, hX5⟩, by simp [intOf]; omega⟩
            · obtain rfl : j = k := by omega
              have h2 := Lib.hid (H1.out HI.out HN.out)
              go_wp2_with (fail)
              exact ⟨⟨j + 1, hlt, rfl, h2, hX⟩, by simp [intOf]; omega⟩
      · obtain rfl : k = s.tasks.length := by omega
        go_wp2_with (fail)
        go_ret
        exact ⟨by rw [HB.out, okAt_end HO.out]; rfl, hL.trans (hX.below.mono hL.size)⟩
end Go.Proofs.Ytlaflbepidkmnaa
/- TskI -/
namespace Go.Proofs.Ytlaflbepidkmnaa
open Go.RowKit
attribute [local go_sem] setCell_twice ByteArray.toList_eq str_list Ext.alloc Ext.drew

set_option linter.unusedSimpArgs false
set_option maxHeartbeats 1600000 in
set_option maxRecDepth 100000 in
theorem ints2_any (v u : Value) (xs ys : List Int) (w : World) (hv : Ints w v xs) (hu : Ints w u ys) :
    Calls Try.prog 25 #[v, u] w fun e w' => e = .returned (.bool (decide (xs = ys))) ∧ Below w.heap.size w w' := by
  obtain ⟨A, c, rfl, h1, h2, h3⟩ := hv
  obtain ⟨A', c', rfl, k1, k2, k3⟩ := hu
  unfold maxLen at h2 k2
  by_cases hl : xs.length = ys.length
  · have HL := Lib.hid hl
    have hb : ((xs.length : Int) != (ys.length : Int)) = false := by simp [hl]
    clear hl
    go_enter Try.func25, Try.ntmps25
    go_wp2_with (fail)
    go_loopw [5] (fun i wr => ∃ k : Nat, k ≤ xs.length ∧ i = .int .i64 k ∧ Hid (xs.take k = ys.take k) ∧ Ext w wr) (fun i _ => xs.length - (intOf i).toNat)
    case atStart => exact ⟨0, Nat.zero_le _, rfl, Lib.hid rfl, Ext.refl _⟩
    case round =>
      obtain ⟨k, hk, rfl, ht, hX⟩ := hrel
      by_cases hlt : k < xs.length
      · have hlt' : k < ys.length := by rw [← HL.out]; exact hlt
        obtain ⟨b, o, rfl, hx⟩ := h3 (by intro e; rw [e] at hlt; simp at hlt)
        obtain ⟨b', o', rfl, hy⟩ := k3 (by intro e; rw [e] at hlt'; simp at hlt')
        have hc := fun W (h : Ext w W) => h.cell (hx k hlt)
        have hd := fun W (h : Ext w W) => h.cell (hy k hlt')
        clear hx hy h3 k3
        have he := fun e => take_eq_step hlt hlt' ht.out e
        have hne : xs[k] ≠ ys[k] → xs ≠ ys := fun h e => h (by subst e; rfl)
        generalize xs[k] = x at hc he hne
        generalize ys[k] = y at hd he hne
        have HE := Lib.hid he; clear he
        have HN := Lib.hid hne; clear hne
        go_wp2_with (fail)
        refine wp_region_all (S := Ext w) (by kernel_rfl) (by kernel_rfl) hX.drew (fun K hK => ?_); (repeat (first | (apply hO_and; (· rfl); (· rfl); (· rfl); (· rfl); simp only [Act.put, List.setIfInBounds_toArray, List.set_cons_zero, List.set_cons_succ]) | (apply hO_or; (· rfl); (· rfl); (· rfl); (· rfl); simp only [Act.put, List.setIfInBounds_toArray, List.set_cons_zero, List.set_cons_succ]) | (apply hO_off; (· rfl); (· rfl); simp only [Act.put, List.setIfInBounds_toArray, List.set_cons_zero, List.set_cons_succ]) | (apply hO_val; (· intro w hS; go_simp; with_reducible rfl); (· rfl); simp only [Act.put, List.setIfInBounds_toArray, List.set_cons_zero, List.set_cons_succ]) | (apply hO_call; (· rfl); (· intro w hS; go_simp; exact ⟨rfl, rfl⟩); (· intro w hS; fail); simp only [Act.put, List.setIfInBounds_toArray, List.set_cons_zero, List.set_cons_succ]) | (apply hO_if; (· rfl); (· rfl); (· intro hif w hS; go_simp; with_reducible rfl); simp only [Act.put, List.setIfInBounds_toArray, List.set_cons_zero, List.set_cons_succ]) | (apply hO_ifcall; (· rfl); (· rfl); (· intro hif w hS; go_simp; exact ⟨rfl, rfl⟩); (· intro hif w hS; fail); simp only [Act.put, List.setIfInBounds_toArray, List.set_cons_zero, List.set_cons_succ]))); refine hO_nil ?_; refine hK _ ?_; clear hK K
        intro w1 hX1
        by_cases e : x = y
        · have hb : (x != y) = false := by simpa using e
          have ht2 := HE.out e
          clear e
          have HT2 := Lib.hid ht2; clear ht2
          go_wp2_with (fail)
          exact ⟨⟨k + 1, hlt, rfl, HT2, hX1⟩, by simp [intOf]; omega⟩
        · have hb : (x != y) = true := by simpa using e
          have hn := Lib.hid (HN.out e)
          clear e
          go_wp2_with (fail)
          go_ret
          exact ⟨by rw [decide_eq_false hn.out]; rfl, hX1.below⟩
      · obtain rfl : k = xs.length := by omega
        go_wp2_with (fail)
        go_ret
        exact ⟨by rw [decide_eq_true (take_eq_end HL.out ht.out)]; rfl, hX.below⟩
  · have hb : ((xs.length : Int) != (ys.length : Int)) = true := by simp; omega
    have hn : xs ≠ ys := fun e => hl (by rw [e])
    have HN := Lib.hid hn; clear hn hl
    go_enter Try.func25, Try.ntmps25
    go_wp2_with (fail)
    go_ret
    exact ⟨by rw [decide_eq_false HN.out]; rfl, Below.refl _ _⟩


end Go.Proofs.Ytlaflbepidkmnaa
/- SetO -/
namespace Go.Proofs.Ytlaflbepidkmnaa
open Go.RowKit Go.ChangeShapes Go.WideShapes Go.Deep
set_option linter.unusedVariables false

/-- no text and no row of it is too great -/
def Sz {H : Type} (t : TypeId) (d : DataW H) : Prop := ∀ n ∈ d.weights Try.prog t, n ≤ 140737488351232
theorem Sz.of {H : Type} {ts : List TypeId} {ds : List (DataW H)} {j : Nat} {t : TypeId} {d : DataW H} (h : (DataW.weightsEach Try.prog ts ds).all (· ≤ reachBytes) = true) (ht : ts[j]? = some t) (hd : ds[j]? = some d) : Sz t d := fun n hn => by
  have := List.all_eq_true.1 h _ (DataW.weights_mem_each ht hd n hn)
  have h2 : n ≤ reachBytes := by simpa using this
  exact h2
theorem weights_mem_all {H : Type} {P : Program} {e : TypeId} {d : DataW H} : ∀ {l : List (DataW H)}, d ∈ l → ∀ n ∈ d.weights P e, n ∈ DataW.weightsAll P e l
  | x :: l, hd, n, hn => by
    simp only [DataW.weightsAll, List.mem_append]
    rcases List.mem_cons.1 hd with rfl | h
    · exact .inl hn
    · exact .inr (weights_mem_all h n hn)
theorem Sz.field {H : Type} {t : TypeId} {fs : Array Field} {ds : List (DataW H)} (h : Sz t (.agg ds)) (hu : Try.prog.underlying t = some (.struct fs)) {j : Nat} {f : TypeId} {d : DataW H} (hf : (fs.toList.map (·.type))[j]? = some f) (hd : ds[j]? = some d) : Sz f d := fun n hn =>
  h n (by
    simp only [DataW.weights, hu]
    exact DataW.weights_mem_each hf hd n hn)
theorem Sz.elem {H : Type} {t e : TypeId} {l sp : List (DataW H)} (h : Sz t (.slice l sp)) (hu : Try.prog.underlying t = some (.slice e)) {d : DataW H} (hd : d ∈ l) : Sz e d := fun n hn =>
  h n (by
    simp only [DataW.weights, hu, List.mem_cons, List.mem_append]
    exact .inr (.inl (weights_mem_all hd n hn)))
theorem Sz.row {H : Type} {t e : TypeId} {l sp : List (DataW H)} (h : Sz t (.slice l sp)) (hu : Try.prog.underlying t = some (.slice e)) : l.length * Try.prog.bytesOf e ≤ 140737488351232 := by
  have := h ((l.length + sp.length) * Try.prog.bytesOf e) (by simp [DataW.weights, hu])
  exact Nat.le_trans (Nat.mul_le_mul_right _ (Nat.le_add_right _ _)) this
theorem Sz.text {H : Type} {t : TypeId} {s : List UInt8} (h : Sz (H := H) t (.lit (.string s))) : s.length ≤ 140737488351232 := h _ (by simp [DataW.weights])

theorem bytes64 : Try.prog.bytesOf 2 = 8 := by kernel_rfl
theorem bytesTask : Try.prog.bytesOf 34 = 96 := by kernel_rfl
theorem ints_sized {H : Type} {enc : TypeId × Value → H} {W : World} {base : Nat} {spare : Nat → Bool} {held : Bool} {n : Nat} {v : Value} {y : DataW H × List MemPlace} (h : DataW.trod enc Try.prog W base spare held n 31 [v] = some y) {xs : List Int} (hx : Ints W v xs) (hs : Sz 31 y.1) : xs.length * 8 ≤ 140737488351232 := by
  rcases open_ints Try.underlying31 Try.underlying2 (by kernel_rfl) h with ⟨hv, _⟩ | ⟨a, len, cap, zs, hv, _, h1, h2, hz, rfl, hc, hw⟩
  · obtain rfl : v = .slice none 0 0 := by simpa using hv
    obtain ⟨A, c, e, _⟩ := hx
    have := (Value.slice.inj e).2.1
    omega
  · obtain rfl : v = .slice (some a) len cap := by simpa using hv
    obtain ⟨A, c, e, _⟩ := hx
    have hlen := (Value.slice.inj e).2.1
    have := hs.row Try.underlying31
    rw [bytes64] at this
    have hle : len ≤ zs.length := by rw [hz]; split <;> omega
    simp only [lits, List.length_map, List.length_take] at this
    rw [← hlen]
    rwa [Nat.min_eq_left hle] at this

/-- a task that is no greater than what may come in -/
def Tsk.fit (t : Tsk) : Prop := t.name.size ≤ 140737488351232 ∧ t.regs.length * 8 ≤ 140737488351232 ∧ t.ok
def TSet.fit (s : TSet) : Prop := (Lit.int .i64 s.reload).wf = true ∧ s.tasks.length * 96 ≤ 140737488351232 ∧ ∀ t ∈ s.tasks, t.fit
theorem TSet.fit.good {s : TSet} (h : s.fit) : s.good := fun t ht => by
  have := (h.2.2 t ht).1
  unfold maxLen
  omega

set_option maxRecDepth 100000 in
theorem task_sized {H : Type} {enc : TypeId × Value → H} {W : World} {base : Nat} {spare : Nat → Bool} {held : Bool} {n : Nat} {cs : List Value} {y : DataW H × List MemPlace} (hl : cs.length = 9) (hz : Sz 34 y.1) (h : DataW.trod enc Try.prog W base spare held n 34 cs = some y) :
    ∃ (t : Tsk) (r : Value), cs = (tskV t r).cells.toList ∧ Ints W r t.regs ∧ t.fit := by
  obtain ⟨xs, m, _, hx, _, hlen, hfi⟩ := DataW.trod_struct Try.underlying34 h
  match cs, hl with
  | [c0, c1, c2, c3, c4, c5, c6, c7, c8], _ =>
    match xs, hlen with
    | [y0, y1, y2, y3, y4, y5, y6, y7, y8], _ =>
      have k0 := hfi 0 _ rfl
      have k1 := hfi 1 _ rfl
      have k2 := hfi 2 _ rfl
      have k3 := hfi 3 _ rfl
      have k4 := hfi 4 _ rfl
      have k5 := hfi 5 _ rfl
      have k6 := hfi 6 _ rfl
      have k7 := hfi 7 _ rfl
      have k8 := hfi 8 _ rfl
      clear hfi
      simp only [List.getElem_toArray, List.getElem_cons_zero, List.getElem_cons_succ] at k0 k1 k2 k3 k4 k5 k6 k7 k8
      rw [show Try.prog.cellsOf 9 = 1 by kernel_rfl] at k0
      rw [show Try.prog.cellsOf 2 = 1 by kernel_rfl] at k1 k2 k4
      rw [show Try.prog.cellsOf 3 = 1 by kernel_rfl] at k3 k5
      rw [show Try.prog.cellsOf 31 = 1 by kernel_rfl] at k6
      rw [show Try.prog.cellsOf 32 = 1 by kernel_rfl] at k7 k8
      simp only [List.drop_zero, List.drop_succ_cons, List.take_succ_cons, List.take_zero, List.getElem?_cons_zero, List.getElem?_cons_succ] at k0 k1 k2 k3 k4 k5 k6 k7 k8
      rw [hx] at hz
      have z0 := hz.field (j := 0) Try.underlying34 rfl rfl
      have z6 := hz.field (j := 6) Try.underlying34 rfl rfl
      obtain ⟨s, e0, d0, hs⟩ := DataW.trod_string Try.underlying9 k0
      obtain ⟨n1, e1, _, w1⟩ := DataW.trod_int Try.underlying2 k1
      obtain ⟨n2, e2, _, w2⟩ := DataW.trod_int Try.underlying2 k2
      obtain ⟨n3, e3, _, w3⟩ := DataW.trod_int Try.underlying3 k3
      obtain ⟨n4, e4, _, w4⟩ := DataW.trod_int Try.underlying2 k4
      obtain ⟨n5, e5, _, w5⟩ := DataW.trod_int Try.underlying3 k5
      obtain ⟨n7, e7, _, w7⟩ := DataW.trod_int Try.underlying32 k7
      obtain ⟨n8, e8, _, w8⟩ := DataW.trod_int Try.underlying32 k8
      obtain ⟨rs, hI, w6⟩ := ints_of_trod k6
      have hl6 := ints_sized k6 hI z6
      rw [d0] at z0
      have hl0 := z0.text
      simp only [List.cons.injEq, and_true] at e0 e1 e2 e3 e4 e5 e7 e8
      subst e0 e1 e2 e3 e4 e5 e7 e8
      exact ⟨⟨s, n1, n2, n3, n4, n5, rs, n7, n8⟩, c6, rfl, hI, by rw [Array.length_toList] at hl0; exact hl0, hl6, w1, w2, w3, w4, w5, w7, w8, w6⟩


set_option maxRecDepth 100000 in
theorem task_at {W : World} {base : Nat} {a : Addr} {t : Tsk} {r : Value} (hI : Ints W r t.regs) (h : W.cells? base a 9 = some (tskV t r).cells.toList) : ∃ b o, a = ⟨b, o, none⟩ ∧ TaskAt W b o t r := by
  obtain ⟨_, _, hc⟩ := World.cells?_some h
  have c0 := hc 0 (by omega)
  obtain ⟨b, o, spot⟩ := a
  have hspot : spot = none := by
    have c0' : W.cell? ((⟨b, o, spot⟩ : Addr).add 0) = some (.string t.name) := c0
    simpa [Addr.add] using World.cell?_spot c0'
  subst hspot
  have e : ∀ j, (⟨b, o, none⟩ : Addr).add j = ⟨b, o + j, none⟩ := fun j => by unfold Addr.add; split <;> simp_all
  refine ⟨b, o, rfl, hI, ?_, ?_, ?_, ?_, ?_, ?_, ?_, ?_, ?_⟩
  · have := hc 0 (by omega); rw [e] at this; exact this
  · have := hc 1 (by omega); rw [e] at this; exact this
  · have := hc 2 (by omega); rw [e] at this; exact this
  · have := hc 3 (by omega); rw [e] at this; exact this
  · have := hc 4 (by omega); rw [e] at this; exact this
  · have := hc 5 (by omega); rw [e] at this; exact this
  · have := hc 6 (by omega); rw [e] at this; exact this
  · have := hc 7 (by omega); rw [e] at this; exact this
  · have := hc 8 (by omega); rw [e] at this; exact this

instance : Inhabited Tsk := ⟨⟨ByteArray.empty, 0, 0, 0, 0, 0, [], 0, 0⟩⟩
set_option maxRecDepth 100000 in
theorem tasks_of_trod {H : Type} {enc : TypeId × Value → H} {W : World} {base : Nat} {spare : Nat → Bool} {held : Bool} {n : Nat} {v : Value} {y : DataW H × List MemPlace} (h : DataW.trod enc Try.prog W base spare held n 22 [v] = some y) (hz : Sz 22 y.1) :
    ∃ ts, Tasks W v ts ∧ ts.length * 96 ≤ 140737488351232 ∧ ∀ t ∈ ts, t.fit := by
  rcases open_slice Try.underlying22 h with ⟨hv, _⟩ | ⟨a, len, cap, m, n, D, Pl, hv, _, hl, hm, hmm, rfl, hx⟩
  · obtain rfl : v = .slice none 0 0 := by simpa using hv
    exact ⟨[], ⟨none, 0, rfl, Nat.le_refl _, Nat.zero_le _, fun h => absurd rfl h⟩, by simp, by simp⟩
  · obtain rfl : v = .slice (some a) len cap := by simpa using hv
    have hle : len ≤ m := by rw [hmm]; split <;> omega
    rw [show Try.prog.cellsOf 34 = 9 by kernel_rfl] at hx
    obtain ⟨f, hf⟩ := choose_lt (α := Tsk) (n := len) (p := fun i t => ∃ r b o, a.add (i * 9) = ⟨b, o, none⟩ ∧ TaskAt W b o t r ∧ t.fit) (fun i hi => by
      obtain ⟨cs', h1, h2⟩ := hx i (by omega)
      obtain ⟨_, hlen, _⟩ := World.cells?_some h1
      have hzi : Sz 34 (D i) := hz.elem Try.underlying22 (List.mem_map.2 ⟨i, List.mem_range.2 hi, rfl⟩)
      obtain ⟨t, r, rfl, hI, hfit⟩ := task_sized hlen hzi h2
      obtain ⟨b, o, e, hat⟩ := task_at hI h1
      exact ⟨t, r, b, o, e, hat, hfit⟩)
    have hlen : ((List.range len).map f).length = len := by simp
    refine ⟨(List.range len).map f, ⟨some a, cap, by rw [hlen], by rw [hlen]; exact hl, hm, fun hne => ?_⟩, ?_, fun t ht => ?_⟩
    · have hpos : 0 < len := by
        rcases Nat.eq_zero_or_pos len with h0 | h0
        · rw [h0] at hne; simp at hne
        · exact h0
      obtain ⟨r, b, o, e, _, _⟩ := hf 0 hpos
      have e0 : a = ⟨b, o, none⟩ := by simpa [Addr.add] using e
      subst e0
      refine ⟨b, o, rfl, fun i hi => ?_⟩
      rw [hlen] at hi
      obtain ⟨r', b', o', e', hat, _⟩ := hf i hi
      have e1 : (⟨b, o, none⟩ : Addr).add (i * 9) = ⟨b, o + i * 9, none⟩ := by unfold Addr.add; split <;> simp_all
      rw [e1] at e'
      obtain ⟨rfl, rfl⟩ : b = b' ∧ o + i * 9 = o' := by simpa using e'
      exact ⟨r', by simpa using hat⟩
    · have := hz.row Try.underlying22
      rw [bytesTask] at this
      simpa using this
    · obtain ⟨i, hi, rfl⟩ := List.mem_map.1 ht
      obtain ⟨_, _, _, _, _, h⟩ := hf i (List.mem_range.1 hi)
      exact h

set_option maxRecDepth 100000 in
theorem set_of_trod {H : Type} {enc : TypeId × Value → H} {W : World} {base : Nat} {spare : Nat → Bool} {held : Bool} {n : Nat} {cs : List Value} {y : DataW H × List MemPlace} (hl : cs.length = 2) (hz : Sz 24 y.1) (h : DataW.trod enc Try.prog W base spare held n 24 cs = some y) :
    ∃ (s : TSet) (v : Value), cs = (setV s v).cells.toList ∧ Tasks W v s.tasks ∧ s.fit := by
  obtain ⟨xs, m, _, hx, _, hlen, hfi⟩ := DataW.trod_struct Try.underlying24 h
  match cs, hl with
  | [c0, c1], _ =>
    match xs, hlen with
    | [y0, y1], _ =>
      have k0 := hfi 0 _ rfl
      have k1 := hfi 1 _ rfl
      clear hfi
      simp only [List.getElem_toArray, List.getElem_cons_zero, List.getElem_cons_succ] at k0 k1
      rw [show Try.prog.cellsOf 2 = 1 by kernel_rfl] at k0
      rw [show Try.prog.cellsOf 22 = 1 by kernel_rfl] at k1
      simp only [List.drop_zero, List.drop_succ_cons, List.take_succ_cons, List.take_zero, List.getElem?_cons_zero, List.getElem?_cons_succ] at k0 k1
      rw [hx] at hz
      have z1 := hz.field (j := 1) Try.underlying24 rfl rfl
      obtain ⟨n0, e0, _, w0⟩ := DataW.trod_int Try.underlying2 k0
      obtain ⟨ts, hT, hlen, hfit⟩ := tasks_of_trod k1 z1
      simp only [List.cons.injEq, and_true] at e0
      subst e0
      exact ⟨⟨n0, ts⟩, c1, rfl, hT, w0, hlen, hfit⟩
set_option maxRecDepth 100000 in
theorem open_set {H : Type} {enc : TypeId × Value → H} {W : World} {r0 : Reach} {b0 base : Nat} {spare : Nat → Bool} {held : Bool} {v : Value} {d : DataW H} {p : List MemPlace}
    (hv : Value.okWide Try.prog W r0 b0 24 v) (hz : Sz 24 d) (h : DataW.Trod enc Try.prog W base spare held 24 v d p) : ∃ s : TSet, ∃ u, v = setV s u ∧ Tasks W u s.tasks ∧ s.fit := by
  obtain ⟨cs, rfl, hsz⟩ := okWide_struct Try.underlying24 hv
  obtain ⟨fuel, hf⟩ := h
  have hl : (Value.agg cs).cells.toList.length = 2 := by
    rw [show (Value.agg cs).cells = cs from rfl, Array.length_toList, hsz]
    kernel_rfl
  obtain ⟨s, u, e, h1, h2⟩ := set_of_trod hl hz hf
  refine ⟨s, u, ?_, h1, h2⟩
  have e2 : cs.toList = (setV s u).cells.toList := e
  have : cs = (setV s u).cells := Array.ext' e2
  rw [this]
  rfl
end Go.Proofs.Ytlaflbepidkmnaa
