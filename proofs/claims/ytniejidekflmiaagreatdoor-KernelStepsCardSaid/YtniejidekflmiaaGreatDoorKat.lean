/- The kernel in memory. -/
import Derived.Test.YtniejidekflmiaaGreatDoorProg
import Derived.Test.YtniejidekflmiaaGreatDoorBase
import Derived.Test.YtniejidekflmiaaGreatDoorHeldX
import Derived.Test.YtniejidekflmiaaGreatDoorApp
import Derived.Test.YtniejidekflmiaaGreatDoorExt0
import Derived.Test.YtniejidekflmiaaGreatDoorChg
import Derived.Test.YtniejidekflmiaaGreatDoorRowB
import Derived.Test.YtniejidekflmiaaGreatDoorKM
import Derived.Test.YtniejidekflmiaaGreatDoorKP1
import Derived.Test.YtniejidekflmiaaGreatDoorOpenI
import Derived.Test.YtniejidekflmiaaGreatDoorTskP
import Derived.Test.YtniejidekflmiaaGreatDoorKcac
import Derived.Test.YtniejidekflmiaaGreatDoorKpol
import Derived.Test.YtniejidekflmiaaGreatDoorKjob
import Derived.Test.YtniejidekflmiaaGreatDoorKn0
import Derived.Test.YtniejidekflmiaaGreatDoorKker
import Derived.Test.YtniejidekflmiaaGreatDoorKtab
import Derived.Deep.Cut
import Derived.Lib.Hide
import Derived.OwnWalk
import Derived.Maps.AppendAt
import Derived.BigQuiet
namespace Go.Proofs.YtniejidekflmiaaGreatDoor
open Go.RowKit
set_option linter.unusedSimpArgs false
set_option linter.unusedVariables false
set_option maxRecDepth 100000
set_option maxHeartbeats 400000
attribute [local irreducible] Calls

structure Ow where
  p : Option Nat
  had : Nat
  load : Int
def Ow.zero : Ow := ⟨none, 0, 0⟩
def Ow.ptr (x : Ow) : Value := .pointer (x.p.map fun g => ⟨g, 0, none⟩)
def encOw (x : Ow) : List Value := [x.ptr, .int .u64 x.had, .int .i64 x.load]
theorem encOw_len (x : Ow) : (encOw x).length = 3 := rfl
def owAt (os : List Ow) (i : Nat) : Ow := os.getD i Ow.zero
structure KB where
  gk : Nat
  gp : Nat
  gc : Nat
  gt : Nat
  gs : Nat
  go : Nat
  vt : Value
  vp : Value
  ps : List (Tsk × Value)
  base : Nat
def kcs (b : KB) (s : TSet) (t ran : Int) (ev : Value) : Array Value :=
  #[.int .i64 s.reload, b.vt, .int .i64 t, .int .i64 ran, .pointer (some ⟨b.gp, 0, none⟩), .pointer (some ⟨b.gc, 0, none⟩), .pointer (some ⟨b.gt, 0, none⟩), .slice (some ⟨b.go, 0, none⟩) s.tasks.length s.tasks.length, ev]
/-- the tasks of a kernel -/
structure TRow (w : World) (vt : Value) (ps : List (Tsk × Value)) : Prop where
  row : OwnL encT w 0 38 9 vt ps
  regs : ∀ p ∈ ps, RowI w 0 p.2 p.1.regs
def polL (s : TSet) (k : KS) : List (Int × Int) := (List.range s.tasks.length).map fun i => ((s.tk i).T, k.pol.getD i (-1))
structure KAt (b : KB) (B : Nat) (w : World) (s : TSet) (k : KS) (ev : Value) (os : List Ow) : Prop where
  box : Blk w b.gk (kcs b s k.t k.ran ev) 90
  tasks : TRow w b.vt b.ps
  eq : b.ps.map (·.1) = s.tasks
  pol : PolAt w b.gp b.vp (polL s k)
  cache : CacheAt w b.gc k.own
  tab : TabAt 117 w b.gt b.gs k.tab
  row : RowBk encOw w b.go 133 os
  rl : os.length = s.tasks.length
  jobs : ∀ i, i < s.tasks.length → ∀ g, (owAt os i).p = some g → JobAt w b.base g (k.jobs.getD i Jb.zero)
  sep : ∀ i j, i < s.tasks.length → j < s.tasks.length → i ≠ j → ∀ g, (owAt os i).p = some g → (owAt os j).p ≠ some g
  evs : OwnL encEv w B 43 4 ev k.evs
  loose : ∀ i, i < s.tasks.length → (stAt k.tab i).start = true → (owAt os i).load = k.load.getD i 0 ∧ (k.last ≠ i → (owAt os i).had = k.had.getD i 0)
  bas : b.base ≤ w.heap.size
/-- what belongs to it -/
def foot (b : KB) (os : List Ow) (ev : Value) (q : Nat) : Prop := q = b.gk ∨ q = b.gs ∨ q = b.gc ∨ q = b.go ∨ b.vp.ownBlock = some q ∨ ev.ownBlock = some q ∨ ∃ i, (owAt os i).p = some q
/-- what is changed is of these types -/
def FT (w : World) (F : Nat → Prop) (ts : List TypeId) : Prop := ∀ q, F q → ∃ t ∈ ts, ∃ cs, Blk w q cs t
theorem FT.no {w : World} {F : Nat → Prop} {ts : List TypeId} (h : FT w F ts) {g : Nat} {t : TypeId} {cs : Array Value} (hB : Blk w g cs t) (ht : ts.contains t = false) : ¬ F g := fun hF => by
  obtain ⟨t', ht', cs', hB'⟩ := h g hF
  obtain ⟨e, _⟩ := hB.type hB'
  subst e
  rw [List.contains_iff_mem.2 ht'] at ht
  cases ht
theorem FT.own {w : World} {F : Nat → Prop} {ts : List TypeId} (h : FT w F ts) {α : Type} {enc : α → List Value} {base size : Nat} {t : TypeId} {v : Value} {xs : List α} (hO : OwnL enc w base t size v xs) (ht : ts.contains t = false) : ∀ k, v.ownBlock = some k → ¬ F k := fun k hk => by
  obtain ⟨cs, hB⟩ := hO.block hk
  exact h.no hB ht
theorem FT.one {w : World} {g : Nat} {t : TypeId} {cs : Array Value} (hB : Blk w g cs t) : FT w (fun q => q = g) [t] := fun q e => ⟨t, by simp, cs, by rw [e]; exact hB⟩
section
variable {b : KB} {B : Nat} {w w' : World} {s : TSet} {k : KS} {ev : Value} {os : List Ow} {F : Nat → Prop} {ts : List TypeId}
theorem TRow.chg (h : TRow w b.vt b.ps) (hc : Chg F w w') (hF : FT w F ts) (h1 : ts.contains 38 = false) (h2 : ts.contains 2 = false) : TRow w' b.vt b.ps :=
  ⟨h.row.chg hc (hF.own h.row h1), fun p hp => OwnL.chg (h.regs p hp) hc (hF.own (h.regs p hp) h2)⟩
theorem KAt.kTasks (h : KAt b B w s k ev os) (hc : Chg F w w') (hF : FT w F ts) (h1 : ts.contains 38 = false) (h2 : ts.contains 2 = false) : TRow w' b.vt b.ps := h.tasks.chg hc hF h1 h2
theorem KAt.kBox (h : KAt b B w s k ev os) (hc : Chg F w w') (hF : FT w F ts) (h1 : ts.contains 90 = false) : Blk w' b.gk (kcs b s k.t k.ran ev) 90 := h.box.chg hc (hF.no h.box h1)
theorem KAt.kPol (h : KAt b B w s k ev os) (hc : Chg F w w') (hF : FT w F ts) (h1 : ts.contains 122 = false) (h2 : ts.contains 124 = false) : PolAt w' b.gp b.vp (polL s k) := h.pol.chg hc (hF.no h.pol.box h1) (hF.own h.pol.row h2)
theorem KAt.kCache (h : KAt b B w s k ev os) (hc : Chg F w w') (hF : FT w F ts) (h1 : ts.contains 115 = false) : CacheAt w' b.gc k.own := h.cache.chg hc (hF.no h.cache.box h1)
theorem KAt.kTab (h : KAt b B w s k ev os) (hc : Chg F w w') (hF : FT w F ts) (h1 : ts.contains 117 = false) (h2 : ts.contains 105 = false) : TabAt 117 w' b.gt b.gs k.tab := h.tab.chg hc (hF.no h.tab.box h1) (hF.no h.tab.row h2)
theorem KAt.kRow (h : KAt b B w s k ev os) (hc : Chg F w w') (hF : FT w F ts) (h1 : ts.contains 133 = false) : RowBk encOw w' b.go 133 os := h.row.chg hc (hF.no h.row h1)
theorem JobAt.blk {base g : Nat} {j : Jb} (h : JobAt w base g j) : ∃ cs, Blk w g cs 167 := by
  obtain ⟨vr, vd, tk, h⟩ := h
  exact ⟨_, h.box⟩
theorem KAt.kJobs (h : KAt b B w s k ev os) (hc : Chg F w w') (hF : FT w F ts) (h1 : ts.contains 167 = false) (h2 : ts.contains 2 = false) : ∀ i, i < s.tasks.length → ∀ g, (owAt os i).p = some g → JobAt w' b.base g (k.jobs.getD i Jb.zero) := fun i hi g hg => by
  have hJ := h.jobs i hi g hg
  obtain ⟨cs, hB⟩ := hJ.blk
  exact hJ.chg hc (hF.no hB h1) (fun q cs _ hq => hF.no hq h2)
theorem KAt.kEvs (h : KAt b B w s k ev os) (hc : Chg F w w') (hF : FT w F ts) (h1 : ts.contains 43 = false) : OwnL encEv w' B 43 4 ev k.evs := h.evs.chg hc (hF.own h.evs h1)
theorem KAt.ext (h : KAt b B w s k ev os) (hx : Ext w w') : KAt b B w' s k ev os := by
  have hc : Chg (fun _ => False) w w' := Chg.of_ext hx
  have hF : FT w (fun _ => False) [] := fun _ f => f.elim
  exact { h with
    box := h.kBox hc hF rfl, tasks := h.kTasks hc hF rfl rfl, pol := h.kPol hc hF rfl rfl, cache := h.kCache hc hF rfl, tab := h.kTab hc hF rfl rfl, row := h.kRow hc hF rfl, jobs := h.kJobs hc hF rfl rfl, bas := Nat.le_trans h.bas hc.size, evs := h.kEvs hc hF rfl }
/-- one event more -/
theorem KAt.tell {ev' : Value} (h : KAt b B w s k ev os) {a c d : Int} (hc : Chg (fun q => q = b.gk ∨ ev.ownBlock = some q) w w') (hB : Blk w' b.gk (kcs b s k.t k.ran ev') 90) (hO : OwnL encEv w' B 43 4 ev' (k.evs ++ [⟨k.t, a, c, d⟩])) : KAt b B w' s (k.tell a c d) ev' os := by
  have hF : FT w (fun q => q = b.gk ∨ ev.ownBlock = some q) [90, 43] := fun q hq => by
    rcases hq with rfl | hq
    · exact ⟨_, by simp, _, h.box⟩
    · obtain ⟨cs, hB⟩ := h.evs.block hq
      exact ⟨_, by simp, _, hB⟩
  exact { h with
    box := hB, tasks := h.kTasks hc hF rfl rfl, pol := h.kPol hc hF rfl rfl, cache := h.kCache hc hF rfl, tab := h.kTab hc hF rfl rfl, row := h.kRow hc hF rfl, jobs := h.kJobs hc hF rfl rfl, bas := Nat.le_trans h.bas hc.size, evs := hO }
end
/-- from one state to the next -/
structure Stp (b : KB) (B : Nat) (s : TSet) (w : World) (ev : Value) (os : List Ow) (w' : World) (k' : KS) (ev' : Value) (os' : List Ow) : Prop where
  at' : KAt b B w' s k' ev' os'
  chg : Chg (foot b os ev) w w'
  foot : ∀ q, foot b os' ev' q → foot b os ev q ∨ w.heap.size ≤ q
theorem Stp.refl {b : KB} {B : Nat} {s : TSet} {w : World} {k : KS} {ev : Value} {os : List Ow} (h : KAt b B w s k ev os) : Stp b B s w ev os w k ev os := ⟨h, Chg.refl _ _, fun q hq => .inl hq⟩
theorem Stp.trans {b : KB} {B : Nat} {s : TSet} {w w1 w2 : World} {k1 k2 : KS} {ev ev1 ev2 : Value} {os os1 os2 : List Ow} (h : Stp b B s w ev os w1 k1 ev1 os1) (h2 : Stp b B s w1 ev1 os1 w2 k2 ev2 os2) : Stp b B s w ev os w2 k2 ev2 os2 := by
  refine ⟨h2.at', h.chg.andThen h2.chg (fun q hq hf => ?_), fun q hq => ?_⟩
  · rcases h.foot q hf with hf | hf
    · exact hf
    · omega
  · have := h.chg.size
    rcases h2.foot q hq with hf | hf
    · exact h.foot q hf
    · exact .inr (by omega)
theorem Stp.state {b : KB} {B : Nat} {s : TSet} {w w1 : World} {k1 k2 : KS} {ev ev1 : Value} {os os1 : List Ow} (h : Stp b B s w ev os w1 k1 ev1 os1) (e : k1 = k2) : Stp b B s w ev os w1 k2 ev1 os1 := e ▸ h
theorem Stp.ext {b : KB} {B : Nat} {s : TSet} {w w1 w2 : World} {k1 : KS} {ev ev1 : Value} {os os1 : List Ow} (h : Stp b B s w ev os w1 k1 ev1 os1) (hx : Ext w1 w2) : Stp b B s w ev os w2 k1 ev1 os1 :=
  ⟨h.at'.ext hx, h.chg.ext hx, h.foot⟩
/-- the blocks L are as they were -/
def Same (L : Nat → Prop) (w w' : World) : Prop := ∀ q, L q → w'.heap[q]? = w.heap[q]?
theorem Same.trans {L : Nat → Prop} {w w1 w2 : World} (h : Same L w w1) (h2 : Same L w1 w2) : Same L w w2 := fun q hq => (h2 q hq).trans (h q hq)
theorem Same.of_ext {L : Nat → Prop} {w w' : World} (hL : ∀ q, L q → q < w.heap.size) (hx : Ext w w') : Same L w w' := fun q hq => hx.below.block q (hL q hq)
theorem Stp.same {b : KB} {B : Nat} {s : TSet} {w w1 : World} {k1 : KS} {ev ev1 : Value} {os os1 : List Ow} {L : Nat → Prop} (h : Stp b B s w ev os w1 k1 ev1 os1) (hL : ∀ q, L q → q < w.heap.size) (hf : ∀ q, Go.Proofs.YtniejidekflmiaaGreatDoor.foot b os ev q → ¬ L q) : Same L w w1 := fun q hq => h.chg.block q (hL q hq) (fun f => hf q f hq)
theorem Stp.low {b : KB} {B : Nat} {s : TSet} {w w1 : World} {k1 : KS} {ev ev1 : Value} {os os1 : List Ow} {L : Nat → Prop} (h : Stp b B s w ev os w1 k1 ev1 os1) (hL : ∀ q, L q → q < w.heap.size) (hf : ∀ q, Go.Proofs.YtniejidekflmiaaGreatDoor.foot b os ev q → ¬ L q) : ∀ q, Go.Proofs.YtniejidekflmiaaGreatDoor.foot b os1 ev1 q → ¬ L q := fun q hq hl => by
  rcases h.foot q hq with h1 | h1
  · exact hf q h1 hl
  · have := hL q hl; omega
/-- the types of what belongs to a kernel -/
def footTs : List TypeId := [90, 105, 115, 133, 124, 43, 167]
theorem KAt.footT {b : KB} {B : Nat} {w : World} {s : TSet} {k : KS} {ev : Value} {os : List Ow} (h : KAt b B w s k ev os) : FT w (Go.Proofs.YtniejidekflmiaaGreatDoor.foot b os ev) footTs := fun q hq => by
  rcases hq with rfl | rfl | rfl | rfl | hq | hq | ⟨i, hq⟩
  · exact ⟨_, by simp [footTs], _, h.box⟩
  · exact ⟨105, by simp [footTs], _, h.tab.row⟩
  · exact ⟨_, by simp [footTs], _, h.cache.box⟩
  · exact ⟨133, by simp [footTs], _, h.row⟩
  · obtain ⟨cs, hB⟩ := h.pol.row.block hq
    exact ⟨_, by simp [footTs], _, hB⟩
  · obtain ⟨cs, hB⟩ := h.evs.block hq
    exact ⟨_, by simp [footTs], _, hB⟩
  · by_cases hi : i < s.tasks.length
    · obtain ⟨cs, hB⟩ := (h.jobs i hi q hq).blk
      exact ⟨_, by simp [footTs], _, hB⟩
    · have : owAt os i = Ow.zero := by
        unfold owAt
        simp [List.getD, List.getElem?_eq_none (show os.length ≤ i by have := h.rl; omega)]
      rw [this] at hq
      cases hq
/-- each pending task has a job -/
def HasP (s : TSet) (k : KS) (os : List Ow) : Prop := ∀ i, i < s.tasks.length → (stAt k.tab i).pend = true → (∃ g, (owAt os i).p = some g) ∧ ((stAt k.tab i).start = false → (owAt os i).load = 0)
section
variable {b : KB} {B : Nat} {w w' : World} {s : TSet} {k : KS} {ev : Value} {os : List Ow}
/-- the states have changed -/
theorem KAt.setTab (h : KAt b B w s k ev os) {tab : List St} (hc : Chg (fun q => q = b.gs) w w') (hT : TabAt 117 w' b.gt b.gs tab) (hl : ∀ i, i < s.tasks.length → (stAt tab i).start = true → (owAt os i).load = k.load.getD i 0 ∧ (k.last ≠ i → (owAt os i).had = k.had.getD i 0)) : KAt b B w' s { k with tab := tab } ev os := by
  have hF := FT.one (w := w) (show Blk w b.gs _ 105 from h.tab.row)
  exact { h with
    box := h.kBox hc hF rfl, tasks := h.kTasks hc hF rfl rfl, pol := h.kPol hc hF rfl rfl, cache := h.kCache hc hF rfl, tab := hT, row := h.kRow hc hF rfl, jobs := h.kJobs hc hF rfl rfl, bas := Nat.le_trans h.bas hc.size, evs := h.kEvs hc hF rfl, loose := hl }
theorem KAt.setPol (h : KAt b B w s k ev os) {pol : List Int} (hc : Chg (fun q => b.vp.ownBlock = some q) w w') (hT : PolAt w' b.gp b.vp (polL s { k with pol := pol })) : KAt b B w' s { k with pol := pol } ev os := by
  have hF : FT w (fun q => b.vp.ownBlock = some q) [124] := fun q hq => by
    obtain ⟨cs, hB⟩ := h.pol.row.block hq
    exact ⟨_, by simp, _, hB⟩
  exact { h with
    box := h.kBox hc hF rfl, tasks := h.kTasks hc hF rfl rfl, pol := hT, cache := h.kCache hc hF rfl, tab := h.kTab hc hF rfl rfl, row := h.kRow hc hF rfl, jobs := h.kJobs hc hF rfl rfl, bas := Nat.le_trans h.bas hc.size, evs := h.kEvs hc hF rfl }
theorem KAt.setCache (h : KAt b B w s k ev os) {own : List Int} (hc : Chg (fun q => q = b.gc) w w') (hT : CacheAt w' b.gc own) : KAt b B w' s { k with own := own } ev os := by
  have hF := FT.one (w := w) h.cache.box
  exact { h with
    box := h.kBox hc hF rfl, tasks := h.kTasks hc hF rfl rfl, pol := h.kPol hc hF rfl rfl, cache := hT, tab := h.kTab hc hF rfl rfl, row := h.kRow hc hF rfl, jobs := h.kJobs hc hF rfl rfl, bas := Nat.le_trans h.bas hc.size, evs := h.kEvs hc hF rfl }
/-- who ran last, by the model -/
theorem KAt.setLast (h : KAt b B w s k ev os) (l : Int) (hl : ∀ i, i < s.tasks.length → (stAt k.tab i).start = true → l ≠ i → (owAt os i).had = k.had.getD i 0) : KAt b B w s { k with last := l } ev os :=
  { h with loose := fun i hi hst => ⟨(h.loose i hi hst).1, hl i hi hst⟩ }
/-- a row of the kernel's own is written; its job stays -/
theorem KAt.setRow (h : KAt b B w s k ev os) {os' : List Ow} {had : List Nat} {load : List Int} (hc : Chg (fun q => q = b.go) w w') (hT : RowBk encOw w' b.go 133 os') (hlen : os'.length = os.length) (hp : ∀ i, (owAt os' i).p = (owAt os i).p)
    (hl : ∀ i, i < s.tasks.length → (stAt k.tab i).start = true → (owAt os' i).load = load.getD i 0 ∧ (k.last ≠ i → (owAt os' i).had = had.getD i 0)) : KAt b B w' s { k with had := had, load := load } ev os' := by
  have hF := FT.one (w := w) (show Blk w b.go _ 133 from h.row)
  exact { h with
    box := h.kBox hc hF rfl, tasks := h.kTasks hc hF rfl rfl, pol := h.kPol hc hF rfl rfl, cache := h.kCache hc hF rfl, tab := h.kTab hc hF rfl rfl, row := hT, rl := hlen.trans h.rl
    jobs := fun i hi g hg => h.kJobs hc hF rfl rfl i hi g (by rw [← hp]; exact hg)
    sep := fun i j hi hj hne g hg => by rw [hp]; exact h.sep i j hi hj hne g (by rw [← hp]; exact hg)
    evs := h.kEvs hc hF rfl, loose := hl, bas := Nat.le_trans h.bas hc.size }
/-- a job goes on -/
theorem KAt.setJob (h : KAt b B w s k ev os) {m g : Nat} {x : Jb} (hm : m < s.tasks.length) (hj : k.jobs.length = s.tasks.length) (hg : (owAt os m).p = some g) (hc : Chg (fun q => q = g) w w') (hT : JobAt w' b.base g x) : KAt b B w' s { k with jobs := k.jobs.set m x } ev os := by
  obtain ⟨cs, hB⟩ := (h.jobs m hm g hg).blk
  have hF := FT.one hB
  exact { h with
    box := h.kBox hc hF rfl, tasks := h.kTasks hc hF rfl rfl, pol := h.kPol hc hF rfl rfl, cache := h.kCache hc hF rfl, tab := h.kTab hc hF rfl rfl, row := h.kRow hc hF rfl
    jobs := fun i hi g' hg' => by
      dsimp only
      by_cases e : m = i
      · subst e
        rw [hg] at hg'
        obtain rfl := Option.some.inj hg'
        rw [getD_set (by omega), if_pos rfl]
        exact hT
      · rw [getD_set (by omega), if_neg e]
        refine (h.jobs i hi g' hg').chg hc (fun e' => ?_) (fun q cs _ hq => hF.no hq rfl)
        subst e'
        exact h.sep m i hm hi e g' hg hg'
    evs := h.kEvs hc hF rfl, bas := Nat.le_trans h.bas hc.size }
end
/-- notes -/
theorem notes_any (b : KB) (B : Nat) (s : TSet) (k : KS) (ev : Value) (os : List Ow) (kind task n : Int) (w : World) (h : KAt b B w s k ev os) (hl : k.evs.length ≤ 1000) (hB : B ≤ w.heap.size) :
    Calls Tryz.prog 40 #[.pointer (some ⟨b.gk, 0, none⟩), .int .i64 kind, .int .i64 task, .int .i64 n] w fun e w' => e = .returned (.tuple #[]) ∧ ∃ ev', Stp b B s w ev os w' (k.tell kind task n) ev' os := by
  refine (notes_ker B b.gk _ _ _ _ _ _ _ ev k.t kind task n k.evs w h.box h.evs hl hB).mono ?_
  rintro e w' ⟨rfl, ⟨ev', hB', hO, hl'⟩, hc⟩
  refine ⟨rfl, ev', h.tell hc hB' hO, hc.to (fun i _ hi => ?_), fun q hq => ?_⟩
  · rcases hi with rfl | hi
    · exact .inl rfl
    · exact .inr (.inr (.inr (.inr (.inr (.inl hi)))))
  · rcases hq with h | h | h | h | h | h | h
    · exact .inl (.inl h)
    · exact .inl (.inr (.inl h))
    · exact .inl (.inr (.inr (.inl h)))
    · exact .inl (.inr (.inr (.inr (.inl h))))
    · exact .inl (.inr (.inr (.inr (.inr (.inl h)))))
    · rcases hl' q h with h | h
      · exact .inl (.inr (.inr (.inr (.inr (.inr (.inl h))))))
      · exact .inr h
    · exact .inl (.inr (.inr (.inr (.inr (.inr (.inr h))))))
end Go.Proofs.YtniejidekflmiaaGreatDoor
